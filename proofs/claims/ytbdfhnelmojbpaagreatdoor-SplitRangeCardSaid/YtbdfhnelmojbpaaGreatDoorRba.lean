/- Package slices: Clone; package split: parted. -/
import Derived.Test.YtbdfhnelmojbpaaGreatDoorRaz
import Derived.Test.YtbdfhnelmojbpaaGreatDoorRay
import Derived.Lib.SliceRun
set_option linter.unusedVariables false
set_option linter.unusedSimpArgs false
section
namespace Vic
open Go Go.RowKit
def NilOr {α:Type}(v:Value) (l:List α):Prop:=v=.slice none 0 0∨0<l.length
theorem fl_cells {α:Type}{enc:α→List Value}{size:Nat}(he:∀ x,(enc x).length=size) (hs:0<size) (l:List α) (P:Nat→Value→Prop) (h:∀ (i:Nat) x (k:Nat) u,l[i]?=some x→(enc x)[k]?=some u→P (i*size+k) u):∀ (j:Nat) u,(l.flatMap enc)[j]?=some u→P j u:=by
 intro j u hj
 have hlen:j<l.length*size:=by
  have:=(List.getElem?_eq_some_iff.1 hj).1
  rwa [fl_len he]at this
 have hi:j / size<l.length:=Nat.div_lt_of_lt_mul (by rwa [Nat.mul_comm]at hlen)
 have hk:j % size<size:=Nat.mod_lt _ hs
 have e:j / size*size+j % size=j:=by rw[Nat.mul_comm];exact Nat.div_add_mod j size
 have hx:l[j / size]?=some l[j / size]:=List.getElem?_eq_getElem hi
 have hg:=fl_get he hx hk
 rw[e,hj]at hg
 rw[← e]
 exact h _ _ _ _ hx hg.symm
theorem cs_cells {w:World}{g o n c:Nat}{cs:List CoefM}(h:CsIn w (.slice (some ⟨g,o,none⟩) n c) cs):∀ (j:Nat) u,(cs.flatMap encCf)[j]?=some u→w.cell? ⟨g,o+j,none⟩=some u:=by
 obtain ⟨A',c',e,_,h3⟩:=h
 injection e with e1 _ _
 subst e1
 refine fl_cells encCf_len (by omega) cs (fun j u=>w.cell? ⟨g,o+j,none⟩=some u) fun i x k u hx hu=>?_
 obtain ⟨g',o',e,h0,h1⟩:=h3 i x hx
 injection e with e
 injection e with e4 e5
 subst e4;subst e5
 rcases k with _|_|k
 ·simp[encCf]at hu;subst hu;simpa using h0
 ·simp[encCf]at hu;subst hu;rw[show o+(i*2+1)=o+i*2+1 by omega];exact h1
 ·simp[encCf]at hu
theorem cols_cells {w:World}{g o n c:Nat}{cs:List ColM}(h:ColsIn w (.slice (some ⟨g,o,none⟩) n c) cs):∀ (j:Nat) u,(cs.flatMap encCol)[j]?=some u→w.cell? ⟨g,o+j,none⟩=some u:=by
 obtain ⟨A',c',e,_,h3⟩:=h
 injection e with e1 _ _
 subst e1
 refine fl_cells encCol_len (by omega) cs (fun j u=>w.cell? ⟨g,o+j,none⟩=some u) fun i x k u hx hu=>?_
 obtain ⟨g',o',e,h0,h1,h2,h3',h4⟩:=h3 i x hx
 injection e with e
 injection e with e4 e5
 subst e4;subst e5
 rw[← Nat.add_assoc]
 rcases k with _|_|_|_|_|k<;>simp[encCol]at hu<;>subst hu
 ·exact h0
 ·exact h1
 ·exact h2
 ·exact h3'
 ·exact h4
end Vic
namespace Go.Proofs.YtbdfhnelmojbpaaGreatDoor
open Go.RowKit Vic
theorem info_Cf0:(Tryz.prog.info? 24).map (fun i=>(i.zero,i.size,i.bytes))=some (some (.agg #[.int .i64 0,.string ⟨#[]⟩]),2,24):=by kernel_rfl
theorem info_Cf:∃ i:TypeInfo,Tryz.prog.info? 24=some i∧i.zero=some (.agg #[.int .i64 0,.string ⟨#[]⟩])∧i.size=2∧i.bytes=24:=by
 have h:=info_Cf0
 cases hi:Tryz.prog.info? 24 with
 | none=>rw[hi]at h;simp at h
 | some i=>rw[hi]at h;simp at h;exact ⟨i,rfl,h.1,h.2.1,h.2.2⟩
theorem clone_none (w:World):Calls Tryz.prog 105 #[.slice none 0 0] w (fun e w'=>e=.returned (.slice none 0 0)∧w'=w):=by
 have heq:∀ W,(binOp .eql 25 (.slice none 0 0) (.slice none 0 0)).run Tryz.prog W=.ok (.bool true) W:=fun W=>by
  first|exact Lib.run_eql_slice_nil W _ _ _ _ _ _ _ Tryz.underlying25|kernel_rfl
 go_enter Tryz.func105,Tryz.ntmps105
 go_wp2_with fail
 go_ret
 exact ⟨rfl,rfl⟩
set_option maxRecDepth 100000 in
set_option maxHeartbeats 4000000 in
theorem clone_coefs (w:World) (g o c:Nat) (cs:List CoefM) (h:CsIn w (.slice (some ⟨g,o,none⟩) cs.length c) cs) (hn:0<cs.length) (hl:cs.length≤1000000000) :
 Calls Tryz.prog 105 #[.slice (some ⟨g,o,none⟩) cs.length c] w (fun e w'=>∃ v,e=.returned v∧Own w' w.heap.size 24 2 v cs.length (cs.flatMap encCf)∧Below w.heap.size w w'):=by
 obtain ⟨i1,hi1,hz1,hsz1,hby1⟩:=info_Cf
 have hcells:=cs_cells h
 have hnews:∀ (j:Nat) u,(cs.flatMap encCf)[j]?=some u→(w.alloc (.cells #[] 24)).cell? ((⟨g,o,none⟩:Addr).add j)=some u:=fun j u hj=>by
  rw[show (⟨g,o,none⟩:Addr).add j=⟨g,o+j,none⟩ by simp[Addr.add]]
  exact cell_keep (hcells j u hj) ((Below.refl _ _).alloc (Nat.le_refl _) (.cells #[] 24))
 have hem:Own (w.alloc (.cells #[] 24)) w.heap.size 24 2 (.slice (some ⟨w.heap.size,0,none⟩) 0 0) 0 []:=OwnK.empty (Row.new _ _ _) (Nat.le_refl _)
 have heq:∀ W,(binOp .eql 25 (.slice (some ⟨g,o,none⟩) cs.length c) (.slice none 0 0)).run Tryz.prog W=.ok (.bool false) W:=fun W=>Lib.run_eql_slice_nil W _ _ _ _ _ _ _ Tryz.underlying25
 have hlen:(cs.flatMap encCf).length=cs.length*2:=fl_len encCf_len cs
 have hone:∀ u∈cs.flatMap encCf,u.oneCell'=true:=fun u hu=>by
  obtain ⟨x,_,hx⟩:=List.mem_flatMap.1 hu
  simp[encCf]at hx
  rcases hx with rfl|rfl<;>rfl
 have HN:=Lib.hid hnews;have HE:=Lib.hid hem
 clear hnews hem h hcells
 go_enter Tryz.func105,Tryz.ntmps105
 go_wp2_with (at_builtin;refine wpList_append_ownK (Kd:=fun _=>True) rfl (.tmp 5) (.tmp 6) 25 rfl w.heap.size 24 i1 _ 2 Tryz.underlying25 hi1 hz1 hsz1 rfl (by omega) _ 0 [] rfl HE.out ⟨g,o,none⟩ cs.length c (cs.flatMap encCf) rfl hlen HN.out (by first|exact hone|simpa using hone) (by simp) (by simp) hn (by unfold maxLen;omega) (by rw[hby1];omega) (by simp) ?_;intro v6 w6 hown6 hgr6 hloc6)
 obtain ⟨g6,cap6,rfl⟩:=hown6.shape (by omega)
 go_wp2_with fail
 go_ret
 refine ⟨_,rfl,?_,?_⟩
 ·simpa using hown6
 ·have h1:Below w.heap.size w (w.alloc (.cells #[] 24)):=(Below.refl _ _).alloc (Nat.le_refl _) _
  exact ⟨hgr6.os.trans h1.os,hgr6.tape.trans h1.tape,hgr6.output.trans h1.output,Nat.le_trans h1.size hgr6.size,fun j hj=>(hgr6.block j (Nat.lt_of_lt_of_le hj h1.size) (fun e=>by
   have:=Option.some.inj e
   simp only at this
   omega)).trans (h1.block j hj)⟩
theorem info_Cl0:(Tryz.prog.info? 31).map (fun i=>(i.zero,i.size,i.bytes))=some (some (.agg #[.string ⟨#[]⟩,.string ⟨#[]⟩,.string ⟨#[]⟩,.string ⟨#[]⟩,.bool false]),5,72):=by kernel_rfl
theorem info_Cl:∃ i:TypeInfo,Tryz.prog.info? 31=some i∧i.zero=some (.agg #[.string ⟨#[]⟩,.string ⟨#[]⟩,.string ⟨#[]⟩,.string ⟨#[]⟩,.bool false])∧i.size=5∧i.bytes=72:=by
 have h:=info_Cl0
 cases hi:Tryz.prog.info? 31 with
 | none=>rw[hi]at h;simp at h
 | some i=>rw[hi]at h;simp at h;exact ⟨i,rfl,h.1,h.2.1,h.2.2⟩
set_option maxRecDepth 100000 in
set_option maxHeartbeats 4000000 in
theorem clone_cols (w:World) (g o c:Nat) (cs:List ColM) (h:ColsIn w (.slice (some ⟨g,o,none⟩) cs.length c) cs) (hn:0<cs.length) (hl:cs.length≤1000000000) :
 Calls Tryz.prog 32 #[.slice (some ⟨g,o,none⟩) cs.length c] w (fun e w'=>∃ v,e=.returned v∧Own w' w.heap.size 31 5 v cs.length (cs.flatMap encCol)∧Below w.heap.size w w'):=by
 obtain ⟨i1,hi1,hz1,hsz1,hby1⟩:=info_Cl
 have hcells:=cols_cells h
 have hnews:∀ (j:Nat) u,(cs.flatMap encCol)[j]?=some u→(w.alloc (.cells #[] 31)).cell? ((⟨g,o,none⟩:Addr).add j)=some u:=fun j u hj=>by
  rw[show (⟨g,o,none⟩:Addr).add j=⟨g,o+j,none⟩ by simp[Addr.add]]
  exact cell_keep (hcells j u hj) ((Below.refl _ _).alloc (Nat.le_refl _) (.cells #[] 31))
 have hem:Own (w.alloc (.cells #[] 31)) w.heap.size 31 5 (.slice (some ⟨w.heap.size,0,none⟩) 0 0) 0 []:=OwnK.empty (Row.new _ _ _) (Nat.le_refl _)
 have heq:∀ W,(binOp .eql 32 (.slice (some ⟨g,o,none⟩) cs.length c) (.slice none 0 0)).run Tryz.prog W=.ok (.bool false) W:=fun W=>Lib.run_eql_slice_nil W _ _ _ _ _ _ _ Tryz.underlying32
 have hlen:(cs.flatMap encCol).length=cs.length*5:=fl_len encCol_len cs
 have hone:∀ u∈cs.flatMap encCol,u.oneCell'=true:=fun u hu=>by
  obtain ⟨x,_,hx⟩:=List.mem_flatMap.1 hu
  simp[encCol]at hx
  rcases hx with rfl|rfl|rfl|rfl|rfl<;>rfl
 have HN:=Lib.hid hnews;have HE:=Lib.hid hem
 clear hnews hem h hcells
 go_enter Tryz.func32,Tryz.ntmps32
 go_wp2_with (at_builtin;refine wpList_append_ownK (Kd:=fun _=>True) rfl (.tmp 5) (.tmp 6) 32 rfl w.heap.size 31 i1 _ 5 Tryz.underlying32 hi1 hz1 hsz1 rfl (by omega) _ 0 [] rfl HE.out ⟨g,o,none⟩ cs.length c (cs.flatMap encCol) rfl hlen HN.out (by first|exact hone|simpa using hone) (by simp) (by simp) hn (by unfold maxLen;omega) (by rw[hby1];omega) (by simp) ?_;intro v6 w6 hown6 hgr6 hloc6)
 obtain ⟨g6,cap6,rfl⟩:=hown6.shape (by omega)
 go_wp2_with fail
 go_ret
 refine ⟨_,rfl,?_,?_⟩
 ·simpa using hown6
 ·have h1:Below w.heap.size w (w.alloc (.cells #[] 31)):=(Below.refl _ _).alloc (Nat.le_refl _) _
  exact ⟨hgr6.os.trans h1.os,hgr6.tape.trans h1.tape,hgr6.output.trans h1.output,Nat.le_trans h1.size hgr6.size,fun j hj=>(hgr6.block j (Nat.lt_of_lt_of_le hj h1.size) (fun e=>by
   have:=Option.some.inj e
   simp only at this
   omega)).trans (h1.block j hj)⟩
def Two_ (w:World) (B:Nat) (a b:Value) (x y:List CoefM):Prop:=OwnF w B 24 2 (fun _:Bool=>True) (fun i=>if i then b else a) (fun i=>if i then y.length else x.length) (fun i=>if i then y.flatMap encCf else x.flatMap encCf)
theorem Two_.fst {w w':World}{B:Nat}{a b a':Value}{x y:List CoefM}{z:CoefM}(h:Two_ w B a b x y) (ho:Own w' B 24 2 a' (x.length+1) (x.flatMap encCf ++ encCf z)) (hg:w.grownBy w' a.ownBlock) (hl:a'.ownBlock=a.ownBlock∨a'.ownBlock=some w.heap.size):Two_ w' B a' b (x ++ [z]) y:=by
 have:=OwnF.app h false trivial ho hg hl
 refine this.sub fun i _=>?_
 cases i<;>simp
theorem Two_.snd {w w':World}{B:Nat}{a b b':Value}{x y:List CoefM}{z:CoefM}(h:Two_ w B a b x y) (ho:Own w' B 24 2 b' (y.length+1) (y.flatMap encCf ++ encCf z)) (hg:w.grownBy w' b.ownBlock) (hl:b'.ownBlock=b.ownBlock∨b'.ownBlock=some w.heap.size):Two_ w' B a b' x (y ++ [z]):=by
 have:=OwnF.app h true trivial ho hg hl
 refine this.sub fun i _=>?_
 cases i<;>simp
theorem Two_.keep {w w':World}{B:Nat}{a b:Value}{x y:List CoefM}(h:Two_ w B a b x y) (hb:Below w.heap.size w w'):Two_ w' B a b x y:=OwnF.keep h hb
theorem Two_.nil (w:World) (B:Nat):Two_ w B (.slice none 0 0) (.slice none 0 0) [] []:=⟨fun i _=>by cases i<;>exact OwnK.nil_ _ _ _ _ _,fun i j g _ _ h1 _=>by cases i<;>cases h1⟩
theorem techM_snoc (l:List CoefM) (x:CoefM) (col:Int):techM (l ++ [x]) col=techM l col ++ (if x.1<col then [x]else []):=by
 unfold techM
 rw[List.filter_append]
 congr 1
 by_cases h:x.1<col<;>simp[h]
theorem ownM_snoc (l:List CoefM) (x:CoefM) (col:Int):ownM (l ++ [x]) col=ownM l col ++ (if x.1<col then []else [(x.1 - col,x.2)]):=by
 unfold ownM
 rw[List.filter_append,List.map_append]
 congr 1
 by_cases h:x.1<col<;>simp[h]
set_option maxRecDepth 100000 in
set_option maxHeartbeats 8000000 in
theorem split_parted (w:World) (v:Value) (cs:List CoefM) (col:Nat) (hv:CsIn w v cs) (hl:cs.length≤1000000) (hc:col≤1000000) (hb:∀ x∈cs,-9223372036854775808≤x.1∧x.1≤9223372036854775807) :
 Calls Tryz.prog 35 #[v,.int .i64 col] w (fun e w'=>∃ a b,e=.returned (.tuple #[a,b])∧Two_ w' w.heap.size a b (techM cs col) (ownM cs col)∧(NilOr a (techM cs col)∧NilOr b (ownM cs col))∧Below w.heap.size w w'):=by
 obtain ⟨A,c,rfl,hlc,hcell⟩:=hv
 have HC:=Lib.hid hcell
 have HB:=Lib.hid hb
 obtain ⟨i1,hi1,hz1,hsz1,hby1⟩:=info_Cf
 clear hcell hb
 go_enter Tryz.func35,Tryz.ntmps35
 go_wp2_with fail
 go_loopg [12,6,7] cs.length (fun g t av bv wr=>∃ k:Nat,t=.int .i64 k∧k+g=cs.length∧Hid (Two_ wr w.heap.size av bv (techM (cs.take k) col) (ownM (cs.take k) col))∧Hid (NilOr av (techM (cs.take k) col)∧NilOr bv (ownM (cs.take k) col))∧Hid (Below w.heap.size w wr))
 case atStart=>exact ⟨0,rfl,by omega,Lib.hid (Two_.nil _ _),Lib.hid ⟨.inl rfl,.inl rfl⟩,Lib.hid (Below.refl _ _)⟩
 case round=>
  obtain ⟨k,rfl,hk,HTW,HNO,HBR⟩:=hrel
  by_cases hlt:k<cs.length
  ·obtain ⟨x,hx⟩:∃ x,cs[k]?=some x:=⟨cs[k],by simp[hlt]⟩
   obtain ⟨g,o,rfl,hc1,hc2⟩:=HC.out k x hx
   have d1:=cell_keep hc1 HBR.out;have d2:=cell_keep hc2 HBR.out
   obtain ⟨hx1,hx2⟩:=HB.out x (List.mem_of_getElem? hx)
   have HTK:Hid (cs.take (k+1)=cs.take k ++ [x]):=Lib.hid (by rw[List.take_add_one,hx];rfl)
   have HK:=Lib.hid hk
   obtain ⟨i,s⟩:=x
   dsimp only at d1 d2 hx1 hx2
   obtain ⟨w1,hw1⟩:∃ X,X=wr.alloc (.cells #[.int .i64 i,.string ⟨s.toArray⟩] 24):=⟨_,rfl⟩
   have hb1:Below wr.heap.size wr w1:=by rw[hw1];exact (Below.refl _ _).alloc (Nat.le_refl _) _
   have hrow:Row w1 wr.heap.size 24 #[.int .i64 i,.string ⟨s.toArray⟩]:=by rw[hw1];exact Row.new _ _ _
   have v0:w1.cell? ⟨wr.heap.size,0,none⟩=some (.int .i64 i):=hrow.cell 0
   have v1:w1.cell? ⟨wr.heap.size,1,none⟩=some (.string ⟨s.toArray⟩):=hrow.cell 1
   have HB1:=Lib.hid (HBR.out.trans (hb1.mono HBR.out.size))
   have HTW1:=Lib.hid (HTW.out.keep hb1)
   have hlk:(techM (cs.take k) col).length≤cs.length∧(ownM (cs.take k) col).length≤cs.length:=by
    have h1:(cs.take k).length≤cs.length:=by rw[List.length_take];omega
    constructor
    ·exact Nat.le_trans (List.length_filter_le _ _) h1
    ·unfold ownM;rw[List.length_map];exact Nat.le_trans (List.length_filter_le _ _) h1
   obtain ⟨hl1,hl2⟩:=hlk
   obtain ⟨X,hX⟩:∃ X,X=techM (cs.take k) col:=⟨_,rfl⟩
   obtain ⟨Y,hY⟩:∃ Y,Y=ownM (cs.take k) col:=⟨_,rfl⟩
   have HX:Hid (techM (cs.take (k+1)) col=X ++ (if i<(col:Int)then [((i,s):CoefM)]else [])):=Lib.hid (by rw[HTK.out,techM_snoc,hX])
   have HY:Hid (ownM (cs.take (k+1)) col=Y ++ (if i<(col:Int)then []else [((i - (col:Int),s):CoefM)])):=Lib.hid (by rw[HTK.out,ownM_snoc,hY])
   rw[← hX,← hY]at HTW1 HNO
   rw[← hX]at hl1
   rw[← hY]at hl2
   clear hc1 hc2 hx hk hrow hb1 HTW HBR hX hY HTK
   go_upto_region 5 with fail
   rw[← hw1]
   clear hw1 d1 d2
   obtain ⟨bl,hbl⟩:∃ b,b=wr.heap.size:=⟨_,rfl⟩
   rw[← hbl]at v0 v1 ⊢
   clear hbl
   by_cases hlo:i<(col:Int)
   ·have hal:Below w1.heap.size w1 (w1.alloc (.cells #[.int .i64 i,.string ⟨s.toArray⟩] 24)):= (Below.refl _ _).alloc (Nat.le_refl _) _
    have hr2:Row (w1.alloc (.cells #[.int .i64 i,.string ⟨s.toArray⟩] 24)) w1.heap.size 24 #[.int .i64 i,.string ⟨s.toArray⟩]:=Row.new _ _ _
    have hnew:Hid (∀ (j:Nat) u,[.int .i64 i,.string ⟨s.toArray⟩][j]?=some u→(w1.alloc (.cells #[.int .i64 i,.string ⟨s.toArray⟩] 24)).cell? ((⟨w1.heap.size,0,none⟩:Addr).add j)=some u):=Lib.hid fun j u hj=>by
     rcases j with _|_|j
     ·cases hj;exact hr2.cell 0
     ·cases hj;exact hr2.cell 1
     ·simp at hj
    have HTW2:=Lib.hid (HTW1.out.keep hal)
    have hA:Hid (Own (w1.alloc (.cells #[.int .i64 i,.string ⟨s.toArray⟩] 24)) w.heap.size 24 2 u6 X.length (X.flatMap encCf)):=Lib.hid (by have:=HTW2.out.own false trivial;simpa using this)
    have hk1:w.heap.size≤(w1.alloc (.cells #[.int .i64 i,.string ⟨s.toArray⟩] 24)).heap.size:=Nat.le_trans HB1.out.size hal.size
    have HB2:=Lib.hid (HB1.out.trans (hal.mono HB1.out.size))
    clear hal hr2
    go_wp2_with (at_builtin;refine wpList_append_ownK (Kd:=fun _=>True) rfl (.tmp 20) (.tmp 22) 25 rfl w.heap.size 24 i1 _ 2 Tryz.underlying25 hi1 hz1 hsz1 rfl (by omega) _ X.length _ rfl hA.out ⟨w1.heap.size,0,none⟩ 1 1 [.int .i64 i,.string ⟨s.toArray⟩] rfl (by simp) hnew.out (by simp[Value.oneCell']) (by simp) (by simp) (by omega) (by unfold maxLen;omega) (by rw[hby1];omega) hk1 ?_;intro v6 w6 hown6 hgr6 hloc6;refine Hid.out ?_)
    have HT6:Hid (Two_ w6 w.heap.size v6 u7 (techM (cs.take (k+1)) col) (ownM (cs.take (k+1)) col)):=Lib.hid (by rw[HX.out,HY.out,if_pos hlo,if_pos hlo,List.append_nil];exact HTW2.out.fst (z:=(i,s)) (by simpa [encCf]using hown6) hgr6 hloc6)
    have HN6:Hid (NilOr v6 (techM (cs.take (k+1)) col)∧NilOr u7 (ownM (cs.take (k+1)) col)):=Lib.hid (by rw[HX.out,HY.out,if_pos hlo,if_pos hlo,List.append_nil];exact ⟨.inr (by simp),HNO.out.2⟩)
    have HB6:=Lib.hid (HB2.out.grown hgr6 hk1 fun j hj=>(hA.out.lt hj).1)
    refine Lib.hid ?_
    clear hown6 hgr6 hloc6 hnew hk1 hA HTW2
    go_wp2_with fail
    go_roundg (gk - 1)
    case measure=>have:=HK.out;omega
    case rel=>exact ⟨k+1,by go_num,by have:=HK.out;omega,HT6,HN6,HB6⟩
   ·have hal:Below w1.heap.size w1 (w1.alloc (.cells #[.int .i64 (i - (col:Int)),.string ⟨s.toArray⟩] 24)):= (Below.refl _ _).alloc (Nat.le_refl _) _
    have hr2:Row (w1.alloc (.cells #[.int .i64 (i - (col:Int)),.string ⟨s.toArray⟩] 24)) w1.heap.size 24 #[.int .i64 (i - (col:Int)),.string ⟨s.toArray⟩]:=Row.new _ _ _
    have hnew:Hid (∀ (j:Nat) u,[.int .i64 (i - (col:Int)),.string ⟨s.toArray⟩][j]?=some u→(w1.alloc (.cells #[.int .i64 (i - (col:Int)),.string ⟨s.toArray⟩] 24)).cell? ((⟨w1.heap.size,0,none⟩:Addr).add j)=some u):=Lib.hid fun j u hj=>by
     rcases j with _|_|j
     ·cases hj;exact hr2.cell 0
     ·cases hj;exact hr2.cell 1
     ·simp at hj
    have HTW2:=Lib.hid (HTW1.out.keep hal)
    have hA:Hid (Own (w1.alloc (.cells #[.int .i64 (i - (col:Int)),.string ⟨s.toArray⟩] 24)) w.heap.size 24 2 u7 Y.length (Y.flatMap encCf)):=Lib.hid (by have:=HTW2.out.own true trivial;simpa using this)
    have hk1:w.heap.size≤(w1.alloc (.cells #[.int .i64 (i - (col:Int)),.string ⟨s.toArray⟩] 24)).heap.size:=Nat.le_trans HB1.out.size hal.size
    have HB2:=Lib.hid (HB1.out.trans (hal.mono HB1.out.size))
    clear hal hr2
    go_wp2_with (at_builtin;refine wpList_append_ownK (Kd:=fun _=>True) rfl (.tmp 24) (.tmp 32) 25 rfl w.heap.size 24 i1 _ 2 Tryz.underlying25 hi1 hz1 hsz1 rfl (by omega) _ Y.length _ rfl hA.out ⟨w1.heap.size,0,none⟩ 1 1 [.int .i64 (i - (col:Int)),.string ⟨s.toArray⟩] rfl (by simp) hnew.out (by simp[Value.oneCell']) (by simp) (by simp) (by omega) (by unfold maxLen;omega) (by rw[hby1];omega) hk1 ?_;intro v6 w6 hown6 hgr6 hloc6;refine Hid.out ?_)
    have HT6:Hid (Two_ w6 w.heap.size u6 v6 (techM (cs.take (k+1)) col) (ownM (cs.take (k+1)) col)):=Lib.hid (by rw[HX.out,HY.out,if_neg (by omega),if_neg (by omega),List.append_nil];exact HTW2.out.snd (z:=(i - (col:Int),s)) (by simpa [encCf]using hown6) hgr6 hloc6)
    have HN6:Hid (NilOr u6 (techM (cs.take (k+1)) col)∧NilOr v6 (ownM (cs.take (k+1)) col)):=Lib.hid (by rw[HX.out,HY.out,if_neg (by omega),if_neg (by omega),List.append_nil];exact ⟨HNO.out.1,.inr (by simp)⟩)
    have HB6:=Lib.hid (HB2.out.grown hgr6 hk1 fun j hj=>(hA.out.lt hj).1)
    refine Lib.hid ?_
    clear hown6 hgr6 hloc6 hnew hk1 hA HTW2
    go_wp2_with fail
    go_roundg (gk - 1)
    case measure=>have:=HK.out;omega
    case rel=>exact ⟨k+1,by go_num,by have:=HK.out;omega,HT6,HN6,HB6⟩
  ·obtain rfl:k=cs.length:=by omega
   rw[List.take_length]at HTW HNO
   clear hk
   go_wp2_with fail
   go_ret2
   exact ⟨_,_,rfl,HTW.out,HNO.out,HBR.out⟩
end Go.Proofs.YtbdfhnelmojbpaaGreatDoor
end
section
namespace Go.Proofs.YtbdfhnelmojbpaaGreatDoor
open Go.RowKit Vic
def Clonable (w:World) (v:Value) (cs:List CoefM):Prop:=CsIn w v cs∧(v=.slice none 0 0∨0<cs.length)
theorem clone_any (w:World) (v:Value) (cs:List CoefM) (h:Clonable w v cs) (hl:cs.length≤1000000000) :
 Calls Tryz.prog 105 #[v] w (fun e w'=>∃ v',e=.returned v'∧Own w' w.heap.size 24 2 v' cs.length (cs.flatMap encCf)∧Below w.heap.size w w'∧(∃ A n c,v'=.slice A n c)):=by
 obtain ⟨h1,h2⟩:=h
 obtain ⟨A,c,rfl,h3,h4⟩:=id h1
 rcases h2 with h2|h2
 ·injection h2 with _ e2 _
  have hn:cs.length=0:=e2
  obtain rfl:cs = []:=List.eq_nil_of_length_eq_zero hn
  have hA:A=none∧c=0:=by
   rename_i e1 e3
   exact ⟨e1,e3⟩
  obtain ⟨rfl,rfl⟩:=hA
  refine (clone_none w).mono ?_
  rintro e w' ⟨rfl,rfl⟩
  exact ⟨_,rfl,OwnK.nil_ _ _ _ _ _,Below.refl _ _,_,_,_,rfl⟩
 ·obtain ⟨g,o,rfl⟩:=SlIn.some_ h1 h2
  refine (clone_coefs w g o c cs h1 h2 hl).mono ?_
  rintro e w' ⟨v',rfl,ho,hb⟩
  obtain ⟨A',c',rfl,_⟩:=ho.sl
  exact ⟨_,rfl,ho,hb,_,_,_,rfl⟩
theorem und_Row_sz:(Tryz.prog.info? 28).map (·.size)=some 5:=by kernel_rfl
set_option maxRecDepth 100000 in
set_option maxHeartbeats 8000000 in
theorem split_copied (w:World) (name rhs range:Txt) (kind:Int) (A0:Option Addr) (n0 c0:Nat) (v:Value) (cs:List CoefM) (h:Clonable w v cs) (hl:cs.length≤1000000000) :
 Calls Tryz.prog 34 #[.agg #[.string ⟨name.toArray⟩,.int .i64 kind,.slice A0 n0 c0,.string ⟨rhs.toArray⟩,.string ⟨range.toArray⟩],v] w (fun e w'=>∃ cv,e=.returned (.agg #[.string ⟨name.toArray⟩,.int .i64 kind,cv,.string ⟨rhs.toArray⟩,.string ⟨range.toArray⟩])∧Own w' w.heap.size 24 2 cv cs.length (cs.flatMap encCf)∧Below w.heap.size w w'∧(∃ A n c,cv=.slice A n c)):=by
 obtain ⟨w1,hw1⟩:∃ X,X=(w.alloc (.cells #[.string ⟨name.toArray⟩,.int .i64 kind,.slice A0 n0 c0,.string ⟨rhs.toArray⟩,.string ⟨range.toArray⟩] 28)).alloc (.cells #[.string ⟨#[]⟩,.int .i64 0,.slice none 0 0,.string ⟨#[]⟩,.string ⟨#[]⟩] 28):=⟨_,rfl⟩
 have hb1:Below w.heap.size w w1:=by rw[hw1];exact ((Below.refl _ _).alloc (Nat.le_refl _) _).alloc (by simp) _
 have r1:=(Row.new w 28 #[.string ⟨name.toArray⟩,.int .i64 kind,.slice A0 n0 c0,.string ⟨rhs.toArray⟩,.string ⟨range.toArray⟩]).alloc (.cells #[.string ⟨#[]⟩,.int .i64 0,.slice none 0 0,.string ⟨#[]⟩,.string ⟨#[]⟩] 28)
 rw[← hw1]at r1
 have r2:Row w1 (w.heap.size+1) 28 #[.string ⟨#[]⟩,.int .i64 0,.slice none 0 0,.string ⟨#[]⟩,.string ⟨#[]⟩]:=by
  have:=Row.new (w.alloc (.cells #[.string ⟨name.toArray⟩,.int .i64 kind,.slice A0 n0 c0,.string ⟨rhs.toArray⟩,.string ⟨range.toArray⟩] 28)) 28 #[.string ⟨#[]⟩,.int .i64 0,.slice none 0 0,.string ⟨#[]⟩,.string ⟨#[]⟩]
  rw[World.size_alloc,← hw1]at this
  exact this
 have hsz1:w1.heap.size=w.heap.size+2:=by rw[hw1];simp
 have CC:=Lib.hid (clone_any w1 v cs ⟨h.1.keep CoefR.firm hb1,h.2⟩ hl)
 have HB1:=Lib.hid hb1;have R1:=Lib.hid r1;have R2:=Lib.hid r2
 clear hb1 r1 r2 h
 go_enter Tryz.func34,Tryz.ntmps34
 go_upto_region 1 with fail
 try rw[← hw1]
 clear hw1
 go_wp2_with fail
 refine CC.out.mono ?_
 rintro e w2 ⟨cv,rfl,ho,hb2,A,n,c,rfl⟩
 have q1:=R1.out.keep hb2
 have q2:=R2.out.keep hb2
 obtain ⟨b,hb⟩:∃ b,b=w.heap.size:=⟨_,rfl⟩
 rw[← hb]at q1 q2
 have a0:w2.cell? ⟨b,0,none⟩=some (.string ⟨name.toArray⟩):=q1.cell 0
 have a1:w2.cell? ⟨b,1,none⟩=some (.int .i64 kind):=q1.cell 1
 have a2:w2.cell? ⟨b,2,none⟩=some (.slice A0 n0 c0):=q1.cell 2
 have a3:w2.cell? ⟨b,3,none⟩=some (.string ⟨rhs.toArray⟩):=q1.cell 3
 have a4:w2.cell? ⟨b,4,none⟩=some (.string ⟨range.toArray⟩):=q1.cell 4
 have z0:w2.cell? ⟨b+1,0,none⟩=some (.string ⟨#[]⟩):=q2.cell 0
 have z1:w2.cell? ⟨b+1,1,none⟩=some (.int .i64 0):=q2.cell 1
 have z2:w2.cell? ⟨b+1,2,none⟩=some (.slice none 0 0):=q2.cell 2
 have z3:w2.cell? ⟨b+1,3,none⟩=some (.string ⟨#[]⟩):=q2.cell 3
 have z4:w2.cell? ⟨b+1,4,none⟩=some (.string ⟨#[]⟩):=q2.cell 4
 have f2:=q1.free 2
 have y0:=q2.free 0;have y1:=q2.free 1;have y2:=q2.free 2;have y3:=q2.free 3;have y4:=q2.free 4
 have HO:=Lib.hid ho;have HB2:=Lib.hid hb2;have Q2:=Lib.hid q2;have HBQ:=Lib.hid hb;have HSZ:=Lib.hid hsz1
 clear ho hb2 q1 q2 CC
 rw[← hb]
 clear hb hsz1
 have hf0:Row (w2.setCell ⟨b,2,none⟩ (.slice A n c)) (b+1) 28 #[.string ⟨#[]⟩,.int .i64 0,.slice none 0 0,.string ⟨#[]⟩,.string ⟨#[]⟩]:=(set_other w2 b 2 _ (b+1) (by omega)).trans Q2.out
 have HF:=Lib.hid (((((hf0.set 0 (.string ⟨name.toArray⟩)).set 1 (.int .i64 kind)).set 2 (.slice A n c)).set 3 (.string ⟨rhs.toArray⟩)).set 4 (.string ⟨range.toArray⟩))
 have HG:Hid (∀ g,g≠b→g≠b+1→((((((w2.setCell ⟨b,2,none⟩ (.slice A n c)).setCell ⟨b+1,0,none⟩ (.string ⟨name.toArray⟩)).setCell ⟨b+1,1,none⟩ (.int .i64 kind)).setCell ⟨b+1,2,none⟩ (.slice A n c)).setCell ⟨b+1,3,none⟩ (.string ⟨rhs.toArray⟩)).setCell ⟨b+1,4,none⟩ (.string ⟨range.toArray⟩)).heap[g]?=w2.heap[g]?):=Lib.hid fun g h1 h2=>by
  rw[set_other _ _ _ _ g h2,set_other _ _ _ _ g h2,set_other _ _ _ _ g h2,set_other _ _ _ _ g h2,set_other _ _ _ _ g h2,set_other _ _ _ _ g h1]
 have HBF:Hid (Below w.heap.size w ((((((w2.setCell ⟨b,2,none⟩ (.slice A n c)).setCell ⟨b+1,0,none⟩ (.string ⟨name.toArray⟩)).setCell ⟨b+1,1,none⟩ (.int .i64 kind)).setCell ⟨b+1,2,none⟩ (.slice A n c)).setCell ⟨b+1,3,none⟩ (.string ⟨rhs.toArray⟩)).setCell ⟨b+1,4,none⟩ (.string ⟨range.toArray⟩))):=by
  have h0:=below_seq HB1.out HB2.out
  have hb:w.heap.size≤b:=by have:=HBQ.out;omega
  have hb':w.heap.size≤b+1:=by omega
  exact Lib.hid ((((((h0.setCell (p:=⟨b,2,none⟩) hb _).setCell (p:=⟨b+1,0,none⟩) hb' _).setCell (p:=⟨b+1,1,none⟩) hb' _).setCell (p:=⟨b+1,2,none⟩) hb' _).setCell (p:=⟨b+1,3,none⟩) hb' _).setCell (p:=⟨b+1,4,none⟩) hb' _)
 clear hf0
 go_wp2_with fail
 refine bodyPost_ret (v:=.agg #[.string ⟨name.toArray⟩,.int .i64 kind,.slice A n c,.string ⟨rhs.toArray⟩,.string ⟨range.toArray⟩]) (results_cell_row (p:=4) (ty:=28) Tryz.results34 _ _ (b+1) 28 #[.string ⟨name.toArray⟩,.int .i64 kind,.slice A n c,.string ⟨rhs.toArray⟩,.string ⟨range.toArray⟩] (0,0) _ (by simp[go_sem]) HF.out Tryz.underlying28 rfl und_Row_sz) rfl ?_
 refine ⟨_,rfl,?_,HBF.out,_,_,_,rfl⟩
 have hlow:=HO.out.low (base':=w.heap.size) (by have:=HSZ.out;omega)
 refine hlow.stay fun g hg=>?_
 have hlt:=HO.out.lt hg
 have h1:=HSZ.out;have h2:=HBQ.out
 exact HG.out g (by omega) (by omega)
end Go.Proofs.YtbdfhnelmojbpaaGreatDoor
end
