/- Package mat: New at texts that are fractions, none of them nought. And: Package mat: New at texts that are fractions, none of them nought: the walk. begun's calls, one by one. begun: one of each. -/
import Derived.Test.YtehbhghbagaliaaGreatDoorJWalkG
import Derived.Test.YtehbhghbagaliaaGreatDoorJWalkD
import Derived.Test.YtehbhghbagaliaaGreatDoorJRefA
import Derived.Test.YtehbhghbagaliaaGreatDoorJWalkF
import Derived.Test.YtehbhghbagaliaaGreatDoorJWalkE
import Derived.Test.YtehbhghbagaliaaGreatDoorJWalkA
set_option linter.unusedVariables false
set_option linter.unusedSimpArgs false
namespace Vic
open Go Go.RowKit
theorem RowsK.stayA {T:TypeId}{w w':World}{B rows cols:Nat}{g cap:Nat→Nat}{cur:Nat→Array Value}{M:Nat→Nat→Rat}(h:RowsK T w B rows cols g cap cur M) (hnz:∀ i k,i<rows→k<cols→M i k≠0) (hg:∀ i,i<rows→w'.heap[g i]?=w.heap[g i]?) (hs:∀ j,j<w.heap.size→Alien w j∨w'.heap[j]?=w.heap[j]?):RowsK T w' B rows cols g cap cur M:=
 ⟨fun i hi=>(hg i hi).trans (h.row i hi),h.ptr,h.base,h.inj,h.caps,fun i k hi hk=>by
  obtain ⟨p,h1,h2⟩:=h.val i k hi hk
  exact ⟨p,h1,h2.stay (hnz i k hi hk) hs⟩⟩
theorem rows_round2 {T T1 T2:TypeId}{B k n mb:Nat}{gn cn:Nat→Nat}{cr:Nat→Array Value}{N:Nat→Nat→Rat}{wr w4 w5:World}{s v5:Value}{x:Int}(hrow:Row wr mb T1 #[s,.int .i64 x]) (hmb:mb<B) (hown:OwnK sliceKind wr B T2 1 s k (rowVals k n gn cn)) (hrows:RowsK T wr B k n gn cn cr N)
 (hdis:∀ G',s.ownBlock=some G'→0<k∧∀ i,i<k→gn i≠G') (hB:B≤wr.heap.size) (h04:Below wr.heap.size wr w4) {g' cap':Nat}{cur':Array Value}(hn:0<n) (hnz:∀ i j,i<k+1→j<n→N i j≠0)
 (hr:Row w4 g' T cur') (hp:∀ u∈cur',∃ a,u=.pointer a) (hg':wr.heap.size≤g') (hc':n≤cap') (hv:∀ j,j<n→∃ p,cur'[j]?=some p∧FracPtr w4 p (N k j))
 (hw5:OwnK sliceKind w5 B T2 1 v5 (k+1) (rowVals k n gn cn ++ [.slice (some ⟨g',0,none⟩) n cap'])) (hgr:w4.grownBy w5 s.ownBlock) (hloc:v5.ownBlock=s.ownBlock∨v5.ownBlock=some w4.heap.size) :
 ∃ gn' cn' cr',Row (w5.setCell ⟨mb,0,none⟩ v5) mb T1 #[v5,.int .i64 x]∧OwnK sliceKind (w5.setCell ⟨mb,0,none⟩ v5) B T2 1 v5 (k+1) (rowVals (k+1) n gn' cn')∧RowsK T (w5.setCell ⟨mb,0,none⟩ v5) B (k+1) n gn' cn' cr' N∧(∀ G',v5.ownBlock=some G'→0<k+1∧∀ i,i<k+1→gn' i≠G')∧B≤(w5.setCell ⟨mb,0,none⟩ v5).heap.size∧Below mb wr (w5.setCell ⟨mb,0,none⟩ v5):=by
 have hR4:=(hrows.keep h04).push (q:=N k) hr hp (Nat.le_trans hB hg') (fun i hi e=>by have:=(hrows.row i hi).lt;omega) hc' hv
 have eN:(fun i=>if i=k then N k else N i)=N:=by
  funext i
  by_cases e:i=k
  ·rw[if_pos e,e]
  ·rw[if_neg e]
 rw[eN]at hR4
 have hrow4:=hrow.keep h04
 have hlt:∀ i,i<k+1→(if i=k then g' else gn i)<w4.heap.size:=fun i hi=>(hR4.row i hi).lt
 have hsown:∀ j,s.ownBlock=some j→B≤j∧j<wr.heap.size:=fun j hj=>hown.lt hj
 have hmbs:s.ownBlock≠some mb:=fun e=>by have:=hsown mb e;omega
 have h46:∀ j,j<w4.heap.size→s.ownBlock≠some j→j≠mb→(w5.setCell ⟨mb,0,none⟩ v5).heap[j]?=w4.heap[j]?:=fun j hj h1 h2=>(Below.heap_setCell w5 ⟨mb,0,none⟩ v5 j h2).trans (hgr.block j hj (fun e=>h1 e.symm))
 have hsz:(w5.setCell ⟨mb,0,none⟩ v5).heap.size=w5.heap.size:=by simp[World.setCell]
 have hsl:∃ A l c,s=.slice A l c:=by
  obtain ⟨_,⟨rfl,_⟩|⟨g,cap,cur,rfl,_⟩⟩:=hown
  ·exact ⟨_,_,_,rfl⟩
  ·exact ⟨_,_,_,rfl⟩
 have al1:Alien w4 mb:=by
  obtain ⟨A0,l0,c0,hs0⟩:=hsl
  refine ⟨fun o u hu=>?_,fun A l c b' o' z hc hl hA=>?_⟩
  ·rw[hrow4.cell]at hu
   rcases o with _|_|o
   ·simp at hu;subst hu;rw[hs0];exact ⟨fun x=>by simp,fun x=>by simp⟩
   ·simp at hu;subst hu;exact ⟨fun x=>by simp,fun x=>by simp⟩
   ·simp at hu
  ·rw[hrow4.cell]at hc
   simp at hc
   intro hcc
   have hk4:=hown.keep h04
   have hob:s.ownBlock=some b':=by
    obtain ⟨_,⟨h1,_⟩|⟨g,cap,cur,h1,_⟩⟩:=hown
    ·rw[h1]at hc;injection hc with h2;rw[hA]at h2;cases h2
    ·rw[h1]at hc;injection hc with h2;rw[hA]at h2;injection h2 with h2;injection h2 with h2 h3;rw[h1,← h2];rfl
   obtain ⟨_,_,_,h5⟩:=hk4.kind hob hcc
   cases h5
 have al2:∀ b,s.ownBlock=some b→Alien w4 b:=fun b hb=>by
  obtain ⟨hk0,hdi⟩:=hdis b hb
  have hk4:=hown.keep h04
  have hcell:=hk4.own.cells hb 0 (.slice (some ⟨gn 0,0,none⟩) n (cn 0)) (by
   unfold rowVals
   rw[List.getElem?_map,List.getElem?_range hk0]
   rfl)
  rw[show (⟨b,0,none⟩:Addr).add 0=⟨b,0,none⟩ by simp[Addr.add]]at hcell
  refine ⟨fun o u hu=>?_,fun A l c b' o' z hc hl hA=>?_⟩
  ·obtain ⟨_,_,_,rfl⟩:=hk4.kind hb hu
   exact ⟨fun x=>by simp,fun x=>by simp⟩
  ·rw[hcell]at hc
   injection hc with hc
   injection hc with h1 h2 h3
   rw[← h1]at hA
   injection hA with hA
   injection hA with h4 h5
   subst h4;subst h5
   intro hcc
   have hr0:=(hrows.keep h04).row 0 hk0
   rw[hr0.cell]at hcc
   obtain ⟨a,ha⟩:=hrows.ptr 0 hk0 _ (Array.mem_of_getElem? hcc)
   cases ha
 have hrow6:Row (w5.setCell ⟨mb,0,none⟩ v5) mb T1 #[v5,.int .i64 x]:=by
  have h5:Row w5 mb T1 #[s,.int .i64 x]:=(hgr.block mb hrow4.lt (fun e=>hmbs e.symm)).trans hrow4
  exact h5.set 0 v5
 refine ⟨_,_,fun i=>if i=k then cur' else cr i,hrow6,?_,hR4.stayA hnz (fun i hi=>?_) (fun j hj=>?_),fun G' hG=>⟨by omega,fun i hi e=>?_⟩,?_,?_⟩
 ·rw[← rowVals_push]
  exact hw5.stay fun g hg=>Below.heap_setCell w5 ⟨mb,0,none⟩ v5 g (fun e=>by have:=(hw5.lt hg).1;have e':g=mb:=e;omega)
 ·have hl:=hlt i hi
  have hb:=hR4.base i hi
  refine h46 _ hl (fun e=>?_) (fun e=>by omega)
  by_cases e1:i=k
  ·rw[if_pos e1]at e
   have:=hsown _ e
   omega
  ·rw[if_neg e1]at e
   exact (hdis _ e).2 i (by omega) rfl
 ·by_cases h1:s.ownBlock=some j
  ·exact .inl (al2 j h1)
  ·by_cases h2:j=mb
   ·subst h2;exact .inl al1
   ·exact .inr (h46 j hj h1 h2)
 ·rcases hloc with hl|hl
  ·rw[hl]at hG
   have hbl:=hown.lt hG
   by_cases e1:i=k
   ·rw[if_pos e1]at e
    omega
   ·rw[if_neg e1]at e
    exact (hdis G' hG).2 i (by omega) e
  ·rw[hl]at hG
   injection hG with hG
   have:=hlt i hi
   omega
 ·rw[hsz];have:=hgr.size;have:=h04.size;omega
 ·refine ⟨(show (w5.setCell ⟨mb,0,none⟩ v5).os=w5.os from rfl).trans (hgr.os.trans h04.os),(show (w5.setCell ⟨mb,0,none⟩ v5).tape=w5.tape from rfl).trans (hgr.tape.trans h04.tape),(show (w5.setCell ⟨mb,0,none⟩ v5).output=w5.output from rfl).trans (hgr.output.trans h04.output),?_,fun j hj=>?_⟩
  ·rw[hsz];exact Nat.le_trans h04.size hgr.size
  ·have hj4:j<w4.heap.size:=by have:=h04.size;omega
   exact (h46 j hj4 (fun e=>by have:=hsown j e;omega) (by omega)).trans (h04.block j (by omega))
end Vic
set_option linter.unusedVariables false
set_option linter.unusedSimpArgs false
namespace Vic
open Go Go.RowKit
def MatMade (T:TypeId) (rows cols:Nat) (M:Nat→Nat→Rat) (w:World) (e:Ending) (w':World):Prop:=
 ∃ mb G c g cap cur,e=.returned (.tuple #[.pointer (some ⟨mb,0,none⟩),.bool true])∧w'.cell? ⟨mb,0,none⟩=some (.slice (some ⟨G,0,none⟩) rows c)∧rows≤c∧w'.cell? ⟨mb,1,none⟩=some (.int .i64 cols)∧Grid T w' G 0 w.heap.size rows cols g cap cur M∧Below w.heap.size w w'
end Vic
namespace Go.Proofs.YtehbhghbagaliaaGreatDoor
open Go.RowKit Vic
set_option maxRecDepth 100000 in
set_option maxHeartbeats 8000000 in
theorem mat_New_good (w:World) (sb so rows cols cs:Nat) (tb to_ tc:Nat→Nat) (tx:Nat→Nat→List UInt8) (ho:∀ i,i<rows→w.cell? ⟨sb,so+i,none⟩=some (.slice (some ⟨tb i,to_ i,none⟩) cols (tc i)))
 (hx:∀ i j,i<rows→j<cols→w.cell? ⟨tb i,to_ i+j,none⟩=some (.string ⟨(tx i j).toArray⟩)) (hg:∀ i j,i<rows→j<cols→FracGood (tx i j)∧fracOf (tx i j)≠0∧(tx i j).length≤1000000) (ht:Tab w)
 (hr:rows≤440) (hr0:0<rows) (hcc:cols≤440) (hc0:0<cols) (hcs:rows≤cs) (htc:∀ i,i<rows→cols≤tc i) :
 Calls Tryz.prog 27 #[.slice (some ⟨sb,so,none⟩) rows cs] w (MatMade 30 rows cols (fun i j=>fracOf (tx i j)) w):=by
 have HO:=Lib.hid ho;have HX:=Lib.hid hx;have HGD:=Lib.hid hg;have HT:=Lib.hid ht;have HTC:=Lib.hid htc
 obtain ⟨i1,hi1,hz1,hsz1,hby1⟩:=info_pf
 obtain ⟨i2,hi2,hz2,hsz2,hby2⟩:=info_lpf
 clear ho hx hg ht htc
 have hr':¬ ((rows:Nat):Int) > 440:=by omega
 have hcc':¬ ((cols:Nat):Int) > 440:=by omega
 go_enter Tryz.func27,Tryz.ntmps27
 go_wp2_with fail
 have hb0:Below w.heap.size w (w.alloc (.cells #[.slice none 0 0,.int .i64 0] 114)):=(Below.refl _ _).alloc (Nat.le_refl _) _
 go_loopw [19] (fun t wr=>∃ (k:Nat) (gn cn:Nat→Nat) (cr:Nat→Array Value) (sv:Value) (x:Int),t=.int .i64 k∧k≤rows∧(k≠0→x=cols)∧Hid (Row wr w.heap.size 114 #[sv,.int .i64 x])∧Hid (OwnK sliceKind wr (w.heap.size+1) 64 1 sv k (rowVals k cols gn cn))∧Hid (RowsK 30 wr (w.heap.size+1) k cols gn cn cr (fun i j=>fracOf (tx i j)))∧Hid (∀ G',sv.ownBlock=some G'→0<k∧∀ i,i<k→gn i≠G')∧w.heap.size+1≤wr.heap.size∧Below w.heap.size w wr) (fun t _=>rows - (intOf t).toNat)
 case atStart=>
  refine ⟨0,fun _=>0,fun _=>0,fun _=>#[],_,_,rfl,Nat.zero_le _,fun h=>absurd rfl h,Row.new _ _ _,OwnK.nil_ _ _ _ _ _,RowsK.none_ _ _ _ _ _ _ _ _,(fun G' hG=>by cases hG),?_,hb0⟩
  simp
 case round=>
  obtain ⟨k,gn,cn,cr,sv,x,rfl,hk,hxc,hrow,hown,hrows,hdis,hBw,hbr⟩:=hrel
  by_cases hkr:k<rows
  ·have ho':=cell_keep (HO.out k hkr) hbr
   have htk:=HTC.out k hkr
   have hm0:wr.cell? ⟨w.heap.size,0,none⟩=some sv:=hrow.out.cell 0
   have hm1:wr.cell? ⟨w.heap.size,1,none⟩=some (.int .i64 x):=hrow.out.cell 1
   have hfr:=hrow.out.free 1
   have hw1:IntKind.i64.wrap ((k:Int)+1)=((k+1:Nat):Int):=by rw[IntKind.wrap_i64];omega
   have hstart:∃ W:World,Hid (W=if k=0 then wr.setCell ⟨w.heap.size,1,none⟩ (.int .i64 cols)else wr):=⟨_,Lib.hid rfl⟩
   obtain ⟨W,hW⟩:=hstart
   have hW':Hid (Row W w.heap.size 114 #[sv,.int .i64 cols]∧OwnK sliceKind W (w.heap.size+1) 64 1 sv k (rowVals k cols gn cn)∧RowsK 30 W (w.heap.size+1) k cols gn cn cr (fun i j=>fracOf (tx i j))∧w.heap.size+1≤W.heap.size∧Below w.heap.size w W):=by
    rw[hW.out]
    by_cases h0:k=0
    ·rw[if_pos h0]
     subst h0
     refine Lib.hid ⟨?_,?_,RowsK.none_ _ _ _ _ _ _ _ _,?_,hbr.setCell (p:=⟨w.heap.size,1,none⟩) (Nat.le_refl _) _⟩
     ·exact hrow.out.set 1 (.int .i64 cols)
     ·exact hown.out.stay fun g hg=>Below.heap_setCell wr ⟨w.heap.size,1,none⟩ _ g (fun e=>by have:=(hown.out.lt hg).1;have e':g=w.heap.size:=e;omega)
     ·simpa [World.setCell]using hBw
    ·rw[if_neg h0]
     obtain rfl:x=cols:=hxc h0
     exact Lib.hid ⟨hrow.out,hown.out,hrows.out,hBw,hbr⟩
   have hBW:=hW'.out.2.2.2.1
   have hbW:=hW'.out.2.2.2.2
   by_cases h0:k=0
   case' pos=>
    have hke:((k:Int) == 0)=true:=by simp[h0]
    have hWe:wr.setCell ⟨w.heap.size,1,none⟩ (.int .i64 cols)=W:=by rw[hW.out,if_pos h0]
   case' neg=>
    obtain rfl:x=cols:=hxc h0
    have hke:((k:Int) == 0)=false:=by simp;omega
    have hWe:wr=W:=by rw[hW.out,if_neg h0]
   all_goals
    have HWE:=Lib.hid hWe
    clear hxc hown hrows hrow h0 hW hWe
    go_wp2_with fail
    rw[HWE.out]
    clear hm0 hm1 hfr HWE hBw hbr ho' hke
    go_loopw [45,7] (fun t s wi=>∃ (j:Nat) (ps:List (Option Addr)),t=.int .i64 j∧j≤cols∧ps.length=j∧Hid (OwnK ptrKind wi W.heap.size 30 1 s j (ps.map Value.pointer))∧Hid (∀ (i:Nat) p,ps[i]?=some p→FracPtr wi (.pointer p) (fracOf (tx k i)))∧Below W.heap.size W wi) (fun t _ _=>cols - (intOf t).toNat)
    case atStart=>exact ⟨0,[],rfl,Nat.zero_le _,rfl,OwnK.nil_ _ _ _ _ _,fun i p hp=>by simp at hp,Below.refl _ _⟩
    case round=>
     obtain ⟨j,ps,rfl,hj,hpl,hown,hps,hbi⟩:=hrel
     have hB2:Below w.heap.size w wr:=hbW.trans (hbi.mono hbW.size)
     by_cases hjc:j<cols
     ·have hcx:=cell_keep (HX.out k j hkr hjc) hB2
      obtain ⟨hgd,hnz,hlx⟩:=HGD.out k j hkr hjc
      have CF:Hid (Calls Tryz.prog 25 #[.string ⟨(tx k j).toArray⟩] wr (fun e w'=>∃ z,e=.returned (.tuple #[z,.bool true])∧FracPtr w' z (fracOf (tx k j))∧Below wr.heap.size wr w')):=by
       refine (frac_Get wr (tx k j) hlx (HT.out.keep hB2)).mono ?_
       rintro e w' (⟨h,_⟩|⟨_,z,rfl,hz,_,hb⟩)
       ·exact absurd hgd h
       ·exact ⟨z,rfl,hz,hb⟩
      have hw2:IntKind.i64.wrap ((j:Int)+1)=((j+1:Nat):Int):=by rw[IntKind.wrap_i64];omega
      have hq:∃ q,q=fracOf (tx k j):=⟨_,rfl⟩
      clear hgd hnz hlx
      go_wp2_with fail
      refine CF.out.mono ?_
      rintro e w4 ⟨z,rfl,hz4,hb4⟩
      obtain ⟨z0,rfl⟩:=hz4.ptr
      have hal:Below w4.heap.size w4 (w4.alloc (.cells #[.pointer z0] 30)):=(Below.refl _ _).alloc (Nat.le_refl _) _
      have hB5:Below wr.heap.size wr (w4.alloc (.cells #[.pointer z0] 30)):=hb4.alloc hb4.size _
      have hown5:=Lib.hid (hown.out.keep hB5)
      have hnew5:Hid (∀ (j:Nat) u,[Value.pointer z0][j]?=some u→(w4.alloc (.cells #[.pointer z0] 30)).cell? ((⟨w4.heap.size,0,none⟩:Addr).add j)=some u):=Lib.hid fun j u hj=>by
       rcases j with _|j
       ·cases hj
        exact (Row.new _ _ _).cell 0
       ·simp at hj
      have hk5:W.heap.size≤(w4.alloc (.cells #[.pointer z0] 30)).heap.size:=Nat.le_trans hbi.size hB5.size
      have HZ4:=Lib.hid (hz4.keep hal)
      clear hz4
      go_wp2_with (at_builtin;refine wpList_append_ownK (Kd:=ptrKind) rfl (.tmp 56) (.tmp 58) 64 rfl W.heap.size 30 i1 _ 1 Tryz.underlying64 hi1 hz1 hsz1 rfl (by omega) _ j _ rfl hown5.out ⟨w4.heap.size,0,none⟩ 1 1 [Value.pointer z0] rfl (by simp) hnew5.out (by simp[Value.oneCell']) (by simp[ptrKind]) (by simp[ptrKind,Value.cells]) (by omega) (by unfold maxLen;omega) (by rw[hby1];omega) hk5 ?_;intro v6 w6 hown6 hgr6 hloc6)
      have hps6:Hid (∀ (i:Nat) p,(ps ++ [z0])[i]?=some p→FracPtr w6 (.pointer p) (fracOf (tx k i))):=Lib.hid fun i p hi=>by
       refine frs_grown hown5.out hgr6 ?_
       rcases Nat.lt_or_ge i j with h4|h4
       ·rw[List.getElem?_append_left (by omega)]at hi
        exact (hps.out i p hi).keep hB5
       ·rw[List.getElem?_append_right (by omega)]at hi
        rcases hjn:i - ps.length with _|m
        ·rw[hjn]at hi
         simp only[List.getElem?_cons_zero,Option.some.injEq]at hi
         subst hi
         obtain rfl:i=j:=by omega
         exact HZ4.out
        ·rw[hjn]at hi;simp at hi
      have hB6:Below W.heap.size W w6:=hown.out.below hbi hB5 hgr6 hbi.size
      have HO6:Hid (OwnK ptrKind w6 W.heap.size 30 1 v6 (j+1) ((ps ++ [z0]).map Value.pointer)):=by
       rw[List.map_append]
       exact hown6
      have HPL:(ps ++ [z0]).length=j+1:=by rw[List.length_append,hpl];rfl
      clear hown6
      go_wp2_with fail
      go_roundw
      case rel=>exact ⟨j+1,ps ++ [z0],rfl,by omega,HPL,HO6,hps6,hB6⟩
      case measure=>simp[intOf];omega
     ·obtain rfl:cols=j:=by omega
      obtain ⟨hrW,hoW,hRW,_,_⟩:=hW'.out
      have hm0:wr.cell? ⟨w.heap.size,0,none⟩=some sv:=cell_keep (hrW.cell 0) hbi
      obtain ⟨g3,cap3,cur3,rfl,hg3,hrow3,hc3,hk3,hval3⟩:=hown.out.rowOf (by omega) hpl
      obtain ⟨cl,hcl⟩:∃ cl:World,cl=wr.alloc (.cells #[.slice (some ⟨g3,0,none⟩) cols cap3] 64):=⟨_,rfl⟩
      have hal:Below wr.heap.size wr cl:=by rw[hcl];exact (Below.refl _ _).alloc (Nat.le_refl _) _
      have h04:Below W.heap.size W cl:=hbi.trans (hal.mono hbi.size)
      have hown4:=Lib.hid (hoW.stay (w':=cl) (fun b hb=>h04.block b (hoW.lt hb).2))
      have hnew4:Hid (∀ (j:Nat) u,[Value.slice (some ⟨g3,0,none⟩) cols cap3][j]?=some u→cl.cell? ((⟨wr.heap.size,0,none⟩:Addr).add j)=some u):=Lib.hid fun j u hj=>by
       rcases j with _|j
       ·cases hj
        rw[hcl]
        exact (Row.new _ _ _).cell 0
       ·simp at hj
      have hk4:w.heap.size+1≤cl.heap.size:=Nat.le_trans hBW h04.size
      have hfr3:Hid (∀ i,i<cols→∃ p,cur3[i]?=some p∧FracPtr cl p (fracOf (tx k i))):=Lib.hid fun i hi=>by
       have hi':i<ps.length:=by omega
       exact ⟨_,hval3 i _ (List.getElem?_eq_getElem hi'),(hps.out i _ (List.getElem?_eq_getElem hi')).keep hal⟩
      have HR3:=Lib.hid (hrow3.keep hal)
      have HD3:=Lib.hid hk3
      have HCL:=Lib.hid hcl
      have hfr4:cl.frozen? ⟨w.heap.size,0,none⟩=false:=(hrW.keep h04).free 0
      have hm4:cl.cell? ⟨w.heap.size,0,none⟩=some sv:=cell_keep hm0 hal
      have HOW:=Lib.hid hoW;have HRW:=Lib.hid hRW;have HRO:=Lib.hid hrW
      clear hval3 hrow3 hk3 hoW hRW hrW hcl
      go_wp2_with (at_builtin;rw[← HCL.out];refine wpList_append_ownK (Kd:=sliceKind) rfl (.tmp 65) (.tmp 67) 112 rfl (w.heap.size+1) 64 i2 _ 1 Tryz.underlying112 hi2 hz2 hsz2 rfl (by omega) _ k _ rfl hown4.out ⟨wr.heap.size,0,none⟩ 1 1 [Value.slice (some ⟨g3,0,none⟩) cols cap3] rfl (by simp) hnew4.out (by simp[Value.oneCell']) (by simp[sliceKind]) (by simp[sliceKind,Value.cells]) (by omega) (by unfold maxLen;omega) (by rw[hby2];omega) hk4 ?_;intro v5 w5 hown5 hgr5 hloc5;refine Hid.out ?_)
      obtain ⟨g5,cap5,rfl⟩:=hown5.shape (by omega)
      obtain ⟨gn5,cn5,cr5,hr6,ho6,hR6,hd6,hB6,hb6⟩:=rows_round2 HRO.out (by omega) HOW.out HRW.out hdis.out hBW h04 hc0 (fun i j hi hj=>(HGD.out i j (by omega) hj).2.1) HR3.out HD3.out hg3 hc3 (fun i hi=>hfr3.out i hi) hown5 hgr5 hloc5
      have hrow5:Row w5 w.heap.size 114 #[sv,.int .i64 cols]:=(hgr5.block _ (HRO.out.keep h04).lt (fun e=>by
       have:=(HOW.out.lt e.symm).1
       omega)).trans (HRO.out.keep h04)
      have hm5:w5.cell? ⟨w.heap.size,0,none⟩=some sv:=hrow5.cell 0
      have hfr5:=hrow5.free 0
      have HR6:=Lib.hid hr6;have HO6:=Lib.hid ho6;have HRR6:=Lib.hid hR6;have HD6:=Lib.hid hd6;have HB6:=Lib.hid hB6;have Hb6:=Lib.hid (hbW.trans hb6)
      clear hr6 ho6 hR6 hd6 hB6 hb6 hrow5 hown5
      refine Lib.hid ?_
      go_wp2_with fail
      go_roundw
      case rel=>
       exact ⟨k+1,gn5,cn5,cr5,_,cols,rfl,by omega,fun _=>rfl,HR6,HO6,HRR6,HD6,HB6.out,Hb6.out⟩
      case measure=>simp[intOf];omega
  ·have:k=rows:=by omega
   subst this
   obtain rfl:x=cols:=hxc (by omega)
   clear hxc
   go_wp2_with fail
   go_ret2
   obtain ⟨G,cg,c,rfl,hc1,hrow1,hk1,hg1,hBG⟩:=rows_open hown.out hrows.out hr0
   refine ⟨w.heap.size,G,c,gn,cn,cr,rfl,hrow.out.cell 0,hc1,hrow.out.cell 1,?_,hbr⟩
   exact ⟨hg1.outer,hg1.row,hg1.ptr,fun i hi=>by have:=hg1.base i hi;omega,hg1.inj,hg1.caps,hg1.val⟩
end Go.Proofs.YtehbhghbagaliaaGreatDoor
set_option linter.unusedVariables false
set_option linter.unusedSimpArgs false
namespace Vic
open Go Go.RowKit
def mM:Nat→Nat→Rat:=mS
def mB:Nat→Nat→Rat:=aug mM (fun i _=>mS i 2) 2
set_option maxRecDepth 100000 in
theorem mB_red:(redGo 2 2 2 0 mB).1=2∧(redGo 2 2 2 0 mB).2 0 2=1∧(redGo 2 2 2 0 mB).2 1 2=1:=by decide +kernel
set_option maxRecDepth 100000 in
theorem mM_red:(redGo 2 2 2 0 mM).1=2:=by decide +kernel
theorem fits_small (n:Int) (h1:0≤n) (h2:n≤3) (q:Rat) (h:q=(n:Rat)):Fits 2 q:=h▸fits_of (by omega) (by omega)
theorem fits_mM:FitsM 2 2 2 mM:=fun i k hi hk=>by
 rcases i with _|_|i
 ·rcases k with _|_|k
  ·exact fits_small 2 (by omega) (by omega) _ (by decide +kernel)
  ·exact fits_small 1 (by omega) (by omega) _ (by decide +kernel)
  ·omega
 ·rcases k with _|_|k
  ·exact fits_small 1 (by omega) (by omega) _ (by decide +kernel)
  ·exact fits_small 1 (by omega) (by omega) _ (by decide +kernel)
  ·omega
 ·omega
def mTx (i j:Nat):List UInt8:=if i=0∧j=0 then [50]else [49]
theorem good_2:FracGood [50]∧fracOf [50]=2:=by
 have h:=fracGood_text ((2:Int):Rat) (by decide +kernel) (by decide +kernel)
 rw[show fracText ((2:Int):Rat) = [50]from text_n 2 (by omega)]at h
 exact h
theorem good_1:FracGood [49]∧fracOf [49]=1:=by
 have h:=fracGood_text ((1:Int):Rat) (by decide +kernel) (by decide +kernel)
 rw[show fracText ((1:Int):Rat) = [49]from text_n 1 (by omega)]at h
 exact h
theorem good_3:FracGood [51]∧fracOf [51]=3:=by
 have h:=fracGood_text ((3:Int):Rat) (by decide +kernel) (by decide +kernel)
 rw[show fracText ((3:Int):Rat) = [51]from text_n 3 (by omega)]at h
 exact h
theorem good_h:FracGood [45,49,47,50]∧fracOf [45,49,47,50]=quo true 1 2:=by
 have h:=fracGood_text (quo true 1 2) (by decide +kernel) (by decide +kernel)
 rw[text_1_2]at h
 exact h
theorem good_73:FracGood [45,55,47,51]∧fracOf [45,55,47,51]=quo true 7 3:=by
 have h:=fracGood_text (quo true 7 3) (by decide +kernel) (by decide +kernel)
 rw[text_7_3]at h
 exact h
theorem mTx_good (i j:Nat):FracGood (mTx i j)∧fracOf (mTx i j)≠0∧(mTx i j).length≤1000000:=by
 unfold mTx
 split
 ·exact ⟨good_2.1,by rw[good_2.2];decide +kernel,by simp⟩
 ·exact ⟨good_1.1,by rw[good_1.2];decide +kernel,by simp⟩
theorem mTx_val (i j:Nat) (hi:i<2) (hj:j<2):fracOf (mTx i j)=mM i j:=by
 rcases i with _|_|i
 ·rcases j with _|_|j
  ·exact good_2.2.trans (by decide +kernel)
  ·exact good_1.2.trans (by decide +kernel)
  ·omega
 ·rcases j with _|_|j
  ·exact good_1.2.trans (by decide +kernel)
  ·exact good_1.2.trans (by decide +kernel)
  ·omega
 ·omega
def bigN:List UInt8:=[51,52,48,50,56,50,51,54,54,57,50,48,57,51,56,52,54,51,52,54,51,51,55,52,54,48,55,52,51,49,55,54,56,50,49,49,52,53,54]
set_option maxRecDepth 100000 in
theorem bigN_good:GoodNat bigN:=by decide
set_option maxRecDepth 100000 in
theorem bigN_num:numOf 0 bigN=340282366920938463463374607431768211456:=by decide +kernel
theorem bigN_text:Lib.decDigits 340282366920938463463374607431768211456=bigN:=by rw[← bigN_num];exact dec_numOf bigN_good.1
theorem bigN_len:blen 340282366920938463463374607431768211456=129∧tz 340282366920938463463374607431768211456=128:=by decide +kernel
end Vic
namespace Go.Proofs.YtehbhghbagaliaaGreatDoor
open Go.RowKit Vic
theorem mat_New_begun (w:World) (ht:Tab w) (sb t0 t1:Nat) (h0:w.cell? ⟨sb,0,none⟩=some (.slice (some ⟨t0,0,none⟩) 2 2)) (h1:w.cell? ⟨sb,1,none⟩=some (.slice (some ⟨t1,0,none⟩) 2 2))
 (h2:w.cell? ⟨t0,0,none⟩=some (.string ⟨#[50]⟩)) (h3:w.cell? ⟨t0,1,none⟩=some (.string ⟨#[49]⟩)) (h4:w.cell? ⟨t1,0,none⟩=some (.string ⟨#[49]⟩)) (h5:w.cell? ⟨t1,1,none⟩=some (.string ⟨#[49]⟩)) :
 Calls Tryz.prog 27 #[.slice (some ⟨sb,0,none⟩) 2 2] w (MatMade 30 2 2 mM w):=by
 refine (mat_New_good w sb 0 2 2 2 (fun i=>if i=0 then t0 else t1) (fun _=>0) (fun _=>2) mTx (fun i hi=>?_) (fun i j hi hj=>?_) (fun i j _ _=>mTx_good i j) ht (by omega) (by omega) (by omega) (by omega) (by omega) (fun _ _=>by omega)).mono ?_
 ·rcases i with _|_|i
  ·exact h0
  ·exact h1
  ·omega
 ·rcases i with _|_|i
  ·rcases j with _|_|j
   ·exact h2
   ·exact h3
   ·omega
  ·rcases j with _|_|j
   ·exact h4
   ·exact h5
   ·omega
  ·omega
 ·rintro e w' ⟨mb,G,c,g,cap,cur,h6,h7,h8,h9,h10,h11⟩
  exact ⟨mb,G,c,g,cap,cur,h6,h7,h8,h9,h10.congr fun i k hi hk=>mTx_val i k hi hk,h11⟩
theorem vec_New_begun (w:World) (ht:Tab w) (b:Nat) (h0:w.cell? ⟨b,0,none⟩=some (.int .i64 2)) (h1:w.cell? ⟨b,1,none⟩=some (.string ⟨#[51]⟩)) (h2:w.cell? ⟨b,2,none⟩=some (.int .i64 0)) (h3:w.cell? ⟨b,3,none⟩=some (.string ⟨#[45,49,47,50]⟩)) :
 Calls Tryz.prog 6 #[.slice (some ⟨b,0,none⟩) 2 2] w (fun e w'=>∃ v,e=.returned (.tuple #[.pointer (some v),.bool true])∧VecPtr w' (.pointer (some v)) [(0,quo true 1 2),(2,3)]∧Below w.heap.size w w'):=by
 have hc:CoefsIn w (.slice (some ⟨b,0,none⟩) 2 2) [(2,[51]),(0,[45,49,47,50])]:=by
  refine ⟨_,2,rfl,by simp,fun i x hx=>⟨b,0,rfl,?_⟩⟩
  rcases i with _|_|i
  ·cases hx;exact ⟨h0,h1⟩
  ·cases hx;exact ⟨h2,h3⟩
  ·simp at hx
 have hg:GoodCoefs [(2,[51]),(0,[45,49,47,50])]:=by
  refine ⟨fun x hx=>?_,by decide⟩
  simp only[List.mem_cons,List.mem_nil_iff,or_false]at hx
  rcases hx with rfl|rfl
  ·exact ⟨by decide,by decide,good_3.1⟩
  ·exact ⟨by decide,by decide,good_h.1⟩
 have hp:partsOf [(2,[51]),(0,[45,49,47,50])] = [(2,3),(0,quo true 1 2)]:=by
  unfold partsOf
  simp only[List.map_cons,List.map_nil,good_3.2,good_h.2]
  decide +kernel
 refine (vec_New w _ _ hc (by simp) (fun x hx=>?_) ht).mono ?_
 ·simp only[List.mem_cons,List.mem_nil_iff,or_false]at hx
  rcases hx with rfl|rfl<;>simp
 ·rintro e w' (⟨h,_⟩|⟨_,v,ps,rfl,hv,hperm,hpw,_,hb⟩)
  ·exact absurd hg h
  ·rw[hp]at hperm
   have hps:ps = [(0,quo true 1 2),(2,3)]:=by
    refine List.Perm.eq_of_pairwise (le:=fun x y=>x.1<y.1) (fun x y _ _ h1 h2=>by omega) hpw ?_ (hperm.trans (List.Perm.swap _ _ _))
    simp
   subst hps
   obtain ⟨bv,sv,fs,rfl,hvv⟩:=hv
   exact ⟨_,rfl,⟨bv,sv,fs,rfl,hvv⟩,hb⟩
theorem mat_Solve_begun (w:World) (mb G c:Nat) (B:Nat) (g cap:Nat→Nat) (cur:Nat→Array Value) (gb:Nat) (p q:Option Addr) (hm0:w.cell? ⟨mb,0,none⟩=some (.slice (some ⟨G,0,none⟩) 2 c)) (hm1:w.cell? ⟨mb,1,none⟩=some (.int .i64 2)) (h:Grid 30 w G 0 B 2 2 g cap cur mM) (hc:2≤c)
 (h0:w.cell? ⟨gb,0,none⟩=some (.pointer p)) (h1:w.cell? ⟨gb,1,none⟩=some (.pointer q)) (hp:FracPtr w (.pointer p) 3) (hq:FracPtr w (.pointer q) 2) :
 Calls Tryz.prog 28 #[.pointer (some ⟨mb,0,none⟩),.slice (some ⟨gb,0,none⟩) 2 2] w (fun e w'=>∃ g c p0 p1,e=.returned (.tuple #[.slice (some ⟨g,0,none⟩) 2 c,.bool true])∧2≤c∧w'.cell? ⟨g,0,none⟩=some (.pointer p0)∧w'.cell? ⟨g,1,none⟩=some (.pointer p1)∧FracPtr w' (.pointer p0) 1∧FracPtr w' (.pointer p1) 1∧Below w.heap.size w w'):=by
 have hb:∀ i,i<2→w.cell? ⟨gb,0+i,none⟩=some (.pointer ((fun i=>if i=0 then p else q) i))∧FracPtr w (.pointer ((fun i=>if i=0 then p else q) i)) ((fun i=>mS i 2) i):=fun i hi=>by
  rcases i with _|_|i
  ·refine ⟨h0,?_⟩
   rw[show (fun i=>mS i 2) 0=(3:Rat) by decide +kernel]
   exact hp
  ·refine ⟨h1,?_⟩
   rw[show (fun i=>mS i 2) (0+1)=(2:Rat) by decide +kernel]
   exact hq
  ·omega
 refine (mat_Solve w mb G 0 2 2 c 2 gb 0 2 mM (fun i=>if i=0 then p else q) (fun i=>mS i 2) hm0 hm1 h.rgrid hb (by omega) fits_mM (fun i hi=>?_) (by omega) (by omega) hc (by omega) (by omega) (by omega) (by omega)).mono ?_
 ·rcases i with _|_|i
  ·exact fits_small 3 (by omega) (by omega) _ (by decide +kernel)
  ·exact fits_small 2 (by omega) (by omega) _ (by decide +kernel)
  ·omega
 ·rintro e w' ⟨hbl,⟨h2,_⟩|⟨_,_,v,ps,rfl,hpl,hown,hps⟩⟩
  ·rcases h2 with h2|⟨i,h3,h4,_⟩
   ·have:(redGo 2 2 2 0 mB).1<2:=h2
    rw[mB_red.1]at this
    omega
   ·omega
  ·have hpl':ps.length=2:=hpl
   obtain ⟨p0,p1,rfl⟩:∃ p0 p1,ps = [p0,p1]:=by
    rcases ps with _|⟨p0,_|⟨p1,_|⟨p2,r⟩⟩⟩
    ·simp at hpl'
    ·simp at hpl'
    ·exact ⟨_,_,rfl⟩
    ·simp at hpl'
   obtain ⟨g1,cap1,cur1,rfl,_,hrow,hcap,_,hval⟩:=hown.rowOf (by decide) hpl
   have e0:=hps 0 p0 rfl
   have e1:=hps 1 p1 rfl
   have f0:(redGo 2 2 2 0 (aug mM (fun i _=>mS i 2) 2)).2 0 2=1:=mB_red.2.1
   have f1:(redGo 2 2 2 0 (aug mM (fun i _=>mS i 2) 2)).2 1 2=1:=mB_red.2.2
   rw[f0]at e0
   rw[f1]at e1
   exact ⟨g1,cap1,p0,p1,rfl,hcap,by rw[hrow.cell,hval 0 p0 rfl],by rw[hrow.cell,hval 1 p1 rfl],e0,e1,hbl⟩
theorem mat_Rank_begun (w:World) (mb G c:Nat) (B:Nat) (g cap:Nat→Nat) (cur:Nat→Array Value) (hm0:w.cell? ⟨mb,0,none⟩=some (.slice (some ⟨G,0,none⟩) 2 c)) (hm1:w.cell? ⟨mb,1,none⟩=some (.int .i64 2)) (h:Grid 30 w G 0 B 2 2 g cap cur mM) (hc:2≤c) :
 Calls Tryz.prog 34 #[.pointer (some ⟨mb,0,none⟩)] w (Keeps (.int .i64 2) w):=by
 have:=mat_Rank w mb G 0 2 2 c 2 mM hm0 hm1 h.rgrid fits_mM (by omega) (by omega) hc (by omega) (by omega) (by omega) (by omega)
 rw[mM_red]at this
 exact this
end Go.Proofs.YtehbhghbagaliaaGreatDoor
set_option linter.unusedVariables false
set_option linter.unusedSimpArgs false
namespace Vic
open Go Go.RowKit
theorem FracPtr.some_ {w:World}{v:Value}{q:Rat}(h:FracPtr w v q):∃ a,v=.pointer (some a):=by
 obtain ⟨b,_,_,h1,_⟩:=h
 exact ⟨_,h1⟩
theorem fits_q (ng:Bool) (n d L:Nat) (h0:d≠0) (h1:n<18446744073709551616) (h2:d<18446744073709551616) (h3:2≤L):Fits L (quo ng n d):=fits_quo h0 (Nat.le_trans (sz_word h1) h3) (Nat.le_trans (sz_word h2) h3)
theorem fits_i (n:Int) (L:Nat) (h1 : -9223372036854775808≤n) (h2:n≤9223372036854775807) (h3:2≤L):Fits L (n:Rat):=(fits_of h1 h2).mono h3
end Vic
namespace Go.Proofs.YtehbhghbagaliaaGreatDoor
open Go.RowKit Vic
set_option maxRecDepth 100000 in
set_option maxHeartbeats 8000000 in
theorem law_begun (w:World) (ht:Tab w):Calls Tryz.prog 4 #[] w (Keeps (.bool true) w):=by
 have C1:Hid (Calls Tryz.prog 22 #[.int .u64 9223372036854775808,.int .u64 6] w (Rets (.tuple #[.int .u64 3,.int .u64 0]) w)):=bits_Mul 9223372036854775808 6 w (by decide) (by decide)
 have C2:Hid (∀ wr,Calls Tryz.prog 23 #[.int .u64 3,.int .u64 0,.int .u64 4] wr (Keeps (.tuple #[.int .u64 13835058055282163712,.int .u64 0,.bool true]) wr)):=fun wr=>bits_Div_yes 3 0 4 wr (by decide) (by decide) (by decide)
 have C3:Hid (∀ wr,Calls Tryz.prog 24 #[.string ⟨bigN.toArray⟩] wr (GivesOk (fun x w'=>NatPtr w' x 340282366920938463463374607431768211456) wr)):=fun wr=>by
  have:=nat_Get_yes wr bigN bigN_good
  rwa [bigN_num]at this
 have C4:Hid (∀ wr,Tab wr→Calls Tryz.prog 25 #[.string ⟨#[45,55,47,51]⟩] wr (GivesOk (fun x w'=>FracPtr w' x (quo true 7 3)) wr)):=fun wr h=>by
  refine (frac_Get wr [45,55,47,51] (by simp) h).mono ?_
  rintro e w' (⟨h,_⟩|⟨_,z,rfl,hz,_,hb⟩)
  ·exact absurd good_73.1 h
  ·exact ⟨z,rfl,good_73.2▸hz,hb⟩
 have C5:Hid (∀ wr,Tab wr→Calls Tryz.prog 26 #[.string ⟨#[45,49,46,50,53,101,49]⟩] wr (GivesOk (fun x w'=>FracPtr w' x (quo true 125 10)) wr)):=lit_Get_begun
 have HT:=Lib.hid ht
 clear ht
 go_enter Tryz.func4,Tryz.ntmps4
 go_wp2_with fail
 refine C1.out.mono ?_
 rintro e w' ⟨rfl,rfl⟩
 go_wp2_with fail
 refine (C2.out _).mono ?_
 rintro e w1 ⟨rfl,hb1⟩
 go_wp2_with fail
 refine (C3.out _).mono ?_
 rintro e w2 ⟨x2,rfl,hx2,hb2⟩
 obtain ⟨b2,A2,c2,rfl,_,_⟩:=id hx2.open_
 have B2:=below_seq hb1 hb2
 have HX2:=Lib.hid hx2
 clear hx2
 go_wp2_with fail
 refine (C4.out _ (HT.out.keep B2)).mono ?_
 rintro e w3 ⟨x3,rfl,hx3,hb3⟩
 obtain ⟨a3,rfl⟩:=hx3.some_
 have B3:=below_seq B2 hb3
 have HX3:=Lib.hid hx3
 go_wp2_with fail
 refine (C5.out _ (HT.out.keep B3)).mono ?_
 rintro e w4 ⟨x4,rfl,hx4,hb4⟩
 obtain ⟨a4,rfl⟩:=hx4.some_
 have B4:=below_seq B3 hb4
 have HX4:=Lib.hid hx4
 clear hx3 hx4 C1 C2 C3 C4 C5
 obtain ⟨w5,hw5⟩:∃ w5,w5=w4.alloc (.cells #[.int .i64 2,.string ⟨#[51]⟩,.int .i64 0,.string ⟨#[45,49,47,50]⟩] 46):=⟨_,rfl⟩
 have B5:Below w.heap.size w w5:=by rw[hw5];exact B4.alloc B4.size _
 have hr5:Row w5 w4.heap.size 46 #[.int .i64 2,.string ⟨#[51]⟩,.int .i64 0,.string ⟨#[45,49,47,50]⟩]:=by rw[hw5];exact Row.new _ _ _
 have CV:=Lib.hid (vec_New_begun w5 (HT.out.keep B5) w4.heap.size (hr5.cell 0) (hr5.cell 1) (hr5.cell 2) (hr5.cell 3))
 have b45:Below w4.heap.size w4 w5:=by rw[hw5];exact (Below.refl _ _).alloc (Nat.le_refl _) _
 have HW5:=Lib.hid hw5
 clear hr5 hw5
 go_wp2_with fail
 rw[← HW5.out]
 refine CV.out.mono ?_
 rintro e w6 ⟨v6,rfl,hv6,hb6⟩
 have B6:=below_seq B5 hb6
 have HV6:=Lib.hid hv6
 clear hv6 CV HW5
 obtain ⟨w7,hw7⟩:∃ w7,w7=((w6.alloc (.cells #[.string ⟨#[50]⟩,.string ⟨#[49]⟩] 9)).alloc (.cells #[.string ⟨#[49]⟩,.string ⟨#[49]⟩] 9)).alloc (.cells #[.slice (some ⟨w6.heap.size,0,none⟩) 2 2,.slice (some ⟨w6.heap.size+1,0,none⟩) 2 2] 23):=⟨_,rfl⟩
 have s1:∀ (x:World) o,(x.alloc o).heap.size=x.heap.size+1:=fun x o=>by simp
 have r0:Row w7 w6.heap.size 9 #[.string ⟨#[50]⟩,.string ⟨#[49]⟩]:=by rw[hw7];exact ((Row.new _ _ _).alloc _).alloc _
 have r1:Row w7 (w6.heap.size+1) 9 #[.string ⟨#[49]⟩,.string ⟨#[49]⟩]:=by
  rw[hw7]
  refine Row.alloc ?_ _
  have:=Row.new (w6.alloc (.cells #[.string ⟨#[50]⟩,.string ⟨#[49]⟩] 9)) 9 #[.string ⟨#[49]⟩,.string ⟨#[49]⟩]
  rwa [s1]at this
 have r2:Row w7 (w6.heap.size+1+1) 23 #[.slice (some ⟨w6.heap.size,0,none⟩) 2 2,.slice (some ⟨w6.heap.size+1,0,none⟩) 2 2]:=by
  rw[hw7]
  have:=Row.new ((w6.alloc (.cells #[.string ⟨#[50]⟩,.string ⟨#[49]⟩] 9)).alloc (.cells #[.string ⟨#[49]⟩,.string ⟨#[49]⟩] 9)) 23 #[.slice (some ⟨w6.heap.size,0,none⟩) 2 2,.slice (some ⟨w6.heap.size+1,0,none⟩) 2 2]
  rwa [s1,s1]at this
 have b67:Below w6.heap.size w6 w7:=by rw[hw7];exact (((Below.refl _ _).alloc (Nat.le_refl _) _).alloc (by simp) _).alloc (by simp;omega) _
 have B7:=below_seq B6 b67
 have CM:=Lib.hid (mat_New_begun w7 (HT.out.keep B7) _ _ _ (r2.cell 0) (r2.cell 1) (r0.cell 0) (r0.cell 1) (r1.cell 0) (r1.cell 1))
 have HW7:=Lib.hid hw7
 clear r0 r1 r2 s1 hw7
 go_wp2_with fail
 rw[← HW7.out]
 unfold MatMade at CM
 refine CM.out.mono ?_
 rintro e w8 ⟨mb,G,c,g,cap,cur,rfl,hm0,hrc,hm1,hgrid,hb8⟩
 have B8:=below_seq B7 hb8
 have HG:=Lib.hid hgrid
 clear HW7 CM hgrid
 have CO3:Hid (∀ wr,Calls Tryz.prog 29 #[.int .i64 3] wr (Gives (fun x w'=>FracPtr w' x (3:Rat)) wr)):=fun wr=>frac_Of wr 3 (by omega) (by omega)
 have CO2:Hid (∀ wr,Calls Tryz.prog 29 #[.int .i64 2] wr (Gives (fun x w'=>FracPtr w' x (2:Rat)) wr)):=fun wr=>frac_Of wr 2 (by omega) (by omega)
 go_wp2_with fail
 refine (CO3.out _).mono ?_
 rintro e w9 ⟨x9,rfl,hx9,hb9⟩
 obtain ⟨a9,rfl⟩:=hx9.some_
 have HX9:=Lib.hid hx9
 clear hx9
 go_wp2_with fail
 refine (CO2.out _).mono ?_
 rintro e w10 ⟨x10,rfl,hx10,hb10⟩
 obtain ⟨a10,rfl⟩:=hx10.some_
 have b810:=below_seq hb9 hb10
 obtain ⟨w11,hw11⟩:∃ w11,w11=w10.alloc (.cells #[.pointer (some a9),.pointer (some a10)] 30):=⟨_,rfl⟩
 have r11:Row w11 w10.heap.size 30 #[.pointer (some a9),.pointer (some a10)]:=by rw[hw11];exact Row.new _ _ _
 have b1011:Below w10.heap.size w10 w11:=by rw[hw11];exact (Below.refl _ _).alloc (Nat.le_refl _) _
 have b811:=below_seq b810 b1011
 have B11:=below_seq B8 b811
 have CS:=Lib.hid (mat_Solve_begun w11 mb G c _ g cap cur w10.heap.size (some a9) (some a10) (cell_keep hm0 b811) (cell_keep hm1 b811) (HG.out.keep b811) hrc (r11.cell 0) (r11.cell 1) (HX9.out.keep (below_seq hb10 b1011)) (hx10.keep b1011))
 have HW11:=Lib.hid hw11
 clear hx10 r11 hw11 HX9 CO3 CO2
 go_wp2_with fail
 rw[← HW11.out]
 refine CS.out.mono ?_
 rintro e w12 ⟨gs,cc,p0,p1,rfl,hcc,hc0,hc1,hp0,hp1,hb12⟩
 have B12:=below_seq B11 hb12
 have HP0:=Lib.hid hp0;have HP1:=Lib.hid hp1
 clear CS HW11 hp0 hp1
 have hk2:Hid (∀ wr,Below w12.heap.size w12 wr→Below w2.heap.size w2 wr):=Lib.hid fun wr h=>by
  have h1:=below_seq (below_seq hb3 (below_seq hb4 (below_seq b45 (below_seq hb6 (below_seq b67 hb8))))) (below_seq b811 hb12)
  exact below_seq h1 h
 have hk3:Hid (∀ wr,Below w12.heap.size w12 wr→Below w3.heap.size w3 wr):=Lib.hid fun wr h=>by
  have h1:=below_seq (below_seq hb4 (below_seq b45 (below_seq hb6 (below_seq b67 hb8)))) (below_seq b811 hb12)
  exact below_seq h1 h
 have hk4:Hid (∀ wr,Below w12.heap.size w12 wr→Below w4.heap.size w4 wr):=Lib.hid fun wr h=>by
  have h1:=below_seq (below_seq b45 (below_seq hb6 (below_seq b67 hb8))) (below_seq b811 hb12)
  exact below_seq h1 h
 have hk6:Hid (∀ wr,Below w12.heap.size w12 wr→Below w6.heap.size w6 wr):=Lib.hid fun wr h=>by
  have h1:=below_seq (below_seq b67 hb8) (below_seq b811 hb12)
  exact below_seq h1 h
 have hk8:Hid (∀ wr,Below w12.heap.size w12 wr→Below w8.heap.size w8 wr):=Lib.hid fun wr h=>below_seq (below_seq b811 hb12) h
 have hkw:Hid (∀ wr,Below w12.heap.size w12 wr→Tab wr):=Lib.hid fun wr h=>HT.out.keep (below_seq B12 h)
 have s2:Hid ((dgs 340282366920938463463374607431768211456).length≤5):=digs_length_le (B:=4294967296) (k:=5) (by omega) (by decide +kernel)
 have CA1:Hid (∀ wr,Below w12.heap.size w12 wr→Calls Tryz.prog 30 #[.pointer (some ⟨b2,0,none⟩)] wr (Rets (.int .i64 129) wr)):=Lib.hid fun wr h=>by
  have:=nat_Bits wr _ _ (HX2.out.keep (hk2.out wr h)).at_ (Nat.le_trans s2.out (by omega))
  rw[bigN_len.1]at this;exact this
 have CA2:Hid (∀ wr,Below w12.heap.size w12 wr→Calls Tryz.prog 31 #[.pointer (some ⟨b2,0,none⟩)] wr (Rets (.int .i64 128) wr)):=Lib.hid fun wr h=>by
  have:=nat_Twos wr _ _ (HX2.out.keep (hk2.out wr h)).at_ (Nat.le_trans s2.out (by omega))
  rw[bigN_len.2]at this;exact this
 have CA3:Hid (∀ wr,Below w12.heap.size w12 wr→Calls Tryz.prog 32 #[.pointer (some ⟨b2,0,none⟩)] wr (Keeps (.string ⟨#[51,52,48,50,56,50,51,54,54,57,50,48,57,51,56,52,54,51,52,54,51,51,55,52,54,48,55,52,51,49,55,54,56,50,49,49,52,53,54]⟩) wr)):=Lib.hid fun wr h=>by
  have:=nat_Text wr _ _ (HX2.out.keep (hk2.out wr h)).at_ (Nat.le_trans s2.out (by omega)) (hkw.out wr h)
  rw[bigN_text]at this;exact this
 have CA4:Hid (∀ wr,Below w12.heap.size w12 wr→Calls Tryz.prog 10 #[.pointer (some a3)] wr (Keeps (.string ⟨#[45,55,47,51]⟩) wr)):=Lib.hid fun wr h=>by
  have:=frac_Text wr _ _ (HX3.out.keep (hk3.out wr h)).at_ (fits_q true 7 3 _ (by omega) (by omega) (by omega) (by omega)) (hkw.out wr h)
  rw[text_7_3]at this;exact this
 have CA5:Hid (∀ wr,Below w12.heap.size w12 wr→Calls Tryz.prog 33 #[.pointer (some a3)] wr (Gives (fun z w'=>FracPtr w' z ((-3:Int):Rat)) wr)):=Lib.hid fun wr h=>by
  have:=frac_Floor wr _ _ (HX3.out.keep (hk3.out wr h)).at_ (fits_q true 7 3 _ (by omega) (by omega) (by omega) (by omega))
  rw[floor_7_3]at this;exact this
 have CA6:Hid (∀ wr v,Below w12.heap.size w12 wr→FracPtr wr v ((-3:Int):Rat)→Calls Tryz.prog 10 #[v] wr (Keeps (.string ⟨#[45,51]⟩) wr)):=Lib.hid fun wr v h hv=>by
  have:=frac_Text wr _ _ hv.at_ (fits_i (-3) _ (by omega) (by omega) (by omega)) (hkw.out wr h)
  rw[text_3]at this;exact this
 have CA7:Hid (∀ wr,Below w12.heap.size w12 wr→Calls Tryz.prog 10 #[.pointer (some a4)] wr (Keeps (.string ⟨#[45,50,53,47,50]⟩) wr)):=Lib.hid fun wr h=>by
  have:=frac_Text wr _ _ (HX4.out.keep (hk4.out wr h)).at_ (fits_q true 125 10 _ (by omega) (by omega) (by omega) (by omega)) (hkw.out wr h)
  rw[text_25_2]at this;exact this
 have CA8:Hid (∀ wr,Below w12.heap.size w12 wr→Calls Tryz.prog 21 #[.pointer (some v6)] wr (Rets (.int .i64 2) wr)):=Lib.hid fun wr h=>vec_Len wr _ [(0,quo true 1 2),(2,3)] (.inr (HV6.out.keep (hk6.out wr h)))
 have CA9:Hid (∀ wr,Below w12.heap.size w12 wr→Calls Tryz.prog 16 #[.pointer (some v6),.int .i64 0] wr (Gives (fun z w'=>FracPtr w' z (quo true 1 2)) wr)):=Lib.hid fun wr h=>vec_At wr _ [(0,quo true 1 2),(2,3)] (.inr (HV6.out.keep (hk6.out wr h))) (by simp) 0
 have CA0:Hid (∀ wr v,Below w12.heap.size w12 wr→FracPtr wr v (quo true 1 2)→Calls Tryz.prog 10 #[v] wr (Keeps (.string ⟨#[45,49,47,50]⟩) wr)):=Lib.hid fun wr v h hv=>by
  have:=frac_Text wr _ _ hv.at_ (fits_q true 1 2 _ (by omega) (by omega) (by omega) (by omega)) (hkw.out wr h)
  rw[text_1_2]at this;exact this
 have CB1:Hid (∀ wr,Below w12.heap.size w12 wr→Calls Tryz.prog 34 #[.pointer (some ⟨mb,0,none⟩)] wr (Keeps (.int .i64 2) wr)):=Lib.hid fun wr h=>mat_Rank_begun wr mb G c _ g cap cur (cell_keep hm0 (hk8.out wr h)) (cell_keep hm1 (hk8.out wr h)) (HG.out.keep (hk8.out wr h)) hrc
 have CB2:Hid (∀ wr v,Below w12.heap.size w12 wr→FracPtr wr v 1→Calls Tryz.prog 10 #[v] wr (Keeps (.string ⟨#[49]⟩) wr)):=Lib.hid fun wr v h hv=>by
  have:=frac_Text wr v ((1:Int):Rat) hv.at_ (fits_i 1 _ (by omega) (by omega) (by omega)) (hkw.out wr h)
  rw[show fracText ((1:Int):Rat) = [49]from text_n 1 (by omega)]at this;exact this
 have CB3:Hid (∀ wr,Calls Tryz.prog 35 #[.int .u64 255] wr (Rets (.int .i64 8) wr)):=Lib.hid fun wr=>bits_Len 255 wr (by omega)
 clear hb1 hb2 hb3 hb4 hb6 hb8 hb9 hb10 b67 b45 b810 b811 b1011 B2 B3 B4 B5 B6 B7 B8 B11 hb12 hm0 hm1 hk2 hk3 hk4 hk6 hk8 s2 HG HX2 HX3 HX4 HV6
 have Z:=Below.refl w12.heap.size w12
 go_wp2_with fail
 refine (CA1.out _ Z).mono ?_
 rintro e w' ⟨rfl,rfl⟩
 go_wp2_with fail
 refine (CA2.out _ Z).mono ?_
 rintro e w' ⟨rfl,rfl⟩
 go_wp2_with fail
 refine (CA3.out _ Z).mono ?_
 rintro e w13 ⟨rfl,hb13⟩
 go_wp2_with fail
 refine (CA4.out _ hb13).mono ?_
 rintro e w14 ⟨rfl,hb14⟩
 have Z14:=below_seq hb13 hb14
 go_wp2_with fail
 refine (CA5.out _ Z14).mono ?_
 rintro e w15 ⟨x15,rfl,hx15,hb15⟩
 have Z15:=below_seq Z14 hb15
 have C15:=Lib.hid (CA6.out _ _ Z15 hx15)
 clear hx15
 go_wp2_with fail
 refine C15.out.mono ?_
 rintro e w16 ⟨rfl,hb16⟩
 have Z16:=below_seq Z15 hb16
 go_wp2_with fail
 refine (CA7.out _ Z16).mono ?_
 rintro e w17 ⟨rfl,hb17⟩
 have Z17:=below_seq Z16 hb17
 go_wp2_with fail
 refine (CA8.out _ Z17).mono ?_
 rintro e w' ⟨rfl,rfl⟩
 go_wp2_with fail
 refine (CA9.out _ Z17).mono ?_
 rintro e w18 ⟨x18,rfl,hx18,hb18⟩
 have Z18:=below_seq Z17 hb18
 have C18:=Lib.hid (CA0.out _ _ Z18 hx18)
 clear hx18
 go_wp2_with fail
 refine C18.out.mono ?_
 rintro e w19 ⟨rfl,hb19⟩
 have Z19:=below_seq Z18 hb19
 go_wp2_with fail
 refine (CB1.out _ Z19).mono ?_
 rintro e w20 ⟨rfl,hb20⟩
 have Z20:=below_seq Z19 hb20
 have hc0':=cell_keep hc0 Z20
 have hcc':(2:Int)≤(cc:Int):=by omega
 have C20:=Lib.hid (CB2.out _ _ Z20 (HP0.out.keep Z20))
 go_wp2_with fail
 refine C20.out.mono ?_
 rintro e w21 ⟨rfl,hb21⟩
 have Z21:=below_seq Z20 hb21
 have hc1':=cell_keep hc1 Z21
 have C21:=Lib.hid (CB2.out _ _ Z21 (HP1.out.keep Z21))
 go_wp2_with fail
 refine C21.out.mono ?_
 rintro e w22 ⟨rfl,hb22⟩
 have Z22:=below_seq Z21 hb22
 go_wp2_with fail
 refine (CB3.out _).mono ?_
 rintro e w' ⟨rfl,rfl⟩
 go_wp2_with fail
 go_ret
 exact ⟨rfl,below_seq B12 Z22⟩
end Go.Proofs.YtehbhghbagaliaaGreatDoor
