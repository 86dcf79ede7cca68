/- Package core's reader: an error noted, a word, a number. -/
import Derived.Test.YtjipjfoambbofaaGreatDoorKax
import Derived.Test.YtjipjfoambbofaaGreatDoorKar
import Derived.Test.YtjipjfoambbofaaGreatDoorKap
import Derived.MapKept
import Derived.Shelf.SlSortCmp.SmallK
import Derived.Test.YtjipjfoambbofaaGreatDoorShelf
import Derived.Deep.QuietTactic
import Derived.BigQuiet
import Derived.Deep.DeepCutAuto
import Derived.Deep.CutBlock
import Derived.BigRegion
import Derived.Lib.SliceRun
import Derived.Test.YtjipjfoambbofaaGreatDoorKau
import Derived.Test.YtjipjfoambbofaaGreatDoorKaw
import Derived.Test.YtjipjfoambbofaaGreatDoorProg
import Derived.WalkKit
import Derived.Laws.RangeString
import Derived.Lib.IndexAny
import Derived.Deep.LoopGhost
set_option linter.unusedVariables false
set_option linter.unusedSimpArgs false
section
namespace Vic
open Go Go.RowKit
theorem RD.cells {B:Nat}{w:World}{r:Nat}{st:CSt}{rv cv lv:Value}{mr mc ms:Nat}{rvs:List RowV}(h:RD B w r st rv cv lv mr mc ms rvs) :
 w.cell? ⟨r,0,none⟩=some (.string ⟨st.c.name.toArray⟩)∧w.cell? ⟨r,1,none⟩=some (.string ⟨st.c.obj.toArray⟩)∧w.cell? ⟨r,2,none⟩=some rv∧w.cell? ⟨r,3,none⟩=some cv∧w.cell? ⟨r,4,none⟩=some (.int .i64 st.at_) ∧
 w.cell? ⟨r,5,none⟩=some (.map (some mr))∧w.cell? ⟨r,6,none⟩=some (.map (some mc))∧w.cell? ⟨r,7,none⟩=some (.map (some ms))∧w.cell? ⟨r,8,none⟩=some (.bool st.integer)∧w.cell? ⟨r,9,none⟩=some lv∧w.cell? ⟨r,10,none⟩=some (.int .i64 st.e):=
 ⟨h.blk.cell 0,h.blk.cell 1,h.blk.cell 2,h.blk.cell 3,h.blk.cell 4,h.blk.cell 5,h.blk.cell 6,h.blk.cell 7,h.blk.cell 8,h.blk.cell 9,h.blk.cell 10⟩
theorem RD.free {B:Nat}{w:World}{r:Nat}{st:CSt}{rv cv lv:Value}{mr mc ms:Nat}{rvs:List RowV}(h:RD B w r st rv cv lv mr mc ms rvs) (i:Nat):w.frozen? ⟨r,i,none⟩=false:=h.blk.free i
theorem set_other (w:World) (r i:Nat) (u:Value) (g:Nat) (h:g≠r):(w.setCell ⟨r,i,none⟩ u).heap[g]?=w.heap[g]?:=Below.heap_setCell w ⟨r,i,none⟩ u g h
theorem RD.setE {B:Nat}{w:World}{r:Nat}{st:CSt}{rv cv lv:Value}{mr mc ms:Nat}{rvs:List RowV}(h:RD B w r st rv cv lv mr mc ms rvs) (e:Int):RD B (w.setCell ⟨r,10,none⟩ (.int .i64 e)) r { st with e:=e } rv cv lv mr mc ms rvs:=
 h.field (set_other w r 10 _) (by have:=h.blk.set 10 (.int .i64 e);simpa using this) rfl rfl rfl rfl rfl h.words
theorem RD.setL {B:Nat}{w:World}{r:Nat}{st:CSt}{rv cv lv:Value}{mr mc ms:Nat}{rvs:List RowV}(h:RD B w r st rv cv lv mr mc ms rvs) {lv':Value}{l:List Txt}(hl:StrsLow B w lv' l):RD B (w.setCell ⟨r,9,none⟩ lv') r { st with l:=l } rv cv lv' mr mc ms rvs:=
 h.field (set_other w r 9 _) (by have:=h.blk.set 9 lv';simpa using this) rfl rfl rfl rfl rfl hl
theorem low_tail {B:Nat}{w:World}{g o c:Nat}{s:Txt}{l:List Txt}(h:StrsLow B w (.slice (some ⟨g,o,none⟩) (l.length+1) c) (s :: l)):StrsLow B w (.slice (some ⟨g,o+1,none⟩) l.length (c - 1)) l:=by
 obtain ⟨A,c',h1,h2,h3⟩:=h
 injection h1 with a1 _ a3
 subst a1;subst a3
 rw[List.length_cons]at h2
 refine ⟨_,_,rfl,by omega,fun i x hx=>?_⟩
 obtain ⟨g',o',e,h4⟩:=h3 (i+1) x (by simpa using hx)
 injection e with e
 injection e with e1 e2
 subst e1;subst e2
 exact ⟨g,o+1,rfl,by rw[show o+1+i*1=o+(i+1)*1 by omega];exact h4⟩
theorem low_none {B:Nat}{w:World}{a:Option Addr}{n c:Nat}{l:List Txt}(hn:n=0) (h:l.length=n):StrsLow B w (.slice a n c) l:=by
 subst hn
 have:l = []:=List.eq_nil_of_length_eq_zero h
 subst this
 exact ⟨a,c,rfl,Nat.zero_le _,fun i x hx=>by simp at hx⟩
theorem CSt.fails_no (st:CSt) (e:Int):st.fails false e=st:=by simp[CSt.fails]
def Noted (B r:Nat) (st:CSt) (b:Bool) (e:Int) (w:World) (en:Ending) (w':World):Prop:=en=.returned (.tuple #[])∧CR B w' r (st.fails b e)∧Only r w w'∧(b=false→w'=w)
def Worded (B r:Nat) (st:CSt) (w:World) (e:Ending) (w':World):Prop:=e=.returned (.string ⟨st.word.1.toArray⟩)∧CR B w' r st.word.2∧Only r w w'
end Vic
namespace Go.Proofs.YtjipjfoambbofaaGreatDoor
open Go.RowKit Vic
theorem core_fails {B:Nat}{w:World}{r:Nat}{st:CSt}(h:CR B w r st) (b:Bool) (e:Int):Calls Tryz.prog 80 #[.pointer (some ⟨r,0,none⟩),.bool b,.int .i64 e] w (Noted B r st b e w):=by
 unfold Noted
 obtain ⟨rv,cv,lv,mr,mc,ms,rvs,hd⟩:=h
 have hc:=hd.cells.2.2.2.2.2.2.2.2.2.2
 have hfz:=hd.free 10
 have HD:=Lib.hid hd
 clear hd
 cases b
 ·go_enter Tryz.func80,Tryz.ntmps80
  go_wp2_with fail
  go_end0
  exact ⟨rfl,by rw[CSt.fails_no];exact ⟨_,_,_,_,_,_,_,HD.out⟩,Only.refl _ _,fun _=>rfl⟩
 ·by_cases h0:st.e=0
  ·have hF:Hid (st.fails true e={ st with e:=e }):=by show _=_;simp[CSt.fails,h0]
   have h0':(st.e == 0)=true:=by simpa using h0
   clear h0
   go_enter Tryz.func80,Tryz.ntmps80
   go_wp2_with fail
   go_end0
   refine ⟨rfl,?_,(Only.refl _ _).setCell 10 _,fun h=>by cases h⟩
   rw[hF.out]
   exact ⟨_,_,_,_,_,_,_,HD.out.setE e⟩
  ·have hF:Hid (st.fails true e=st):=by show _=_;simp[CSt.fails,h0]
   have h0':(st.e == 0)=false:=by simpa using h0
   clear h0
   go_enter Tryz.func80,Tryz.ntmps80
   go_wp2_with fail
   go_end0
   exact ⟨rfl,by rw[hF.out];exact ⟨_,_,_,_,_,_,_,HD.out⟩,Only.refl _ _,fun _=>rfl⟩
set_option maxRecDepth 100000 in
theorem core_word {B:Nat}{w:World}{r:Nat}{st:CSt}(h:CR B w r st):Calls Tryz.prog 144 #[.pointer (some ⟨r,0,none⟩)] w (Worded B r st w):=by
 unfold Worded
 have CF:Hid (∀ b,Calls Tryz.prog 80 #[.pointer (some ⟨r,0,none⟩),.bool b,.int .i64 1] w (Noted B r st b 1 w)):=fun b=>core_fails h b 1
 obtain ⟨rv,cv,lv,mr,mc,ms,rvs,hd⟩:=h
 have hw:=hd.words
 obtain ⟨A,c,rfl,hlc,hcell⟩:=hw
 have hc:=hd.cells.2.2.2.2.2.2.2.2.2.1
 have HD:=Lib.hid hd
 have HC:=Lib.hid hcell
 clear hd hcell
 rcases hl:st.l with _|⟨s,l2⟩
 ·have hW:Hid (st.word=([],st.fails true 1)):=by
   show _=_
   unfold CSt.word
   rw[hl]
   simp only[List.isEmpty_nil]
   rw[if_neg]
   unfold CSt.fails
   by_cases h0:st.e=0
   ·simp[h0]
   ·simp[h0]
  have hne:Hid (((st.fails true 1).e != 0)=true):=by
   show _=_
   unfold CSt.fails
   by_cases h0:st.e=0
   ·simp[h0]
   ·simp[h0]
  have HL:=Lib.hid hl
  rw[hl]at hc
  have hz:(([]:List Txt).length:Nat)=0:=rfl
  rw[hz]at hc
  clear hl hz
  go_enter Tryz.func144,Tryz.ntmps144
  go_wp2_with fail
  refine (CF.out _).mono ?_
  rintro e w1 ⟨rfl,⟨rv1,cv1,lv1,mr1,mc1,ms1,rvs1,hd1⟩,hb1,_⟩
  have hc1:=hd1.cells.2.2.2.2.2.2.2.2.2.2
  have hne1:=hne.out
  have HD1:=Lib.hid hd1
  clear hd1
  go_wp2_with fail
  go_ret
  exact ⟨by rw[hW.out];rfl,by rw[hW.out];exact ⟨_,_,_,_,_,_,_,HD1.out⟩,hb1⟩
 ·obtain ⟨g,o,rfl,hgB,hc0,_⟩:=HC.out 0 s (by rw[hl];rfl)
  rw[Nat.zero_mul,Nat.add_zero]at hc0
  unfold StrR at hc0
  rw[hl]at hc hlc
  rw[List.length_cons]at hc hlc
  have hz:((l2.length:Int)+1 == 0)=false:=by rw[beq_eq_false_iff_ne];omega
  have HL:=Lib.hid hl
  have HF:Hid (st.fails false 1=st):=CSt.fails_no st 1
  have hcE:=HD.out.cells.2.2.2.2.2.2.2.2.2.2
  by_cases h0:st.e=0
  ·have hW:Hid (st.word=(s,{ st with l:=l2 })):=by
    show _=_
    unfold CSt.word
    rw[hl]
    simp[CSt.fails,h0,hl]
   have hne:(st.e != 0)=false:=by simp[h0]
   have hfz:=HD.out.free 9
   have hLW:Hid (StrsLow B w (.slice (some ⟨g,o,none⟩) (l2.length+1) c) (s :: l2)):=by
    have:=HD.out.words
    rw[hl]at this
    exact this
   clear hl h0
   go_enter Tryz.func144,Tryz.ntmps144
   go_wp2_with fail
   refine (CF.out _).mono ?_
   rintro e w1 ⟨rfl,_,_,hsame⟩
   obtain rfl:=hsame rfl
   clear CF HC HF hsame
   go_wp2_with fail
   ·go_ret
    exact ⟨by rw[hW.out];rfl,by rw[hW.out];exact ⟨_,_,_,_,_,_,_,HD.out.setL (low_none (by omega) (by omega))⟩,(Only.refl _ _).setCell 9 _⟩
   ·go_ret
    exact ⟨by rw[hW.out];rfl,by rw[hW.out];exact ⟨_,_,_,_,_,_,_,HD.out.setL (low_tail hLW.out)⟩,(Only.refl _ _).setCell 9 _⟩
  ·have hW:Hid (st.word=([],st)):=by
    show _=_
    unfold CSt.word
    rw[hl]
    simp[CSt.fails,h0]
   have hne:(st.e != 0)=true:=by simp[h0]
   clear hl h0
   go_enter Tryz.func144,Tryz.ntmps144
   go_wp2_with fail
   refine (CF.out _).mono ?_
   rintro e w1 ⟨rfl,_,_,hsame⟩
   obtain rfl:=hsame rfl
   clear CF HC HF hsame
   go_wp2_with fail
   go_ret
   exact ⟨by rw[hW.out];rfl,by rw[hW.out];exact ⟨_,_,_,_,_,_,_,HD.out⟩,Only.refl _ _⟩
end Go.Proofs.YtjipjfoambbofaaGreatDoor
end
section
namespace Vic
open Go Go.RowKit
def Alien (w:World) (b:Nat):Prop:=
 (∀ o u,w.cell? ⟨b,o,none⟩=some u→(∀ x,u≠.bool x)∧(∀ x,u≠.int .u32 x)) ∧
 (∀ A l c b' o' x,w.cell? ⟨b,0,none⟩=some (.slice A l c)→0<l→A=some ⟨b',o',none⟩→w.cell? ⟨b',o',none⟩≠some (.int .u32 x))
theorem cell_same {w w':World}{b:Nat}(h:w'.heap[b]?=w.heap[b]?) (o:Nat):w'.cell? ⟨b,o,none⟩=w.cell? ⟨b,o,none⟩:=by simp[World.cell?,h]
theorem NatPtr.stay {w w':World}{v:Value}{n:Nat}(h:NatPtr w v n) (h0:n≠0) (hs:∀ b,b<w.heap.size→Alien w b∨w'.heap[b]?=w.heap[b]?):NatPtr w' v n:=by
 obtain ⟨b,s,h1,h2,⟨A,c,rfl,h3,h4⟩,hbk⟩:=h
 have hl:0<(digs 4294967296 n).length:=by
  rcases Nat.eq_zero_or_pos (digs 4294967296 n).length with h5|h5
  ·exact absurd ((digs_eq_nil (by omega)).1 (List.eq_nil_of_length_eq_zero h5)) h0
  ·exact h5
 obtain ⟨b0,o0,hA,hc0⟩:=h4 0 hl
 have e1:w'.heap[b]?=w.heap[b]?:=by
  rcases hs b (block_lt h2)with h5|h5
  ·exact absurd hc0 (h5.2 A _ c b0 o0 _ h2 hl hA)
  ·exact h5
 have e2:w'.heap[b0]?=w.heap[b0]?:=by
  rcases hs b0 (block_lt hc0)with h5|h5
  ·exact absurd rfl ((h5.1 _ _ hc0).2 _)
  ·exact h5
 refine ⟨b,_,h1,by rw[cell_same e1];exact h2,⟨A,c,rfl,h3,fun i hi=>?_⟩,hbk.same e1⟩
 obtain ⟨b',o',hA',hc⟩:=h4 i hi
 rw[hA]at hA'
 injection hA' with hA'
 injection hA' with hb ho
 subst hb;subst ho
 exact ⟨b0,o0,hA,by rw[cell_same e2];exact hc⟩
theorem FracPtr.stay {w w':World}{v:Value}{q:Rat}(h:FracPtr w v q) (h0:q≠0) (hs:∀ b,b<w.heap.size→Alien w b∨w'.heap[b]?=w.heap[b]?):FracPtr w' v q:=by
 obtain ⟨b,pn,pd,h1,h2,h3,h4,h5,h6⟩:=h
 have e1:w'.heap[b]?=w.heap[b]?:=by
  rcases hs b (block_lt h2)with h7|h7
  ·exact absurd rfl ((h7.1 _ _ h2).1 _)
  ·exact h7
 have hn:q.num.natAbs≠0:=fun h=>h0 (Rat.num_eq_zero.1 (by omega))
 exact ⟨b,pn,pd,h1,by rw[cell_same e1];exact h2,by rw[cell_same e1];exact h3,by rw[cell_same e1];exact h4,((h5.ptr hn).stay hn hs).at_,h6.stay q.den_nz hs⟩
end Vic
namespace Go.Proofs.YtjipjfoambbofaaGreatDoor
open Go.RowKit Vic
end Go.Proofs.YtjipjfoambbofaaGreatDoor
end
section
namespace Vic
open Go Go.RowKit
theorem FracPtr.ptr {w:World}{v:Value}{q:Rat}(h:FracPtr w v q):∃ a,v=.pointer a:=by
 obtain ⟨b,_,_,h1,_⟩:=h
 exact ⟨_,h1⟩
end Vic
end
section
namespace Vic
open Go Go.RowKit
theorem OwnK.empty {Kd:Value→Prop}{w:World}{B g:Nat}{e:TypeId}{size:Nat}(h:Row w g e #[]) (hB:B≤g):OwnK Kd w B e size (.slice (some ⟨g,0,none⟩) 0 0) 0 []:=
 ⟨by simp,.inr ⟨g,0,#[],rfl,hB,h,Nat.le_refl _,Nat.zero_le _,by simp,by simp,fun u hu=>by simp at hu⟩⟩
end Vic
namespace Go.Proofs.YtjipjfoambbofaaGreatDoor
open Go.RowKit Vic
end Go.Proofs.YtjipjfoambbofaaGreatDoor
end
section
namespace Vic
open Go Go.RowKit
theorem tdg_le {n m:Nat}(h:n≤m):(tdg n).length≤(tdg m).length:=digs_length_mono (by omega) h
theorem tdg_mul_le (b m:Nat) (hm:m<10000):(tdg (b*m)).length≤(tdg b).length+1:=by
 refine tdg_len ?_
 have h1:=lt_pow_digs_length (B:=10000) (by omega) b
 rw[Nat.pow_succ]
 rcases Nat.eq_zero_or_pos m with h|h
 ·subst h;rw[Nat.mul_zero];exact Nat.mul_pos (Nat.pow_pos (by omega)) (by omega)
 ·exact Nat.mul_lt_mul_of_lt_of_lt h1 hm
theorem ref_one {w:World}{g:Nat}{t:TypeId}{d:Nat}(hr:Row w g t #[.int .i64 (d:Int)]) (h0:0<d) (h:d<10000):RefN w (.slice (some ⟨g,0,none⟩) 1 1) d:=by
 show Ints .i64 w _ (tdg d)
 rw[tdg_small h0 h]
 exact hr.ints (k:=.i64) (l:=[d]) 1 (by simp)
theorem append_ahead {P:Program}{w:World}{t ty e:TypeId}{i:TypeInfo}(ht:P.underlying t=some (.slice e)) (hi:P.info? e=some i) (hz:i.zero=some (.int .i64 0)) (hsize:i.size=1) (hby:i.bytes=8)
 {B g d:Nat}(hr:Row w g e #[.int .i64 (d:Int)]) (hB:B≤g) (hBw:B≤w.heap.size) {X:Value}{l:List Nat}(hX:Ints .i64 w X l) (hl:l.length≤1000000) :
 ∃ v' w',(Builtin.append_ #[t,t] ty #[.slice (some ⟨g,0,none⟩) 1 1,X]).run P w=.ok v' w'∧Ints .i64 w' v' (d :: l)∧Below B w w'∧Above B v':=by
 obtain ⟨A,c,rfl,hlc,hcell⟩:=hX
 have hown:OwnK intKind w B e 1 (.slice (some ⟨g,0,none⟩) 1 1) 1 [.int .i64 (d:Int)]:=
  ⟨by simp,.inr ⟨g,1,_,rfl,hB,hr,Nat.le_refl _,by unfold maxLen;omega,by simp,by simp,fun u hu=>by simp at hu;exact ⟨d,hu⟩⟩⟩
 have hone:Ints .i64 w (.slice (some ⟨g,0,none⟩) 1 1) [d]:=hr.ints (k:=.i64) (l:=[d]) 1 (by simp)
 rcases Nat.eq_zero_or_pos l.length with h0|h0
 ·obtain rfl:l = []:=List.eq_nil_of_length_eq_zero h0
  rcases A with _|a
  ·refine ⟨_,_,?_,hone,Below.refl _ _,above_slice hB⟩
   simp[Builtin.append_,run_underlying ht,Go.sizeOf,typeInfo,hi,Builtin.lenOf,run_firstCells_none,hsize,storeCells]
  ·have hrun:=run_append_room (P:=P) w t ty e i ht hi g 1 1 #[.int .i64 (d:Int)] hr a 0 c [] (by simp) (by simp) (by simp) (by omega) (by rw[hsize];simp)
   refine ⟨_,_,hrun,?_,?_,above_slice hB⟩
   ·have hrow:Row (w.setRow g (List.take (1*i.size) [Value.int .i64 (d:Int)] ++ [] ++ List.drop (1*i.size+([]:List Value).length) [Value.int .i64 (d:Int)]).toArray) g e #[.int .i64 (d:Int)]:=by
     have:=setRow_heap w g #[.int .i64 (d:Int)] (List.take (1*i.size) [Value.int .i64 (d:Int)] ++ [] ++ List.drop (1*i.size+([]:List Value).length) [Value.int .i64 (d:Int)]).toArray e (0,0) hr
     rw[hsize]at this ⊢
     exact this
    exact hrow.ints (k:=.i64) (l:=[d]) 1 (by simp)
   ·exact ⟨rfl,rfl,rfl,by simp,fun k hk=>setRow_other w g k _ (by omega)⟩
 ·obtain ⟨b1,o1,rfl,_⟩:=hcell 0 h0
  have hnews:∀ (j:Nat) u,(l.map fun (d:Nat)=>Value.int .i64 (d:Int))[j]?=some u→w.cell? ((⟨b1,o1,none⟩:Addr).add j)=some u:=fun j u hj=>by
   rw[List.getElem?_map]at hj
   cases hd:l[j]? with
   | none=>rw[hd]at hj;cases hj
   | some d=>
     rw[hd]at hj
     cases hj
     have hjl:=(List.getElem?_eq_some_iff.1 hd).1
     obtain ⟨b2,o2,he,hc2⟩:=hcell j hjl
     injection he with he
     injection he with he1 he2
     subst he1;subst he2
     rw[show (⟨b1,o1,none⟩:Addr).add j=⟨b1,o1+j,none⟩ by simp[Addr.add],hc2]
     rw[List.getD_eq_getElem?_getD,hd];rfl
  obtain ⟨v',w',h1,h2,h3,_⟩:=OwnK.append (P:=P) (ty:=ty) ht hi hz hsize rfl (by omega) hown ⟨b1,o1,none⟩ l.length c (l.map fun (d:Nat)=>Value.int .i64 (d:Int)) (by simp) hnews (by simp[Value.oneCell']) (by simp[intKind]) (by simp[intKind,Value.cells]) h0 (by unfold maxLen;omega) (by rw[hby];omega) hBw
  obtain ⟨g2,c2,hv2⟩:=h2.shape (by omega)
  refine ⟨v',w',h1,?_,hown.below (Below.refl _ _) (Below.refl _ _) h3 hBw,?_⟩
  case refine_2=>rw[hv2];exact above_slice (h2.lt (by rw[hv2];rfl)).1
  have h4:OwnK intKind w' B e 1 v' (d :: l).length ((d :: l).map fun (d:Nat)=>Value.int .i64 (d:Int)):=by
   have e:(d :: l).length=1+l.length:=by simp;omega
   rw[e];exact h2
  exact h4.ints
theorem wpList_append_ahead {P:Program}{ops:Array Oper}{rest:List Oper}{o:Oper}{a:Act}{w:World}{Q:Exit→Act→World→Prop}(hgd:o.guard=none) (s x:Operand) (t:TypeId)
 (ho:o.op=.call { callee:=.builtin .append,args:=#[s,x],argTypes:=#[t,t] }) (B:Nat) (e:TypeId) (i:TypeInfo) (ht:P.underlying t=some (.slice e)) (hi:P.info? e=some i) (hz:i.zero=some (.int .i64 0)) (hsize:i.size=1) (hby:i.bytes=8)
 (g d:Nat) (hs:a.eval s=.slice (some ⟨g,0,none⟩) 1 1) (hr:Row w g e #[.int .i64 (d:Int)]) (hB:B≤g) (hBw:B≤w.heap.size) (X:Value) (l:List Nat) (hx:a.eval x=X) (hX:Ints .i64 w X l) (hl:l.length≤1000000)
 (h:∀ v' w',Ints .i64 w' v' (d :: l)→Below B w w'→Above B v'→wpList P ops Q rest (a.put o.dst v') w'):wpList P ops Q (o :: rest) a w:=by
 refine wpList_plain hgd fun K hK=>?_
 obtain ⟨v',w',hrun,h2,h3,h4⟩:=append_ahead (P:=P) (ty:=o.type) ht hi hz hsize hby hr hB hBw hX hl
 unfold Oper.wp execOp
 simp only[ho,resolve,invoke,builtin,Sem.run_bind,Sem.run_pure,Result.andThen_ok,List.map_toArray,List.map_cons,List.map_nil,hs,hx,hrun]
 exact hK _ _ (h v' w' h2 h3 h4)
end Vic
end
section
namespace Vic
open Go Go.RowKit
theorem len_mul {a b i j k:Nat}(ha:(dgs a).length≤i) (hb:(dgs b).length≤j) (h:i+j≤k):(dgs (a*b)).length≤k:=
 Nat.le_trans (sz_mul a b) (Nat.le_trans (Nat.add_le_add ha hb) h)
end Vic
namespace Go.Proofs.YtjipjfoambbofaaGreatDoor
open Go.RowKit Vic
end Go.Proofs.YtjipjfoambbofaaGreatDoor
end
section
namespace Vic
open Go
set_option maxRecDepth 100000 in
theorem atoi_small_all:∀ k:Fin 101,(match Lib.atoiAll (Lib.decDigits k.1)with | .ok v=>v == (k.1:Int)|_=>false)=true:=by decide +kernel
theorem atoi_small (n:Nat) (h:n≤100):Lib.atoiAll (Lib.decDigits n)=.ok (n:Int):=by
 have h1:=atoi_small_all ⟨n,by omega⟩
 have h2:(match Lib.atoiAll (Lib.decDigits n)with | .ok v=>v == (n:Int)|_=>false)=true:=h1
 rcases hx:Lib.atoiAll (Lib.decDigits n)with v|_|_
 ·rw[hx]at h2
  have h3:(v == (n:Int))=true:=h2
  rw[beq_iff_eq.1 h3]
 ·rw[hx]at h2;cases h2
 ·rw[hx]at h2;cases h2
end Vic
namespace Go.Proofs.YtjipjfoambbofaaGreatDoor
open Go.RowKit Vic
set_option maxRecDepth 100000 in
set_option maxHeartbeats 2000000 in
theorem lit_exponent (w:World) (en:Bool) (n:Nat) (hn:n≤100) (hz:en=true→n≠0) :
 Calls Tryz.prog 197 #[.string ⟨(sgnT en (Lib.decDigits n)).toArray⟩] w (Keeps (.tuple #[.int .i64 (sgn en n),.bool true]) w):=by
 have hat:=atoi_small n hn
 have hdl:(Lib.decDigits n).length≤3:=dec_len (k:=2) (by omega)
 have hdg:=dec_isDig n
 obtain ⟨c,r,hD⟩:∃ c r,Lib.decDigits n=c :: r:=by
  rcases h:Lib.decDigits n with _|⟨c,r⟩
  ·exact absurd h (dec_ne n)
  ·exact ⟨c,r,rfl⟩
 rw[hD]at hat hdl hdg ⊢
 have hc45:c≠45:=dig_ne (hdg c List.mem_cons_self) (by decide)
 have hc43:c≠43:=dig_ne (hdg c List.mem_cons_self) (by decide)
 have CA:Hid (∀ wr,Calls Tryz.prog 252 #[.string ⟨(c :: r).toArray⟩] wr (Keeps (.tuple #[.int .i64 n,.nilIface]) wr)):=Lib.hid fun wr=>by
  refine (Go.Proofs.Tryz.strconv_Atoi_ok ⟨(c :: r).toArray⟩ (by show (c :: r).toArray.size≤_;simp at hdl ⊢;omega) n hat wr).mono ?_
  rintro e w' ⟨rfl,rfl|⟨t,rfl⟩⟩
  ·exact ⟨rfl,Below.refl _ _⟩
  ·exact ⟨rfl,Lib.bytesWorld_below _ _ _⟩
 have CD:Hid (∀ wr,Calls Tryz.prog 198 #[.string ⟨(c :: r).toArray⟩] wr (Keeps (.bool true) wr)):=Lib.hid fun wr=>by
  have:=lit_digits wr (c :: r) (by omega)
  rwa [decide_eq_true hdg]at this
 have hlen:(r.length:Int)+1≤3:=by simp at hdl;omega
 have hn':(n:Int)≤100:=by omega
 cases en
 ·have C1:Hid (∀ wr,Calls Tryz.prog 195 #[.string ⟨(c :: r).toArray⟩,.string ⟨#[43]⟩] wr (Rets (.string ⟨(c :: r).toArray⟩) wr)):=Lib.hid fun wr=>by
   have:=strings_TrimPrefix wr (c :: r) [43]
   rwa [show Lib.trimPrefix (c :: r) [43]=c :: r by simp[Lib.trimPrefix,Lib.hasPrefix,pre_one,Ne.symm hc43]]at this
  have C2:Hid (∀ wr,Calls Tryz.prog 195 #[.string ⟨(c :: r).toArray⟩,.string ⟨#[45]⟩] wr (Rets (.string ⟨(c :: r).toArray⟩) wr)):=Lib.hid fun wr=>by
   have:=strings_TrimPrefix wr (c :: r) [45]
   rwa [(trim_pos r hc45).1]at this
  obtain ⟨T,hT⟩:∃ T:List UInt8,T=c :: r:=⟨_,rfl⟩
  obtain ⟨h0,hb⟩:∃ h0:0<(⟨T.toArray⟩:ByteArray).size,(((((⟨T.toArray⟩:ByteArray)[0]'h0).toNat:Int)) == 45)=false:=by
   subst hT
   refine ⟨by show 0<(c :: r).toArray.size;simp,?_⟩
   have h2:c.toNat≠45:=fun e=>hc45 (UInt8.toNat_inj.1 e)
   show ((c.toNat:Int) == 45)=false
   rw[beq_eq_false_iff_ne];omega
  have hT0:0<T.length:=by rw[hT];simp
  have hTl:(T.length:Int)≤3:=by rw[hT];simp;omega
  show Calls Tryz.prog 197 #[.string ⟨(c :: r).toArray⟩] w _
  rw[← hT]at C1 C2 CA CD ⊢
  have hs:sgn false n=(n:Int):=rfl
  rw[hs]
  clear hT hdg hat hD hdl hlen hc45 hc43 hz
  go_enter Tryz.func197,Tryz.ntmps197
  go_wp2_with fail
  refine (C1.out _).mono ?_
  rintro e w' ⟨rfl,rfl⟩
  go_wp2_with fail
  refine (C2.out _).mono ?_
  rintro e w' ⟨rfl,rfl⟩
  go_wp2_with fail
  refine (CA.out _).mono ?_
  rintro e w1 ⟨rfl,hb1⟩
  go_wp2_with fail
  refine (CD.out _).mono ?_
  rintro e w2 ⟨rfl,hb2⟩
  go_wp2_with fail
  go_ret2
  exact ⟨rfl,below_seq hb1 hb2⟩
 ·have C1:Hid (∀ wr,Calls Tryz.prog 195 #[.string ⟨((45:UInt8) :: c :: r).toArray⟩,.string ⟨#[43]⟩] wr (Rets (.string ⟨((45:UInt8) :: c :: r).toArray⟩) wr)):=Lib.hid fun wr=>by
   have:=strings_TrimPrefix wr (45 :: c :: r) [43]
   rwa [show Lib.trimPrefix (45 :: c :: r) [43]=45 :: c :: r by simp[Lib.trimPrefix,Lib.hasPrefix,pre_one]]at this
  have C2:Hid (∀ wr,Calls Tryz.prog 195 #[.string ⟨((45:UInt8) :: c :: r).toArray⟩,.string ⟨#[45]⟩] wr (Rets (.string ⟨(c :: r).toArray⟩) wr)):=Lib.hid fun wr=>by
   have:=strings_TrimPrefix wr (45 :: c :: r) [45]
   rwa [(trim_neg (c :: r)).1]at this
  obtain ⟨D,hDD⟩:∃ D:List UInt8,D=c :: r:=⟨_,rfl⟩
  have hDl:(D.length:Int)≤3:=by rw[hDD];simp;omega
  obtain ⟨T,hT⟩:∃ T:List UInt8,T=45 :: c :: r:=⟨_,rfl⟩
  obtain ⟨h0,hb⟩:∃ h0:0<(⟨T.toArray⟩:ByteArray).size,(((((⟨T.toArray⟩:ByteArray)[0]'h0).toNat:Int)) == 45)=true:=by
   subst hT
   exact ⟨by show 0<((45:UInt8) :: c :: r).toArray.size;simp,rfl⟩
  have hT0:0<T.length:=by rw[hT];simp
  show Calls Tryz.prog 197 #[.string ⟨((45:UInt8) :: c :: r).toArray⟩] w _
  rw[← hT]at C1 C2 ⊢
  rw[← hDD]at C2 CA CD
  have hs:sgn true n=-(n:Int):=rfl
  rw[hs]
  clear hT hDD hdg hat hD hdl hlen hc45 hc43 hz
  go_enter Tryz.func197,Tryz.ntmps197
  go_wp2_with fail
  refine (C1.out _).mono ?_
  rintro e w' ⟨rfl,rfl⟩
  go_wp2_with fail
  refine (C2.out _).mono ?_
  rintro e w' ⟨rfl,rfl⟩
  go_wp2_with fail
  refine (CA.out _).mono ?_
  rintro e w1 ⟨rfl,hb1⟩
  go_wp2_with fail
  refine (CD.out _).mono ?_
  rintro e w2 ⟨rfl,hb2⟩
  go_wp2_with fail
  go_ret2
  exact ⟨rfl,below_seq hb1 hb2⟩
end Go.Proofs.YtjipjfoambbofaaGreatDoor
end
section
namespace Vic
open Go Go.RowKit
theorem parse10_ok (l:List UInt8) (h:∀ c∈l,isDig c=true) (acc j:Nat) (ha:acc<10 ^ j) (hj:l.length+j≤9):Lib.parseUint10 acc l=.ok (numOf acc l):=by
 induction l generalizing acc j with
 | nil=>rfl
 | cons c r ih=>
   have h1:=isDig_iff.1 (h c (by simp))
   rw[List.length_cons]at hj
   have h2:(10:Nat) ^ (j+1)≤10 ^ 9:=Nat.pow_le_pow_right (by omega) (by omega)
   have h4:(10:Nat) ^ (j+1)=10 ^ j*10:=Nat.pow_succ _ _
   have h3:acc*10+(c.toNat - 48)<10 ^ (j+1):=by omega
   rw[Lib.parseUint10,if_pos h1,if_neg (by omega),if_neg (by omega)]
   exact ih (fun x hx=>h x (by simp[hx])) _ (j+1) h3 (by omega)
theorem atoi_digs {t:List UInt8}(h0:t≠[]) (hl:t.length≤3) (h:∀ c∈t,isDig c=true):Lib.atoiAll t=.ok (numOf 0 t:Int):=by
 rcases t with _|⟨c,r⟩
 ·exact absurd rfl h0
 ·have hc:=isDig_iff.1 (h c List.mem_cons_self)
  have h1:Lib.parseUint10 0 (c :: r)=.ok (numOf 0 (c :: r)):=parse10_ok _ h 0 0 (by simp) (by simp at hl ⊢;omega)
  have hlt:numOf 0 (c :: r)<10 ^ 3:=Nat.lt_of_lt_of_le (numOf_lt _ h) (Nat.pow_le_pow_right (by omega) hl)
  have e1:¬ (c.toNat=43∨c.toNat=45):=by omega
  have e2:¬ c.toNat=45:=by omega
  have h2:Lib.parseMag (c :: r)=.ok (numOf 0 (c :: r)):=by
   rw[Lib.parseMag,if_neg (by simp),h1]
  simp only[Lib.atoiAll,if_neg e1,h2]
  rw[if_neg (by omega),if_neg (fun h=>e2 h.1),if_neg e2]
def AtoiGot (t:List UInt8) (w:World) (e:Ending) (w':World):Prop:=
 (∃ v,Lib.atoiAll t=.ok v∧e=.returned (.tuple #[.int .i64 v,.nilIface])∧Below w.heap.size w w') ∨
 ((∀ v,Lib.atoiAll t≠.ok v)∧∃ a te pe,e=.returned (.tuple #[.int .i64 a,.iface te pe])∧Below w.heap.size w w')
def ErrCell (w:World) (g:Nat):Prop:=∃ ev,w.cell? ⟨g,0,none⟩=some ev∧(ev=.nilIface∨∃ te pe,ev=.iface te pe)
theorem ErrCell.keep {w w':World}{g:Nat}(h:ErrCell w g) (hb:Below w.heap.size w w'):ErrCell w' g:=by
 obtain ⟨ev,h1,h2⟩:=h;exact ⟨ev,cell_keep h1 hb,h2⟩
def ExpGot (o:Option Int) (w:World) (e:Ending) (w':World):Prop:=
 (∃ v,o=some v∧e=.returned (.tuple #[.int .i64 v,.bool true])∧Below w.heap.size w w')∨(o=none∧e=.returned (.tuple #[.int .i64 0,.bool false])∧Below w.heap.size w w')
theorem expD_none {neg:Bool}{t:List UInt8}(h:¬ (t≠[]∧t.length≤3∧(∀ c∈t,isDig c=true)∧numOf 0 t≤100)):expD neg t=none:=by unfold expD;rw[if_neg h]
theorem expD_some {neg:Bool}{t:List UInt8}(h:t≠[]∧t.length≤3∧(∀ c∈t,isDig c=true)∧numOf 0 t≤100):expD neg t=some (sgn neg (numOf 0 t)):=by unfold expD;rw[if_pos h]
end Vic
namespace Go.Proofs.YtjipjfoambbofaaGreatDoor
open Go.RowKit Vic
structure TabE (w:World):Prop where
 tab:Tab w
 es:ErrCell w 1
 er:ErrCell w 2
theorem TabE.keep {w w':World}(h:TabE w) (hb:Below w.heap.size w w'):TabE w':=⟨h.tab.keep hb,h.es.keep hb,h.er.keep hb⟩
theorem atoi_gen (w:World) (t:List UInt8) (hl:t.length≤1000) (ht:TabE w):Calls Tryz.prog 252 #[.string ⟨t.toArray⟩] w (AtoiGot t w):=by
 have hsz:(⟨t.toArray⟩:ByteArray).size=t.length:=by show t.toArray.size=_;simp
 rcases hx:Lib.atoiAll t with v|_|_
 ·refine (Go.Proofs.Tryz.strconv_Atoi_ok ⟨t.toArray⟩ (by rw[hsz];omega) v hx w).mono ?_
  rintro e w' ⟨rfl,rfl|⟨t,rfl⟩⟩
  ·exact .inl ⟨v,hx,rfl,Below.refl _ _⟩
  ·exact .inl ⟨v,hx,rfl,Lib.bytesWorld_below _ _ _⟩
 ·obtain ⟨ev,h1,h2⟩:=ht.es
  refine (Go.Proofs.Tryz.strconv_Atoi_syntax ⟨t.toArray⟩ (by rw[hsz];omega) hx ev w h1 h2).mono ?_
  rintro e w' ⟨N,rfl,_,_,hb⟩
  exact .inr ⟨fun v h=>(by rw[hx]at h;cases h),_,_,_,rfl,hb⟩
 ·obtain ⟨ev,h1,h2⟩:=ht.er
  refine (Go.Proofs.Tryz.strconv_Atoi_range ⟨t.toArray⟩ (by rw[hsz];omega) hx ev w h1 h2).mono ?_
  rintro e w' ⟨N,rfl,_,_,hb⟩
  exact .inr ⟨fun v h=>(by rw[hx]at h;cases h),_,_,_,rfl,hb⟩
set_option maxRecDepth 100000 in
set_option maxHeartbeats 8000000 in
theorem lit_exponent_gen (w:World) (x:List UInt8) (hx:x.length≤40) (ht:TabE w):Calls Tryz.prog 197 #[.string ⟨x.toArray⟩] w (ExpGot (expo x) w):=by
 obtain ⟨t,neg,plus,hp,hne,hm',htl,hb⟩:∃ (t:List UInt8) (neg plus:Bool),Lib.trimPrefix x [43]=(if plus then t else x)∧(plus=true→(t == x)=false)∧(plus=false→Lib.trimPrefix x [45]=t)∧t.length≤40∧(expo x=expD neg t∧(t≠[]→∃ h0:0<(⟨x.toArray⟩:ByteArray).size,((((⟨x.toArray⟩:ByteArray)[0]'h0).toNat:Int) == 45)=neg)):=by
  rcases x with _|⟨c,r⟩
  ·exact ⟨[],false,false,rfl,fun h=>(by cases h),fun _=>rfl,by simp,(expD_none (fun h=>h.1 rfl)).symm,fun h=>absurd rfl h⟩
  ·have h0:0<(⟨(c :: r).toArray⟩:ByteArray).size:=by show 0<(c :: r).toArray.size;simp
   by_cases h43:c=43
   ·subst h43
    refine ⟨r,false,true,by simp[Lib.trimPrefix,Lib.hasPrefix,pre_one],fun _=>?_,fun h=>(by cases h),by simp at hx;omega,by simp[expo],fun _=>⟨h0,rfl⟩⟩
    rw[beq_eq_false_iff_ne]
    intro h
    have:=congrArg List.length h
    simp at this
   ·by_cases h45:c=45
    ·subst h45
     exact ⟨r,true,false,by simp[Lib.trimPrefix,Lib.hasPrefix,pre_one],fun h=>(by cases h),fun _=>(trim_neg r).1,by simp at hx;omega,by simp[expo],fun _=>⟨h0,rfl⟩⟩
    ·refine ⟨c :: r,false,false,by simp[Lib.trimPrefix,Lib.hasPrefix,pre_one,Ne.symm h43],fun h=>(by cases h),fun _=>(trim_pos r h45).1,hx,by simp[expo,h43,h45],fun _=>⟨h0,?_⟩⟩
     have h2:c.toNat≠45:=fun e=>h45 (UInt8.toNat_inj.1 e)
     show ((c.toNat:Int) == 45)=false
     rw[beq_eq_false_iff_ne];omega
 obtain ⟨hex,hb⟩:=hb
 obtain ⟨y,hy⟩:∃ y,y=(if plus then t else x):=⟨_,rfl⟩
 rw[← hy]at hp
 have C1:Hid (∀ wr,Calls Tryz.prog 195 #[.string ⟨x.toArray⟩,.string ⟨#[43]⟩] wr (Rets (.string ⟨y.toArray⟩) wr)):=Lib.hid fun wr=>by
  have:=strings_TrimPrefix wr x [43]
  rwa [hp]at this
 have C2:Hid (plus=false→∀ wr,Calls Tryz.prog 195 #[.string ⟨x.toArray⟩,.string ⟨#[45]⟩] wr (Rets (.string ⟨t.toArray⟩) wr)):=Lib.hid fun h wr=>by
  have:=strings_TrimPrefix wr x [45]
  rwa [hm' h]at this
 have CA:Hid (∀ wr,Below w.heap.size w wr→Calls Tryz.prog 252 #[.string ⟨t.toArray⟩] wr (AtoiGot t wr)):=Lib.hid fun wr h=>atoi_gen wr t (by omega) (ht.keep h)
 have CD:Hid (∀ wr,Calls Tryz.prog 198 #[.string ⟨t.toArray⟩] wr (Keeps (.bool (decide (∀ c∈t,isDig c=true))) wr)):=Lib.hid fun wr=>lit_digits wr t (by omega)
 have HEX:=Lib.hid hex;have HB:=Lib.hid hb
 have htl':(t.length:Int)≤40:=by omega
 clear hp hm' ht hex hb
 cases plus
 case' false=>
  change y=x at hy
  have hy2:=hy.symm
  clear hy
  subst hy2
 case' true=>
  change y=t at hy
  have hy2:=hy.symm
  clear hy
  subst hy2
  have hne2:=hne rfl
 all_goals
  clear hne
  go_enter Tryz.func197,Tryz.ntmps197
  go_wp2_with fail
  refine (C1.out _).mono ?_
  rintro e w' ⟨rfl,rfl⟩
  go_wp2_with fail
 all_goals first
  | (go_at_call 195
     refine (C2.out (by first|rfl|trivial) _).mono ?_
     rintro e w' ⟨rfl,rfl⟩
     go_wp2_with fail)
  | skip
 all_goals
  clear C1 C2
  go_at_call 252
  refine (CA.out _ (Below.refl _ _)).mono ?_
  rintro e w1 (⟨v,hv,rfl,hb1⟩|⟨hno,a,te,pe,rfl,hb1⟩)
 all_goals first
  | (have hno1:=hno
     clear CA CD
     go_wp2_with fail
     go_ret2
     refine .inr ⟨?_,rfl,hb1⟩
     rw[HEX.out]
     exact expD_none fun h=>hno1 _ (atoi_digs h.1 h.2.1 h.2.2.1))
  | (have HV:=Lib.hid hv
     clear CA hv
     go_wp2_with fail
     go_at_call 198
     by_cases hd:∀ c∈t,isDig c=true
     ·have CD1:Hid (∀ wr,Calls Tryz.prog 198 #[.string ⟨t.toArray⟩] wr (Keeps (.bool true) wr)):=Lib.hid fun wr=>by
       have h:=CD.out wr
       rwa [decide_eq_true hd]at h
      have HD:=Lib.hid hd
      clear CD hd
      refine (CD1.out _).mono ?_
      rintro e w2 ⟨rfl,hb2⟩
      have B2:=below_seq hb1 hb2
      by_cases hl3:t.length≤3
      ·have hne0:t≠[]:=fun h=>by have h1:=HV.out;rw[h]at h1;cases h1
       obtain ⟨h0,hby⟩:=HB.out hne0
       have hvn:v=(numOf 0 t:Int):=by
        have h1:=HV.out
        rw[atoi_digs hne0 hl3 HD.out]at h1
        injection h1 with h1
        exact h1.symm
       subst hvn
       have HN0:=Lib.hid hne0
       have h1000:numOf 0 t<1000:=Nat.lt_of_lt_of_le (numOf_lt _ HD.out) (Nat.pow_le_pow_right (by omega) hl3)
       obtain ⟨n,hn⟩:∃ n,n=numOf 0 t:=⟨_,rfl⟩
       rw[← hn]at h1000 ⊢
       have HNN:=Lib.hid hn
       have hl3':¬ (3:Int)<(t.length:Int):=by omega
       clear HB hn hne0 HV CD1
       by_cases h100:n≤100
       ·have h100':¬ (100:Int)<(n:Int):=by omega
        cases neg
        all_goals
         go_wp2_with fail
         go_ret2
         refine .inl ⟨_,?_,rfl,B2⟩
         rw[HEX.out,expD_some ⟨HN0.out,hl3,HD.out,by rw[← HNN.out];exact h100⟩,← HNN.out]
         rfl
       ·have h100':(100:Int)<(n:Int):=by omega
        go_wp2_with fail
        go_ret2
        refine .inr ⟨?_,rfl,B2⟩
        rw[HEX.out]
        exact expD_none fun h=>h100 (by rw[HNN.out];exact h.2.2.2)
      ·have hl3':(3:Int)<(t.length:Int):=by omega
       clear HB HV CD1
       go_wp2_with fail
       go_ret2
       refine .inr ⟨?_,rfl,B2⟩
       rw[HEX.out]
       exact expD_none fun h=>hl3 h.2.1
     ·have CD1:Hid (∀ wr,Calls Tryz.prog 198 #[.string ⟨t.toArray⟩] wr (Keeps (.bool false) wr)):=Lib.hid fun wr=>by
       have h:=CD.out wr
       rwa [decide_eq_false hd]at h
      have HD:=Lib.hid hd
      clear CD hd HB HV
      refine (CD1.out _).mono ?_
      rintro e w2 ⟨rfl,hb2⟩
      have B2:=below_seq hb1 hb2
      go_wp2_with fail
      go_ret2
      refine .inr ⟨?_,rfl,B2⟩
      rw[HEX.out]
      exact expD_none fun h=>HD.out h.2.2.1)
end Go.Proofs.YtjipjfoambbofaaGreatDoor
end
section
namespace Go.Proofs.YtjipjfoambbofaaGreatDoor
open Go.RowKit Vic
set_option maxRecDepth 100000 in
set_option maxHeartbeats 4000000 in
theorem lit_Get_long (w:World) (l:List UInt8) (hl:40<l.length) (hl2:l.length≤1000000000):Calls Tryz.prog 121 #[.string ⟨l.toArray⟩] w (GivesNo w):=by
 have h1:(40:Int)<(l.length:Int):=by omega
 go_enter Tryz.func121,Tryz.ntmps121
 go_wp2_with fail
 go_ret2
 exact ⟨rfl,Below.refl _ _⟩
set_option maxRecDepth 100000 in
set_option maxHeartbeats 4000000 in
theorem lit_Get_frac (w:World) (ht:Tab w) (l:List UInt8) (hl:l.length≤40) (hg:FracGood l):Calls Tryz.prog 121 #[.string ⟨l.toArray⟩] w (GivesOk (fun x w'=>FracPtr w' x (fracOf l)) w):=by
 have CF:Hid (Calls Tryz.prog 101 #[.string ⟨l.toArray⟩] w (fun e w'=>∃ z,e=.returned (.tuple #[z,.bool true])∧FracPtr w' z (fracOf l)∧Below w.heap.size w w')):=by
  refine (frac_Get w l (by omega) ht).mono ?_
  rintro e w' (⟨h,_⟩|⟨_,z,rfl,hz,_,hb⟩)
  ·exact absurd hg h
  ·exact ⟨z,rfl,hz,hb⟩
 clear ht hg
 go_enter Tryz.func121,Tryz.ntmps121
 go_wp2_with fail
 refine CF.out.mono ?_
 rintro e w1 ⟨z,rfl,hz,hb1⟩
 obtain ⟨z0,rfl⟩:∃ z0,z=.pointer z0:=by
  obtain ⟨bz,_,_,h,_⟩:=hz
  exact ⟨_,h⟩
 have HZ:=Lib.hid hz
 clear hz CF
 go_wp2_with fail
 go_ret2
 exact ⟨_,rfl,HZ.out,hb1⟩
end Go.Proofs.YtjipjfoambbofaaGreatDoor
end
section
namespace Vic
open Go Go.RowKit
theorem cut_len {m a b:List UInt8}{dot:Bool}(h:Lib.cut m [46]=(a,b,dot)):a.length+b.length≤m.length∧∀ e,mant m e=if mantOk a b then some (numOf 0 (a ++ b),e - b.length)else none:=by
 refine ⟨?_,fun e=>by unfold mant;rw[h]⟩
 by_cases h46:(46:UInt8)∈m
 ·obtain ⟨c,d,rfl,hc⟩:=List.eq_append_cons_of_mem h46
  rw[cut_app d hc]at h
  simp only[Prod.mk.injEq]at h
  obtain ⟨rfl,rfl,_⟩:=h
  simp
 ·rw[cut_none h46]at h
  simp only[Prod.mk.injEq]at h
  obtain ⟨rfl,rfl,_⟩:=h
  simp
theorem num40_len {n:Nat}(h:n<10 ^ 40):sz n≤5:=digs_length_le (B:=4294967296) (by omega) (Nat.lt_trans h (by decide +kernel))
theorem can_zero:Canon [48]:=⟨by simp,fun c h=>by simp at h;subst h;decide,.inl rfl⟩
end Vic
namespace Go.Proofs.YtjipjfoambbofaaGreatDoor
open Go.RowKit Vic
def LitGot (s:List UInt8) (w:World) (e:Ending) (w':World):Prop:=
 (litBody (strip s)=none∧GivesNo w e w')∨(∃ n p,litBody (strip s)=some (n,p)∧n<10 ^ 40∧-140≤p∧p≤100∧GivesOk (fun x w'=>FracPtr w' x (qv (neg0 s) n p)) w e w')
set_option maxRecDepth 100000 in
set_option maxHeartbeats 16000000 in
theorem lit_Get_gen (w:World) (ht:TabE w) (S:List UInt8) (hl:S.length≤40) (hnog:¬ FracGood S)
 (hix:∀ wr,Calls Tryz.prog 196 #[.string ⟨(strip S).toArray⟩,.string ⟨#[101,69]⟩] wr (Keeps (.int .i64 (Lib.indexAny (strip S) [101,69])) wr)) :
 Calls Tryz.prog 121 #[.string ⟨S.toArray⟩] w (LitGot S w):=by
 obtain ⟨P1,P2,P3⟩:=strip_neg S
 have hTl:=strip_len S
 obtain ⟨T,hT⟩:∃ T,T=strip S:=⟨_,rfl⟩
 obtain ⟨neg,hneg⟩:∃ neg,neg=neg0 S:=⟨_,rfl⟩
 unfold LitGot
 rw[← hT]at P2 P3 hTl hix ⊢
 rw[← hneg]at P1 P2 P3 ⊢
 have CG:Hid (Calls Tryz.prog 101 #[.string ⟨S.toArray⟩] w (GivesNo w)):=by
  refine (frac_Get w S (by omega) ht.tab).mono ?_
  rintro e w' (⟨_,h⟩|⟨h,_⟩)
  ·exact h
  ·exact absurd h hnog
 have CH:Hid (∀ wr,Calls Tryz.prog 194 #[.string ⟨S.toArray⟩,.string ⟨#[45]⟩] wr (Rets (.bool neg) wr)):=Lib.hid fun wr=>by
  have h:=strings_HasPrefix wr S [45]
  rwa [P1]at h
 obtain ⟨Y,hY⟩:∃ Y,Y=(if neg then T else S):=⟨_,rfl⟩
 have CP1:Hid (∀ wr,Calls Tryz.prog 195 #[.string ⟨S.toArray⟩,.string ⟨#[45]⟩] wr (Rets (.string ⟨Y.toArray⟩) wr)):=Lib.hid fun wr=>by
  have h:=strings_TrimPrefix wr S [45]
  rwa [P2,← hY]at h
 have CP2:Hid (neg=false→∀ wr,Calls Tryz.prog 195 #[.string ⟨S.toArray⟩,.string ⟨#[43]⟩] wr (Rets (.string ⟨T.toArray⟩) wr)):=Lib.hid fun hn wr=>by
  have h:=strings_TrimPrefix wr S [43]
  rwa [P3 hn]at h
 have HT:=Lib.hid ht
 have CX:Hid (∀ (x:List UInt8) wr,x.length≤40→Below w.heap.size w wr→Calls Tryz.prog 197 #[.string ⟨x.toArray⟩] wr (ExpGot (expo x) wr)):=Lib.hid fun x wr hx h=>lit_exponent_gen wr x hx (HT.out.keep h)
 have CC:Hid (∀ (M a b:List UInt8) dot wr,M.length≤40→Lib.cut M [46]=(a,b,dot)→Below w.heap.size w wr→Calls Tryz.prog 33 #[.string ⟨M.toArray⟩,.string ⟨#[46]⟩] wr (Keeps (.tuple #[.string ⟨a.toArray⟩,.string ⟨b.toArray⟩,.bool dot]) wr)):=Lib.hid fun M a b dot wr hM hc h=>by
  have h1:=strings_Cut wr (HT.out.tab.keep h) M [46] (by omega)
  rwa [hc]at h1
 have CD:Hid (∀ (x:List UInt8) wr,x.length≤40→Calls Tryz.prog 198 #[.string ⟨x.toArray⟩] wr (Keeps (.bool (decide (∀ c∈x,isDig c=true))) wr)):=Lib.hid fun x wr hx=>lit_digits wr x (by omega)
 have CTL:Hid (∀ (D:List UInt8) wr,Calls Tryz.prog 199 #[.string ⟨D.toArray⟩,.string ⟨#[48]⟩] wr (Rets (.string ⟨(Lib.trimLeftB D 48).toArray⟩) wr)):=Lib.hid fun D wr=>by
  refine (Go.Proofs.Tryz.strings_TrimLeft_one ⟨D.toArray⟩ 48 (by decide) wr).mono ?_
  rintro e w' ⟨rfl,rfl⟩
  exact ⟨rfl,rfl⟩
 have CN:Hid (∀ (D:List UInt8) n wr,Canon D→D.length≤40→n=numOf 0 D→Calls Tryz.prog 120 #[.string ⟨D.toArray⟩] wr (GivesOk (fun x w'=>NatPtr w' x n) wr)):=Lib.hid fun D n wr h1 h2 h3=>by
  rw[h3];exact nat_Get_yes wr D ⟨h1,by omega⟩
 have CFN:Hid (∀ wr u v n d,NatAt wr u n→NatAt wr v d→d≠0→sz n≤10000→sz d≤10000→Calls Tryz.prog 200 #[.bool neg,u,v] wr (GivesOk (fun x w'=>FracPtr w' x (quo neg n d)) wr)):=Lib.hid fun wr u v n d hu hv h0 hnl hdl=>frac_New wr neg u v n d hu hv h0 (by omega) (by omega)
 have CMU:Hid (∀ wr u v n d,NatAt wr u n→NatAt wr v d→sz n≤10000→sz d≤10000→Calls Tryz.prog 177 #[u,v] wr (Gives (fun x w'=>NatAt w' x (n*d)) wr)):=Lib.hid fun wr u v n d hu hv hnl hdl=>nat_Mul wr u v n d hu hv (Nat.le_trans hnl (by omega)) (Nat.le_trans hdl (by omega))
 have CO:Hid (∀ wr,Calls Tryz.prog 192 #[.int .u64 1] wr (Gives (fun v w'=>NatPtr w' v 1) wr)):=Lib.hid fun wr=>nat_Ofp wr 1 (by omega)
 have HP2:Hid (∀ p:Int,-140≤p→p≤100→((∃ q P:Nat,q≤100∧p=(q:Int)∧P≠0∧Hid (sz P≤21)∧Hid (∀ wr,Calls Tryz.prog 201 #[.int .i64 q] wr (Gives (fun x w'=>NatPtr w' x P) wr))∧Hid (∀ ng n,qv ng n p=quo ng (n*P) 1)) ∨
  (∃ q P:Nat,0<q∧q≤140∧p=-(q:Int)∧P≠0∧Hid (sz P≤21)∧Hid (∀ wr,Calls Tryz.prog 201 #[.int .i64 q] wr (Gives (fun x w'=>NatPtr w' x P) wr))∧Hid (∀ ng n,qv ng n p=quo ng n P)))):=Lib.hid (by
  intro p hp1 hp2
  rcases Int.lt_or_le p 0 with h|h
  ·refine .inr ⟨(-p).toNat,10 ^ (-p).toNat,by omega,by omega,by omega,Nat.ne_of_gt (Nat.pow_pos (by omega)),Lib.hid (pow10_len (by omega)),Lib.hid fun wr=>lit_tens wr _ (by omega),Lib.hid fun ng n=>?_⟩
   unfold qv;rw[if_neg (by omega)]
  ·refine .inl ⟨p.toNat,10 ^ p.toNat,by omega,by omega,Nat.ne_of_gt (Nat.pow_pos (by omega)),Lib.hid (pow10_len (by omega)),Lib.hid fun wr=>lit_tens wr _ (by omega),Lib.hid fun ng n=>?_⟩
   unfold qv;rw[if_pos h])
 obtain ⟨ix,M,X,V,hix,hM40,hX40,hcase⟩:∃ (ix:Int) (M X:List UInt8) (V:Option Int),Hid (∀ wr,Calls Tryz.prog 196 #[.string ⟨T.toArray⟩,.string ⟨#[101,69]⟩] wr (Keeps (.int .i64 ix) wr))∧M.length≤40∧X.length≤40 ∧
  ((ix=-1∧M=T∧Hid (litBody T=mant M 0))∨(∃ k:Nat,ix=(k:Int)∧k+1≤T.length∧(⟨T.toArray⟩:ByteArray).extract (k+1) T.length=⟨X.toArray⟩∧(⟨T.toArray⟩:ByteArray).extract 0 k=⟨M.toArray⟩∧Hid (litBody T=(expo X).bind (mant M)))):=by
  rcases indexAny_spec T with ⟨h1,_⟩|⟨m,c,x,h0,hc,hm,h1⟩
  ·refine ⟨-1,T,[],none,Lib.hid fun wr=>(by rw[← h1];exact hix wr),by omega,by simp,.inl ⟨rfl,rfl,Lib.hid ?_⟩⟩
   unfold litBody;rw[h1,if_pos (by omega)]
  ·have hml:m.length+1+x.length=T.length:=by rw[h0];simp;omega
   have e2:T.drop (m.length+1)=x:=by rw[h0];simp
   have e1:T.take m.length=m:=by rw[h0];simp
   refine ⟨m.length,m,x,none,Lib.hid fun wr=>(by rw[← h1];exact hix wr),by omega,by omega,.inr ⟨m.length,rfl,by omega,?_,?_,Lib.hid ?_⟩⟩
   ·rw[bytes_drop _ _ _ rfl,e2]
   ·rw[bytes_take,e1]
   ·unfold litBody
    rw[h1,if_neg (by omega),Int.toNat_natCast,e1,e2]
 have hTl':(T.length:Int)≤40:=by omega
 clear hnog P1 P2 P3 ht hT hneg
 cases neg
 case' false=>
  change Y=S at hY
  have hY2:=hY.symm
  clear hY
  subst hY2
 case' true=>
  change Y=T at hY
  have hY2:=hY.symm
  clear hY
  subst hY2
 all_goals
  go_enter Tryz.func121,Tryz.ntmps121
  go_wp2_with fail
  refine CG.out.mono ?_
  rintro e w1 ⟨rfl,hb1⟩
  go_wp2_with fail
  refine (CH.out _).mono ?_
  rintro e w' ⟨rfl,rfl⟩
  go_wp2_with fail
  refine (CP1.out _).mono ?_
  rintro e w' ⟨rfl,rfl⟩
  clear CG CH CP1
  go_wp2_with fail
 all_goals first
  | (go_at_call 195
     refine (CP2.out (by first|rfl|trivial) _).mono ?_
     rintro e w' ⟨rfl,rfl⟩
     go_wp2_with fail)
  | skip
 all_goals
  clear CP2
  go_at_call 196
  refine (hix.out _).mono ?_
  rintro e w2 ⟨rfl,hb2⟩
  have B2:=below_seq hb1 hb2
  clear hix hb1 hb2
  rcases hcase with ⟨rfl,hMT,hO⟩|⟨k,rfl,hkT,ex1,ex2,hO⟩
 all_goals first
  | (have hMT2:=hMT
     subst hMT2
     obtain ⟨v,hv⟩:∃ v:Int,v=0:=⟨_,rfl⟩
     have hv1 : -100≤v:=by omega
     have hv2:v≤100:=by omega
     have HO:Hid (litBody M=mant M v):=Lib.hid (by rw[hv];exact hO.out)
     obtain ⟨w3,hw3⟩:∃ w3,w3=w2:=⟨_,rfl⟩
     rw[← hw3]at B2 ⊢
     have B3:=B2
     clear hO CX hw3 B2 hMT
     have HCASE0:True:=trivial
     go_wp2_with fail)
  | (have CX1:=Lib.hid (CX.out X w2 hX40 B2)
     clear CX
     go_wp2_with fail
     go_at_call 197
     refine CX1.out.mono ?_
     rintro e w3 (⟨v,hev,rfl,hb3⟩|⟨hev,rfl,hb3⟩))
 all_goals first
  | (clear HCASE0)
  | (obtain ⟨hv1,hv2⟩:=expo_bound hev
     have HO:Hid (litBody T=mant M v):=Lib.hid (by rw[hO.out,hev];rfl)
     have B3:=below_seq B2 hb3
     have hkT':(k:Int)+1≤(T.length:Int):=by omega
     clear hev hO hb3 B2 CX1 ex1
     go_wp2_with fail
     clear ex2)
  | (have HO:Hid (litBody T=none):=Lib.hid (by rw[hO.out,hev];rfl)
     have B3:=below_seq B2 hb3
     clear hev hO hb3 B2 CX1 ex1 ex2 CC CD CTL CN CFN CMU CO HP2
     go_wp2_with fail
     go_ret2
     exact .inl ⟨HO.out,rfl,B3⟩)
 all_goals
  obtain ⟨a,b,dot,hcut⟩:∃ a b dot,Lib.cut M [46]=(a,b,dot):=⟨_,_,_,rfl⟩
  obtain ⟨hab,hmant⟩:=cut_len hcut
  have hal:a.length+b.length≤40:=by omega
  have CC1:=Lib.hid (CC.out M a b dot w3 hM40 hcut B3)
  have ea:(⟨a.toArray⟩ ++ ⟨b.toArray⟩:ByteArray)=⟨(a ++ b).toArray⟩:=bytes_app a b
  obtain ⟨D,hD⟩:∃ D,D=a ++ b:=⟨_,rfl⟩
  have hDl:D.length≤40:=by rw[hD,List.length_append];omega
  have hO2:=HO.out
  rw[hmant v,← hD]at hO2
  rw[← hD]at ea
  have HOM:=Lib.hid hO2
  have HDD:=Lib.hid hD
  have hbl:b.length≤40:=by omega
  have hall:a.length≤40:=by omega
  obtain ⟨p,hp⟩:∃ p:Int,p=v - (b.length:Int):=⟨_,rfl⟩
  have hp1 : -140≤p:=by omega
  have hp2:p≤100:=by omega
  have e5:v - (b.length:Int)=p:=hp.symm
  have e6:IntKind.i64.wrap (v - (b.length:Int))=p:=by rw[IntKind.wrap_i64];omega
  try (have e7 : -(b.length:Int)=p:=by omega)
  try (have e8:IntKind.i64.wrap (-(b.length:Int))=p:=by rw[IntKind.wrap_i64];omega)
  have hno:Hid (¬ mantOk a b→litBody _=none):=Lib.hid fun h=>by
   have h1:=HOM.out
   rwa [if_neg h]at h1
  have hyes:Hid (mantOk a b→litBody _=some (numOf 0 D,p)):=Lib.hid fun h=>by
   have h1:=HOM.out
   rwa [if_pos h,e5]at h1
  clear CC hcut hmant hO2 hab hD hp HO HOM
  go_at_call 33
  refine CC1.out.mono ?_
  rintro e w4 ⟨rfl,hb4⟩
  have B4:=below_seq B3 hb4
  clear B3 hb4 CC1
  by_cases hDe:D.isEmpty=true
  ·have hnone:=Lib.hid (hno.out fun h=>by
    have h1:=h.1
    rw[← HDD.out]at h1
    exact h1 (by simpa using hDe))
   clear hno hyes CD CTL CN CFN CMU CO HP2
   go_wp2_with fail
   go_ret2
   exact .inl ⟨hnone.out,rfl,B4⟩
  ·have hDe1:D.isEmpty=false:=by simpa using hDe
   clear hDe
   by_cases hda:∀ c∈a,isDig c=true
   ·have CDa:Hid (∀ wr,Calls Tryz.prog 198 #[.string ⟨a.toArray⟩] wr (Keeps (.bool true) wr)):=Lib.hid fun wr=>by
     have h:=CD.out a wr hall
     rwa [decide_eq_true hda]at h
    have HDA:=Lib.hid hda
    clear hda
    go_wp2_with fail
    refine (CDa.out _).mono ?_
    rintro e w5 ⟨rfl,hb5⟩
    have B5:=below_seq B4 hb5
    clear CDa B4 hb5
    by_cases hdb:∀ c∈b,isDig c=true
    ·have CDb:Hid (∀ wr,Calls Tryz.prog 198 #[.string ⟨b.toArray⟩] wr (Keeps (.bool true) wr)):=Lib.hid fun wr=>by
      have h:=CD.out b wr hbl
      rwa [decide_eq_true hdb]at h
     have HDB:=Lib.hid hdb
     have hdD:∀ c∈D,isDig c=true:=by
      rw[HDD.out]
      intro c hc
      rcases List.mem_append.1 hc with h|h
      ·exact HDA.out c h
      ·exact hdb c h
     have hsome:=Lib.hid (hyes.out ⟨(by rw[← HDD.out];intro h;rw[h]at hDe1;cases hDe1),HDA.out,hdb⟩)
     obtain ⟨n,hn⟩:∃ n,n=numOf 0 D:=⟨_,rfl⟩
     rw[← hn]at hsome
     have hn40:n<10 ^ 40:=by rw[hn];exact Nat.lt_of_lt_of_le (numOf_lt D hdD) (Nat.pow_le_pow_right (by omega) hDl)
     have HN40:=Lib.hid hn40
     have HSN:=Lib.hid (num40_len hn40)
     obtain ⟨Z,hZ⟩:∃ Z,Z=Lib.trimLeftB D 48:=⟨_,rfl⟩
     have CTL1:Hid (∀ wr,Calls Tryz.prog 199 #[.string ⟨D.toArray⟩,.string ⟨#[48]⟩] wr (Rets (.string ⟨Z.toArray⟩) wr)):=Lib.hid fun wr=>by rw[hZ];exact CTL.out D wr
     have hzz:(Z.isEmpty=true∧Hid (∀ wr,Calls Tryz.prog 120 #[.string ⟨#[48]⟩] wr (GivesOk (fun x w'=>NatPtr w' x n) wr)))∨(Z.isEmpty=false∧Hid (∀ wr,Calls Tryz.prog 120 #[.string ⟨Z.toArray⟩] wr (GivesOk (fun x w'=>NatPtr w' x n) wr))):=by
      have h1:=trimLeft_num D
      rcases trimLeft_can D hdD with h|⟨h,h2⟩
      ·left
       rw[← hZ]at h h1
       refine ⟨by rw[h];rfl,Lib.hid fun wr=>?_⟩
       rw[h]at h1
       exact CN.out [48] n wr can_zero (by simp) (by rw[hn,← h1];rfl)
      ·right
       rw[← hZ]at h h1 h2
       refine ⟨?_,Lib.hid fun wr=>CN.out Z n wr h (by omega) (by rw[hn,← h1])⟩
       rcases hz:Z with _|⟨z,zs⟩
       ·exact absurd hz h.1
       ·rfl
     clear hno hyes CD CTL CN hdb hdD hn hn40 hZ
     go_wp2_with fail
     refine (CDb.out _).mono ?_
     rintro e w6 ⟨rfl,hb6⟩
     have B6:=below_seq B5 hb6
     clear CDb B5 hb6
     go_wp2_with fail
     go_at_call 199
     refine (CTL1.out _).mono ?_
     rintro e w' ⟨rfl,rfl⟩
     clear CTL1 ea
     rcases hzz with ⟨hz0,CN⟩|⟨hz0,CN⟩
     all_goals
      go_wp2_with fail
      refine (CN.out _).mono ?_
      rintro e w7 ⟨x7,rfl,hx7,hb7⟩
      have B7:=below_seq B6 hb7
      have HX7:=Lib.hid hx7
      clear CN B6 hb7 hx7
      rcases HP2.out p hp1 hp2 with ⟨q,P,hq,rfl,h10,HP,CTE,HQ⟩|⟨q,P,hq0,hq,rfl,h10,HP,CTE,HQ⟩
     all_goals
      clear HP2
      go_wp2_with fail
      go_at_call 201
      refine (CTE.out _).mono ?_
      rintro e w8 ⟨x8,rfl,hx8,hb8⟩
      have B8:=below_seq B7 hb8
     all_goals first
      | (go_wp2_with fail
         go_at_call 200
         have CN9:=Lib.hid (CFN.out w8 x7 x8 n P (HX7.out.keep hb8).at_ hx8.at_ h10 (Nat.le_trans HSN.out (by omega)) (Nat.le_trans HP.out (by omega)))
         refine CN9.out.mono ?_
         rintro e w9 ⟨x9,rfl,hx9,hb9⟩
         go_wp2_with fail
         go_ret2
         exact .inr ⟨n,_,hsome.out,HN40.out,hp1,hp2,x9,rfl,by rw[HQ.out];exact hx9,below_seq B8 hb9⟩)
      | (go_wp2_with fail
         go_at_call 177
         have CM9:=Lib.hid (CMU.out w8 x7 x8 n P (HX7.out.keep hb8).at_ hx8.at_ (Nat.le_trans HSN.out (by omega)) (Nat.le_trans HP.out (by omega)))
         have hml:Hid (sz (n*P)≤26):=Lib.hid (len_mul HSN.out HP.out (by omega))
         refine CM9.out.mono ?_
         rintro e w9 ⟨x9,rfl,hx9,hb9⟩
         have HX9:=Lib.hid hx9
         go_wp2_with fail
         refine (CO.out _).mono ?_
         rintro e w10 ⟨x10,rfl,hx10,hb10⟩
         have CN9:=Lib.hid (CFN.out w10 x9 x10 (n*P) 1 (HX9.out.keep hb10) hx10.at_ (by omega) (Nat.le_trans hml.out (by omega)) (Nat.le_trans (sz_word (by omega)) (by omega)))
         go_wp2_with fail
         refine CN9.out.mono ?_
         rintro e w11 ⟨x11,rfl,hx11,hb11⟩
         go_wp2_with fail
         go_ret2
         exact .inr ⟨n,_,hsome.out,HN40.out,hp1,hp2,x11,rfl,by rw[HQ.out];exact hx11,below_seq B8 (below_seq hb9 (below_seq hb10 hb11))⟩)
    ·have CDb:Hid (∀ wr,Calls Tryz.prog 198 #[.string ⟨b.toArray⟩] wr (Keeps (.bool false) wr)):=Lib.hid fun wr=>by
      have h:=CD.out b wr hbl
      rwa [decide_eq_false hdb]at h
     have hnone:=Lib.hid (hno.out fun h=>hdb h.2.2)
     clear hno hyes CD CTL CN CFN CMU CO HP2 hdb
     go_wp2_with fail
     refine (CDb.out _).mono ?_
     rintro e w6 ⟨rfl,hb6⟩
     have B6:=below_seq B5 hb6
     go_wp2_with fail
     go_ret2
     exact .inl ⟨hnone.out,rfl,B6⟩
   ·have CDa:Hid (∀ wr,Calls Tryz.prog 198 #[.string ⟨a.toArray⟩] wr (Keeps (.bool false) wr)):=Lib.hid fun wr=>by
     have h:=CD.out a wr hall
     rwa [decide_eq_false hda]at h
    have hnone:=Lib.hid (hno.out fun h=>hda h.2.1)
    clear hno hyes CD CTL CN CFN CMU CO HP2 hda
    go_wp2_with fail
    refine (CDa.out _).mono ?_
    rintro e w5 ⟨rfl,hb5⟩
    have B5:=below_seq B4 hb5
    go_wp2_with fail
    go_ret2
    exact .inl ⟨hnone.out,rfl,B5⟩
end Go.Proofs.YtjipjfoambbofaaGreatDoor
end
section
namespace Vic
open Go Go.RowKit
def Lone (l:List UInt8):Prop:=∀ (i:Nat) b d,l[i]?=some b→128≤b.toNat→l[i+1]?=some d→d.toNat<128
theorem Lone.tail {c:UInt8}{l:List UInt8}(h:Lone (c :: l)):Lone l:=fun i b d h1 h2 h3=>h (i+1) b d (by simpa using h1) h2 (by simpa using h3)
theorem decode_lone (s:ByteArray) (pos:Nat) (h:pos<s.size) (ha:128≤(s[pos]'h).toNat) (hn:∀ h2:pos+1<s.size,(s[pos+1]'h2).toNat<128):Utf8.decode s pos=(65533,1):=by
 have e:s.get! (pos+0)=s[pos]'h:=by
  show s.get! pos=_
  simp[ByteArray.get!,getElem!_pos,h]
  rfl
 have hc:(decide (pos+1<s.size) && (s.get! (pos+1)).toNat / 64 == 2)=false:=by
  by_cases h2:pos+1<s.size
  ·have e2:s.get! (pos+1)=s[pos+1]'h2:=by
    simp[ByteArray.get!,getElem!_pos,h2]
    rfl
   have h3:=hn h2
   rw[e2]
   have:((s[pos+1]'h2).toNat / 64 == 2)=false:=by rw[beq_eq_false_iff_ne];omega
   rw[this,Bool.and_false]
  ·simp[h2]
 have hb:¬ (s[pos]'h).toNat<128:=by omega
 simp only[Utf8.decode,e,hc,hb,if_false,Bool.and_false,Bool.false_and,Bool.false_eq_true]
 rfl
section
variable {P:Program}
theorem next_turn (W:World) (a:Nat) (s:ByteArray) (pos r k:Nat) (ty:TypeId) (hW:W.heap[a]?=some (.stringIter s pos)) (h:pos<s.size) (hd:Utf8.decode s pos=(r,k)) :
 (Instr.next (.pointer (some ⟨a,0,none⟩)) true ty).run P W=.ok (.tuple #[.bool true,.int .i64 pos,.int .i32 r]) { W with heap:=W.heap.setIfInBounds a (.stringIter s (pos+k)) }:=by
 simp only[Instr.next,getObj,setObj,Sem.run_bind,Sem.run,hW,Result.andThen,h,if_true,hd]
 simp[goInt,Sem.run,hW,hd,h]
theorem next_done (W:World) (a:Nat) (s:ByteArray) (pos:Nat) (ty:TypeId) (hW:W.heap[a]?=some (.stringIter s pos)) (h:¬ pos<s.size) :
 (Instr.next (.pointer (some ⟨a,0,none⟩)) true ty).run P W=.ok (.tuple #[.bool false]) W:=by
 simp[Instr.next,getObj,Sem.run,hW,h]
end
theorem iter_turn {w W:World}{a:Nat}{o:Obj}(hW:a<W.heap.size) (ha:w.heap.size≤a) (hB:Below w.heap.size w W) :
 ({ W with heap:=W.heap.setIfInBounds a o }:World).heap[a]?=some o∧Below w.heap.size w { W with heap:=W.heap.setIfInBounds a o }:=by
 constructor
 ·show (W.heap.setIfInBounds a o)[a]?=some o
  simp[hW]
 ·exact ⟨hB.os,hB.tape,hB.output,by simpa using hB.size,fun k hk=>by
   show (W.heap.setIfInBounds a o)[k]?=_
   rw[Array.getElem?_setIfInBounds_ne (by omega)]
   exact hB.block k hk⟩
end Vic
namespace Go.Proofs.YtjipjfoambbofaaGreatDoor
open Go.RowKit Vic
set_option maxHeartbeats 4000000 in
set_option maxRecDepth 100000 in
theorem strings_IndexRune_bad (w:World):Calls Tryz.prog 249 #[.string ⟨#[101,69]⟩,.int .i32 65533] w (Keeps (.int .i64 (-1)) w):=by
 go_enter Tryz.func249,Tryz.ntmps249
 go_wp2
 go_loopg [5,6] 2 (fun g _ _ wx=>∃ i:Nat,i+g=2∧wx=w.iter ⟨#[101,69]⟩ i)
 case atStart=>exact ⟨0,by omega,rfl⟩
 case round=>
  obtain ⟨i,hig,rfl⟩:=hrel
  cases gk with
  | zero=>
    obtain rfl:i=2:=by omega
    have hnx:=run_next_end (P:=Tryz.prog) w ⟨#[101,69]⟩ 2
    go_wp2
    go_ret
    exact ⟨rfl,(Below.refl _ _).alloc (Nat.le_refl _) _⟩
  | succ g=>
    have hi:i<(⟨#[101,69]⟩:ByteArray).size:=by show i<2;omega
    obtain ⟨x,hx⟩:∃ x:UInt8,(⟨#[101,69]⟩:ByteArray)[i]'hi=x:=⟨_,rfl⟩
    have hxx:x.toNat=101∨x.toNat=69:=by
     have:i=0∨i=1:=by omega
     rcases this with rfl|rfl
     ·left;rw[← hx];rfl
     ·right;rw[← hx];rfl
    have hnx:=fun ty=>run_next_ascii (P:=Tryz.prog) w ⟨#[101,69]⟩ i ty hi (by rw[hx];omega)
    rw[hx]at hnx
    have hne:((x.toNat:Int) == 65533)=false:=by rw[beq_eq_false_iff_ne];omega
    clear hx hxx
    go_wp2
    go_roundg g
    case measure=>omega
    case rel=>exact ⟨i+1,by omega,rfl⟩
set_option maxHeartbeats 8000000 in
set_option maxRecDepth 100000 in
theorem strings_IndexAny_lone (w:World) (l:List UInt8) (h8:l.length≤8) (hlone:Lone l) :
 Calls Tryz.prog 196 #[.string ⟨l.toArray⟩,.string ⟨#[101,69]⟩] w (Keeps (.int .i64 (Lib.indexAny l [101,69])) w):=by
 have h8z:decide ((8:Int)<(l.length:Int))=false:=decide_eq_false (by omega)
 have CU:Hid (∀ wr,Calls Tryz.prog 250 #[.int .i64 (l.length:Nat)] wr (Rets (.bool false) wr)):=Lib.hid fun wr=>by
  refine (Go.Proofs.Tryz.strings_shouldUseASCIISet (l.length:Nat) wr).mono ?_
  rintro e w' ⟨rfl,rfl⟩
  exact ⟨by rw[h8z],rfl⟩
 have CR:Hid (∀ (x:UInt8) wr,x.toNat<128→Calls Tryz.prog 249 #[.string ⟨#[101,69]⟩,.int .i32 (x.toNat:Nat)] wr (Keeps (.int .i64 (Lib.indexByte [101,69] x)) wr)):=Lib.hid fun x wr hx=>by
  refine (Go.Proofs.Tryz.strings_IndexRune_ascii ⟨#[101,69]⟩ (x.toNat:Nat) wr (by omega) (by omega)).mono ?_
  rintro e w' ⟨rfl,rfl⟩
  refine ⟨?_,Below.refl _ _⟩
  have hback:((x.toNat:Int)).toNat.toUInt8=x:=by simp
  rw[hback]
 have CB:Hid (∀ wr,Calls Tryz.prog 249 #[.string ⟨#[101,69]⟩,.int .i32 65533] wr (Keeps (.int .i64 (-1)) wr)):=Lib.hid fun wr=>strings_IndexRune_bad wr
 have HL:=Lib.hid hlone
 clear hlone
 go_enter Tryz.func196,Tryz.ntmps196
 go_wp2_with fail
 refine (CU.out _).mono ?_
 rintro e w' ⟨rfl,rfl⟩
 go_wp2_with fail
 go_loopg [9,10] l.length (fun g _ _ wx=>∃ i:Nat,i+g=l.length∧wx.heap[w.heap.size]?=some (.stringIter ⟨l.toArray⟩ i)∧Below w.heap.size w wx∧Hid (Lib.NoAny l [101,69] i))
 case atStart=>exact ⟨0,by omega,World.iter_heap _ _ _,(Below.refl _ _).alloc (Nat.le_refl _) _,Lib.hid (Lib.NoAny.zero _ _)⟩
 case round=>
  obtain ⟨i,hig,hit,hB,hno⟩:=hrel
  cases gk with
  | zero=>
    obtain rfl:i=l.length:=by omega
    have hnx:=fun ty=>next_done (P:=Tryz.prog) wr w.heap.size ⟨l.toArray⟩ l.length ty hit (by show ¬ l.length<l.toArray.size;simp)
    have HB:=Lib.hid hB
    clear hit hB
    go_wp2_with fail
    go_ret
    exact ⟨by rw[Lib.indexAny_none hno.out];rfl,HB.out⟩
  | succ g=>
    have hi:i<(⟨l.toArray⟩:ByteArray).size:=by show i<l.toArray.size;simp;omega
    obtain ⟨x,hx⟩:∃ x:UInt8,(⟨l.toArray⟩:ByteArray)[i]'hi=x:=⟨_,rfl⟩
    have hxl:l[i]?=some x:=by rw[← hx,List.getElem?_eq_getElem (by omega)];rfl
    have hlt:w.heap.size<wr.heap.size:=by
     rcases Nat.lt_or_ge w.heap.size wr.heap.size with h|h
     ·exact h
     ·rw[Array.getElem?_eq_none h]at hit;cases hit
    have Hx:=Lib.hid hxl
    by_cases h128:x.toNat<128
    ·have hd:=decode_ascii ⟨l.toArray⟩ i hi (by rw[hx];exact h128)
     rw[hx]at hd
     have hnx:=fun ty=>next_turn (P:=Tryz.prog) wr w.heap.size ⟨l.toArray⟩ i _ _ ty hit hi hd
     obtain ⟨hit2,hB2⟩:=iter_turn (o:=.stringIter ⟨l.toArray⟩ (i+1)) hlt (Nat.le_refl _) hB
     obtain ⟨w2,hw2⟩:∃ w2,w2=({ wr with heap:=wr.heap.setIfInBounds w.heap.size (.stringIter ⟨l.toArray⟩ (i+1)) }:World):=⟨_,rfl⟩
     rw[← hw2]at hit2 hB2 hnx
     have CR1:=Lib.hid (CR.out x w2 h128)
     have HI2:=Lib.hid hit2;have HB2:=Lib.hid hB2
     have hlt2:w.heap.size<w2.heap.size:=by
      rcases Nat.lt_or_ge w.heap.size w2.heap.size with h|h
      ·exact h
      ·rw[Array.getElem?_eq_none h]at hit2;cases hit2
     have hcon:=Lib.contains_iff_indexByte [101,69] x
     clear hxl hx hd hit hB hw2 hit2 hB2
     cases hin:([101,69]:List UInt8).contains x
     ·rw[hin]at hcon
      have hge:¬ ((0:Int)≤Lib.indexByte [101,69] x):=of_decide_eq_false hcon.symm
      have HIN:=Lib.hid hin
      clear hcon hin
      obtain ⟨v,hv⟩:∃ v,v=Lib.indexByte [101,69] x:=⟨_,rfl⟩
      rw[← hv]at CR1 hge
      clear hv
      go_wp2_with fail
      refine CR1.out.mono ?_
      rintro e w3 ⟨rfl,hb3⟩
      have hit3:=(hb3.block _ hlt2).trans HI2.out
      have B3:=HB2.out.trans (hb3.mono HB2.out.size)
      go_wp2_with fail
      go_roundg g
      case measure=>omega
      case rel=>exact ⟨i+1,by omega,hit3,B3,Lib.hid (hno.out.succ Hx.out HIN.out)⟩
     ·rw[hin]at hcon
      have hge:(0:Int)≤Lib.indexByte [101,69] x:=of_decide_eq_true hcon.symm
      have HIN:=Lib.hid hin
      clear hcon hin
      obtain ⟨v,hv⟩:∃ v,v=Lib.indexByte [101,69] x:=⟨_,rfl⟩
      rw[← hv]at CR1 hge
      clear hv
      go_wp2_with fail
      refine CR1.out.mono ?_
      rintro e w3 ⟨rfl,hb3⟩
      have B3:=HB2.out.trans (hb3.mono HB2.out.size)
      go_wp2_with fail
      go_ret
      exact ⟨by rw[Lib.indexAny_hit hno.out Hx.out HIN.out];rfl,B3⟩
    ·have hd:=decode_lone ⟨l.toArray⟩ i hi (by rw[hx];omega) (fun h2=>by
      have hi2:i+1<l.length:=by have:(⟨l.toArray⟩:ByteArray).size=l.length:=by show l.toArray.size=_;simp
                                omega
      exact HL.out i x _ hxl (by omega) (by rw[List.getElem?_eq_getElem hi2];rfl))
     have hnx:=fun ty=>next_turn (P:=Tryz.prog) wr w.heap.size ⟨l.toArray⟩ i _ _ ty hit hi hd
     obtain ⟨hit2,hB2⟩:=iter_turn (o:=.stringIter ⟨l.toArray⟩ (i+1)) hlt (Nat.le_refl _) hB
     obtain ⟨w2,hw2⟩:∃ w2,w2=({ wr with heap:=wr.heap.setIfInBounds w.heap.size (.stringIter ⟨l.toArray⟩ (i+1)) }:World):=⟨_,rfl⟩
     rw[← hw2]at hit2 hB2 hnx
     have CR1:=Lib.hid (CB.out w2)
     have HI2:=Lib.hid hit2;have HB2:=Lib.hid hB2
     have hlt2:w.heap.size<w2.heap.size:=by
      rcases Nat.lt_or_ge w.heap.size w2.heap.size with h|h
      ·exact h
      ·rw[Array.getElem?_eq_none h]at hit2;cases hit2
     have hin:([101,69]:List UInt8).contains x=false:=by
      have e1:x≠101:=fun h=>h128 (by rw[h];decide)
      have e2:x≠69:=fun h=>h128 (by rw[h];decide)
      simp[e1,e2]
     have HIN:=Lib.hid hin
     clear hxl hx hd hit hB hw2 hit2 hB2 hin
     go_wp2_with fail
     refine CR1.out.mono ?_
     rintro e w3 ⟨rfl,hb3⟩
     have hit3:=(hb3.block _ hlt2).trans HI2.out
     have B3:=HB2.out.trans (hb3.mono HB2.out.size)
     go_wp2_with fail
     go_roundg g
     case measure=>omega
     case rel=>exact ⟨i+1,by omega,hit3,B3,Lib.hid (hno.out.succ Hx.out HIN.out)⟩
theorem strings_IndexAny_eE (w:World) (l:List UInt8) (hl:l.length≤1000) (hlone:Lone l) :
 Calls Tryz.prog 196 #[.string ⟨l.toArray⟩,.string ⟨#[101,69]⟩] w (Keeps (.int .i64 (Lib.indexAny l [101,69])) w):=by
 have hsz:(⟨l.toArray⟩:ByteArray).size=l.length:=by show l.toArray.size=_;simp
 by_cases h8:l.length≤8
 ·exact strings_IndexAny_lone w l h8 hlone
 ·have h:=Go.Proofs.Tryz.strings_IndexAny_long (zero_of_info (P:=Tryz.prog) (t:=307) (n:=256) (by kernel_rfl)).1 ⟨l.toArray⟩ ⟨#[101,69]⟩ w (by decide) (by rw[hsz];omega) (by rw[hsz];omega) (by decide) (ascii_of_all (by decide))
  refine h.mono ?_
  rintro e w' ⟨rfl,rfl⟩
  exact ⟨rfl,((Below.refl _ _).alloc (Nat.le_refl _) _).alloc (by simp) _⟩
end Go.Proofs.YtjipjfoambbofaaGreatDoor
end
