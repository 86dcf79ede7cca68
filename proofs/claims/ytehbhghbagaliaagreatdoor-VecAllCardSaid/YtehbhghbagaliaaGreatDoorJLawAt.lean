/- Package victuallerlaw1: at: the number at a place of coefficients, as the document's fraction. -/
import Derived.Test.YtehbhghbagaliaaGreatDoorJWalkS
set_option linter.unusedVariables false
set_option linter.unusedSimpArgs false
namespace Vic
open Go Go.RowKit
theorem atC_hit {cs:List VCoef}{k:Nat}{x:VCoef}{i:Int}(hx:cs[k]?=some x) (h:x.1=i) (hz:∀ (j:Nat) y,j<k→cs[j]?=some y→y.1≠i):atC cs i=fracOf x.2:=by
 unfold atC
 have:cs.find? (fun y=>y.1 == i)=some x:=by
  rw[List.find?_eq_some_iff_getElem]
  obtain ⟨hk,he⟩:=List.getElem?_eq_some_iff.1 hx
  exact ⟨by simpa using h,k,hk,he,fun j hj=>by
   have:=hz j cs[j] hj (List.getElem?_eq_getElem (by omega))
   simpa using this⟩
 rw[this]
theorem atC_miss {cs:List VCoef}{i:Int}(hz:∀ (j:Nat) y,cs[j]?=some y→y.1≠i):atC cs i=0:=by
 unfold atC
 rw[List.find?_eq_none.2]
 intro y hy
 obtain ⟨j,hj⟩:=List.mem_iff_getElem?.1 hy
 simpa using hz j y hj
theorem RefIs.rowfar {w w9:World}{v:Value}{q:Rat}{L b:Nat}{T:TypeId}(h:RefIs w v q L) (hr:Row w b T #[.bool false,.slice none 0 0,.slice none 0 0]) (hO:Only b w w9):RefIs w9 v q L:=by
 obtain ⟨ng,n,d,⟨x,y,rfl,h1,h2,h3⟩,h4⟩:=h
 have hcs:=qrow_far false (.slice none 0 0) (.slice none 0 0) (fun _ _ h=>by cases h) (fun _ _ h=>by cases h)
 exact ⟨ng,n,d,⟨x,y,rfl,Ints.rowfar h1 hr (hcs _) hO,Ints.rowfar h2 hr (hcs _) hO,h3⟩,h4⟩
end Vic
namespace Go.Proofs.YtehbhghbagaliaaGreatDoor
open Go.RowKit Vic
set_option maxRecDepth 100000 in
set_option maxHeartbeats 4000000 in
theorem law_at (w:World) (v:Value) (cs:List VCoef) (i:Int) (h:CoefsIn w v cs) (hg:∀ x∈cs,FracGood x.2∧x.2.length≤9223372036854775807) (hl:cs.length≤1000000) :
 Calls Tryz.prog 13 #[v,.int .i64 i] w (GivesQ (atC cs i) 600 w):=by
 obtain ⟨A,c,rfl,hlc,hcell⟩:=h
 have HC:=Lib.hid hcell;have HG:=Lib.hid hg
 obtain ⟨wa,hwa⟩:∃ X,X=w.alloc (.cells #[.bool false,.slice none 0 0,.slice none 0 0] 35):=⟨_,rfl⟩
 have ba:Below w.heap.size w wa:=by rw[hwa];exact (Below.refl _ _).alloc (Nat.le_refl _) _
 have ea:wa.heap.size=w.heap.size+1:=by rw[hwa];simp
 have ra:Row wa w.heap.size 35 #[.bool false,.slice none 0 0,.slice none 0 0]:=by rw[hwa];exact Row.new _ _ _
 have HWA:=Lib.hid hwa;have RA:=Lib.hid ra
 have hsz:(Tryz.prog.info? 35).map (·.size)=some 3:=by kernel_rfl
 clear hcell hg hwa ra
 go_enter Tryz.func13,Tryz.ntmps13
 go_wp2_with fail
 rw[← HWA.out]
 go_loopw [5] (fun t wr=>∃ k:Nat,t=.int .i64 k∧k≤cs.length∧Hid (∀ (j:Nat) y,j<k→cs[j]?=some y→y.1≠i)∧wr=wa) (fun t _=>cs.length - (intOf t).toNat)
 case atStart=>exact ⟨0,rfl,Nat.zero_le _,Lib.hid (fun j y hj=>by omega),rfl⟩
 case round=>
  obtain ⟨k,rfl,hk,hz,rfl⟩:=hrel
  by_cases hlt:k<cs.length
  ·obtain ⟨x,hx⟩:∃ x,cs[k]?=some x:=⟨cs[k],by simp[hlt]⟩
   obtain ⟨g,o,rfl,hc1,hc2⟩:=HC.out k x hx
   have hc1':=cell_keep hc1 ba
   have hc2':=cell_keep hc2 ba
   have hlt':=Int.ofNat_lt.2 hlt
   obtain ⟨hgx,hxl⟩:=HG.out x (List.mem_of_getElem? hx)
   have CG:Hid (∀ W,Calls Tryz.prog 9 #[.string ⟨x.2.toArray⟩] W (RefGotQ x.2 W)):=Lib.hid fun W=>ref_Get W x.2 hxl
   have HX:=Lib.hid hx;have HGX:=Lib.hid hgx
   by_cases he:x.1=i
   ·have heq:(x.1 == i)=true:=by simpa using he
    have HE:=Lib.hid he
    clear hx hc1 hc2 hgx hxl he
    obtain ⟨x1,x2⟩:=x
    simp only at hc1' hc2' heq CG
    go_wp2_with fail
    go_at_call 9
    refine (CG.out _).mono ?_
    rintro e w1 h1
    obtain ⟨xv,rfl,hxv,hb1⟩:=refq_got h1 HGX.out
    obtain ⟨ng,A1,m1,c1,B1,k1,c2,rfl⟩:=hxv.shape
    obtain ⟨w2,hw2⟩:∃ X,X=w1.alloc (.cells #[.bool ng,.slice A1 m1 c1,.slice B1 k1 c2] 35):=⟨_,rfl⟩
    have h12:Below w1.heap.size w1 w2:=by rw[hw2];exact (Below.refl _ _).alloc (Nat.le_refl _) _
    have R2:Row w2 w1.heap.size 35 #[.bool ng,.slice A1 m1 c1,.slice B1 k1 c2]:=by rw[hw2];exact Row.new _ _ _
    have r2:=(RA.out.keep hb1).keep h12
    have B2:=below_seq ba (below_seq hb1 h12)
    obtain ⟨w9,hw9,hrow9,hb9,q0,q1,q2,f0,f1,f2⟩:=qput (.bool ng) (.slice A1 m1 c1) (.slice B1 k1 c2) r2 B2 (Nat.le_refl _)
    have hO:Only w.heap.size w2 w9:=by rw[hw9];exact (((Only.refl _ _).setCell 0 _).setCell 1 _).setCell 2 _
    have HX9:=Lib.hid ((hxv.keep h12).rowfar r2 hO)
    have k0:=R2.cell 0;have k1':=R2.cell 1;have k2:=R2.cell 2
    have HW2:=Lib.hid hw2;have HW9:=Lib.hid hw9;have HR9:=Lib.hid hrow9
    have HAT:Hid (atC cs i=fracOf x2):=Lib.hid (atC_hit HX.out HE.out hz.out)
    clear h1 hxv hb1 hw2 h12 R2 r2 B2 hw9 hrow9 hO
    go_upto_region 6 with fail
    rw[← HW2.out]
    go_wp2_with fail
    rw[← HW9.out]
    refine bodyPost_ret (v:=.agg #[.bool ng,.slice A1 m1 c1,.slice B1 k1 c2]) (results_cell_row (p:=4) (ty:=35) Tryz.results13 _ _ w.heap.size 35 #[.bool ng,.slice A1 m1 c1,.slice B1 k1 c2] (0,0) _ (by simp[go_sem]) HR9.out Tryz.underlying35 rfl hsz) rfl ?_
    exact ⟨_,rfl,HAT.out▸HX9.out,hb9⟩
   ·have heq:(x.1 == i)=false:=by simpa using he
    have HE:=Lib.hid he
    clear hx hc1 hc2 hgx hxl he
    obtain ⟨x1,x2⟩:=x
    simp only at hc1' hc2' heq CG
    go_wp2_with fail
    go_roundw
    case rel=>
     refine ⟨k+1,by go_num,by omega,Lib.hid (fun j y hj hy=>?_),trivial⟩
     rcases Nat.lt_or_ge j k with h|h
     ·exact hz.out j y h hy
     ·obtain rfl:j=k:=by omega
      rw[HX.out]at hy
      injection hy with hy
      rw[← hy];exact HE.out
    case measure=>simp[intOf];omega
  ·obtain rfl:k=cs.length:=by omega
   have CZ:=Lib.hid (refq_Zero wr)
   have HAT:Hid (atC cs i=0):=Lib.hid (atC_miss fun j y hy=>hz.out j y (List.getElem?_eq_some_iff.1 hy).1 hy)
   go_wp2_with fail
   go_at_call 12
   refine CZ.out.mono ?_
   rintro e w1 ⟨xv,rfl,hxv,hb1⟩
   obtain ⟨ng,A1,m1,c1,B1,k1,c2,rfl⟩:=hxv.shape
   have r2:=RA.out.keep hb1
   have B2:=below_seq ba hb1
   obtain ⟨w9,hw9,hrow9,hb9,q0,q1,q2,f0,f1,f2⟩:=qput (.bool ng) (.slice A1 m1 c1) (.slice B1 k1 c2) r2 B2 (Nat.le_refl _)
   have hO:Only w.heap.size w1 w9:=by rw[hw9];exact (((Only.refl _ _).setCell 0 _).setCell 1 _).setCell 2 _
   have HX9:=Lib.hid ((hxv.rowfar r2 hO).mono (show 1≤600 by omega))
   have HW9:=Lib.hid hw9;have HR9:=Lib.hid hrow9
   clear hxv hb1 r2 B2 hw9 hrow9 hO
   go_wp2_with fail
   rw[← HW9.out]
   refine bodyPost_ret (v:=.agg #[.bool ng,.slice A1 m1 c1,.slice B1 k1 c2]) (results_cell_row (p:=4) (ty:=35) Tryz.results13 _ _ w.heap.size 35 #[.bool ng,.slice A1 m1 c1,.slice B1 k1 c2] (0,0) _ (by simp[go_sem]) HR9.out Tryz.underlying35 rfl hsz) rfl ?_
   exact ⟨_,rfl,HAT.out▸HX9.out,hb9⟩
end Go.Proofs.YtehbhghbagaliaaGreatDoor
