/- Package victuallerref1: Get, at a text without a stroke. -/
import Derived.Test.YtbdfhnelmojbpaaGreatDoorRbe
import Derived.Test.YtbdfhnelmojbpaaGreatDoorRax
import Derived.Test.YtbdfhnelmojbpaaGreatDoorRap
import Derived.Test.YtbdfhnelmojbpaaGreatDoorRaw
import Derived.Test.YtbdfhnelmojbpaaGreatDoorRao
import Derived.Test.YtbdfhnelmojbpaaGreatDoorRbd
import Derived.Test.YtbdfhnelmojbpaaGreatDoorRbf
import Derived.Deep.LoopGhost
import Derived.Deep.DeepCutAuto
import Derived.Deep.CutBlock
set_option linter.unusedVariables false
set_option linter.unusedSimpArgs false
section
namespace Go.Proofs.YtbdfhnelmojbpaaGreatDoor
open Go.RowKit Vic
set_option maxRecDepth 100000 in
set_option maxHeartbeats 8000000 in
theorem ref_Get_neg_s (w:World) (T:List UInt8) (hns:(47:UInt8)∉T) (hl:((45:UInt8) :: T).length≤9223372036854775807) :
 Calls Tryz.prog 9 #[.string ⟨((45:UInt8) :: T).toArray⟩] w (RefGotQ (45 :: T) w):=by
 have HNS:=Lib.hid hns
 clear hns
 have hsz:(Tryz.prog.info? 49).map (·.size)=some 3:=by kernel_rfl
 obtain ⟨w0,hw0⟩:∃ w0,w0=w.alloc (.cells #[.bool false,.slice none 0 0,.slice none 0 0] 49):=⟨_,rfl⟩
 have r0:Hid (∀ n,Row (w0.drewN n) w.heap.size 49 #[.bool false,.slice none 0 0,.slice none 0 0]):=Lib.hid fun n=>by rw[hw0];exact Row.keep (Row.new _ _ _) (Below.drewN_ (Below.refl _ _) n)
 have b0:Hid (∀ n,Below w.heap.size w (w0.drewN n)):=Lib.hid fun n=>by rw[hw0];exact Below.drewN_ ((Below.refl _ _).alloc (Nat.le_refl _) _) n
 have W0:=Lib.hid hw0
 clear hw0
 have hlT:Hid ((45:UInt8) :: T=sgnT true T):=Lib.hid rfl
 have hhT:True:=trivial
 have hTl:T.length≤9223372036854775806:=by simp at hl;omega
 have hsl:(⟨((45:UInt8) :: T).toArray⟩:ByteArray).extract 1 (T.length+1)=⟨T.toArray⟩:=bytes_drop _ _ _ rfl
 have hb:(((((⟨((45:UInt8) :: T).toArray⟩:ByteArray)[0]'(by show 0<((45:UInt8) :: T).toArray.size;simp)).toNat:Int)) == 45)=true:=rfl
 go_enter Tryz.func9,Tryz.ntmps9
 go_wp2_with fail
 rw[← W0.out]
 go_quiet (fail)
 go_wp2_with fail
 clear hsl hb
 go_loopw [6] (fun t6 wr=>∃ k:Nat,t6=.int .i64 k∧k≤T.length∧Hid (∀ j,j<k→T[j]?≠some 47)∧Hid (Row wr w.heap.size 49 #[.bool false,.slice none 0 0,.slice none 0 0])∧Below w.heap.size w wr) (fun t6 _=>T.length - (intOf t6).toNat)
 case atStart=>exact ⟨0,rfl,by omega,Lib.hid (fun j hj=>by omega),Lib.hid (r0.out _),b0.out _⟩
 case round=>
  clear r0 b0 W0
  obtain ⟨k,rfl,hk,hno,hrow,hbr⟩:=hrel
  obtain ⟨Sa,hSa⟩:∃ Sa,Sa=(⟨T.toArray⟩:ByteArray).extract 0 k:=⟨_,rfl⟩
  have CA:Hid (∀ wr,Calls Tryz.prog 36 #[.string Sa] wr (RefGot2 (T.take k) wr)):=Lib.hid fun wr=>by
   rw[hSa,take_bytes];exact ref_GetN3 wr _
  have ex1:=hSa.symm
  clear hSa
  by_cases hlt:k<T.length
  ·have hget:k<(⟨T.toArray⟩:ByteArray).size:=by show k<T.toArray.size;simp;omega
   obtain ⟨b,hbe⟩:∃ b,b=(⟨T.toArray⟩:ByteArray)[k]'hget:=⟨_,rfl⟩
   have hLm:Hid (T[k]?=some b):=Lib.hid (by rw[hbe,List.getElem?_eq_getElem (by omega)];rfl)
   obtain ⟨x,hxe⟩:∃ x:Nat,x=b.toNat:=⟨_,rfl⟩
   have hx:((((⟨T.toArray⟩:ByteArray)[k]'hget).toNat:Nat):Int)=(x:Int):=by rw[hxe,hbe]
   have HX:=Lib.hid hxe
   clear hbe hxe
   by_cases h47:x=47
   ·exact absurd (List.mem_of_getElem? (show T[k]?=some 47 by rw[hLm.out];exact congrArg some (UInt8.toNat_inj.1 (by rw[← HX.out,h47];rfl)))) HNS.out
   ·have hq:((x:Int) == 47)=false:=by rw[beq_eq_false_iff_ne];omega
    have hno2:Hid (∀ j,j<k+1→T[j]?≠some 47):=Lib.hid fun j hj=>by
     by_cases e:j=k
     ·subst e;rw[hLm.out];intro h;injection h with h;rw[HX.out,h]at h47;exact h47 rfl
     ·exact hno.out j (by omega)
    clear h47 hno hLm HX CA
    go_wp2_with fail
    go_roundw
    case rel=>exact ⟨k+1,by go_num,by omega,hno2,hrow,hbr⟩
    case measure=>simp[intOf];omega
  ·obtain rfl:k=T.length:=by omega
   obtain ⟨G1,G2⟩:=good_whole (neg:=true) (a:=T) (no_stroke hno.out) (fun h=>by cases h)
   have HG1:Hid (FracGood ((45:UInt8) :: T)↔GoodNat T∧(true=true→numOf 0 T≠0)):=Lib.hid G1
   have HG2:Hid (fracOf ((45:UInt8) :: T)=quo true (numOf 0 T) 1):=Lib.hid G2
   rw[List.take_length]at CA
   clear hno hhT G1 G2 hlT
   go_wp2_with fail
   refine (CA.out _).mono ?_
   intro e w2 hgot
   obtain ⟨A,c,n,b1,rfl,hb2,hn,hnl,hcase⟩:=got_num hgot
   obtain ⟨w3,hw3⟩:∃ w3,w3=w2.alloc (.cells #[.int .i64 1] 3):=⟨_,rfl⟩
   have h23:Below w2.heap.size w2 w3:=by rw[hw3];exact (Below.refl _ _).alloc (Nat.le_refl _) _
   have hone3:RefN w3 (.slice (some ⟨w2.heap.size,0,none⟩) 1 1) 1:=ref_one (d:=1) (by rw[hw3];exact Row.new _ _ _) (by omega) (by omega)
   have CF:=Lib.hid (ref_Frac w3 true _ _ n 1 (hn.keep h23) hone3)
   obtain ⟨bs,hbs⟩:∃ bs,bs=(true && decide (n≠0)):=⟨_,rfl⟩
   rw[← hbs]at CF
   have HBS:=Lib.hid hbs
   have HW3:=Lib.hid hw3
   clear hn hone3 hw3 hbs hgot
   go_wp2_with fail
   rw[← HW3.out]
   refine CF.out.mono ?_
   rintro e w4 ⟨v,rfl,hv,hb4⟩
   have hv2:=hv.open_
   rw[show (tdg 1).length=1 by rw[tdg_one];rfl]at hv2
   obtain ⟨A3,c3,A4,c4,rfl,hx4,hy4,hs4⟩:=hv2
   have hb5:Below w4.heap.size w4 (w4.alloc (.cells #[.bool bs,.slice A3 (tdg n).length c3,.slice A4 1 c4] 49)):=(Below.refl _ _).alloc (Nat.le_refl _) _
   have y4:=below_seq hb2 (below_seq h23 hb4)
   have y5:=below_seq y4 hb5
   have B5:=hbr.trans (y5.mono hbr.size)
   have HR0:=Lib.hid (Row.keep hrow.out y5)
   have hlt4:Hid (w.heap.size<w4.heap.size):=Lib.hid (by have h1:=Row.lt hrow.out;have h2:=y4.size;omega)
   have HX5:=Lib.hid (RefN.keep hx4 hb5);have HY5:=Lib.hid (RefN.keep hy4 hb5);have HRG:=Lib.hid (Row.new w4 49 #[.bool bs,.slice A3 (tdg n).length c3,.slice A4 1 c4]);have HS4:=Lib.hid hs4
   clear CF hv hx4 hy4 hs4 HW3 hb4 h23 hb2 y4 y5 hb5 hrow
   have HCS:=Lib.hid hcase
   clear hcase CA
   cases b1
   ·obtain ⟨w9,hw9,hrow9,hb9,q0,q1,q2,f0,f1,f2⟩:=qno (tI:=3) (W:=(w4.alloc (.cells #[.bool bs,.slice A3 (tdg n).length c3,.slice A4 1 c4] 49))) (s:=w4.heap.size+1) (by simp) HR0.out B5 (Nat.le_refl _)
    have HW9:=Lib.hid hw9;have HR9:=Lib.hid hrow9
    have hno9:Hid (¬ FracGood ((45:UInt8) :: T)):=Lib.hid fun hgood=>by
     rcases HCS.out with ⟨_,h1⟩|⟨h1,_⟩
     ·exact h1 (HG1.out.1 hgood).1
     ·cases h1
    clear hw9 hrow9
    go_wp2_with fail
    rw[← HW9.out]
    refine bodyPost_ret (res_get w9 w.heap.size _ (.bool false) HR9.out rfl _ Tryz.results9 _ (by simp[go_sem]) (by simp[go_sem])) rfl ?_
    exact ⟨_,false,rfl,hb9,.inl ⟨rfl,hno9.out,_,rfl⟩⟩
   ·have hcase1:GoodNat T∧n=numOf 0 T:=by
     rcases HCS.out with ⟨h,_⟩|⟨_,h⟩
     ·cases h
     ·exact h
    obtain ⟨hga,hna⟩:=hcase1
    have HGA:=Lib.hid hga;have HNA:=Lib.hid hna
    clear HCS hga hna
    obtain ⟨bo,oo,hA4,hd4⟩:∃ bo oo,A4=some ⟨bo,oo,none⟩∧(w4.alloc (.cells #[.bool bs,.slice A3 (tdg n).length c3,.slice A4 1 c4] 49)).cell? ⟨bo,oo,none⟩=some (.int .i64 1):=by
     have h:=HY5.out
     unfold RefN at h
     rw[tdg_one]at h
     have h':Ints .i64 (w4.alloc (.cells #[.bool bs,.slice A3 (tdg n).length c3,.slice A4 1 c4] 49)) (.slice A4 ([1]:List Nat).length c4) [1]:=h
     obtain ⟨bo,oo,h1,h2⟩:=Ints.at_ h' 0 (by simp)
     exact ⟨bo,oo,h1,h2⟩
    subst hA4
    have hn0b:=tdg_len0 n
    by_cases hn0:n=0
    ·rw[decide_eq_true hn0]at hn0b
     have HN0:=Lib.hid hn0
     clear hn0
     obtain ⟨w9,hw9,hrow9,hb9,q0,q1,q2,f0,f1,f2⟩:=qno (tI:=3) (W:=(w4.alloc (.cells #[.bool bs,.slice A3 (tdg n).length c3,.slice (some ⟨bo,oo,none⟩) 1 c4] 49))) (s:=w4.heap.size+1) (by simp) HR0.out B5 (Nat.le_refl _)
     have HW9:=Lib.hid hw9;have HR9:=Lib.hid hrow9
     have hno9:Hid (¬ FracGood ((45:UInt8) :: T)):=Lib.hid fun hgood=>by
      exact (HG1.out.1 hgood).2 (by first|rfl|trivial) (by rw[← HNA.out];exact HN0.out)
     clear hw9 hrow9
     go_wp2_with fail
     rw[← HW9.out]
     refine bodyPost_ret (res_get w9 w.heap.size _ (.bool false) HR9.out rfl _ Tryz.results9 _ (by simp[go_sem]) (by simp[go_sem])) rfl ?_
     exact ⟨_,false,rfl,hb9,.inl ⟨rfl,hno9.out,_,rfl⟩⟩
    ·rw[decide_eq_false hn0]at hn0b
     have HN0:=Lib.hid hn0
     clear hn0
     obtain ⟨gg,hgg⟩:∃ gg,gg=Nat.gcd n 1:=⟨_,rfl⟩
     have hggl:(tdg gg).length≤100000:=by rw[hgg];exact Nat.le_trans (tdg_le (Nat.gcd_le_right _ (by first|omega|(have:=HD0.out;omega)))) (by first|omega|(rw[tdg_one];simp))
     have CGc0:=(ref_Gcd _ _ _ n 1 HX5.out HY5.out (by omega) (by first|omega|(rw[tdg_one];simp)))
     rw[← hgg]at CGc0
     have CGc:=Lib.hid CGc0
     have HGG:=Lib.hid hgg
     clear CGc0 hgg
     go_wp2_with fail
     refine CGc.out.mono ?_
     rintro e w7 ⟨z,rfl,hz,hb7⟩
     obtain ⟨w8,hw8⟩:∃ w8,w8=w7.alloc (.cells #[.int .i64 1] 3):=⟨_,rfl⟩
     have h78:Below w7.heap.size w7 w8:=by rw[hw8];exact (Below.refl _ _).alloc (Nat.le_refl _) _
     have hone8:RefN w8 (.slice (some ⟨w7.heap.size,0,none⟩) 1 1) 1:=ref_one (d:=1) (by rw[hw8];exact Row.new _ _ _) (by omega) (by omega)
     have y8:=below_seq hb7 h78
     have CC8:=ref_Cmp w8 _ _ gg 1 (hz.keep h78) hone8 (by omega) (by rw[tdg_one];simp)
     have hr8:=Row.keep HR0.out y8
     have hg8:=Row.keep HRG.out y8
     have hx8:=RefN.keep HX5.out y8
     have hy8:=RefN.keep HY5.out y8
     have B8:=B5.trans (y8.mono B5.size)
     have HW8:=Lib.hid hw8
     obtain ⟨A9,c9,rfl,_⟩:=hz.open_
     clear hw8 hone8 hz CGc hb7 h78
     rw[cmpI_eq (by rw[HGG.out];exact Nat.gcd_one_right _)]at CC8
     have CC9:=Lib.hid CC8
     obtain ⟨w9,hw9,hrow9,hq9,hb9,q0,q1,q2,f0,f1,f2⟩:=qyes (g:=w4.heap.size) (n:=n) (d:=1) hr8 B8 (Nat.le_refl _) hg8 hx8 hy8 HS4.out
     have HW9:=Lib.hid hw9;have HR9:=Lib.hid hrow9;have HQ9:=Lib.hid hq9;have HG8:=Lib.hid hg8
     clear hw9 hrow9 hq9 CC8 hr8 hg8 hx8 hy8
     go_wp2_with fail
     rw[← HW8.out]
     refine CC9.out.mono ?_
     rintro e w' ⟨rfl,rfl⟩
     go_wp2_with (refine wpList_load_row rfl 49 _ rfl w4.heap.size rfl 49 _ (0,0) _ HG8.out Tryz.underlying49 rfl hsz ?_)
     rw[← HW9.out]
     refine bodyPost_ret (res_get w9 w.heap.size _ (.bool true) HR9.out rfl _ Tryz.results9 _ (by simp[go_sem]) (by simp[go_sem])) rfl ?_
     refine ⟨_,true,rfl,hb9,.inr ⟨rfl,HG1.out.2 ⟨HGA.out,(fun _=>by rw[← HNA.out];exact HN0.out)⟩,_,n,1,HQ9.out,by omega,?_,hnl,by rw[tdg_one];simp⟩⟩
     rw[HG2.out,← HNA.out,HBS.out]
     rw[show (true && decide (n≠0))=true by simp[HN0.out]]
set_option maxRecDepth 100000 in
set_option maxHeartbeats 8000000 in
theorem ref_Get_pos_s (w:World) (c:UInt8) (r:List UInt8) (hc:c≠45) (hns:(47:UInt8)∉c :: r) (hl:(c :: r).length≤9223372036854775807) :
 Calls Tryz.prog 9 #[.string ⟨(c :: r).toArray⟩] w (RefGotQ (c :: r) w):=by
 have hsz:(Tryz.prog.info? 49).map (·.size)=some 3:=by kernel_rfl
 obtain ⟨w0,hw0⟩:∃ w0,w0=w.alloc (.cells #[.bool false,.slice none 0 0,.slice none 0 0] 49):=⟨_,rfl⟩
 have r0:Hid (∀ n,Row (w0.drewN n) w.heap.size 49 #[.bool false,.slice none 0 0,.slice none 0 0]):=Lib.hid fun n=>by rw[hw0];exact Row.keep (Row.new _ _ _) (Below.drewN_ (Below.refl _ _) n)
 have b0:Hid (∀ n,Below w.heap.size w (w0.drewN n)):=Lib.hid fun n=>by rw[hw0];exact Below.drewN_ ((Below.refl _ _).alloc (Nat.le_refl _) _) n
 have W0:=Lib.hid hw0
 clear hw0
 obtain ⟨T,hT⟩:∃ T:List UInt8,T=c :: r:=⟨_,rfl⟩
 have HNS:Hid ((47:UInt8)∉T):=Lib.hid (by rw[hT];exact hns)
 clear hns
 have hhT:Hid (T.head?≠some 45):=Lib.hid (by rw[hT];simpa using hc)
 have hTl:T.length≤9223372036854775807:=by rw[hT];exact hl
 obtain ⟨h0,hb⟩:∃ h0:0<(⟨T.toArray⟩:ByteArray).size,(((((⟨T.toArray⟩:ByteArray)[0]'h0).toNat:Int)) == 45)=false:=by
  subst hT
  refine ⟨by show 0<(c :: r).toArray.size;simp,?_⟩
  have h2:c.toNat≠45:=fun e=>hc (UInt8.toNat_inj.1 e)
  show ((c.toNat:Int) == 45)=false
  rw[beq_eq_false_iff_ne];omega
 have hne2:T.isEmpty=false:=by rw[hT];rfl
 have hT0:0<T.length:=by rw[hT];simp
 rw[← hT]
 clear hT hc hl
 go_enter Tryz.func9,Tryz.ntmps9
 go_wp2_with fail
 rw[← W0.out]
 go_quiet (fail)
 go_wp2_with fail
 clear hb
 have hlT:Hid (T=sgnT false T):=Lib.hid rfl
 go_loopw [6] (fun t6 wr=>∃ k:Nat,t6=.int .i64 k∧k≤T.length∧Hid (∀ j,j<k→T[j]?≠some 47)∧Hid (Row wr w.heap.size 49 #[.bool false,.slice none 0 0,.slice none 0 0])∧Below w.heap.size w wr) (fun t6 _=>T.length - (intOf t6).toNat)
 case atStart=>exact ⟨0,rfl,by omega,Lib.hid (fun j hj=>by omega),Lib.hid (r0.out _),b0.out _⟩
 case round=>
  clear r0 b0 W0
  obtain ⟨k,rfl,hk,hno,hrow,hbr⟩:=hrel
  obtain ⟨Sa,hSa⟩:∃ Sa,Sa=(⟨T.toArray⟩:ByteArray).extract 0 k:=⟨_,rfl⟩
  have CA:Hid (∀ wr,Calls Tryz.prog 36 #[.string Sa] wr (RefGot2 (T.take k) wr)):=Lib.hid fun wr=>by
   rw[hSa,take_bytes];exact ref_GetN3 wr _
  have ex1:=hSa.symm
  clear hSa
  by_cases hlt:k<T.length
  ·have hget:k<(⟨T.toArray⟩:ByteArray).size:=by show k<T.toArray.size;simp;omega
   obtain ⟨b,hbe⟩:∃ b,b=(⟨T.toArray⟩:ByteArray)[k]'hget:=⟨_,rfl⟩
   have hLm:Hid (T[k]?=some b):=Lib.hid (by rw[hbe,List.getElem?_eq_getElem (by omega)];rfl)
   obtain ⟨x,hxe⟩:∃ x:Nat,x=b.toNat:=⟨_,rfl⟩
   have hx:((((⟨T.toArray⟩:ByteArray)[k]'hget).toNat:Nat):Int)=(x:Int):=by rw[hxe,hbe]
   have HX:=Lib.hid hxe
   clear hbe hxe
   by_cases h47:x=47
   ·exact absurd (List.mem_of_getElem? (show T[k]?=some 47 by rw[hLm.out];exact congrArg some (UInt8.toNat_inj.1 (by rw[← HX.out,h47];rfl)))) HNS.out
   ·have hq:((x:Int) == 47)=false:=by rw[beq_eq_false_iff_ne];omega
    have hno2:Hid (∀ j,j<k+1→T[j]?≠some 47):=Lib.hid fun j hj=>by
     by_cases e:j=k
     ·subst e;rw[hLm.out];intro h;injection h with h;rw[HX.out,h]at h47;exact h47 rfl
     ·exact hno.out j (by omega)
    clear h47 hno hLm HX CA
    go_wp2_with fail
    go_roundw
    case rel=>exact ⟨k+1,by go_num,by omega,hno2,hrow,hbr⟩
    case measure=>simp[intOf];omega
  ·obtain rfl:k=T.length:=by omega
   obtain ⟨G1,G2⟩:=good_whole (neg:=false) (a:=T) (no_stroke hno.out) (fun _=>hhT.out)
   have HG1:Hid (FracGood T↔GoodNat T∧(false=true→numOf 0 T≠0)):=Lib.hid G1
   have HG2:Hid (fracOf T=quo false (numOf 0 T) 1):=Lib.hid G2
   rw[List.take_length]at CA
   clear hno hhT G1 G2 hlT
   go_wp2_with fail
   refine (CA.out _).mono ?_
   intro e w2 hgot
   obtain ⟨A,c,n,b1,rfl,hb2,hn,hnl,hcase⟩:=got_num hgot
   obtain ⟨w3,hw3⟩:∃ w3,w3=w2.alloc (.cells #[.int .i64 1] 3):=⟨_,rfl⟩
   have h23:Below w2.heap.size w2 w3:=by rw[hw3];exact (Below.refl _ _).alloc (Nat.le_refl _) _
   have hone3:RefN w3 (.slice (some ⟨w2.heap.size,0,none⟩) 1 1) 1:=ref_one (d:=1) (by rw[hw3];exact Row.new _ _ _) (by omega) (by omega)
   have CF:=Lib.hid (ref_Frac w3 false _ _ n 1 (hn.keep h23) hone3)
   obtain ⟨bs,hbs⟩:∃ bs,bs=(false && decide (n≠0)):=⟨_,rfl⟩
   rw[← hbs]at CF
   have HBS:=Lib.hid hbs
   have HW3:=Lib.hid hw3
   clear hn hone3 hw3 hbs hgot
   go_wp2_with fail
   rw[← HW3.out]
   refine CF.out.mono ?_
   rintro e w4 ⟨v,rfl,hv,hb4⟩
   have hv2:=hv.open_
   rw[show (tdg 1).length=1 by rw[tdg_one];rfl]at hv2
   obtain ⟨A3,c3,A4,c4,rfl,hx4,hy4,hs4⟩:=hv2
   have hb5:Below w4.heap.size w4 (w4.alloc (.cells #[.bool bs,.slice A3 (tdg n).length c3,.slice A4 1 c4] 49)):=(Below.refl _ _).alloc (Nat.le_refl _) _
   have y4:=below_seq hb2 (below_seq h23 hb4)
   have y5:=below_seq y4 hb5
   have B5:=hbr.trans (y5.mono hbr.size)
   have HR0:=Lib.hid (Row.keep hrow.out y5)
   have hlt4:Hid (w.heap.size<w4.heap.size):=Lib.hid (by have h1:=Row.lt hrow.out;have h2:=y4.size;omega)
   have HX5:=Lib.hid (RefN.keep hx4 hb5);have HY5:=Lib.hid (RefN.keep hy4 hb5);have HRG:=Lib.hid (Row.new w4 49 #[.bool bs,.slice A3 (tdg n).length c3,.slice A4 1 c4]);have HS4:=Lib.hid hs4
   clear CF hv hx4 hy4 hs4 HW3 hb4 h23 hb2 y4 y5 hb5 hrow
   have HCS:=Lib.hid hcase
   clear hcase CA
   cases b1
   ·obtain ⟨w9,hw9,hrow9,hb9,q0,q1,q2,f0,f1,f2⟩:=qno (tI:=3) (W:=(w4.alloc (.cells #[.bool bs,.slice A3 (tdg n).length c3,.slice A4 1 c4] 49))) (s:=w4.heap.size+1) (by simp) HR0.out B5 (Nat.le_refl _)
    have HW9:=Lib.hid hw9;have HR9:=Lib.hid hrow9
    have hno9:Hid (¬ FracGood T):=Lib.hid fun hgood=>by
     rcases HCS.out with ⟨_,h1⟩|⟨h1,_⟩
     ·exact h1 (HG1.out.1 hgood).1
     ·cases h1
    clear hw9 hrow9
    go_wp2_with fail
    rw[← HW9.out]
    refine bodyPost_ret (res_get w9 w.heap.size _ (.bool false) HR9.out rfl _ Tryz.results9 _ (by simp[go_sem]) (by simp[go_sem])) rfl ?_
    exact ⟨_,false,rfl,hb9,.inl ⟨rfl,hno9.out,_,rfl⟩⟩
   ·have hcase1:GoodNat T∧n=numOf 0 T:=by
     rcases HCS.out with ⟨h,_⟩|⟨_,h⟩
     ·cases h
     ·exact h
    obtain ⟨hga,hna⟩:=hcase1
    have HGA:=Lib.hid hga;have HNA:=Lib.hid hna
    clear HCS hga hna
    obtain ⟨bo,oo,hA4,hd4⟩:∃ bo oo,A4=some ⟨bo,oo,none⟩∧(w4.alloc (.cells #[.bool bs,.slice A3 (tdg n).length c3,.slice A4 1 c4] 49)).cell? ⟨bo,oo,none⟩=some (.int .i64 1):=by
     have h:=HY5.out
     unfold RefN at h
     rw[tdg_one]at h
     have h':Ints .i64 (w4.alloc (.cells #[.bool bs,.slice A3 (tdg n).length c3,.slice A4 1 c4] 49)) (.slice A4 ([1]:List Nat).length c4) [1]:=h
     obtain ⟨bo,oo,h1,h2⟩:=Ints.at_ h' 0 (by simp)
     exact ⟨bo,oo,h1,h2⟩
    subst hA4
    have hn0b:=tdg_len0 n
    clear hn0b
    obtain ⟨gg,hgg⟩:∃ gg,gg=Nat.gcd n 1:=⟨_,rfl⟩
    have hggl:(tdg gg).length≤100000:=by rw[hgg];exact Nat.le_trans (tdg_le (Nat.gcd_le_right _ (by first|omega|(have:=HD0.out;omega)))) (by first|omega|(rw[tdg_one];simp))
    have CGc0:=(ref_Gcd _ _ _ n 1 HX5.out HY5.out (by omega) (by first|omega|(rw[tdg_one];simp)))
    rw[← hgg]at CGc0
    have CGc:=Lib.hid CGc0
    have HGG:=Lib.hid hgg
    clear CGc0 hgg
    go_wp2_with fail
    refine CGc.out.mono ?_
    rintro e w7 ⟨z,rfl,hz,hb7⟩
    obtain ⟨w8,hw8⟩:∃ w8,w8=w7.alloc (.cells #[.int .i64 1] 3):=⟨_,rfl⟩
    have h78:Below w7.heap.size w7 w8:=by rw[hw8];exact (Below.refl _ _).alloc (Nat.le_refl _) _
    have hone8:RefN w8 (.slice (some ⟨w7.heap.size,0,none⟩) 1 1) 1:=ref_one (d:=1) (by rw[hw8];exact Row.new _ _ _) (by omega) (by omega)
    have y8:=below_seq hb7 h78
    have CC8:=ref_Cmp w8 _ _ gg 1 (hz.keep h78) hone8 (by omega) (by rw[tdg_one];simp)
    have hr8:=Row.keep HR0.out y8
    have hg8:=Row.keep HRG.out y8
    have hx8:=RefN.keep HX5.out y8
    have hy8:=RefN.keep HY5.out y8
    have B8:=B5.trans (y8.mono B5.size)
    have HW8:=Lib.hid hw8
    obtain ⟨A9,c9,rfl,_⟩:=hz.open_
    clear hw8 hone8 hz CGc hb7 h78
    rw[cmpI_eq (by rw[HGG.out];exact Nat.gcd_one_right _)]at CC8
    have CC9:=Lib.hid CC8
    obtain ⟨w9,hw9,hrow9,hq9,hb9,q0,q1,q2,f0,f1,f2⟩:=qyes (g:=w4.heap.size) (n:=n) (d:=1) hr8 B8 (Nat.le_refl _) hg8 hx8 hy8 HS4.out
    have HW9:=Lib.hid hw9;have HR9:=Lib.hid hrow9;have HQ9:=Lib.hid hq9;have HG8:=Lib.hid hg8
    clear hw9 hrow9 hq9 CC8 hr8 hg8 hx8 hy8
    go_wp2_with fail
    rw[← HW8.out]
    refine CC9.out.mono ?_
    rintro e w' ⟨rfl,rfl⟩
    go_wp2_with (refine wpList_load_row rfl 49 _ rfl w4.heap.size rfl 49 _ (0,0) _ HG8.out Tryz.underlying49 rfl hsz ?_)
    rw[← HW9.out]
    refine bodyPost_ret (res_get w9 w.heap.size _ (.bool true) HR9.out rfl _ Tryz.results9 _ (by simp[go_sem]) (by simp[go_sem])) rfl ?_
    refine ⟨_,true,rfl,hb9,.inr ⟨rfl,HG1.out.2 ⟨HGA.out,(fun h=>by cases h)⟩,_,n,1,HQ9.out,by omega,?_,hnl,by rw[tdg_one];simp⟩⟩
    rw[HG2.out,← HNA.out,HBS.out]
    rfl
theorem ref_Get_s (w:World) (l:List UInt8) (h0:l≠[]) (hns:(47:UInt8)∉l) (hl:l.length≤9223372036854775807) :
 Calls Tryz.prog 9 #[.string ⟨l.toArray⟩] w (RefGotQ l w):=by
 rcases l with _|⟨c,r⟩
 ·exact absurd rfl h0
 ·by_cases hc:c=45
  ·subst hc;exact ref_Get_neg_s w r (fun h=>hns (by simp[h])) hl
  ·exact ref_Get_pos_s w c r hc hns hl
end Go.Proofs.YtbdfhnelmojbpaaGreatDoor
end
section
namespace Vic
open Go
def dec2 (i:Nat):Txt:=if i<10 then [UInt8.ofNat (48+i)]else [UInt8.ofNat (48+i / 10),UInt8.ofNat (48+i % 10)]
theorem dec2_is {i:Nat}(h:i<100):Lib.decDigits i=dec2 i:=by
 unfold dec2
 by_cases h1:i<10
 ·rw[if_pos h1,dec_small h1]
 ·rw[if_neg h1,dec_big (by omega),dec_small (by omega)];rfl
theorem fracText_int7 (z:Int):fracText (z:Rat)=(if z<0 then [45]else []) ++ Lib.decDigits z.natAbs:=by
 unfold fracText
 rw[show ((z:Rat)).num=z from rfl,show ((z:Rat)).den=1 from rfl,if_pos rfl,List.append_nil]
def intT (z:Int):Txt:=(if z<0 then [45]else []) ++ dec2 z.natAbs
theorem intT_is {z:Int}(h1 : -100<z) (h2:z<100):fracText (z:Rat)=intT z:=by
 rw[fracText_int7,dec2_is (by omega)];rfl
theorem dec2_len (i:Nat):1≤(dec2 i).length∧(dec2 i).length≤2:=by
 unfold dec2;split<;>simp
theorem intT_len (z:Int):(intT z).length≤3:=by
 have:=dec2_len z.natAbs
 unfold intT;split<;>simp<;>omega
end Vic
end
section
namespace Vic
open Go
theorem intT_good {z:Int}(h1 : -100<z) (h2:z<100):FracGood (intT z)∧fracOf (intT z)=(z:Rat):=by
 have e:=intT_is h1 h2
 rw[← e]
 refine fracGood_text _ ?_ ?_
 ·rw[show ((z:Rat)).num=z from rfl,dec2_is (by omega)]
  have:=dec2_len z.natAbs;omega
 ·rw[show ((z:Rat)).den=1 from rfl,dec2_is (by omega)]
  have:=dec2_len 1;omega
theorem good0:FracGood [48]∧fracOf [48]=0:=by
 have:=intT_good (z:=0) (by omega) (by omega)
 exact this
theorem good1:FracGood [49]∧fracOf [49]=1:=by
 have:=intT_good (z:=1) (by omega) (by omega)
 exact this
open Classical in
theorem numberM_of {s:Txt}(h:FracGood s):numberM s=true:=by unfold numberM;exact decide_eq_true h
theorem maybeM_of {s:Txt}(h:FracGood s):maybeM s=true:=by unfold maybeM;rw[numberM_of h,Bool.or_true]
theorem maybeM_nil:maybeM []=true:=by unfold maybeM;rfl
theorem intT_ne (z:Int):intT z≠[]:=by
 unfold intT
 intro h
 have h2:=congrArg List.length h
 have:=dec2_len z.natAbs
 rw[List.length_append,List.length_nil]at h2
 omega
def rngCol0:ColM:=⟨[120],[48],[49],[48],false⟩
def rngCol1:ColM:=⟨[121],[],[],[48],false⟩
def rngRow (kind rhs span:Int):RowM:=⟨[114],kind,[(1,[49])],intT rhs,intT span⟩
def rngCore (kind rhs span:Int):CoreM:=⟨[65],[111],[rngRow kind rhs span],[rngCol0,rngCol1]⟩
def rngPs:List PerM:=[([120],[111],[97]),([121],[114],[98])]
def absI (z:Int):Int:=if z<0 then -z else z
def rngLow (kind rhs span:Int):Int:=if kind=1 then rhs - absI span else if kind=3 then rhs else if span<0 then rhs+span else rhs
def rngHigh (kind rhs span:Int):Int:=if kind=1 then rhs else if kind=3 then rhs+absI span else if span<0 then rhs else rhs+span
def fitB (k z x:Int):Bool:=(k == 1 && decide (x≤z)) || (k == 3 && decide (z≤x))
theorem rng_may {kind rhs span:Int}(hk:1≤kind∧kind≤3) (hr : -50<rhs∧rhs<50) (hs : -20<span∧span<20):mayCore (rngCore kind rhs span)=0:=by
 have g0:=good0;have g1:=good1
 have gr:=intT_good (z:=rhs) (by omega) (by omega)
 have gs:=intT_good (z:=span) (by omega) (by omega)
 unfold mayCore
 rw[if_neg,if_neg,if_neg,if_neg]
 ·simp only[rngCore,rngRow,rngCol0,rngCol1,List.any_cons,List.any_nil,coefsFrom,numberM_of g0.1,numberM_of g1.1,numberM_of gr.1,maybeM_of gs.1,maybeM_of g0.1,maybeM_of g1.1,maybeM_nil,g1.2]
  decide
 ·simp only[rngCore,rngRow,List.any_cons,List.any_nil,Bool.or_false,Bool.or_eq_true,decide_eq_true_eq]
  omega
 ·simp[rngCore]
 ·have:namedM (rngCore kind rhs span)=true:=by
   unfold namedM
   simp only[rngCore,rngRow,rngCol0,rngCol1,List.map_cons,List.map_nil]
   decide
  rw[this];decide
theorem rng_time (kind rhs span:Int):mayTime (rngCore kind rhs span) rngPs=0:=by rfl
theorem rng_look (kind rhs span:Int):lookM (rngCore kind rhs span) 1 0=0:=by
 have g0:=good0;have g1:=good1
 unfold lookM
 have h1:crossesM rngCol0=false:=by
  unfold crossesM
  simp only[rngCol0,g0.2,g1.2]
  decide
 have h2:crossesM rngCol1=false:=by
  unfold crossesM
  simp[rngCol1]
 rw[if_neg (by simp[rngCore]),if_neg (by simp[rngCore,rngCol1]),show ((rngCore kind rhs span).cols.take 1).any openM=false from rfl,show (rngCore kind rhs span).cols.any crossesM=false from by show (crossesM rngCol0 || (crossesM rngCol1 || false))=false;rw[h1,h2];rfl]
 rfl
theorem rng_ranged {kind rhs span:Int}(hk:1≤kind∧kind≤3) (hr : -50<rhs∧rhs<50) (hs : -20<span∧span<20) :
 ∃ k1 k2 z1 z2:Int,rangedM (rngRow kind rhs span) = [⟨[114],k1,[(1,[49])],intT z1,[]⟩,⟨[114],k2,[(1,[49])],intT z2,[]⟩]∧(-100<z1∧z1<100)∧(-100<z2∧z2<100)∧(k1=1∨k1=3)∧(k2=1∨k2=3) ∧
   ∀ x:Int,(fitB k1 z1 x && fitB k2 z2 x)=(decide (rngLow kind rhs span≤x) && decide (x≤rngHigh kind rhs span)):=by
 have gr:=intT_good (z:=rhs) (by omega) (by omega)
 have gs:=intT_good (z:=span) (by omega) (by omega)
 have hsz:(if fracOf (intT span)<0 then -fracOf (intT span)else fracOf (intT span))=((absI span:Int):Rat):=by
  rw[gs.2]
  unfold absI
  by_cases h:span<0
  ·rw[if_pos h,if_pos (by exact_mod_cast h)];simp
  ·rw[if_neg h,if_neg (by exact_mod_cast h)]
 have ha:0≤absI span∧absI span<20:=by unfold absI;split<;>omega
 have sub:∀ a b:Int,-100<a - b→a - b<100→fracText ((a:Rat) - (b:Rat))=intT (a - b):=fun a b h1 h2=>by rw[← Rat.intCast_sub];exact intT_is h1 h2
 have add:∀ a b:Int,-100<a+b→a+b<100→fracText ((a:Rat)+(b:Rat))=intT (a+b):=fun a b h1 h2=>by rw[← Rat.intCast_add];exact intT_is h1 h2
 have hR:∀ k:Int,rangedM (rngRow k rhs span)=if intT span = []then [rngRow k rhs span]else if k=1 then [⟨[114],k,[(1,[49])],intT rhs,[]⟩,⟨[114],3,[(1,[49])],fracText (fracOf (intT rhs) - (if fracOf (intT span)<0 then -fracOf (intT span)else fracOf (intT span))),[]⟩]
  else if k=3 then [⟨[114],k,[(1,[49])],intT rhs,[]⟩,⟨[114],1,[(1,[49])],fracText (fracOf (intT rhs)+(if fracOf (intT span)<0 then -fracOf (intT span)else fracOf (intT span))),[]⟩]
  else if fracOf (intT span)<0 then [⟨[114],3,[(1,[49])],fracText (fracOf (intT rhs)+fracOf (intT span)),[]⟩,⟨[114],1,[(1,[49])],intT rhs,[]⟩]
  else [⟨[114],3,[(1,[49])],intT rhs,[]⟩,⟨[114],1,[(1,[49])],fracText (fracOf (intT rhs)+fracOf (intT span)),[]⟩]:=fun _=>rfl
 have hc:kind=1∨kind=3∨kind=2:=by omega
 rcases hc with rfl|rfl|rfl
 ·refine ⟨1,3,rhs,rhs - absI span,?_,by omega,by omega,.inl rfl,.inr rfl,fun x=>?_⟩
  ·rw[hR,if_neg (intT_ne span),if_pos rfl,hsz,gr.2,sub _ _ (by omega) (by omega)]
  ·simp only[fitB,rngLow,rngHigh]
   rw[Bool.eq_iff_iff]
   simp
   omega
 ·refine ⟨3,1,rhs,rhs+absI span,?_,by omega,by omega,.inr rfl,.inl rfl,fun x=>?_⟩
  ·rw[hR,if_neg (intT_ne span),if_neg (by decide),if_pos rfl,hsz,gr.2,add _ _ (by omega) (by omega)]
  ·simp only[fitB,rngLow,rngHigh]
   rw[Bool.eq_iff_iff]
   simp
 ·by_cases h:span<0
  ·refine ⟨3,1,rhs+span,rhs,?_,by omega,by omega,.inr rfl,.inl rfl,fun x=>?_⟩
   ·rw[hR,if_neg (intT_ne span),if_neg (by decide),if_neg (by decide),gr.2,gs.2,if_pos (by exact_mod_cast h),add _ _ (by omega) (by omega)]
   ·simp only[fitB,rngLow,rngHigh,if_pos h]
    rw[Bool.eq_iff_iff]
    simp
  ·refine ⟨3,1,rhs,rhs+span,?_,by omega,by omega,.inr rfl,.inl rfl,fun x=>?_⟩
   ·rw[hR,if_neg (intT_ne span),if_neg (by decide),if_neg (by decide),gr.2,gs.2,if_neg (by exact_mod_cast h),add _ _ (by omega) (by omega)]
   ·simp only[fitB,rngLow,rngHigh,if_neg h]
    rw[Bool.eq_iff_iff]
    simp
theorem rng_split {kind rhs span:Int}(hk:1≤kind∧kind≤3) (hr : -50<rhs∧rhs<50) (hs : -20<span∧span<20) :
 ∃ k1 k2 z1 z2:Int,splitOf (rngCore kind rhs span) rngPs=(⟨⟨[rngCol0],[]⟩,⟨[rngCol1],[⟨[114],k1,[(0,[49])],intT z1,[]⟩,⟨[114],k2,[(0,[49])],intT z2,[]⟩]⟩,[[],[]]⟩,0)∧(-100<z1∧z1<100)∧(-100<z2∧z2<100)∧(k1=1∨k1=3)∧(k2=1∨k2=3) ∧
   ∀ x:Int,(fitB k1 z1 x && fitB k2 z2 x)=(decide (rngLow kind rhs span≤x) && decide (x≤rngHigh kind rhs span)):=by
 obtain ⟨k1,k2,z1,z2,h1,h2⟩:=rng_ranged hk hr hs
 refine ⟨k1,k2,z1,z2,?_,h2⟩
 have hc:(cutCol (rngCore kind rhs span) rngPs).toNat=1:=rfl
 have hrw:(cutRow (rngCore kind rhs span) rngPs).toNat=0:=rfl
 have ht:splitTwo (rngCore kind rhs span) 1 0=⟨⟨[rngCol0],[]⟩,⟨[rngCol1],[⟨[114],k1,[(0,[49])],intT z1,[]⟩,⟨[114],k2,[(0,[49])],intT z2,[]⟩]⟩,[[],[]]⟩:=by
  have hd:((rngCore kind rhs span).rows.drop 0).map rangedM = [rangedM (rngRow kind rhs span)]:=rfl
  unfold splitTwo
  rw[hd,h1]
  rfl
 unfold splitOf
 rw[if_neg (by rw[rng_may hk hr hs];decide),if_neg (by rw[rng_time];decide)]
 dsimp only
 rw[hc,hrw,if_neg (by rw[rng_look];decide),ht,if_neg]
 simp[rngCore]
end Vic
end
section
namespace Go.Proofs.YtbdfhnelmojbpaaGreatDoor
open Go.RowKit Vic
theorem tdg_small {n:Nat}(h:n<100):(tdg n).length≤100000:=Nat.le_trans (digs_length_le (B:=10000) (by omega) (Nat.lt_of_lt_of_le h (by show 100≤10000 ^ 1;omega))) (by omega)
theorem num_text (W:World) (v:Value) (z:Int) (h1 : -100<z) (h2:z<100) (hv:RefQ W v (decide (z<0)) z.natAbs 1):Calls Tryz.prog 29 #[v] W (Keeps (.string ⟨(intT z).toArray⟩) W):=by
 have:=ref_Q_Text W v _ _ _ hv (by omega) (tdg_small (by omega)) (tdg_small (by omega))
 have e:quo (decide (z<0)) z.natAbs 1=(z:Rat):=by
  rw[quo_one]
  congr 1
  unfold sgn
  by_cases h:z<0
  ·rw[decide_eq_true h,if_pos rfl];omega
  ·rw[decide_eq_false h,if_neg (by simp)];omega
 rw[e,intT_is h1 h2]at this
 exact this
theorem law7_num (w:World) (z:Int) (h1 : -100<z) (h2:z<100):Calls Tryz.prog 7 #[.int .i64 z] w (Keeps (.string ⟨(intT z).toArray⟩) w):=by
 have CO:=Lib.hid (ref_Of w z (by omega) (by omega))
 have CT:Hid (∀ W v,RefQ W v (decide (z<0)) z.natAbs 1→Calls Tryz.prog 29 #[v] W (Keeps (.string ⟨(intT z).toArray⟩) W)):=Lib.hid fun W v hv=>num_text W v z h1 h2 hv
 clear h1 h2
 go_enter Tryz.func7,Tryz.ntmps7
 go_wp2_with fail
 refine CO.out.mono ?_
 rintro e w1 ⟨v,rfl,hv,hb1⟩
 have C2:=Lib.hid (CT.out w1 v hv)
 clear hv
 go_wp2_with fail
 refine C2.out.mono ?_
 rintro e w2 ⟨rfl,hb2⟩
 go_wp2_with fail
 go_ret
 exact ⟨rfl,below_seq hb1 hb2⟩
end Go.Proofs.YtbdfhnelmojbpaaGreatDoor
end
section
namespace Vic
open Go Go.RowKit
theorem draw3 (n:Int):∃ K:Int,1≤K∧K≤3∧wrap64 (1+(wrap64 (n.tmod 3+3)).tmod 3)=K:=by
 have h1:=Int.tmod_lt_of_pos n (by decide:(0:Int)<3)
 have h2:=Int.lt_tmod_of_pos n (by decide:(0:Int)<3)
 generalize n.tmod 3=a at *
 have e1:wrap64 (a+3)=a+3:=by unfold wrap64;omega
 rw[e1]
 have h3:=Int.tmod_lt_of_pos (a+3) (by decide:(0:Int)<3)
 have h4:=Int.tmod_nonneg (a:=a+3) 3 (by omega)
 generalize (a+3).tmod 3=b at *
 exact ⟨1+b,by omega,by omega,by unfold wrap64;omega⟩
theorem tmod_in (n:Int) {k:Int}(hk:0<k):∃ z:Int,-k<z∧z<k∧n.tmod k=z:=⟨n.tmod k,Int.lt_tmod_of_pos n hk,Int.tmod_lt_of_pos n hk,rfl⟩
theorem rng_fit (kind rhs span:Int) (hk:1≤kind∧kind≤3):FitCore (rngCore kind rhs span):=by
 have h1:=intT_len rhs;have h2:=intT_len span
 refine ⟨by simp[rngCore],by simp[rngCore],by simp[rngCore],by simp[rngCore],fun r hr=>?_,fun x hx=>?_⟩
 ·rw[List.mem_singleton.1 hr]
  refine ⟨by simp[rngRow],?_,?_,by simp[rngRow],fun x hx=>?_,?_⟩
  ·show (intT rhs).length≤_;omega
  ·show (intT span).length≤_;omega
  ·rw[List.mem_singleton.1 hx];decide
  ·show -9223372036854775808≤kind∧kind≤9223372036854775807;omega
 ·have:x=rngCol0∨x=rngCol1:=by simpa [rngCore]using hx
  rcases this with rfl|rfl
  ·exact ⟨by decide,by decide,by decide,by decide⟩
  ·exact ⟨by decide,by decide,by decide,by decide⟩
theorem fits_int {z:Int}(h1 : -100<z) (h2:z<100):Fits 400000 (fracOf (intT z)):=by
 rw[(intT_good h1 h2).2]
 exact ⟨Nat.le_trans (show sz z.natAbs≤2 from sz_word (by omega)) (by omega),Nat.le_trans (show sz 1≤2 from sz_word (by omega)) (by omega)⟩
theorem rng_in {w:World}{g1 g2 g3:Nat}{kind rhs span:Int}(h1:Row w g1 24 #[.int .i64 1,.string ⟨#[49]⟩])
 (h2:Row w g2 28 #[.string ⟨#[114]⟩,.int .i64 kind,.slice (some ⟨g1,0,none⟩) 1 1,.string ⟨(intT rhs).toArray⟩,.string ⟨(intT span).toArray⟩])
 (h3:Row w g3 31 #[.string ⟨#[120]⟩,.string ⟨#[48]⟩,.string ⟨#[49]⟩,.string ⟨#[48]⟩,.bool false,.string ⟨#[121]⟩,.string ⟨#[]⟩,.string ⟨#[]⟩,.string ⟨#[48]⟩,.bool false]) :
 SlIn RowC 5 w (.slice (some ⟨g2,0,none⟩) 1 1) (rngCore kind rhs span).rows∧ColsIn w (.slice (some ⟨g3,0,none⟩) 2 2) (rngCore kind rhs span).cols:=by
 refine ⟨⟨_,_,rfl,Nat.le_refl _,fun i x hx=>?_⟩,⟨_,_,rfl,Nat.le_refl _,fun i x hx=>?_⟩⟩
 ·rcases i with _|i
  ·cases hx
   refine ⟨g2,0,rfl,.slice (some ⟨g1,0,none⟩) 1 1,h2.cell 0,h2.cell 1,h2.cell 2,h2.cell 3,h2.cell 4,⟨_,_,rfl,Nat.le_refl _,fun j y hy=>?_⟩,.inr (by simp[rngRow])⟩
   rcases j with _|j
   ·cases hy
    exact ⟨g1,0,rfl,h1.cell 0,h1.cell 1⟩
   ·simp[rngRow]at hy
  ·simp[rngCore]at hx
 ·rcases i with _|_|i
  ·cases hx
   exact ⟨g3,0,rfl,h3.cell 0,h3.cell 1,h3.cell 2,h3.cell 3,h3.cell 4⟩
  ·cases hx
   exact ⟨g3,0,rfl,h3.cell 5,h3.cell 6,h3.cell 7,h3.cell 8,h3.cell 9⟩
  ·simp[rngCore]at hx
theorem rng_pin {w:World}{g:Nat}(h:Row w g 44 #[.string ⟨#[120]⟩,.string ⟨#[111]⟩,.string ⟨#[97]⟩,.string ⟨#[121]⟩,.string ⟨#[114]⟩,.string ⟨#[98]⟩]):PersIn w (.slice (some ⟨g,0,none⟩) 2 2) rngPs:=by
 refine ⟨_,_,rfl,Nat.le_refl _,fun i x hx=>?_⟩
 rcases i with _|_|i
 ·cases hx
  exact ⟨g,0,rfl,h.cell 0,h.cell 1,h.cell 2⟩
 ·cases hx
  exact ⟨g,0,rfl,h.cell 3,h.cell 4,h.cell 5⟩
 ·simp[rngPs]at hx
theorem of_is {w:World}{v:Value}{z:Int}(h:RefQ w v (decide (z<0)) z.natAbs 1) (h1 : -100<z) (h2:z<100):RefIs w v (z:Rat) 10:=by
 have ht:∀ n:Nat,n<100→(tdg n).length≤10:=fun n hn=>Nat.le_trans (digs_length_le (B:=10000) (by omega) (Nat.lt_of_lt_of_le hn (by show 100≤10000 ^ 1;omega))) (by omega)
 refine ⟨_,_,1,h,by omega,?_,ht _ (by omega),ht _ (by omega)⟩
 rw[quo_one]
 congr 1
 unfold sgn
 by_cases h:z<0
 ·rw[decide_eq_true h,if_pos rfl];omega
 ·rw[decide_eq_false h,if_neg (by simp)];omega
theorem dec2_no47:∀ i,i<100→(47:UInt8)∉dec2 i:=by decide +kernel
theorem intT_no47 {z:Int}(h1 : -100<z) (h2:z<100):(47:UInt8)∉intT z:=by
 have h:=dec2_no47 z.natAbs (by omega)
 unfold intT
 split
 ·simpa using h
 ·simpa using h
theorem signI_int (a b:Int):decide (signI ((a:Rat) - (b:Rat))≤0)=decide (a≤b)∧decide (0≤signI ((a:Rat) - (b:Rat)))=decide (b≤a):=by
 rw[← Rat.intCast_sub]
 have e:((a - b:Int):Rat).num=a - b:=rfl
 unfold signI
 rw[e]
 constructor
 ·rw[decide_eq_decide]
  split
  ·omega
  ·split<;>omega
 ·rw[decide_eq_decide]
  split
  ·omega
  ·split<;>omega
end Vic
namespace Go.Proofs.YtbdfhnelmojbpaaGreatDoor
open Go.RowKit Vic
abbrev vrng24_0:Oper:={ dst:=some 116,op:=Go.Op.move (Go.Operand.tmp 3),type:=3,pos:="more.go:207",after:=#[],guard:=none }
abbrev vrng24_1:Oper:={ dst:=some 117,op:=Go.Op.call { callee:=Go.Callee.value (Go.Operand.func 11),args:=#[Go.Operand.tmp 116],argTypes:=#[2] },type:=49,pos:="more.go:207",after:=#[{ on:=0,ground:=Go.Ground.data }],guard:=none }
abbrev vrng24_2:Oper:={ dst:=some 118,op:=Go.Op.load 49 (Go.Operand.tmp 19),type:=49,pos:="more.go:207",after:=#[],guard:=none }
abbrev vrng24_3:Oper:={ dst:=some 119,op:=Go.Op.call { callee:=Go.Callee.value (Go.Operand.func 10),args:=#[Go.Operand.tmp 117,Go.Operand.tmp 118],argTypes:=#[49,49] },type:=3,pos:="more.go:207",after:=#[{ on:=1,ground:=Go.Ground.data },{ on:=2,ground:=Go.Ground.data },{ on:=1,ground:=Go.Ground.chain }],guard:=none }
abbrev vrng24_4:Oper:={ dst:=some 21,op:=Go.Op.assign (Go.Operand.tmp 119),type:=3,pos:="more.go:207",after:=#[{ on:=3,ground:=Go.Ground.data },{ on:=3,ground:=Go.Ground.chain },{ on:=0,ground:=Go.Ground.phase },{ on:=1,ground:=Go.Ground.phase },{ on:=2,ground:=Go.Ground.phase },{ on:=3,ground:=Go.Ground.phase }],guard:=none }
theorem rng_call (w:World) {g1 g2 g3 g5:Nat}{kind rhs span:Int}(hk:1≤kind∧kind≤3) (hr : -50<rhs∧rhs<50) (hs : -20<span∧span<20) (ht:Tab w) (h1:Row w g1 24 #[.int .i64 1,.string ⟨#[49]⟩])
 (h2:Row w g2 28 #[.string ⟨#[114]⟩,.int .i64 kind,.slice (some ⟨g1,0,none⟩) 1 1,.string ⟨(intT rhs).toArray⟩,.string ⟨(intT span).toArray⟩])
 (h3:Row w g3 31 #[.string ⟨#[120]⟩,.string ⟨#[48]⟩,.string ⟨#[49]⟩,.string ⟨#[48]⟩,.bool false,.string ⟨#[121]⟩,.string ⟨#[]⟩,.string ⟨#[]⟩,.string ⟨#[48]⟩,.bool false])
 (h5:Row w g5 44 #[.string ⟨#[120]⟩,.string ⟨#[111]⟩,.string ⟨#[97]⟩,.string ⟨#[121]⟩,.string ⟨#[114]⟩,.string ⟨#[98]⟩]) :
 Calls Tryz.prog 8 #[.agg #[.string ⟨#[65]⟩,.string ⟨#[111]⟩,.slice (some ⟨g2,0,none⟩) 1 1,.slice (some ⟨g3,0,none⟩) 2 2],.slice (some ⟨g5,0,none⟩) 2 2] w (TwoGot (rngCore kind rhs span) rngPs w):=by
 obtain ⟨hi1,hi2⟩:=rng_in (rhs:=rhs) (span:=span) h1 h2 h3
 refine split_Of w _ _ (rngCore kind rhs span) rngPs ⟨_,_,rfl,hi1,hi2⟩ (rng_pin h5) (rng_fit kind rhs span hk) (by decide) (fun r hr=>?_) (fun _ r hr hn=>?_) (fun _ r hr x hx=>?_) (fun _ x hx=>?_) ht
 ·rw[List.mem_singleton.1 hr];show (1:Nat)≤1000000;omega
 ·rw[List.mem_singleton.1 hr]
  have a:=intT_good (z:=rhs) (by omega) (by omega)
  have b:=intT_good (z:=span) (by omega) (by omega)
  have l1:=intT_len rhs;have l2:=intT_len span
  exact ⟨a.1,b.1,by show (intT rhs).length≤_;omega,by show (intT span).length≤_;omega,fits_int (by omega) (by omega),fits_int (by omega) (by omega)⟩
 ·rw[List.mem_singleton.1 hr]at hx
  rw[List.mem_singleton.1 hx];decide
 ·have:x=rngCol0∨x=rngCol1:=by simpa [rngCore]using hx
  rcases this with rfl|rfl
  ·exact ⟨maybeM_of good0.1,maybeM_of good1.1⟩
  ·exact ⟨maybeM_nil,maybeM_nil⟩
set_option maxRecDepth 100000 in
set_option maxHeartbeats 8000000 in
theorem law7_SplitRange (w:World) (hT:T7 w) (ht:Tab w) (kind rhs span x:Int) (hk1 : -9223372036854775808≤kind) (hk2:kind≤9223372036854775807) (hr1 : -9223372036854775808≤rhs) (hr2:rhs≤9223372036854775807) (hs1 : -9223372036854775808≤span) (hs2:span≤9223372036854775807) (hx1 : -9223372036854775808≤x) (hx2:x≤9223372036854775807) :
 Calls Tryz.prog 3 #[.int .i64 kind,.int .i64 rhs,.int .i64 span,.int .i64 x] w (Keeps (.bool true) w):=by
 have CB:=Lib.hid (begun7 hT)
 have HT:=Lib.hid ht
 obtain ⟨K,hK1,hK2,hKe⟩:=draw3 kind
 obtain ⟨R,hR1,hR2,hRe⟩:=tmod_in rhs (k:=50) (by decide)
 obtain ⟨S,hS1,hS2,hSe⟩:=tmod_in span (k:=20) (by decide)
 obtain ⟨X,hX1,hX2,hXe⟩:=tmod_in x (k:=100) (by decide)
 clear hT ht
 go_enter Tryz.func3,Tryz.ntmps3
 go_wp2_with fail
 refine CB.out.mono ?_
 rintro e w1 ⟨rfl,hb1⟩
 go_upto_region 5 with fail
 try rw[hKe]
 try rw[hRe]
 try rw[hSe]
 try rw[hXe]
 clear hKe hRe hSe hXe CB hk1 hk2 hr1 hr2 hs1 hs2 hx1 hx2
 have CN1:=Lib.hid (fun W=>law7_num W R (by omega) (by omega))
 have CN2:=Lib.hid (fun W=>law7_num W S (by omega) (by omega))
 have HB1:=Lib.hid hb1
 clear hb1
 go_wp2_with fail
 refine (CN1.out _).mono ?_
 rintro e w3 ⟨rfl,hb3⟩
 go_wp2_with fail
 refine (CN2.out _).mono ?_
 rintro e w4 ⟨rfl,hb4⟩
 go_upto_region 6 with fail
 obtain ⟨w7,hw7⟩:∃ X',X'=((w4.alloc (.cells #[.string ⟨#[114]⟩,.int .i64 K,.slice (some ⟨w1.heap.size,0,none⟩) 1 1,.string ⟨(intT R).toArray⟩,.string ⟨(intT S).toArray⟩] 28)).alloc (.cells #[.string ⟨#[120]⟩,.string ⟨#[48]⟩,.string ⟨#[49]⟩,.string ⟨#[48]⟩,.bool false,.string ⟨#[121]⟩,.string ⟨#[]⟩,.string ⟨#[]⟩,.string ⟨#[48]⟩,.bool false] 31)).alloc (.cells #[.string ⟨#[65]⟩,.string ⟨#[111]⟩,.slice (some ⟨w4.heap.size,0,none⟩) 1 1,.slice (some ⟨w4.heap.size+1,0,none⟩) 2 2] 34):=⟨_,rfl⟩
 have hb7:Below w4.heap.size w4 w7:=by rw[hw7];exact (((Below.refl _ _).alloc (Nat.le_refl _) _).alloc (by simp) _).alloc (by simp;omega) _
 have q1:Row w7 w1.heap.size 24 #[.int .i64 1,.string ⟨#[49]⟩]:=(((Row.new w1 _ _).keep hb3).keep hb4).keep hb7
 have q2:Row w7 w4.heap.size 28 #[.string ⟨#[114]⟩,.int .i64 K,.slice (some ⟨w1.heap.size,0,none⟩) 1 1,.string ⟨(intT R).toArray⟩,.string ⟨(intT S).toArray⟩]:=by rw[hw7];exact ((Row.new _ _ _).alloc _).alloc _
 have q3:Row w7 (w4.heap.size+1) 31 #[.string ⟨#[120]⟩,.string ⟨#[48]⟩,.string ⟨#[49]⟩,.string ⟨#[48]⟩,.bool false,.string ⟨#[121]⟩,.string ⟨#[]⟩,.string ⟨#[]⟩,.string ⟨#[48]⟩,.bool false]:=by
  have:=(Row.new (w4.alloc (.cells #[.string ⟨#[114]⟩,.int .i64 K,.slice (some ⟨w1.heap.size,0,none⟩) 1 1,.string ⟨(intT R).toArray⟩,.string ⟨(intT S).toArray⟩] 28)) 31 #[.string ⟨#[120]⟩,.string ⟨#[48]⟩,.string ⟨#[49]⟩,.string ⟨#[48]⟩,.bool false,.string ⟨#[121]⟩,.string ⟨#[]⟩,.string ⟨#[]⟩,.string ⟨#[48]⟩,.bool false]).alloc (.cells #[.string ⟨#[65]⟩,.string ⟨#[111]⟩,.slice (some ⟨w4.heap.size,0,none⟩) 1 1,.slice (some ⟨w4.heap.size+1,0,none⟩) 2 2] 34)
  rw[World.size_alloc,← hw7]at this
  exact this
 have q4:Row w7 (w4.heap.size+1+1) 34 #[.string ⟨#[65]⟩,.string ⟨#[111]⟩,.slice (some ⟨w4.heap.size,0,none⟩) 1 1,.slice (some ⟨w4.heap.size+1,0,none⟩) 2 2]:=by
  have:=Row.new ((w4.alloc (.cells #[.string ⟨#[114]⟩,.int .i64 K,.slice (some ⟨w1.heap.size,0,none⟩) 1 1,.string ⟨(intT R).toArray⟩,.string ⟨(intT S).toArray⟩] 28)).alloc (.cells #[.string ⟨#[120]⟩,.string ⟨#[48]⟩,.string ⟨#[49]⟩,.string ⟨#[48]⟩,.bool false,.string ⟨#[121]⟩,.string ⟨#[]⟩,.string ⟨#[]⟩,.string ⟨#[48]⟩,.bool false] 31)) 34 #[.string ⟨#[65]⟩,.string ⟨#[111]⟩,.slice (some ⟨w4.heap.size,0,none⟩) 1 1,.slice (some ⟨w4.heap.size+1,0,none⟩) 2 2]
  rw[World.size_alloc,World.size_alloc,← hw7]at this
  exact this
 have k0:w7.cell? ⟨w4.heap.size+1+1,0,none⟩=some (.string ⟨#[65]⟩):=q4.cell 0
 have k1:w7.cell? ⟨w4.heap.size+1+1,1,none⟩=some (.string ⟨#[111]⟩):=q4.cell 1
 have k2:w7.cell? ⟨w4.heap.size+1+1,2,none⟩=some (.slice (some ⟨w4.heap.size,0,none⟩) 1 1):=q4.cell 2
 have k3:w7.cell? ⟨w4.heap.size+1+1,3,none⟩=some (.slice (some ⟨w4.heap.size+1,0,none⟩) 2 2):=q4.cell 3
 have hb17:Below w1.heap.size w1 w7:=below_seq (below_seq (below_seq ((Below.refl _ _).alloc (Nat.le_refl _) _) hb3) hb4) hb7
 have hb8:Below w7.heap.size w7 (w7.alloc (.cells #[.string ⟨#[120]⟩,.string ⟨#[111]⟩,.string ⟨#[97]⟩,.string ⟨#[121]⟩,.string ⟨#[114]⟩,.string ⟨#[98]⟩] 44)):=(Below.refl _ _).alloc (Nat.le_refl _) _
 obtain ⟨e1,e2,z1,z2,hsp,hz1,hz2,he1,he2,hfit⟩:=rng_split (kind:=K) (rhs:=R) (span:=S) ⟨hK1,hK2⟩ ⟨hR1,hR2⟩ ⟨hS1,hS2⟩
 have CS:=rng_call (w7.alloc (.cells #[.string ⟨#[120]⟩,.string ⟨#[111]⟩,.string ⟨#[97]⟩,.string ⟨#[121]⟩,.string ⟨#[114]⟩,.string ⟨#[98]⟩] 44)) (kind:=K) (rhs:=R) (span:=S) (g1:=w1.heap.size) (g2:=w4.heap.size) (g3:=w4.heap.size+1) (g5:=w7.heap.size) ⟨hK1,hK2⟩ ⟨hR1,hR2⟩ ⟨hS1,hS2⟩ (HT.out.keep (below_seq (below_seq HB1.out hb17) hb8)) (q1.keep hb8) (q2.keep hb8) (q3.keep hb8) (Row.new _ _ _)
 unfold TwoGot at CS
 rw[hsp]at CS
 dsimp only at CS
 replace CS:=Lib.hid CS
 have HB8:=Lib.hid (below_seq HB1.out (below_seq hb17 hb8))
 rw[← hw7]
 clear hw7 hb7 q1 q2 q3 q4 hb17 hb8 hsp hb3 hb4 CN1 CN2
 go_wp2_with fail
 refine CS.out.mono ?_
 rintro e w9 ⟨tv,rfl,⟨c1,v1,c2,v2,te,rfl,⟨A1,m1,rfl,_,_⟩,⟨A2,m2,rfl,_,_⟩,⟨A3,m3,rfl,_,_⟩,⟨A4,m4,rfl,hm4,hrows⟩,⟨A5,m5,rfl,_,_⟩⟩,hb9⟩
 have HB9:=Lib.hid (below_seq HB8.out hb9)
 have HROWS:=Lib.hid hrows
 have HZ:=Lib.hid (And.intro hz1 (And.intro hz2 (And.intro he1 (And.intro he2 hfit))))
 simp only[List.length_cons,List.length_nil]at hm4
 clear hrows hb9 hz1 hz2 he1 he2 hfit k0 k1 k2 k3 CS
 obtain ⟨w10,hw10⟩:∃ X',X'=w9.alloc (.cells #[.slice A1 1 m1,.slice A2 0 m2,.slice A3 1 m3,.slice A4 2 m4,.slice A5 2 m5] 39):=⟨_,rfl⟩
 have hb10:Below w9.heap.size w9 w10:=by rw[hw10];exact (Below.refl _ _).alloc (Nat.le_refl _) _
 have hr10:Row w10 w9.heap.size 39 #[.slice A1 1 m1,.slice A2 0 m2,.slice A3 1 m3,.slice A4 2 m4,.slice A5 2 m5]:=by rw[hw10];exact Row.new _ _ _
 have j3:w10.cell? ⟨w9.heap.size,3,none⟩=some (.slice A4 2 m4):=hr10.cell 3
 have j4:w10.cell? ⟨w9.heap.size,4,none⟩=some (.slice A5 2 m5):=hr10.cell 4
 have HB10:=Lib.hid hb10
 have HBX:=Lib.hid (below_seq HB9.out hb10)
 go_upto_region 7 with fail
 rw[← hw10]
 clear hw10 hr10 hb10
 obtain ⟨bt,hbt⟩:∃ b,b=w9.heap.size:=⟨_,rfl⟩
 rw[← hbt]at j3 j4 ⊢
 clear hbt
 have hL:=Lib.hid (show rngLow K R S=(if K=1 then R - absI S else if K=3 then R else if S<0 then R+S else R)from rfl)
 have hH:=Lib.hid (show rngHigh K R S=(if K=1 then R else if K=3 then R+absI S else if S<0 then R else R+S)from rfl)
 have hA:=Lib.hid (show absI S=if S<0 then -S else S from rfl)
 by_cases hneg:S<0
 all_goals
  go_upto_block 0 with fail
  go_cut [13,14] (fun a b wc=>a=.int .i64 (rngLow K R S)∧b=.int .i64 (rngHigh K R S)∧w10=wc)
  case first=>
   have hc:K=1∨K=3∨K=2:=by omega
   rcases hc with rfl|rfl|rfl
   all_goals
    have l1:=hL.out
    have l2:=hH.out
    have l3:=hA.out
    simp[hneg]at l1 l2 l3
    try rw[l3]at l1
    try rw[l3]at l2
    have L1:=Lib.hid l1
    have L2:=Lib.hid l2
    clear l1 l2 l3
    go_wp2_with fail
    go_meet
    exact ⟨by rw[L1.out];try (first|rfl|go_num),by rw[L2.out];try (first|rfl|go_num),rfl⟩
  case rest=>
   obtain ⟨rfl,rfl,rfl⟩:=hcut
   clear hneg hL hH hA
   obtain ⟨L,hLd⟩:∃ L:List (Int × Int),L = [(e1,z1),(e2,z2)]:=⟨_,rfl⟩
   have HLD:=Lib.hid hLd
   clear hLd
   go_wp2_with fail
   go_loopg [106,16] 2 (fun g t f wr=>∃ k:Nat,t=.int .i64 k∧k+g=2∧f=.bool ((L.take k).all fun p=>fitB p.1 p.2 X)∧Hid (Below w10.heap.size w10 wr))
   case atStart=>exact ⟨0,rfl,by omega,rfl,Lib.hid (Below.refl _ _)⟩
   case round=>
    obtain ⟨k,rfl,hk,rfl,HBR⟩:=hrel
    obtain ⟨f,hf⟩:∃ f,f=(L.take k).all fun p=>fitB p.1 p.2 X:=⟨_,rfl⟩
    rw[← hf]
    by_cases hlt:k<2
    ·have hrow:∃ ek zk:Int,L[k]?=some (ek,zk)∧([⟨[114],e1,[(0,[49])],intT z1,[]⟩,⟨[114],e2,[(0,[49])],intT z2,[]⟩]:List RowM)[k]?=some ⟨[114],ek,[(0,[49])],intT zk,[]⟩∧(-100<zk∧zk<100)∧(ek=1∨ek=3):=by
      obtain ⟨a1,a2,a3,a4,_⟩:=HZ.out
      rw[HLD.out]
      rcases k with _|_|k
      ·exact ⟨e1,z1,rfl,rfl,a1,a3⟩
      ·exact ⟨e2,z2,rfl,rfl,a2,a4⟩
      ·omega
     obtain ⟨ek,zk,hLk,hRk,hzk,hek⟩:=hrow
     obtain ⟨gr,og,rfl,cv,n0,n1,n2,n3,n4,hcs⟩:=HROWS.out k _ hRk
     obtain ⟨A0,c0,rfl,_,_⟩:=hcs
     have hbw:=below_seq HB10.out HBR.out
     have d0:wr.cell? ⟨gr,og+k*5,none⟩=some (.string ⟨#[114]⟩):=cell_keep n0 hbw
     have d1:=cell_keep n1 hbw;have d2:=cell_keep n2 hbw;have d3:=cell_keep n3 hbw
     have d4:wr.cell? ⟨gr,og+k*5+4,none⟩=some (.string ⟨#[]⟩):=cell_keep n4 hbw
     dsimp only[List.length_cons,List.length_nil]at d1 d2 d3
     have HF:Hid (((L.take (k+1)).all fun p=>fitB p.1 p.2 X)=(f && fitB ek zk X)):=Lib.hid (by
      rw[List.take_add_one,hLk,hf]
      simp)
     have CG:=Lib.hid fun W=>ref_Get_s W (intT zk) (intT_ne zk) (intT_no47 (by omega) (by omega)) (by have:=intT_len zk;omega)
     have hgood:=intT_good (z:=zk) (by omega) (by omega)
     obtain ⟨w11,hw11⟩:∃ X',X'=wr.alloc (.cells #[.string ⟨#[114]⟩,.int .i64 ek,.slice A0 1 c0,.string ⟨(intT zk).toArray⟩,.string ⟨#[]⟩] 28):=⟨_,rfl⟩
     have hb11:Below wr.heap.size wr w11:=by rw[hw11];exact (Below.refl _ _).alloc (Nat.le_refl _) _
     have hr11:Row w11 wr.heap.size 28 #[.string ⟨#[114]⟩,.int .i64 ek,.slice A0 1 c0,.string ⟨(intT zk).toArray⟩,.string ⟨#[]⟩]:=by rw[hw11];exact Row.new _ _ _
     have f3:w11.cell? ⟨wr.heap.size,3,none⟩=some (.string ⟨(intT zk).toArray⟩):=hr11.cell 3
     have HR11:=Lib.hid hr11;have HB11:=Lib.hid (HBR.out.trans (hb11.mono HBR.out.size))
     have HGOOD:=Lib.hid hgood
     have HK:=Lib.hid hk;have HLT:=Lib.hid hlt
     clear n0 n1 n2 n3 n4 hLk hRk hf hbw hb11 hr11 hgood HBR hk
     go_upto_region 23 with fail
     clear hlt
     rw[← hw11]
     clear hw11 d0 d1 d2 d3 d4
     obtain ⟨b8,hb8⟩:∃ b,b=wr.heap.size:=⟨_,rfl⟩
     rw[← hb8]at HR11 f3 ⊢
     clear hb8
     go_wp2_with fail
     refine (CG.out _).mono ?_
     intro e w12 hgot
     obtain ⟨qv,rfl,hq,hb12⟩:=refq_got hgot HGOOD.out.1
     rw[HGOOD.out.2]at hq
     clear hgot
     obtain ⟨ng,QA,qm,qc,QB,qk,qe,rfl⟩:=hq.shape
     obtain ⟨w13,hw13⟩:∃ X',X'=w12.alloc (.cells #[.bool ng,.slice QA qm qc,.slice QB qk qe] 49):=⟨_,rfl⟩
     have hb13:Below w12.heap.size w12 w13:=by rw[hw13];exact (Below.refl _ _).alloc (Nat.le_refl _) _
     have hr13:Row w13 w12.heap.size 49 #[.bool ng,.slice QA qm qc,.slice QB qk qe]:=by rw[hw13];exact Row.new _ _ _
     have HR13:=Lib.hid hr13
     have HQ13:=Lib.hid (hq.keep hb13)
     have HR8:=Lib.hid ((HR11.out.keep hb12).keep hb13)
     have HB13:=Lib.hid (HB11.out.trans ((below_seq hb12 hb13).mono HB11.out.size))
     clear hr13 hq hb12 hb13 f3 HR11 HB11
     go_upto_region 24 with fail
     rw[← hw13]
     clear hw13
     obtain ⟨b9,hb9⟩:∃ b,b=w12.heap.size:=⟨_,rfl⟩
     rw[← hb9]at HR13 ⊢
     clear hb9
     refine wp_region_held (S:=fun W=>Below w13.heap.size w13 W) (by kernel_rfl) ?_
     change wpAnyH _ _ _ _ _ _ _ _ (World.drew _)
     obtain ⟨W0,hW0⟩:∃ X,X=(w13).drew:=⟨_,rfl⟩
     rw[← hW0]
     have z0:Below (w13).heap.size (w13) W0:=by rw[hW0];exact Below.drewN_ (Below.refl _ _) 1
     clear hW0
     refine tkH (i:=0) (oi:=vrng24_0) (v:=.int .i64 X) (by kernel_rfl) rfl (fun _ _ _ h=>h) ?_ (z0) ?_
     ·intro w hSw;go_simp<;>first|omega|(intro hh;exfalso;omega)|rfl
     try simp only[Act.put,qa,qb,qc,vrng24_0]
     refine tkH (i:=2) (oi:=vrng24_2) (v:=.agg #[.bool ng,.slice QA qm qc,.slice QB qk qe]) (by kernel_rfl) rfl (fun _ _ _ h=>h) ?_ (z0) ?_
     ·intro w hSw;have h1:=HR13.out.keep hSw;have C0:w.cell? ⟨b9,0,none⟩=some (.bool ng):=h1.cell 0;have C1:w.cell? ⟨b9,1,none⟩=some (.slice QA qm qc):=h1.cell 1;have C2:w.cell? ⟨b9,2,none⟩=some (.slice QB qk qe):=h1.cell 2;go_simp<;>first|omega|(intro hh;exfalso;omega)|rfl
     try simp only[Act.put,qa,qb,qc,vrng24_2]
     refine oneH (i:=1) (o:=vrng24_1) (by kernel_rfl) rfl ?_
     intro K hK
     simp only[vrng24_1]
     go_simp
     go_at_call 11
     refine (ref_Of _ X (by omega) (by omega)).mono ?_
     rintro e' V1 ⟨x1,rfl,hx1,b1⟩
     have z1':=below_seq z0 b1
     have hxi:RefIs V1 x1 (X:Rat) 10:=of_is hx1 (by omega) (by omega)
     refine hK.out _ _ (z1') (fun hHeld=>?_)
     clear hK K hHeld
     try simp only[Act.put,qa,qb,qc]
     refine oneH (i:=3) (o:=vrng24_3) (by kernel_rfl) rfl ?_
     intro K hK
     simp only[vrng24_3]
     go_simp
     go_at_call 10
     refine (refq_Order _ _ _ (X:Rat) (zk:Rat) 10 600 hxi (HQ13.out.keep z1') (by omega) (by omega)).mono ?_
     rintro e' V3 ⟨rfl,b3⟩
     have z3':=below_seq z1' b3
     refine hK.out _ _ (z3') (fun hHeld=>?_)
     clear hK K hHeld
     try simp only[Act.put,qa,qb,qc]
     refine tkH (i:=4) (oi:=vrng24_4) (v:=.int .i64 (signI ((X:Rat) - (zk:Rat)))) (by kernel_rfl) rfl (fun _ _ _ h=>h) ?_ (z3') ?_
     ·intro w hSw;go_simp<;>first|omega|(intro hh;exfalso;omega)|rfl
     try simp only[Act.put,qa,qb,qc,vrng24_4]
     refine wpAnyH_done (by kernel_rfl) ?_ _
     obtain ⟨sg,hsg⟩:∃ s,s=signI ((X:Rat) - (zk:Rat)):=⟨_,rfl⟩
     obtain ⟨s1,s2⟩:=signI_int X zk
     rw[← hsg]at s1 s2 ⊢
     rw[decide_eq_decide]at s1 s2
     have HS:=Lib.hid (And.intro s1 s2)
     have hr8:=HR8.out.keep z3'
     have g0:V3.cell? ⟨b8,0,none⟩=some (.string ⟨#[114]⟩):=hr8.cell 0
     have g1:V3.cell? ⟨b8,1,none⟩=some (.int .i64 ek):=hr8.cell 1
     have g4:V3.cell? ⟨b8,4,none⟩=some (.string ⟨#[]⟩):=hr8.cell 4
     have ZZ:=Lib.hid (HB13.out.trans (Below.mono z3' HB13.out.size))
     clear hsg s1 s2 hr8 z0 z1' z3' b1 b3 hx1 hxi HR13 HQ13 HR8 HB13 CG HGOOD
     have hcase:f=false∨(f=true∧ek=1∧sg≤0)∨(f=true∧ek=1∧¬ sg≤0)∨(f=true∧ek=3∧0≤sg)∨(f=true∧ek=3∧¬ 0≤sg):=by
      cases f
      ·exact .inl rfl
      ·rcases hek with h|h
       ·by_cases c:sg≤0
        ·exact .inr (.inl ⟨rfl,h,c⟩)
        ·exact .inr (.inr (.inl ⟨rfl,h,c⟩))
       ·by_cases c:0≤sg
        ·exact .inr (.inr (.inr (.inl ⟨rfl,h,c⟩)))
        ·exact .inr (.inr (.inr (.inr ⟨rfl,h,c⟩)))
     clear hek
     rcases hcase with rfl|⟨rfl,rfl,hc⟩|⟨rfl,rfl,hc⟩|⟨rfl,rfl,hc⟩|⟨rfl,rfl,hc⟩
     ·go_wp2_with fail
      go_roundg (gk - 1)
      case measure=>have:=HK.out;have:=HLT.out;omega
      case rel=>exact ⟨k+1,by go_num,by have:=HK.out;have:=HLT.out;omega,by rw[HF.out];simp,ZZ⟩
     ·go_wp2_with fail
      go_roundg (gk - 1)
      case measure=>have:=HK.out;have:=HLT.out;omega
      case rel=>exact ⟨k+1,by go_num,by have:=HK.out;have:=HLT.out;omega,by rw[HF.out];have:=HS.out.1.1 hc;simp[fitB,this],ZZ⟩
     ·go_wp2_with fail
      go_roundg (gk - 1)
      case measure=>have:=HK.out;have:=HLT.out;omega
      case rel=>exact ⟨k+1,by go_num,by have:=HK.out;have:=HLT.out;omega,by rw[HF.out];have h':¬ X≤zk:=(by have:=HS.out.1;omega);simp[fitB,h'],ZZ⟩
     ·go_wp2_with fail
      go_roundg (gk - 1)
      case measure=>have:=HK.out;have:=HLT.out;omega
      case rel=>exact ⟨k+1,by go_num,by have:=HK.out;have:=HLT.out;omega,by rw[HF.out];have:=HS.out.2.1 hc;simp[fitB,this],ZZ⟩
     ·go_wp2_with fail
      go_roundg (gk - 1)
      case measure=>have:=HK.out;have:=HLT.out;omega
      case rel=>exact ⟨k+1,by go_num,by have:=HK.out;have:=HLT.out;omega,by rw[HF.out];have h':¬ zk≤X:=(by have:=HS.out.2;omega);simp[fitB,h'],ZZ⟩
    ·obtain rfl:k=2:=by omega
     have hfin:f=(decide (rngLow K R S≤X) && decide (X≤rngHigh K R S)):=by
      rw[hf,HLD.out,← HZ.out.2.2.2.2 X]
      simp
     have HBE:=Lib.hid (below_seq HBX.out HBR.out)
     clear hf HROWS HZ hk hlt
     subst hfin
     by_cases c1:rngLow K R S≤X
     ·by_cases c2:X≤rngHigh K R S
      ·go_wp2_with fail
       go_ret
       exact ⟨by simp[c1,c2],HBE.out⟩
      ·go_wp2_with fail
       go_ret
       exact ⟨by simp[c1,c2],HBE.out⟩
     ·go_wp2_with fail
      go_ret
      exact ⟨by simp[c1],HBE.out⟩
end Go.Proofs.YtbdfhnelmojbpaaGreatDoor
end
