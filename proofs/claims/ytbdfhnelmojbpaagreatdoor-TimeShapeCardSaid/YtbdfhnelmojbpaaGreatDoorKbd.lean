/- Package victuallerref1: fractions in lowest terms, as texts, of whole numbers. -/
import Derived.Test.YtbdfhnelmojbpaaGreatDoorKbc
import Derived.Test.YtbdfhnelmojbpaaGreatDoorKaw
set_option linter.unusedVariables false
set_option linter.unusedSimpArgs false
section
namespace Vic
open Go Go.RowKit
theorem quo_text {ng:Bool}{n d:Nat}(hd:d≠0) (hs:ng=true→n≠0) :
 fracText (quo ng n d)=(if ng then [45]else []) ++ Lib.decDigits (n / Nat.gcd n d) ++ (if d / Nat.gcd n d=1 then []else 47 :: Lib.decDigits (d / Nat.gcd n d)):=by
 refine fracText_eq ng _ _ (quo_num hd) (fun h=>?_) (quo_den hd)
 intro e
 have h1:=Nat.gcd_dvd_left n d
 exact hs h (by rw[← Nat.div_mul_cancel h1,e,Nat.zero_mul])
theorem dec_len_tdg {n L:Nat}(h:(tdg n).length≤L):(Lib.decDigits n).length≤4*L+1:=by
 refine dec_len (Nat.lt_of_lt_of_le (lt_pow_digs_length (B:=10000) (by omega) n) ?_)
 have h1:(10000:Nat) ^ (tdg n).length≤10000 ^ L:=Nat.pow_le_pow_right (by omega) h
 have h2:(10000:Nat) ^ L=10 ^ (4*L):=by rw[show (10000:Nat)=10 ^ 4 by rfl,← Nat.pow_mul]
 have h3:(10:Nat) ^ (4*L)≤10 ^ (4*L+1):=Nat.pow_le_pow_right (by omega) (by omega)
 show 10000 ^ (tdg n).length≤_
 omega
theorem tdg_one:tdg 1 = [1]:=tdg_small (by omega) (by omega)
theorem RefQ.open_ {w:World}{v:Value}{ng:Bool}{n d:Nat}(h:RefQ w v ng n d) :
 ∃ A1 c1 A2 c2,v=.agg #[.bool ng,.slice A1 (tdg n).length c1,.slice A2 (tdg d).length c2]∧RefN w (.slice A1 (tdg n).length c1) n∧RefN w (.slice A2 (tdg d).length c2) d∧(ng=true→n≠0):=by
 obtain ⟨x,y,rfl,hx,hy,hs⟩:=h
 obtain ⟨A1,c1,rfl,h1⟩:=hx.open_
 obtain ⟨A2,c2,rfl,h2⟩:=hy.open_
 exact ⟨A1,c1,A2,c2,rfl,h1,h2,hs⟩
theorem qrow_far (ng:Bool) (a b:Value) (ha:∀ k x,a≠.int k x) (hb:∀ k x,b≠.int k x) (k:IntKind) (i:Nat) (x:Int):(#[.bool ng,a,b]:Array Value)[i]?≠some (.int k x):=by
 match i with
 | 0=>simp
 | 1=>simpa using ha k x
 | 2=>simpa using hb k x
 | i+3=>simp
end Vic
namespace Go.Proofs.YtbdfhnelmojbpaaGreatDoor
open Go.RowKit Vic
set_option maxRecDepth 100000 in
set_option maxHeartbeats 4000000 in
theorem ref_Q_Low (w:World) (v:Value) (ng:Bool) (n d:Nat) (h:RefQ w v ng n d) (hd:d≠0) (hnl:(tdg n).length≤100000) (hdl:(tdg d).length≤100000) :
 Calls Tryz.prog 89 #[v] w (Gives (fun x w'=>RefQ w' x ng (n / Nat.gcd n d) (d / Nat.gcd n d)) w):=by
 obtain ⟨A1,c1,A2,c2,rfl,hx,hy,hs⟩:=h.open_
 obtain ⟨G,hG⟩:∃ G,G=Nat.gcd n d:=⟨_,rfl⟩
 have hG0:G≠0:=by rw[hG];exact Nat.ne_of_gt (Nat.gcd_pos_of_pos_right _ (by omega))
 have hGl:(tdg G).length≤100000:=by rw[hG];exact Nat.le_trans (tdg_le (Nat.gcd_le_right _ (by omega))) hdl
 have CG:Hid (∀ W,Below w.heap.size w W→Calls Tryz.prog 39 #[.slice A1 (tdg n).length c1,.slice A2 (tdg d).length c2] W (Gives (fun x w'=>RefN w' x G) W)):=Lib.hid fun W hW=>by
  rw[hG];exact ref_Gcd W _ _ n d (hx.keep hW) (hy.keep hW) hnl hdl
 have hne:(ng && decide (n / G≠0))=ng:=by
  cases ng
  ·rfl
  ·have h1:=Nat.gcd_dvd_left n d
   rw[← hG]at h1
   have h2:n / G≠0:=fun e=>hs rfl (by rw[← Nat.div_mul_cancel h1,e,Nat.zero_mul])
   simp[h2]
 rw[← hG]
 have HX:=Lib.hid hx;have HY:=Lib.hid hy;have HN:=Lib.hid hne
 obtain ⟨w0,hw0⟩:∃ w0,w0=(w.alloc (.cells #[.bool ng,.slice A1 (tdg n).length c1,.slice A2 (tdg d).length c2] 49)).alloc (.cells #[.bool false,.slice none 0 0,.slice none 0 0] 49):=⟨_,rfl⟩
 have r1:Row w0 w.heap.size 49 #[.bool ng,.slice A1 (tdg n).length c1,.slice A2 (tdg d).length c2]:=by rw[hw0];exact (Row.new _ _ _).alloc _
 have r2:Row w0 (w.heap.size+1) 49 #[.bool false,.slice none 0 0,.slice none 0 0]:=by
  rw[hw0]
  have h:=Row.new (w.alloc (.cells #[.bool ng,.slice A1 (tdg n).length c1,.slice A2 (tdg d).length c2] 49)) 49 #[.bool false,.slice none 0 0,.slice none 0 0]
  simpa using h
 have b0:Below w.heap.size w w0:=by rw[hw0];exact ((Below.refl _ _).alloc (Nat.le_refl _) _).alloc (by simp) _
 have R1:=Lib.hid r1;have R2:=Lib.hid r2;have W0:=Lib.hid hw0
 clear hx hy hne hs hG h r1 r2 hw0
 go_enter Tryz.func89,Tryz.ntmps89
 go_wp2_with fail
 rw[← W0.out]
 refine (CG.out _ b0).mono ?_
 rintro e w1 ⟨g,rfl,hg,hb1⟩
 have B1:=below_seq b0 hb1
 have CD1:=Lib.hid (ref_Div w1 _ g n G (HX.out.keep B1) hg hnl hGl hG0)
 have HGv:=Lib.hid hg
 have k1:=(Row.keep R1.out hb1).cell 1
 clear CG hg
 go_wp2_with fail
 refine CD1.out.mono ?_
 rintro e w2 ⟨q2,r2,rfl,hq2,_,hb2⟩
 have B2:=below_seq B1 hb2
 have CD2:=Lib.hid (ref_Div w2 _ g d G (HY.out.keep B2) (HGv.out.keep hb2) hdl hGl hG0)
 have HQ2:=Lib.hid hq2
 have k2:=(Row.keep R1.out (below_seq hb1 hb2)).cell 2
 clear CD1 hq2 k1
 go_wp2_with fail
 refine CD2.out.mono ?_
 rintro e w3 ⟨q3,r3,rfl,hq3,_,hb3⟩
 have CF:=ref_Frac w3 ng q2 q3 (n / G) (d / G) (HQ2.out.keep hb3) hq3
 rw[HN.out]at CF
 have CF':=Lib.hid CF
 have B3:=below_seq B2 hb3
 have y3:=below_seq hb1 (below_seq hb2 hb3)
 have k3:=(Row.keep R1.out y3).cell 0
 clear CD2 hq3 CF k2
 go_wp2_with fail
 refine CF'.out.mono ?_
 rintro e w4 ⟨z,rfl,hz,hb4⟩
 obtain ⟨A3,c3,A4,c4,rfl,hx4,hy4,hs4⟩:=hz.open_
 have hrow:=Row.keep R2.out (below_seq y3 hb4)
 have B4:=below_seq B3 hb4
 obtain ⟨w9,hw9⟩:∃ w9,w9=((w4.setCell ⟨w.heap.size+1,0,none⟩ (.bool ng)).setCell ⟨w.heap.size+1,1,none⟩ (.slice A3 (tdg (n / G)).length c3)).setCell ⟨w.heap.size+1,2,none⟩ (.slice A4 (tdg (d / G)).length c4):=⟨_,rfl⟩
 have hO:Only (w.heap.size+1) w4 w9:=by rw[hw9];exact (((Only.refl _ _).setCell 0 _).setCell 1 _).setCell 2 _
 have hcs:=qrow_far false (.slice none 0 0) (.slice none 0 0) (fun _ _ h=>by cases h) (fun _ _ h=>by cases h)
 have K8:=Lib.hid (Ints.rowfar hx4 hrow (hcs _) hO)
 have K9:=Lib.hid (Ints.rowfar hy4 hrow (hcs _) hO)
 have KB:Below w.heap.size w w9:=B4.trans (hO.below (Nat.le_succ _))
 have KR:Hid (w9.heap[w.heap.size+1]?=some (.cells #[.bool ng,.slice A3 (tdg (n / G)).length c3,.slice A4 (tdg (d / G)).length c4] 49 (0,0))):=Lib.hid (by
  rw[hw9]
  exact Row.set (Row.set (Row.set hrow 0 (.bool ng)) 1 _) 2 _)
 have hsz:(Tryz.prog.info? 49).map (·.size)=some 3:=by kernel_rfl
 have q0:=hrow.cell 0;have q1:=hrow.cell 1;have q2:=hrow.cell 2
 have f0:=hrow.free 0;have f1:=hrow.free 1;have f2:=hrow.free 2
 have HW9:=Lib.hid hw9
 clear hx4 hy4 CF' hrow hcs hO hw9 k3 hz
 go_wp2_with fail
 rw[← HW9.out]
 refine bodyPost_ret (v:=.agg #[.bool ng,.slice A3 (tdg (n / G)).length c3,.slice A4 (tdg (d / G)).length c4]) (results_cell_row (p:=2) (ty:=49) Tryz.results89 _ _ (w.heap.size+1) 49 #[.bool ng,.slice A3 (tdg (n / G)).length c3,.slice A4 (tdg (d / G)).length c4] (0,0) _ (by simp[go_sem]) KR.out Tryz.underlying49 rfl hsz) rfl ?_
 exact ⟨_,rfl,⟨_,_,rfl,K8.out,K9.out,hs4⟩,KB⟩
set_option maxRecDepth 100000 in
set_option maxHeartbeats 4000000 in
theorem ref_Q_Text (w:World) (v:Value) (ng:Bool) (n d:Nat) (h:RefQ w v ng n d) (hd:d≠0) (hnl:(tdg n).length≤100000) (hdl:(tdg d).length≤100000) :
 Calls Tryz.prog 29 #[v] w (Keeps (.string ⟨(fracText (quo ng n d)).toArray⟩) w):=by
 obtain ⟨A1,c1,A2,c2,rfl,hx,hy,hs⟩:=h.open_
 rw[quo_text hd hs]
 have CL:Hid (∀ W,Below w.heap.size w W→Calls Tryz.prog 89 #[.agg #[.bool ng,.slice A1 (tdg n).length c1,.slice A2 (tdg d).length c2]] W (Gives (fun x w'=>RefQ w' x ng (n / Nat.gcd n d) (d / Nat.gcd n d)) W)):=Lib.hid fun W hW=>ref_Q_Low W _ ng n d (h.keep hW) hd (by omega) (by omega)
 obtain ⟨G,hG⟩:∃ G,G=Nat.gcd n d:=⟨_,rfl⟩
 rw[← hG]at CL ⊢
 have hN:(tdg (n / G)).length≤100000:=Nat.le_trans (tdg_le (Nat.div_le_self _ _)) hnl
 have hD:(tdg (d / G)).length≤100000:=Nat.le_trans (tdg_le (Nat.div_le_self _ _)) hdl
 have hd1:d / G≠0:=by
  have h1:=Nat.gcd_dvd_right n d
  rw[← hG]at h1
  exact fun e=>hd (by rw[← Nat.div_mul_cancel h1,e,Nat.zero_mul])
 obtain ⟨p,hp⟩:∃ p,p=n / G:=⟨_,rfl⟩
 obtain ⟨q,hq⟩:∃ q,q=d / G:=⟨_,rfl⟩
 rw[← hp]at CL hN ⊢
 rw[← hq]at CL hD hd1 ⊢
 obtain ⟨w0,hw0⟩:∃ w0,w0=w.alloc (.cells #[.bool ng,.slice A1 (tdg n).length c1,.slice A2 (tdg d).length c2] 49):=⟨_,rfl⟩
 have r1:Row w0 w.heap.size 49 #[.bool ng,.slice A1 (tdg n).length c1,.slice A2 (tdg d).length c2]:=by rw[hw0];exact Row.new _ _ _
 have b0:Below w.heap.size w w0:=by rw[hw0];exact (Below.refl _ _).alloc (Nat.le_refl _) _
 have hsz:(Tryz.prog.info? 49).map (·.size)=some 3:=by kernel_rfl
 have R1:=Lib.hid r1;have W0:=Lib.hid hw0;have HS:=Lib.hid hs
 obtain ⟨X,hX⟩:∃ X,X=(if ng then [45]else []) ++ Lib.decDigits p ++ (if q=1 then []else 47 :: Lib.decDigits q):=⟨_,rfl⟩
 rw[← hX]
 have HXX:=Lib.hid hX
 clear hs hG hp hq hx hy h r1 hw0 hX
 go_enter Tryz.func29,Tryz.ntmps29
 go_wp2_with fail
 rw[← W0.out]
 refine (CL.out _ b0).mono ?_
 rintro e w1 ⟨z,rfl,hz,hb1⟩
 obtain ⟨A3,c3,A4,c4,rfl,hx,hy,hs3⟩:=hz.open_
 have hrow:=Row.keep R1.out hb1
 obtain ⟨w2,hw2⟩:∃ w2,w2=((w1.setCell ⟨w.heap.size,0,none⟩ (.bool ng)).setCell ⟨w.heap.size,1,none⟩ (.slice A3 (tdg p).length c3)).setCell ⟨w.heap.size,2,none⟩ (.slice A4 (tdg q).length c4):=⟨_,rfl⟩
 have hO:Only w.heap.size w1 w2:=by rw[hw2];exact (((Only.refl _ _).setCell 0 _).setCell 1 _).setCell 2 _
 have hcs:=qrow_far ng (.slice A1 (tdg n).length c1) (.slice A2 (tdg d).length c2) (fun _ _ h=>by cases h) (fun _ _ h=>by cases h)
 have K8:=Lib.hid (Ints.rowfar hx hrow (hcs _) hO)
 have K9:=Lib.hid (Ints.rowfar hy hrow (hcs _) hO)
 have KB:Below w.heap.size w w2:=(below_seq b0 hb1).trans (hO.below (Nat.le_refl _))
 have KR0:Row w2 w.heap.size 49 #[.bool ng,.slice A3 (tdg p).length c3,.slice A4 (tdg q).length c4]:=by
  rw[hw2]
  exact Row.set (Row.set (Row.set hrow 0 (.bool ng)) 1 _) 2 _
 have KR:=Lib.hid KR0
 have q0:=hrow.cell 0;have q1:=hrow.cell 1;have q2:=hrow.cell 2
 have f0:=hrow.free 0;have f1:=hrow.free 1;have f2:=hrow.free 2
 have g0:=KR0.cell 0;have g1:=KR0.cell 1;have g2:=KR0.cell 2
 rw[hw2]at g0 g1 g2
 have HW2:=Lib.hid hw2
 have CT:=Lib.hid (ref_N_Text w2 _ p K8.out hN)
 clear hx hy CL hrow hcs hO hw2 hz KR0
 go_wp2_with fail
 rw[← HW2.out]
 refine CT.out.mono ?_
 rintro e w5 ⟨rfl,hb5⟩
 have row5:=Row.keep KR.out hb5
 have B5:=KB.trans (hb5.mono KB.size)
 obtain ⟨w6,hw6⟩:∃ w6,w6=w5.alloc (.cells #[.int .i64 1] 3):=⟨_,rfl⟩
 have h56:Below w5.heap.size w5 w6:=by rw[hw6];exact (Below.refl _ _).alloc (Nat.le_refl _) _
 have h26:=below_seq hb5 h56
 have hone:RefN w6 (.slice (some ⟨w5.heap.size,0,none⟩) 1 1) 1:=ref_one (d:=1) (by rw[hw6];exact Row.new _ _ _) (by omega) (by omega)
 have CC0:=ref_Cmp w6 _ _ q 1 (RefN.keep K9.out h26) hone (by omega) (by rw[tdg_one];simp)
 have CT2:=Lib.hid (ref_N_Text w6 _ q (RefN.keep K9.out h26) hD)
 have row6:=Row.keep row5 h56
 have B6:=B5.trans (h56.mono B5.size)
 have k50:=row5.cell 0;have k52:=row5.cell 2
 have k62:=row6.cell 2
 have HW6:=Lib.hid hw6
 clear q0 q1 q2 f0 f1 f2 g0 g1 g2 HW2 CT row5 row6 hone hw6 h26 K8 K9 KR KB R1 W0 hs3
 by_cases hq1:q=1
 case' pos=>
  rw[cmpI_eq hq1]at CC0
  have CC:=Lib.hid CC0
  have HX2:Hid (X=(if ng then [45]else []) ++ Lib.decDigits p):=Lib.hid (by rw[HXX.out,if_pos hq1,List.append_nil])
 case' neg=>
  rw[cmpI_gt (show 1<q by omega)]at CC0
  have CC:=Lib.hid CC0
  have HX2:Hid (X=(if ng then [45]else []) ++ Lib.decDigits p ++ 47 :: Lib.decDigits q):=Lib.hid (by rw[HXX.out,if_neg hq1])
 all_goals
  obtain ⟨P,hP⟩:∃ P,P=Lib.decDigits p:=⟨_,rfl⟩
  obtain ⟨D,hD2⟩:∃ D,D=Lib.decDigits q:=⟨_,rfl⟩
  have hPl:P.length≤400001:=by rw[hP];exact dec_len_tdg hN
  have hDl:D.length≤400001:=by rw[hD2];exact dec_len_tdg hD
  rw[← hP]at HX2 ⊢
  try rw[← hD2]at HX2
  rw[← hD2]at CT2
  clear CC0 HXX hP hD2 hq1
  have ea:∀ s:List UInt8,(⟨#[45]⟩ ++ ⟨s.toArray⟩:ByteArray)=⟨((45:UInt8) :: s).toArray⟩:=fun s=>bytes_app [45] s
  have eb:∀ s:List UInt8,(⟨#[47]⟩ ++ ⟨s.toArray⟩:ByteArray)=⟨((47:UInt8) :: s).toArray⟩:=fun s=>bytes_app [47] s
  cases ng
  all_goals
   go_wp2_with fail
   rw[← HW6.out]
   refine CC.out.mono ?_
   rintro e w' ⟨rfl,rfl⟩
   go_wp2_with fail
 all_goals first
  | (refine CT2.out.mono ?_
     rintro e w7 ⟨rfl,hb7⟩
     go_wp2_with fail
     go_ret
     exact ⟨by rw[HX2.out];simp[eb,bytes_app],below_seq B6 hb7⟩)
  | (go_ret
     exact ⟨by rw[HX2.out];simp,B6⟩)
set_option maxRecDepth 100000 in
set_option maxHeartbeats 4000000 in
theorem ref_Of (w:World) (x:Int) (h1 : -9223372036854775808≤x) (h2:x≤9223372036854775807) :
 Calls Tryz.prog 11 #[.int .i64 x] w (Gives (fun v w'=>RefQ w' v (decide (x<0)) x.natAbs 1) w):=by
 obtain ⟨a,ha⟩:∃ a,a=x.natAbs:=⟨_,rfl⟩
 rw[← ha]
 have ha2:a<18446744073709551616:=by omega
 have CU:=Lib.hid (fun wr=>ref_OfU wr a ha2)
 obtain ⟨w0,hw0⟩:∃ w0,w0=w.alloc (.cells #[.bool false,.slice none 0 0,.slice none 0 0] 49):=⟨_,rfl⟩
 have r1:Row w0 w.heap.size 49 #[.bool false,.slice none 0 0,.slice none 0 0]:=by rw[hw0];exact Row.new _ _ _
 have b0:Below w.heap.size w w0:=by rw[hw0];exact (Below.refl _ _).alloc (Nat.le_refl _) _
 have hsz:(Tryz.prog.info? 49).map (·.size)=some 3:=by kernel_rfl
 have R1:=Lib.hid r1;have W0:=Lib.hid hw0
 clear r1 hw0
 have hclose:∀ (ng:Bool) (w1:World) (v:Value),Below w0.heap.size w0 w1→RefN w1 v a→(ng=true→a≠0)→∃ A c w9,v=.slice A (tdg a).length c ∧
  w9=((((w1.alloc (.cells #[.int .i64 1] 3)).setCell ⟨w.heap.size,0,none⟩ (.bool ng)).setCell ⟨w.heap.size,1,none⟩ (.slice A (tdg a).length c)).setCell ⟨w.heap.size,2,none⟩ (.slice (some ⟨w1.heap.size,0,none⟩) 1 1)) ∧
  w9.heap[w.heap.size]?=some (.cells #[.bool ng,.slice A (tdg a).length c,.slice (some ⟨w1.heap.size,0,none⟩) 1 1] 49 (0,0)) ∧
  RefQ w9 (.agg #[.bool ng,.slice A (tdg a).length c,.slice (some ⟨w1.heap.size,0,none⟩) 1 1]) ng a 1∧Below w.heap.size w w9 ∧
  (w1.alloc (.cells #[.int .i64 1] 3)).cell? ⟨w.heap.size,0,none⟩=some (.bool false)∧(w1.alloc (.cells #[.int .i64 1] 3)).cell? ⟨w.heap.size,1,none⟩=some (.slice none 0 0)∧(w1.alloc (.cells #[.int .i64 1] 3)).cell? ⟨w.heap.size,2,none⟩=some (.slice none 0 0) ∧
  (∀ i,(w1.alloc (.cells #[.int .i64 1] 3)).frozen? ⟨w.heap.size,i,none⟩=false):=by
  intro ng w1 v hb1 hv hs
  obtain ⟨A,c,rfl,hA⟩:=hv.open_
  obtain ⟨w2,hw2⟩:∃ w2,w2=w1.alloc (.cells #[.int .i64 1] 3):=⟨_,rfl⟩
  have h12:Below w1.heap.size w1 w2:=by rw[hw2];exact (Below.refl _ _).alloc (Nat.le_refl _) _
  have hone:RefN w2 (.slice (some ⟨w1.heap.size,0,none⟩) 1 1) 1:=ref_one (d:=1) (by rw[hw2];exact Row.new _ _ _) (by omega) (by omega)
  have y2:=below_seq hb1 h12
  have hrow:=Row.keep R1.out y2
  rw[← hw2]
  obtain ⟨w9,hw9⟩:∃ w9,w9=((w2.setCell ⟨w.heap.size,0,none⟩ (.bool ng)).setCell ⟨w.heap.size,1,none⟩ (.slice A (tdg a).length c)).setCell ⟨w.heap.size,2,none⟩ (.slice (some ⟨w1.heap.size,0,none⟩) 1 1):=⟨_,rfl⟩
  have hO:Only w.heap.size w2 w9:=by rw[hw9];exact (((Only.refl _ _).setCell 0 _).setCell 1 _).setCell 2 _
  have hcs:=qrow_far false (.slice none 0 0) (.slice none 0 0) (fun _ _ h=>by cases h) (fun _ _ h=>by cases h)
  refine ⟨A,c,w9,rfl,hw9,by rw[hw9];exact Row.set (Row.set (Row.set hrow 0 (.bool ng)) 1 _) 2 _,⟨_,_,rfl,Ints.rowfar (Ints.keep hA h12) hrow (hcs _) hO,?_,hs⟩,(below_seq b0 y2).trans (hO.below (Nat.le_refl _)),hrow.cell 0,hrow.cell 1,hrow.cell 2,fun i=>hrow.free i⟩
  exact Ints.rowfar hone hrow (hcs _) hO
 have HC:=Lib.hid hclose
 clear hclose
 by_cases hx:x<0
 ·rw[decide_eq_true hx]
  have e1 : -(x+1)+1=(a:Int):=by omega
  have ha0:a≠0:=by omega
  clear ha
  go_enter Tryz.func11,Tryz.ntmps11
  go_wp2_with fail
  rw[← W0.out]
  refine (CU.out _).mono ?_
  rintro e w1 ⟨v,rfl,hv,hb1⟩
  obtain ⟨A,c,w9,rfl,hw9,hrow9,hq9,hb9,q0,q1,q2,fr⟩:=HC.out true w1 v hb1 hv (fun _=>ha0)
  have f0:=fr 0;have f1:=fr 1;have f2:=fr 2
  have HW9:=Lib.hid hw9;have HR9:=Lib.hid hrow9
  clear fr hw9 hrow9 hv
  go_wp2_with fail
  rw[← HW9.out]
  refine bodyPost_ret (v:=.agg #[.bool true,.slice A (tdg a).length c,.slice (some ⟨w1.heap.size,0,none⟩) 1 1]) (results_cell_row (p:=2) (ty:=49) Tryz.results11 _ _ w.heap.size 49 #[.bool true,.slice A (tdg a).length c,.slice (some ⟨w1.heap.size,0,none⟩) 1 1] (0,0) _ (by simp[go_sem]) HR9.out Tryz.underlying49 rfl hsz) rfl ?_
  exact ⟨_,rfl,hq9,hb9⟩
 ·rw[decide_eq_false hx]
  have e1:IntKind.u64.wrap x=(a:Int):=by simp only[IntKind.wrap_u64];omega
  clear ha
  go_enter Tryz.func11,Tryz.ntmps11
  go_wp2_with fail
  rw[← W0.out]
  refine (CU.out _).mono ?_
  rintro e w1 ⟨v,rfl,hv,hb1⟩
  obtain ⟨A,c,w9,rfl,hw9,hrow9,hq9,hb9,q0,q1,q2,fr⟩:=HC.out false w1 v hb1 hv (fun h=>by cases h)
  have f0:=fr 0;have f1:=fr 1;have f2:=fr 2
  have HW9:=Lib.hid hw9;have HR9:=Lib.hid hrow9
  clear fr hw9 hrow9 hv
  go_wp2_with fail
  rw[← HW9.out]
  refine bodyPost_ret (v:=.agg #[.bool false,.slice A (tdg a).length c,.slice (some ⟨w1.heap.size,0,none⟩) 1 1]) (results_cell_row (p:=2) (ty:=49) Tryz.results11 _ _ w.heap.size 49 #[.bool false,.slice A (tdg a).length c,.slice (some ⟨w1.heap.size,0,none⟩) 1 1] (0,0) _ (by simp[go_sem]) HR9.out Tryz.underlying49 rfl hsz) rfl ?_
  exact ⟨_,rfl,hq9,hb9⟩
end Go.Proofs.YtbdfhnelmojbpaaGreatDoor
end
section
namespace Go.Proofs.YtbdfhnelmojbpaaGreatDoor
open Go.RowKit Vic
theorem tdg_small {n:Nat}(h:n<100):(tdg n).length≤100000:=Nat.le_trans (digs_length_le (B:=10000) (by omega) (Nat.lt_of_lt_of_le h (by show 100≤10000 ^ 1;omega))) (by omega)
theorem num_text (W:World) (v:Value) (z:Int) (h1 : -100<z) (h2:z<100) (hv:RefQ W v (decide (z<0)) z.natAbs 1):Calls Tryz.prog 29 #[v] W (Keeps (.string ⟨(intT z).toArray⟩) W):=by
 have:=ref_Q_Text W v _ _ _ hv (by omega) (tdg_small (by omega)) (tdg_small (by omega))
 have e:quo (decide (z<0)) z.natAbs 1=(z:Rat):=by
  rw[quo_one]
  congr 1
  unfold sgn
  by_cases h:z<0
  ·rw[decide_eq_true h,if_pos rfl];omega
  ·rw[decide_eq_false h,if_neg (by simp)];omega
 rw[e,intT_is h1 h2]at this
 exact this
theorem law7_num (w:World) (z:Int) (h1 : -100<z) (h2:z<100):Calls Tryz.prog 7 #[.int .i64 z] w (Keeps (.string ⟨(intT z).toArray⟩) w):=by
 have CO:=Lib.hid (ref_Of w z (by omega) (by omega))
 have CT:Hid (∀ W v,RefQ W v (decide (z<0)) z.natAbs 1→Calls Tryz.prog 29 #[v] W (Keeps (.string ⟨(intT z).toArray⟩) W)):=Lib.hid fun W v hv=>num_text W v z h1 h2 hv
 clear h1 h2
 go_enter Tryz.func7,Tryz.ntmps7
 go_wp2_with fail
 refine CO.out.mono ?_
 rintro e w1 ⟨v,rfl,hv,hb1⟩
 have C2:=Lib.hid (CT.out w1 v hv)
 clear hv
 go_wp2_with fail
 refine C2.out.mono ?_
 rintro e w2 ⟨rfl,hb2⟩
 go_wp2_with fail
 go_ret
 exact ⟨rfl,below_seq hb1 hb2⟩
end Go.Proofs.YtbdfhnelmojbpaaGreatDoor
end
