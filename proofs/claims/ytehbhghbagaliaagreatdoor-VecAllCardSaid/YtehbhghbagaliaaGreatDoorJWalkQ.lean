/- Package victuallerref1: fractions in lowest terms, as texts, of whole numbers. And: Package victuallerref1: a fraction of a text. -/
import Derived.Test.YtehbhghbagaliaaGreatDoorJWalkL
import Derived.Test.YtehbhghbagaliaaGreatDoorJWalkJ
import Derived.Test.YtehbhghbagaliaaGreatDoorJWalkD
import Derived.Test.YtehbhghbagaliaaGreatDoorJPlainC
set_option linter.unusedVariables false
set_option linter.unusedSimpArgs false
namespace Vic
open Go Go.RowKit
theorem quo_text {ng:Bool}{n d:Nat}(hd:d≠0) (hs:ng=true→n≠0) :
 fracText (quo ng n d)=(if ng then [45]else []) ++ Lib.decDigits (n / Nat.gcd n d) ++ (if d / Nat.gcd n d=1 then []else 47 :: Lib.decDigits (d / Nat.gcd n d)):=by
 refine fracText_eq ng _ _ (quo_num hd) (fun h=>?_) (quo_den hd)
 intro e
 have h1:=Nat.gcd_dvd_left n d
 exact hs h (by rw[← Nat.div_mul_cancel h1,e,Nat.zero_mul])
theorem dec_len_tdg {n L:Nat}(h:(tdg n).length≤L):(Lib.decDigits n).length≤4*L+1:=by
 refine dec_len (Nat.lt_of_lt_of_le (lt_pow_digs_length (B:=10000) (by omega) n) ?_)
 have h1:(10000:Nat) ^ (tdg n).length≤10000 ^ L:=Nat.pow_le_pow_right (by omega) h
 have h2:(10000:Nat) ^ L=10 ^ (4*L):=by rw[show (10000:Nat)=10 ^ 4 by rfl,← Nat.pow_mul]
 have h3:(10:Nat) ^ (4*L)≤10 ^ (4*L+1):=Nat.pow_le_pow_right (by omega) (by omega)
 show 10000 ^ (tdg n).length≤_
 omega
theorem tdg_one:tdg 1 = [1]:=tdg_small (by omega) (by omega)
theorem RefQ.open_ {w:World}{v:Value}{ng:Bool}{n d:Nat}(h:RefQ w v ng n d) :
 ∃ A1 c1 A2 c2,v=.agg #[.bool ng,.slice A1 (tdg n).length c1,.slice A2 (tdg d).length c2]∧RefN w (.slice A1 (tdg n).length c1) n∧RefN w (.slice A2 (tdg d).length c2) d∧(ng=true→n≠0):=by
 obtain ⟨x,y,rfl,hx,hy,hs⟩:=h
 obtain ⟨A1,c1,rfl,h1⟩:=hx.open_
 obtain ⟨A2,c2,rfl,h2⟩:=hy.open_
 exact ⟨A1,c1,A2,c2,rfl,h1,h2,hs⟩
theorem qrow_far (ng:Bool) (a b:Value) (ha:∀ k x,a≠.int k x) (hb:∀ k x,b≠.int k x) (k:IntKind) (i:Nat) (x:Int):(#[.bool ng,a,b]:Array Value)[i]?≠some (.int k x):=by
 match i with
 | 0=>simp
 | 1=>simpa using ha k x
 | 2=>simpa using hb k x
 | i+3=>simp
end Vic
namespace Go.Proofs.YtehbhghbagaliaaGreatDoor
open Go.RowKit Vic
set_option maxRecDepth 100000 in
set_option maxHeartbeats 4000000 in
theorem ref_Q_Low (w:World) (v:Value) (ng:Bool) (n d:Nat) (h:RefQ w v ng n d) (hd:d≠0) (hnl:(tdg n).length≤100000) (hdl:(tdg d).length≤100000) :
 Calls Tryz.prog 51 #[v] w (Gives (fun x w'=>RefQ w' x ng (n / Nat.gcd n d) (d / Nat.gcd n d)) w):=by
 obtain ⟨A1,c1,A2,c2,rfl,hx,hy,hs⟩:=h.open_
 obtain ⟨G,hG⟩:∃ G,G=Nat.gcd n d:=⟨_,rfl⟩
 have hG0:G≠0:=by rw[hG];exact Nat.ne_of_gt (Nat.gcd_pos_of_pos_right _ (by omega))
 have hGl:(tdg G).length≤100000:=by rw[hG];exact Nat.le_trans (tdg_le (Nat.gcd_le_right _ (by omega))) hdl
 have CG:Hid (∀ W,Below w.heap.size w W→Calls Tryz.prog 43 #[.slice A1 (tdg n).length c1,.slice A2 (tdg d).length c2] W (Gives (fun x w'=>RefN w' x G) W)):=Lib.hid fun W hW=>by
  rw[hG];exact ref_Gcd W _ _ n d (hx.keep hW) (hy.keep hW) hnl hdl
 have hne:(ng && decide (n / G≠0))=ng:=by
  cases ng
  ·rfl
  ·have h1:=Nat.gcd_dvd_left n d
   rw[← hG]at h1
   have h2:n / G≠0:=fun e=>hs rfl (by rw[← Nat.div_mul_cancel h1,e,Nat.zero_mul])
   simp[h2]
 rw[← hG]
 have HX:=Lib.hid hx;have HY:=Lib.hid hy;have HN:=Lib.hid hne
 obtain ⟨w0,hw0⟩:∃ w0,w0=(w.alloc (.cells #[.bool ng,.slice A1 (tdg n).length c1,.slice A2 (tdg d).length c2] 35)).alloc (.cells #[.bool false,.slice none 0 0,.slice none 0 0] 35):=⟨_,rfl⟩
 have r1:Row w0 w.heap.size 35 #[.bool ng,.slice A1 (tdg n).length c1,.slice A2 (tdg d).length c2]:=by rw[hw0];exact (Row.new _ _ _).alloc _
 have r2:Row w0 (w.heap.size+1) 35 #[.bool false,.slice none 0 0,.slice none 0 0]:=by
  rw[hw0]
  have h:=Row.new (w.alloc (.cells #[.bool ng,.slice A1 (tdg n).length c1,.slice A2 (tdg d).length c2] 35)) 35 #[.bool false,.slice none 0 0,.slice none 0 0]
  simpa using h
 have b0:Below w.heap.size w w0:=by rw[hw0];exact ((Below.refl _ _).alloc (Nat.le_refl _) _).alloc (by simp) _
 have R1:=Lib.hid r1;have R2:=Lib.hid r2;have W0:=Lib.hid hw0
 clear hx hy hne hs hG h r1 r2 hw0
 go_enter Tryz.func51,Tryz.ntmps51
 go_wp2_with fail
 rw[← W0.out]
 refine (CG.out _ b0).mono ?_
 rintro e w1 ⟨g,rfl,hg,hb1⟩
 have B1:=below_seq b0 hb1
 have CD1:=Lib.hid (ref_Div w1 _ g n G (HX.out.keep B1) hg hnl hGl hG0)
 have HGv:=Lib.hid hg
 have k1:=(Row.keep R1.out hb1).cell 1
 clear CG hg
 go_wp2_with fail
 refine CD1.out.mono ?_
 rintro e w2 ⟨q2,r2,rfl,hq2,_,hb2⟩
 have B2:=below_seq B1 hb2
 have CD2:=Lib.hid (ref_Div w2 _ g d G (HY.out.keep B2) (HGv.out.keep hb2) hdl hGl hG0)
 have HQ2:=Lib.hid hq2
 have k2:=(Row.keep R1.out (below_seq hb1 hb2)).cell 2
 clear CD1 hq2 k1
 go_wp2_with fail
 refine CD2.out.mono ?_
 rintro e w3 ⟨q3,r3,rfl,hq3,_,hb3⟩
 have CF:=ref_Frac w3 ng q2 q3 (n / G) (d / G) (HQ2.out.keep hb3) hq3
 rw[HN.out]at CF
 have CF':=Lib.hid CF
 have B3:=below_seq B2 hb3
 have y3:=below_seq hb1 (below_seq hb2 hb3)
 have k3:=(Row.keep R1.out y3).cell 0
 clear CD2 hq3 CF k2
 go_wp2_with fail
 refine CF'.out.mono ?_
 rintro e w4 ⟨z,rfl,hz,hb4⟩
 obtain ⟨A3,c3,A4,c4,rfl,hx4,hy4,hs4⟩:=hz.open_
 have hrow:=Row.keep R2.out (below_seq y3 hb4)
 have B4:=below_seq B3 hb4
 obtain ⟨w9,hw9⟩:∃ w9,w9=((w4.setCell ⟨w.heap.size+1,0,none⟩ (.bool ng)).setCell ⟨w.heap.size+1,1,none⟩ (.slice A3 (tdg (n / G)).length c3)).setCell ⟨w.heap.size+1,2,none⟩ (.slice A4 (tdg (d / G)).length c4):=⟨_,rfl⟩
 have hO:Only (w.heap.size+1) w4 w9:=by rw[hw9];exact (((Only.refl _ _).setCell 0 _).setCell 1 _).setCell 2 _
 have hcs:=qrow_far false (.slice none 0 0) (.slice none 0 0) (fun _ _ h=>by cases h) (fun _ _ h=>by cases h)
 have K8:=Lib.hid (Ints.rowfar hx4 hrow (hcs _) hO)
 have K9:=Lib.hid (Ints.rowfar hy4 hrow (hcs _) hO)
 have KB:Below w.heap.size w w9:=B4.trans (hO.below (Nat.le_succ _))
 have KR:Hid (w9.heap[w.heap.size+1]?=some (.cells #[.bool ng,.slice A3 (tdg (n / G)).length c3,.slice A4 (tdg (d / G)).length c4] 35 (0,0))):=Lib.hid (by
  rw[hw9]
  exact Row.set (Row.set (Row.set hrow 0 (.bool ng)) 1 _) 2 _)
 have hsz:(Tryz.prog.info? 35).map (·.size)=some 3:=by kernel_rfl
 have q0:=hrow.cell 0;have q1:=hrow.cell 1;have q2:=hrow.cell 2
 have f0:=hrow.free 0;have f1:=hrow.free 1;have f2:=hrow.free 2
 have HW9:=Lib.hid hw9
 clear hx4 hy4 CF' hrow hcs hO hw9 k3 hz
 go_wp2_with fail
 rw[← HW9.out]
 refine bodyPost_ret (v:=.agg #[.bool ng,.slice A3 (tdg (n / G)).length c3,.slice A4 (tdg (d / G)).length c4]) (results_cell_row (p:=2) (ty:=35) Tryz.results51 _ _ (w.heap.size+1) 35 #[.bool ng,.slice A3 (tdg (n / G)).length c3,.slice A4 (tdg (d / G)).length c4] (0,0) _ (by simp[go_sem]) KR.out Tryz.underlying35 rfl hsz) rfl ?_
 exact ⟨_,rfl,⟨_,_,rfl,K8.out,K9.out,hs4⟩,KB⟩
set_option maxRecDepth 100000 in
set_option maxHeartbeats 4000000 in
theorem ref_Q_Text (w:World) (v:Value) (ng:Bool) (n d:Nat) (h:RefQ w v ng n d) (hd:d≠0) (hnl:(tdg n).length≤100000) (hdl:(tdg d).length≤100000) :
 Calls Tryz.prog 17 #[v] w (Keeps (.string ⟨(fracText (quo ng n d)).toArray⟩) w):=by
 obtain ⟨A1,c1,A2,c2,rfl,hx,hy,hs⟩:=h.open_
 rw[quo_text hd hs]
 have CL:Hid (∀ W,Below w.heap.size w W→Calls Tryz.prog 51 #[.agg #[.bool ng,.slice A1 (tdg n).length c1,.slice A2 (tdg d).length c2]] W (Gives (fun x w'=>RefQ w' x ng (n / Nat.gcd n d) (d / Nat.gcd n d)) W)):=Lib.hid fun W hW=>ref_Q_Low W _ ng n d (h.keep hW) hd (by omega) (by omega)
 obtain ⟨G,hG⟩:∃ G,G=Nat.gcd n d:=⟨_,rfl⟩
 rw[← hG]at CL ⊢
 have hN:(tdg (n / G)).length≤100000:=Nat.le_trans (tdg_le (Nat.div_le_self _ _)) hnl
 have hD:(tdg (d / G)).length≤100000:=Nat.le_trans (tdg_le (Nat.div_le_self _ _)) hdl
 have hd1:d / G≠0:=by
  have h1:=Nat.gcd_dvd_right n d
  rw[← hG]at h1
  exact fun e=>hd (by rw[← Nat.div_mul_cancel h1,e,Nat.zero_mul])
 obtain ⟨p,hp⟩:∃ p,p=n / G:=⟨_,rfl⟩
 obtain ⟨q,hq⟩:∃ q,q=d / G:=⟨_,rfl⟩
 rw[← hp]at CL hN ⊢
 rw[← hq]at CL hD hd1 ⊢
 obtain ⟨w0,hw0⟩:∃ w0,w0=w.alloc (.cells #[.bool ng,.slice A1 (tdg n).length c1,.slice A2 (tdg d).length c2] 35):=⟨_,rfl⟩
 have r1:Row w0 w.heap.size 35 #[.bool ng,.slice A1 (tdg n).length c1,.slice A2 (tdg d).length c2]:=by rw[hw0];exact Row.new _ _ _
 have b0:Below w.heap.size w w0:=by rw[hw0];exact (Below.refl _ _).alloc (Nat.le_refl _) _
 have hsz:(Tryz.prog.info? 35).map (·.size)=some 3:=by kernel_rfl
 have R1:=Lib.hid r1;have W0:=Lib.hid hw0;have HS:=Lib.hid hs
 obtain ⟨X,hX⟩:∃ X,X=(if ng then [45]else []) ++ Lib.decDigits p ++ (if q=1 then []else 47 :: Lib.decDigits q):=⟨_,rfl⟩
 rw[← hX]
 have HXX:=Lib.hid hX
 clear hs hG hp hq hx hy h r1 hw0 hX
 go_enter Tryz.func17,Tryz.ntmps17
 go_wp2_with fail
 rw[← W0.out]
 refine (CL.out _ b0).mono ?_
 rintro e w1 ⟨z,rfl,hz,hb1⟩
 obtain ⟨A3,c3,A4,c4,rfl,hx,hy,hs3⟩:=hz.open_
 have hrow:=Row.keep R1.out hb1
 obtain ⟨w2,hw2⟩:∃ w2,w2=((w1.setCell ⟨w.heap.size,0,none⟩ (.bool ng)).setCell ⟨w.heap.size,1,none⟩ (.slice A3 (tdg p).length c3)).setCell ⟨w.heap.size,2,none⟩ (.slice A4 (tdg q).length c4):=⟨_,rfl⟩
 have hO:Only w.heap.size w1 w2:=by rw[hw2];exact (((Only.refl _ _).setCell 0 _).setCell 1 _).setCell 2 _
 have hcs:=qrow_far ng (.slice A1 (tdg n).length c1) (.slice A2 (tdg d).length c2) (fun _ _ h=>by cases h) (fun _ _ h=>by cases h)
 have K8:=Lib.hid (Ints.rowfar hx hrow (hcs _) hO)
 have K9:=Lib.hid (Ints.rowfar hy hrow (hcs _) hO)
 have KB:Below w.heap.size w w2:=(below_seq b0 hb1).trans (hO.below (Nat.le_refl _))
 have KR0:Row w2 w.heap.size 35 #[.bool ng,.slice A3 (tdg p).length c3,.slice A4 (tdg q).length c4]:=by
  rw[hw2]
  exact Row.set (Row.set (Row.set hrow 0 (.bool ng)) 1 _) 2 _
 have KR:=Lib.hid KR0
 have q0:=hrow.cell 0;have q1:=hrow.cell 1;have q2:=hrow.cell 2
 have f0:=hrow.free 0;have f1:=hrow.free 1;have f2:=hrow.free 2
 have g0:=KR0.cell 0;have g1:=KR0.cell 1;have g2:=KR0.cell 2
 rw[hw2]at g0 g1 g2
 have HW2:=Lib.hid hw2
 have CT:=Lib.hid (ref_N_Text w2 _ p K8.out hN)
 clear hx hy CL hrow hcs hO hw2 hz KR0
 go_wp2_with fail
 rw[← HW2.out]
 refine CT.out.mono ?_
 rintro e w5 ⟨rfl,hb5⟩
 have row5:=Row.keep KR.out hb5
 have B5:=KB.trans (hb5.mono KB.size)
 obtain ⟨w6,hw6⟩:∃ w6,w6=w5.alloc (.cells #[.int .i64 1] 3):=⟨_,rfl⟩
 have h56:Below w5.heap.size w5 w6:=by rw[hw6];exact (Below.refl _ _).alloc (Nat.le_refl _) _
 have h26:=below_seq hb5 h56
 have hone:RefN w6 (.slice (some ⟨w5.heap.size,0,none⟩) 1 1) 1:=ref_one (d:=1) (by rw[hw6];exact Row.new _ _ _) (by omega) (by omega)
 have CC0:=ref_Cmp w6 _ _ q 1 (RefN.keep K9.out h26) hone (by omega) (by rw[tdg_one];simp)
 have CT2:=Lib.hid (ref_N_Text w6 _ q (RefN.keep K9.out h26) hD)
 have row6:=Row.keep row5 h56
 have B6:=B5.trans (h56.mono B5.size)
 have k50:=row5.cell 0;have k52:=row5.cell 2
 have k62:=row6.cell 2
 have HW6:=Lib.hid hw6
 clear q0 q1 q2 f0 f1 f2 g0 g1 g2 HW2 CT row5 row6 hone hw6 h26 K8 K9 KR KB R1 W0 hs3
 by_cases hq1:q=1
 case' pos=>
  rw[cmpI_eq hq1]at CC0
  have CC:=Lib.hid CC0
  have HX2:Hid (X=(if ng then [45]else []) ++ Lib.decDigits p):=Lib.hid (by rw[HXX.out,if_pos hq1,List.append_nil])
 case' neg=>
  rw[cmpI_gt (show 1<q by omega)]at CC0
  have CC:=Lib.hid CC0
  have HX2:Hid (X=(if ng then [45]else []) ++ Lib.decDigits p ++ 47 :: Lib.decDigits q):=Lib.hid (by rw[HXX.out,if_neg hq1])
 all_goals
  obtain ⟨P,hP⟩:∃ P,P=Lib.decDigits p:=⟨_,rfl⟩
  obtain ⟨D,hD2⟩:∃ D,D=Lib.decDigits q:=⟨_,rfl⟩
  have hPl:P.length≤400001:=by rw[hP];exact dec_len_tdg hN
  have hDl:D.length≤400001:=by rw[hD2];exact dec_len_tdg hD
  rw[← hP]at HX2 ⊢
  try rw[← hD2]at HX2
  rw[← hD2]at CT2
  clear CC0 HXX hP hD2 hq1
  have ea:∀ s:List UInt8,(⟨#[45]⟩ ++ ⟨s.toArray⟩:ByteArray)=⟨((45:UInt8) :: s).toArray⟩:=fun s=>bytes_app [45] s
  have eb:∀ s:List UInt8,(⟨#[47]⟩ ++ ⟨s.toArray⟩:ByteArray)=⟨((47:UInt8) :: s).toArray⟩:=fun s=>bytes_app [47] s
  cases ng
  all_goals
   go_wp2_with fail
   rw[← HW6.out]
   refine CC.out.mono ?_
   rintro e w' ⟨rfl,rfl⟩
   go_wp2_with fail
 all_goals first
  | (refine CT2.out.mono ?_
     rintro e w7 ⟨rfl,hb7⟩
     go_wp2_with fail
     go_ret
     exact ⟨by rw[HX2.out];simp[eb,bytes_app],below_seq B6 hb7⟩)
  | (go_ret
     exact ⟨by rw[HX2.out];simp,B6⟩)
end Go.Proofs.YtehbhghbagaliaaGreatDoor
set_option linter.unusedVariables false
set_option linter.unusedSimpArgs false
namespace Vic
open Go Go.RowKit
def RefGotQ (l:List UInt8) (w:World) (e:Ending) (w':World):Prop:=
 ∃ v b,e=.returned (.tuple #[v,.bool b])∧Below w.heap.size w w' ∧
   ((b=false∧¬ FracGood l∧∃ g,v=.agg #[.bool false,.slice none 0 0,.slice (some ⟨g,0,none⟩) 1 1])∨(b=true∧FracGood l∧∃ ng n d,RefQ w' v ng n d∧d≠0∧quo ng n d=fracOf l∧(tdg n).length≤600∧(tdg d).length≤600))
theorem good_tdg' {l:List UInt8}(h:GoodNat l):(tdg (numOf 0 l)).length≤600:=by
 obtain ⟨K,hK⟩:∃ K,K=500:=⟨_,rfl⟩
 have h2:=h.2
 have h1:(10:Nat) ^ l.length≤10000 ^ K:=by
  rw[show (10000:Nat)=10 ^ 4 from rfl,← Nat.pow_mul]
  exact Nat.pow_le_pow_right (by omega) (by omega)
 exact Nat.le_trans (tdg_len (Nat.lt_of_lt_of_le (numOf_lt l h.1.2.1) h1)) (by omega)
theorem got_num {l:List UInt8}{w w':World}{e:Ending}(h:RefGot2 l w e w') :
 ∃ A c n b,e=.returned (.tuple #[.slice A (tdg n).length c,.bool b])∧Below w.heap.size w w'∧RefN w' (.slice A (tdg n).length c) n∧(tdg n).length≤600∧((b=false∧¬ GoodNat l)∨(b=true∧GoodNat l∧n=numOf 0 l)):=by
 obtain ⟨x,b,rfl,hb,h⟩:=h
 rcases h with ⟨rfl,hg,rfl⟩|⟨rfl,hg,hx⟩
 ·exact ⟨none,0,0,false,by rw[tdg_zero];rfl,hb,by rw[tdg_zero];exact (by unfold RefN;rw[tdg_zero];exact Ints.nil_ _ _),by rw[tdg_zero];simp,.inl ⟨rfl,hg⟩⟩
 ·obtain ⟨A,c,rfl,h1⟩:=hx.open_
  exact ⟨A,c,numOf 0 l,true,rfl,hb,h1,good_tdg' hg,.inr ⟨rfl,hg,rfl⟩⟩
theorem no_stroke {T:List UInt8}(h:∀ j,j<T.length→T[j]?≠some 47):(47:UInt8)∉T:=fun hm=>by
 obtain ⟨j,hj,e⟩:=List.getElem_of_mem hm
 exact h j hj (by rw[List.getElem?_eq_getElem hj,e])
theorem stroke_at {T:List UInt8}{k:Nat}(h:∀ j,j<k→T[j]?≠some 47) (hk:T[k]?=some 47):(47:UInt8)∉T.take k∧T=T.take k ++ 47 :: T.drop (k+1):=by
 have hkl:k<T.length:=by
  rcases Nat.lt_or_ge k T.length with h1|h1
  ·exact h1
  ·rw[List.getElem?_eq_none h1]at hk;cases hk
 refine ⟨no_stroke fun j hj=>?_,?_⟩
 ·rw[List.length_take]at hj
  rw[List.getElem?_take_of_lt (by omega)]
  exact h j (by omega)
 ·have e:T[k]=47:=by rw[List.getElem?_eq_getElem hkl]at hk;exact Option.some.inj hk
  rw[← e,List.getElem_cons_drop,List.take_append_drop]
theorem qno {T tI:TypeId}{w W:World}{b s:Nat}(hs:W.heap.size=s) (hr:Row W b T #[.bool false,.slice none 0 0,.slice none 0 0]) (hB:Below w.heap.size w W) (hb:w.heap.size≤b) :
 ∃ w9,w9=(((W.alloc (.cells #[.int .i64 1] tI)).setCell ⟨b,0,none⟩ (.bool false)).setCell ⟨b,1,none⟩ (.slice none 0 0)).setCell ⟨b,2,none⟩ (.slice (some ⟨s,0,none⟩) 1 1) ∧
   Row w9 b T #[.bool false,.slice none 0 0,.slice (some ⟨s,0,none⟩) 1 1]∧Below w.heap.size w w9 ∧
   (W.alloc (.cells #[.int .i64 1] tI)).cell? ⟨b,0,none⟩=some (.bool false)∧(W.alloc (.cells #[.int .i64 1] tI)).cell? ⟨b,1,none⟩=some (.slice none 0 0)∧(W.alloc (.cells #[.int .i64 1] tI)).cell? ⟨b,2,none⟩=some (.slice none 0 0) ∧
   (W.alloc (.cells #[.int .i64 1] tI)).frozen? ⟨b,0,none⟩=false∧(W.alloc (.cells #[.int .i64 1] tI)).frozen? ⟨b,1,none⟩=false∧(W.alloc (.cells #[.int .i64 1] tI)).frozen? ⟨b,2,none⟩=false:=by
 subst hs
 have h2:=hr.alloc (.cells #[.int .i64 1] tI)
 have hO:Only b (W.alloc (.cells #[.int .i64 1] tI)) ((((W.alloc (.cells #[.int .i64 1] tI)).setCell ⟨b,0,none⟩ (.bool false)).setCell ⟨b,1,none⟩ (.slice none 0 0)).setCell ⟨b,2,none⟩ (.slice (some ⟨W.heap.size,0,none⟩) 1 1)):=(((Only.refl _ _).setCell 0 _).setCell 1 _).setCell 2 _
 exact ⟨_,rfl,Row.set (Row.set (Row.set h2 0 (.bool false)) 1 _) 2 _,(hB.alloc hB.size _).trans (hO.below hb),h2.cell 0,h2.cell 1,h2.cell 2,h2.free 0,h2.free 1,h2.free 2⟩
theorem qyes {T:TypeId}{w W:World}{b g:Nat}{ng:Bool}{A A2:Option Addr}{n m c d m2 c2:Nat}(hr:Row W b T #[.bool false,.slice none 0 0,.slice none 0 0]) (hB:Below w.heap.size w W) (hb:w.heap.size≤b)
 (hg:Row W g T #[.bool ng,.slice A m c,.slice A2 m2 c2]) (hx:RefN W (.slice A m c) n) (hy:RefN W (.slice A2 m2 c2) d) (hs:ng=true→n≠0) :
 ∃ w9,w9=((W.setCell ⟨b,0,none⟩ (.bool ng)).setCell ⟨b,1,none⟩ (.slice A m c)).setCell ⟨b,2,none⟩ (.slice A2 m2 c2) ∧
   Row w9 b T #[.bool ng,.slice A m c,.slice A2 m2 c2]∧RefQ w9 (.agg #[.bool ng,.slice A m c,.slice A2 m2 c2]) ng n d∧Below w.heap.size w w9 ∧
   W.cell? ⟨b,0,none⟩=some (.bool false)∧W.cell? ⟨b,1,none⟩=some (.slice none 0 0)∧W.cell? ⟨b,2,none⟩=some (.slice none 0 0) ∧
   W.frozen? ⟨b,0,none⟩=false∧W.frozen? ⟨b,1,none⟩=false∧W.frozen? ⟨b,2,none⟩=false:=by
 have hO:Only b W (((W.setCell ⟨b,0,none⟩ (.bool ng)).setCell ⟨b,1,none⟩ (.slice A m c)).setCell ⟨b,2,none⟩ (.slice A2 m2 c2)):=(((Only.refl _ _).setCell 0 _).setCell 1 _).setCell 2 _
 have hcs:=qrow_far false (.slice none 0 0) (.slice none 0 0) (fun _ _ h=>by cases h) (fun _ _ h=>by cases h)
 exact ⟨_,rfl,Row.set (Row.set (Row.set hr 0 (.bool ng)) 1 _) 2 _,⟨_,_,rfl,Ints.rowfar hx hr (hcs _) hO,Ints.rowfar hy hr (hcs _) hO,hs⟩,hB.trans (hO.below hb),hr.cell 0,hr.cell 1,hr.cell 2,hr.free 0,hr.free 1,hr.free 2⟩
theorem tdg_len0 (n:Nat):((((tdg n).length:Nat):Int) == 0)=decide (n=0):=by
 by_cases h:n=0
 ·subst h;rw[tdg_zero];rfl
 ·rw[decide_eq_false h,beq_eq_false_iff_ne]
  have:=tdg_pos h
  omega
theorem tdg_single {d:Nat}(h:(tdg d).length=1):(tdg d).getD 0 0=d:=by
 have h1:=val_digs (B:=10000) (by omega) d
 match hx:tdg d,h with
 | [x],_=>
   have h2:val 10000 (tdg d)=d:=h1
   rw[hx]at h2
   simpa [val]using h2
end Vic
namespace Go.Proofs.YtehbhghbagaliaaGreatDoor
open Go.RowKit Vic
theorem res_get (W:World) (b:Nat) (cs:Array Value) (v:Value) (hr:W.heap[b]?=some (.cells cs 35 (0,0))) (hs:cs.size=3) (fn:Func) (h:fn.results=#[.cell 2 35,.tmp 3]) (tm:Array Value)
 (h2:tm.getD 2 undef=.pointer (some ⟨b,0,none⟩)) (h3:tm.getD 3 undef=v):(results fn tm).run Tryz.prog W=.ok (.tuple #[.agg cs,v]) W:=by
 have hsz:(Tryz.prog.info? 35).map (·.size)=some cs.size:=by rw[hs];kernel_rfl
 have h2':tm[2]?.getD undef=.pointer (some ⟨b,0,none⟩):=by simpa using h2
 have h3':tm[3]?.getD undef=v:=by simpa using h3
 simp[results,h,h2',h3',asAddr,run_loadVar_row W b 35 35 _ (0,0) _ hr Tryz.underlying35 rfl hsz]
set_option maxRecDepth 100000 in
set_option maxHeartbeats 2000000 in
theorem ref_GetN3 (w:World) (l:List UInt8):Calls Tryz.prog 40 #[.string ⟨l.toArray⟩] w (RefGot2 l w):=by
 by_cases hlong:2000<l.length
 ·match l,hlong with
  | [],h=>simp at h
  | c :: r,hlong=>
    have hlong':2000<r.length+1:=by simpa using hlong
    go_enter Tryz.func40,Tryz.ntmps40
    go_wp2_with fail
    go_ret2
    exact ⟨_,false,rfl,Below.refl _ _,.inl ⟨rfl,fun h=>by have:=h.2;simp at this;omega,rfl⟩⟩
 ·exact ref_GetN2 w l (by omega)
set_option maxRecDepth 100000 in
set_option maxHeartbeats 8000000 in
theorem ref_Get_nil (w:World) :
 Calls Tryz.prog 9 #[.string ⟨([]:List UInt8).toArray⟩] w (RefGotQ [] w):=by
 have hsz:(Tryz.prog.info? 35).map (·.size)=some 3:=by kernel_rfl
 obtain ⟨w0,hw0⟩:∃ w0,w0=w.alloc (.cells #[.bool false,.slice none 0 0,.slice none 0 0] 35):=⟨_,rfl⟩
 have r0:Hid (∀ n,Row (w0.drewN n) w.heap.size 35 #[.bool false,.slice none 0 0,.slice none 0 0]):=Lib.hid fun n=>by rw[hw0];exact Row.keep (Row.new _ _ _) (Below.drewN_ (Below.refl _ _) n)
 have b0:Hid (∀ n,Below w.heap.size w (w0.drewN n)):=Lib.hid fun n=>by rw[hw0];exact Below.drewN_ ((Below.refl _ _).alloc (Nat.le_refl _) _) n
 have W0:=Lib.hid hw0
 clear hw0
 obtain ⟨T,hT⟩:∃ T:List UInt8,T = []:=⟨_,rfl⟩
 have hhT:Hid (T.head?≠some 45):=Lib.hid (by rw[hT];simp)
 have hTl:T.length≤100000:=by rw[hT];simp
 have hne2:T.isEmpty=true:=by rw[hT];rfl
 have hT0:Hid (T.length=0):=Lib.hid (by rw[hT];rfl)
 have hlT:Hid (T=sgnT false T):=Lib.hid rfl
 change Calls Tryz.prog 9 #[.string ⟨([]:List UInt8).toArray⟩] w (RefGotQ [] w)
 rw[← hT]
 go_enter Tryz.func9,Tryz.ntmps9
 go_wp2_with fail
 rw[← W0.out]
 go_quiet (fail)
 go_wp2_with fail
 go_loopw [6] (fun t6 wr=>∃ k:Nat,t6=.int .i64 k∧k≤T.length∧Hid (∀ j,j<k→T[j]?≠some 47)∧Hid (Row wr w.heap.size 35 #[.bool false,.slice none 0 0,.slice none 0 0])∧Below w.heap.size w wr) (fun t6 _=>T.length - (intOf t6).toNat)
 case atStart=>exact ⟨0,rfl,by omega,Lib.hid (fun j hj=>by omega),Lib.hid (r0.out _),b0.out _⟩
 case round=>
  clear r0 b0 W0
  obtain ⟨k,rfl,hk,hno,hrow,hbr⟩:=hrel
  obtain ⟨Sa,hSa⟩:∃ Sa,Sa=(⟨T.toArray⟩:ByteArray).extract 0 k:=⟨_,rfl⟩
  have CA:Hid (∀ wr,Calls Tryz.prog 40 #[.string Sa] wr (RefGot2 (T.take k) wr)):=Lib.hid fun wr=>by
   rw[hSa,take_bytes];exact ref_GetN3 wr _
  have ex1:=hSa.symm
  clear hSa
  by_cases hlt:k<T.length
  ·exact absurd hlt (by rw[hT0.out];omega)
  ·obtain rfl:k=T.length:=by omega
   obtain ⟨G1,G2⟩:=good_whole (neg:=false) (a:=T) (no_stroke hno.out) (fun _=>hhT.out)
   have HG1:Hid (FracGood T↔GoodNat T∧(false=true→numOf 0 T≠0)):=Lib.hid G1
   have HG2:Hid (fracOf T=quo false (numOf 0 T) 1):=Lib.hid G2
   have CA:Hid (∀ wr,Calls Tryz.prog 40 #[.string ByteArray.empty] wr (RefGot2 T wr)):=Lib.hid fun wr=>by
    have e:T = []:=List.eq_nil_of_length_eq_zero hT0.out
    rw[e];exact ref_GetN2 wr [] (by simp)
   clear hno hhT G1 G2 hlT
   go_wp2_with fail
   go_at_call 40
   refine (CA.out _).mono ?_
   intro e w2 hgot
   obtain ⟨A,c,n,b1,rfl,hb2,hn,hnl,hcase⟩:=got_num hgot
   obtain ⟨w3,hw3⟩:∃ w3,w3=w2.alloc (.cells #[.int .i64 1] 3):=⟨_,rfl⟩
   have h23:Below w2.heap.size w2 w3:=by rw[hw3];exact (Below.refl _ _).alloc (Nat.le_refl _) _
   have hone3:RefN w3 (.slice (some ⟨w2.heap.size,0,none⟩) 1 1) 1:=ref_one (d:=1) (by rw[hw3];exact Row.new _ _ _) (by omega) (by omega)
   have CF:=Lib.hid (ref_Frac w3 false _ _ n 1 (hn.keep h23) hone3)
   obtain ⟨bs,hbs⟩:∃ bs,bs=(false && decide (n≠0)):=⟨_,rfl⟩
   rw[← hbs]at CF
   have HBS:=Lib.hid hbs
   have HW3:=Lib.hid hw3
   clear hn hone3 hw3 hbs hgot
   go_wp2_with fail
   rw[← HW3.out]
   refine CF.out.mono ?_
   rintro e w4 ⟨v,rfl,hv,hb4⟩
   have hv2:=hv.open_
   rw[show (tdg 1).length=1 by rw[tdg_one];rfl]at hv2
   obtain ⟨A3,c3,A4,c4,rfl,hx4,hy4,hs4⟩:=hv2
   have hb5:Below w4.heap.size w4 (w4.alloc (.cells #[.bool bs,.slice A3 (tdg n).length c3,.slice A4 1 c4] 35)):=(Below.refl _ _).alloc (Nat.le_refl _) _
   have y4:=below_seq hb2 (below_seq h23 hb4)
   have y5:=below_seq y4 hb5
   have B5:=hbr.trans (y5.mono hbr.size)
   have HR0:=Lib.hid (Row.keep hrow.out y5)
   have hlt4:Hid (w.heap.size<w4.heap.size):=Lib.hid (by have h1:=Row.lt hrow.out;have h2:=y4.size;omega)
   have HX5:=Lib.hid (RefN.keep hx4 hb5);have HY5:=Lib.hid (RefN.keep hy4 hb5);have HRG:=Lib.hid (Row.new w4 35 #[.bool bs,.slice A3 (tdg n).length c3,.slice A4 1 c4]);have HS4:=Lib.hid hs4
   clear CF hv hx4 hy4 hs4 HW3 hb4 h23 hb2 y4 y5 hb5 hrow
   have HCS:=Lib.hid hcase
   clear hcase CA
   cases b1
   ·obtain ⟨w9,hw9,hrow9,hb9,q0,q1,q2,f0,f1,f2⟩:=qno (tI:=3) (W:=(w4.alloc (.cells #[.bool bs,.slice A3 (tdg n).length c3,.slice A4 1 c4] 35))) (s:=w4.heap.size+1) (by simp) HR0.out B5 (Nat.le_refl _)
    have HW9:=Lib.hid hw9;have HR9:=Lib.hid hrow9
    have hno9:Hid (¬ FracGood T):=Lib.hid fun hgood=>by
     rcases HCS.out with ⟨_,h1⟩|⟨h1,_⟩
     ·exact h1 (HG1.out.1 hgood).1
     ·cases h1
    clear hw9 hrow9
    go_wp2_with fail
    rw[← HW9.out]
    refine bodyPost_ret (res_get w9 w.heap.size _ (.bool false) HR9.out rfl _ Tryz.results9 _ (by simp[go_sem]) (by simp[go_sem])) rfl ?_
    exact ⟨_,false,rfl,hb9,.inl ⟨rfl,hno9.out,_,rfl⟩⟩
   ·have hcase1:GoodNat T∧n=numOf 0 T:=by
     rcases HCS.out with ⟨h,_⟩|⟨_,h⟩
     ·cases h
     ·exact h
    obtain ⟨hga,hna⟩:=hcase1
    have HGA:=Lib.hid hga;have HNA:=Lib.hid hna
    clear HCS hga hna
    obtain ⟨bo,oo,hA4,hd4⟩:∃ bo oo,A4=some ⟨bo,oo,none⟩∧(w4.alloc (.cells #[.bool bs,.slice A3 (tdg n).length c3,.slice A4 1 c4] 35)).cell? ⟨bo,oo,none⟩=some (.int .i64 1):=by
     have h:=HY5.out
     unfold RefN at h
     rw[tdg_one]at h
     have h':Ints .i64 (w4.alloc (.cells #[.bool bs,.slice A3 (tdg n).length c3,.slice A4 1 c4] 35)) (.slice A4 ([1]:List Nat).length c4) [1]:=h
     obtain ⟨bo,oo,h1,h2⟩:=Ints.at_ h' 0 (by simp)
     exact ⟨bo,oo,h1,h2⟩
    subst hA4
    have hn0b:=tdg_len0 n
    clear hn0b
    obtain ⟨gg,hgg⟩:∃ gg,gg=Nat.gcd n 1:=⟨_,rfl⟩
    have hggl:(tdg gg).length≤100000:=by rw[hgg];exact Nat.le_trans (tdg_le (Nat.gcd_le_right _ (by first|omega|(have:=HD0.out;omega)))) (by first|omega|(rw[tdg_one];simp))
    have CGc0:=(ref_Gcd _ _ _ n 1 HX5.out HY5.out (by omega) (by first|omega|(rw[tdg_one];simp)))
    rw[← hgg]at CGc0
    have CGc:=Lib.hid CGc0
    have HGG:=Lib.hid hgg
    clear CGc0 hgg
    go_wp2_with fail
    refine CGc.out.mono ?_
    rintro e w7 ⟨z,rfl,hz,hb7⟩
    obtain ⟨w8,hw8⟩:∃ w8,w8=w7.alloc (.cells #[.int .i64 1] 3):=⟨_,rfl⟩
    have h78:Below w7.heap.size w7 w8:=by rw[hw8];exact (Below.refl _ _).alloc (Nat.le_refl _) _
    have hone8:RefN w8 (.slice (some ⟨w7.heap.size,0,none⟩) 1 1) 1:=ref_one (d:=1) (by rw[hw8];exact Row.new _ _ _) (by omega) (by omega)
    have y8:=below_seq hb7 h78
    have CC8:=ref_Cmp w8 _ _ gg 1 (hz.keep h78) hone8 (by omega) (by rw[tdg_one];simp)
    have hr8:=Row.keep HR0.out y8
    have hg8:=Row.keep HRG.out y8
    have hx8:=RefN.keep HX5.out y8
    have hy8:=RefN.keep HY5.out y8
    have B8:=B5.trans (y8.mono B5.size)
    have HW8:=Lib.hid hw8
    obtain ⟨A9,c9,rfl,_⟩:=hz.open_
    clear hw8 hone8 hz CGc hb7 h78
    rw[cmpI_eq (by rw[HGG.out];exact Nat.gcd_one_right _)]at CC8
    have CC9:=Lib.hid CC8
    obtain ⟨w9,hw9,hrow9,hq9,hb9,q0,q1,q2,f0,f1,f2⟩:=qyes (g:=w4.heap.size) (n:=n) (d:=1) hr8 B8 (Nat.le_refl _) hg8 hx8 hy8 HS4.out
    have HW9:=Lib.hid hw9;have HR9:=Lib.hid hrow9;have HQ9:=Lib.hid hq9;have HG8:=Lib.hid hg8
    clear hw9 hrow9 hq9 CC8 hr8 hg8 hx8 hy8
    go_wp2_with fail
    rw[← HW8.out]
    refine CC9.out.mono ?_
    rintro e w' ⟨rfl,rfl⟩
    go_wp2_with (refine wpList_load_row rfl 35 _ rfl w4.heap.size rfl 35 _ (0,0) _ HG8.out Tryz.underlying35 rfl hsz ?_)
    rw[← HW9.out]
    refine bodyPost_ret (res_get w9 w.heap.size _ (.bool true) HR9.out rfl _ Tryz.results9 _ (by simp[go_sem]) (by simp[go_sem])) rfl ?_
    refine ⟨_,true,rfl,hb9,.inr ⟨rfl,HG1.out.2 ⟨HGA.out,(fun h=>by cases h)⟩,_,n,1,HQ9.out,by omega,?_,hnl,by rw[tdg_one];simp⟩⟩
    rw[HG2.out,← HNA.out,HBS.out]
    rfl
set_option maxRecDepth 100000 in
set_option maxHeartbeats 8000000 in
theorem ref_Get_neg (w:World) (T:List UInt8) (hl:((45:UInt8) :: T).length≤9223372036854775807) :
 Calls Tryz.prog 9 #[.string ⟨((45:UInt8) :: T).toArray⟩] w (RefGotQ (45 :: T) w):=by
 have hsz:(Tryz.prog.info? 35).map (·.size)=some 3:=by kernel_rfl
 obtain ⟨w0,hw0⟩:∃ w0,w0=w.alloc (.cells #[.bool false,.slice none 0 0,.slice none 0 0] 35):=⟨_,rfl⟩
 have r0:Hid (∀ n,Row (w0.drewN n) w.heap.size 35 #[.bool false,.slice none 0 0,.slice none 0 0]):=Lib.hid fun n=>by rw[hw0];exact Row.keep (Row.new _ _ _) (Below.drewN_ (Below.refl _ _) n)
 have b0:Hid (∀ n,Below w.heap.size w (w0.drewN n)):=Lib.hid fun n=>by rw[hw0];exact Below.drewN_ ((Below.refl _ _).alloc (Nat.le_refl _) _) n
 have W0:=Lib.hid hw0
 clear hw0
 have hlT:Hid ((45:UInt8) :: T=sgnT true T):=Lib.hid rfl
 have hhT:True:=trivial
 have hTl:T.length≤9223372036854775806:=by simp at hl;omega
 have hsl:(⟨((45:UInt8) :: T).toArray⟩:ByteArray).extract 1 (T.length+1)=⟨T.toArray⟩:=bytes_drop _ _ _ rfl
 have hb:(((((⟨((45:UInt8) :: T).toArray⟩:ByteArray)[0]'(by show 0<((45:UInt8) :: T).toArray.size;simp)).toNat:Int)) == 45)=true:=rfl
 go_enter Tryz.func9,Tryz.ntmps9
 go_wp2_with fail
 rw[← W0.out]
 go_quiet (fail)
 go_wp2_with fail
 clear hsl hb
 go_loopw [6] (fun t6 wr=>∃ k:Nat,t6=.int .i64 k∧k≤T.length∧Hid (∀ j,j<k→T[j]?≠some 47)∧Hid (Row wr w.heap.size 35 #[.bool false,.slice none 0 0,.slice none 0 0])∧Below w.heap.size w wr) (fun t6 _=>T.length - (intOf t6).toNat)
 case atStart=>exact ⟨0,rfl,by omega,Lib.hid (fun j hj=>by omega),Lib.hid (r0.out _),b0.out _⟩
 case round=>
  clear r0 b0 W0
  obtain ⟨k,rfl,hk,hno,hrow,hbr⟩:=hrel
  obtain ⟨Sa,hSa⟩:∃ Sa,Sa=(⟨T.toArray⟩:ByteArray).extract 0 k:=⟨_,rfl⟩
  have CA:Hid (∀ wr,Calls Tryz.prog 40 #[.string Sa] wr (RefGot2 (T.take k) wr)):=Lib.hid fun wr=>by
   rw[hSa,take_bytes];exact ref_GetN3 wr _
  have ex1:=hSa.symm
  clear hSa
  by_cases hlt:k<T.length
  ·have hget:k<(⟨T.toArray⟩:ByteArray).size:=by show k<T.toArray.size;simp;omega
   obtain ⟨b,hbe⟩:∃ b,b=(⟨T.toArray⟩:ByteArray)[k]'hget:=⟨_,rfl⟩
   have hLm:Hid (T[k]?=some b):=Lib.hid (by rw[hbe,List.getElem?_eq_getElem (by omega)];rfl)
   obtain ⟨x,hxe⟩:∃ x:Nat,x=b.toNat:=⟨_,rfl⟩
   have hx:((((⟨T.toArray⟩:ByteArray)[k]'hget).toNat:Nat):Int)=(x:Int):=by rw[hxe,hbe]
   have HX:=Lib.hid hxe
   clear hbe hxe
   by_cases h47:x=47
   ·have hq:((x:Int) == 47)=true:=by rw[beq_iff_eq];omega
    have hst:=Lib.hid (stroke_at hno.out (by rw[hLm.out];exact congrArg some (UInt8.toNat_inj.1 (by rw[← HX.out,h47];rfl))))
    obtain ⟨Sb,hSb⟩:∃ Sb,Sb=(⟨T.toArray⟩:ByteArray).extract (k+1) T.length:=⟨_,rfl⟩
    have CBb:Hid (∀ wr,Calls Tryz.prog 40 #[.string Sb] wr (RefGot2 (T.drop (k+1)) wr)):=Lib.hid fun wr=>by
     rw[hSb,bytes_drop _ _ _ rfl];exact ref_GetN3 wr _
    have ex2:=hSb.symm
    obtain ⟨G1,G2⟩:(FracGood ((45:UInt8) :: T)↔GoodNat (T.take k)∧GoodNat (T.drop (k+1))∧numOf 0 (T.drop (k+1))≠0∧numOf 0 (T.drop (k+1))≠1∧(true=true→numOf 0 (T.take k)≠0)∧Nat.gcd (numOf 0 (T.take k)) (numOf 0 (T.drop (k+1)))=1)∧fracOf ((45:UInt8) :: T)=quo true (numOf 0 (T.take k)) (numOf 0 (T.drop (k+1))):=by
     have h:=good_found (neg:=true) (a:=T.take k) (b:=T.drop (k+1)) hst.out.1 (by rw[← hst.out.2];exact (fun h=>by cases h))
     rw[← hst.out.2]at h
     exact h
    have HG1:=Lib.hid G1;have HG2:=Lib.hid G2
    clear h47 hLm HX hno hSb G1 G2 hst hhT hlT
    go_wp2_with fail
    refine (CA.out _).mono ?_
    intro e w2 hgot
    obtain ⟨A,c,n,b1,rfl,hb2,hn,hnl,hcase⟩:=got_num hgot
    obtain ⟨w3,hw3⟩:∃ w3,w3=w2.alloc (.cells #[.int .i64 1] 3):=⟨_,rfl⟩
    have h23:Below w2.heap.size w2 w3:=by rw[hw3];exact (Below.refl _ _).alloc (Nat.le_refl _) _
    have hone3:RefN w3 (.slice (some ⟨w2.heap.size,0,none⟩) 1 1) 1:=ref_one (d:=1) (by rw[hw3];exact Row.new _ _ _) (by omega) (by omega)
    have CF:=Lib.hid (ref_Frac w3 true _ _ n 1 (hn.keep h23) hone3)
    obtain ⟨bs,hbs⟩:∃ bs,bs=(true && decide (n≠0)):=⟨_,rfl⟩
    rw[← hbs]at CF
    have HBS:=Lib.hid hbs
    have HW3:=Lib.hid hw3
    clear hn hone3 hw3 hbs hgot
    go_wp2_with fail
    rw[← HW3.out]
    refine CF.out.mono ?_
    rintro e w4 ⟨v,rfl,hv,hb4⟩
    have hv2:=hv.open_
    rw[show (tdg 1).length=1 by rw[tdg_one];rfl]at hv2
    obtain ⟨A3,c3,A4,c4,rfl,hx4,hy4,hs4⟩:=hv2
    have hb5:Below w4.heap.size w4 (w4.alloc (.cells #[.bool bs,.slice A3 (tdg n).length c3,.slice A4 1 c4] 35)):=(Below.refl _ _).alloc (Nat.le_refl _) _
    have y4:=below_seq hb2 (below_seq h23 hb4)
    have y5:=below_seq y4 hb5
    have B5:=hbr.trans (y5.mono hbr.size)
    have HR0:=Lib.hid (Row.keep hrow.out y5)
    have hlt4:Hid (w.heap.size<w4.heap.size):=Lib.hid (by have h1:=Row.lt hrow.out;have h2:=y4.size;omega)
    have HX5:=Lib.hid (RefN.keep hx4 hb5);have HY5:=Lib.hid (RefN.keep hy4 hb5);have HRG:=Lib.hid (Row.new w4 35 #[.bool bs,.slice A3 (tdg n).length c3,.slice A4 1 c4]);have HS4:=Lib.hid hs4
    clear CF hv hx4 hy4 hs4 HW3 hb4 h23 hb2 y4 y5 hb5 hrow
    have HCS:=Lib.hid hcase
    clear hcase
    cases b1
    ·obtain ⟨w9,hw9,hrow9,hb9,q0,q1,q2,f0,f1,f2⟩:=qno (tI:=3) (W:=(w4.alloc (.cells #[.bool bs,.slice A3 (tdg n).length c3,.slice A4 1 c4] 35))) (s:=w4.heap.size+1) (by simp) HR0.out B5 (Nat.le_refl _)
     have HW9:=Lib.hid hw9;have HR9:=Lib.hid hrow9
     have hno9:Hid (¬ FracGood ((45:UInt8) :: T)):=Lib.hid fun hgood=>by
      rcases HCS.out with ⟨_,h1⟩|⟨h1,_⟩
      ·exact h1 (HG1.out.1 hgood).1
      ·cases h1
     clear hw9 hrow9
     go_wp2_with fail
     rw[← HW9.out]
     refine bodyPost_ret (res_get w9 w.heap.size _ (.bool false) HR9.out rfl _ Tryz.results9 _ (by simp[go_sem]) (by simp[go_sem])) rfl ?_
     exact ⟨_,false,rfl,hb9,.inl ⟨rfl,hno9.out,_,rfl⟩⟩
    ·have hcase1:GoodNat (T.take k)∧n=numOf 0 (T.take k):=by
      rcases HCS.out with ⟨h,_⟩|⟨_,h⟩
      ·cases h
      ·exact h
     obtain ⟨hga,hna⟩:=hcase1
     have HGA:=Lib.hid hga;have HNA:=Lib.hid hna
     clear HCS hga hna
     go_wp2_with fail
     refine (CBb.out _).mono ?_
     intro e w6 hgot
     obtain ⟨A6,c6,d,b2,rfl,hb6,hd6,hdl,hcase⟩:=got_num hgot
     have hg6:=Row.keep HRG.out hb6
     have hO7:Only w4.heap.size w6 (w6.setCell ⟨w4.heap.size,2,none⟩ (.slice A6 (tdg d).length c6)):=(Only.refl _ _).setCell 2 _
     have hcs:=qrow_far bs (.slice A3 (tdg n).length c3) (.slice A4 1 c4) (fun _ _ h=>by cases h) (fun _ _ h=>by cases h)
     have HXn:Hid (RefN (w6.setCell ⟨w4.heap.size,2,none⟩ (.slice A6 (tdg d).length c6)) (.slice A3 (tdg n).length c3) n):=Lib.hid (Ints.rowfar (HX5.out.keep hb6) hg6 (hcs _) hO7)
     have HYd:Hid (RefN (w6.setCell ⟨w4.heap.size,2,none⟩ (.slice A6 (tdg d).length c6)) (.slice A6 (tdg d).length c6) d):=Lib.hid (Ints.rowfar hd6 hg6 (hcs _) hO7)
     have HRG7:Hid (Row (w6.setCell ⟨w4.heap.size,2,none⟩ (.slice A6 (tdg d).length c6)) w4.heap.size 35 #[.bool bs,.slice A3 (tdg n).length c3,.slice A6 (tdg d).length c6]):=Lib.hid (Row.set hg6 2 _)
     have hr06:=Row.keep HR0.out hb6
     have HR07:Hid (Row (w6.setCell ⟨w4.heap.size,2,none⟩ (.slice A6 (tdg d).length c6)) w.heap.size 35 #[.bool false,.slice none 0 0,.slice none 0 0]):=Lib.hid (hr06.far (p:=⟨w4.heap.size,2,none⟩) (by have:=hlt4.out;show w.heap.size≠w4.heap.size;omega) _)
     have B6:=B5.trans (hb6.mono B5.size)
     have B7:Below w.heap.size w (w6.setCell ⟨w4.heap.size,2,none⟩ (.slice A6 (tdg d).length c6)):=B6.trans (hO7.below (Nat.le_of_lt hlt4.out))
     have q62:=hg6.cell 2;have f62:=hg6.free 2
     have g70:=HRG7.out.cell 0;have g71:=HRG7.out.cell 1;have g72:=HRG7.out.cell 2
     have HCS:=Lib.hid hcase
     clear hcase hg6 hO7 hcs hd6 hr06 CBb CA
     cases b2
     ·obtain ⟨w9,hw9,hrow9,hb9,q0,q1,q2,f0,f1,f2⟩:=qno (tI:=3) (W:=(w6.setCell ⟨w4.heap.size,2,none⟩ (.slice A6 (tdg d).length c6))) (s:=w6.heap.size) (by simp) HR07.out B7 (Nat.le_refl _)
      have HW9:=Lib.hid hw9;have HR9:=Lib.hid hrow9
      have hno9:Hid (¬ FracGood ((45:UInt8) :: T)):=Lib.hid fun hgood=>by
       rcases HCS.out with ⟨_,h1⟩|⟨h1,_⟩
       ·exact h1 (HG1.out.1 hgood).2.1
       ·cases h1
      clear hw9 hrow9
      go_wp2_with fail
      rw[← HW9.out]
      refine bodyPost_ret (res_get w9 w.heap.size _ (.bool false) HR9.out rfl _ Tryz.results9 _ (by simp[go_sem]) (by simp[go_sem])) rfl ?_
      exact ⟨_,false,rfl,hb9,.inl ⟨rfl,hno9.out,_,rfl⟩⟩
     ·have hcase1:GoodNat (T.drop (k+1))∧d=numOf 0 (T.drop (k+1)):=by
       rcases HCS.out with ⟨h,_⟩|⟨_,h⟩
       ·cases h
       ·exact h
      obtain ⟨hgb,hnb⟩:=hcase1
      have HGB:=Lib.hid hgb;have HNB:=Lib.hid hnb
      clear HCS hgb hnb
      by_cases hd0:d=0
      ·have hpos:¬ (0:Int)<(((tdg d).length:Nat):Int):=by rw[hd0,tdg_zero];simp
       have HD0:=Lib.hid hd0
       clear hd0
       obtain ⟨w9,hw9,hrow9,hb9,q0,q1,q2,f0,f1,f2⟩:=qno (tI:=3) (W:=(w6.setCell ⟨w4.heap.size,2,none⟩ (.slice A6 (tdg d).length c6))) (s:=w6.heap.size) (by simp) HR07.out B7 (Nat.le_refl _)
       have HW9:=Lib.hid hw9;have HR9:=Lib.hid hrow9
       have hno9:Hid (¬ FracGood ((45:UInt8) :: T)):=Lib.hid fun hgood=>by
        exact (HG1.out.1 hgood).2.2.1 (by rw[← HNB.out];exact HD0.out)
       clear hw9 hrow9
       go_wp2_with fail
       rw[← HW9.out]
       refine bodyPost_ret (res_get w9 w.heap.size _ (.bool false) HR9.out rfl _ Tryz.results9 _ (by simp[go_sem]) (by simp[go_sem])) rfl ?_
       exact ⟨_,false,rfl,hb9,.inl ⟨rfl,hno9.out,_,rfl⟩⟩
      ·have hpos:(0:Int)<(((tdg d).length:Nat):Int):=by have:=tdg_pos hd0;omega
       have HD0:Hid (d≠0):=Lib.hid hd0
       have hkT:(k:Int)<(T.length:Int):=by omega
       clear hd0
       by_cases hl1:(tdg d).length=1
       ·have l1:((((tdg d).length:Nat):Int) == 1)=true:=by rw[beq_iff_eq];omega
        obtain ⟨bo,oo,hA6,hd6⟩:=Ints.at_ HYd.out 0 (by omega)
        rw[tdg_single hl1]at hd6
        subst hA6
        have hd6':(w6.setCell ⟨w4.heap.size,2,none⟩ (.slice (some ⟨bo,oo,none⟩) (tdg d).length c6)).cell? ⟨bo,oo,none⟩=some (.int .i64 ((d:Nat):Int)):=hd6
        clear hd6
        by_cases hd1:d=1
        ·have hdb:(((d:Nat):Int) == 1)=true:=by rw[beq_iff_eq];omega
         have HD1:=Lib.hid hd1
         clear hd1 hl1
         obtain ⟨w9,hw9,hrow9,hb9,q0,q1,q2,f0,f1,f2⟩:=qno (tI:=3) (W:=(w6.setCell ⟨w4.heap.size,2,none⟩ (.slice (some ⟨bo,oo,none⟩) (tdg d).length c6))) (s:=w6.heap.size) (by simp) HR07.out B7 (Nat.le_refl _)
         have HW9:=Lib.hid hw9;have HR9:=Lib.hid hrow9
         have hno9:Hid (¬ FracGood ((45:UInt8) :: T)):=Lib.hid fun hgood=>by
          exact (HG1.out.1 hgood).2.2.2.1 (by rw[← HNB.out];exact HD1.out)
         clear hw9 hrow9
         go_wp2_with fail
         rw[← HW9.out]
         refine bodyPost_ret (res_get w9 w.heap.size _ (.bool false) HR9.out rfl _ Tryz.results9 _ (by simp[go_sem]) (by simp[go_sem])) rfl ?_
         exact ⟨_,false,rfl,hb9,.inl ⟨rfl,hno9.out,_,rfl⟩⟩
        ·have hdb:(((d:Nat):Int) == 1)=false:=by rw[beq_eq_false_iff_ne];omega
         have HD1:Hid (d≠1):=Lib.hid hd1
         clear hd1 hl1
         have hn0b:=tdg_len0 n
         by_cases hn0:n=0
         ·rw[decide_eq_true hn0]at hn0b
          have HN0:=Lib.hid hn0
          clear hn0
          obtain ⟨w9,hw9,hrow9,hb9,q0,q1,q2,f0,f1,f2⟩:=qno (tI:=3) (W:=(w6.setCell ⟨w4.heap.size,2,none⟩ (.slice (some ⟨bo,oo,none⟩) (tdg d).length c6))) (s:=w6.heap.size) (by simp) HR07.out B7 (Nat.le_refl _)
          have HW9:=Lib.hid hw9;have HR9:=Lib.hid hrow9
          have hno9:Hid (¬ FracGood ((45:UInt8) :: T)):=Lib.hid fun hgood=>by
           exact (HG1.out.1 hgood).2.2.2.2.1 (by first|rfl|trivial) (by rw[← HNA.out];exact HN0.out)
          clear hw9 hrow9
          go_wp2_with fail
          rw[← HW9.out]
          refine bodyPost_ret (res_get w9 w.heap.size _ (.bool false) HR9.out rfl _ Tryz.results9 _ (by simp[go_sem]) (by simp[go_sem])) rfl ?_
          exact ⟨_,false,rfl,hb9,.inl ⟨rfl,hno9.out,_,rfl⟩⟩
         ·rw[decide_eq_false hn0]at hn0b
          have HN0:=Lib.hid hn0
          clear hn0
          obtain ⟨gg,hgg⟩:∃ gg,gg=Nat.gcd n d:=⟨_,rfl⟩
          have hggl:(tdg gg).length≤100000:=by rw[hgg];exact Nat.le_trans (tdg_le (Nat.gcd_le_right _ (by first|omega|(have:=HD0.out;omega)))) (by first|omega|(rw[tdg_one];simp))
          have CGc0:=(ref_Gcd (w6.setCell ⟨w4.heap.size,2,none⟩ (.slice (some ⟨bo,oo,none⟩) (tdg d).length c6)) _ _ n d HXn.out HYd.out (by omega) (by first|omega|(rw[tdg_one];simp)))
          rw[← hgg]at CGc0
          have CGc:=Lib.hid CGc0
          have HGG:=Lib.hid hgg
          clear CGc0 hgg
          go_wp2_with fail
          refine CGc.out.mono ?_
          rintro e w7 ⟨z,rfl,hz,hb7⟩
          obtain ⟨w8,hw8⟩:∃ w8,w8=w7.alloc (.cells #[.int .i64 1] 3):=⟨_,rfl⟩
          have h78:Below w7.heap.size w7 w8:=by rw[hw8];exact (Below.refl _ _).alloc (Nat.le_refl _) _
          have hone8:RefN w8 (.slice (some ⟨w7.heap.size,0,none⟩) 1 1) 1:=ref_one (d:=1) (by rw[hw8];exact Row.new _ _ _) (by omega) (by omega)
          have y8:=below_seq hb7 h78
          have CC8:=ref_Cmp w8 _ _ gg 1 (hz.keep h78) hone8 (by omega) (by rw[tdg_one];simp)
          have hr8:=Row.keep HR07.out y8
          have hg8:=Row.keep HRG7.out y8
          have hx8:=RefN.keep HXn.out y8
          have hy8:=RefN.keep HYd.out y8
          have B8:=B7.trans (y8.mono B7.size)
          have HW8:=Lib.hid hw8
          obtain ⟨A9,c9,rfl,_⟩:=hz.open_
          clear hw8 hone8 hz CGc hb7 h78
          by_cases hG1:gg=1
          ·rw[cmpI_eq hG1]at CC8
           have HG11:=Lib.hid hG1
           clear hG1
           have CC9:=Lib.hid CC8
           obtain ⟨w9,hw9,hrow9,hq9,hb9,q0,q1,q2,f0,f1,f2⟩:=qyes (g:=w4.heap.size) (n:=n) (d:=d) hr8 B8 (Nat.le_refl _) hg8 hx8 hy8 HS4.out
           have HW9:=Lib.hid hw9;have HR9:=Lib.hid hrow9;have HQ9:=Lib.hid hq9;have HG8:=Lib.hid hg8
           clear hw9 hrow9 hq9 CC8 hr8 hg8 hx8 hy8
           go_wp2_with fail
           rw[← HW8.out]
           refine CC9.out.mono ?_
           rintro e w' ⟨rfl,rfl⟩
           go_wp2_with (refine wpList_load_row rfl 35 _ rfl w4.heap.size rfl 35 _ (0,0) _ HG8.out Tryz.underlying35 rfl hsz ?_)
           rw[← HW9.out]
           refine bodyPost_ret (res_get w9 w.heap.size _ (.bool true) HR9.out rfl _ Tryz.results9 _ (by simp[go_sem]) (by simp[go_sem])) rfl ?_
           refine ⟨_,true,rfl,hb9,.inr ⟨rfl,HG1.out.2 ⟨HGA.out,HGB.out,by rw[← HNB.out];exact HD0.out,by rw[← HNB.out];exact HD1.out,(fun _=>by rw[← HNA.out];exact HN0.out),by rw[← HNA.out,← HNB.out,← HGG.out];exact HG11.out⟩,_,n,d,HQ9.out,HD0.out,?_,hnl,hdl⟩⟩
           rw[HG2.out,← HNA.out,← HNB.out,HBS.out]
           rw[show (true && decide (n≠0))=true by simp[HN0.out]]
          ·rw[cmpI_gt (show 1<gg by have h1:=HGG.out;have:=Nat.gcd_pos_of_pos_right n (show 0<d by first|omega|(have:=HD0.out;omega));omega)]at CC8
           have CC9:=Lib.hid CC8
           have HG11:=Lib.hid hG1
           clear CC8 hG1
           obtain ⟨w9,hw9,hrow9,hb9,q0,q1,q2,f0,f1,f2⟩:=qno (tI:=3) (W:=w8) (s:=w8.heap.size) (by simp) hr8 B8 (Nat.le_refl _)
           have HW9:=Lib.hid hw9;have HR9:=Lib.hid hrow9
           have hno9:Hid (¬ FracGood ((45:UInt8) :: T)):=Lib.hid fun hgood=>by
            exact HG11.out (by rw[HGG.out,HNA.out,HNB.out];exact (HG1.out.1 hgood).2.2.2.2.2)
           clear hw9 hrow9
           go_wp2_with fail
           rw[← HW8.out]
           refine CC9.out.mono ?_
           rintro e w' ⟨rfl,rfl⟩
           go_wp2_with fail
           rw[← HW9.out]
           refine bodyPost_ret (res_get w9 w.heap.size _ (.bool false) HR9.out rfl _ Tryz.results9 _ (by simp[go_sem]) (by simp[go_sem])) rfl ?_
           exact ⟨_,false,rfl,hb9,.inl ⟨rfl,hno9.out,_,rfl⟩⟩
       ·have l1:((((tdg d).length:Nat):Int) == 1)=false:=by rw[beq_eq_false_iff_ne];omega
        have HD1:Hid (d≠1):=Lib.hid (fun e=>hl1 (by rw[e,tdg_one];rfl))
        clear hl1
        have hn0b:=tdg_len0 n
        by_cases hn0:n=0
        ·rw[decide_eq_true hn0]at hn0b
         have HN0:=Lib.hid hn0
         clear hn0
         obtain ⟨w9,hw9,hrow9,hb9,q0,q1,q2,f0,f1,f2⟩:=qno (tI:=3) (W:=(w6.setCell ⟨w4.heap.size,2,none⟩ (.slice A6 (tdg d).length c6))) (s:=w6.heap.size) (by simp) HR07.out B7 (Nat.le_refl _)
         have HW9:=Lib.hid hw9;have HR9:=Lib.hid hrow9
         have hno9:Hid (¬ FracGood ((45:UInt8) :: T)):=Lib.hid fun hgood=>by
          exact (HG1.out.1 hgood).2.2.2.2.1 (by first|rfl|trivial) (by rw[← HNA.out];exact HN0.out)
         clear hw9 hrow9
         go_wp2_with fail
         rw[← HW9.out]
         refine bodyPost_ret (res_get w9 w.heap.size _ (.bool false) HR9.out rfl _ Tryz.results9 _ (by simp[go_sem]) (by simp[go_sem])) rfl ?_
         exact ⟨_,false,rfl,hb9,.inl ⟨rfl,hno9.out,_,rfl⟩⟩
        ·rw[decide_eq_false hn0]at hn0b
         have HN0:=Lib.hid hn0
         clear hn0
         obtain ⟨gg,hgg⟩:∃ gg,gg=Nat.gcd n d:=⟨_,rfl⟩
         have hggl:(tdg gg).length≤100000:=by rw[hgg];exact Nat.le_trans (tdg_le (Nat.gcd_le_right _ (by first|omega|(have:=HD0.out;omega)))) (by first|omega|(rw[tdg_one];simp))
         have CGc0:=(ref_Gcd (w6.setCell ⟨w4.heap.size,2,none⟩ (.slice A6 (tdg d).length c6)) _ _ n d HXn.out HYd.out (by omega) (by first|omega|(rw[tdg_one];simp)))
         rw[← hgg]at CGc0
         have CGc:=Lib.hid CGc0
         have HGG:=Lib.hid hgg
         clear CGc0 hgg
         go_wp2_with fail
         refine CGc.out.mono ?_
         rintro e w7 ⟨z,rfl,hz,hb7⟩
         obtain ⟨w8,hw8⟩:∃ w8,w8=w7.alloc (.cells #[.int .i64 1] 3):=⟨_,rfl⟩
         have h78:Below w7.heap.size w7 w8:=by rw[hw8];exact (Below.refl _ _).alloc (Nat.le_refl _) _
         have hone8:RefN w8 (.slice (some ⟨w7.heap.size,0,none⟩) 1 1) 1:=ref_one (d:=1) (by rw[hw8];exact Row.new _ _ _) (by omega) (by omega)
         have y8:=below_seq hb7 h78
         have CC8:=ref_Cmp w8 _ _ gg 1 (hz.keep h78) hone8 (by omega) (by rw[tdg_one];simp)
         have hr8:=Row.keep HR07.out y8
         have hg8:=Row.keep HRG7.out y8
         have hx8:=RefN.keep HXn.out y8
         have hy8:=RefN.keep HYd.out y8
         have B8:=B7.trans (y8.mono B7.size)
         have HW8:=Lib.hid hw8
         obtain ⟨A9,c9,rfl,_⟩:=hz.open_
         clear hw8 hone8 hz CGc hb7 h78
         by_cases hG1:gg=1
         ·rw[cmpI_eq hG1]at CC8
          have HG11:=Lib.hid hG1
          clear hG1
          have CC9:=Lib.hid CC8
          obtain ⟨w9,hw9,hrow9,hq9,hb9,q0,q1,q2,f0,f1,f2⟩:=qyes (g:=w4.heap.size) (n:=n) (d:=d) hr8 B8 (Nat.le_refl _) hg8 hx8 hy8 HS4.out
          have HW9:=Lib.hid hw9;have HR9:=Lib.hid hrow9;have HQ9:=Lib.hid hq9;have HG8:=Lib.hid hg8
          clear hw9 hrow9 hq9 CC8 hr8 hg8 hx8 hy8
          go_wp2_with fail
          rw[← HW8.out]
          refine CC9.out.mono ?_
          rintro e w' ⟨rfl,rfl⟩
          go_wp2_with (refine wpList_load_row rfl 35 _ rfl w4.heap.size rfl 35 _ (0,0) _ HG8.out Tryz.underlying35 rfl hsz ?_)
          rw[← HW9.out]
          refine bodyPost_ret (res_get w9 w.heap.size _ (.bool true) HR9.out rfl _ Tryz.results9 _ (by simp[go_sem]) (by simp[go_sem])) rfl ?_
          refine ⟨_,true,rfl,hb9,.inr ⟨rfl,HG1.out.2 ⟨HGA.out,HGB.out,by rw[← HNB.out];exact HD0.out,by rw[← HNB.out];exact HD1.out,(fun _=>by rw[← HNA.out];exact HN0.out),by rw[← HNA.out,← HNB.out,← HGG.out];exact HG11.out⟩,_,n,d,HQ9.out,HD0.out,?_,hnl,hdl⟩⟩
          rw[HG2.out,← HNA.out,← HNB.out,HBS.out]
          rw[show (true && decide (n≠0))=true by simp[HN0.out]]
         ·rw[cmpI_gt (show 1<gg by have h1:=HGG.out;have:=Nat.gcd_pos_of_pos_right n (show 0<d by first|omega|(have:=HD0.out;omega));omega)]at CC8
          have CC9:=Lib.hid CC8
          have HG11:=Lib.hid hG1
          clear CC8 hG1
          obtain ⟨w9,hw9,hrow9,hb9,q0,q1,q2,f0,f1,f2⟩:=qno (tI:=3) (W:=w8) (s:=w8.heap.size) (by simp) hr8 B8 (Nat.le_refl _)
          have HW9:=Lib.hid hw9;have HR9:=Lib.hid hrow9
          have hno9:Hid (¬ FracGood ((45:UInt8) :: T)):=Lib.hid fun hgood=>by
           exact HG11.out (by rw[HGG.out,HNA.out,HNB.out];exact (HG1.out.1 hgood).2.2.2.2.2)
          clear hw9 hrow9
          go_wp2_with fail
          rw[← HW8.out]
          refine CC9.out.mono ?_
          rintro e w' ⟨rfl,rfl⟩
          go_wp2_with fail
          rw[← HW9.out]
          refine bodyPost_ret (res_get w9 w.heap.size _ (.bool false) HR9.out rfl _ Tryz.results9 _ (by simp[go_sem]) (by simp[go_sem])) rfl ?_
          exact ⟨_,false,rfl,hb9,.inl ⟨rfl,hno9.out,_,rfl⟩⟩
   ·have hq:((x:Int) == 47)=false:=by rw[beq_eq_false_iff_ne];omega
    have hno2:Hid (∀ j,j<k+1→T[j]?≠some 47):=Lib.hid fun j hj=>by
     by_cases e:j=k
     ·subst e;rw[hLm.out];intro h;injection h with h;rw[HX.out,h]at h47;exact h47 rfl
     ·exact hno.out j (by omega)
    clear h47 hno hLm HX CA
    go_wp2_with fail
    go_roundw
    case rel=>exact ⟨k+1,by go_num,by omega,hno2,hrow,hbr⟩
    case measure=>simp[intOf];omega
  ·obtain rfl:k=T.length:=by omega
   obtain ⟨G1,G2⟩:=good_whole (neg:=true) (a:=T) (no_stroke hno.out) (fun h=>by cases h)
   have HG1:Hid (FracGood ((45:UInt8) :: T)↔GoodNat T∧(true=true→numOf 0 T≠0)):=Lib.hid G1
   have HG2:Hid (fracOf ((45:UInt8) :: T)=quo true (numOf 0 T) 1):=Lib.hid G2
   rw[List.take_length]at CA
   clear hno hhT G1 G2 hlT
   go_wp2_with fail
   refine (CA.out _).mono ?_
   intro e w2 hgot
   obtain ⟨A,c,n,b1,rfl,hb2,hn,hnl,hcase⟩:=got_num hgot
   obtain ⟨w3,hw3⟩:∃ w3,w3=w2.alloc (.cells #[.int .i64 1] 3):=⟨_,rfl⟩
   have h23:Below w2.heap.size w2 w3:=by rw[hw3];exact (Below.refl _ _).alloc (Nat.le_refl _) _
   have hone3:RefN w3 (.slice (some ⟨w2.heap.size,0,none⟩) 1 1) 1:=ref_one (d:=1) (by rw[hw3];exact Row.new _ _ _) (by omega) (by omega)
   have CF:=Lib.hid (ref_Frac w3 true _ _ n 1 (hn.keep h23) hone3)
   obtain ⟨bs,hbs⟩:∃ bs,bs=(true && decide (n≠0)):=⟨_,rfl⟩
   rw[← hbs]at CF
   have HBS:=Lib.hid hbs
   have HW3:=Lib.hid hw3
   clear hn hone3 hw3 hbs hgot
   go_wp2_with fail
   rw[← HW3.out]
   refine CF.out.mono ?_
   rintro e w4 ⟨v,rfl,hv,hb4⟩
   have hv2:=hv.open_
   rw[show (tdg 1).length=1 by rw[tdg_one];rfl]at hv2
   obtain ⟨A3,c3,A4,c4,rfl,hx4,hy4,hs4⟩:=hv2
   have hb5:Below w4.heap.size w4 (w4.alloc (.cells #[.bool bs,.slice A3 (tdg n).length c3,.slice A4 1 c4] 35)):=(Below.refl _ _).alloc (Nat.le_refl _) _
   have y4:=below_seq hb2 (below_seq h23 hb4)
   have y5:=below_seq y4 hb5
   have B5:=hbr.trans (y5.mono hbr.size)
   have HR0:=Lib.hid (Row.keep hrow.out y5)
   have hlt4:Hid (w.heap.size<w4.heap.size):=Lib.hid (by have h1:=Row.lt hrow.out;have h2:=y4.size;omega)
   have HX5:=Lib.hid (RefN.keep hx4 hb5);have HY5:=Lib.hid (RefN.keep hy4 hb5);have HRG:=Lib.hid (Row.new w4 35 #[.bool bs,.slice A3 (tdg n).length c3,.slice A4 1 c4]);have HS4:=Lib.hid hs4
   clear CF hv hx4 hy4 hs4 HW3 hb4 h23 hb2 y4 y5 hb5 hrow
   have HCS:=Lib.hid hcase
   clear hcase CA
   cases b1
   ·obtain ⟨w9,hw9,hrow9,hb9,q0,q1,q2,f0,f1,f2⟩:=qno (tI:=3) (W:=(w4.alloc (.cells #[.bool bs,.slice A3 (tdg n).length c3,.slice A4 1 c4] 35))) (s:=w4.heap.size+1) (by simp) HR0.out B5 (Nat.le_refl _)
    have HW9:=Lib.hid hw9;have HR9:=Lib.hid hrow9
    have hno9:Hid (¬ FracGood ((45:UInt8) :: T)):=Lib.hid fun hgood=>by
     rcases HCS.out with ⟨_,h1⟩|⟨h1,_⟩
     ·exact h1 (HG1.out.1 hgood).1
     ·cases h1
    clear hw9 hrow9
    go_wp2_with fail
    rw[← HW9.out]
    refine bodyPost_ret (res_get w9 w.heap.size _ (.bool false) HR9.out rfl _ Tryz.results9 _ (by simp[go_sem]) (by simp[go_sem])) rfl ?_
    exact ⟨_,false,rfl,hb9,.inl ⟨rfl,hno9.out,_,rfl⟩⟩
   ·have hcase1:GoodNat T∧n=numOf 0 T:=by
     rcases HCS.out with ⟨h,_⟩|⟨_,h⟩
     ·cases h
     ·exact h
    obtain ⟨hga,hna⟩:=hcase1
    have HGA:=Lib.hid hga;have HNA:=Lib.hid hna
    clear HCS hga hna
    obtain ⟨bo,oo,hA4,hd4⟩:∃ bo oo,A4=some ⟨bo,oo,none⟩∧(w4.alloc (.cells #[.bool bs,.slice A3 (tdg n).length c3,.slice A4 1 c4] 35)).cell? ⟨bo,oo,none⟩=some (.int .i64 1):=by
     have h:=HY5.out
     unfold RefN at h
     rw[tdg_one]at h
     have h':Ints .i64 (w4.alloc (.cells #[.bool bs,.slice A3 (tdg n).length c3,.slice A4 1 c4] 35)) (.slice A4 ([1]:List Nat).length c4) [1]:=h
     obtain ⟨bo,oo,h1,h2⟩:=Ints.at_ h' 0 (by simp)
     exact ⟨bo,oo,h1,h2⟩
    subst hA4
    have hn0b:=tdg_len0 n
    by_cases hn0:n=0
    ·rw[decide_eq_true hn0]at hn0b
     have HN0:=Lib.hid hn0
     clear hn0
     obtain ⟨w9,hw9,hrow9,hb9,q0,q1,q2,f0,f1,f2⟩:=qno (tI:=3) (W:=(w4.alloc (.cells #[.bool bs,.slice A3 (tdg n).length c3,.slice (some ⟨bo,oo,none⟩) 1 c4] 35))) (s:=w4.heap.size+1) (by simp) HR0.out B5 (Nat.le_refl _)
     have HW9:=Lib.hid hw9;have HR9:=Lib.hid hrow9
     have hno9:Hid (¬ FracGood ((45:UInt8) :: T)):=Lib.hid fun hgood=>by
      exact (HG1.out.1 hgood).2 (by first|rfl|trivial) (by rw[← HNA.out];exact HN0.out)
     clear hw9 hrow9
     go_wp2_with fail
     rw[← HW9.out]
     refine bodyPost_ret (res_get w9 w.heap.size _ (.bool false) HR9.out rfl _ Tryz.results9 _ (by simp[go_sem]) (by simp[go_sem])) rfl ?_
     exact ⟨_,false,rfl,hb9,.inl ⟨rfl,hno9.out,_,rfl⟩⟩
    ·rw[decide_eq_false hn0]at hn0b
     have HN0:=Lib.hid hn0
     clear hn0
     obtain ⟨gg,hgg⟩:∃ gg,gg=Nat.gcd n 1:=⟨_,rfl⟩
     have hggl:(tdg gg).length≤100000:=by rw[hgg];exact Nat.le_trans (tdg_le (Nat.gcd_le_right _ (by first|omega|(have:=HD0.out;omega)))) (by first|omega|(rw[tdg_one];simp))
     have CGc0:=(ref_Gcd _ _ _ n 1 HX5.out HY5.out (by omega) (by first|omega|(rw[tdg_one];simp)))
     rw[← hgg]at CGc0
     have CGc:=Lib.hid CGc0
     have HGG:=Lib.hid hgg
     clear CGc0 hgg
     go_wp2_with fail
     refine CGc.out.mono ?_
     rintro e w7 ⟨z,rfl,hz,hb7⟩
     obtain ⟨w8,hw8⟩:∃ w8,w8=w7.alloc (.cells #[.int .i64 1] 3):=⟨_,rfl⟩
     have h78:Below w7.heap.size w7 w8:=by rw[hw8];exact (Below.refl _ _).alloc (Nat.le_refl _) _
     have hone8:RefN w8 (.slice (some ⟨w7.heap.size,0,none⟩) 1 1) 1:=ref_one (d:=1) (by rw[hw8];exact Row.new _ _ _) (by omega) (by omega)
     have y8:=below_seq hb7 h78
     have CC8:=ref_Cmp w8 _ _ gg 1 (hz.keep h78) hone8 (by omega) (by rw[tdg_one];simp)
     have hr8:=Row.keep HR0.out y8
     have hg8:=Row.keep HRG.out y8
     have hx8:=RefN.keep HX5.out y8
     have hy8:=RefN.keep HY5.out y8
     have B8:=B5.trans (y8.mono B5.size)
     have HW8:=Lib.hid hw8
     obtain ⟨A9,c9,rfl,_⟩:=hz.open_
     clear hw8 hone8 hz CGc hb7 h78
     rw[cmpI_eq (by rw[HGG.out];exact Nat.gcd_one_right _)]at CC8
     have CC9:=Lib.hid CC8
     obtain ⟨w9,hw9,hrow9,hq9,hb9,q0,q1,q2,f0,f1,f2⟩:=qyes (g:=w4.heap.size) (n:=n) (d:=1) hr8 B8 (Nat.le_refl _) hg8 hx8 hy8 HS4.out
     have HW9:=Lib.hid hw9;have HR9:=Lib.hid hrow9;have HQ9:=Lib.hid hq9;have HG8:=Lib.hid hg8
     clear hw9 hrow9 hq9 CC8 hr8 hg8 hx8 hy8
     go_wp2_with fail
     rw[← HW8.out]
     refine CC9.out.mono ?_
     rintro e w' ⟨rfl,rfl⟩
     go_wp2_with (refine wpList_load_row rfl 35 _ rfl w4.heap.size rfl 35 _ (0,0) _ HG8.out Tryz.underlying35 rfl hsz ?_)
     rw[← HW9.out]
     refine bodyPost_ret (res_get w9 w.heap.size _ (.bool true) HR9.out rfl _ Tryz.results9 _ (by simp[go_sem]) (by simp[go_sem])) rfl ?_
     refine ⟨_,true,rfl,hb9,.inr ⟨rfl,HG1.out.2 ⟨HGA.out,(fun _=>by rw[← HNA.out];exact HN0.out)⟩,_,n,1,HQ9.out,by omega,?_,hnl,by rw[tdg_one];simp⟩⟩
     rw[HG2.out,← HNA.out,HBS.out]
     rw[show (true && decide (n≠0))=true by simp[HN0.out]]
set_option maxRecDepth 100000 in
set_option maxHeartbeats 8000000 in
theorem ref_Get_pos (w:World) (c:UInt8) (r:List UInt8) (hc:c≠45) (hl:(c :: r).length≤9223372036854775807) :
 Calls Tryz.prog 9 #[.string ⟨(c :: r).toArray⟩] w (RefGotQ (c :: r) w):=by
 have hsz:(Tryz.prog.info? 35).map (·.size)=some 3:=by kernel_rfl
 obtain ⟨w0,hw0⟩:∃ w0,w0=w.alloc (.cells #[.bool false,.slice none 0 0,.slice none 0 0] 35):=⟨_,rfl⟩
 have r0:Hid (∀ n,Row (w0.drewN n) w.heap.size 35 #[.bool false,.slice none 0 0,.slice none 0 0]):=Lib.hid fun n=>by rw[hw0];exact Row.keep (Row.new _ _ _) (Below.drewN_ (Below.refl _ _) n)
 have b0:Hid (∀ n,Below w.heap.size w (w0.drewN n)):=Lib.hid fun n=>by rw[hw0];exact Below.drewN_ ((Below.refl _ _).alloc (Nat.le_refl _) _) n
 have W0:=Lib.hid hw0
 clear hw0
 obtain ⟨T,hT⟩:∃ T:List UInt8,T=c :: r:=⟨_,rfl⟩
 have hhT:Hid (T.head?≠some 45):=Lib.hid (by rw[hT];simpa using hc)
 have hTl:T.length≤9223372036854775807:=by rw[hT];exact hl
 obtain ⟨h0,hb⟩:∃ h0:0<(⟨T.toArray⟩:ByteArray).size,(((((⟨T.toArray⟩:ByteArray)[0]'h0).toNat:Int)) == 45)=false:=by
  subst hT
  refine ⟨by show 0<(c :: r).toArray.size;simp,?_⟩
  have h2:c.toNat≠45:=fun e=>hc (UInt8.toNat_inj.1 e)
  show ((c.toNat:Int) == 45)=false
  rw[beq_eq_false_iff_ne];omega
 have hne2:T.isEmpty=false:=by rw[hT];rfl
 have hT0:0<T.length:=by rw[hT];simp
 rw[← hT]
 clear hT hc hl
 go_enter Tryz.func9,Tryz.ntmps9
 go_wp2_with fail
 rw[← W0.out]
 go_quiet (fail)
 go_wp2_with fail
 clear hb
 have hlT:Hid (T=sgnT false T):=Lib.hid rfl
 go_loopw [6] (fun t6 wr=>∃ k:Nat,t6=.int .i64 k∧k≤T.length∧Hid (∀ j,j<k→T[j]?≠some 47)∧Hid (Row wr w.heap.size 35 #[.bool false,.slice none 0 0,.slice none 0 0])∧Below w.heap.size w wr) (fun t6 _=>T.length - (intOf t6).toNat)
 case atStart=>exact ⟨0,rfl,by omega,Lib.hid (fun j hj=>by omega),Lib.hid (r0.out _),b0.out _⟩
 case round=>
  clear r0 b0 W0
  obtain ⟨k,rfl,hk,hno,hrow,hbr⟩:=hrel
  obtain ⟨Sa,hSa⟩:∃ Sa,Sa=(⟨T.toArray⟩:ByteArray).extract 0 k:=⟨_,rfl⟩
  have CA:Hid (∀ wr,Calls Tryz.prog 40 #[.string Sa] wr (RefGot2 (T.take k) wr)):=Lib.hid fun wr=>by
   rw[hSa,take_bytes];exact ref_GetN3 wr _
  have ex1:=hSa.symm
  clear hSa
  by_cases hlt:k<T.length
  ·have hget:k<(⟨T.toArray⟩:ByteArray).size:=by show k<T.toArray.size;simp;omega
   obtain ⟨b,hbe⟩:∃ b,b=(⟨T.toArray⟩:ByteArray)[k]'hget:=⟨_,rfl⟩
   have hLm:Hid (T[k]?=some b):=Lib.hid (by rw[hbe,List.getElem?_eq_getElem (by omega)];rfl)
   obtain ⟨x,hxe⟩:∃ x:Nat,x=b.toNat:=⟨_,rfl⟩
   have hx:((((⟨T.toArray⟩:ByteArray)[k]'hget).toNat:Nat):Int)=(x:Int):=by rw[hxe,hbe]
   have HX:=Lib.hid hxe
   clear hbe hxe
   by_cases h47:x=47
   ·have hq:((x:Int) == 47)=true:=by rw[beq_iff_eq];omega
    have hst:=Lib.hid (stroke_at hno.out (by rw[hLm.out];exact congrArg some (UInt8.toNat_inj.1 (by rw[← HX.out,h47];rfl))))
    obtain ⟨Sb,hSb⟩:∃ Sb,Sb=(⟨T.toArray⟩:ByteArray).extract (k+1) T.length:=⟨_,rfl⟩
    have CBb:Hid (∀ wr,Calls Tryz.prog 40 #[.string Sb] wr (RefGot2 (T.drop (k+1)) wr)):=Lib.hid fun wr=>by
     rw[hSb,bytes_drop _ _ _ rfl];exact ref_GetN3 wr _
    have ex2:=hSb.symm
    obtain ⟨G1,G2⟩:(FracGood T↔GoodNat (T.take k)∧GoodNat (T.drop (k+1))∧numOf 0 (T.drop (k+1))≠0∧numOf 0 (T.drop (k+1))≠1∧(false=true→numOf 0 (T.take k)≠0)∧Nat.gcd (numOf 0 (T.take k)) (numOf 0 (T.drop (k+1)))=1)∧fracOf T=quo false (numOf 0 (T.take k)) (numOf 0 (T.drop (k+1))):=by
     have h:=good_found (neg:=false) (a:=T.take k) (b:=T.drop (k+1)) hst.out.1 (by rw[← hst.out.2];exact (fun _=>hhT.out))
     rw[← hst.out.2]at h
     exact h
    have HG1:=Lib.hid G1;have HG2:=Lib.hid G2
    clear h47 hLm HX hno hSb G1 G2 hst hhT hlT
    go_wp2_with fail
    refine (CA.out _).mono ?_
    intro e w2 hgot
    obtain ⟨A,c,n,b1,rfl,hb2,hn,hnl,hcase⟩:=got_num hgot
    obtain ⟨w3,hw3⟩:∃ w3,w3=w2.alloc (.cells #[.int .i64 1] 3):=⟨_,rfl⟩
    have h23:Below w2.heap.size w2 w3:=by rw[hw3];exact (Below.refl _ _).alloc (Nat.le_refl _) _
    have hone3:RefN w3 (.slice (some ⟨w2.heap.size,0,none⟩) 1 1) 1:=ref_one (d:=1) (by rw[hw3];exact Row.new _ _ _) (by omega) (by omega)
    have CF:=Lib.hid (ref_Frac w3 false _ _ n 1 (hn.keep h23) hone3)
    obtain ⟨bs,hbs⟩:∃ bs,bs=(false && decide (n≠0)):=⟨_,rfl⟩
    rw[← hbs]at CF
    have HBS:=Lib.hid hbs
    have HW3:=Lib.hid hw3
    clear hn hone3 hw3 hbs hgot
    go_wp2_with fail
    rw[← HW3.out]
    refine CF.out.mono ?_
    rintro e w4 ⟨v,rfl,hv,hb4⟩
    have hv2:=hv.open_
    rw[show (tdg 1).length=1 by rw[tdg_one];rfl]at hv2
    obtain ⟨A3,c3,A4,c4,rfl,hx4,hy4,hs4⟩:=hv2
    have hb5:Below w4.heap.size w4 (w4.alloc (.cells #[.bool bs,.slice A3 (tdg n).length c3,.slice A4 1 c4] 35)):=(Below.refl _ _).alloc (Nat.le_refl _) _
    have y4:=below_seq hb2 (below_seq h23 hb4)
    have y5:=below_seq y4 hb5
    have B5:=hbr.trans (y5.mono hbr.size)
    have HR0:=Lib.hid (Row.keep hrow.out y5)
    have hlt4:Hid (w.heap.size<w4.heap.size):=Lib.hid (by have h1:=Row.lt hrow.out;have h2:=y4.size;omega)
    have HX5:=Lib.hid (RefN.keep hx4 hb5);have HY5:=Lib.hid (RefN.keep hy4 hb5);have HRG:=Lib.hid (Row.new w4 35 #[.bool bs,.slice A3 (tdg n).length c3,.slice A4 1 c4]);have HS4:=Lib.hid hs4
    clear CF hv hx4 hy4 hs4 HW3 hb4 h23 hb2 y4 y5 hb5 hrow
    have HCS:=Lib.hid hcase
    clear hcase
    cases b1
    ·obtain ⟨w9,hw9,hrow9,hb9,q0,q1,q2,f0,f1,f2⟩:=qno (tI:=3) (W:=(w4.alloc (.cells #[.bool bs,.slice A3 (tdg n).length c3,.slice A4 1 c4] 35))) (s:=w4.heap.size+1) (by simp) HR0.out B5 (Nat.le_refl _)
     have HW9:=Lib.hid hw9;have HR9:=Lib.hid hrow9
     have hno9:Hid (¬ FracGood T):=Lib.hid fun hgood=>by
      rcases HCS.out with ⟨_,h1⟩|⟨h1,_⟩
      ·exact h1 (HG1.out.1 hgood).1
      ·cases h1
     clear hw9 hrow9
     go_wp2_with fail
     rw[← HW9.out]
     refine bodyPost_ret (res_get w9 w.heap.size _ (.bool false) HR9.out rfl _ Tryz.results9 _ (by simp[go_sem]) (by simp[go_sem])) rfl ?_
     exact ⟨_,false,rfl,hb9,.inl ⟨rfl,hno9.out,_,rfl⟩⟩
    ·have hcase1:GoodNat (T.take k)∧n=numOf 0 (T.take k):=by
      rcases HCS.out with ⟨h,_⟩|⟨_,h⟩
      ·cases h
      ·exact h
     obtain ⟨hga,hna⟩:=hcase1
     have HGA:=Lib.hid hga;have HNA:=Lib.hid hna
     clear HCS hga hna
     go_wp2_with fail
     refine (CBb.out _).mono ?_
     intro e w6 hgot
     obtain ⟨A6,c6,d,b2,rfl,hb6,hd6,hdl,hcase⟩:=got_num hgot
     have hg6:=Row.keep HRG.out hb6
     have hO7:Only w4.heap.size w6 (w6.setCell ⟨w4.heap.size,2,none⟩ (.slice A6 (tdg d).length c6)):=(Only.refl _ _).setCell 2 _
     have hcs:=qrow_far bs (.slice A3 (tdg n).length c3) (.slice A4 1 c4) (fun _ _ h=>by cases h) (fun _ _ h=>by cases h)
     have HXn:Hid (RefN (w6.setCell ⟨w4.heap.size,2,none⟩ (.slice A6 (tdg d).length c6)) (.slice A3 (tdg n).length c3) n):=Lib.hid (Ints.rowfar (HX5.out.keep hb6) hg6 (hcs _) hO7)
     have HYd:Hid (RefN (w6.setCell ⟨w4.heap.size,2,none⟩ (.slice A6 (tdg d).length c6)) (.slice A6 (tdg d).length c6) d):=Lib.hid (Ints.rowfar hd6 hg6 (hcs _) hO7)
     have HRG7:Hid (Row (w6.setCell ⟨w4.heap.size,2,none⟩ (.slice A6 (tdg d).length c6)) w4.heap.size 35 #[.bool bs,.slice A3 (tdg n).length c3,.slice A6 (tdg d).length c6]):=Lib.hid (Row.set hg6 2 _)
     have hr06:=Row.keep HR0.out hb6
     have HR07:Hid (Row (w6.setCell ⟨w4.heap.size,2,none⟩ (.slice A6 (tdg d).length c6)) w.heap.size 35 #[.bool false,.slice none 0 0,.slice none 0 0]):=Lib.hid (hr06.far (p:=⟨w4.heap.size,2,none⟩) (by have:=hlt4.out;show w.heap.size≠w4.heap.size;omega) _)
     have B6:=B5.trans (hb6.mono B5.size)
     have B7:Below w.heap.size w (w6.setCell ⟨w4.heap.size,2,none⟩ (.slice A6 (tdg d).length c6)):=B6.trans (hO7.below (Nat.le_of_lt hlt4.out))
     have q62:=hg6.cell 2;have f62:=hg6.free 2
     have g70:=HRG7.out.cell 0;have g71:=HRG7.out.cell 1;have g72:=HRG7.out.cell 2
     have HCS:=Lib.hid hcase
     clear hcase hg6 hO7 hcs hd6 hr06 CBb CA
     cases b2
     ·obtain ⟨w9,hw9,hrow9,hb9,q0,q1,q2,f0,f1,f2⟩:=qno (tI:=3) (W:=(w6.setCell ⟨w4.heap.size,2,none⟩ (.slice A6 (tdg d).length c6))) (s:=w6.heap.size) (by simp) HR07.out B7 (Nat.le_refl _)
      have HW9:=Lib.hid hw9;have HR9:=Lib.hid hrow9
      have hno9:Hid (¬ FracGood T):=Lib.hid fun hgood=>by
       rcases HCS.out with ⟨_,h1⟩|⟨h1,_⟩
       ·exact h1 (HG1.out.1 hgood).2.1
       ·cases h1
      clear hw9 hrow9
      go_wp2_with fail
      rw[← HW9.out]
      refine bodyPost_ret (res_get w9 w.heap.size _ (.bool false) HR9.out rfl _ Tryz.results9 _ (by simp[go_sem]) (by simp[go_sem])) rfl ?_
      exact ⟨_,false,rfl,hb9,.inl ⟨rfl,hno9.out,_,rfl⟩⟩
     ·have hcase1:GoodNat (T.drop (k+1))∧d=numOf 0 (T.drop (k+1)):=by
       rcases HCS.out with ⟨h,_⟩|⟨_,h⟩
       ·cases h
       ·exact h
      obtain ⟨hgb,hnb⟩:=hcase1
      have HGB:=Lib.hid hgb;have HNB:=Lib.hid hnb
      clear HCS hgb hnb
      by_cases hd0:d=0
      ·have hpos:¬ (0:Int)<(((tdg d).length:Nat):Int):=by rw[hd0,tdg_zero];simp
       have HD0:=Lib.hid hd0
       clear hd0
       obtain ⟨w9,hw9,hrow9,hb9,q0,q1,q2,f0,f1,f2⟩:=qno (tI:=3) (W:=(w6.setCell ⟨w4.heap.size,2,none⟩ (.slice A6 (tdg d).length c6))) (s:=w6.heap.size) (by simp) HR07.out B7 (Nat.le_refl _)
       have HW9:=Lib.hid hw9;have HR9:=Lib.hid hrow9
       have hno9:Hid (¬ FracGood T):=Lib.hid fun hgood=>by
        exact (HG1.out.1 hgood).2.2.1 (by rw[← HNB.out];exact HD0.out)
       clear hw9 hrow9
       go_wp2_with fail
       rw[← HW9.out]
       refine bodyPost_ret (res_get w9 w.heap.size _ (.bool false) HR9.out rfl _ Tryz.results9 _ (by simp[go_sem]) (by simp[go_sem])) rfl ?_
       exact ⟨_,false,rfl,hb9,.inl ⟨rfl,hno9.out,_,rfl⟩⟩
      ·have hpos:(0:Int)<(((tdg d).length:Nat):Int):=by have:=tdg_pos hd0;omega
       have HD0:Hid (d≠0):=Lib.hid hd0
       have hkT:(k:Int)<(T.length:Int):=by omega
       clear hd0
       by_cases hl1:(tdg d).length=1
       ·have l1:((((tdg d).length:Nat):Int) == 1)=true:=by rw[beq_iff_eq];omega
        obtain ⟨bo,oo,hA6,hd6⟩:=Ints.at_ HYd.out 0 (by omega)
        rw[tdg_single hl1]at hd6
        subst hA6
        have hd6':(w6.setCell ⟨w4.heap.size,2,none⟩ (.slice (some ⟨bo,oo,none⟩) (tdg d).length c6)).cell? ⟨bo,oo,none⟩=some (.int .i64 ((d:Nat):Int)):=hd6
        clear hd6
        by_cases hd1:d=1
        ·have hdb:(((d:Nat):Int) == 1)=true:=by rw[beq_iff_eq];omega
         have HD1:=Lib.hid hd1
         clear hd1 hl1
         obtain ⟨w9,hw9,hrow9,hb9,q0,q1,q2,f0,f1,f2⟩:=qno (tI:=3) (W:=(w6.setCell ⟨w4.heap.size,2,none⟩ (.slice (some ⟨bo,oo,none⟩) (tdg d).length c6))) (s:=w6.heap.size) (by simp) HR07.out B7 (Nat.le_refl _)
         have HW9:=Lib.hid hw9;have HR9:=Lib.hid hrow9
         have hno9:Hid (¬ FracGood T):=Lib.hid fun hgood=>by
          exact (HG1.out.1 hgood).2.2.2.1 (by rw[← HNB.out];exact HD1.out)
         clear hw9 hrow9
         go_wp2_with fail
         rw[← HW9.out]
         refine bodyPost_ret (res_get w9 w.heap.size _ (.bool false) HR9.out rfl _ Tryz.results9 _ (by simp[go_sem]) (by simp[go_sem])) rfl ?_
         exact ⟨_,false,rfl,hb9,.inl ⟨rfl,hno9.out,_,rfl⟩⟩
        ·have hdb:(((d:Nat):Int) == 1)=false:=by rw[beq_eq_false_iff_ne];omega
         have HD1:Hid (d≠1):=Lib.hid hd1
         clear hd1 hl1
         obtain ⟨gg,hgg⟩:∃ gg,gg=Nat.gcd n d:=⟨_,rfl⟩
         have hggl:(tdg gg).length≤100000:=by rw[hgg];exact Nat.le_trans (tdg_le (Nat.gcd_le_right _ (by first|omega|(have:=HD0.out;omega)))) (by first|omega|(rw[tdg_one];simp))
         have CGc0:=(ref_Gcd (w6.setCell ⟨w4.heap.size,2,none⟩ (.slice (some ⟨bo,oo,none⟩) (tdg d).length c6)) _ _ n d HXn.out HYd.out (by omega) (by first|omega|(rw[tdg_one];simp)))
         rw[← hgg]at CGc0
         have CGc:=Lib.hid CGc0
         have HGG:=Lib.hid hgg
         clear CGc0 hgg
         go_wp2_with fail
         refine CGc.out.mono ?_
         rintro e w7 ⟨z,rfl,hz,hb7⟩
         obtain ⟨w8,hw8⟩:∃ w8,w8=w7.alloc (.cells #[.int .i64 1] 3):=⟨_,rfl⟩
         have h78:Below w7.heap.size w7 w8:=by rw[hw8];exact (Below.refl _ _).alloc (Nat.le_refl _) _
         have hone8:RefN w8 (.slice (some ⟨w7.heap.size,0,none⟩) 1 1) 1:=ref_one (d:=1) (by rw[hw8];exact Row.new _ _ _) (by omega) (by omega)
         have y8:=below_seq hb7 h78
         have CC8:=ref_Cmp w8 _ _ gg 1 (hz.keep h78) hone8 (by omega) (by rw[tdg_one];simp)
         have hr8:=Row.keep HR07.out y8
         have hg8:=Row.keep HRG7.out y8
         have hx8:=RefN.keep HXn.out y8
         have hy8:=RefN.keep HYd.out y8
         have B8:=B7.trans (y8.mono B7.size)
         have HW8:=Lib.hid hw8
         obtain ⟨A9,c9,rfl,_⟩:=hz.open_
         clear hw8 hone8 hz CGc hb7 h78
         by_cases hG1:gg=1
         ·rw[cmpI_eq hG1]at CC8
          have HG11:=Lib.hid hG1
          clear hG1
          have CC9:=Lib.hid CC8
          obtain ⟨w9,hw9,hrow9,hq9,hb9,q0,q1,q2,f0,f1,f2⟩:=qyes (g:=w4.heap.size) (n:=n) (d:=d) hr8 B8 (Nat.le_refl _) hg8 hx8 hy8 HS4.out
          have HW9:=Lib.hid hw9;have HR9:=Lib.hid hrow9;have HQ9:=Lib.hid hq9;have HG8:=Lib.hid hg8
          clear hw9 hrow9 hq9 CC8 hr8 hg8 hx8 hy8
          go_wp2_with fail
          rw[← HW8.out]
          refine CC9.out.mono ?_
          rintro e w' ⟨rfl,rfl⟩
          go_wp2_with (refine wpList_load_row rfl 35 _ rfl w4.heap.size rfl 35 _ (0,0) _ HG8.out Tryz.underlying35 rfl hsz ?_)
          rw[← HW9.out]
          refine bodyPost_ret (res_get w9 w.heap.size _ (.bool true) HR9.out rfl _ Tryz.results9 _ (by simp[go_sem]) (by simp[go_sem])) rfl ?_
          refine ⟨_,true,rfl,hb9,.inr ⟨rfl,HG1.out.2 ⟨HGA.out,HGB.out,by rw[← HNB.out];exact HD0.out,by rw[← HNB.out];exact HD1.out,(fun h=>by cases h),by rw[← HNA.out,← HNB.out,← HGG.out];exact HG11.out⟩,_,n,d,HQ9.out,HD0.out,?_,hnl,hdl⟩⟩
          rw[HG2.out,← HNA.out,← HNB.out,HBS.out]
          rfl
         ·rw[cmpI_gt (show 1<gg by have h1:=HGG.out;have:=Nat.gcd_pos_of_pos_right n (show 0<d by first|omega|(have:=HD0.out;omega));omega)]at CC8
          have CC9:=Lib.hid CC8
          have HG11:=Lib.hid hG1
          clear CC8 hG1
          obtain ⟨w9,hw9,hrow9,hb9,q0,q1,q2,f0,f1,f2⟩:=qno (tI:=3) (W:=w8) (s:=w8.heap.size) (by simp) hr8 B8 (Nat.le_refl _)
          have HW9:=Lib.hid hw9;have HR9:=Lib.hid hrow9
          have hno9:Hid (¬ FracGood T):=Lib.hid fun hgood=>by
           exact HG11.out (by rw[HGG.out,HNA.out,HNB.out];exact (HG1.out.1 hgood).2.2.2.2.2)
          clear hw9 hrow9
          go_wp2_with fail
          rw[← HW8.out]
          refine CC9.out.mono ?_
          rintro e w' ⟨rfl,rfl⟩
          go_wp2_with fail
          rw[← HW9.out]
          refine bodyPost_ret (res_get w9 w.heap.size _ (.bool false) HR9.out rfl _ Tryz.results9 _ (by simp[go_sem]) (by simp[go_sem])) rfl ?_
          exact ⟨_,false,rfl,hb9,.inl ⟨rfl,hno9.out,_,rfl⟩⟩
       ·have l1:((((tdg d).length:Nat):Int) == 1)=false:=by rw[beq_eq_false_iff_ne];omega
        have HD1:Hid (d≠1):=Lib.hid (fun e=>hl1 (by rw[e,tdg_one];rfl))
        clear hl1
        obtain ⟨gg,hgg⟩:∃ gg,gg=Nat.gcd n d:=⟨_,rfl⟩
        have hggl:(tdg gg).length≤100000:=by rw[hgg];exact Nat.le_trans (tdg_le (Nat.gcd_le_right _ (by first|omega|(have:=HD0.out;omega)))) (by first|omega|(rw[tdg_one];simp))
        have CGc0:=(ref_Gcd (w6.setCell ⟨w4.heap.size,2,none⟩ (.slice A6 (tdg d).length c6)) _ _ n d HXn.out HYd.out (by omega) (by first|omega|(rw[tdg_one];simp)))
        rw[← hgg]at CGc0
        have CGc:=Lib.hid CGc0
        have HGG:=Lib.hid hgg
        clear CGc0 hgg
        go_wp2_with fail
        refine CGc.out.mono ?_
        rintro e w7 ⟨z,rfl,hz,hb7⟩
        obtain ⟨w8,hw8⟩:∃ w8,w8=w7.alloc (.cells #[.int .i64 1] 3):=⟨_,rfl⟩
        have h78:Below w7.heap.size w7 w8:=by rw[hw8];exact (Below.refl _ _).alloc (Nat.le_refl _) _
        have hone8:RefN w8 (.slice (some ⟨w7.heap.size,0,none⟩) 1 1) 1:=ref_one (d:=1) (by rw[hw8];exact Row.new _ _ _) (by omega) (by omega)
        have y8:=below_seq hb7 h78
        have CC8:=ref_Cmp w8 _ _ gg 1 (hz.keep h78) hone8 (by omega) (by rw[tdg_one];simp)
        have hr8:=Row.keep HR07.out y8
        have hg8:=Row.keep HRG7.out y8
        have hx8:=RefN.keep HXn.out y8
        have hy8:=RefN.keep HYd.out y8
        have B8:=B7.trans (y8.mono B7.size)
        have HW8:=Lib.hid hw8
        obtain ⟨A9,c9,rfl,_⟩:=hz.open_
        clear hw8 hone8 hz CGc hb7 h78
        by_cases hG1:gg=1
        ·rw[cmpI_eq hG1]at CC8
         have HG11:=Lib.hid hG1
         clear hG1
         have CC9:=Lib.hid CC8
         obtain ⟨w9,hw9,hrow9,hq9,hb9,q0,q1,q2,f0,f1,f2⟩:=qyes (g:=w4.heap.size) (n:=n) (d:=d) hr8 B8 (Nat.le_refl _) hg8 hx8 hy8 HS4.out
         have HW9:=Lib.hid hw9;have HR9:=Lib.hid hrow9;have HQ9:=Lib.hid hq9;have HG8:=Lib.hid hg8
         clear hw9 hrow9 hq9 CC8 hr8 hg8 hx8 hy8
         go_wp2_with fail
         rw[← HW8.out]
         refine CC9.out.mono ?_
         rintro e w' ⟨rfl,rfl⟩
         go_wp2_with (refine wpList_load_row rfl 35 _ rfl w4.heap.size rfl 35 _ (0,0) _ HG8.out Tryz.underlying35 rfl hsz ?_)
         rw[← HW9.out]
         refine bodyPost_ret (res_get w9 w.heap.size _ (.bool true) HR9.out rfl _ Tryz.results9 _ (by simp[go_sem]) (by simp[go_sem])) rfl ?_
         refine ⟨_,true,rfl,hb9,.inr ⟨rfl,HG1.out.2 ⟨HGA.out,HGB.out,by rw[← HNB.out];exact HD0.out,by rw[← HNB.out];exact HD1.out,(fun h=>by cases h),by rw[← HNA.out,← HNB.out,← HGG.out];exact HG11.out⟩,_,n,d,HQ9.out,HD0.out,?_,hnl,hdl⟩⟩
         rw[HG2.out,← HNA.out,← HNB.out,HBS.out]
         rfl
        ·rw[cmpI_gt (show 1<gg by have h1:=HGG.out;have:=Nat.gcd_pos_of_pos_right n (show 0<d by first|omega|(have:=HD0.out;omega));omega)]at CC8
         have CC9:=Lib.hid CC8
         have HG11:=Lib.hid hG1
         clear CC8 hG1
         obtain ⟨w9,hw9,hrow9,hb9,q0,q1,q2,f0,f1,f2⟩:=qno (tI:=3) (W:=w8) (s:=w8.heap.size) (by simp) hr8 B8 (Nat.le_refl _)
         have HW9:=Lib.hid hw9;have HR9:=Lib.hid hrow9
         have hno9:Hid (¬ FracGood T):=Lib.hid fun hgood=>by
          exact HG11.out (by rw[HGG.out,HNA.out,HNB.out];exact (HG1.out.1 hgood).2.2.2.2.2)
         clear hw9 hrow9
         go_wp2_with fail
         rw[← HW8.out]
         refine CC9.out.mono ?_
         rintro e w' ⟨rfl,rfl⟩
         go_wp2_with fail
         rw[← HW9.out]
         refine bodyPost_ret (res_get w9 w.heap.size _ (.bool false) HR9.out rfl _ Tryz.results9 _ (by simp[go_sem]) (by simp[go_sem])) rfl ?_
         exact ⟨_,false,rfl,hb9,.inl ⟨rfl,hno9.out,_,rfl⟩⟩
   ·have hq:((x:Int) == 47)=false:=by rw[beq_eq_false_iff_ne];omega
    have hno2:Hid (∀ j,j<k+1→T[j]?≠some 47):=Lib.hid fun j hj=>by
     by_cases e:j=k
     ·subst e;rw[hLm.out];intro h;injection h with h;rw[HX.out,h]at h47;exact h47 rfl
     ·exact hno.out j (by omega)
    clear h47 hno hLm HX CA
    go_wp2_with fail
    go_roundw
    case rel=>exact ⟨k+1,by go_num,by omega,hno2,hrow,hbr⟩
    case measure=>simp[intOf];omega
  ·obtain rfl:k=T.length:=by omega
   obtain ⟨G1,G2⟩:=good_whole (neg:=false) (a:=T) (no_stroke hno.out) (fun _=>hhT.out)
   have HG1:Hid (FracGood T↔GoodNat T∧(false=true→numOf 0 T≠0)):=Lib.hid G1
   have HG2:Hid (fracOf T=quo false (numOf 0 T) 1):=Lib.hid G2
   rw[List.take_length]at CA
   clear hno hhT G1 G2 hlT
   go_wp2_with fail
   refine (CA.out _).mono ?_
   intro e w2 hgot
   obtain ⟨A,c,n,b1,rfl,hb2,hn,hnl,hcase⟩:=got_num hgot
   obtain ⟨w3,hw3⟩:∃ w3,w3=w2.alloc (.cells #[.int .i64 1] 3):=⟨_,rfl⟩
   have h23:Below w2.heap.size w2 w3:=by rw[hw3];exact (Below.refl _ _).alloc (Nat.le_refl _) _
   have hone3:RefN w3 (.slice (some ⟨w2.heap.size,0,none⟩) 1 1) 1:=ref_one (d:=1) (by rw[hw3];exact Row.new _ _ _) (by omega) (by omega)
   have CF:=Lib.hid (ref_Frac w3 false _ _ n 1 (hn.keep h23) hone3)
   obtain ⟨bs,hbs⟩:∃ bs,bs=(false && decide (n≠0)):=⟨_,rfl⟩
   rw[← hbs]at CF
   have HBS:=Lib.hid hbs
   have HW3:=Lib.hid hw3
   clear hn hone3 hw3 hbs hgot
   go_wp2_with fail
   rw[← HW3.out]
   refine CF.out.mono ?_
   rintro e w4 ⟨v,rfl,hv,hb4⟩
   have hv2:=hv.open_
   rw[show (tdg 1).length=1 by rw[tdg_one];rfl]at hv2
   obtain ⟨A3,c3,A4,c4,rfl,hx4,hy4,hs4⟩:=hv2
   have hb5:Below w4.heap.size w4 (w4.alloc (.cells #[.bool bs,.slice A3 (tdg n).length c3,.slice A4 1 c4] 35)):=(Below.refl _ _).alloc (Nat.le_refl _) _
   have y4:=below_seq hb2 (below_seq h23 hb4)
   have y5:=below_seq y4 hb5
   have B5:=hbr.trans (y5.mono hbr.size)
   have HR0:=Lib.hid (Row.keep hrow.out y5)
   have hlt4:Hid (w.heap.size<w4.heap.size):=Lib.hid (by have h1:=Row.lt hrow.out;have h2:=y4.size;omega)
   have HX5:=Lib.hid (RefN.keep hx4 hb5);have HY5:=Lib.hid (RefN.keep hy4 hb5);have HRG:=Lib.hid (Row.new w4 35 #[.bool bs,.slice A3 (tdg n).length c3,.slice A4 1 c4]);have HS4:=Lib.hid hs4
   clear CF hv hx4 hy4 hs4 HW3 hb4 h23 hb2 y4 y5 hb5 hrow
   have HCS:=Lib.hid hcase
   clear hcase CA
   cases b1
   ·obtain ⟨w9,hw9,hrow9,hb9,q0,q1,q2,f0,f1,f2⟩:=qno (tI:=3) (W:=(w4.alloc (.cells #[.bool bs,.slice A3 (tdg n).length c3,.slice A4 1 c4] 35))) (s:=w4.heap.size+1) (by simp) HR0.out B5 (Nat.le_refl _)
    have HW9:=Lib.hid hw9;have HR9:=Lib.hid hrow9
    have hno9:Hid (¬ FracGood T):=Lib.hid fun hgood=>by
     rcases HCS.out with ⟨_,h1⟩|⟨h1,_⟩
     ·exact h1 (HG1.out.1 hgood).1
     ·cases h1
    clear hw9 hrow9
    go_wp2_with fail
    rw[← HW9.out]
    refine bodyPost_ret (res_get w9 w.heap.size _ (.bool false) HR9.out rfl _ Tryz.results9 _ (by simp[go_sem]) (by simp[go_sem])) rfl ?_
    exact ⟨_,false,rfl,hb9,.inl ⟨rfl,hno9.out,_,rfl⟩⟩
   ·have hcase1:GoodNat T∧n=numOf 0 T:=by
     rcases HCS.out with ⟨h,_⟩|⟨_,h⟩
     ·cases h
     ·exact h
    obtain ⟨hga,hna⟩:=hcase1
    have HGA:=Lib.hid hga;have HNA:=Lib.hid hna
    clear HCS hga hna
    obtain ⟨bo,oo,hA4,hd4⟩:∃ bo oo,A4=some ⟨bo,oo,none⟩∧(w4.alloc (.cells #[.bool bs,.slice A3 (tdg n).length c3,.slice A4 1 c4] 35)).cell? ⟨bo,oo,none⟩=some (.int .i64 1):=by
     have h:=HY5.out
     unfold RefN at h
     rw[tdg_one]at h
     have h':Ints .i64 (w4.alloc (.cells #[.bool bs,.slice A3 (tdg n).length c3,.slice A4 1 c4] 35)) (.slice A4 ([1]:List Nat).length c4) [1]:=h
     obtain ⟨bo,oo,h1,h2⟩:=Ints.at_ h' 0 (by simp)
     exact ⟨bo,oo,h1,h2⟩
    subst hA4
    have hn0b:=tdg_len0 n
    clear hn0b
    obtain ⟨gg,hgg⟩:∃ gg,gg=Nat.gcd n 1:=⟨_,rfl⟩
    have hggl:(tdg gg).length≤100000:=by rw[hgg];exact Nat.le_trans (tdg_le (Nat.gcd_le_right _ (by first|omega|(have:=HD0.out;omega)))) (by first|omega|(rw[tdg_one];simp))
    have CGc0:=(ref_Gcd _ _ _ n 1 HX5.out HY5.out (by omega) (by first|omega|(rw[tdg_one];simp)))
    rw[← hgg]at CGc0
    have CGc:=Lib.hid CGc0
    have HGG:=Lib.hid hgg
    clear CGc0 hgg
    go_wp2_with fail
    refine CGc.out.mono ?_
    rintro e w7 ⟨z,rfl,hz,hb7⟩
    obtain ⟨w8,hw8⟩:∃ w8,w8=w7.alloc (.cells #[.int .i64 1] 3):=⟨_,rfl⟩
    have h78:Below w7.heap.size w7 w8:=by rw[hw8];exact (Below.refl _ _).alloc (Nat.le_refl _) _
    have hone8:RefN w8 (.slice (some ⟨w7.heap.size,0,none⟩) 1 1) 1:=ref_one (d:=1) (by rw[hw8];exact Row.new _ _ _) (by omega) (by omega)
    have y8:=below_seq hb7 h78
    have CC8:=ref_Cmp w8 _ _ gg 1 (hz.keep h78) hone8 (by omega) (by rw[tdg_one];simp)
    have hr8:=Row.keep HR0.out y8
    have hg8:=Row.keep HRG.out y8
    have hx8:=RefN.keep HX5.out y8
    have hy8:=RefN.keep HY5.out y8
    have B8:=B5.trans (y8.mono B5.size)
    have HW8:=Lib.hid hw8
    obtain ⟨A9,c9,rfl,_⟩:=hz.open_
    clear hw8 hone8 hz CGc hb7 h78
    rw[cmpI_eq (by rw[HGG.out];exact Nat.gcd_one_right _)]at CC8
    have CC9:=Lib.hid CC8
    obtain ⟨w9,hw9,hrow9,hq9,hb9,q0,q1,q2,f0,f1,f2⟩:=qyes (g:=w4.heap.size) (n:=n) (d:=1) hr8 B8 (Nat.le_refl _) hg8 hx8 hy8 HS4.out
    have HW9:=Lib.hid hw9;have HR9:=Lib.hid hrow9;have HQ9:=Lib.hid hq9;have HG8:=Lib.hid hg8
    clear hw9 hrow9 hq9 CC8 hr8 hg8 hx8 hy8
    go_wp2_with fail
    rw[← HW8.out]
    refine CC9.out.mono ?_
    rintro e w' ⟨rfl,rfl⟩
    go_wp2_with (refine wpList_load_row rfl 35 _ rfl w4.heap.size rfl 35 _ (0,0) _ HG8.out Tryz.underlying35 rfl hsz ?_)
    rw[← HW9.out]
    refine bodyPost_ret (res_get w9 w.heap.size _ (.bool true) HR9.out rfl _ Tryz.results9 _ (by simp[go_sem]) (by simp[go_sem])) rfl ?_
    refine ⟨_,true,rfl,hb9,.inr ⟨rfl,HG1.out.2 ⟨HGA.out,(fun h=>by cases h)⟩,_,n,1,HQ9.out,by omega,?_,hnl,by rw[tdg_one];simp⟩⟩
    rw[HG2.out,← HNA.out,HBS.out]
    rfl
theorem ref_Get (w:World) (l:List UInt8) (hl:l.length≤9223372036854775807) :
 Calls Tryz.prog 9 #[.string ⟨l.toArray⟩] w (RefGotQ l w):=by
 rcases l with _|⟨c,r⟩
 ·exact ref_Get_nil w
 ·by_cases hc:c=45
  ·subst hc;exact ref_Get_neg w r hl
  ·exact ref_Get_pos w c r hc hl
end Go.Proofs.YtehbhghbagaliaaGreatDoor
