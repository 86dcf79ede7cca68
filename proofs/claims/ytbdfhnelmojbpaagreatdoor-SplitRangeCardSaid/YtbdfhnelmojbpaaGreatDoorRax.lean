/- Package frac: sign, products, sums, quotients. -/
import Derived.Test.YtbdfhnelmojbpaaGreatDoorRaw
import Derived.Test.YtbdfhnelmojbpaaGreatDoorRap
import Derived.Shelf.Strconv.AtoiAll
import Derived.Lib.Case
import Derived.Test.YtbdfhnelmojbpaaGreatDoorRat
import Derived.Deep.LoopGhost
import Derived.Test.YtbdfhnelmojbpaaGreatDoorShelf
import Derived.Lib.ConvBytes
import Derived.Deep.QuietTactic
import Derived.BigQuiet
set_option linter.unusedVariables false
set_option linter.unusedSimpArgs false
section
namespace Vic
open Go Go.RowKit
theorem sgn_add_abs (p q:Bool) (a b s:Nat) (r:Bool) (h:sgn r s=sgn p a+sgn q b):s≤a+b:=by
 have h1:=congrArg Int.natAbs h
 rw[sgn_natAbs]at h1
 have h2:=Int.natAbs_add_le (sgn p a) (sgn q b)
 rw[sgn_natAbs,sgn_natAbs]at h2
 omega
def SumOf (p:Bool) (a:Nat) (q:Bool) (b:Nat) (w:World) (e:Ending) (w':World):Prop:=
 ∃ r x s,e=.returned (.tuple #[.bool r,x])∧NatAt w' x s∧sgn r s=sgn p a+sgn q b∧Below w.heap.size w w'
def signI (q:Rat):Int:=if q.num<0 then -1 else if q.num=0 then 0 else 1
end Vic
namespace Go.Proofs.YtbdfhnelmojbpaaGreatDoor
open Go.RowKit Vic
theorem frac_Sign (w:World) (v:Value) (q:Rat) (h:FracAt w v q) (hf:Fits 1000000000 q):Calls Tryz.prog 100 #[v] w (Keeps (.int .i64 (signI q)) w):=by
 have CP:=Lib.hid (frac_Parts w v q h)
 unfold PartsOf at CP
 obtain ⟨s,hs⟩:∃ s,s=signI q:=⟨_,rfl⟩
 rw[← hs]
 have HS:=Lib.hid hs
 have HF:=Lib.hid hf.1
 clear hs hf h
 go_enter Tryz.func100,Tryz.ntmps100
 go_wp2_with fail
 refine CP.out.mono ?_
 rintro e w1 ⟨pn,pd,rfl,hn,hd,hb1⟩
 have CZ0:=frac_zero w1 pn q.num.natAbs hn (Nat.le_trans HF.out (by omega))
 by_cases h1:q.num<0
 ·have h2:s=-1:=by rw[HS.out,signI,if_pos h1]
  rw[decide_eq_true h1]
  subst h2
  go_wp2_with fail
  go_ret
  exact ⟨rfl,hb1⟩
 ·rw[decide_eq_false h1]
  by_cases h2:q.num.natAbs=0
  ·have h3:s=0:=by rw[HS.out,signI,if_neg h1,if_pos (by omega)]
   rw[decide_eq_true h2]at CZ0
   have CZ:=Lib.hid CZ0
   subst h3
   clear CZ0 h1 h2
   go_wp2_with fail
   refine CZ.out.mono ?_
   rintro e w' ⟨rfl,rfl⟩
   go_wp2_with fail
   go_ret
   exact ⟨rfl,hb1⟩
  ·have h3:s=1:=by rw[HS.out,signI,if_neg h1,if_neg (by omega)]
   rw[decide_eq_false h2]at CZ0
   have CZ:=Lib.hid CZ0
   subst h3
   clear CZ0 h1 h2
   go_wp2_with fail
   refine CZ.out.mono ?_
   rintro e w' ⟨rfl,rfl⟩
   go_wp2_with fail
   go_ret
   exact ⟨rfl,hb1⟩
set_option maxRecDepth 100000 in
set_option maxHeartbeats 1000000 in
theorem frac_signed (w:World) (p q:Bool) (u v:Value) (a b:Nat) (ha:NatAt w u a) (hb:NatAt w v b) (hal:sz a≤1000000000000) (hbl:sz b≤1000000000000) :
 Calls Tryz.prog 166 #[.bool p,u,.bool q,v] w (SumOf p a q b w):=by
 by_cases hpq:p=q
 ·subst hpq
  have CA:=Lib.hid (nat_Add w u v a b ha hb hal hbl)
  have HE:Hid (sgn p (a+b)=sgn p a+sgn p b):=by show _=_;cases p<;>simp[sgn]<;>omega
  clear ha hb hal hbl
  go_enter Tryz.func166,Tryz.ntmps166
  go_wp2_with fail
  refine CA.out.mono ?_
  rintro e w1 ⟨x1,rfl,hx1,hb1⟩
  go_wp2_with fail
  go_ret2
  exact ⟨p,x1,_,rfl,hx1,HE.out,hb1⟩
 ·have hne:(p == q)=false:=beq_eq_false_iff_ne.2 hpq
  rcases Nat.lt_or_ge a b with h|h
  ·have CL:=Lib.hid (nat_Less_no w u v a b ha hb hal hbl h)
   have CM:=Lib.hid (nat_Less_yes w v u b a hb ha hbl hal (by omega))
   have HE:Hid (sgn q (b - a)=sgn p a+sgn q b):=by show _=_;cases p<;>cases q<;>first|exact absurd rfl hpq|(simp[sgn];omega)
   clear ha hb hal hbl hpq
   go_enter Tryz.func166,Tryz.ntmps166
   go_wp2_with fail
   refine CL.out.mono ?_
   rintro e w' ⟨rfl,rfl⟩
   go_wp2_with fail
   refine CM.out.mono ?_
   rintro e w1 ⟨x1,rfl,hx1,hb1⟩
   go_wp2_with fail
   go_ret2
   exact ⟨q,x1,_,rfl,hx1,HE.out,hb1⟩
  ·have CL:=Lib.hid (nat_Less_yes w u v a b ha hb hal hbl h)
   have HE:Hid (sgn p (a - b)=sgn p a+sgn q b):=by show _=_;cases p<;>cases q<;>first|exact absurd rfl hpq|(simp[sgn];omega)
   clear ha hb hal hbl hpq
   go_enter Tryz.func166,Tryz.ntmps166
   go_wp2_with fail
   refine CL.out.mono ?_
   rintro e w1 ⟨x1,rfl,hx1,hb1⟩
   go_wp2_with fail
   go_ret2
   exact ⟨p,x1,_,rfl,hx1,HE.out,hb1⟩
set_option maxRecDepth 100000 in
theorem frac_Neg (w:World) (v:Value) (q:Rat) (h:FracAt w v q) (hf:Fits 1000000000000 q):Calls Tryz.prog 101 #[v] w (Gives (fun z w'=>FracPtr w' z (-q)) w):=by
 have CP:=Lib.hid (frac_Parts w v q h)
 unfold PartsOf at CP
 have HF:=Lib.hid hf.1
 have e1:Hid ((-q).num.natAbs=q.num.natAbs):=by show _=_;rw[Rat.neg_num];exact Int.natAbs_neg _
 have e2:Hid ((-q).den=q.den):=Rat.neg_den q
 have e3:Hid (decide ((-q).num<0)=(!decide (q.num<0) && !decide (q.num.natAbs=0))):=by
  show _=_
  rw[Rat.neg_num]
  by_cases h1:q.num<0
  ·rw[decide_eq_true h1,decide_eq_false (by omega)];rfl
  ·by_cases h2:q.num.natAbs=0
   ·rw[decide_eq_false h1,decide_eq_true h2,decide_eq_false (by omega)];rfl
   ·rw[decide_eq_false h1,decide_eq_false h2,decide_eq_true (by omega)];rfl
 clear h hf
 generalize hng:decide (q.num<0)=ng at *
 generalize q.num.natAbs=n at *
 generalize q.den=d at *
 clear hng
 go_enter Tryz.func101,Tryz.ntmps101
 go_wp2_with fail
 refine CP.out.mono ?_
 rintro e w1 ⟨pn,pd,rfl,hn,hd,hb1⟩
 have CZ:=Lib.hid (frac_zero w1 pn n hn HF.out)
 have HN:=Lib.hid hn
 have HD:=Lib.hid hd
 obtain ⟨z,hz⟩:∃ z,z=decide (n=0):=⟨_,rfl⟩
 rw[← hz]at CZ e3
 clear hz
 obtain ⟨b7,A7,c7,rfl,_,_⟩:=hd.open_
 rcases hn with ⟨rfl,rfl⟩|hp
 ·cases ng
  ·go_wp2_with fail
   refine CZ.out.mono ?_
   rintro e w' ⟨rfl,rfl⟩
   go_wp2_with fail
   go_ret
   exact ⟨_,rfl,frac_built w1 _ _ _ _ _ HN.out HD.out _ e1.out e2.out e3.out,hb1.alloc hb1.size _⟩
  ·go_wp2_with fail
   go_ret
   exact ⟨_,rfl,frac_built w1 _ _ _ _ _ HN.out HD.out _ e1.out e2.out e3.out,hb1.alloc hb1.size _⟩
 ·obtain ⟨b8,A8,c8,rfl,_,_⟩:=NatPtr.open_ hp
  cases ng
  ·go_wp2_with fail
   refine CZ.out.mono ?_
   rintro e w' ⟨rfl,rfl⟩
   go_wp2_with fail
   go_ret
   exact ⟨_,rfl,frac_built w1 _ _ _ _ _ HN.out HD.out _ e1.out e2.out e3.out,hb1.alloc hb1.size _⟩
  ·go_wp2_with fail
   go_ret
   exact ⟨_,rfl,frac_built w1 _ _ _ _ _ HN.out HD.out _ e1.out e2.out e3.out,hb1.alloc hb1.size _⟩
end Go.Proofs.YtbdfhnelmojbpaaGreatDoor
end
section
namespace Vic
open Go Go.RowKit
theorem quo_one (ng:Bool) (n:Nat):quo ng n 1=((sgn ng n:Int):Rat):=by
 apply Rat.ext
 ·rw[quo_num (by omega),Nat.gcd_one_right,Nat.div_one];rfl
 ·rw[quo_den (by omega),Nat.gcd_one_right];rfl
theorem fits_neg {L:Nat}{x:Rat}(h:Fits L x):Fits L (-x):=⟨by rw[Rat.neg_num,Int.natAbs_neg];exact h.1,h.2⟩
theorem add_num (x y:Rat):∃ s r,sgn r s=x.num*y.den+y.num*x.den∧quo r s (x.den*y.den)=x+y:=by
 obtain ⟨n,hn⟩:∃ n,n=x.num*(y.den:Int)+y.num*(x.den:Int):=⟨_,rfl⟩
 have e:sgn (decide (n<0)) n.natAbs=n:=by
  unfold sgn
  by_cases h:n<0
  ·simp[h];omega
  ·simp[h];omega
 refine ⟨n.natAbs,decide (n<0),by rw[e,hn],quo_add x y rfl rfl _ _ (by rw[e,hn])⟩
theorem fits_add {L M:Nat}{x y:Rat}(hx:Fits L x) (hy:Fits M y):Fits (L+M+1) (x+y):=by
 obtain ⟨s,r,h1,h2⟩:=add_num x y
 rw[← h2]
 have h3:s≤x.num.natAbs*y.den+y.num.natAbs*x.den:=by
  have h4:=congrArg Int.natAbs h1
  rw[sgn_natAbs]at h4
  have h5:=Int.natAbs_add_le (x.num*(y.den:Int)) (y.num*(x.den:Int))
  rw[Int.natAbs_mul,Int.natAbs_mul,Int.natAbs_natCast,Int.natAbs_natCast]at h5
  omega
 have h6:=sz_mul x.num.natAbs y.den
 have h7:=sz_mul y.num.natAbs x.den
 have h8:=sz_add (x.num.natAbs*y.den) (y.num.natAbs*x.den)
 have h9:=sz_mul x.den y.den
 have:=hx.1;have:=hx.2;have:=hy.1;have:=hy.2
 exact fits_quo (Nat.mul_ne_zero x.den_nz y.den_nz) (Nat.le_trans (sz_mono h3) (by omega)) (by omega)
end Vic
namespace Go.Proofs.YtbdfhnelmojbpaaGreatDoor
open Go.RowKit Vic
set_option maxRecDepth 100000 in
set_option maxHeartbeats 2000000 in
theorem frac_Add (w:World) (u v:Value) (x y:Rat) (hx:FracAt w u x) (hy:FracAt w v y) (hfx:Fits 1000000000 x) (hfy:Fits 1000000000 y) :
 Calls Tryz.prog 104 #[u,v] w (Gives (fun z w'=>FracPtr w' z (x+y)) w):=by
 have CP:=Lib.hid (frac_Parts w u x hx)
 unfold PartsOf at CP
 have CQ:Hid (∀ wr,Below w.heap.size w wr→Calls Tryz.prog 162 #[v] wr (PartsOf y wr)):=fun wr h=>frac_Parts wr v y (hy.keep h)
 unfold PartsOf at CQ
 obtain ⟨fx1,fx2⟩:=hfx
 obtain ⟨fy1,fy2⟩:=hfy
 have dx0:=x.den_nz
 have dy0:=y.den_nz
 have HZ:Hid (x.num.natAbs=0→quo (decide (y.num<0)) y.num.natAbs y.den=x+y):=fun h=>by
  rw[quo_self,show x=0 from Rat.num_eq_zero.1 (by omega),Rat.zero_add]
 have HS:Hid (x.den=y.den→∀ r s,sgn r s=sgn (decide (x.num<0)) x.num.natAbs+sgn (decide (y.num<0)) y.num.natAbs→quo r s x.den=x+y):=fun h r s hs=>
  quo_add_same x y rfl h.symm r s (by rw[hs,sgn_self,sgn_self])
 have HA:Hid (∀ r s,sgn r s=sgn (decide (x.num<0)) (x.num.natAbs*y.den)+sgn (decide (y.num<0)) (y.num.natAbs*x.den)→quo r s (x.den*y.den)=x+y):=fun r s hs=>
  quo_add x y rfl rfl r s (by
   have e:∀ (b:Bool) (k d:Nat),sgn b (k*d)=sgn b k*(d:Int):=fun b k d=>by cases b<;>simp[sgn,Int.neg_mul]
   rw[hs,e,e,sgn_self,sgn_self])
 obtain ⟨Z,hZ⟩:∃ Z,Z=x+y:=⟨_,rfl⟩
 rw[← hZ]at HZ HS HA ⊢
 clear hx hy hZ
 generalize decide (x.num<0)=p at *
 generalize decide (y.num<0)=q at *
 generalize x.num.natAbs=n at *
 generalize y.num.natAbs=m at *
 generalize x.den=d at *
 generalize y.den=e0 at *
 have sl1:=sz_mul n e0
 have sl2:=sz_mul m d
 have sl3:=sz_mul d e0
 have F:Hid (sz n≤1000000000∧sz m≤1000000000∧sz d≤1000000000∧sz e0≤1000000000∧sz (n*e0)≤2000000000∧sz (m*d)≤2000000000∧sz (d*e0)≤2000000000):=⟨fx1,fy1,fx2,fy2,by omega,by omega,by omega⟩
 have D0:Hid (d≠0∧e0≠0∧d*e0≠0):=⟨dx0,dy0,Nat.mul_ne_zero dx0 dy0⟩
 clear fx1 fx2 fy1 fy2 sl1 sl2 sl3 dx0 dy0
 go_enter Tryz.func104,Tryz.ntmps104
 go_wp2_with fail
 refine CP.out.mono ?_
 rintro e w1 ⟨pn,pd,rfl,hn,hd,hb1⟩
 go_wp2_with fail
 refine (CQ.out _ hb1).mono ?_
 rintro e w2 ⟨qn,qd,rfl,hm,he,hb2⟩
 have hn':=hn.keep hb2
 have hd':=(hd.keep hb2).at_
 have he':=he.at_
 have hb12:=below_seq hb1 hb2
 obtain ⟨f1,f2,f3,f4,f5,f6,f7⟩:=F.out
 have CZ0:=frac_zero w2 pn n hn' (by omega)
 by_cases hn0:n=0
 ·rw[decide_eq_true hn0]at CZ0
  have CZ:=Lib.hid CZ0
  have CS0:=frac_sure w2 q qn qd m e0 hm he' D0.out.2.1 (by omega) (by omega)
  rw[HZ.out hn0]at CS0
  have CS:=Lib.hid CS0
  clear CZ0 CS0 hn0 f1 f2 f3 f4 f5 f6 f7
  go_wp2_with fail
  refine CZ.out.mono ?_
  rintro e w' ⟨rfl,rfl⟩
  go_wp2_with fail
  refine CS.out.mono ?_
  rintro e w3 ⟨x3,rfl,hx3,hb3⟩
  go_wp2_with fail
  go_ret
  exact ⟨x3,rfl,hx3,below_seq hb12 hb3⟩
 ·rw[decide_eq_false hn0]at CZ0
  have CZ:=Lib.hid CZ0
  have CC0:=nat_Cmp w2 pd qd d e0 hd' he' (Nat.le_trans f3 (by omega)) (Nat.le_trans f4 (by omega))
  by_cases hde:d=e0
  ·rw[cmpI_eq hde]at CC0
   have CC:=Lib.hid CC0
   have CG:=Lib.hid (frac_signed w2 p q pn qn n m hn' hm (by omega) (by omega))
   unfold SumOf at CG
   have HS':=Lib.hid (HS.out hde)
   clear CZ0 CC0 hn0 hde f1 f2 f3 f4 f5 f6 f7
   go_wp2_with fail
   refine CZ.out.mono ?_
   rintro e w' ⟨rfl,rfl⟩
   go_wp2_with fail
   refine CC.out.mono ?_
   rintro e w' ⟨rfl,rfl⟩
   go_wp2_with fail
   refine CG.out.mono ?_
   rintro e w3 ⟨r,x3,s,rfl,hx3,hs,hb3⟩
   obtain ⟨f1,f2,f3,f4,f5,f6,f7⟩:=F.out
   have hsl:sz s≤10000000000:=Nat.le_trans (sz_mono (sgn_add_abs _ _ _ _ _ _ hs)) (Nat.le_trans (sz_add n m) (by omega))
   have CS0:=frac_sure w3 r x3 pd s d hx3 (hd'.keep hb3) D0.out.1 hsl (by omega)
   rw[HS'.out r s hs]at CS0
   have CS:=Lib.hid CS0
   clear CS0 f1 f2 f3 f4 f5 f6 f7 hsl hs
   go_wp2_with fail
   refine CS.out.mono ?_
   rintro e w4 ⟨x4,rfl,hx4,hb4⟩
   go_wp2_with fail
   go_ret
   exact ⟨x4,rfl,hx4,below_seq hb12 (below_seq hb3 hb4)⟩
  ·have hs0:(cmpI d e0 == 0)=false:=by
    rw[beq_eq_false_iff_ne]
    rcases Nat.lt_or_gt_of_ne hde with h|h
    ·rw[cmpI_lt h];omega
    ·rw[cmpI_gt h];omega
   generalize cmpI d e0=s0 at *
   have CC:=Lib.hid CC0
   have CM:=Lib.hid (nat_Mul w2 pn qd n e0 hn' he' (Nat.le_trans f1 (by omega)) (Nat.le_trans f4 (by omega)))
   have CN:Hid (∀ wr,Below w2.heap.size w2 wr→Calls Tryz.prog 167 #[qn,pd] wr (Gives (fun x w'=>NatAt w' x (m*d)) wr)):=fun wr h=>nat_Mul wr qn pd m d (hm.keep h) (hd'.keep h) (Nat.le_trans f2 (by omega)) (Nat.le_trans f3 (by omega))
   have CD:Hid (∀ wr,Below w2.heap.size w2 wr→Calls Tryz.prog 167 #[pd,qd] wr (Gives (fun x w'=>NatAt w' x (d*e0)) wr)):=fun wr h=>nat_Mul wr pd qd d e0 (hd'.keep h) (he'.keep h) (Nat.le_trans f3 (by omega)) (Nat.le_trans f4 (by omega))
   clear CZ0 CC0 hn0 hde f1 f2 f3 f4 f5 f6 f7
   generalize n*e0=a1 at *
   generalize m*d=a2 at *
   generalize d*e0=a3 at *
   go_wp2_with fail
   refine CZ.out.mono ?_
   rintro e w' ⟨rfl,rfl⟩
   go_wp2_with fail
   refine CC.out.mono ?_
   rintro e w' ⟨rfl,rfl⟩
   go_wp2_with fail
   refine CM.out.mono ?_
   rintro e w3 ⟨x3,rfl,hx3,hb3⟩
   go_wp2_with fail
   refine (CN.out _ hb3).mono ?_
   rintro e w4 ⟨x4,rfl,hx4,hb4⟩
   obtain ⟨f1,f2,f3,f4,f5,f6,f7⟩:=F.out
   have CG:=Lib.hid (frac_signed w4 p q x3 x4 a1 a2 (hx3.keep hb4) hx4 (by omega) (by omega))
   unfold SumOf at CG
   clear f1 f2 f3 f4 f5 f6 f7
   go_wp2_with fail
   refine CG.out.mono ?_
   rintro e w5 ⟨r,x5,s,rfl,hx5,hs,hb5⟩
   have hb25:=below_seq hb3 (below_seq hb4 hb5)
   go_wp2_with fail
   refine (CD.out _ hb25).mono ?_
   rintro e w6 ⟨x6,rfl,hx6,hb6⟩
   obtain ⟨f1,f2,f3,f4,f5,f6,f7⟩:=F.out
   have hsl:sz s≤10000000000:=Nat.le_trans (sz_mono (sgn_add_abs _ _ _ _ _ _ hs)) (Nat.le_trans (sz_add a1 a2) (by omega))
   have CS0:=frac_sure w6 r x5 x6 s a3 (hx5.keep hb6) hx6 D0.out.2.2 hsl (by omega)
   rw[HA.out r s hs]at CS0
   have CS:=Lib.hid CS0
   clear CS0 f1 f2 f3 f4 f5 f6 f7 hsl hs
   go_wp2_with fail
   refine CS.out.mono ?_
   rintro e w7 ⟨x7,rfl,hx7,hb7⟩
   go_wp2_with fail
   go_ret
   exact ⟨x7,rfl,hx7,below_seq hb12 (below_seq hb25 (below_seq hb6 hb7))⟩
theorem frac_Sub (w:World) (u v:Value) (x y:Rat) (hx:FracAt w u x) (hy:FracAt w v y) (hfx:Fits 1000000000 x) (hfy:Fits 1000000000 y) :
 Calls Tryz.prog 102 #[u,v] w (Gives (fun z w'=>FracPtr w' z (x - y)) w):=by
 have CN:=Lib.hid (frac_Neg w v y hy (hfy.mono (by omega)))
 have CA:Hid (∀ wr z,Below w.heap.size w wr→FracPtr wr z (-y)→Calls Tryz.prog 104 #[u,z] wr (Gives (fun z w'=>FracPtr w' z (x - y)) wr)):=fun wr z h hz=>by
  rw[Rat.sub_eq_add_neg]
  exact frac_Add wr u z x (-y) (hx.keep h) hz.at_ hfx (fits_neg hfy)
 generalize x - y=Z at *
 generalize -y=Y at *
 clear hx hy hfx hfy
 go_enter Tryz.func102,Tryz.ntmps102
 go_wp2_with fail
 refine CN.out.mono ?_
 rintro e w1 ⟨x1,rfl,hx1,hb1⟩
 go_wp2_with fail
 refine (CA.out _ _ hb1 hx1).mono ?_
 rintro e w2 ⟨x2,rfl,hx2,hb2⟩
 go_wp2_with fail
 go_ret
 exact ⟨x2,rfl,hx2,below_seq hb1 hb2⟩
end Go.Proofs.YtbdfhnelmojbpaaGreatDoor
end
section
namespace Vic
open Go
theorem fracText_eq {q:Rat}(ng:Bool) (n d:Nat) (h1:q.num=sgn ng n) (h0:ng=true→n≠0) (h2:q.den=d):fracText q=(if ng then [45]else []) ++ Lib.decDigits n ++ (if d=1 then []else 47 :: Lib.decDigits d):=by
 unfold fracText
 rw[h2,h1,sgn_natAbs]
 cases ng
 ·rw[if_neg (by simp[sgn])];rfl
 ·rw[if_pos (by have:=h0 rfl;simp[sgn];omega)];rfl
end Vic
end
section
namespace Vic
open Go
def sgnT (neg:Bool) (body:List UInt8):List UInt8:=(if neg then [45]else []) ++ body
theorem sgnT_parts (neg:Bool) (body:List UInt8) (h:neg=false→body.head?≠some 45):fracNeg (sgnT neg body)=neg∧Lib.trimPrefix (sgnT neg body) [45]=body:=by
 cases neg
 ·have h1:=h rfl
  show Lib.hasPrefix body [45]=false∧Lib.trimPrefix body [45]=body
  match body,h1 with
  | [],_=>exact ⟨rfl,rfl⟩
  | c :: r,h1=>
    have hc:c≠45:=fun e=>h1 (by simp[e])
    obtain ⟨t1,t2⟩:=trim_pos r hc
    exact ⟨t2,t1⟩
 ·obtain ⟨t1,t2⟩:=trim_neg body
  exact ⟨t2,t1⟩
theorem dec_head45 (n:Nat) (r:List UInt8):(Lib.decDigits n ++ r).head?≠some 45:=by
 rcases hx:Lib.decDigits n with _|⟨c,s⟩
 ·exact absurd hx (dec_ne _)
 ·have hc:c≠45:=dig_ne (dec_isDig n c (by rw[hx];simp)) (by decide)
  simp[hc]
theorem fracText_sgnT (q:Rat):fracText q=sgnT (decide (q.num<0)) (Lib.decDigits q.num.natAbs ++ (if q.den=1 then []else 47 :: Lib.decDigits q.den)):=by
 unfold fracText sgnT
 by_cases h:q.num<0
 ·rw[if_pos h,decide_eq_true h];simp
 ·rw[if_neg h,decide_eq_false h];simp
theorem sgnT_inj {p q:Bool}{a b:List UInt8}(ha:a.head?≠some 45) (hb:q=false→b.head?≠some 45) (h:sgnT p a=sgnT q b):p=q∧a=b:=by
 obtain ⟨h1,h2⟩:=sgnT_parts p a (fun _=>ha)
 obtain ⟨h3,h4⟩:=sgnT_parts q b hb
 rw[h]at h1 h2
 exact ⟨h1.symm.trans h3,h2.symm.trans h4⟩
theorem good_whole {neg:Bool}{a:List UInt8}(ha:(47:UInt8)∉a) (hh:neg=false→a.head?≠some 45) :
 (FracGood (sgnT neg a)↔GoodNat a∧(neg=true→numOf 0 a≠0))∧fracOf (sgnT neg a)=quo neg (numOf 0 a) 1:=by
 obtain ⟨k1,k2⟩:=sgnT_parts neg a hh
 have k3:fracTop (sgnT neg a)=a:=by unfold fracTop;rw[k2,cut_none ha]
 have k4:fracBelow (sgnT neg a) = [49]:=by unfold fracBelow;rw[k2,cut_none ha];rfl
 have h49:numOf 0 [49]=1:=by rw[← dec_one,numOf_dec]
 have hof:fracOf (sgnT neg a)=quo neg (numOf 0 a) 1:=by unfold fracOf;rw[k1,k3,k4,h49]
 have hden:(quo neg (numOf 0 a) 1).den=1:=by rw[quo_den (by omega),Nat.gcd_one_right]
 have hnum:(quo neg (numOf 0 a) 1).num=sgn neg (numOf 0 a):=by rw[quo_num (by omega),Nat.gcd_one_right,Nat.div_one]
 refine ⟨⟨fun h=>?_,fun h=>?_⟩,hof⟩
 ·obtain ⟨g1,g2,g3,g4⟩:=h
  rw[k3]at g1
  refine ⟨g1,fun hn h0=>?_⟩
  rw[hof,fracText_sgnT]at g4
  obtain ⟨e1,e2⟩:=sgnT_inj (dec_head45 _ _) hh g4
  rw[hn]at e1
  have h9:=of_decide_eq_true e1
  rw[hn]at hnum
  rw[hnum,h0]at h9
  simp[sgn]at h9
 ·obtain ⟨g1,g5⟩:=h
  refine ⟨by rw[k3];exact g1,by rw[k4];exact ⟨by rw[← dec_one];exact dec_canon _,by decide⟩,by rw[k4,h49];decide,?_⟩
  rw[hof,fracText_eq neg (numOf 0 a) 1 hnum g5 hden,dec_numOf g1.1,if_pos rfl,List.append_nil]
  rfl
end Vic
end
section
namespace Vic
open Go
def qv (neg:Bool) (n:Nat) (p:Int):Rat:=if 0≤p then quo neg (n*10 ^ p.toNat) 1 else quo neg n (10 ^ (-p).toNat)
end Vic
end
section
namespace Vic
open Go
abbrev CoefM:=Int × Txt
structure RowM where
 name:Txt
 kind:Int
 coef:List CoefM
 rhs:Txt
 range:Txt
structure ColM where
 name:Txt
 low:Txt
 up:Txt
 cost:Txt
 int:Bool
structure CoreM where
 name:Txt
 obj:Txt
 rows:List RowM
 cols:List ColM
def idxT (l:List Txt) (s:Txt):Int:=match l.findIdx? (fun x=>x == s)with|some i=>(i:Nat)|none=>-1
def markerM:Txt:=[39,77,65,82,75,69,82,39]
def rhsM:Txt:=[82,72,83]
structure CSt where
 c:CoreM
 at_:Int
 rows:List (Txt × Int)
 cols:List (Txt × Int)
 seen:List Txt
 integer:Bool
 l:List Txt
 e:Int
def atT (l:List (Txt × Int)) (s:Txt):Option Int:=(l.find? fun p=>p.1 == s).map (·.2)
end Vic
end
section
namespace Vic
open Go
abbrev PerM:=Txt × Txt × Txt
def colAt (c:CoreM) (s:Txt):Int:=idxT (c.cols.map (·.name)) s
def rowIx (c:CoreM) (s:Txt):Int:=idxT (c.rows.map (·.name)) s
def rowAt (c:CoreM) (s:Txt):Int:=if s=c.obj then 0 else if rowIx c s<0 then rowIx c s else rowIx c s+1
def mayTime (c:CoreM) (ps:List PerM):Int:=
 match ps with
 | [a,b]=>
   if colAt c a.1<0∨colAt c b.1<0∨rowAt c a.2.1<0∨rowAt c b.2.1<0∨a.2.2=b.2.2 then 4
   else if colAt c a.1≠0∨1<rowAt c a.2.1∨colAt c b.1≤0∨rowAt c b.2.1≤rowAt c a.2.1 then 5
   else 0
 | []=>1
 | [_]=>1
 | _=>7
def goodNames (no:Txt):List Txt→List Txt→Bool
 | [],_=>true
 | s :: l,seen=>nameB s && s != no && !seen.contains s && goodNames no l (s :: seen)
def namedM (c:CoreM):Bool:=nameB c.name && goodNames markerM (c.obj :: c.rows.map (·.name)) [] && goodNames rhsM (c.cols.map (·.name)) []
open Classical in
noncomputable def numberM (s:Txt):Bool:=decide (FracGood s)
noncomputable def maybeM (s:Txt):Bool:=s.isEmpty || numberM s
open Classical in
noncomputable def coefsFrom:Int→List CoefM→Nat→Bool
 | _,[],_=>true
 | last,x :: l,cols=>numberM x.2 && decide (fracOf x.2≠0) && decide (last<x.1) && decide (x.1<cols) && coefsFrom x.1 l cols
noncomputable def mayCore (c:CoreM):Int:=
 if !namedM c then 4
 else if 40<c.rows.length∨40<c.cols.length then 6
 else if c.rows.any (fun r=>decide (r.kind<1) || decide (3<r.kind))then 7
 else if c.rows.any (fun r=>!numberM r.rhs || !maybeM r.range || !coefsFrom (-1) r.coef c.cols.length) || c.cols.any (fun x=>!numberM x.cost || !maybeM x.low || !maybeM x.up)then 1
 else 0
end Vic
end
section
namespace Vic
open Go
structure LPM where
 cols:List ColM
 rows:List RowM
structure TwoM where
 first:LPM
 second:LPM
 tech:List (List CoefM)
def noLP:LPM:=⟨[],[]⟩
def noTwo:TwoM:=⟨noLP,noLP,[]⟩
def cutCol (c:CoreM) (ps:List PerM):Int:=colAt c ((ps[1]?).getD ([],[],[])).1
def cutRow (c:CoreM) (ps:List PerM):Int:=rowIx c ((ps[1]?).getD ([],[],[])).2.1
noncomputable def rangedM (r:RowM):List RowM:=
 if r.range = []then [r]
 else
  let rhs:=fracOf r.rhs
  let by_:=fracOf r.range
  let size:=if by_<0 then -by_ else by_
  if r.kind=1 then [{ r with range:=[] },{ r with kind:=3,rhs:=fracText (rhs - size),range:=[] }]
  else if r.kind=3 then [{ r with range:=[] },{ r with kind:=1,rhs:=fracText (rhs+size),range:=[] }]
  else if by_<0 then [{ r with kind:=3,rhs:=fracText (rhs+by_),range:=[] },{ r with kind:=1,range:=[] }]
  else [{ r with kind:=3,range:=[] },{ r with kind:=1,rhs:=fracText (rhs+by_),range:=[] }]
noncomputable def crossesM (x:ColM):Bool:=!x.low.isEmpty && !x.up.isEmpty && decide (fracOf x.up<fracOf x.low)
def openM (x:ColM):Bool:=x.low.isEmpty || x.up.isEmpty
def techM (cs:List CoefM) (col:Int):List CoefM:=cs.filter fun x=>decide (x.1<col)
def ownM (cs:List CoefM) (col:Int):List CoefM:=(cs.filter fun x=>!decide (x.1<col)).map fun x=>(x.1 - col,x.2)
noncomputable def lookM (c:CoreM) (col row:Nat):Int:=
 if (c.rows.take row).any fun r=>r.coef.any fun x=>decide ((col:Int)≤x.1)then 5
 else if (c.cols.drop col).any fun x=>x.int then 7
 else if (c.cols.take col).any openM || c.cols.any crossesM then 10
 else 0
noncomputable def splitTwo (c:CoreM) (col row:Nat):TwoM:=
 ⟨⟨c.cols.take col,((c.rows.take row).map rangedM).flatten⟩,
  ⟨c.cols.drop col,(((c.rows.drop row).map rangedM).flatten).map fun r=>{ r with coef:=ownM r.coef col }⟩,
  (((c.rows.drop row).map rangedM).flatten).map fun r=>techM r.coef col⟩
noncomputable def splitOf (c:CoreM) (ps:List PerM):TwoM × Int:=
 if mayCore c≠0 then (noTwo,mayCore c)
 else if mayTime c ps≠0 then (noTwo,mayTime c ps)
 else
  let col:=(cutCol c ps).toNat
  let row:=(cutRow c ps).toNat
  if lookM c col row≠0 then (noTwo,lookM c col row)
  else if 20<col∨20<c.cols.length - col∨20<(splitTwo c col row).first.rows.length∨20<(splitTwo c col row).second.rows.length then (noTwo,6)
  else (splitTwo c col row,0)
end Vic
end
section
namespace Vic
open Go Go.RowKit
def CoefR (w:World) (g o:Nat) (x:CoefM):Prop:=w.cell? ⟨g,o,none⟩=some (.int .i64 x.1)∧w.cell? ⟨g,o+1,none⟩=some (.string ⟨x.2.toArray⟩)
theorem CoefR.firm:Firm CoefR:=fun _ _ _ _ _ h hb=>⟨cell_keep h.1 hb,cell_keep h.2 hb⟩
abbrev CsIn (w:World) (v:Value) (l:List CoefM):Prop:=SlIn CoefR 2 w v l
def ColR (w:World) (g o:Nat) (x:ColM):Prop:=
 w.cell? ⟨g,o,none⟩=some (.string ⟨x.name.toArray⟩)∧w.cell? ⟨g,o+1,none⟩=some (.string ⟨x.low.toArray⟩)∧w.cell? ⟨g,o+2,none⟩=some (.string ⟨x.up.toArray⟩)∧w.cell? ⟨g,o+3,none⟩=some (.string ⟨x.cost.toArray⟩)∧w.cell? ⟨g,o+4,none⟩=some (.bool x.int)
theorem ColR.firm:Firm ColR:=fun _ _ _ _ _ h hb=>⟨cell_keep h.1 hb,cell_keep h.2.1 hb,cell_keep h.2.2.1 hb,cell_keep h.2.2.2.1 hb,cell_keep h.2.2.2.2 hb⟩
abbrev ColsIn (w:World) (v:Value) (l:List ColM):Prop:=SlIn ColR 5 w v l
def RowR (w:World) (g o:Nat) (x:RowM):Prop:=
 ∃ cv,w.cell? ⟨g,o,none⟩=some (.string ⟨x.name.toArray⟩)∧w.cell? ⟨g,o+1,none⟩=some (.int .i64 x.kind)∧w.cell? ⟨g,o+2,none⟩=some cv∧w.cell? ⟨g,o+3,none⟩=some (.string ⟨x.rhs.toArray⟩)∧w.cell? ⟨g,o+4,none⟩=some (.string ⟨x.range.toArray⟩)∧CsIn w cv x.coef
theorem RowR.firm:Firm RowR:=fun _ _ _ _ _ ⟨cv,h1,h2,h3,h4,h5,h6⟩ hb=>⟨cv,cell_keep h1 hb,cell_keep h2 hb,cell_keep h3 hb,cell_keep h4 hb,cell_keep h5 hb,h6.keep CoefR.firm hb⟩
abbrev RowsIn (w:World) (v:Value) (l:List RowM):Prop:=SlIn RowR 5 w v l
def CoreIn (w:World) (v:Value) (c:CoreM):Prop:=∃ rv cv,v=.agg #[.string ⟨c.name.toArray⟩,.string ⟨c.obj.toArray⟩,rv,cv]∧RowsIn w rv c.rows∧ColsIn w cv c.cols
theorem CoreIn.keep {w w':World}{v:Value}{c:CoreM}(h:CoreIn w v c) (hb:Below w.heap.size w w'):CoreIn w' v c:=by
 obtain ⟨rv,cv,h1,h2,h3⟩:=h
 exact ⟨rv,cv,h1,h2.keep RowR.firm hb,h3.keep ColR.firm hb⟩
def PerR (w:World) (g o:Nat) (x:PerM):Prop:=w.cell? ⟨g,o,none⟩=some (.string ⟨x.1.toArray⟩)∧w.cell? ⟨g,o+1,none⟩=some (.string ⟨x.2.1.toArray⟩)∧w.cell? ⟨g,o+2,none⟩=some (.string ⟨x.2.2.toArray⟩)
theorem PerR.firm:Firm PerR:=fun _ _ _ _ _ h hb=>⟨cell_keep h.1 hb,cell_keep h.2.1 hb,cell_keep h.2.2 hb⟩
abbrev PersIn (w:World) (v:Value) (l:List PerM):Prop:=SlIn PerR 3 w v l
end Vic
end
section
namespace Vic
open Go Go.RowKit
theorem numberM_yes {s:Txt}(h:FracGood s):numberM s=true:=by unfold numberM;simp[h]
theorem numberM_no {s:Txt}(h:¬ FracGood s):numberM s=false:=by unfold numberM;simp[h]
theorem signI_nil7 {q:Rat}:(signI q == 0)=decide (q=0):=by
 by_cases h:q=0
 ·rw[h];rfl
 ·rw[decide_eq_false h,beq_eq_false_iff_ne]
  have hn:q.num≠0:=fun e=>h (Rat.num_eq_zero.1 e)
  unfold signI
  split
  ·decide
  ·first|decide|(rw[if_neg hn];decide)
end Vic
namespace Go.Proofs.YtbdfhnelmojbpaaGreatDoor
open Go.RowKit Vic
theorem core_numb (w:World) (s:Txt) (hl:s.length≤1000000) (ht:Tab w):Calls Tryz.prog 74 #[.string ⟨s.toArray⟩] w (Keeps (.bool (numberM s)) w):=by
 have CG:=Lib.hid (frac_Get w s hl ht)
 unfold GotFrac at CG
 clear ht hl
 go_enter Tryz.func74,Tryz.ntmps74
 go_wp2_with fail
 refine CG.out.mono ?_
 rintro e w1 (⟨h1,rfl,hb⟩|⟨h1,x,rfl,_,_,hb⟩)
 ·go_wp2_with fail
  go_ret
  exact ⟨by rw[numberM_no h1];rfl,hb⟩
 ·go_wp2_with fail
  go_ret
  exact ⟨by rw[numberM_yes h1];rfl,hb⟩
theorem core_mayb (w:World) (s:Txt) (hl:s.length≤1000000) (ht:Tab w):Calls Tryz.prog 75 #[.string ⟨s.toArray⟩] w (Keeps (.bool (maybeM s)) w):=by
 have CN:=Lib.hid (core_numb w s hl ht)
 have hM:Hid (maybeM s=(s.isEmpty || numberM s)):=rfl
 clear ht hl
 by_cases h0:s = []
 ·subst h0
  go_enter Tryz.func75,Tryz.ntmps75
  go_wp2_with fail
  go_ret
  exact ⟨by rw[hM.out];rfl,Below.refl _ _⟩
 ·have h1:(s == [])=false:=beq_eq_false_iff_ne.2 h0
  have h2:s.isEmpty=false:=by cases s with|nil=>exact absurd rfl h0|cons a b=>rfl
  clear h0
  go_enter Tryz.func75,Tryz.ntmps75
  go_wp2_with fail
  refine CN.out.mono ?_
  rintro e w1 ⟨rfl,hb⟩
  go_wp2_with fail
  go_ret
  exact ⟨by rw[hM.out,h2];simp,hb⟩
set_option maxRecDepth 100000 in
set_option maxHeartbeats 8000000 in
theorem core_coefs (w:World) (v:Value) (cs:List CoefM) (cols:Nat) (hv:CsIn w v cs) (hs:∀ x∈cs,x.2.length≤1000000∧-9223372036854775808≤x.1∧x.1≤9223372036854775807) (hcl:cols≤1000000000) (hln:cs.length≤9223372036854775807) (ht:Tab w) :
 Calls Tryz.prog 76 #[v,.int .i64 cols] w (Keeps (.bool (coefsFrom (-1) cs cols)) w):=by
 obtain ⟨A,c,rfl,hlc,hcell⟩:=hv
 have HC:=Lib.hid hcell
 have HS:=Lib.hid hs
 have HT:=Lib.hid ht
 clear hcell hs ht
 go_enter Tryz.func76,Tryz.ntmps76
 go_wp2_with fail
 go_loopg [12,5] cs.length (fun g t la wr=>∃ (k:Nat) (last:Int),t=.int .i64 k∧k+g=cs.length∧la=.int .i64 last∧Hid (coefsFrom (-1) cs cols=coefsFrom last (cs.drop k) cols)∧Below w.heap.size w wr)
 case atStart=>exact ⟨0,-1,rfl,by omega,rfl,Lib.hid rfl,Below.refl _ _⟩
 case round=>
  obtain ⟨k,last,rfl,hk,rfl,HF,hbr⟩:=hrel
  by_cases hlt:k<cs.length
  ·obtain ⟨x,hx⟩:∃ x,cs[k]?=some x:=⟨cs[k],by simp[hlt]⟩
   obtain ⟨g,o,rfl,hc1,hc2⟩:=HC.out k x hx
   have hc1':=cell_keep hc1 hbr
   have hc2':=cell_keep hc2 hbr
   obtain ⟨hxl,hx1,hx2⟩:=HS.out x (List.mem_of_getElem? hx)
   have HD:Hid (cs.drop k=x :: cs.drop (k+1)):=Lib.hid (by rw[List.drop_eq_getElem_cons hlt,show cs[k]=x from (List.getElem?_eq_some_iff.1 hx).2])
   obtain ⟨col,l⟩:=x
   dsimp only at hc1' hc2' hxl hx1 hx2
   have HF2:Hid (coefsFrom (-1) cs cols=(numberM l && decide (fracOf l≠0) && decide (last<col) && decide (col<cols) && coefsFrom col (cs.drop (k+1)) cols)):=Lib.hid (by rw[HF.out,HD.out];rfl)
   have HK:=Lib.hid hk
   clear hc1 hc2 hx HF HD hk
   obtain ⟨w1,hw1⟩:∃ X,X=wr.alloc (.cells #[.int .i64 col,.string ⟨l.toArray⟩] 24):=⟨_,rfl⟩
   have hb1:Below wr.heap.size wr w1:=by rw[hw1];exact (Below.refl _ _).alloc (Nat.le_refl _) _
   have hrow:Row w1 wr.heap.size 24 #[.int .i64 col,.string ⟨l.toArray⟩]:=by rw[hw1];exact Row.new _ _ _
   have hv0:w1.cell? ⟨wr.heap.size,0,none⟩=some (.int .i64 col):=hrow.cell 0
   have hv1:w1.cell? ⟨wr.heap.size,1,none⟩=some (.string ⟨l.toArray⟩):=hrow.cell 1
   have hB1:=below_seq hbr hb1
   have CG:=Lib.hid (frac_Get w1 l hxl (HT.out.keep hB1))
   unfold GotFrac at CG
   have HB1:=Lib.hid hB1
   clear hrow hb1 hB1 hbr
   go_upto_region 5 with fail
   rw[← hw1]
   clear hw1 hc1' hc2'
   go_wp2_with fail
   refine CG.out.mono ?_
   rintro e w2 (⟨h1,rfl,hb2⟩|⟨h1,y,rfl,hy,hfit,hb2⟩)
   ·have HB2:=Lib.hid (below_seq HB1.out hb2)
    have hn:numberM l=false:=numberM_no h1
    clear hb2
    go_wp2_with fail
    go_ret
    exact ⟨by rw[HF2.out,hn];rfl,HB2.out⟩
   ·have CS:=Lib.hid (frac_Sign w2 y (fracOf l) hy.at_ (hfit.mono (by omega)))
    have HB2:=Lib.hid (below_seq HB1.out hb2)
    have hn:numberM l=true:=numberM_yes h1
    have hv2:=cell_keep hv0 hb2
    obtain ⟨b9,_,_,rfl,_⟩:=id hy
    have HN:=Lib.hid hn
    clear hb2 hy hv0 hv1 hn h1 hfit
    go_wp2_with fail
    refine CS.out.mono ?_
    rintro e w3 ⟨rfl,hb3⟩
    have HB3:=Lib.hid (below_seq HB2.out hb3)
    have hv3:=cell_keep hv2 hb3
    have hsz:=signI_nil7 (q:=fracOf l)
    clear hb3 hv2
    by_cases hz:fracOf l=0
    ·have hz1:(signI (fracOf l) == 0)=true:=by rw[hsz];exact decide_eq_true hz
     have HR:Hid (coefsFrom (-1) cs cols=false):=Lib.hid (by rw[HF2.out,HN.out];simp[hz])
     clear hsz hz
     go_wp2_with fail
     go_ret
     exact ⟨by rw[HR.out];rfl,HB3.out⟩
    ·have hz1:(signI (fracOf l) == 0)=false:=by rw[hsz];exact decide_eq_false hz
     have HZ:Hid (fracOf l≠0):=Lib.hid hz
     clear hsz hz
     by_cases ha:col≤last
     ·have HR:Hid (coefsFrom (-1) cs cols=false):=Lib.hid (by rw[HF2.out,HN.out,decide_eq_false (by omega:¬ last<col)];simp)
      go_wp2_with fail
      go_ret
      exact ⟨by rw[HR.out];rfl,HB3.out⟩
     ·by_cases hb:(cols:Int)≤col
      ·have HR:Hid (coefsFrom (-1) cs cols=false):=Lib.hid (by rw[HF2.out,HN.out,decide_eq_false (by omega:¬ col<(cols:Int))];simp)
       go_wp2_with fail
       go_ret
       exact ⟨by rw[HR.out];rfl,HB3.out⟩
      ·have HR:Hid (coefsFrom (-1) cs cols=coefsFrom col (cs.drop (k+1)) cols):=Lib.hid (by rw[HF2.out,HN.out,decide_eq_true HZ.out,decide_eq_true (by omega:last<col),decide_eq_true (by omega:col<(cols:Int))];simp)
       go_wp2_with fail
       go_roundg (gk - 1)
       case measure=>have:=HK.out;omega
       case rel=>exact ⟨k+1,col,by go_num,by have:=HK.out;omega,rfl,HR,HB3.out⟩
  ·obtain rfl:k=cs.length:=by omega
   have HF2:Hid (coefsFrom (-1) cs cols=true):=Lib.hid (by rw[HF.out,List.drop_length];rfl)
   clear hk HF
   go_wp2_with fail
   go_ret
   exact ⟨by rw[HF2.out];rfl,hbr⟩
end Go.Proofs.YtbdfhnelmojbpaaGreatDoor
end
section
namespace Vic
open Go Go.RowKit
def BytesAt (w:World) (b:Nat) (l:Txt):Prop:=∀ (i:Nat) (x:UInt8),l[i]?=some x→w.cell? ⟨b,i,none⟩=some (.int .u8 (x.toNat:Int))
def anyIdx {α:Type}(p:α→Bool) (l:List α):Int:=match l.findIdx? p with|some i=>(i:Nat)|none=>-1
theorem anyIdx_hit {α:Type}{p:α→Bool}{l:List α}{k:Nat}{x:α}(h:l[k]?=some x) (hp:p x=true) (hn:∀ (j:Nat) (y:α),j<k→l[j]?=some y→p y=false):anyIdx p l=(k:Nat):=by
 unfold anyIdx
 have:l.findIdx? p=some k:=by
  obtain ⟨hk,hx⟩:=List.getElem?_eq_some_iff.1 h
  rw[List.findIdx?_eq_some_iff_getElem]
  refine ⟨hk,by rw[hx];exact hp,fun j hj=>?_⟩
  have:=hn j l[j] hj (by simp)
  simp[this]
 rw[this]
theorem anyIdx_miss {α:Type}{p:α→Bool}{l:List α}(hn:∀ (j:Nat) (y:α),l[j]?=some y→p y=false):anyIdx p l=-1:=by
 unfold anyIdx
 have:l.findIdx? p=none:=by
  rw[List.findIdx?_eq_none_iff]
  intro x hx
  obtain ⟨j,hj⟩:=List.getElem?_of_mem hx
  exact hn j x hj
 rw[this]
theorem anyIdx_any {α:Type}(p:α→Bool) (l:List α):decide (0≤anyIdx p l)=l.any p:=by
 unfold anyIdx
 cases h:l.findIdx? p with
 | none=>
   rw[List.findIdx?_eq_none_iff]at h
   have:l.any p=false:=List.any_eq_false.2 fun x hx=>by simpa using h x hx
   rw[this];rfl
 | some i=>
   obtain ⟨hi,hp,_⟩:=List.findIdx?_eq_some_iff_getElem.1 h
   have:l.any p=true:=List.any_eq_true.2 ⟨_,List.getElem_mem hi,hp⟩
   rw[this]
   simp
end Vic
namespace Go.Proofs.YtbdfhnelmojbpaaGreatDoor
open Go.Shelf Go.RowKit Vic
set_option maxRecDepth 100000 in
set_option maxHeartbeats 2000000 in
theorem idxf_byte (w:World) (b c:Nat) (l:Txt) (p:UInt8→Bool) (g:Nat) (hl:l.length≤c) (hm:c≤maxLen) (hc:BytesAt w b l) (eg:∀ args w,(callFunc g args).run Tryz.prog w=.ok (.enter g args) w) (H:∀ x wr,Calls Tryz.prog g #[.int .u8 (UInt8.toNat x:Int)] wr (Rets (.bool (p x)) wr)) :
 Calls Tryz.prog 113 #[.slice (some ⟨b,0,none⟩) l.length c,.func (.func g) #[] #[]] w (Rets (.int .i64 (anyIdx p l)) w):=by
 unfold maxLen at hm
 have HC:=Lib.hid hc
 have HH:=Lib.hid H
 have HM:Hid (∀ (j:Nat) (y:UInt8),j<0→l[j]?=some y→p y=false):=fun j y h=>by omega
 clear hc H
 go_enter Tryz.func113,Tryz.ntmps113
 go_wp2_with fail
 go_loop [8] (fun t=>∃ k:Nat,t=.int .i64 k∧k≤l.length∧Hid (∀ (j:Nat) (y:UInt8),j<k→l[j]?=some y→p y=false)) (fun t=>l.length - (intOf t).toNat)
 case atStart=>exact ⟨0,rfl,Nat.zero_le _,HM⟩
 case round=>
  obtain ⟨k,rfl,hk,hz⟩:=hrel
  by_cases hlt:k<l.length
  ·obtain ⟨x,hx⟩:∃ x,l[k]?=some x:=⟨l[k],by simp[hlt]⟩
   have hcell:=HC.out k x hx
   have CC:=Lib.hid (HH.out x)
   have HX:=Lib.hid hx
   clear hx
   by_cases hp:p x=true
   ·rw[hp]at CC
    have HP:=Lib.hid hp
    clear hp
    go_wp2_with fail
    refine (CC.out _).mono ?_
    rintro e w1 ⟨rfl,rfl⟩
    go_wp2_with fail
    go_ret
    exact ⟨ret_int (anyIdx_hit HX.out HP.out hz.out).symm,rfl⟩
   ·have hp':p x=false:=by simpa using hp
    rw[hp']at CC
    have hz2:Hid (∀ (j:Nat) (y:UInt8),j<k+1→l[j]?=some y→p y=false):=fun j y hj hy=>by
     rcases Nat.lt_or_eq_of_le (Nat.le_of_lt_succ hj)with h1|h1
     ·exact hz.out j y h1 hy
     ·subst h1
      rw[HX.out]at hy
      cases hy
      exact hp'
    clear hp hp'
    go_wp2_with fail
    refine (CC.out _).mono ?_
    rintro e w1 ⟨rfl,rfl⟩
    go_wp2_with fail
    go_round
    case rel=>exact ⟨k+1,rfl,by omega,hz2⟩
    case measure=>simp[intOf];omega
  ·obtain rfl:k=l.length:=by omega
   have hm2:Hid (anyIdx p l=-1):=anyIdx_miss fun j y hy=>hz.out j y (List.getElem?_eq_some_iff.1 hy).1 hy
   go_wp2_with fail
   go_ret
   exact ⟨ret_int hm2.out.symm,rfl⟩
theorem conf_byte (w:World) (b c:Nat) (l:Txt) (p:UInt8→Bool) (g:Nat) (hl:l.length≤c) (hm:c≤maxLen) (hc:BytesAt w b l) (eg:∀ args w,(callFunc g args).run Tryz.prog w=.ok (.enter g args) w) (H:∀ x wr,Calls Tryz.prog g #[.int .u8 (UInt8.toNat x:Int)] wr (Rets (.bool (p x)) wr)) :
 Calls Tryz.prog 46 #[.slice (some ⟨b,0,none⟩) l.length c,.func (.func g) #[] #[]] w (Rets (.bool (l.any p)) w):=by
 have CI:=Lib.hid (idxf_byte w b c l p g hl hm hc eg H)
 rw[← anyIdx_any]
 generalize anyIdx p l=i at *
 clear hc H eg
 go_enter Tryz.func46,Tryz.ntmps46
 go_wp2_with fail
 refine CI.out.mono ?_
 rintro e w1 ⟨rfl,rfl⟩
 go_wp2_with fail
 go_ret
 exact ⟨rfl,rfl⟩
theorem name_c1 (x:UInt8) (w:World):Calls Tryz.prog 47 #[.int .u8 (UInt8.toNat x:Int)] w (Rets (.bool (badC x)) w):=by
 have hx:=x.toNat_lt
 have e:badC x=(decide ((x.toNat:Int)≤32) || decide (126<(x.toNat:Int))):=by
  unfold badC
  rw[Bool.eq_iff_iff]
  simp[UInt8.le_iff_toNat_le,UInt8.lt_iff_toNat_lt]
  omega
 rw[e]
 generalize x.toNat=n at *
 by_cases h1:n≤32
 ·go_enter Tryz.func47,Tryz.ntmps47
  go_wp2_with fail
  go_ret
  exact ⟨ret_bool (by first|(simp;done)|(simp;omega)),rfl⟩
 ·by_cases h2:126<n
  ·go_enter Tryz.func47,Tryz.ntmps47
   go_wp2_with fail
   go_ret
   exact ⟨ret_bool (by first|(simp;done)|(simp;omega)),rfl⟩
  ·go_enter Tryz.func47,Tryz.ntmps47
   go_wp2_with fail
   go_ret
   exact ⟨ret_bool (by first|(simp;done)|(simp;omega)),rfl⟩
theorem bytes_of (w:World) (s:Txt) (hs:s.length≤140737488355328):∃ c w1,(convert 9 115 (.string ⟨s.toArray⟩)).run Tryz.prog w=.ok (.slice (some ⟨w.heap.size,0,none⟩) s.length c) w1∧s.length≤c∧c≤maxLen∧BytesAt w1 w.heap.size s∧Below w.heap.size w w1:=by
 have hsz:(⟨s.toArray⟩:ByteArray).size=s.length:=by show s.toArray.size=_;simp
 have h:=Lib.run_convert_string_bytes (P:=Tryz.prog) w 9 115 5 ⟨s.toArray⟩ (u:=.string) (by kernel_rfl) (by kernel_rfl) (by kernel_rfl)
 rw[hsz]at h
 refine ⟨_,_,h,grownCap_ge _ _ _ _,grownCap_le_maxLen _ _ _ _ (by unfold maxLen;omega),fun i x hx=>?_,Lib.bytesWorld_below _ _ _⟩
 have hi:=(List.getElem?_eq_some_iff.1 hx).1
 rw[Lib.bytesWorld_cell w _ ⟨s.toArray⟩ i (by rw[hsz];exact hi)]
 simp[List.getD,hx]
theorem enter_name:∀ args w,(callFunc 47 args).run Tryz.prog w=.ok (.enter 47 args) w:=fun _ _=>by kernel_rfl
set_option maxRecDepth 100000 in
theorem words_Name (w:World) (s:Txt) (hs:s.length≤140737488355328):Calls Tryz.prog 14 #[.string ⟨s.toArray⟩] w (Keeps (.bool (nameB s)) w):=by
 obtain ⟨c,w1,hcv,h1,h2,h3,hb⟩:=bytes_of w s hs
 have CF:=Lib.hid (conf_byte w1 w.heap.size c s badC 47 h1 h2 h3 enter_name fun x wr=>name_c1 x wr)
 have hn:nameB s=(!s.any badC && decide (1≤s.length) && decide (s.length≤20)):=rfl
 rw[hn]
 have hsz:(⟨s.toArray⟩:ByteArray).size=s.length:=by show s.toArray.size=_;simp
 have HZ:=Lib.hid hsz
 generalize s.any badC=bad at *
 clear hn h1 h2 h3 hsz hs
 go_enter Tryz.func14,Tryz.ntmps14
 go_wp2_with fail
 refine CF.out.mono ?_
 rintro e w2 ⟨rfl,rfl⟩
 cases bad
 ·by_cases h4:1≤s.length
  ·by_cases h5:s.length≤20
   ·go_wp2_with fail
    go_ret
    exact ⟨ret_bool (by simp[h4,h5];try omega),hb⟩
   ·go_wp2_with fail
    go_ret
    exact ⟨ret_bool (by simp[h4,h5];try omega),hb⟩
  ·go_wp2_with fail
   go_ret
   exact ⟨ret_bool (by simp[h4];try omega),hb⟩
 ·go_wp2_with fail
  go_ret
  exact ⟨rfl,hb⟩
end Go.Proofs.YtbdfhnelmojbpaaGreatDoor
end
section
namespace Go.Proofs.YtbdfhnelmojbpaaGreatDoor
open Go.RowKit Vic
set_option maxRecDepth 100000 in
set_option maxHeartbeats 4000000 in
theorem idxf_row {p:RowM→Bool}{fg:Nat}{lb:Array Value}(w:World) (v:Value) (l:List RowM) (hv:Vic.RowsIn w v l) (hl:l.length≤1000000)
 (eg:∀ args w,(callFunc fg args).run Tryz.prog w=.ok (.enter fg args) w)
 (HP:∀ (W:World) (x:RowM) (cv:Value),x∈l→Below w.heap.size w W→CsIn W cv x.coef→Calls Tryz.prog fg (#[.agg #[.string ⟨x.name.toArray⟩,.int .i64 x.kind,cv,.string ⟨x.rhs.toArray⟩,.string ⟨x.range.toArray⟩]] ++ lb) W (Keeps (.bool (p x)) W)) :
 Calls Tryz.prog 64 #[v,.func (.func fg) #[] lb] w (Keeps (.int .i64 (anyIdx p l)) w):=by
 obtain ⟨A,c,rfl,hlc,hcell⟩:=hv
 have HC:=Lib.hid hcell
 have HP:=Lib.hid HP
 clear hcell
 go_enter Tryz.func64,Tryz.ntmps64
 go_wp2_with fail
 go_loopg [8] l.length (fun gg t wr=>∃ k:Nat,t=.int .i64 k∧k+gg=l.length∧Hid (∀ (j:Nat) (y:RowM),j<k→l[j]?=some y→p y=false)∧Below w.heap.size w wr)
 case atStart=>exact ⟨0,rfl,by omega,Lib.hid fun j y h=>by omega,Below.refl _ _⟩
 case round=>
  obtain ⟨k,rfl,hk,HZ,hbr⟩:=hrel
  by_cases hlt:k<l.length
  ·obtain ⟨x,hx⟩:∃ x,l[k]?=some x:=⟨l[k],by simp[hlt]⟩
   obtain ⟨g,o,rfl,cv,c0,c1,c2,c3,c4,hcs⟩:=HC.out k x hx
   have d0:=cell_keep c0 hbr;have d1:=cell_keep c1 hbr;have d2:=cell_keep c2 hbr;have d3:=cell_keep c3 hbr;have d4:=cell_keep c4 hbr
   obtain ⟨cA,cc,rfl,hcc,_⟩:=id hcs
   have CP:=Lib.hid (HP.out wr x _ (List.mem_of_getElem? hx) hbr (hcs.keep CoefR.firm hbr))
   obtain ⟨b,hb⟩:∃ b,b=p x:=⟨_,rfl⟩
   rw[← hb]at CP
   have HX:=Lib.hid hx
   have HB:=Lib.hid hb
   have HK:=Lib.hid hk
   have HBR:=Lib.hid hbr
   clear c0 c1 c2 c3 c4 hcs hx hb hk hbr
   go_wp2_with fail
   refine CP.out.mono ?_
   rintro e w1 ⟨rfl,hb1⟩
   have HB1:=Lib.hid (below_seq HBR.out hb1)
   clear hb1 d0 d1 d2 d3 d4
   cases b
   ·go_wp2_with fail
    go_roundg (gk - 1)
    case measure=>have:=HK.out;omega
    case rel=>exact ⟨k+1,by go_num,by have:=HK.out;omega,Lib.hid fun j y hj hy=>by
     rcases Nat.lt_or_eq_of_le (Nat.le_of_lt_succ hj)with h1|h1
     ·exact HZ.out j y h1 hy
     ·subst h1
      rw[HX.out]at hy
      cases hy
      exact HB.out.symm,HB1.out⟩
   ·have hi:Hid (anyIdx p l=(k:Nat)):=Lib.hid (anyIdx_hit HX.out HB.out.symm fun j y hj hy=>HZ.out j y hj hy)
    go_wp2_with fail
    go_ret
    exact ⟨by rw[hi.out];rfl,HB1.out⟩
  ·obtain rfl:k=l.length:=by omega
   have hi:Hid (anyIdx p l=-1):=Lib.hid (anyIdx_miss fun j y hy=>HZ.out j y (List.getElem?_eq_some_iff.1 hy).1 hy)
   clear hk
   go_wp2_with fail
   go_ret
   exact ⟨by rw[hi.out];rfl,hbr⟩
theorem anyf_row {p:RowM→Bool}{fg:Nat}{lb:Array Value}(w:World) (v:Value) (l:List RowM) (hv:Vic.RowsIn w v l) (hl:l.length≤1000000)
 (eg:∀ args w,(callFunc fg args).run Tryz.prog w=.ok (.enter fg args) w)
 (HP:∀ (W:World) (x:RowM) (cv:Value),x∈l→Below w.heap.size w W→CsIn W cv x.coef→Calls Tryz.prog fg (#[.agg #[.string ⟨x.name.toArray⟩,.int .i64 x.kind,cv,.string ⟨x.rhs.toArray⟩,.string ⟨x.range.toArray⟩]] ++ lb) W (Keeps (.bool (p x)) W)) :
 Calls Tryz.prog 80 #[v,.func (.func fg) #[] lb] w (Keeps (.bool (l.any p)) w):=by
 have CI:=Lib.hid (idxf_row w v l hv hl eg HP)
 rw[← anyIdx_any]
 generalize anyIdx p l=i at *
 clear hv HP
 go_enter Tryz.func80,Tryz.ntmps80
 go_wp2_with fail
 refine CI.out.mono ?_
 rintro e w1 ⟨rfl,hb1⟩
 go_wp2_with fail
 go_ret
 exact ⟨rfl,hb1⟩
set_option maxRecDepth 100000 in
set_option maxHeartbeats 4000000 in
theorem idxf_col {p:ColM→Bool}{fg:Nat}{lb:Array Value}(w:World) (v:Value) (l:List ColM) (hv:ColsIn w v l) (hl:l.length≤1000000)
 (eg:∀ args w,(callFunc fg args).run Tryz.prog w=.ok (.enter fg args) w)
 (HP:∀ (W:World) (x:ColM) ,x∈l→Below w.heap.size w W→Calls Tryz.prog fg (#[.agg #[.string ⟨x.name.toArray⟩,.string ⟨x.low.toArray⟩,.string ⟨x.up.toArray⟩,.string ⟨x.cost.toArray⟩,.bool x.int]] ++ lb) W (Keeps (.bool (p x)) W)) :
 Calls Tryz.prog 66 #[v,.func (.func fg) #[] lb] w (Keeps (.int .i64 (anyIdx p l)) w):=by
 obtain ⟨A,c,rfl,hlc,hcell⟩:=hv
 have HC:=Lib.hid hcell
 have HP:=Lib.hid HP
 clear hcell
 go_enter Tryz.func66,Tryz.ntmps66
 go_wp2_with fail
 go_loopg [8] l.length (fun gg t wr=>∃ k:Nat,t=.int .i64 k∧k+gg=l.length∧Hid (∀ (j:Nat) (y:ColM),j<k→l[j]?=some y→p y=false)∧Below w.heap.size w wr)
 case atStart=>exact ⟨0,rfl,by omega,Lib.hid fun j y h=>by omega,Below.refl _ _⟩
 case round=>
  obtain ⟨k,rfl,hk,HZ,hbr⟩:=hrel
  by_cases hlt:k<l.length
  ·obtain ⟨x,hx⟩:∃ x,l[k]?=some x:=⟨l[k],by simp[hlt]⟩
   obtain ⟨g,o,rfl,c0,c1,c2,c3,c4⟩:=HC.out k x hx
   have d0:=cell_keep c0 hbr;have d1:=cell_keep c1 hbr;have d2:=cell_keep c2 hbr;have d3:=cell_keep c3 hbr;have d4:=cell_keep c4 hbr
   have CP:=Lib.hid (HP.out wr x (List.mem_of_getElem? hx) hbr)
   obtain ⟨b,hb⟩:∃ b,b=p x:=⟨_,rfl⟩
   rw[← hb]at CP
   have HX:=Lib.hid hx
   have HB:=Lib.hid hb
   have HK:=Lib.hid hk
   have HBR:=Lib.hid hbr
   clear c0 c1 c2 c3 c4 hx hb hk hbr
   go_wp2_with fail
   refine CP.out.mono ?_
   rintro e w1 ⟨rfl,hb1⟩
   have HB1:=Lib.hid (below_seq HBR.out hb1)
   clear hb1 d0 d1 d2 d3 d4
   cases b
   ·go_wp2_with fail
    go_roundg (gk - 1)
    case measure=>have:=HK.out;omega
    case rel=>exact ⟨k+1,by go_num,by have:=HK.out;omega,Lib.hid fun j y hj hy=>by
     rcases Nat.lt_or_eq_of_le (Nat.le_of_lt_succ hj)with h1|h1
     ·exact HZ.out j y h1 hy
     ·subst h1
      rw[HX.out]at hy
      cases hy
      exact HB.out.symm,HB1.out⟩
   ·have hi:Hid (anyIdx p l=(k:Nat)):=Lib.hid (anyIdx_hit HX.out HB.out.symm fun j y hj hy=>HZ.out j y hj hy)
    go_wp2_with fail
    go_ret
    exact ⟨by rw[hi.out];rfl,HB1.out⟩
  ·obtain rfl:k=l.length:=by omega
   have hi:Hid (anyIdx p l=-1):=Lib.hid (anyIdx_miss fun j y hy=>HZ.out j y (List.getElem?_eq_some_iff.1 hy).1 hy)
   clear hk
   go_wp2_with fail
   go_ret
   exact ⟨by rw[hi.out];rfl,hbr⟩
theorem anyf_col {p:ColM→Bool}{fg:Nat}{lb:Array Value}(w:World) (v:Value) (l:List ColM) (hv:ColsIn w v l) (hl:l.length≤1000000)
 (eg:∀ args w,(callFunc fg args).run Tryz.prog w=.ok (.enter fg args) w)
 (HP:∀ (W:World) (x:ColM) ,x∈l→Below w.heap.size w W→Calls Tryz.prog fg (#[.agg #[.string ⟨x.name.toArray⟩,.string ⟨x.low.toArray⟩,.string ⟨x.up.toArray⟩,.string ⟨x.cost.toArray⟩,.bool x.int]] ++ lb) W (Keeps (.bool (p x)) W)) :
 Calls Tryz.prog 81 #[v,.func (.func fg) #[] lb] w (Keeps (.bool (l.any p)) w):=by
 have CI:=Lib.hid (idxf_col w v l hv hl eg HP)
 rw[← anyIdx_any]
 generalize anyIdx p l=i at *
 clear hv HP
 go_enter Tryz.func81,Tryz.ntmps81
 go_wp2_with fail
 refine CI.out.mono ?_
 rintro e w1 ⟨rfl,hb1⟩
 go_wp2_with fail
 go_ret
 exact ⟨rfl,hb1⟩
set_option maxRecDepth 100000 in
set_option maxHeartbeats 4000000 in
theorem idxf_coef {p:CoefM→Bool}{fg:Nat}{lb:Array Value}(w:World) (v:Value) (l:List CoefM) (hv:CsIn w v l) (hl:l.length≤1000000)
 (eg:∀ args w,(callFunc fg args).run Tryz.prog w=.ok (.enter fg args) w)
 (HP:∀ (W:World) (x:CoefM) ,x∈l→Below w.heap.size w W→Calls Tryz.prog fg (#[.agg #[.int .i64 x.1,.string ⟨x.2.toArray⟩]] ++ lb) W (Keeps (.bool (p x)) W)) :
 Calls Tryz.prog 161 #[v,.func (.func fg) #[] lb] w (Keeps (.int .i64 (anyIdx p l)) w):=by
 obtain ⟨A,c,rfl,hlc,hcell⟩:=hv
 have HC:=Lib.hid hcell
 have HP:=Lib.hid HP
 clear hcell
 go_enter Tryz.func161,Tryz.ntmps161
 go_wp2_with fail
 go_loopg [8] l.length (fun gg t wr=>∃ k:Nat,t=.int .i64 k∧k+gg=l.length∧Hid (∀ (j:Nat) (y:CoefM),j<k→l[j]?=some y→p y=false)∧Below w.heap.size w wr)
 case atStart=>exact ⟨0,rfl,by omega,Lib.hid fun j y h=>by omega,Below.refl _ _⟩
 case round=>
  obtain ⟨k,rfl,hk,HZ,hbr⟩:=hrel
  by_cases hlt:k<l.length
  ·obtain ⟨x,hx⟩:∃ x,l[k]?=some x:=⟨l[k],by simp[hlt]⟩
   obtain ⟨g,o,rfl,c0,c1⟩:=HC.out k x hx
   have d0:=cell_keep c0 hbr;have d1:=cell_keep c1 hbr
   have CP:=Lib.hid (HP.out wr x (List.mem_of_getElem? hx) hbr)
   obtain ⟨b,hb⟩:∃ b,b=p x:=⟨_,rfl⟩
   rw[← hb]at CP
   have HX:=Lib.hid hx
   have HB:=Lib.hid hb
   have HK:=Lib.hid hk
   have HBR:=Lib.hid hbr
   clear c0 c1 hx hb hk hbr
   go_wp2_with fail
   refine CP.out.mono ?_
   rintro e w1 ⟨rfl,hb1⟩
   have HB1:=Lib.hid (below_seq HBR.out hb1)
   clear hb1 d0 d1
   cases b
   ·go_wp2_with fail
    go_roundg (gk - 1)
    case measure=>have:=HK.out;omega
    case rel=>exact ⟨k+1,by go_num,by have:=HK.out;omega,Lib.hid fun j y hj hy=>by
     rcases Nat.lt_or_eq_of_le (Nat.le_of_lt_succ hj)with h1|h1
     ·exact HZ.out j y h1 hy
     ·subst h1
      rw[HX.out]at hy
      cases hy
      exact HB.out.symm,HB1.out⟩
   ·have hi:Hid (anyIdx p l=(k:Nat)):=Lib.hid (anyIdx_hit HX.out HB.out.symm fun j y hj hy=>HZ.out j y hj hy)
    go_wp2_with fail
    go_ret
    exact ⟨by rw[hi.out];rfl,HB1.out⟩
  ·obtain rfl:k=l.length:=by omega
   have hi:Hid (anyIdx p l=-1):=Lib.hid (anyIdx_miss fun j y hy=>HZ.out j y (List.getElem?_eq_some_iff.1 hy).1 hy)
   clear hk
   go_wp2_with fail
   go_ret
   exact ⟨by rw[hi.out];rfl,hbr⟩
theorem anyf_coef {p:CoefM→Bool}{fg:Nat}{lb:Array Value}(w:World) (v:Value) (l:List CoefM) (hv:CsIn w v l) (hl:l.length≤1000000)
 (eg:∀ args w,(callFunc fg args).run Tryz.prog w=.ok (.enter fg args) w)
 (HP:∀ (W:World) (x:CoefM) ,x∈l→Below w.heap.size w W→Calls Tryz.prog fg (#[.agg #[.int .i64 x.1,.string ⟨x.2.toArray⟩]] ++ lb) W (Keeps (.bool (p x)) W)) :
 Calls Tryz.prog 94 #[v,.func (.func fg) #[] lb] w (Keeps (.bool (l.any p)) w):=by
 have CI:=Lib.hid (idxf_coef w v l hv hl eg HP)
 rw[← anyIdx_any]
 generalize anyIdx p l=i at *
 clear hv HP
 go_enter Tryz.func94,Tryz.ntmps94
 go_wp2_with fail
 refine CI.out.mono ?_
 rintro e w1 ⟨rfl,hb1⟩
 go_wp2_with fail
 go_ret
 exact ⟨rfl,hb1⟩
end Go.Proofs.YtbdfhnelmojbpaaGreatDoor
end
section
namespace Vic
open Go Go.RowKit
def FitRow (r:RowM):Prop:=r.name.length≤1000000∧r.rhs.length≤1000000∧r.range.length≤1000000∧r.coef.length≤1000000000∧(∀ x∈r.coef,x.2.length≤1000000∧-9223372036854775808≤x.1∧x.1≤9223372036854775807)∧-9223372036854775808≤r.kind∧r.kind≤9223372036854775807
def FitCol (x:ColM):Prop:=x.name.length≤1000000∧x.low.length≤1000000∧x.up.length≤1000000∧x.cost.length≤1000000
structure FitCore (c:CoreM):Prop where
 name:c.name.length≤1000000
 obj:c.obj.length≤1000000
 rl:c.rows.length≤1000000
 cl:c.cols.length≤1000000
 rows:∀ r∈c.rows,FitRow r
 cols:∀ x∈c.cols,FitCol x
noncomputable def badRow (n:Nat) (r:RowM):Bool:=!numberM r.rhs || !maybeM r.range || !coefsFrom (-1) r.coef n
noncomputable def badCol (x:ColM):Bool:=!numberM x.cost || !maybeM x.low || !maybeM x.up
def badKind (r:RowM):Bool:=decide (r.kind<1) || decide (3<r.kind)
end Vic
namespace Go.Proofs.YtbdfhnelmojbpaaGreatDoor
open Go.RowKit Vic
theorem enter_may1:∀ args w,(callFunc 73 args).run Tryz.prog w=.ok (.enter 73 args) w:=fun _ _=>by kernel_rfl
theorem enter_may2:∀ args w,(callFunc 77 args).run Tryz.prog w=.ok (.enter 77 args) w:=fun _ _=>by kernel_rfl
theorem enter_may3:∀ args w,(callFunc 78 args).run Tryz.prog w=.ok (.enter 78 args) w:=fun _ _=>by kernel_rfl
theorem may_c3 (w:World) (r:RowM) (cv:Value) (hcs:CsIn w cv r.coef) (hk1 : -9223372036854775808≤r.kind) (hk2:r.kind≤9223372036854775807):Calls Tryz.prog 78 (#[.agg #[.string ⟨r.name.toArray⟩,.int .i64 r.kind,cv,.string ⟨r.rhs.toArray⟩,.string ⟨r.range.toArray⟩]] ++ #[]) w (Keeps (.bool (badKind r)) w):=by
 have hM:Hid (badKind r=(decide (r.kind<1) || decide (3<r.kind))):=rfl
 generalize badKind r=b at *
 obtain ⟨name,kind,coef,rhs,range⟩:=r
 obtain ⟨cA,cc,rfl,_,_⟩:=hcs
 dsimp only at hM hk1 hk2 ⊢
 by_cases h1:kind<1
 ·go_enter Tryz.func78,Tryz.ntmps78
  go_wp2_with fail
  go_ret
  exact ⟨by rw[hM.out,decide_eq_true h1];rfl,(Below.refl _ _).alloc (Nat.le_refl _) _⟩
 ·by_cases h2:3<kind
  ·go_enter Tryz.func78,Tryz.ntmps78
   go_wp2_with fail
   go_ret
   exact ⟨by rw[hM.out,decide_eq_true h2];simp,(Below.refl _ _).alloc (Nat.le_refl _) _⟩
  ·go_enter Tryz.func78,Tryz.ntmps78
   go_wp2_with fail
   go_ret
   exact ⟨by rw[hM.out,decide_eq_false (by omega),decide_eq_false (by omega)];rfl,(Below.refl _ _).alloc (Nat.le_refl _) _⟩
theorem may_c2 (w:World) (x:ColM) (ht:Tab w) (hf:FitCol x):Calls Tryz.prog 77 (#[.agg #[.string ⟨x.name.toArray⟩,.string ⟨x.low.toArray⟩,.string ⟨x.up.toArray⟩,.string ⟨x.cost.toArray⟩,.bool x.int]] ++ #[]) w (Keeps (.bool (badCol x)) w):=by
 have hM:Hid (badCol x=(!numberM x.cost || !maybeM x.low || !maybeM x.up)):=rfl
 generalize badCol x=b at *
 obtain ⟨_,hl,hu,hc⟩:=hf
 obtain ⟨name,low,up,cost,int⟩:=x
 dsimp only at hM hl hu hc ⊢
 obtain ⟨w1,hw1⟩:∃ X,X=w.alloc (.cells #[.string ⟨name.toArray⟩,.string ⟨low.toArray⟩,.string ⟨up.toArray⟩,.string ⟨cost.toArray⟩,.bool int] 31):=⟨_,rfl⟩
 have hb1:Below w.heap.size w w1:=by rw[hw1];exact (Below.refl _ _).alloc (Nat.le_refl _) _
 have hrow:Row w1 w.heap.size 31 #[.string ⟨name.toArray⟩,.string ⟨low.toArray⟩,.string ⟨up.toArray⟩,.string ⟨cost.toArray⟩,.bool int]:=by rw[hw1];exact Row.new _ _ _
 have c1:w1.cell? ⟨w.heap.size,1,none⟩=some (.string ⟨low.toArray⟩):=hrow.cell 1
 have c2:w1.cell? ⟨w.heap.size,2,none⟩=some (.string ⟨up.toArray⟩):=hrow.cell 2
 have c3:w1.cell? ⟨w.heap.size,3,none⟩=some (.string ⟨cost.toArray⟩):=hrow.cell 3
 have CC:=Lib.hid (core_numb w1 cost hc (ht.keep hb1))
 have CL:Hid (∀ W,Below w1.heap.size w1 W→Calls Tryz.prog 75 #[.string ⟨low.toArray⟩] W (Keeps (.bool (maybeM low)) W)):=Lib.hid fun W h=>core_mayb W low hl ((ht.keep hb1).keep h)
 have CU:Hid (∀ W,Below w1.heap.size w1 W→Calls Tryz.prog 75 #[.string ⟨up.toArray⟩] W (Keeps (.bool (maybeM up)) W)):=Lib.hid fun W h=>core_mayb W up hu ((ht.keep hb1).keep h)
 have HB1:=Lib.hid hb1
 clear hrow hb1 ht hl hu hc
 go_enter Tryz.func77,Tryz.ntmps77
 go_upto_region 1 with fail
 rw[← hw1]
 clear hw1
 obtain ⟨b1,hb1⟩:∃ x,x=numberM cost:=⟨_,rfl⟩
 obtain ⟨b2,hb2⟩:∃ x,x=maybeM low:=⟨_,rfl⟩
 obtain ⟨b3,hb3⟩:∃ x,x=maybeM up:=⟨_,rfl⟩
 rw[← hb1]at CC hM
 rw[← hb2]at CL hM
 rw[← hb3]at CU hM
 clear hb1 hb2 hb3
 go_wp2_with fail
 refine CC.out.mono ?_
 rintro e w2 ⟨rfl,h2⟩
 have C2:=Lib.hid (CL.out w2 h2)
 have c1':=cell_keep c1 h2
 have c2':=cell_keep c2 h2
 have H2:=Lib.hid h2
 clear h2 c1 c2 c3
 cases b1
 ·go_wp2_with fail
  go_ret
  exact ⟨by rw[hM.out];rfl,below_seq HB1.out H2.out⟩
 ·go_wp2_with fail
  refine C2.out.mono ?_
  rintro e w3 ⟨rfl,h3⟩
  have H3:=Lib.hid (below_seq H2.out h3)
  have C3:=Lib.hid (CU.out w3 (below_seq H2.out h3))
  have c2'':=cell_keep c2' h3
  clear h3 c1' c2'
  cases b2
  ·go_wp2_with fail
   go_ret
   exact ⟨by rw[hM.out];rfl,below_seq HB1.out H3.out⟩
  ·go_wp2_with fail
   refine C3.out.mono ?_
   rintro e w4 ⟨rfl,h4⟩
   go_wp2_with fail
   go_ret
   exact ⟨by rw[hM.out];cases b3<;>rfl,below_seq HB1.out (below_seq H3.out h4)⟩
set_option maxRecDepth 100000 in
set_option maxHeartbeats 4000000 in
theorem may_c1 (w:World) (r:RowM) (cv:Value) (bx n:Nat) (xA:Option Addr) (xc:Nat) (hbx:w.cell? ⟨bx,3,none⟩=some (.slice xA n xc)) (hn:n≤1000000000) (hcs:CsIn w cv r.coef) (ht:Tab w) (hf:FitRow r) :
 Calls Tryz.prog 73 (#[.agg #[.string ⟨r.name.toArray⟩,.int .i64 r.kind,cv,.string ⟨r.rhs.toArray⟩,.string ⟨r.range.toArray⟩]] ++ #[.pointer (some ⟨bx,0,none⟩)]) w (Keeps (.bool (badRow n r)) w):=by
 have hM:Hid (badRow n r=(!numberM r.rhs || !maybeM r.range || !coefsFrom (-1) r.coef n)):=rfl
 generalize badRow n r=b at *
 obtain ⟨_,hrl,hgl,hcl,hco,_,_⟩:=hf
 obtain ⟨name,kind,coef,rhs,range⟩:=r
 dsimp only at hM hrl hgl hcl hco hcs ⊢
 have HCS:=Lib.hid hcs
 obtain ⟨cA,cc,rfl,hcc,_⟩:=hcs
 obtain ⟨w1,hw1⟩:∃ X,X=w.alloc (.cells #[.string ⟨name.toArray⟩,.int .i64 kind,.slice cA coef.length cc,.string ⟨rhs.toArray⟩,.string ⟨range.toArray⟩] 28):=⟨_,rfl⟩
 have hb1:Below w.heap.size w w1:=by rw[hw1];exact (Below.refl _ _).alloc (Nat.le_refl _) _
 have hrow:Row w1 w.heap.size 28 #[.string ⟨name.toArray⟩,.int .i64 kind,.slice cA coef.length cc,.string ⟨rhs.toArray⟩,.string ⟨range.toArray⟩]:=by rw[hw1];exact Row.new _ _ _
 have c2:w1.cell? ⟨w.heap.size,2,none⟩=some (.slice cA coef.length cc):=hrow.cell 2
 have c3:w1.cell? ⟨w.heap.size,3,none⟩=some (.string ⟨rhs.toArray⟩):=hrow.cell 3
 have c4:w1.cell? ⟨w.heap.size,4,none⟩=some (.string ⟨range.toArray⟩):=hrow.cell 4
 have cx:=cell_keep hbx hb1
 have CC:=Lib.hid (core_numb w1 rhs hrl (ht.keep hb1))
 have CL:Hid (∀ W,Below w1.heap.size w1 W→Calls Tryz.prog 75 #[.string ⟨range.toArray⟩] W (Keeps (.bool (maybeM range)) W)):=Lib.hid fun W h=>core_mayb W range hgl ((ht.keep hb1).keep h)
 have CU:Hid (∀ W,Below w1.heap.size w1 W→Calls Tryz.prog 76 #[.slice cA coef.length cc,.int .i64 n] W (Keeps (.bool (coefsFrom (-1) coef n)) W)):=Lib.hid fun W h=>core_coefs W _ coef n (HCS.out.keep CoefR.firm (below_seq hb1 h)) hco hn (by omega) ((ht.keep hb1).keep h)
 have HB1:=Lib.hid hb1
 clear hrow hb1 ht hrl hgl hco hbx
 go_enter Tryz.func73,Tryz.ntmps73
 go_upto_region 1 with fail
 rw[← hw1]
 clear hw1
 obtain ⟨b1,hb1⟩:∃ x,x=numberM rhs:=⟨_,rfl⟩
 obtain ⟨b2,hb2⟩:∃ x,x=maybeM range:=⟨_,rfl⟩
 obtain ⟨b3,hb3⟩:∃ x,x=coefsFrom (-1) coef n:=⟨_,rfl⟩
 rw[← hb1]at CC hM
 rw[← hb2]at CL hM
 rw[← hb3]at CU hM
 clear hb1 hb2 hb3
 go_wp2_with fail
 refine CC.out.mono ?_
 rintro e w2 ⟨rfl,h2⟩
 have C2:=Lib.hid (CL.out w2 h2)
 have c2':=cell_keep c2 h2
 have c4':=cell_keep c4 h2
 have cx':=cell_keep cx h2
 have H2:=Lib.hid h2
 clear h2 c2 c3 c4 cx
 cases b1
 ·go_wp2_with fail
  go_ret
  exact ⟨by rw[hM.out];rfl,below_seq HB1.out H2.out⟩
 ·go_wp2_with fail
  refine C2.out.mono ?_
  rintro e w3 ⟨rfl,h3⟩
  have H3:=Lib.hid (below_seq H2.out h3)
  have C3:=Lib.hid (CU.out w3 (below_seq H2.out h3))
  have c2'':=cell_keep c2' h3
  have cx'':=cell_keep cx' h3
  clear h3 c2' c4' cx'
  cases b2
  ·go_wp2_with fail
   go_ret
   exact ⟨by rw[hM.out];rfl,below_seq HB1.out H3.out⟩
  ·go_wp2_with fail
   refine C3.out.mono ?_
   rintro e w4 ⟨rfl,h4⟩
   go_wp2_with fail
   go_ret
   exact ⟨by rw[hM.out];cases b3<;>rfl,below_seq HB1.out (below_seq H3.out h4)⟩
end Go.Proofs.YtbdfhnelmojbpaaGreatDoor
end
