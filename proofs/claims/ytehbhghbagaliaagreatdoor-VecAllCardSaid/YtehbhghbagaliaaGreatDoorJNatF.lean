/- Package nat: one digit of a long quotient. -/
import Derived.Test.YtehbhghbagaliaaGreatDoorJWalkB
import Derived.Test.YtehbhghbagaliaaGreatDoorJRegion
import Derived.Test.YtehbhghbagaliaaGreatDoorJWalkA
import Derived.Test.YtehbhghbagaliaaGreatDoorJPlainA
import Derived.Deep.QuietTactic
import Derived.BigQuiet
import Derived.Deep.DeepCutAuto
import Derived.Deep.CutBlock
set_option linter.unusedVariables false
set_option linter.unusedSimpArgs false
namespace Go.Proofs.YtehbhghbagaliaaGreatDoor
open Go.RowKit Vic
theorem step_min1 (q1 q0:Nat) (h0:q0=min q1 4294967295) (hw:q1<18446744073709551616) (h:(4294967295:Int)<IntKind.u64.wrap (q1:Int)):q0=4294967295:=by
 rw[IntKind.wrap_u64]at h;omega
theorem step_min2 (q1 q0:Nat) (h0:q0=min q1 4294967295) (hw:q1<18446744073709551616) (h:¬ (4294967295:Int)<IntKind.u64.wrap (q1:Int)):(IntKind.u64.wrap (q1:Int))=(q0:Int):=by
 rw[IntKind.wrap_u64]at *;omega
theorem step_rest (two q b:Nat) (h:two<18446744073709551616) (hq:q*b≤two):IntKind.u64.wrap ((two:Int) - IntKind.u64.wrap ((q:Int)*(b:Int)))=((two - q*b:Nat):Int):=by
 have e:((q*b:Nat):Int)=(q:Int)*(b:Int):=Int.natCast_mul _ _
 rw[← e]
 generalize q*b=p at *
 simp only[IntKind.wrap_u64]
 omega
theorem wrap_dec (q:Nat) (h1:1≤q) (h:q≤4294967295):IntKind.u64.wrap ((q:Int) - 1)=((q - 1:Nat):Int):=by
 rw[IntKind.wrap_u64];omega
theorem wrap_add2 (r b:Nat) (h1:r≤4294967295) (h:b<4294967296):IntKind.u64.wrap ((r:Int)+(b:Int))=((r+b:Nat):Int):=by
 rw[IntKind.wrap_u64];omega
theorem step_carry (c q y:Nat) (hc:c<4294967296) (hq:q<4294967296) (hy:y<4294967296) :
 IntKind.u64.wrap ((c:Int)+IntKind.u64.wrap ((q:Int)*IntKind.u64.wrap (y:Int)))=((c+q*y:Nat):Int):=by
 rw[wrap64_small y hy]
 have h1:q*y≤4294967295*4294967295:=Nat.mul_le_mul (by omega) (by omega)
 have e:((q*y:Nat):Int)=(q:Int)*(y:Int):=Int.natCast_mul _ _
 rw[← e]
 generalize q*y=m at *
 simp only[IntKind.wrap_u64]
 omega
theorem step_diff (x S:Nat) (r:Int) (hx:x<4294967296) (hr:r=0∨r=-1) :
 wrap64 (r+wrap64 (wrap64 (x:Int) - (S:Int) % 4294967296))=r+((x:Int) - ((S % 4294967296:Nat):Int)):=by
 unfold wrap64;omega
theorem step_top (x c:Nat) (r:Int) (hx:x<4294967296) (hc:c<4294967296) (hr:r=0∨r=-1) :
 wrap64 (r+wrap64 (wrap64 (x:Int) - wrap64 (c:Int)))=r+((x:Int) - (c:Int)):=by
 unfold wrap64;omega
theorem dig_yes {a b q v:Nat}(hb:0<b) (hq:q=a / b∨q=a / b+1) (h:(v:Int)=(a:Int) - (q:Int)*(b:Int)):q=a / b∧v=a % b:=by
 have e:=Nat.div_add_mod a b
 have hm:=Nat.mod_lt a hb
 have e2:((q*b:Nat):Int)=(q:Int)*(b:Int):=Int.natCast_mul _ _
 rw[← e2]at h
 rcases hq with hq|hq
 ·refine ⟨hq,?_⟩
  rw[← hq,Nat.mul_comm]at e
  generalize q*b=p at *
  generalize a % b=z at *
  omega
 ·exfalso
  rw[hq,Nat.add_mul,Nat.mul_comm]at h
  generalize b*(a / b)=p at *
  generalize a % b=z at *
  omega
theorem dig_no {a b q v P:Nat}(hb:0<b) (hq:q=a / b∨q=a / b+1) (hv:v<P) (h:(v:Int) - (P:Int)=(a:Int) - (q:Int)*(b:Int)) :
 q=a / b+1∧v+b=P+a % b:=by
 have e:=Nat.div_add_mod a b
 have hm:=Nat.mod_lt a hb
 have e2:((q*b:Nat):Int)=(q:Int)*(b:Int):=Int.natCast_mul _ _
 rw[← e2]at h
 rcases hq with hq|hq
 ·exfalso
  rw[← hq,Nat.mul_comm]at e
  generalize q*b=p at *
  generalize a % b=z at *
  omega
 ·refine ⟨hq,?_⟩
  rw[hq,Nat.add_mul,Nat.mul_comm]at h
  generalize b*(a / b)=p at *
  generalize a % b=z at *
  omega
theorem back_sum (s x y:Nat) (hs:s≤1) (hx:x<4294967296) (hy:y<4294967296) :
 IntKind.u64.wrap ((s:Int)+IntKind.u64.wrap (IntKind.u64.wrap (x:Int)+IntKind.u64.wrap (y:Int)))=((s+(x+y):Nat):Int):=by
 simp only[IntKind.wrap_u64];omega
theorem step_back (q g:Nat) (h:q=g+1) (hq:q<4294967296):IntKind.u64.wrap ((q:Int) - 1) % 4294967296=((g:Nat):Int):=by
 rw[IntKind.wrap_u64];omega
def StepPost (Ba oa:Nat) (cur:Array Value) (la lb:List Nat) (w:World) (e:Ending) (w':World):Prop:=
 e=.returned (.int .u32 ((val 4294967296 la / val 4294967296 lb:Nat):Int)) ∧
  ∃ l,Row w' Ba 125 (upd cur oa l)∧l.length=la.length∧dig 4294967296 l∧val 4294967296 l=val 4294967296 la % val 4294967296 lb∧Only Ba w w'
set_option maxRecDepth 100000 in
set_option maxHeartbeats 4000000 in
theorem nat_step (w:World) (Ba oa ca Bb ob cb m:Nat) (cur:Array Value) (la lb:List Nat) (hA:Row w Ba 125 (upd cur oa la)) (hsz:oa+la.length≤cur.size)
 (hB:∀ i,i<lb.length→w.cell? ⟨Bb,ob+i,none⟩=some (.int .u32 ((lb.getD i 0:Nat):Int))) (hne:Bb≠Ba)
 (hla:la.length=m+3) (hlb:lb.length=m+2) (hm:m≤1000000000000) (hca:m+3≤ca) (hcb:m+2≤cb) (da:dig 4294967296 la) (db:dig 4294967296 lb)
 (htop:2147483648≤lb.getD (m+1) 0) (hlt:val 4294967296 la<val 4294967296 lb*4294967296) :
 Calls Tryz.prog 123 #[.slice (some ⟨Ba,oa,none⟩) (m+3) ca,.slice (some ⟨Bb,ob,none⟩) (m+2) cb] w (StepPost Ba oa cur la lb w):=by
 have hcA:∀ i,i<la.length→w.cell? ⟨Ba,oa+i,none⟩=some (.int .u32 ((la.getD i 0:Nat):Int)):=fun i hi=>by
  rw[hA.cell,upd_get cur oa la i hi hsz]
 have x2:=hcA (m+2) (by omega)
 have x1:=hcA (m+1) (by omega)
 have x0:=hcA m (by omega)
 have y1:=hB (m+1) (by omega)
 have y0:=hB m (by omega)
 have l2:=dig_getD da (by omega) (m+2)
 have l1:=dig_getD da (by omega) (m+1)
 have l0:=dig_getD da (by omega) m
 have k1:=dig_getD db (by omega) (m+1)
 have k0:=dig_getD db (by omega) m
 have HL:=Lib.hid (la_tops da db hla hlb htop)
 have HA:=Lib.hid hcA
 have HB:=Lib.hid hB
 generalize la.getD (m+2) 0=a2 at *
 generalize la.getD (m+1) 0=a1 at *
 generalize la.getD m 0=a0 at *
 generalize lb.getD (m+1) 0=b1 at *
 generalize lb.getD m 0=b0 at *
 have e2:=wrap64_small a2 l2
 have e1:=wrap64_small a1 l1
 have e0:=wrap64_small a0 l0
 have f1:=wrap64_small b1 k1
 have f0:=wrap64_small b0 k0
 have etwo:=short_or a2 a1 l2 l1
 rw[e1]at etwo
 obtain ⟨two,htwo⟩:∃ two,two=a2*4294967296+a1:=⟨_,rfl⟩
 rw[← htwo]at etwo
 obtain ⟨q1,hq1⟩:∃ q1,q1=two / b1:=⟨_,rfl⟩
 have ed:((two:Nat):Int) / ((b1:Nat):Int)=((q1:Nat):Int):=by rw[hq1];exact (Int.natCast_ediv _ _).symm
 obtain ⟨q0,hq0⟩:∃ q0,q0=min q1 4294967295:=⟨_,rfl⟩
 have hq1b:q1<18446744073709551616:=by rw[hq1,htwo];exact Nat.lt_of_le_of_lt (Nat.div_le_self _ _) (by omega)
 have HW:=Lib.hid hq1b
 clear hq1b
 have HI0:=KnInv.start HL.out (by omega) hlt
 have er:IntKind.u64.wrap ((two:Int) - IntKind.u64.wrap ((q0:Int)*(b1:Int)))=((two - q0*b1:Nat):Int):=step_rest two q0 b1 (by rw[htwo];omega) (by rw[hq0,hq1];exact Nat.le_trans (Nat.mul_le_mul_right _ (Nat.min_le_left _ _)) (Nat.div_mul_le_self _ _))
 rw[← htwo,show (4294967296:Nat) - 1=4294967295 from rfl,← hq1,← hq0]at HI0
 have hr0:two - q0*b1<18446744073709551616:=Nat.lt_of_le_of_lt (Nat.sub_le _ _) (by rw[htwo];omega)
 rw[htwo]at HI0
 obtain ⟨r0,hr0e⟩:∃ r0,r0=two - q0*b1:=⟨_,rfl⟩
 rw[← htwo,← hr0e]at HI0
 rw[htwo]at HI0
 rw[← hr0e]at er hr0
 have HI:=Lib.hid HI0
 have HR0:=Lib.hid hr0
 clear HI0 hr0 hr0e
 have HQ1:=Lib.hid hq1
 have HQ0:=Lib.hid hq0
 clear hq1 hq0
 have hb1:(1:Int)≤b1:=by omega
 have HBP:Hid (0<val 4294967296 lb):=by rcases Nat.eq_zero_or_pos (val 4294967296 lb)with h|h;(· rw[h]at hlt;omega);exact h
 have HT:=Lib.hid htwo
 have L2:=Lib.hid l2;have L1:=Lib.hid l1;have L0:=Lib.hid l0;have K1:=Lib.hid k1;have K0:=Lib.hid k0;have TOP:=Lib.hid htop;have HLT:=Lib.hid hlt;have SZ:=Lib.hid hsz
 clear htwo hcA hB l2 l1 l0 k1 k0 htop hlt hsz hca hcb
 go_enter Tryz.func123,Tryz.ntmps123
 go_wp2_with fail
 go_quiet (fail)
 go_upto_region 3 with fail
 go_cut [7] (fun x wc=>x=.int .u64 q0∧wc=w.drewN nq)
 case first=>
  go_wp2_with fail
  ·have h:(4294967295:Int)<IntKind.u64.wrap (q1:Int):=by assumption
   go_meet
   case rel=>exact ⟨by rw[step_min1 q1 q0 HQ0.out HW.out h];rfl,rfl⟩
  ·have h:¬ (4294967295:Int)<IntKind.u64.wrap (q1:Int):=by first|assumption|(have:=‹IntKind.u64.wrap (q1:Int)≤4294967295›;omega)
   go_meet
   case rel=>exact ⟨by rw[step_min2 q1 q0 HQ0.out HW.out h],rfl⟩
 case rest=>
  obtain ⟨rfl,rfl⟩:=hcut
  go_upto_block 0 with fail
  go_cut [7] (fun x wc=>∃ q n:Nat,x=.int .u64 q∧wc=w.drewN n∧Hid (q≤4294967295)∧Hid (q=val 4294967296 la / val 4294967296 lb∨q=val 4294967296 la / val 4294967296 lb+1))
  case first=>
   go_wp2_with fail
   go_loopw [7,8] (fun x y wr=>∃ q r n:Nat,x=.int .u64 q∧y=.int .u64 r∧wr=w.drewN n∧Hid (r<18446744073709551616)∧Hid (KnInv 4294967296 (val 4294967296 la) (val 4294967296 lb) (a2*4294967296+a1) b1 q r)) (fun x _ _=>(intOf x).toNat)
   case atStart=>exact ⟨q0,r0,nq,rfl,rfl,rfl,HR0.out,HI.out⟩
   case round=>
    obtain ⟨q,r,n,rfl,rfl,rfl,hr,hi⟩:=hrel
    by_cases hA:r≤4294967295
    ·have hT:decide ((r:Int)≤4294967295)=true:=decide_eq_true (by omega)
     obtain ⟨m2,em,e5⟩:=digit_m r a0 (by omega) (by have:=L0.out;omega)
     have hqle:=hi.out.le
     obtain ⟨c1,c2⟩:=digit_p q b0 (by omega) (by have:=K0.out;omega)
     have e6:IntKind.u64.wrap ((r:Int)*4294967296)=(r:Int)*4294967296:=by rw[IntKind.wrap_u64];omega
     have e7:IntKind.u64.wrap ((q:Int)*(b0:Int))=(q:Int)*(b0:Int):=by rw[IntKind.wrap_u64];omega
     have hP:((q*b0:Nat):Int)=(q:Int)*(b0:Int):=Int.natCast_mul _ _
     by_cases hB:m2<q*b0
     ·have hG:decide ((m2:Int)<(q:Int)*(b0:Int))=true:=decide_eq_true (by omega)
      have hq1:=pos_of_lt_mul hB
      have HD:=Lib.hid (hi.out.down HL.out hq1 (by rw[← em];exact hB))
      have hq1':(1:Int)≤q:=by omega
      have HR:=Lib.hid hA
      have HQL:=Lib.hid hqle
      clear hA hB hP em c1 c2 hqle hq1
      go_wp2_with fail
      go_quiet (fail)
      go_wp2_with fail
      rw[wrap_dec q (by omega) (by have:=HQL.out;omega),wrap_add2 r b1 HR.out K1.out]
      refine ⟨⟨_,_,_,rfl,rfl,rfl,Lib.hid (by have:=HR.out;have:=K1.out;omega),HD⟩,?_⟩
      show ((q - 1:Nat):Int).toNat<((q:Nat):Int).toNat
      omega
     ·have hG:decide ((m2:Int)<(q:Int)*(b0:Int))=false:=decide_eq_false (by omega)
      have HD:=Lib.hid (hi.out.done HL.out (by have:=TOP.out;omega) (by omega) (.inr (by rw[← em];omega)))
      have HR:=Lib.hid hA
      have HQL:=Lib.hid hqle
      clear hA hB hP em c1 c2 hqle
      go_wp2_with fail
      go_quiet (fail)
      go_wp2_with fail
      go_meet
      case rel=>exact ⟨q,n+nq,rfl,World.drewN_drewN _ _ _,Lib.hid (by have:=HQL.out;omega),HD⟩
    ·have hT:decide ((r:Int)≤4294967295)=false:=decide_eq_false (by omega)
     have hqle:=hi.out.le
     have HD:=Lib.hid (hi.out.done HL.out (by have:=TOP.out;omega) (by omega) (.inl (by omega)))
     have HQL:=Lib.hid hqle
     clear hA hqle
     go_wp2_with fail
     go_quiet (fail)
     go_wp2_with fail
     go_meet
     case rel=>exact ⟨q,n+nq,rfl,World.drewN_drewN _ _ _,Lib.hid (by have:=HQL.out;omega),HD⟩
  case rest=>
   obtain ⟨q,n,rfl,rfl,hqm,hqq⟩:=hcut
   have hq32:q<4294967296:=by have:=hqm.out;omega
   have HQM:=Lib.hid hq32
   clear HI HR0 HQ1 HQ0 HW er ed etwo x2 x1 x0 y1 y0 e2 e1 e0 f1 f0 hqm hq32
   go_wp2_with fail
   go_loopw [9,10,84] (fun s t u wr=>∃ (k c:Nat) (r:Int) (l:List Nat),s=.int .u64 c∧t=.int .i64 r∧u=.int .i64 k∧k≤m+2∧Only Ba w wr∧Row wr Ba 125 (upd cur oa l)∧Hid (SubInv 4294967296 q la lb l k c r)) (fun _ _ u _=>m+2 - (intOf u).toNat)
   case atStart=>exact ⟨0,0,0,la,rfl,rfl,rfl,by omega,(Only.refl _ _).drewN _,hA,SubInv.start (by omega) q lb da⟩
   case round=>
    obtain ⟨k,c,r,l,rfl,rfl,rfl,hk,hon,hrow,hi⟩:=hrel
    by_cases hlt:k<m+2
    ·have hcell:=hrow.cell (oa+k)
     rw[upd_get cur oa l k (by rw[hi.out.len];omega) (by rw[hi.out.len];exact SZ.out)]at hcell
     have hfree:=hrow.free (oa+k)
     have hcb:=HB.out k (by omega)
     rw[← hon.cell hne]at hcb
     have hst:=hi.out.step (by omega) HQM.out db (by omega)
     have hy:=dig_getD db (by omega) k
     have hx:=dig_getD hi.out.dg (by omega) k
     have hc:=hi.out.cs
     have hr:=hi.out.rs
     generalize lb.getD k 0=y at *
     generalize l.getD k 0=x at *
     have HE:=step_carry c q y hc HQM.out hy
     obtain ⟨S,hS⟩:∃ S,S=c+q*y:=⟨_,rfl⟩
     rw[← hS]at HE hst
     have HX:=Lib.hid hx;have HR:=Lib.hid hr;have HST:=Lib.hid hst
     clear hx hr hst hy hc hS
     go_wp2_with fail
     go_roundw
     case rel=>
      refine ⟨k+1,S / 4294967296,(r+((x:Int) - ((S % 4294967296:Nat):Int))) / ((4294967296:Nat):Int),l.set k ((r+((x:Int) - ((S % 4294967296:Nat):Int))) % ((4294967296:Nat):Int)).toNat,?_,?_,by go_num,by omega,hon.setCell _ _,?_,HST⟩
      ·rw[div_half]
      ·rw[step_diff x S r HX.out HR.out];rfl
      ·rw[step_diff x S r HX.out HR.out,less_lo,← upd_set cur oa l k _ (by rw[hi.out.len];omega)];exact hrow.set _ _
     case measure=>simp[intOf];omega
    ·obtain rfl:k=m+2:=by omega
     obtain ⟨d,hd,hde,hdd,hdl,hyes,hno⟩:=hi.out.top (by omega) hla hlb da db
     have hcell:=hrow.cell (oa+(m+2))
     rw[upd_get cur oa l (m+2) (by rw[hi.out.len];omega) (by rw[hi.out.len];exact SZ.out)]at hcell
     have hfree:=hrow.free (oa+(m+2))
     have hx:=dig_getD hi.out.dg (by omega) (m+2)
     have hc:=hi.out.cs
     have hr:=hi.out.rs
     have hrow2:=hrow.set (oa+(m+2)) (.int .u32 (d:Int))
     rw[upd_set cur oa l (m+2) d (by rw[hi.out.len];omega)]at hrow2
     generalize l.set (m+2) d=l2 at *
     generalize l.getD (m+2) 0=x at *
     have HE:=step_top x c r hx hc hr
     obtain ⟨t,ht⟩:∃ t:Int,t=r+((x:Int) - (c:Int)):=⟨_,rfl⟩
     rw[← ht]at HE hde hyes hno
     have HDE:=Lib.hid hde;have HT2:=Lib.hid ht
     have HX:=Lib.hid hx;have HR:=Lib.hid hr;have HDD:=Lib.hid hdd;have HY:=Lib.hid hyes;have HN:=Lib.hid hno;have HROW:=Lib.hid hrow2
     clear hde ht hx hc hr hdd hyes hno hd hrow2
     by_cases h0:(0:Int)≤t
     ·have hT:decide ((0:Int)≤t)=true:=decide_eq_true h0
      go_wp2_with fail
      obtain ⟨hqe,hve⟩:=dig_yes HBP.out hqq.out (HY.out h0)
      go_ret
      refine ⟨by rw[← hqe];exact ret_int (by have:=HQM.out;omega),l2,?_,by omega,HDD.out,hve,hon.setCell _ _⟩
      rw[less_lo,HDE.out]
      exact HROW.out
     ·have hT:decide ((0:Int)≤t)=false:=decide_eq_false h0
      have hv2:=val_lt (B:=4294967296) (by omega) HDD.out
      rw[hdl]at hv2
      have hvp:=HN.out (by omega)
      rw[show (((4294967296:Nat):Int) ^ (m+2+1))=((4294967296 ^ (m+2+1):Nat):Int)from (Int.natCast_pow _ _).symm]at hvp
      obtain ⟨hqe,hve⟩:=dig_no HBP.out hqq.out hv2 hvp
      have hvs:val 4294967296 la % val 4294967296 lb<4294967296 ^ (m+2+1):=Nat.lt_of_le_of_lt (Nat.mod_le _ _) (by have:=val_lt (B:=4294967296) (by omega) da;rwa [hla]at this)
      have HVS:=Lib.hid hvs
      have HQE:=Lib.hid hqe;have HVE:=Lib.hid hve
      have hrow3:Row (wr.setCell ⟨Ba,oa+(m+2),none⟩ (.int .u32 (t % 4294967296))) Ba 125 (upd cur oa l2):=by
       rw[less_lo,HDE.out]
       exact HROW.out
      have hon3:=hon.setCell (oa+(m+2)) (.int .u32 (t % 4294967296))
      have hqp:(1:Int)≤q:=Int.ofNat_le.2 (hqe▸Nat.le_add_left _ _)
      clear hv2 hvp hqe hve hvs hrow hi HROW
      go_wp2_with fail
      generalize wr.setCell ⟨Ba,oa+(m+2),none⟩ (.int .u32 (t % 4294967296))=w3 at *
      go_loopw [13,137] (fun s u wq=>∃ (k c:Nat) (l:List Nat),s=.int .u64 c∧u=.int .i64 k∧k≤m+2∧Only Ba w wq∧Row wq Ba 125 (upd cur oa l)∧Hid (BackInv 4294967296 l2 lb l k c)) (fun _ u _=>m+2 - (intOf u).toNat)
      case atStart=>exact ⟨0,0,l2,rfl,rfl,by omega,hon3,hrow3,BackInv.start lb HDD.out⟩
      case round=>
       obtain ⟨k,s,l4,rfl,rfl,hk4,hon4,hrow4,hi4⟩:=hrel
       by_cases hlt4:k<m+2
       ·have hcell4:=hrow4.cell (oa+k)
        rw[upd_get cur oa l4 k (by rw[hi4.out.len];omega) (by rw[hi4.out.len,hdl,← hla];exact SZ.out)]at hcell4
        have hfree4:=hrow4.free (oa+k)
        have hcb4:=HB.out k (by omega)
        rw[← hon4.cell hne]at hcb4
        have hst:=hi4.out.step (by omega) db (by omega)
        have hy:=dig_getD db (by omega) k
        have hx:=dig_getD hi4.out.dg (by omega) k
        have hs:=hi4.out.small
        generalize lb.getD k 0=y at *
        generalize l4.getD k 0=z at *
        have HE4:=back_sum s z y hs hx hy
        obtain ⟨S,hS⟩:∃ S,S=s+(z+y):=⟨_,rfl⟩
        rw[← hS]at HE4 hst
        have HST:=Lib.hid hst
        clear hst hy hx hs hS
        go_wp2_with fail
        go_roundw
        case rel=>
         refine ⟨k+1,S / 4294967296,l4.set k (S % 4294967296),by rw[div_half],by go_num,by omega,hon4.setCell _ _,?_,HST⟩
         rw[show ((S:Int) % 4294967296)=((S % 4294967296:Nat):Int)from (Int.natCast_emod _ _).symm,← upd_set cur oa l4 k _ (by rw[hi4.out.len];omega)]
         exact hrow4.set _ _
        case measure=>simp[intOf];omega
       ·obtain rfl:k=m+2:=by omega
        obtain ⟨hd1,hd2,hd3⟩:=hi4.out.done (by omega) hdl hlb _ HVE.out HVS.out
        have hcell4:=hrow4.cell (oa+(m+2))
        rw[upd_get cur oa l4 (m+2) (by rw[hi4.out.len];omega) (by rw[hi4.out.len,hdl,← hla];exact SZ.out)]at hcell4
        have hfree4:=hrow4.free (oa+(m+2))
        have hrow5:=hrow4.set (oa+(m+2)) (.int .u32 (((l4.getD (m+2) 0+s) % 4294967296:Nat):Int))
        rw[upd_set cur oa l4 (m+2) _ (by rw[hi4.out.len];omega)]at hrow5
        generalize l4.set (m+2) ((l4.getD (m+2) 0+s) % 4294967296)=l5 at *
        generalize l4.getD (m+2) 0=z at *
        have D1:=Lib.hid hd1;have D3:=Lib.hid hd3;have R5:=Lib.hid hrow5
        clear hd1 hd3 hrow5
        go_wp2_with fail
        go_ret
        refine ⟨ret_int ?_,l5,?_,by omega,D1.out,D3.out,hon4.setCell _ _⟩
        ·exact step_back q _ HQE.out HQM.out
        ·rw[show (((z:Int)+(s:Int)) % 4294967296)=(((z+s) % 4294967296:Nat):Int)from (Int.natCast_emod _ _).symm▸rfl]
         exact R5.out
end Go.Proofs.YtehbhghbagaliaaGreatDoor
