/- Package nat: one digit of a long quotient. -/
import Derived.Test.YtbdfhnelmojbpaaGreatDoorRaq
import Derived.Test.YtbdfhnelmojbpaaGreatDoorRar
import Derived.Deep.QuietTactic
import Derived.BigQuiet
import Derived.Deep.DeepCutAuto
import Derived.Deep.CutBlock
import Derived.Deep.RegionLaw
import Derived.Deep.RegionWith
set_option linter.unusedVariables false
set_option linter.unusedSimpArgs false
section
namespace Go.Proofs.YtbdfhnelmojbpaaGreatDoor
open Go.RowKit Vic
theorem step_min1 (q1 q0:Nat) (h0:q0=min q1 4294967295) (hw:q1<18446744073709551616) (h:(4294967295:Int)<IntKind.u64.wrap (q1:Int)):q0=4294967295:=by
 rw[IntKind.wrap_u64]at h;omega
theorem step_min2 (q1 q0:Nat) (h0:q0=min q1 4294967295) (hw:q1<18446744073709551616) (h:¬ (4294967295:Int)<IntKind.u64.wrap (q1:Int)):(IntKind.u64.wrap (q1:Int))=(q0:Int):=by
 rw[IntKind.wrap_u64]at *;omega
theorem step_rest (two q b:Nat) (h:two<18446744073709551616) (hq:q*b≤two):IntKind.u64.wrap ((two:Int) - IntKind.u64.wrap ((q:Int)*(b:Int)))=((two - q*b:Nat):Int):=by
 have e:((q*b:Nat):Int)=(q:Int)*(b:Int):=Int.natCast_mul _ _
 rw[← e]
 generalize q*b=p at *
 simp only[IntKind.wrap_u64]
 omega
theorem wrap_dec (q:Nat) (h1:1≤q) (h:q≤4294967295):IntKind.u64.wrap ((q:Int) - 1)=((q - 1:Nat):Int):=by
 rw[IntKind.wrap_u64];omega
theorem wrap_add2 (r b:Nat) (h1:r≤4294967295) (h:b<4294967296):IntKind.u64.wrap ((r:Int)+(b:Int))=((r+b:Nat):Int):=by
 rw[IntKind.wrap_u64];omega
theorem step_carry (c q y:Nat) (hc:c<4294967296) (hq:q<4294967296) (hy:y<4294967296) :
 IntKind.u64.wrap ((c:Int)+IntKind.u64.wrap ((q:Int)*IntKind.u64.wrap (y:Int)))=((c+q*y:Nat):Int):=by
 rw[wrap64_small y hy]
 have h1:q*y≤4294967295*4294967295:=Nat.mul_le_mul (by omega) (by omega)
 have e:((q*y:Nat):Int)=(q:Int)*(y:Int):=Int.natCast_mul _ _
 rw[← e]
 generalize q*y=m at *
 simp only[IntKind.wrap_u64]
 omega
theorem step_diff (x S:Nat) (r:Int) (hx:x<4294967296) (hr:r=0∨r=-1) :
 wrap64 (r+wrap64 (wrap64 (x:Int) - (S:Int) % 4294967296))=r+((x:Int) - ((S % 4294967296:Nat):Int)):=by
 unfold wrap64;omega
theorem step_top (x c:Nat) (r:Int) (hx:x<4294967296) (hc:c<4294967296) (hr:r=0∨r=-1) :
 wrap64 (r+wrap64 (wrap64 (x:Int) - wrap64 (c:Int)))=r+((x:Int) - (c:Int)):=by
 unfold wrap64;omega
theorem dig_yes {a b q v:Nat}(hb:0<b) (hq:q=a / b∨q=a / b+1) (h:(v:Int)=(a:Int) - (q:Int)*(b:Int)):q=a / b∧v=a % b:=by
 have e:=Nat.div_add_mod a b
 have hm:=Nat.mod_lt a hb
 have e2:((q*b:Nat):Int)=(q:Int)*(b:Int):=Int.natCast_mul _ _
 rw[← e2]at h
 rcases hq with hq|hq
 ·refine ⟨hq,?_⟩
  rw[← hq,Nat.mul_comm]at e
  generalize q*b=p at *
  generalize a % b=z at *
  omega
 ·exfalso
  rw[hq,Nat.add_mul,Nat.mul_comm]at h
  generalize b*(a / b)=p at *
  generalize a % b=z at *
  omega
theorem dig_no {a b q v P:Nat}(hb:0<b) (hq:q=a / b∨q=a / b+1) (hv:v<P) (h:(v:Int) - (P:Int)=(a:Int) - (q:Int)*(b:Int)) :
 q=a / b+1∧v+b=P+a % b:=by
 have e:=Nat.div_add_mod a b
 have hm:=Nat.mod_lt a hb
 have e2:((q*b:Nat):Int)=(q:Int)*(b:Int):=Int.natCast_mul _ _
 rw[← e2]at h
 rcases hq with hq|hq
 ·exfalso
  rw[← hq,Nat.mul_comm]at e
  generalize q*b=p at *
  generalize a % b=z at *
  omega
 ·refine ⟨hq,?_⟩
  rw[hq,Nat.add_mul,Nat.mul_comm]at h
  generalize b*(a / b)=p at *
  generalize a % b=z at *
  omega
theorem back_sum (s x y:Nat) (hs:s≤1) (hx:x<4294967296) (hy:y<4294967296) :
 IntKind.u64.wrap ((s:Int)+IntKind.u64.wrap (IntKind.u64.wrap (x:Int)+IntKind.u64.wrap (y:Int)))=((s+(x+y):Nat):Int):=by
 simp only[IntKind.wrap_u64];omega
theorem step_back (q g:Nat) (h:q=g+1) (hq:q<4294967296):IntKind.u64.wrap ((q:Int) - 1) % 4294967296=((g:Nat):Int):=by
 rw[IntKind.wrap_u64];omega
def StepPost (Ba oa:Nat) (cur:Array Value) (la lb:List Nat) (w:World) (e:Ending) (w':World):Prop:=
 e=.returned (.int .u32 ((val 4294967296 la / val 4294967296 lb:Nat):Int)) ∧
  ∃ l,Row w' Ba 291 (upd cur oa l)∧l.length=la.length∧dig 4294967296 l∧val 4294967296 l=val 4294967296 la % val 4294967296 lb∧Only Ba w w'
set_option maxRecDepth 100000 in
set_option maxHeartbeats 4000000 in
theorem nat_step (w:World) (Ba oa ca Bb ob cb m:Nat) (cur:Array Value) (la lb:List Nat) (hA:Row w Ba 291 (upd cur oa la)) (hsz:oa+la.length≤cur.size)
 (hB:∀ i,i<lb.length→w.cell? ⟨Bb,ob+i,none⟩=some (.int .u32 ((lb.getD i 0:Nat):Int))) (hne:Bb≠Ba)
 (hla:la.length=m+3) (hlb:lb.length=m+2) (hm:m≤1000000000000) (hca:m+3≤ca) (hcb:m+2≤cb) (da:dig 4294967296 la) (db:dig 4294967296 lb)
 (htop:2147483648≤lb.getD (m+1) 0) (hlt:val 4294967296 la<val 4294967296 lb*4294967296) :
 Calls Tryz.prog 273 #[.slice (some ⟨Ba,oa,none⟩) (m+3) ca,.slice (some ⟨Bb,ob,none⟩) (m+2) cb] w (StepPost Ba oa cur la lb w):=by
 have hcA:∀ i,i<la.length→w.cell? ⟨Ba,oa+i,none⟩=some (.int .u32 ((la.getD i 0:Nat):Int)):=fun i hi=>by
  rw[hA.cell,upd_get cur oa la i hi hsz]
 have x2:=hcA (m+2) (by omega)
 have x1:=hcA (m+1) (by omega)
 have x0:=hcA m (by omega)
 have y1:=hB (m+1) (by omega)
 have y0:=hB m (by omega)
 have l2:=dig_getD da (by omega) (m+2)
 have l1:=dig_getD da (by omega) (m+1)
 have l0:=dig_getD da (by omega) m
 have k1:=dig_getD db (by omega) (m+1)
 have k0:=dig_getD db (by omega) m
 have HL:=Lib.hid (la_tops da db hla hlb htop)
 have HA:=Lib.hid hcA
 have HB:=Lib.hid hB
 generalize la.getD (m+2) 0=a2 at *
 generalize la.getD (m+1) 0=a1 at *
 generalize la.getD m 0=a0 at *
 generalize lb.getD (m+1) 0=b1 at *
 generalize lb.getD m 0=b0 at *
 have e2:=wrap64_small a2 l2
 have e1:=wrap64_small a1 l1
 have e0:=wrap64_small a0 l0
 have f1:=wrap64_small b1 k1
 have f0:=wrap64_small b0 k0
 have etwo:=short_or a2 a1 l2 l1
 rw[e1]at etwo
 obtain ⟨two,htwo⟩:∃ two,two=a2*4294967296+a1:=⟨_,rfl⟩
 rw[← htwo]at etwo
 obtain ⟨q1,hq1⟩:∃ q1,q1=two / b1:=⟨_,rfl⟩
 have ed:((two:Nat):Int) / ((b1:Nat):Int)=((q1:Nat):Int):=by rw[hq1];exact (Int.natCast_ediv _ _).symm
 obtain ⟨q0,hq0⟩:∃ q0,q0=min q1 4294967295:=⟨_,rfl⟩
 have hq1b:q1<18446744073709551616:=by rw[hq1,htwo];exact Nat.lt_of_le_of_lt (Nat.div_le_self _ _) (by omega)
 have HW:=Lib.hid hq1b
 clear hq1b
 have HI0:=KnInv.start HL.out (by omega) hlt
 have er:IntKind.u64.wrap ((two:Int) - IntKind.u64.wrap ((q0:Int)*(b1:Int)))=((two - q0*b1:Nat):Int):=step_rest two q0 b1 (by rw[htwo];omega) (by rw[hq0,hq1];exact Nat.le_trans (Nat.mul_le_mul_right _ (Nat.min_le_left _ _)) (Nat.div_mul_le_self _ _))
 rw[← htwo,show (4294967296:Nat) - 1=4294967295 from rfl,← hq1,← hq0]at HI0
 have hr0:two - q0*b1<18446744073709551616:=Nat.lt_of_le_of_lt (Nat.sub_le _ _) (by rw[htwo];omega)
 rw[htwo]at HI0
 obtain ⟨r0,hr0e⟩:∃ r0,r0=two - q0*b1:=⟨_,rfl⟩
 rw[← htwo,← hr0e]at HI0
 rw[htwo]at HI0
 rw[← hr0e]at er hr0
 have HI:=Lib.hid HI0
 have HR0:=Lib.hid hr0
 clear HI0 hr0 hr0e
 have HQ1:=Lib.hid hq1
 have HQ0:=Lib.hid hq0
 clear hq1 hq0
 have hb1:(1:Int)≤b1:=by omega
 have HBP:Hid (0<val 4294967296 lb):=by rcases Nat.eq_zero_or_pos (val 4294967296 lb)with h|h;(· rw[h]at hlt;omega);exact h
 have HT:=Lib.hid htwo
 have L2:=Lib.hid l2;have L1:=Lib.hid l1;have L0:=Lib.hid l0;have K1:=Lib.hid k1;have K0:=Lib.hid k0;have TOP:=Lib.hid htop;have HLT:=Lib.hid hlt;have SZ:=Lib.hid hsz
 clear htwo hcA hB l2 l1 l0 k1 k0 htop hlt hsz hca hcb
 go_enter Tryz.func273,Tryz.ntmps273
 go_wp2_with fail
 go_quiet (fail)
 go_upto_region 3 with fail
 go_cut [7] (fun x wc=>x=.int .u64 q0∧wc=w.drewN nq)
 case first=>
  go_wp2_with fail
  ·have h:(4294967295:Int)<IntKind.u64.wrap (q1:Int):=by assumption
   go_meet
   case rel=>exact ⟨by rw[step_min1 q1 q0 HQ0.out HW.out h];rfl,rfl⟩
  ·have h:¬ (4294967295:Int)<IntKind.u64.wrap (q1:Int):=by first|assumption|(have:=‹IntKind.u64.wrap (q1:Int)≤4294967295›;omega)
   go_meet
   case rel=>exact ⟨by rw[step_min2 q1 q0 HQ0.out HW.out h],rfl⟩
 case rest=>
  obtain ⟨rfl,rfl⟩:=hcut
  go_upto_block 0 with fail
  go_cut [7] (fun x wc=>∃ q n:Nat,x=.int .u64 q∧wc=w.drewN n∧Hid (q≤4294967295)∧Hid (q=val 4294967296 la / val 4294967296 lb∨q=val 4294967296 la / val 4294967296 lb+1))
  case first=>
   go_wp2_with fail
   go_loopw [7,8] (fun x y wr=>∃ q r n:Nat,x=.int .u64 q∧y=.int .u64 r∧wr=w.drewN n∧Hid (r<18446744073709551616)∧Hid (KnInv 4294967296 (val 4294967296 la) (val 4294967296 lb) (a2*4294967296+a1) b1 q r)) (fun x _ _=>(intOf x).toNat)
   case atStart=>exact ⟨q0,r0,nq,rfl,rfl,rfl,HR0.out,HI.out⟩
   case round=>
    obtain ⟨q,r,n,rfl,rfl,rfl,hr,hi⟩:=hrel
    by_cases hA:r≤4294967295
    ·have hT:decide ((r:Int)≤4294967295)=true:=decide_eq_true (by omega)
     obtain ⟨m2,em,e5⟩:=digit_m r a0 (by omega) (by have:=L0.out;omega)
     have hqle:=hi.out.le
     obtain ⟨c1,c2⟩:=digit_p q b0 (by omega) (by have:=K0.out;omega)
     have e6:IntKind.u64.wrap ((r:Int)*4294967296)=(r:Int)*4294967296:=by rw[IntKind.wrap_u64];omega
     have e7:IntKind.u64.wrap ((q:Int)*(b0:Int))=(q:Int)*(b0:Int):=by rw[IntKind.wrap_u64];omega
     have hP:((q*b0:Nat):Int)=(q:Int)*(b0:Int):=Int.natCast_mul _ _
     by_cases hB:m2<q*b0
     ·have hG:decide ((m2:Int)<(q:Int)*(b0:Int))=true:=decide_eq_true (by omega)
      have hq1:=pos_of_lt_mul hB
      have HD:=Lib.hid (hi.out.down HL.out hq1 (by rw[← em];exact hB))
      have hq1':(1:Int)≤q:=by omega
      have HR:=Lib.hid hA
      have HQL:=Lib.hid hqle
      clear hA hB hP em c1 c2 hqle hq1
      go_wp2_with fail
      go_quiet (fail)
      go_wp2_with fail
      rw[wrap_dec q (by omega) (by have:=HQL.out;omega),wrap_add2 r b1 HR.out K1.out]
      refine ⟨⟨_,_,_,rfl,rfl,rfl,Lib.hid (by have:=HR.out;have:=K1.out;omega),HD⟩,?_⟩
      show ((q - 1:Nat):Int).toNat<((q:Nat):Int).toNat
      omega
     ·have hG:decide ((m2:Int)<(q:Int)*(b0:Int))=false:=decide_eq_false (by omega)
      have HD:=Lib.hid (hi.out.done HL.out (by have:=TOP.out;omega) (by omega) (.inr (by rw[← em];omega)))
      have HR:=Lib.hid hA
      have HQL:=Lib.hid hqle
      clear hA hB hP em c1 c2 hqle
      go_wp2_with fail
      go_quiet (fail)
      go_wp2_with fail
      go_meet
      case rel=>exact ⟨q,n+nq,rfl,World.drewN_drewN _ _ _,Lib.hid (by have:=HQL.out;omega),HD⟩
    ·have hT:decide ((r:Int)≤4294967295)=false:=decide_eq_false (by omega)
     have hqle:=hi.out.le
     have HD:=Lib.hid (hi.out.done HL.out (by have:=TOP.out;omega) (by omega) (.inl (by omega)))
     have HQL:=Lib.hid hqle
     clear hA hqle
     go_wp2_with fail
     go_quiet (fail)
     go_wp2_with fail
     go_meet
     case rel=>exact ⟨q,n+nq,rfl,World.drewN_drewN _ _ _,Lib.hid (by have:=HQL.out;omega),HD⟩
  case rest=>
   obtain ⟨q,n,rfl,rfl,hqm,hqq⟩:=hcut
   have hq32:q<4294967296:=by have:=hqm.out;omega
   have HQM:=Lib.hid hq32
   clear HI HR0 HQ1 HQ0 HW er ed etwo x2 x1 x0 y1 y0 e2 e1 e0 f1 f0 hqm hq32
   go_wp2_with fail
   go_loopw [9,10,84] (fun s t u wr=>∃ (k c:Nat) (r:Int) (l:List Nat),s=.int .u64 c∧t=.int .i64 r∧u=.int .i64 k∧k≤m+2∧Only Ba w wr∧Row wr Ba 291 (upd cur oa l)∧Hid (SubInv 4294967296 q la lb l k c r)) (fun _ _ u _=>m+2 - (intOf u).toNat)
   case atStart=>exact ⟨0,0,0,la,rfl,rfl,rfl,by omega,(Only.refl _ _).drewN _,hA,SubInv.start (by omega) q lb da⟩
   case round=>
    obtain ⟨k,c,r,l,rfl,rfl,rfl,hk,hon,hrow,hi⟩:=hrel
    by_cases hlt:k<m+2
    ·have hcell:=hrow.cell (oa+k)
     rw[upd_get cur oa l k (by rw[hi.out.len];omega) (by rw[hi.out.len];exact SZ.out)]at hcell
     have hfree:=hrow.free (oa+k)
     have hcb:=HB.out k (by omega)
     rw[← hon.cell hne]at hcb
     have hst:=hi.out.step (by omega) HQM.out db (by omega)
     have hy:=dig_getD db (by omega) k
     have hx:=dig_getD hi.out.dg (by omega) k
     have hc:=hi.out.cs
     have hr:=hi.out.rs
     generalize lb.getD k 0=y at *
     generalize l.getD k 0=x at *
     have HE:=step_carry c q y hc HQM.out hy
     obtain ⟨S,hS⟩:∃ S,S=c+q*y:=⟨_,rfl⟩
     rw[← hS]at HE hst
     have HX:=Lib.hid hx;have HR:=Lib.hid hr;have HST:=Lib.hid hst
     clear hx hr hst hy hc hS
     go_wp2_with fail
     go_roundw
     case rel=>
      refine ⟨k+1,S / 4294967296,(r+((x:Int) - ((S % 4294967296:Nat):Int))) / ((4294967296:Nat):Int),l.set k ((r+((x:Int) - ((S % 4294967296:Nat):Int))) % ((4294967296:Nat):Int)).toNat,?_,?_,by go_num,by omega,hon.setCell _ _,?_,HST⟩
      ·rw[div_half]
      ·rw[step_diff x S r HX.out HR.out];rfl
      ·rw[step_diff x S r HX.out HR.out,less_lo,← upd_set cur oa l k _ (by rw[hi.out.len];omega)];exact hrow.set _ _
     case measure=>simp[intOf];omega
    ·obtain rfl:k=m+2:=by omega
     obtain ⟨d,hd,hde,hdd,hdl,hyes,hno⟩:=hi.out.top (by omega) hla hlb da db
     have hcell:=hrow.cell (oa+(m+2))
     rw[upd_get cur oa l (m+2) (by rw[hi.out.len];omega) (by rw[hi.out.len];exact SZ.out)]at hcell
     have hfree:=hrow.free (oa+(m+2))
     have hx:=dig_getD hi.out.dg (by omega) (m+2)
     have hc:=hi.out.cs
     have hr:=hi.out.rs
     have hrow2:=hrow.set (oa+(m+2)) (.int .u32 (d:Int))
     rw[upd_set cur oa l (m+2) d (by rw[hi.out.len];omega)]at hrow2
     generalize l.set (m+2) d=l2 at *
     generalize l.getD (m+2) 0=x at *
     have HE:=step_top x c r hx hc hr
     obtain ⟨t,ht⟩:∃ t:Int,t=r+((x:Int) - (c:Int)):=⟨_,rfl⟩
     rw[← ht]at HE hde hyes hno
     have HDE:=Lib.hid hde;have HT2:=Lib.hid ht
     have HX:=Lib.hid hx;have HR:=Lib.hid hr;have HDD:=Lib.hid hdd;have HY:=Lib.hid hyes;have HN:=Lib.hid hno;have HROW:=Lib.hid hrow2
     clear hde ht hx hc hr hdd hyes hno hd hrow2
     by_cases h0:(0:Int)≤t
     ·have hT:decide ((0:Int)≤t)=true:=decide_eq_true h0
      go_wp2_with fail
      obtain ⟨hqe,hve⟩:=dig_yes HBP.out hqq.out (HY.out h0)
      go_ret
      refine ⟨by rw[← hqe];exact ret_int (by have:=HQM.out;omega),l2,?_,by omega,HDD.out,hve,hon.setCell _ _⟩
      rw[less_lo,HDE.out]
      exact HROW.out
     ·have hT:decide ((0:Int)≤t)=false:=decide_eq_false h0
      have hv2:=val_lt (B:=4294967296) (by omega) HDD.out
      rw[hdl]at hv2
      have hvp:=HN.out (by omega)
      rw[show (((4294967296:Nat):Int) ^ (m+2+1))=((4294967296 ^ (m+2+1):Nat):Int)from (Int.natCast_pow _ _).symm]at hvp
      obtain ⟨hqe,hve⟩:=dig_no HBP.out hqq.out hv2 hvp
      have hvs:val 4294967296 la % val 4294967296 lb<4294967296 ^ (m+2+1):=Nat.lt_of_le_of_lt (Nat.mod_le _ _) (by have:=val_lt (B:=4294967296) (by omega) da;rwa [hla]at this)
      have HVS:=Lib.hid hvs
      have HQE:=Lib.hid hqe;have HVE:=Lib.hid hve
      have hrow3:Row (wr.setCell ⟨Ba,oa+(m+2),none⟩ (.int .u32 (t % 4294967296))) Ba 291 (upd cur oa l2):=by
       rw[less_lo,HDE.out]
       exact HROW.out
      have hon3:=hon.setCell (oa+(m+2)) (.int .u32 (t % 4294967296))
      have hqp:(1:Int)≤q:=Int.ofNat_le.2 (hqe▸Nat.le_add_left _ _)
      clear hv2 hvp hqe hve hvs hrow hi HROW
      go_wp2_with fail
      generalize wr.setCell ⟨Ba,oa+(m+2),none⟩ (.int .u32 (t % 4294967296))=w3 at *
      go_loopw [13,137] (fun s u wq=>∃ (k c:Nat) (l:List Nat),s=.int .u64 c∧u=.int .i64 k∧k≤m+2∧Only Ba w wq∧Row wq Ba 291 (upd cur oa l)∧Hid (BackInv 4294967296 l2 lb l k c)) (fun _ u _=>m+2 - (intOf u).toNat)
      case atStart=>exact ⟨0,0,l2,rfl,rfl,by omega,hon3,hrow3,BackInv.start lb HDD.out⟩
      case round=>
       obtain ⟨k,s,l4,rfl,rfl,hk4,hon4,hrow4,hi4⟩:=hrel
       by_cases hlt4:k<m+2
       ·have hcell4:=hrow4.cell (oa+k)
        rw[upd_get cur oa l4 k (by rw[hi4.out.len];omega) (by rw[hi4.out.len,hdl,← hla];exact SZ.out)]at hcell4
        have hfree4:=hrow4.free (oa+k)
        have hcb4:=HB.out k (by omega)
        rw[← hon4.cell hne]at hcb4
        have hst:=hi4.out.step (by omega) db (by omega)
        have hy:=dig_getD db (by omega) k
        have hx:=dig_getD hi4.out.dg (by omega) k
        have hs:=hi4.out.small
        generalize lb.getD k 0=y at *
        generalize l4.getD k 0=z at *
        have HE4:=back_sum s z y hs hx hy
        obtain ⟨S,hS⟩:∃ S,S=s+(z+y):=⟨_,rfl⟩
        rw[← hS]at HE4 hst
        have HST:=Lib.hid hst
        clear hst hy hx hs hS
        go_wp2_with fail
        go_roundw
        case rel=>
         refine ⟨k+1,S / 4294967296,l4.set k (S % 4294967296),by rw[div_half],by go_num,by omega,hon4.setCell _ _,?_,HST⟩
         rw[show ((S:Int) % 4294967296)=((S % 4294967296:Nat):Int)from (Int.natCast_emod _ _).symm,← upd_set cur oa l4 k _ (by rw[hi4.out.len];omega)]
         exact hrow4.set _ _
        case measure=>simp[intOf];omega
       ·obtain rfl:k=m+2:=by omega
        obtain ⟨hd1,hd2,hd3⟩:=hi4.out.done (by omega) hdl hlb _ HVE.out HVS.out
        have hcell4:=hrow4.cell (oa+(m+2))
        rw[upd_get cur oa l4 (m+2) (by rw[hi4.out.len];omega) (by rw[hi4.out.len,hdl,← hla];exact SZ.out)]at hcell4
        have hfree4:=hrow4.free (oa+(m+2))
        have hrow5:=hrow4.set (oa+(m+2)) (.int .u32 (((l4.getD (m+2) 0+s) % 4294967296:Nat):Int))
        rw[upd_set cur oa l4 (m+2) _ (by rw[hi4.out.len];omega)]at hrow5
        generalize l4.set (m+2) ((l4.getD (m+2) 0+s) % 4294967296)=l5 at *
        generalize l4.getD (m+2) 0=z at *
        have D1:=Lib.hid hd1;have D3:=Lib.hid hd3;have R5:=Lib.hid hrow5
        clear hd1 hd3 hrow5
        go_wp2_with fail
        go_ret
        refine ⟨ret_int ?_,l5,?_,by omega,D1.out,D3.out,hon4.setCell _ _⟩
        ·exact step_back q _ HQE.out HQM.out
        ·rw[show (((z:Int)+(s:Int)) % 4294967296)=(((z+s) % 4294967296:Nat):Int)from (Int.natCast_emod _ _).symm▸rfl]
         exact R5.out
end Go.Proofs.YtbdfhnelmojbpaaGreatDoor
end
section
namespace Vic
theorem val_drop_small {B:Nat}(hB:0<B) {l:List Nat}{k:Nat}(h:val B l<B ^ k):val B (l.drop k)=0:=by
 have:=val_split B l k
 rcases Nat.eq_zero_or_pos (val B (l.drop k))with h0|h0
 ·exact h0
 ·have:B ^ k*1≤B ^ k*val B (l.drop k):=Nat.mul_le_mul_left _ h0
  omega
theorem val_take_small {B:Nat}(hB:0<B) {l:List Nat}{k:Nat}(h:val B l<B ^ k):val B (l.take k)=val B l:=by
 have:=val_split B l k
 rw[val_drop_small hB h,Nat.mul_zero]at this
 omega
structure LongInv (B A b:Nat) (z o:List Nat) (Z K i:Nat):Prop where
 lz:z.length=Z
 lo:o.length=K
 dz:dig B z
 do_:dig B o
 sum:val B z+b*val B o=A
 low:val B (o.take i)=0
 win:val B (z.drop i)<b
theorem LongInv.start {B A b H:Nat}{z:List Nat}{K n:Nat}(hB:0<B) (hz:dig B z) (hA:val B z=A) (h1:A<B ^ (K+n)*H) (h2:B ^ n*H≤b):LongInv B A b z (List.replicate K 0) z.length K K:=by
 refine ⟨rfl,by simp,hz,dig_replicate hB K,by rw[val_zeros];omega,?_,?_⟩
 ·rw[List.take_of_length_le (by simp)];exact val_zeros B K
 ·have e:=val_split B z K
  have h3:B ^ K*val B (z.drop K)≤A:=by rw[← hA];omega
  have h4:B ^ K*val B (z.drop K)<B ^ K*(B ^ n*H):=by rw[← Nat.mul_assoc,← Nat.pow_add];omega
  have:=Nat.lt_of_mul_lt_mul_left h4
  omega
theorem LongInv.window {B A b:Nat}{z o:List Nat}{Z K i n:Nat}(h:LongInv B A b z o Z K (i+1)) (hB:1<B) (hb:b<B ^ n) :
 val B ((z.drop i).take (n+1))=val B (z.drop i)∧val B (z.drop i)<b*B:=by
 have e:=val_drop_step B z i
 have hd:=dig_getD h.dz (by omega) i
 have hw:=h.win
 have h1:B*(val B (z.drop (i+1))+1)≤B*b:=Nat.mul_le_mul_left _ hw
 rw[Nat.mul_add]at h1
 rw[Nat.mul_comm b B]
 have h2:B*b<B*B ^ n:=Nat.mul_lt_mul_of_pos_left hb (by omega)
 have h3:B ^ (n+1)=B*B ^ n:=by rw[Nat.pow_succ,Nat.mul_comm]
 refine ⟨val_take_small (by omega) (by omega),by omega⟩
theorem LongInv.step {B A b:Nat}{z o l:List Nat}{Z K i n:Nat}(h:LongInv B A b z o Z K (i+1)) (hB:1<B) (hb:b<B ^ n) (hb0:0<b) (hi:i<K) (hz:i+(n+1)≤Z)
 (hl:l.length=n+1) (hd:dig B l) (hv:val B l=val B ((z.drop i).take (n+1)) % b) :
 LongInv B A b (z.take i ++ l ++ z.drop (i+(n+1))) (o.set i (val B ((z.drop i).take (n+1)) / b)) Z K i:=by
 obtain ⟨e1,e2⟩:=h.window hB hb
 rw[e1]at hv ⊢
 have hq:val B (z.drop i) / b<B:=by rw[Nat.div_lt_iff_lt_mul hb0,Nat.mul_comm];exact e2
 have hlz:=h.lz
 have hlo:=h.lo
 have ez:val B (z.drop (i+(n+1)))=0:=by
  rw[← List.drop_drop]
  refine val_drop_small (by omega) (Nat.lt_of_lt_of_le e2 ?_)
  rw[Nat.pow_succ];exact Nat.mul_le_mul_right _ (Nat.le_of_lt hb)
 have es:=val_split B z i
 have el:=h.low
 rw[val_take_step]at el
 have eo:=val_set (B:=B) (val B (z.drop i) / b) (show i<o.length by omega)
 have eoi:B ^ i*o.getD i 0=0:=by omega
 have elo:val B (o.take i)=0:=by omega
 have ti:(z.take i).length=i:=by rw[List.length_take];omega
 have evz:val B (z.take i ++ l ++ z.drop (i+(n+1)))=val B (z.take i)+B ^ i*val B l:=by
  rw[List.append_assoc,val_append,val_append,ez,ti,Nat.mul_zero,Nat.add_zero]
 have edm:=Nat.div_add_mod (val B (z.drop i)) b
 rw[← hv]at edm
 have hm:=Nat.mod_lt (val B (z.drop i)) hb0
 rw[← hv]at hm
 refine ⟨?_,by simp[hlo],?_,dig_set h.do_ hq _,?_,?_,?_⟩
 ·simp only[List.length_append,ti,hl,List.length_drop];omega
 ·exact dig_append.2 ⟨dig_append.2 ⟨dig_take h.dz i,hd⟩,dig_drop h.dz _⟩
 ·rw[evz]
  have hs:=h.sum
  rw[eoi,Nat.add_zero]at eo
  rw[eo,Nat.mul_add]
  generalize val B (z.drop i) / b=q at *
  have e5:B ^ i*val B (z.drop i)=B ^ i*(b*q)+B ^ i*val B l:=by rw[← Nat.mul_add,edm]
  have e6:b*(B ^ i*q)=B ^ i*(b*q):=Nat.mul_left_comm _ _ _
  omega
 ·rw[take_set];exact elo
 ·rw[List.append_assoc,List.drop_append_of_le_length (by omega),List.drop_of_length_le (by omega),List.nil_append,val_append,ez,Nat.mul_zero,Nat.add_zero]
  exact hm
theorem LongInv.done {B A b:Nat}{z o:List Nat}{Z K:Nat}(h:LongInv B A b z o Z K 0) (hb:0<b):val B o=A / b∧val B z=A % b:=by
 have hs:=h.sum
 have hw:=h.win
 rw[List.drop_zero]at hw
 rw[Nat.add_comm]at hs
 subst hs
 rw[Nat.mul_add_div hb,Nat.mul_add_mod,Nat.div_eq_of_lt hw,Nat.mod_eq_of_lt hw]
 exact ⟨rfl,rfl⟩
theorem top_shift {b n s:Nat}(hb:b≠0) (hn:(digs 4294967296 b).length=n+1) (hs:s=32 - blen ((digs 4294967296 b).getD n 0)) :
 s<32∧(digs 4294967296 (b*2 ^ s)).length=n+1∧2147483648≤(digs 4294967296 (b*2 ^ s)).getD n 0∧4294967296 ^ n*2147483648≤b*2 ^ s∧b*2 ^ s<4294967296 ^ (n+1):=by
 have hd:=digs_dig (B:=4294967296) (by omega) b
 have hv:=val_digs (B:=4294967296) (by omega) b
 have h1:=pow_le_of_digs_length (B:=4294967296) (n:=b) (k:=n) (by omega) (by omega)
 have e:=val_split 4294967296 (digs 4294967296 b) n
 rw[val_drop_step,List.drop_of_length_le (show (digs 4294967296 b).length≤n+1 by omega),hv]at e
 simp only[val,Nat.mul_zero,Nat.add_zero]at e
 have hlow:=val_take_lt (B:=4294967296) (by omega) hd n
 have ht:=dig_getD hd (by omega) n
 generalize (digs 4294967296 b).getD n 0=t at *
 generalize val 4294967296 ((digs 4294967296 b).take n)=lo at *
 have ht0:t≠0:=by intro h;rw[h]at e;omega
 have hl1:=lt_two_blen t
 have hl2:=two_le_blen ht0
 have hl3:=blen_le (n:=t) (k:=32) (by omega)
 have hl4:=blen_pos ht0
 generalize blen t=L at *
 subst hs
 have p1:2 ^ (L - 1)*2 ^ (32 - L)=2147483648:=by rw[← Nat.pow_add,show L - 1+(32 - L)=31 by omega]
 have p2:2 ^ L*2 ^ (32 - L)=4294967296:=by rw[← Nat.pow_add,show L+(32 - L)=32 by omega]
 have q1:4294967296 ^ n*2147483648≤b*2 ^ (32 - L):=by
  rw[← p1,← Nat.mul_assoc]
  refine Nat.mul_le_mul_right _ ?_
  have:4294967296 ^ n*2 ^ (L - 1)≤4294967296 ^ n*t:=Nat.mul_le_mul_left _ hl2
  omega
 have q2:b*2 ^ (32 - L)<4294967296 ^ (n+1):=by
  rw[Nat.pow_succ,show 4294967296 ^ n*4294967296=4294967296 ^ n*(2 ^ L*2 ^ (32 - L)) by rw[p2],← Nat.mul_assoc]
  refine Nat.mul_lt_mul_of_pos_right ?_ (Nat.two_pow_pos _)
  have:4294967296 ^ n*(t+1)≤4294967296 ^ n*2 ^ L:=Nat.mul_le_mul_left _ hl1
  rw[Nat.mul_add]at this
  omega
 have q3:4294967296 ^ n≤b*2 ^ (32 - L):=Nat.le_trans (by omega) q1
 refine ⟨by omega,?_,?_,q1,q2⟩
 ·have a1:=digs_length_le (B:=4294967296) (by omega) q2
  have a2:¬ (digs 4294967296 (b*2 ^ (32 - L))).length≤n:=fun h=>by
   have:=lt_pow_digs_length (B:=4294967296) (by omega) (b*2 ^ (32 - L))
   have:=Nat.pow_le_pow_right (show 0<4294967296 by omega) h
   omega
  omega
 ·rw[digs_getD (by omega)]
  have r1:b*2 ^ (32 - L) / 4294967296 ^ n<4294967296:=by
   rw[Nat.div_lt_iff_lt_mul (Nat.pow_pos (by omega)),Nat.mul_comm 4294967296,← Nat.pow_succ]
   exact q2
  rw[Nat.mod_eq_of_lt r1,Nat.le_div_iff_mul_le (Nat.pow_pos (by omega)),Nat.mul_comm]
  exact q1
end Vic
end
section
namespace Go.Proofs.YtbdfhnelmojbpaaGreatDoor
open Go.RowKit Vic
theorem nat_common (w:World) (a b:Nat) (ha:a<18446744073709551616) (hb:b<18446744073709551616) :
 Calls Tryz.prog 294 #[.int .u64 a,.int .u64 b] w (Keeps (.int .u64 ((Nat.gcd a b:Nat):Int)) w):=by
 have HG:Hid (Nat.gcd a b=Nat.gcd a b):=rfl
 obtain ⟨g,hg⟩:∃ g,g=Nat.gcd a b:=⟨_,rfl⟩
 rw[← hg]
 have HGG:=Lib.hid hg
 clear hg HG
 go_enter Tryz.func294,Tryz.ntmps294
 go_wp2
 go_loopw [0,1] (fun s t wr=>∃ x y n:Nat,s=.int .u64 x∧t=.int .u64 y∧wr=w.drewN n∧Hid (Nat.gcd x y=g)) (fun _ t _=>(intOf t).toNat)
 case atStart=>exact ⟨a,b,0,rfl,rfl,rfl,HGG.out.symm⟩
 case round=>
  obtain ⟨x,y,n,rfl,rfl,rfl,hi⟩:=hrel
  by_cases hy:y=0
  ·subst hy
   go_wp2
   go_ret
   refine ⟨ret_int ?_,Vic.Below.drewN_ (Below.refl _ _) _⟩
   rw[← hi.out,Nat.gcd_zero_right]
  ·have hy1:(1:Int)≤y:=by omega
   have e:((x:Nat):Int) % ((y:Nat):Int)=((x % y:Nat):Int):=(Int.natCast_emod _ _).symm
   have hlt:x % y<y:=Nat.mod_lt _ (by omega)
   have HI:Hid (Nat.gcd y (x % y)=g):=(gcd_step x y).trans hi.out
   generalize x % y=r at *
   have HLT:=Lib.hid hlt
   clear hlt hi
   go_wp2
   go_quiet (fail)
   go_wp2
   go_roundw
   case rel=>exact ⟨y,r,n+nq,rfl,by rw[e],World.drewN_drewN _ _ _,HI⟩
   case measure=>rw[e];have:=HLT.out;simp[intOf];omega
def Parted (a b:Nat) (w:World) (e:Ending) (w':World):Prop:=
 ∃ x y,e=.returned (.tuple #[x,y,.bool true])∧NatAt w' x (a / b)∧NatAt w' y (a % b)∧Below w.heap.size w w'
set_option maxHeartbeats 2000000 in
theorem nat_Div_small (w:World) (u v:Value) (a b:Nat) (ha:NatAt w u a) (hb:NatAt w v b) (hal:(dgs a).length≤500000000000) (hbl:(dgs b).length≤500000000000) (h:a<b) :
 Calls Tryz.prog 224 #[u,v] w (Parted a b w):=by
 have CB:=Lib.hid (nat_digits w v b hb)
 have CA:Hid (∀ wr,Below w.heap.size w wr→Calls Tryz.prog 219 #[u] wr (DigsOf (dgs a) wr)):=fun wr hw=>nat_digits wr u a (ha.keep hw)
 have CC0:=nat_Cmp w u v a b ha hb (by omega) (by omega)
 rw[cmpI_lt h]at CC0
 have CC:=Lib.hid CC0
 clear CC0
 have hb0:(dgs b).length≠0:=fun h0=>by
  have:=(digs_eq_nil (B:=4294967296) (by omega)).1 (List.eq_nil_of_length_eq_zero h0)
  omega
 have VA:Hid (val 4294967296 (dgs a)=a):=val_digs (by omega) a
 have da:dig 4294967296 (dgs a):=digs_dig (by omega) a
 have H:=Lib.hid h
 generalize dgs b=lb at *
 generalize dgs a=la at *
 have CO:=Lib.hid (nat_of w (.slice none 0 0) [] (Ints.nil_ _ _) (dig_nil _) (by simp))
 clear h
 go_enter Tryz.func224,Tryz.ntmps224
 go_wp2_with fail
 refine CB.out.mono ?_
 rintro e w' ⟨A,c,rfl,hA,rfl⟩
 go_wp2_with fail
 refine CC.out.mono ?_
 rintro e w' ⟨rfl,rfl⟩
 go_wp2_with fail
 refine CO.out.mono ?_
 rintro e w' ⟨z,rfl,hz,hbz⟩
 go_wp2_with fail
 refine (CA.out _ hbz).mono ?_
 rintro e w'' ⟨A2,c2,rfl,hA2,rfl⟩
 have CO2:=Lib.hid (nat_of w' _ la hA2 da (by omega))
 go_wp2_with fail
 refine CO2.out.mono ?_
 rintro e w'' ⟨z2,rfl,hz2,hbz2⟩
 go_wp2_with fail
 go_ret3
 rw[VA.out]at hz2
 refine ⟨z,z2,rfl,?_,?_,below_seq hbz hbz2⟩
 ·rw[Nat.div_eq_of_lt H.out];exact hz.keep (hbz2)
 ·rw[Nat.mod_eq_of_lt H.out];exact hz2
theorem cmpI_ge {a b:Nat}(h:b≤a):∃ s:Int,0≤s∧cmpI a b=s:=⟨cmpI a b,cmpI_nonneg h,rfl⟩
set_option maxRecDepth 100000 in
set_option maxHeartbeats 2000000 in
theorem nat_Div_one (w:World) (u v:Value) (a b:Nat) (ha:NatAt w u a) (hb:NatAt w v b) (hal:(dgs a).length≤500000000000) (hb1:(dgs b).length=1) (h:b≤a) :
 Calls Tryz.prog 224 #[u,v] w (Parted a b w):=by
 have CB:=Lib.hid (nat_digits w v b hb)
 have CA:Hid (∀ wr,Below w.heap.size w wr→Calls Tryz.prog 219 #[u] wr (DigsOf (dgs a) wr)):=fun wr hw=>nat_digits wr u a (ha.keep hw)
 have CC0:=nat_Cmp w u v a b ha hb (by omega) (by omega)
 obtain ⟨s,hs,hcs⟩:=cmpI_ge h
 rw[hcs]at CC0
 have CC:=Lib.hid CC0
 clear CC0
 have VA:Hid (val 4294967296 (dgs a)=a):=val_digs (by omega) a
 have da:dig 4294967296 (dgs a):=digs_dig (by omega) a
 have VB:val 4294967296 (dgs b)=b:=val_digs (by omega) b
 have db:dig 4294967296 (dgs b):=digs_dig (by omega) b
 have nb:norm (dgs b):=digs_norm (by omega) b
 obtain ⟨d,hd⟩:∃ d,dgs b = [d]:=List.length_eq_one_iff.1 hb1
 rw[hd]at VB db nb CB
 have hbd:d=b:=by simpa [val]using VB
 have hdl:d<4294967296:=db d (by simp)
 have hd0:d≠0:=by simpa [norm]using nb
 subst hbd
 have H:=Lib.hid h
 have ew:=wrap64_small d hdl
 have HDL:=Lib.hid hdl
 generalize dgs a=la at *
 clear h VB db nb hd hb1 hdl hcs
 go_enter Tryz.func224,Tryz.ntmps224
 go_wp2_with fail
 refine CB.out.mono ?_
 rintro e w' ⟨A,c,rfl,hA,rfl⟩
 obtain ⟨bb,ob,rfl,hcell⟩:=hA.at_ 0 (by simp)
 rw[show ([d]:List Nat).getD 0 0=d from rfl,Nat.add_zero]at hcell
 go_wp2_with fail
 refine CC.out.mono ?_
 rintro e w' ⟨rfl,rfl⟩
 go_wp2_with fail
 have DA:=da;have HD0:Hid (0<d):=Nat.pos_of_ne_zero hd0
 go_upto_region 7 with fail
 go_cut [8,9] (fun x y wc=>∃ bs os,x=.slice (some ⟨bs,0,none⟩) la.length la.length∧y=.int .u64 ((val 4294967296 la % d:Nat):Int)∧U32s wc (.slice (some ⟨bs,0,none⟩) la.length la.length) os∧dig 4294967296 os∧os.length=la.length∧val 4294967296 os=val 4294967296 la / d∧Below w.heap.size w wc)
 case rest=>
  obtain ⟨bs,os,rfl,rfl,hos,dos,los,vos,hbel⟩:=hcut
  have CO:=Lib.hid (nat_of wc (.slice (some ⟨bs,0,none⟩) la.length la.length) os hos dos (by omega))
  have CR:Hid (∀ wr,Calls Tryz.prog 201 #[.int .u64 ((val 4294967296 la % d:Nat):Int)] wr (Gives (fun x w'=>NatAt w' x (val 4294967296 la % d)) wr)):=fun wr=>nat_Of wr _ (by have:=Nat.mod_lt (val 4294967296 la) HD0.out;have:=HDL.out;omega)
  rw[vos]at CO
  clear vos
  rw[VA.out]at CR CO ⊢
  go_wp2_with fail
  refine CO.out.mono ?_
  rintro e w2 ⟨z,rfl,hz,hbz⟩
  go_wp2_with fail
  refine (CR.out _).mono ?_
  rintro e w3 ⟨z2,rfl,hz2,hbz2⟩
  go_wp2_with fail
  go_ret3
  exact ⟨z,z2,rfl,hz.keep hbz2,hz2,hbel.trans ((hbz.trans (hbz2.mono hbz.size)).mono hbel.size)⟩
 go_region_with (first|(go_at_call 219;refine (CA.out w.drew ⟨rfl,rfl,rfl,Nat.le_refl _,fun _ _=>rfl⟩).mono ?_;rintro e w2 ⟨A2,c2,rfl,hA2,rfl⟩)|(go_at_call 221;refine (nat_short _ A2 c2 la d hA2 DA (by omega) HD0.out (by have:=HDL.out;omega)).mono ?_;rintro e w' ⟨bs,os,rfl,hos,dos,los,vos,bos⟩))
 all_goals (go_wp2_with fail;go_meet)
 all_goals exact ⟨bs,os,rfl,rfl,hos,dos,los,vos,⟨bos.os,bos.tape,bos.output,bos.size,bos.block⟩⟩
end Go.Proofs.YtbdfhnelmojbpaaGreatDoor
end
section
namespace Go.Proofs.YtbdfhnelmojbpaaGreatDoor
open Go.RowKit Vic
theorem info1_u32:∃ i,Tryz.prog.info? 291=some i∧i.size=1:=by
 have h:=info_u32
 cases hi:Tryz.prog.info? 291 with
 | none=>rw[hi]at h;simp at h
 | some i=>rw[hi]at h;simp at h;exact ⟨i,rfl,h.2.1⟩
theorem mk_room (n:Nat) (N:Int) (hN:N=n) (hn:n≤10000000000000) (w:World) :
 (Instr.makeSlice 289 (.int .i64 0) (.int .i64 N)).run Tryz.prog w=.ok (.slice (some ⟨w.heap.size,0,none⟩) 0 n) (w.alloc (.cells (vals .u32 (List.replicate n 0)) 291)):=by
 subst hN
 have h:=info_u32
 obtain ⟨i,hi,hzz⟩:=Option.map_eq_some_iff.1 h
 simp only[Prod.mk.injEq]at hzz
 obtain ⟨hz,hs,hb⟩:=hzz
 have hr:=run_make (P:=Tryz.prog) w 289 291 i _ Tryz.underlying289 hi hz .i64 .i64 0 n (Int.le_refl _) (by omega) (by rw[hb];omega) (by omega)
 simp only[Int.toNat_zero,Int.toNat_natCast,hs,Nat.mul_one]at hr
 rw[hr,show (Value.int .u32 0).cells=#[.int .u32 0]from rfl,made_u32]
theorem _root_.Vic.NatAt.open_ {w:World}{v:Value}{n:Nat}(h:NatAt w v n) (h0:n≠0) :
 ∃ b A c,v=.pointer (some ⟨b,0,none⟩)∧w.cell? ⟨b,0,none⟩=some (.slice A (dgs n).length c)∧U32s w (.slice A (dgs n).length c) (dgs n):=by
 rcases h with ⟨_,h⟩|⟨b,s,h1,h2,h3,h4⟩
 ·exact absurd h h0
 ·obtain ⟨A,c,rfl,h4,h5⟩:=h3
  exact ⟨b,A,c,h1,h2,⟨A,c,rfl,h4,h5⟩⟩
theorem up_len {a s na:Nat}(hs:s<32) (hna:na=(dgs a).length):(dgs (a*2 ^ s)).length≤na+1:=by
 refine digs_length_le (by omega) ?_
 have h1:=lt_pow_digs_length (B:=4294967296) (by omega) a
 rw[show (digs 4294967296 a).length=na from hna.symm]at h1
 have h2:2 ^ s≤2 ^ 32:=Nat.pow_le_pow_right (by omega) (by omega)
 rw[Nat.pow_succ]
 exact Nat.lt_of_le_of_lt (Nat.mul_le_mul_left _ h2) (Nat.mul_lt_mul_of_pos_right h1 (by omega))
theorem digs_len_pos {n:Nat}(h:n≠0):0<(dgs n).length:=by
 rcases Nat.eq_zero_or_pos (dgs n).length with h0|h0
 ·exact absurd ((digs_eq_nil (B:=4294967296) (by omega)).1 (List.eq_nil_of_length_eq_zero h0)) h
 ·exact h0
theorem long_top {a s na k:Nat}(hs:s<32) (hna:na=(dgs a).length) (hk:k=na):a*2 ^ s<4294967296 ^ k*2147483648:=by
 have h1:=lt_pow_digs_length (B:=4294967296) (by omega) a
 rw[show (digs 4294967296 a).length=na from hna.symm]at h1
 have h2:2 ^ s≤2 ^ 31:=Nat.pow_le_pow_right (by omega) (by omega)
 subst hk
 exact Nat.lt_of_le_of_lt (Nat.mul_le_mul_left _ h2) (Nat.mul_lt_mul_of_pos_right h1 (by omega))
theorem rest_small {a b s m n:Nat}(hb:b≠0) (h:b*2 ^ s<4294967296 ^ m) (hn:m≤n):a % b*2 ^ s<4294967296 ^ n:=by
 have h1:a % b*2 ^ s≤b*2 ^ s:=Nat.mul_le_mul_right _ (Nat.le_of_lt (Nat.mod_lt _ (Nat.pos_of_ne_zero hb)))
 have h2:=Nat.pow_le_pow_right (show 0<4294967296 by omega) hn
 omega
theorem padded (n k:Nat) (hk:(dgs n).length≤k):∃ z,z=dgs n ++ List.replicate (k - (dgs n).length) 0∧z.length=k∧dig 4294967296 z∧val 4294967296 z=n∧∀ j,(dgs n).length≤j→z.getD j 0=0:=by
 refine ⟨_,rfl,by simp;omega,dig_append.2 ⟨digs_dig (by omega) _,dig_replicate (by omega) _⟩,?_,fun j hj=>?_⟩
 ·rw[val_append,val_zeros,Nat.mul_zero,Nat.add_zero];exact val_digs (by omega) n
 ·rw[getD_app_right _ _ _ hj,getD_zeros]
theorem put_zero (z:List Nat) (r:Nat) (h:r<z.length) (h0:z.getD r 0=0):z.take r ++ [0] ++ z.drop (r+([0]:List Nat).length)=z:=by
 apply List.ext_getElem?
 intro j
 have ht:(z.take r).length=r:=by simp;omega
 rcases Nat.lt_trichotomy j r with h1|h1|h1
 ·rw[List.append_assoc,List.getElem?_append_left (by omega),List.getElem?_take_of_lt h1]
 ·subst h1
  rw[List.append_assoc,List.getElem?_append_right (by omega),ht]
  simp[List.getD_eq_getElem?_getD,h]at h0
  simp[h,h0]
 ·rw[List.append_assoc,List.getElem?_append_right (by omega),ht,List.getElem?_append_right (by simp;omega),List.getElem?_drop]
  congr 1
  simp;omega
set_option maxRecDepth 100000 in
set_option maxHeartbeats 4000000 in
theorem nat_Div_long (w:World) (u v:Value) (a b m:Nat) (ha:NatAt w u a) (hb:NatAt w v b) (hal:(dgs a).length≤100000000000) (hb1:(dgs b).length=m+2) (h:b≤a) :
 Calls Tryz.prog 224 #[u,v] w (Parted a b w):=by
 have hb0:b≠0:=by
  rintro rfl
  rw[show dgs 0 = []from digs_zero _]at hb1;simp at hb1
 have CB:=Lib.hid (nat_digits w v b hb)
 have hlen:(dgs b).length≤(dgs a).length:=digs_length_mono (by omega) h
 have CC0:=nat_Cmp w u v a b ha hb (by omega) (by omega)
 obtain ⟨s0,hs0,hcs⟩:=cmpI_ge h
 rw[hcs]at CC0
 have CC:=Lib.hid CC0
 clear CC0
 have db:(dgs b).getD (m+1) 0<4294967296:=dig_getD (digs_dig (B:=4294967296) (by omega) b) (by omega) (m+1)
 obtain ⟨s,hs⟩:∃ s,s=32 - blen ((dgs b).getD (m+1) 0):=⟨_,rfl⟩
 obtain ⟨t1,t2,t3,t4,t5⟩:=top_shift (n:=m+1) hb0 hb1 hs
 obtain ⟨bl,hbl⟩:∃ bl,bl=32 - s:=⟨_,rfl⟩
 have CL:Hid (∀ wr,Calls Tryz.prog 154 #[.int .u64 ((dgs b).getD (m+1) 0:Nat)] wr (Rets (.int .i64 (bl:Nat)) wr)):=fun wr=>by
  have:=bits_Len ((dgs b).getD (m+1) 0) wr (by omega)
  rwa [show blen ((dgs b).getD (m+1) 0)=bl by have:=blen_le (n:=(dgs b).getD (m+1) 0) (k:=32) (by omega);omega]at this
 have ebl:(32:Int) - (bl:Int)=(s:Int):=by omega
 have CU:Hid (∀ wr,Below w.heap.size w wr→Calls Tryz.prog 272 #[v,.int .i64 s] wr (Gives (fun x w'=>NatAt w' x (b*2 ^ s)) wr)):=fun wr hw=>nat_up wr v b s (hb.keep hw) (by omega) (by omega)
 have CA:Hid (∀ wr,Below w.heap.size w wr→Calls Tryz.prog 272 #[u,.int .i64 s] wr (Gives (fun x w'=>NatAt w' x (a*2 ^ s)) wr)):=fun wr hw=>nat_up wr u a s (ha.keep hw) (by omega) (by omega)
 obtain ⟨lb,hlb⟩:∃ lb,lb=dgs b:=⟨_,rfl⟩
 rw[← hlb]at CB CL db hb1 hlen
 generalize hd:lb.getD (m+1) 0=d at *
 have ew:=wrap64_small d db
 have hss:s<32:=t1
 have T2:=Lib.hid t2;have T3:=Lib.hid t3;have T4:=Lib.hid t4;have T5:=Lib.hid t5;have H:=Lib.hid h;have HB0:=Lib.hid hb0;have DB:=Lib.hid db
 clear t1 t2 t3 t4 t5 h hs hcs hb0 db hlb hbl
 go_enter Tryz.func224,Tryz.ntmps224
 go_wp2_with fail
 refine CB.out.mono ?_
 rintro e w' ⟨A,c,rfl,hA,rfl⟩
 obtain ⟨bb,ob,rfl,hcell⟩:=hA.at_ (m+1) (by omega)
 rw[hd]at hcell
 rw[hb1]at hA ⊢
 go_wp2_with fail
 refine CC.out.mono ?_
 rintro e w' ⟨rfl,rfl⟩
 go_wp2_with fail
 refine (CL.out _).mono ?_
 rintro e w' ⟨rfl,rfl⟩
 go_wp2_with fail
 refine (CU.out _ (Below.refl _ _)).mono ?_
 rintro e w1 ⟨x1,rfl,hx1,hb1'⟩
 obtain ⟨px,A2,c2,rfl,hcx,hl2⟩:=hx1.open_ (Nat.mul_ne_zero HB0.out (Nat.ne_of_gt (Nat.two_pow_pos _)))
 rw[show (dgs (b*2 ^ s)).length=m+2 from T2.out]at hcx hl2
 obtain ⟨pa,A3,c3,rfl,hca,hl3⟩:=(ha.keep hb1').open_ (by have:=H.out;have:=HB0.out;omega)
 obtain ⟨na,hna⟩:∃ na,na=(dgs a).length:=⟨_,rfl⟩
 rw[← hna]at hca hl3 hal hlen
 have HNA:=Lib.hid hna
 clear hna
 have hmk:∀ w,(Instr.makeSlice 289 (.int .i64 0) (.int .i64 (na+2))).run Tryz.prog w=.ok (.slice (some ⟨w.heap.size,0,none⟩) 0 (na+2)) (w.alloc (.cells (vals .u32 (List.replicate (na+2) 0)) 291)):=fun w=>mk_room (na+2) _ (by omega) (by omega) w
 obtain ⟨i1,hi1,hsz1⟩:=info1_u32
 have ewn:IntKind.i64.wrap ((na:Int)+2)=(na:Int)+2:=by rw[IntKind.wrap_i64];omega
 go_upto_region 11 with fail
 have B0:Below w1.heap.size w1 w1.drew:=⟨rfl,rfl,rfl,Nat.le_refl _,fun _ _=>rfl⟩
 obtain ⟨ob0,hob0⟩:∃ o:Obj,o=.cells (vals .u32 (List.replicate (na+2) 0)) 291:=⟨_,rfl⟩
 have B1:Below w1.heap.size w1 (w1.drew.alloc ob0):=B0.alloc (Nat.le_refl _) _
 have E0:=Lib.hid (show a*2 ^ s≠0 from Nat.mul_ne_zero (by have:=H.out;have:=HB0.out;omega) (Nat.ne_of_gt (Nat.two_pow_pos _)))
 have LE:=Lib.hid (show (dgs (a*2 ^ s)).length≤na+1 from up_len hss HNA.out)
 have LP:=Lib.hid (show 0<(dgs (a*2 ^ s)).length from digs_len_pos E0.out)
 have HBW:=Lib.hid hb1';have HB0':=Lib.hid B0;have HB1':=Lib.hid B1;have HHL:=Lib.hid hlen;have HHA:=Lib.hid hal
 clear hb1' B0 B1
 go_cut [11] (fun x wc=>∃ g,x=.slice (some ⟨g,0,none⟩) (dgs (a*2 ^ s)).length (na+2)∧w1.heap.size≤g∧Below w1.heap.size w1 wc∧Row wc g 291 (vals .u32 (dgs (a*2 ^ s) ++ List.replicate (na+2 - (dgs (a*2 ^ s)).length) 0)))
 case rest=>
  obtain ⟨g,rfl,hg,hbc,hrow⟩:=hcut
  obtain ⟨z,hz,lz,dz,vz,zz⟩:=padded (a*2 ^ s) (na+2) (by have:=LE.out;omega)
  rw[← hz]at hrow
  have hn2:=LE.out
  generalize (dgs (a*2 ^ s)).length=n2 at *
  have ZZ:=Lib.hid zz;have VZ:=Lib.hid vz;have DZ:=Lib.hid dz;have HCA:=Lib.hid hca;have HHZ:=Lib.hid hz
  clear zz vz dz hz hmk
  go_wp2_with fail
  go_loopw [11] (fun x wr=>∃ r,x=.slice (some ⟨g,0,none⟩) r (na+2)∧n2≤r∧r≤na+1∧Below w1.heap.size w1 wr∧Row wr g 291 (vals .u32 z)) (fun x _=>match x with | .slice _ l _=>na+1 - l|_=>0)
  case atStart=>exact ⟨n2,rfl,Nat.le_refl _,hn2,hbc,hrow⟩
  case round=>
   obtain ⟨r,rfl,hr1,hr2,hbr,hrr⟩:=hrel
   have hcr:=cell_keep HCA.out hbr
   by_cases hlt:r≤na
   ·have hz0:=Lib.hid (ZZ.out r hr1)
    have hone:Ints .u32 (wr.alloc (.cells #[.int .u32 0] 291)) (.slice (some ⟨wr.heap.size,0,none⟩) ([0]:List Nat).length 1) [0]:=Row.ints (l:=[0]) (Row.new wr 291 (vals .u32 [0])) 1 (by simp)
    go_wp2_with (at_builtin;refine wpList_append_row rfl (.tmp 84) (.tmp 85) 289 rfl 291 i1 Tryz.underlying289 hi1 hsz1 .u32 g r (na+2) 1 z [0] _ 1 rfl rfl rfl (hrr.alloc _) hone (by simp) (by simp;omega) (by simp;omega) ?_;intro w6 hr6 ho6)
    rw[put_zero z r (by omega) hz0.out]at hr6
    go_wp2_with fail
    go_roundw
    case rel=>exact ⟨r+1,rfl,by omega,by omega,(hbr.alloc hbr.size _).trans (ho6.below hg),hr6⟩
    case measure=>show na+1 - (r+1)<na+1 - r;omega
   ·obtain rfl:r=na+1:=by omega
    obtain ⟨K,hK⟩:∃ K,na+1=K+(m+2):=⟨na+1 - (m+2),by omega⟩
    have hmk2:∀ w,(Instr.makeSlice 289 (.int .i64 (K:Int)) (.int .i64 (K:Int))).run Tryz.prog w=.ok (.slice (some ⟨w.heap.size,0,none⟩) K K) (w.alloc (.cells (vals .u32 (List.replicate K 0)) 291)):=fun w=>mk_u32 K _ rfl (by omega) w
    obtain ⟨b2,o2,rfl,hc0⟩:=(show U32s w1 (.slice A2 (dgs (b*2 ^ s)).length c2) (dgs (b*2 ^ s))from by rw[show (dgs (b*2 ^ s)).length=m+2 from T2.out];exact hl2).at_ 0 (by rw[show (dgs (b*2 ^ s)).length=m+2 from T2.out];omega)
    have hb2:b2<w1.heap.size:=block_lt hc0
    have hglt:=hrr.lt
    have L0:Hid (LongInv 4294967296 (a*2 ^ s) (b*2 ^ s) z (List.replicate K 0) (na+2) K K):=by
     have:=LongInv.start (B:=4294967296) (A:=a*2 ^ s) (b:=b*2 ^ s) (H:=2147483648) (K:=K) (n:=m+1) (by omega) DZ.out VZ.out (long_top hss HNA.out (by omega)) T4.out
     rwa [lz]at this
    clear hc0
    go_wp2_with fail
    obtain ⟨gt,hgt⟩:∃ gt,gt=wr.heap.size:=⟨_,rfl⟩
    obtain ⟨w4,hw4⟩:∃ w4,w4=wr.alloc (.cells (vals .u32 (List.replicate K 0)) 291):=⟨_,rfl⟩
    have R0:Row w4 gt 291 (vals .u32 (List.replicate K 0)):=by rw[hw4,hgt];exact Row.new _ _ _
    have R1:Row w4 g 291 (vals .u32 z):=by rw[hw4];exact hrr.alloc _
    have B4:Below w1.heap.size w1 w4:=by rw[hw4];exact hbr.alloc hbr.size _
    rw[← hw4,← hgt]
    have hgg:g<gt:=by rw[hgt];exact hglt
    clear hw4 hgt hglt hrr hbr hcr hmk2
    go_loopw [13] (fun t wq=>∃ (j:Nat) (z o:List Nat),t=.int .i64 ((j:Int) - 1)∧j≤K∧Below w1.heap.size w1 wq∧Row wq g 291 (vals .u32 z)∧Row wq gt 291 (vals .u32 o)∧Hid (LongInv 4294967296 (a*2 ^ s) (b*2 ^ s) z o (na+2) K j)) (fun t _=>(intOf t+1).toNat)
    case atStart=>exact ⟨K,z,_,rfl,Nat.le_refl _,B4,R1,R0,L0⟩
    case round=>
     obtain ⟨j,z,o,rfl,hj,hbq,hrz,hro,hi⟩:=hrel
     rcases Nat.eq_zero_or_pos j with h0|h0
     ·subst h0
      obtain ⟨vo,vz⟩:=hi.out.done (Nat.pos_of_ne_zero (Nat.mul_ne_zero HB0.out (Nat.ne_of_gt (Nat.two_pow_pos _))))
      obtain ⟨q1,q2⟩:=scale_div (N:=a) (y:=b) (s:=2 ^ s) (Nat.two_pow_pos _)
      rw[q1]at vo;rw[q2]at vz
      have lo:=hi.out.lo
      have lz':=hi.out.lz
      have do':=hi.out.do_
      have dz':=hi.out.dz
      have ho:U32s wr (.slice (some ⟨gt,0,none⟩) K K) o:=by
       have:=hro.ints (l:=o) K (by omega)
       rwa [lo]at this
      have hzz:U32s wr (.slice (some ⟨g,0,none⟩) (na+1) (na+2)) (z.take (na+1)):=hrz.front (na+1) (na+2) (by omega) (by omega)
      have hvz:val 4294967296 (z.take (na+1))=a % b*2 ^ s:=by
       rw[val_take_small (by omega),vz]
       rw[vz]
       exact rest_small HB0.out T5.out (by omega)
      have CO:=Lib.hid (nat_of wr _ o ho do' (by omega))
      have CZ:Hid (∀ wq,Below wr.heap.size wr wq→Calls Tryz.prog 199 #[.slice (some ⟨g,0,none⟩) (na+1) (na+2)] wq (Gives (fun x w'=>NatAt w' x (a % b*2 ^ s)) wq)):=fun wq hq=>by
       have:=nat_of wq _ (z.take (na+1)) (hzz.keep hq) (dig_take dz' _) (by simp;omega)
       rwa [hvz]at this
      rw[vo]at CO
      have hdl6:(dgs (a % b*2 ^ s)).length≤1000000000000:=by
       have h1:=digs_length_le (B:=4294967296) (show 1<4294967296 by omega) (rest_small (a:=a) HB0.out T5.out (Nat.le_refl (m+1+1)))
       have h2:=HHL.out
       have h3:=HHA.out
       exact Nat.le_trans h1 (by omega)
      clear vo vz q1 q2 hvz ho hzz hK
      go_wp2_with fail
      refine CO.out.mono ?_
      rintro e w5 ⟨x5,rfl,hx5,hb5⟩
      go_wp2_with fail
      refine (CZ.out _ hb5).mono ?_
      rintro e w6 ⟨x6,rfl,hx6,hb6⟩
      have CD:=Lib.hid (nat_down w6 x6 _ s hx6 hdl6 (by omega))
      rw[Nat.mul_div_cancel _ (Nat.two_pow_pos s)]at CD
      go_wp2_with fail
      refine CD.out.mono ?_
      rintro e w7 ⟨x7,rfl,hx7,hb7⟩
      go_wp2_with fail
      go_ret3
      have hB5:=below_seq hb5 (below_seq hb6 hb7)
      exact ⟨x5,x7,rfl,hx5.keep (below_seq hb6 hb7),hx7,HBW.out.trans ((hbq.trans (hB5.mono hbq.size)).mono HBW.out.size)⟩
     ·obtain ⟨k,rfl⟩:∃ k,j=k+1:=⟨j - 1,by omega⟩
      have lz':=hi.out.lz
      have lo:=hi.out.lo
      have dz':=hi.out.dz
      obtain ⟨v1,v2⟩:=hi.out.window (by omega) T5.out
      have hwl:((z.drop k).take (m+3)).length=m+3:=by simp;omega
      have hl2':U32s wr (.slice (some ⟨b2,o2,none⟩) (dgs (b*2 ^ s)).length c2) (dgs (b*2 ^ s)):=by
       rw[show (dgs (b*2 ^ s)).length=m+2 from T2.out];exact hl2.keep hbq
      have CS:=Lib.hid (nat_step wr g k (na+2 - k) b2 o2 c2 m (vals .u32 z) ((z.drop k).take (m+3)) (dgs (b*2 ^ s)) (by rw[upd_window _ _ _ (by omega)];exact hrz) (by rw[hwl,vals_size];omega)
       (fun i hi=>by
        obtain ⟨b3,o3,e3,h3⟩:=hl2'.at_ i hi
        injection e3 with e3
        injection e3 with e3 e4
        subst e3;subst e4
        exact h3) (by omega) hwl T2.out (by omega) (by omega) (by have:=hl2'.cap;rw[show (dgs (b*2 ^ s)).length=m+2 from T2.out]at this;exact this) (dig_take (dig_drop dz' _) _) (digs_dig (by omega) _) T3.out
       (by rw[v1,show val 4294967296 (dgs (b*2 ^ s))=b*2 ^ s from val_digs (by omega) _];exact v2))
      clear v1 v2 hl2'
      have hK2:K+(m+2)=na+1:=hK.symm
      clear hK
      go_wp2_with fail
      rw[show k+(m+2)+1 - k=m+3 by omega]
      refine CS.out.mono ?_
      rintro e w5 ⟨he,l,hrl,hll,hdl,hvl,hol⟩
      rw[show val 4294967296 (dgs (b*2 ^ s))=b*2 ^ s from val_digs (by omega) _]at he hvl
      obtain ⟨q,hq⟩:∃ q,q=val 4294967296 ((z.drop k).take (m+3)) / (b*2 ^ s):=⟨_,rfl⟩
      rw[← hq]at he
      subst he
      have hgn:gt≠g:=by omega
      have hro5:Row w5 gt 291 (vals .u32 o):=(hol.block gt hgn).trans hro
      have hcell5:=hro5.cell k
      rw[vals_get .u32 o k (by omega)]at hcell5
      have hfree5:=hro5.free k
      rw[upd_vals z l k (by omega),hll,hwl]at hrl
      have HST:=Lib.hid (hi.out.step (by omega) T5.out (Nat.pos_of_ne_zero (Nat.mul_ne_zero HB0.out (Nat.ne_of_gt (Nat.two_pow_pos _)))) (by omega) (by omega) (hll.trans hwl) hdl hvl)
      rw[← hq]at HST
      clear hq hvl
      go_wp2_with fail
      go_roundw
      case rel=>
       refine ⟨k,_,_,rfl,by omega,(hbq.trans (hol.below hg)).setCell (Nat.le_trans hg (Nat.le_of_lt hgg)) _,hrl.far (Nat.ne_of_lt hgg) _,?_,HST⟩
       rw[← vals_set]
       exact hro5.set _ _
      case measure=>simp[intOf]
 go_region_law (first
  | (go_simp;go_at_call 272;refine (CA.out _ (by first|exact HBW.out.trans (HB0'.out.mono HBW.out.size)|(rw[← hob0];exact HBW.out.trans (HB1'.out.mono HBW.out.size)))).mono ?_;rintro e w5 ⟨x5,rfl,hx5,hb5⟩;obtain ⟨p5,A5,c5,rfl,hc5,hl5⟩:=hx5.open_ E0.out;have k5:(w5.alloc (.cells (vals .u32 (List.replicate (na+2) 0)) 291)).cell? ⟨p5,0,none⟩=some (.slice A5 (dgs (a*2 ^ s)).length c5):=cell_keep hc5 ((Below.refl _ _).alloc (Nat.le_refl _) _);(try have hrow5:Row w5 w1.heap.size 291 (vals .u32 (List.replicate (na+2) 0)):=Row.keep (Row.new w1.drew 291 (vals .u32 (List.replicate (na+2) 0))) hb5);(try have kpa:w5.cell? ⟨pa,0,none⟩=some (.slice A3 na c3):=cell_keep (w:=w1.drew) hca hb5))
  | ((refine step_append_row rfl (.tmp 68) (.tmp 74) 289 rfl 291 i1 Tryz.underlying289 hi1 hsz1 .u32 _ _ _ _ (List.replicate (na+2) 0) (dgs (a*2 ^ s)) _ _ rfl rfl rfl (by first|exact hrow5|exact Row.new _ _ _) (by first|exact hl5|exact Ints.keep hl5 ((Below.refl _ _).alloc (Nat.le_refl _) _)) LP.out (by have:=LE.out;simp;omega) (by have:=LE.out;omega) ?_;intro w6 hr6 ho6)))
 all_goals (go_wp2_with fail;go_meet)
 all_goals subst hob0
 all_goals refine ⟨_,rfl,?_,?_,by simpa using hr6⟩
 all_goals first
  | exact Nat.le_refl _
  | exact hb5.size
  | exact (HB1'.out.trans (hb5.mono HB1'.out.size)).trans (ho6.below (Nat.le_refl _))
  | exact ((HB0'.out.trans (hb5.mono HB0'.out.size)).alloc hb5.size _).trans (ho6.below hb5.size)
end Go.Proofs.YtbdfhnelmojbpaaGreatDoor
end
