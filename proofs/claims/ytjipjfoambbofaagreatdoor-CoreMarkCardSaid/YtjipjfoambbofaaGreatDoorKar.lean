/- Plain arithmetic of package nat: shifts. No program in sight. -/
import Derived.Test.YtjipjfoambbofaaGreatDoorKaq
import Derived.Lib.ItoaNum
import Derived.Lib.ParseIntB
import Derived.Lib.SlTrimSet
import Derived.Lib.Repeat
import Derived.Test.YtjipjfoambbofaaGreatDoorKap
import Derived.Deep.Draws
import Derived.Laws.AppendOwn
import Derived.Deep.RegionLaw
import Derived.Maps.AppendAt
set_option linter.unusedVariables false
set_option linter.unusedSimpArgs false
section
namespace Vic
structure UpInv (l o:List Nat) (q s i:Nat):Prop where
 len:o.length=l.length+q+1
 dg:dig (2 ^ 32) o
 sum:val (2 ^ 32) o=2 ^ s*((2 ^ 32) ^ q*val (2 ^ 32) (l.take i))
 small:o.getD (i+q) 0<2 ^ s
 far:∀ j,i+q<j→o.getD j 0=0
theorem val_zeros (B n:Nat):val B (List.replicate n 0)=0:=by
 induction n with
 | zero=>rfl
 | succ n ih=>rw[List.replicate_succ,val_cons,ih];simp
theorem getD_zeros (n j:Nat):(List.replicate n 0).getD j 0=0:=by
 simp only[List.getD_eq_getElem?_getD,List.getElem?_replicate];split<;>rfl
theorem UpInv.start (l:List Nat) (q s:Nat):UpInv l (List.replicate (l.length+q+1) 0) q s 0:=
 ⟨by simp,dig_replicate (by omega) _,by rw[val_zeros];simp[val],by rw[getD_zeros];exact Nat.two_pow_pos s,fun j _=>getD_zeros _ _⟩
theorem up_or {c y s:Nat}(hc:c<2 ^ s):c ||| (y*2 ^ s % 2 ^ 32)=c+y*2 ^ s % 2 ^ 32:=by
 by_cases hs:s≤32
 ·have e:y*2 ^ s % 2 ^ 32=2 ^ s*(y % 2 ^ (32 - s)):=by
   have:(2:Nat) ^ 32=2 ^ s*2 ^ (32 - s):=by rw[← Nat.pow_add];congr 1;omega
   rw[this,Nat.mul_comm y,Nat.mul_mod_mul_left]
  rw[e,Nat.or_comm,← Nat.two_pow_add_eq_or_of_lt hc];omega
 ·have e:y*2 ^ s % 2 ^ 32=0:=by
   have:(2:Nat) ^ s=2 ^ 32*2 ^ (s - 32):=by rw[← Nat.pow_add];congr 1;omega
   rw[this,Nat.mul_left_comm];exact Nat.mul_mod_right _ _
  rw[e];simp
theorem UpInv.step {l o:List Nat}{q s i:Nat}(h:UpInv l o q s i) (hs:s<32) (hl:dig (2 ^ 32) l) (hi:i<l.length) :
 o.getD (i+q) 0 ||| (l.getD i 0*2 ^ s % 2 ^ 32)<2 ^ 32∧l.getD i 0*2 ^ s / 2 ^ 32<2 ^ 32∧l.getD i 0*2 ^ s<2 ^ 64 ∧
 UpInv l ((o.set (i+q) (o.getD (i+q) 0 ||| (l.getD i 0*2 ^ s % 2 ^ 32))).set (i+q+1) (l.getD i 0*2 ^ s / 2 ^ 32)) q s (i+1):=by
 have hd:=dig_getD hl (by omega) i
 have hp:=Nat.two_pow_pos s
 have hp2:2 ^ s≤2 ^ 31:=Nat.pow_le_pow_right (by omega) (by omega)
 have hc:=h.small
 rw[up_or hc]
 generalize hdd:l.getD i 0=d at *
 generalize hcc:o.getD (i+q) 0=c at *
 have e32:(2:Nat) ^ 32=2 ^ (32 - s)*2 ^ s:=by rw[← Nat.pow_add];congr 1;omega
 have hy:d*2 ^ s<2 ^ 32*2 ^ s:=Nat.mul_lt_mul_of_pos_right hd hp
 have b2:d*2 ^ s / 2 ^ 32<2 ^ s:=by
  rw[Nat.div_lt_iff_lt_mul (by omega),Nat.mul_comm (2 ^ s)];exact hy
 have b1:c+d*2 ^ s % 2 ^ 32<2 ^ 32:=by
  have e:d*2 ^ s % 2 ^ 32=d % 2 ^ (32 - s)*2 ^ s:=by
   conv=>lhs;rw[e32]
   exact Nat.mul_mod_mul_right _ _ _
  have h1:d % 2 ^ (32 - s)+1≤2 ^ (32 - s):=Nat.mod_lt _ (Nat.two_pow_pos _)
  have h2:=Nat.mul_le_mul_right (2 ^ s) h1
  rw[← e32,Nat.add_mul,← e]at h2
  omega
 have b3:d*2 ^ s<2 ^ 64:=by
  have:=Nat.mul_le_mul_left (2 ^ 32) hp2
  omega
 refine ⟨b1,by omega,b3,by simp[h.len],dig_set (dig_set h.dg b1 _) (by omega) _,?_,?_,fun j hj=>?_⟩
 ·have e1:=val_set (B:=2 ^ 32) (o:=o) (j:=i+q) (c+d*2 ^ s % 2 ^ 32) (by rw[h.len];omega)
  have e2:=val_set (B:=2 ^ 32) (o:=o.set (i+q) (c+d*2 ^ s % 2 ^ 32)) (j:=i+q+1) (d*2 ^ s / 2 ^ 32) (by simp[h.len];omega)
  rw[set_getD_other _ _ _ _ (by omega),h.far _ (by omega)]at e2
  rw[hcc,Nat.mul_add]at e1
  have e3:=Nat.mod_add_div (d*2 ^ s) (2 ^ 32)
  have e4:(2 ^ 32) ^ (i+q)*(d*2 ^ s % 2 ^ 32)+(2 ^ 32) ^ (i+q+1)*(d*2 ^ s / 2 ^ 32)=(2 ^ 32) ^ (i+q)*(d*2 ^ s):=by
   rw[show ((2:Nat) ^ 32) ^ (i+q+1)=(2 ^ 32) ^ (i+q)*2 ^ 32 from Nat.pow_succ _ _,Nat.mul_assoc,← Nat.mul_add,e3]
  rw[val_take_step,hdd,Nat.mul_add,Nat.mul_add]
  have e5:2 ^ s*((2 ^ 32) ^ q*((2 ^ 32) ^ i*d))=(2 ^ 32) ^ (i+q)*(d*2 ^ s):=by
   rw[Nat.pow_add,Nat.mul_assoc,Nat.mul_left_comm (2 ^ s),Nat.mul_left_comm ((2 ^ 32) ^ i),Nat.mul_left_comm (2 ^ s),Nat.mul_comm (2 ^ s) d]
  rw[e5]
  have:=h.sum
  omega
 ·rw[show i+1+q=i+q+1 by omega,set_getD_same _ _ _ (by simp[h.len];omega)];exact b2
 ·rw[set_getD_other _ _ _ _ (by omega),set_getD_other _ _ _ _ (by omega)];exact h.far j (by omega)
theorem UpInv.done {l o:List Nat}{q s:Nat}(h:UpInv l o q s l.length):val (2 ^ 32) o=val (2 ^ 32) l*2 ^ (32*q+s):=by
 rw[h.sum,val_take_all _ l _ (Nat.le_refl _),Nat.pow_add,← Nat.pow_mul,Nat.mul_comm (2 ^ s),Nat.mul_right_comm,Nat.mul_comm]
structure DownInv (l o:List Nat) (s i:Nat):Prop where
 len:o.length=l.length
 dg:dig (2 ^ 32) o
 sum:val (2 ^ 32) (o.take i)=val (2 ^ 32) l / 2 ^ s % (2 ^ 32) ^ i
theorem DownInv.start (l:List Nat) (s:Nat):DownInv l (List.replicate l.length 0) s 0:=
 ⟨by simp,dig_replicate (by omega) _,by simp[val];omega⟩
theorem down_digit {l:List Nat}(hl:dig (2 ^ 32) l) (s i:Nat) (hs:s<32) :
 val (2 ^ 32) l / 2 ^ s / (2 ^ 32) ^ i % 2 ^ 32=(l.getD i 0+l.getD (i+1) 0*2 ^ 32) / 2 ^ s % 2 ^ 32:=by
 have hp:=Nat.two_pow_pos s
 have hB:0<(2 ^ 32) ^ i:=Nat.pow_pos (by omega)
 rw[Nat.div_div_eq_div_mul,Nat.mul_comm (2 ^ s),← Nat.div_div_eq_div_mul,← val_drop _ (by omega) l hl,val_drop_step,val_drop_step _ l (i+1)]
 generalize val (2 ^ 32) (l.drop (i+1+1))=V
 generalize l.getD i 0=x
 generalize l.getD (i+1) 0=y
 have e:x+2 ^ 32*(y+2 ^ 32*V)=(x+y*2 ^ 32)+2 ^ s*(2 ^ 32*(2 ^ (32 - s)*V)):=by
  have e32:2 ^ s*(2 ^ 32*(2 ^ (32 - s)*V))=2 ^ 32*(2 ^ 32*V):=by
   rw[Nat.mul_left_comm,← Nat.mul_assoc (2 ^ s),← Nat.pow_add,show s+(32 - s)=32 by omega]
  rw[e32];omega
 rw[e,Nat.add_mul_div_left _ _ hp,Nat.add_mul_mod_self_left]
theorem DownInv.step {l o:List Nat}{s i:Nat}(h:DownInv l o s i) (hs:s<32) (hl:dig (2 ^ 32) l) (hi:i<l.length) :
 DownInv l (o.set i ((l.getD i 0+l.getD (i+1) 0*2 ^ 32) / 2 ^ s % 2 ^ 32)) s (i+1):=by
 refine ⟨by simp[h.len],dig_set h.dg (Nat.mod_lt _ (by omega)) _,?_⟩
 rw[val_take_set _ o i _ (by rw[h.len];exact hi),h.sum,← down_digit hl s i hs]
 exact (Nat.mod_pow_succ ..).symm
theorem DownInv.done {l o:List Nat}{s:Nat}(h:DownInv l o s l.length) (hl:dig (2 ^ 32) l):val (2 ^ 32) o=val (2 ^ 32) l / 2 ^ s:=by
 have e:=h.sum
 rw[val_take_all _ o _ (by rw[h.len];exact Nat.le_refl _)]at e
 rw[e]
 refine Nat.mod_eq_of_lt (Nat.lt_of_le_of_lt (Nat.div_le_self _ _) ?_)
 exact val_lt (by omega) hl
theorem down_all {l:List Nat}(hl:dig (2 ^ 32) l) (q s:Nat):val (2 ^ 32) (l.drop q) / 2 ^ s=val (2 ^ 32) l / 2 ^ (32*q+s):=by
 rw[val_drop _ (by omega) l hl,Nat.div_div_eq_div_mul,Nat.pow_add,Nat.pow_mul]
theorem down_none {l:List Nat}(hl:dig (2 ^ 32) l) (k:Nat) (h:l.length≤k / 32):val (2 ^ 32) l / 2 ^ k=0:=by
 apply Nat.div_eq_of_lt
 have h1:=val_lt (by omega) hl
 rw[← Nat.pow_mul]at h1
 exact Nat.lt_of_lt_of_le h1 (Nat.pow_le_pow_right (by omega) (by omega))
end Vic
end
section
namespace Go.Proofs.YtjipjfoambbofaaGreatDoor
open Go.RowKit Vic
theorem _root_.Vic.U32s.cap {w:World}{A:Option Addr}{c:Nat}{l:List Nat}(h:U32s w (.slice A l.length c) l):l.length≤c:=by
 obtain ⟨A',c',hv,h2,_⟩:=h
 injection hv with _ _ h3
 omega
theorem _root_.Vic.U32s.cut {w:World}{b o c:Nat}{l:List Nat}(h:U32s w (.slice (some ⟨b,o,none⟩) l.length c) l) (q:Nat) (hq:q≤l.length) :
 U32s w (.slice (some ⟨b,o+q,none⟩) (l.length - q) (c - q)) (l.drop q):=by
 refine ⟨_,c - q,by rw[List.length_drop],by rw[List.length_drop];have:=h.cap;omega,fun i hi=>?_⟩
 rw[List.length_drop]at hi
 obtain ⟨b',o',hb,hc⟩:=h.at_ (q+i) (by omega)
 injection hb with hb
 injection hb with hb1 hb2
 subst hb1;subst hb2
 exact ⟨b,o+q,rfl,by rw[getD_drop,Nat.add_assoc];exact hc⟩
theorem down_val (p p2 s:Nat) (hp:p<4294967296) (hp2:p2<4294967296) :
 bits .or .u64 (p:Int) (IntKind.u64.wrap ((p2:Int)*4294967296)) / 2 ^ s % 4294967296=(((p+p2*2 ^ 32) / 2 ^ s % 2 ^ 32:Nat):Int):=by
 rw[show IntKind.u64.wrap ((p2:Int)*4294967296)=(p2:Int)*4294967296 by rw[IntKind.wrap_u64];omega,or_up p p2 hp hp2,shr_val,
  show p+4294967296*p2=p+p2*2 ^ 32 by omega]
 generalize (p+p2*2 ^ 32) / 2 ^ s=y
 omega
theorem up_y (d s:Nat) (hd:d<4294967296) (h:d*2 ^ s<2 ^ 64):IntKind.u64.wrap (IntKind.u64.wrap (d:Int)*2 ^ s)=((d*2 ^ s:Nat):Int):=by
 rw[wrap64_small d hd,shl_val]
 exact congrArg (fun n:Nat=>(n:Int)) (Nat.mod_eq_of_lt h)
theorem up_lo (x d s:Nat) (hx:x<4294967296) (hd:d<4294967296) (h:d*2 ^ s<2 ^ 64) :
 bits .or .u32 (x:Int) (IntKind.u64.wrap (IntKind.u64.wrap (d:Int)*2 ^ s) % 4294967296)=((x ||| d*2 ^ s % 2 ^ 32:Nat):Int):=by
 rw[up_y d s hd h]
 generalize d*2 ^ s=y
 rw[show ((y:Nat):Int) % 4294967296=((y % 2 ^ 32:Nat):Int) by omega]
 exact u32_or_nat _ _ hx (by omega)
theorem up_hi (d s:Nat) (hd:d<4294967296) (h:d*2 ^ s<2 ^ 64) :
 IntKind.u64.wrap (IntKind.u64.wrap (d:Int)*2 ^ s) / 4294967296 % 4294967296=((d*2 ^ s / 2 ^ 32:Nat):Int):=by
 rw[up_y d s hd h]
 generalize d*2 ^ s=y at *
 omega
set_option maxRecDepth 100000 in
set_option maxHeartbeats 4000000 in
theorem nat_up (w:World) (v:Value) (a k:Nat) (ha:NatAt w v a) (hal:(dgs a).length≤500000000000) (hk:k≤1000000000000) :
 Calls Tryz.prog 264 #[v,.int .i64 k] w (Gives (fun x w'=>NatAt w' x (a*2 ^ k)) w):=by
 have CA:=Lib.hid (nat_digits w v a ha)
 have VA:Hid (val 4294967296 (dgs a)=a):=val_digs (by omega) a
 have da:dig 4294967296 (dgs a):=digs_dig (by omega) a
 generalize dgs a=la at *
 obtain ⟨q,hq⟩:∃ q,q=k / 32:=⟨_,rfl⟩
 obtain ⟨s,hs⟩:∃ s,s=k % 32:=⟨_,rfl⟩
 have hqb:q≤100000000000:=by omega
 have hsb:s<32:=by omega
 have eq1:((k:Nat):Int) / 32=(q:Int):=by omega
 have es:((k:Nat):Int) % 32=(s:Int):=by omega
 have hqs:k=32*q+s:=by omega
 have HQS:=Lib.hid hqs
 have hmk:∀ w,(Instr.makeSlice 281 (.int .i64 (la.length+q+1)) (.int .i64 (la.length+q+1))).run Tryz.prog w=.ok (.slice (some ⟨w.heap.size,0,none⟩) (la.length+q+1) (la.length+q+1)) (w.alloc (.cells (vals .u32 (List.replicate (la.length+q+1) 0)) 283)):=fun w=>mk_u32 _ _ (by omega) (by omega) w
 clear hq hs hqs
 go_enter Tryz.func264,Tryz.ntmps264
 go_wp2_with fail
 refine CA.out.mono ?_
 rintro e w' ⟨A,c,rfl,hA,rfl⟩
 go_wp2_with fail
 clear hmk
 go_loopw [21] (fun t wr=>∃ (i:Nat) (o:List Nat),t=.int .i64 i∧i≤la.length∧Below w.heap.size w wr∧Row wr w.heap.size 283 (vals .u32 o)∧Hid (UpInv la o q s i)) (fun t _=>la.length - (intOf t).toNat)
 case atStart=>exact ⟨0,_,rfl,by omega,(Below.refl _ _).alloc (Nat.le_refl _) _,Row.new _ _ _,UpInv.start la q s⟩
 case round=>
  obtain ⟨i,o,rfl,hi,hbl,hrow,ho⟩:=hrel
  by_cases hlt:i<la.length
  ·obtain ⟨b1,o1,rfl,hc1⟩:=(U32s.keep hA hbl).at_ i hlt
   have hlen:=ho.out.len
   have hcell:=hrow.cell (i+q)
   rw[vals_get .u32 o (i+q) (by omega)]at hcell
   have hfree:=hrow.free (i+q)
   have hst:=ho.out.step hsb da hlt
   have hd:=dig_getD da (by omega) i
   have hc:=dig_getD ho.out.dg (by omega) (i+q)
   have hcell2:=hrow.cell (i+q+1)
   rw[vals_get .u32 o (i+q+1) (by omega)]at hcell2
   have hfree2:=hrow.free (i+q+1)
   generalize la.getD i 0=d at *
   generalize o.getD (i+q) 0=x at *
   generalize o.getD (i+q+1) 0=z at *
   have HST:=Lib.hid hst
   have HD:=Lib.hid hd
   have HC:=Lib.hid hc
   clear hst hd hc
   go_wp2_with fail
   go_roundw
   case rel=>
    obtain ⟨f1,f2,f3,f4⟩:=HST.out
    refine ⟨i+1,_,by go_num,by omega,(hbl.setCell (Nat.le_refl _) _).setCell (Nat.le_refl _) _,?_,f4⟩
    rw[up_lo x d s HC.out HD.out f3,up_hi d s HD.out f3,← vals_set,← vals_set]
    exact (hrow.set _ _).set _ _
   case measure=>simp[intOf];omega
  ·obtain rfl:i=la.length:=by omega
   have hd:=ho.out.done
   rw[← HQS.out]at hd
   have hd':val 4294967296 o=a*2 ^ k:=by rw[← VA.out];exact hd
   have hlen:=ho.out.len
   have hu:U32s wr (.slice (some ⟨w.heap.size,0,none⟩) (la.length+q+1) (la.length+q+1)) o:=by
    have:=hrow.ints (l:=o) (la.length+q+1) (by omega)
    rwa [hlen]at this
   have CO:=Lib.hid (nat_of wr _ o hu ho.out.dg (by omega))
   have HD:=Lib.hid hd'
   clear hd hd' hlen
   go_wp2_with fail
   refine CO.out.mono ?_
   rintro e w' ⟨z,rfl,hz,hbz⟩
   rw[HD.out]at hz
   go_wp2
   go_ret
   exact ⟨z,rfl,hz,below_seq hbl hbz⟩
set_option maxRecDepth 100000 in
set_option maxHeartbeats 4000000 in
theorem nat_down (w:World) (v:Value) (a k:Nat) (ha:NatAt w v a) (hal:(dgs a).length≤1000000000000) (hk:k≤1000000000000000) :
 Calls Tryz.prog 266 #[v,.int .i64 k] w (Gives (fun x w'=>NatAt w' x (a / 2 ^ k)) w):=by
 have CA:=Lib.hid (nat_digits w v a ha)
 have VA:Hid (val 4294967296 (dgs a)=a):=val_digs (by omega) a
 have da:dig 4294967296 (dgs a):=digs_dig (by omega) a
 generalize dgs a=la at *
 obtain ⟨q,hq⟩:∃ q,q=k / 32:=⟨_,rfl⟩
 obtain ⟨s,hs⟩:∃ s,s=k % 32:=⟨_,rfl⟩
 have hqb:q≤1000000000000000:=by omega
 have hsb:s<32:=by omega
 have eq1:((k:Nat):Int) / 32=(q:Int):=by omega
 have es:((k:Nat):Int) % 32=(s:Int):=by omega
 have hqs:k=32*q+s:=by omega
 have HQS:=Lib.hid hqs
 have HQ:=Lib.hid hq
 clear hq hs hqs
 by_cases hlq:la.length≤q
 ·have h0:a / 2 ^ k=0:=by rw[← VA.out];exact down_none da k (by rw[← HQ.out];exact hlq)
  have CO:=Lib.hid (nat_of w (.slice none 0 0) [] (Ints.nil_ _ w) (dig_nil _) (by simp))
  rw[h0]
  clear h0
  go_enter Tryz.func266,Tryz.ntmps266
  go_wp2_with fail
  refine CA.out.mono ?_
  rintro e w' ⟨A,c,rfl,hA,rfl⟩
  go_wp2_with fail
  refine CO.out.mono ?_
  rintro e w' ⟨z,rfl,hz,hbz⟩
  go_wp2
  go_ret
  exact ⟨z,rfl,hz,hbz⟩
 ·have hmk:∀ w,(Instr.makeSlice 281 (.int .i64 (la.length - q:Nat)) (.int .i64 (la.length - q:Nat))).run Tryz.prog w=.ok (.slice (some ⟨w.heap.size,0,none⟩) (la.length - q) (la.length - q)) (w.alloc (.cells (vals .u32 (List.replicate (la.length - q) 0)) 283)):=fun w=>mk_u32 _ _ (by omega) (by omega) w
  go_enter Tryz.func266,Tryz.ntmps266
  go_wp2_with fail
  refine CA.out.mono ?_
  rintro e w' ⟨A,c,rfl,hA,rfl⟩
  obtain ⟨b1,o1,rfl,_⟩:=hA.at_ 0 (by omega)
  have hcq:¬ c=q:=by have:=hA.cap;omega
  have hcap:=hA.cap
  have hcut:=Lib.hid (hA.cut q (by omega))
  have hm:(la.drop q).length=la.length - q:=List.length_drop
  have dq:dig 4294967296 (la.drop q):=dig_drop da q
  obtain ⟨lq,hlqe⟩:∃ lq,lq=la.drop q:=⟨_,rfl⟩
  rw[← hlqe]at hm dq hcut
  have hval:val (2 ^ 32) lq / 2 ^ s=a / 2 ^ k:=by
   rw[hlqe,down_all da,← HQS.out];exact congrArg (· / 2 ^ k) VA.out
  have HV:=Lib.hid hval
  have HM:=Lib.hid hm
  clear hval hm hlqe hcap hA
  go_wp2_with fail
  clear hmk
  go_loopw [25] (fun t wr=>∃ (i:Nat) (o:List Nat),t=.int .i64 i∧i≤la.length - q∧Below w.heap.size w wr∧Row wr w.heap.size 283 (vals .u32 o)∧Hid (DownInv lq o s i)) (fun t _=>la.length - q - (intOf t).toNat)
  case atStart=>exact ⟨0,_,rfl,by omega,(Below.refl _ _).alloc (Nat.le_refl _) _,Row.new _ _ _,by rw[← HM.out];exact DownInv.start lq s⟩
  case round=>
   obtain ⟨i,o,rfl,hi,hbl,hrow,ho⟩:=hrel
   by_cases hlt:i<la.length - q
   ·have hlen:o.length=la.length - q:=ho.out.len.trans HM.out
    have hcell:=hrow.cell i
    rw[vals_get .u32 o i (by omega)]at hcell
    have hfree:=hrow.free i
    have hst:=ho.out.step hsb dq (by rw[HM.out];omega)
    have hp:=dig_getD dq (by omega) i
    have hp2:=dig_getD dq (by omega) (i+1)
    have C1:=Lib.hid (nat_at wr _ lq i (hcut.out.keep hbl) dq (by rw[HM.out];omega) (by omega))
    have c2:=nat_at wr _ lq (i+1) (hcut.out.keep hbl) dq (by rw[HM.out];omega) (by omega)
    rw[show (((i+1:Nat)):Int)=(i:Int)+1 from rfl]at c2
    have C2:=Lib.hid c2
    generalize lq.getD i 0=p at *
    generalize lq.getD (i+1) 0=p2 at *
    generalize o.getD i 0=z at *
    have HST:=Lib.hid hst
    have HP:=Lib.hid hp
    have HP2:=Lib.hid hp2
    clear hst hp hp2 c2 hlen
    go_wp2_with fail
    refine C1.out.mono ?_
    rintro e w' ⟨rfl,rfl⟩
    go_wp2_with fail
    refine C2.out.mono ?_
    rintro e w' ⟨rfl,rfl⟩
    go_wp2_with fail
    go_roundw
    case rel=>
     refine ⟨i+1,_,by go_num,by omega,hbl.setCell (Nat.le_refl _) _,?_,HST.out⟩
     rw[down_val p p2 s HP.out HP2.out,← vals_set]
     exact hrow.set _ _
    case measure=>simp[intOf];omega
   ·obtain rfl:i=la.length - q:=by omega
    have ho':=ho.out
    rw[← HM.out]at ho'
    have hd:=ho'.done dq
    rw[HV.out]at hd
    have hd':val 4294967296 o=a / 2 ^ k:=hd
    have hlen:o.length=la.length - q:=ho.out.len.trans HM.out
    have hu:U32s wr (.slice (some ⟨w.heap.size,0,none⟩) (la.length - q) (la.length - q)) o:=by
     have:=hrow.ints (l:=o) (la.length - q) (by omega)
     rwa [hlen]at this
    have CO:=Lib.hid (nat_of wr _ o hu ho.out.dg (by omega))
    have HD:=Lib.hid hd'
    clear hd hd' hlen ho'
    go_wp2_with fail
    refine CO.out.mono ?_
    rintro e w' ⟨z,rfl,hz,hbz⟩
    rw[HD.out]at hz
    go_wp2
    go_ret
    exact ⟨z,rfl,hz,below_seq hbl hbz⟩
end Go.Proofs.YtjipjfoambbofaaGreatDoor
end
section
namespace Go.Proofs.YtjipjfoambbofaaGreatDoor
open Go.RowKit Vic
theorem short_or (r p:Nat) (hr:r<4294967296) (hp:p<4294967296) :
 bits .or .u64 (IntKind.u64.wrap ((r:Int)*4294967296)) (IntKind.u64.wrap (p:Int))=((r*4294967296+p:Nat):Int):=by
 rw[wrap64_small p hp,show IntKind.u64.wrap ((r:Int)*4294967296)=((r*4294967296:Nat):Int) by rw[IntKind.wrap_u64];omega,or_half _ _ (Nat.mul_mod_left _ _) (by omega) hp]
def ShortPost (l:List Nat) (y:Nat) (w:World) (e:Ending) (w':World):Prop:=
 ∃ (b:Nat) (o:List Nat),e=.returned (.tuple #[.slice (some ⟨b,0,none⟩) l.length l.length,.int .u64 ((val 4294967296 l % y:Nat):Int)]) ∧
   U32s w' (.slice (some ⟨b,0,none⟩) l.length l.length) o∧dig 4294967296 o∧o.length=l.length∧val 4294967296 o=val 4294967296 l / y∧Below w.heap.size w w'
set_option maxRecDepth 100000 in
set_option maxHeartbeats 2000000 in
theorem nat_short (w:World) (A:Option Addr) (c:Nat) (l:List Nat) (y:Nat) (h:U32s w (.slice A l.length c) l) (hd:dig 4294967296 l) (hl:l.length≤1000000000000) (hy:0<y) (hy2:y≤4294967296) :
 Calls Tryz.prog 212 #[.slice A l.length c,.int .u64 y] w (ShortPost l y w):=by
 have hmk:∀ w,(Instr.makeSlice 281 (.int .i64 l.length) (.int .i64 l.length)).run Tryz.prog w=.ok (.slice (some ⟨w.heap.size,0,none⟩) l.length l.length) (w.alloc (.cells (vals .u32 (List.replicate l.length 0)) 283)):=fun w=>mk_u32 _ _ rfl (by omega) w
 have HY:=Lib.hid hy2
 have hy1:(1:Int)≤y:=by omega
 clear hy2
 go_enter Tryz.func212,Tryz.ntmps212
 go_wp2_with fail
 clear hmk
 go_loopw [7,8] (fun s t wr=>∃ (j r:Nat) (o:List Nat),s=.int .u64 r∧t=.int .i64 ((j:Int) - 1)∧j≤l.length∧Below w.heap.size w wr∧Row wr w.heap.size 283 (vals .u32 o)∧Hid (ShortInv 4294967296 l o y j r)) (fun _ t _=>(intOf t+1).toNat)
 case atStart=>exact ⟨l.length,0,_,rfl,rfl,by omega,(Below.refl _ _).alloc (Nat.le_refl _) _,Row.new _ _ _,ShortInv.start (by omega) l hy⟩
 case round=>
  obtain ⟨j,r,o,rfl,rfl,hj,hbl,hrow,hi⟩:=hrel
  rcases Nat.eq_zero_or_pos j with h0|h0
  ·subst h0
   go_wp2
   go_ret2
   obtain ⟨d1,d2⟩:=hi.out.done
   have hlen:=hi.out.len
   refine ⟨w.heap.size,o,by rw[← d2];rfl,?_,hi.out.dg,hlen,d1,hbl⟩
   have:=hrow.ints (l:=o) l.length (by omega)
   rwa [hlen]at this
  ·obtain ⟨k,rfl⟩:∃ k,j=k+1:=⟨j - 1,by omega⟩
   obtain ⟨b1,o1,rfl,hc1⟩:=(U32s.keep h hbl).at_ k (by omega)
   have hcell:=hrow.cell k
   rw[vals_get .u32 o k (by rw[hi.out.len];omega)]at hcell
   have hfree:=hrow.free k
   have hst:=hi.out.step (by omega) hd (by omega)
   have hp:=dig_getD hd (by omega) k
   have hr:r<4294967296:=by have:=hi.out.small;have:=HY.out;omega
   generalize l.getD k 0=p at *
   generalize o.getD k 0=z at *
   have e1:=short_or r p hr hp
   have e2:((r*4294967296+p:Nat):Int) / (y:Int)=(((r*4294967296+p) / y:Nat):Int):=(Int.natCast_ediv _ _).symm
   have e3:((r*4294967296+p:Nat):Int) % (y:Int)=(((r*4294967296+p) % y:Nat):Int):=(Int.natCast_emod _ _).symm
   generalize (r*4294967296+p) / y=q at *
   generalize (r*4294967296+p) % y=r' at *
   generalize r*4294967296+p=m at *
   have HST:=Lib.hid hst
   clear hst hp hr
   go_wp2_with fail
   go_roundw
   case rel=>
    refine ⟨k,r',o.set k q,by rw[e3],rfl,by omega,hbl.setCell (Nat.le_refl _) _,?_,HST.out.2⟩
    have hq:=HST.out.1
    rw[wrap64_small q hq,show ((q:Int) % 4294967296)=q by omega,← vals_set]
    exact hrow.set _ _
   case measure=>simp[intOf]
end Go.Proofs.YtjipjfoambbofaaGreatDoor
end
section
namespace Vic
open Go
def pad:Nat→Nat→List UInt8
 | 0,_=>[]
 | k+1,r=>pad k (r / 10) ++ [UInt8.ofNat (48+r % 10)]
theorem pad_length (k r:Nat):(pad k r).length=k:=by
 induction k generalizing r with
 | zero=>rfl
 | succ k ih=>simp[pad,ih]
theorem pad_zero (k:Nat):pad k 0=List.replicate k 48:=by
 induction k with
 | zero=>rfl
 | succ k ih=>
   have:pad (k+1) 0=pad k 0 ++ [48]:=rfl
   rw[this,ih,← List.replicate_succ']
theorem dec_big {u:Nat}(h:10≤u):Lib.decDigits u=Lib.decDigits (u / 10) ++ [UInt8.ofNat (48+u % 10)]:=by
 rw[Lib.decDigits,dif_neg (by omega)]
theorem dec_small {u:Nat}(h:u<10):Lib.decDigits u = [UInt8.ofNat (48+u)]:=by
 rw[Lib.decDigits,dif_pos h]
theorem dec_pad (m k r:Nat) (hm:0<m) (hr:r<10 ^ k):Lib.decDigits (m*10 ^ k+r)=Lib.decDigits m ++ pad k r:=by
 induction k generalizing r with
 | zero=>simp only[Nat.pow_zero]at hr ⊢;obtain rfl:r=0:=by omega
         simp[pad]
 | succ k ih=>
   have hp:0<10 ^ k:=Nat.pow_pos (by omega)
   have e:m*10 ^ (k+1)+r=10*(m*10 ^ k)+r:=by rw[Nat.pow_succ];rw[← Nat.mul_assoc,Nat.mul_comm]
   have hb:0<m*10 ^ k:=Nat.mul_pos hm hp
   rw[e,dec_big (by omega)]
   have e1:(10*(m*10 ^ k)+r) / 10=m*10 ^ k+r / 10:=by omega
   have e2:(10*(m*10 ^ k)+r) % 10=r % 10:=by omega
   rw[e1,e2,ih (r / 10) (by rw[Nat.pow_succ]at hr;omega)]
   simp[pad]
theorem pad_dec (k r:Nat) (hr:r<10 ^ (k+1)):pad (k+1) r=List.replicate (k+1 - (Lib.decDigits r).length) 48 ++ Lib.decDigits r:=by
 induction k generalizing r with
 | zero=>
   rw[dec_small (by simpa using hr)]
   simp only[Nat.zero_add,Nat.pow_one]at hr
   simp[pad,Nat.mod_eq_of_lt hr]
 | succ k ih=>
   by_cases h:r<10
   ·rw[dec_small h]
    show pad (k+1) (r / 10) ++ [UInt8.ofNat (48+r % 10)]=_
    rw[show r / 10=0 by omega,pad_zero,Nat.mod_eq_of_lt h]
    simp
   ·rw[dec_big (by omega)]
    show pad (k+1) (r / 10) ++ [UInt8.ofNat (48+r % 10)]=_
    rw[ih (r / 10) (by rw[Nat.pow_succ]at hr;omega)]
    simp
structure TextInv (n m:Nat) (s:List UInt8):Prop where
 le:m≤n
 open_:0<m→Lib.decDigits n=Lib.decDigits m ++ s
 shut:m=0→(n=0∧s = [])∨(0<n∧s=Lib.decDigits n)
theorem TextInv.start (n:Nat):TextInv n n []:=⟨Nat.le_refl _,fun _=>by simp,fun h=>.inl ⟨h,rfl⟩⟩
theorem TextInv.go {n m:Nat}{s:List UInt8}(h:TextInv n m s) (hm:0<m) (hq:0<m / 1000000000):TextInv n (m / 1000000000) (List.replicate (9 - (Lib.decDigits (m % 1000000000)).length) 48 ++ Lib.decDigits (m % 1000000000) ++ s):=by
 have e:m=m / 1000000000*10 ^ 9+m % 1000000000:=by omega
 have h1:=dec_pad (m / 1000000000) 9 (m % 1000000000) hq (by omega)
 rw[← e,pad_dec 8 _ (by omega)]at h1
 have hl:=h.le
 refine ⟨by omega,fun _=>?_,fun h0=>by omega⟩
 rw[h.open_ hm,h1]
 simp
theorem TextInv.last {n m:Nat}{s:List UInt8}(h:TextInv n m s) (hm:0<m) (hq:m / 1000000000=0):TextInv n 0 (Lib.decDigits (m % 1000000000) ++ s):=by
 have hl:=h.le
 refine ⟨Nat.zero_le _,fun h0=>by omega,fun _=>.inr ⟨by omega,?_⟩⟩
 rw[show m % 1000000000=m by omega,h.open_ hm]
theorem dec_ne (n:Nat):Lib.decDigits n≠[]:=by
 rw[Lib.decDigits];split<;>simp
theorem TextInv.done {n:Nat}{s:List UInt8}(h:TextInv n 0 s):(s = []→Lib.decDigits n = [48])∧(s≠[]→s=Lib.decDigits n):=by
 rcases h.shut rfl with ⟨h1,h2⟩|⟨h1,h2⟩
 ·exact ⟨fun _=>by rw[h1,dec_small (by omega)];rfl,fun h3=>absurd h2 h3⟩
 ·exact ⟨fun h3=>absurd (h2.symm.trans h3) (dec_ne n),fun _=>h2⟩
theorem TextInv.len {n m:Nat}{s:List UInt8}(h:TextInv n m s):s.length≤(Lib.decDigits n).length:=by
 rcases Nat.eq_zero_or_pos m with h0|h0
 ·rcases h.shut h0 with ⟨_,h2⟩|⟨_,h2⟩<;>rw[h2]<;>simp
 ·rw[h.open_ h0];simp
theorem dec_len {n k:Nat}(h:n<10 ^ (k+1)):(Lib.decDigits n).length≤k+1:=by
 have h1:=congrArg List.length (pad_dec k n h)
 rw[pad_length,List.length_append,List.length_replicate]at h1
 omega
theorem dec_len_digs {n L:Nat}(h:n<4294967296 ^ L):(Lib.decDigits n).length≤10*L+1:=by
 apply dec_len
 have h1:4294967296 ^ L≤(10 ^ 10) ^ L:=Nat.pow_le_pow_left (by omega) L
 rw[← Nat.pow_mul]at h1
 have h2:10 ^ (10*L)≤10 ^ (10*L+1):=Nat.pow_le_pow_right (by omega) (by omega)
 omega
theorem rep_one (b:UInt8) (k:Nat):Lib.repeatL [b] k=List.replicate k b:=by
 induction k with
 | zero=>rfl
 | succ k ih=>rw[List.replicate_succ,← ih];rfl
def isDig (c:UInt8):Bool:=decide (48≤c.toNat) && decide (c.toNat≤57)
theorem isDig_iff {c:UInt8}:isDig c=true↔48≤c.toNat∧c.toNat≤57:=by simp[isDig]
def numOf (acc:Nat) (l:List UInt8):Nat:=l.foldl (fun a c=>a*10+(c.toNat - 48)) acc
theorem numOf_nil (acc:Nat):numOf acc []=acc:=rfl
theorem numOf_append (acc:Nat) (a b:List UInt8):numOf acc (a ++ b)=numOf (numOf acc a) b:=List.foldl_append
theorem numOf_cons (acc:Nat) (c:UInt8) (r:List UInt8):numOf acc (c :: r)=numOf (acc*10+(c.toNat - 48)) r:=List.foldl_cons ..
theorem acc_step (a d p n:Nat):(a*10+d)*p+n=a*(p*10)+((0*10+d)*p+n):=by
 rw[Nat.add_mul,Nat.zero_mul,Nat.zero_add,Nat.mul_assoc,Nat.mul_comm 10,Nat.add_assoc]
theorem numOf_acc (acc:Nat) (l:List UInt8):numOf acc l=acc*10 ^ l.length+numOf 0 l:=by
 induction l generalizing acc with
 | nil=>rw[List.length_nil,Nat.pow_zero,Nat.mul_one,numOf_nil,numOf_nil,Nat.add_zero]
 | cons c r ih=>
   rw[numOf_cons,numOf_cons 0,List.length_cons,Nat.pow_succ]
   generalize c.toNat - 48=d
   have h1:=ih (acc*10+d)
   have h2:=ih (0*10+d)
   rw[h1,h2]
   exact acc_step _ _ _ _
theorem numOf_lt (l:List UInt8) (h:∀ c∈l,isDig c=true):numOf 0 l<10 ^ l.length:=by
 induction l with
 | nil=>rw[numOf_nil];simp
 | cons c r ih=>
   rw[numOf_cons,numOf_acc,List.length_cons,Nat.pow_succ]
   have h1:=isDig_iff.1 (h c (by simp))
   have h2:=ih fun x hx=>h x (by simp[hx])
   have h3:(0*10+(c.toNat - 48))*10 ^ r.length≤9*10 ^ r.length:=Nat.mul_le_mul_right _ (by omega)
   omega
theorem parseM_ok (l:List UInt8) (h:∀ c∈l,isDig c=true) (acc j:Nat) (ha:acc<10 ^ j) (hj:l.length+j≤9):Lib.parseUintM 4294967295 acc l=.ok (numOf acc l):=by
 induction l generalizing acc j with
 | nil=>rfl
 | cons c r ih=>
   have h1:=isDig_iff.1 (h c (by simp))
   rw[List.length_cons]at hj
   have h2:(10:Nat) ^ (j+1)≤10 ^ 9:=Nat.pow_le_pow_right (by omega) (by omega)
   have h4:(10:Nat) ^ (j+1)=10 ^ j*10:=Nat.pow_succ _ _
   have h3:acc*10+(c.toNat - 48)<10 ^ (j+1):=by omega
   rw[Lib.parseUintM,if_pos h1,if_neg (by omega),if_neg (by omega)]
   exact ih (fun x hx=>h x (by simp[hx])) _ (j+1) h3 (by omega)
theorem parse32_ok (l:List UInt8) (h:∀ c∈l,isDig c=true) (h0:l≠[]) (h9:l.length≤9):Lib.parseUintB 32 l=.ok (numOf 0 l):=by
 rw[Lib.parseUintB,if_neg h0]
 exact parseM_ok l h 0 0 (by simp) (by omega)
theorem byte_dig {n:Nat}(h:n<10):(UInt8.ofNat (48+n)).toNat=48+n:=by
 rw[UInt8.toNat_ofNat'];omega
theorem numOf_dec (n:Nat):numOf 0 (Lib.decDigits n)=n:=by
 induction n using Nat.strongRecOn with
 | _ n ih=>
   by_cases h:n<10
   ·rw[dec_small h]
    rw[numOf_cons,numOf_nil,byte_dig h];omega
   ·rw[dec_big (by omega),numOf_append,ih (n / 10) (by omega)]
    rw[numOf_cons,numOf_nil,byte_dig (by omega)];omega
theorem dec_isDig (n:Nat):∀ c∈Lib.decDigits n,isDig c=true:=by
 induction n using Nat.strongRecOn with
 | _ n ih=>
   by_cases h:n<10
   ·rw[dec_small h]
    intro c hc
    simp only[List.mem_singleton]at hc
    rw[hc,isDig_iff,byte_dig h];omega
   ·rw[dec_big (by omega)]
    intro c hc
    rcases List.mem_append.1 hc with h1|h1
    ·exact ih (n / 10) (by omega) c h1
    ·simp only[List.mem_singleton]at h1
     rw[h1,isDig_iff,byte_dig (by omega)];omega
def Canon (l:List UInt8):Prop:=l≠[]∧(∀ c∈l,isDig c=true)∧(l.length=1∨l.head?≠some 48)
theorem dec_head {n:Nat}(h:0<n):(Lib.decDigits n).head?≠some 48:=by
 induction n using Nat.strongRecOn with
 | _ n ih=>
   by_cases h1:n<10
   ·rw[dec_small h1]
    intro e
    simp only[List.head?_cons,Option.some.injEq]at e
    have:=congrArg UInt8.toNat e
    rw[byte_dig h1]at this
    simp at this;omega
   ·rw[dec_big (by omega),List.head?_append]
    have h3:=ih (n / 10) (by omega) (by omega)
    have h4:=dec_ne (n / 10)
    generalize Lib.decDigits (n / 10)=l at *
    match l,h4,h3 with
    | x :: r,_,h3=>simpa using h3
theorem dec_canon (n:Nat):Canon (Lib.decDigits n):=by
 refine ⟨dec_ne n,dec_isDig n,?_⟩
 rcases Nat.eq_zero_or_pos n with h|h
 ·subst h;exact .inl (by rw[dec_small (by omega)];rfl)
 ·exact .inr (dec_head h)
def tenDigs:List UInt8:=[48,49,50,51,52,53,54,55,56,57]
set_option maxRecDepth 10000 in
theorem ten_fin:∀ n:Fin 256,tenDigs.contains (UInt8.ofNat n.val)=isDig (UInt8.ofNat n.val):=by decide
theorem ten_iff (c:UInt8):tenDigs.contains c=isDig c:=by
 have:=ten_fin ⟨c.toNat,c.toNat_lt⟩
 simpa using this
theorem dropWhile_nil {p:UInt8→Bool}{l:List UInt8}:l.dropWhile p = []↔∀ c∈l,p c=true:=by
 induction l with
 | nil=>simp
 | cons c r ih=>
   rw[List.dropWhile_cons]
   by_cases h:p c=true
   ·rw[if_pos h,ih];simp[h]
   ·rw[if_neg h];simp[h]
theorem trim_digs (l:List UInt8):Lib.trimS l tenDigs = []↔∀ c∈l,isDig c=true:=by
 unfold Lib.trimS Lib.trimRightS Lib.trimLeftS
 have e:(fun c=>tenDigs.contains c)=isDig:=funext ten_iff
 rw[e]
 constructor
 ·intro h
  rw[dropWhile_nil]at h
  have h1:l.reverse.dropWhile isDig = []:=by
   rcases hd:l.reverse.dropWhile isDig with _|⟨x,r⟩
   ·rfl
   ·have h2:isDig x=true:=h x (by rw[hd];simp)
    have h3:=List.head?_dropWhile_not isDig l.reverse
    rw[hd]at h3
    simp[h2]at h3
  exact fun c hc=>dropWhile_nil.1 h1 c (by simpa using hc)
 ·intro h
  rw[show l.reverse.dropWhile isDig = []from dropWhile_nil.2 fun c hc=>h c (by simpa using hc)]
  rfl
theorem bytes_take (l:List UInt8) (k:Nat):(⟨l.toArray⟩:ByteArray).extract 0 k=⟨(l.take k).toArray⟩:=by
 apply ByteArray.ext
 simp[ByteArray.data_extract]
theorem bytes_drop (l:List UInt8) (k n:Nat) (h:n=l.length):(⟨l.toArray⟩:ByteArray).extract k n=⟨(l.drop k).toArray⟩:=by
 subst h
 apply ByteArray.ext
 simp[ByteArray.data_extract]
 exact List.take_of_length_le (by simp)
theorem bytes_app (a b:List UInt8):(⟨a.toArray⟩ ++ ⟨b.toArray⟩:ByteArray)=⟨(a ++ b).toArray⟩:=by
 apply ByteArray.ext
 simp
end Vic
end
section
namespace Vic
open Go Go.RowKit
def upd (cur:Array Value) (oa:Nat) (l:List Nat):Array Value:=
 cur.mapIdx fun j v=>if oa≤j∧j<oa+l.length then .int .u32 ((l.getD (j - oa) 0:Nat):Int)else v
theorem upd_get (cur:Array Value) (oa:Nat) (l:List Nat) (i:Nat) (h:i<l.length) (hs:oa+l.length≤cur.size) :
 (upd cur oa l)[oa+i]?=some (.int .u32 ((l.getD i 0:Nat):Int)):=by
 simp only[upd,Array.getElem?_mapIdx]
 rw[Array.getElem?_eq_getElem (show oa+i<cur.size by omega)]
 simp only[Option.map_some]
 rw[if_pos (by omega),Nat.add_sub_cancel_left]
theorem upd_other (cur:Array Value) (oa:Nat) (l:List Nat) (j:Nat) (h:j<oa∨oa+l.length≤j):(upd cur oa l)[j]?=cur[j]?:=by
 simp only[upd,Array.getElem?_mapIdx]
 cases cur[j]? with
 | none=>rfl
 | some v=>simp only[Option.map_some];rw[if_neg (by omega)]
theorem upd_set (cur:Array Value) (oa:Nat) (l:List Nat) (i d:Nat) (h:i<l.length) :
 (upd cur oa l).setIfInBounds (oa+i) (.int .u32 (d:Int))=upd cur oa (l.set i d):=by
 apply Array.ext_getElem?
 intro j
 rw[Array.getElem?_setIfInBounds]
 simp only[upd,Array.getElem?_mapIdx,Array.size_mapIdx,List.length_set]
 by_cases hj:oa+i=j
 ·subst hj
  rw[if_pos rfl]
  by_cases hs:oa+i<cur.size
  ·rw[if_pos hs,Array.getElem?_eq_getElem hs]
   simp only[Option.map_some]
   rw[if_pos (by omega),Nat.add_sub_cancel_left]
   simp[List.getD_eq_getElem?_getD,h]
  ·rw[if_neg hs,Array.getElem?_eq_none (by omega)];rfl
 ·rw[if_neg hj]
  cases cur[j]? with
  | none=>rfl
  | some v=>
    simp only[Option.map_some]
    by_cases hin:oa≤j∧j<oa+l.length
    ·rw[if_pos hin,if_pos hin]
     have:j - oa≠i:=by omega
     simp[List.getD_eq_getElem?_getD,List.getElem?_set_ne (Ne.symm this)]
    ·rw[if_neg hin,if_neg hin]
theorem upd_self (cur:Array Value) (oa:Nat) (l:List Nat) (h:∀ i,i<l.length→cur[oa+i]?=some (.int .u32 ((l.getD i 0:Nat):Int))):upd cur oa l=cur:=by
 apply Array.ext_getElem?
 intro j
 simp only[upd,Array.getElem?_mapIdx]
 cases hc:cur[j]? with
 | none=>rfl
 | some v=>
   simp only[Option.map_some]
   split
   ·rename_i hj
    have:=h (j - oa) (by omega)
    rw[show oa+(j - oa)=j by omega,hc]at this
    exact this.symm
   ·rfl
structure Only (b:Nat) (w w':World):Prop where
 os:w'.os=w.os
 tape:w'.tape=w.tape
 output:w'.output=w.output
 size:w'.heap.size=w.heap.size
 block:∀ k,k≠b→w'.heap[k]?=w.heap[k]?
theorem Only.refl (b:Nat) (w:World):Only b w w:=⟨rfl,rfl,rfl,rfl,fun _ _=>rfl⟩
theorem Only.trans {b:Nat}{u v w:World}(h:Only b u v) (k:Only b v w):Only b u w:=
 ⟨k.os.trans h.os,k.tape.trans h.tape,k.output.trans h.output,k.size.trans h.size,fun i hi=>(k.block i hi).trans (h.block i hi)⟩
theorem Only.drewN {b:Nat}{u w:World}(h:Only b u w) (n:Nat):Only b u (w.drewN n):=⟨h.os,h.tape,h.output,h.size,h.block⟩
theorem Only.setCell {b:Nat}{u w:World}(h:Only b u w) (i:Nat) (x:Value):Only b u (w.setCell ⟨b,i,none⟩ x):=
 h.trans ⟨rfl,rfl,rfl,by simp[World.setCell],fun k hk=>Below.heap_setCell _ _ _ _ hk⟩
theorem Only.cell {b:Nat}{u w:World}(h:Only b u w) {c o:Nat}(hc:c≠b):w.cell? ⟨c,o,none⟩=u.cell? ⟨c,o,none⟩:=World.cell?_of_block (w:=u) (h.block c hc)
theorem Only.below {b B:Nat}{u w:World}(h:Only b u w) (hB:B≤b):Below B u w:=
 ⟨h.os,h.tape,h.output,by rw[h.size];exact Nat.le_refl _,fun k hk=>h.block k (by omega)⟩
theorem Row.drewN {w:World}{b:Nat}{t:TypeId}{cs:Array Value}(h:Row w b t cs) (n:Nat):Row (w.drewN n) b t cs:=h
end Vic
end
section
namespace Vic
open Go Go.RowKit
theorem setRow_only (w:World) (g:Nat) (cs:Array Value):Only g w (w.setRow g cs):=
 ⟨rfl,rfl,rfl,by simp[World.setRow],fun k hk=>setRow_other w g k cs hk⟩
theorem vals_append (k:IntKind) (z l:List Nat) (n:Nat) :
 ((vals k z).toList.take n ++ l.map (fun (d:Nat)=>Value.int k (d:Int)) ++ (vals k z).toList.drop (n+l.length)).toArray=vals k (z.take n ++ l ++ z.drop (n+l.length)):=by
 simp[vals]
theorem Row.append {P:Program}{t ty e:TypeId}{i:TypeInfo}(ht:P.underlying t=some (.slice e)) (hi:P.info? e=some i) (hsz:i.size=1) {k:IntKind}{w:World}{g:Nat}{z l:List Nat}{A:Option Addr}{n c cx:Nat}
 (hr:Row w g e (vals k z)) (hl:Ints k w (.slice A l.length cx) l) (hne:0<l.length) (hn:n+l.length≤z.length) (hc:n+l.length≤c) :
 ∃ w',(Builtin.append_ #[t,t] ty #[.slice (some ⟨g,0,none⟩) n c,.slice A l.length cx]).run P w=.ok (.slice (some ⟨g,0,none⟩) (n+l.length) c) w' ∧
   Row w' g e (vals k (z.take n ++ l ++ z.drop (n+l.length)))∧Only g w w':=by
 obtain ⟨A',c',hv,hlc,hcell⟩:=hl
 injection hv with h1 h2 h3
 subst h1;subst h3
 obtain ⟨b,o,rfl,_⟩:=hcell 0 hne
 have hcs:∀ i,i<l.length→w.cell? ⟨b,o+i,none⟩=some (.int k ((l.getD i 0:Nat):Int)):=fun i hi=>by
  obtain ⟨b',o',hb,hc⟩:=hcell i hi
  injection hb with hb
  injection hb with hb1 hb2
  subst hb1;subst hb2
  exact hc
 have hrun:=run_append_room (P:=P) w t ty e i ht hi g n c (vals k z) hr ⟨b,o,none⟩ l.length cx (l.map fun (d:Nat)=>Value.int k (d:Int)) (by simp[hsz]) (fun j u hj=>by
  have hjl:j<l.length:=by
   have:=(List.getElem?_eq_some_iff.1 hj).1
   simpa using this
  rw[show (⟨b,o,none⟩:Addr).add j=⟨b,o+j,none⟩ by simp[Addr.add],hcs j hjl,← hj]
  simp[List.getD_eq_getElem?_getD,hjl]) (fun u hu=>by
  obtain ⟨d,_,rfl⟩:=List.mem_map.1 hu
  rfl) hc (by simp[hsz,vals_size];omega)
 refine ⟨_,hrun,?_,setRow_only _ _ _⟩
 have:=setRow_heap w g (vals k z) (((vals k z).toList.take (n*i.size) ++ l.map (fun (d:Nat)=>Value.int k (d:Int)) ++ (vals k z).toList.drop (n*i.size+(l.map (fun (d:Nat)=>Value.int k (d:Int))).length)).toArray) e (0,0) hr
 rw[hsz,Nat.mul_one,List.length_map,vals_append]at this
 rw[hsz,Nat.mul_one,List.length_map,vals_append]
 exact this
theorem wpList_append_row {P:Program}{ops:Array Oper}{rest:List Oper}{o:Oper}{a:Act}{w:World}{Q:Exit→Act→World→Prop}(hgd:o.guard=none) (s x:Operand) (t:TypeId)
 (ho:o.op=.call { callee:=.builtin .append,args:=#[s,x],argTypes:=#[t,t] }) (e:TypeId) (i:TypeInfo) (ht:P.underlying t=some (.slice e)) (hi:P.info? e=some i) (hsz:i.size=1)
 (k:IntKind) (g n c cx:Nat) (z l:List Nat) (A:Option Addr) (m:Nat) (hs:a.eval s=.slice (some ⟨g,0,none⟩) n c) (hx:a.eval x=.slice A m cx) (hm:m=l.length)
 (hr:Row w g e (vals k z)) (hl:Ints k w (.slice A l.length cx) l) (hne:0<l.length) (hn:n+l.length≤z.length) (hc:n+l.length≤c)
 (h:∀ w',Row w' g e (vals k (z.take n ++ l ++ z.drop (n+l.length)))→Only g w w'→wpList P ops Q rest (a.put o.dst (.slice (some ⟨g,0,none⟩) (n+m) c)) w'):wpList P ops Q (o :: rest) a w:=by
 subst hm
 refine wpList_plain hgd fun K hK=>?_
 obtain ⟨w',hrun,h2,h3⟩:=Row.append (P:=P) (ty:=o.type) ht hi hsz hr hl hne hn hc
 unfold Oper.wp execOp
 simp only[ho,resolve,invoke,builtin,Sem.run_bind,Sem.run_pure,Result.andThen_ok,List.map_toArray,List.map_cons,List.map_nil,hs,hx,hrun]
 exact hK _ _ (h w' h2 h3)
theorem step_append_row {P:Program}{ops:Array Oper}{o:Oper}{a:Act}{w:World}{K:Act→World→Prop}{Q:Exit→Act→World→Prop}{E:Prop}(hgd:o.guard=none) (s x:Operand) (t:TypeId)
 (ho:o.op=.call { callee:=.builtin .append,args:=#[s,x],argTypes:=#[t,t] }) (e:TypeId) (i:TypeInfo) (ht:P.underlying t=some (.slice e)) (hi:P.info? e=some i) (hsz:i.size=1)
 (k:IntKind) (g n c cx:Nat) (z l:List Nat) (A:Option Addr) (m:Nat) (hs:a.eval s=.slice (some ⟨g,0,none⟩) n c) (hx:a.eval x=.slice A m cx) (hm:m=l.length)
 (hr:Row w g e (vals k z)) (hl:Ints k w (.slice A l.length cx) l) (hne:0<l.length) (hn:n+l.length≤z.length) (hc:n+l.length≤c)
 (h:∀ w',Row w' g e (vals k (z.take n ++ l ++ z.drop (n+l.length)))→Only g w w'→K (a.put o.dst (.slice (some ⟨g,0,none⟩) (n+m) c)) w') :
 if Region.wanted o (yielded ops a.tmps)=true then Oper.wp P o a w K Q else E:=by
 subst hm
 have hw:Region.wanted o (yielded ops a.tmps)=true:=by simp[Region.wanted,hgd]
 rw[if_pos hw]
 obtain ⟨w',hrun,h2,h3⟩:=Row.append (P:=P) (ty:=o.type) ht hi hsz hr hl hne hn hc
 unfold Oper.wp execOp
 simp only[ho,resolve,invoke,builtin,Sem.run_bind,Sem.run_pure,Result.andThen_ok,List.map_toArray,List.map_cons,List.map_nil,hs,hx,hrun]
 exact h w' h2 h3
theorem Row.front {k:IntKind}{w:World}{b:Nat}{t:TypeId}{z:List Nat}(h:Row w b t (vals k z)) (n c:Nat) (hn:n≤z.length) (hc:n≤c):Ints k w (.slice (some ⟨b,0,none⟩) n c) (z.take n):=by
 have hlen:(z.take n).length=n:=by simp;omega
 refine ⟨_,c,by rw[hlen],by rw[hlen];exact hc,fun i hi=>⟨b,0,rfl,?_⟩⟩
 rw[hlen]at hi
 rw[Nat.zero_add,h.cell,vals_get k z i (by omega),getD_take z n i hi]
theorem upd_window (z:List Nat) (i n:Nat) (h:i+n≤z.length):upd (vals .u32 z) i ((z.drop i).take n)=vals .u32 z:=by
 refine upd_self _ _ _ fun j hj=>?_
 have hlen:((z.drop i).take n).length=n:=by simp;omega
 rw[hlen]at hj
 rw[vals_get .u32 z (i+j) (by omega),getD_take _ n j hj,getD_drop]
theorem upd_vals (z l:List Nat) (i:Nat) (h:i+l.length≤z.length):upd (vals .u32 z) i l=vals .u32 (z.take i ++ l ++ z.drop (i+l.length)):=by
 apply Array.ext_getElem?
 intro j
 have hti:(z.take i).length=i:=by simp;omega
 by_cases hj:i≤j∧j<i+l.length
 ·have e:=upd_get (vals .u32 z) i l (j - i) (by omega) (by rw[vals_size];omega)
  rw[show i+(j - i)=j by omega]at e
  rw[e,vals_get _ _ _ (by simp;omega),List.append_assoc,getD_app_right _ _ _ (by omega),hti,getD_app_left _ _ _ (by omega)]
 ·rw[upd_other _ _ _ _ (by omega)]
  by_cases hz:j<z.length
  ·rw[vals_get _ _ _ hz,vals_get _ _ _ (by simp;omega),List.append_assoc]
   congr 3
   rcases Nat.lt_or_ge j i with h1|h1
   ·rw[getD_app_left _ _ _ (by omega),getD_take _ _ _ h1]
   ·rw[getD_app_right _ _ _ (by omega),hti,getD_app_right _ _ _ (by omega),getD_drop]
    congr 1
    omega
  ·rw[Array.getElem?_eq_none (by rw[vals_size];omega),Array.getElem?_eq_none (by rw[vals_size];simp;omega)]
end Vic
end
section
namespace Vic
open Go Go.RowKit
theorem below_grown {w w':World}(h:w.grownBy w' none):Below w.heap.size w w':=
 ⟨h.os,h.tape,h.output,h.size,fun k hk=>h.block k hk (by simp)⟩
theorem copy_nil {P:Program}{t ty e:TypeId}{i:TypeInfo}{z:Value}(ht:P.underlying t=some (.slice e)) (hi:P.info? e=some i) (hz:i.zero=some z) (hsz:i.size=1) (hzs:z.cells.size=1)
 (k:IntKind) (w:World) (l:List Nat) (A:Option Addr) (c:Nat) (hl:Ints k w (.slice A l.length c) l) (hb:l.length*i.bytes≤140737488355328) (h63:l.length≤maxLen) :
 ∃ v' w',(Builtin.append_ #[t,t] ty #[.slice none 0 0,.slice A l.length c]).run P w=.ok v' w'∧Ints k w' v' l∧Below w.heap.size w w':=by
 obtain ⟨A',c',hv,hlc,hcell⟩:=hl
 injection hv with h1 h2 h3
 subst h1;subst h3
 by_cases h0:l = []
 ·subst h0
  refine ⟨.slice none 0 0,w,?_,Ints.nil_ _ _,Below.refl _ _⟩
  rcases A with _|A<;>simp[Builtin.append_,run_underlying ht,Go.sizeOf,typeInfo,hi,Builtin.lenOf,Builtin.firstCells,loadCells,loadCellsFrom]
 ·have hne:0<l.length:=by
   rcases l with _|⟨x,r⟩
   ·exact absurd rfl h0
   ·simp
  obtain ⟨b,o,rfl,_⟩:=hcell 0 hne
  have hcs:∀ i,i<l.length→w.cell? ⟨b,o+i,none⟩=some (.int k ((l.getD i 0:Nat):Int)):=fun i hi=>by
   obtain ⟨b',o',hb,hc⟩:=hcell i hi
   injection hb with hb
   injection hb with hb1 hb2
   subst hb1;subst hb2
   exact hc
  obtain ⟨v',w',hr,hown,hgr,_,_⟩:=run_append_own_at (P:=P) w w.heap.size t ty e i z 1 i.bytes ht hi hz hsz rfl hzs (by omega) (.slice none 0 0) 0 [] (World.ownsRow_nil w w.heap.size e 1)
   ⟨b,o,none⟩ l.length c (l.map fun (d:Nat)=>Value.int k (d:Int)) (by simp) (fun j u hj=>by
    have hjl:j<l.length:=by
     have:=(List.getElem?_eq_some_iff.1 hj).1
     simpa using this
    rw[show (⟨b,o,none⟩:Addr).add j=⟨b,o+j,none⟩ by simp[Addr.add],hcs j hjl,← hj]
    simp[List.getD_eq_getElem?_getD,hjl]) (fun u hu=>by
    obtain ⟨d,_,rfl⟩:=List.mem_map.1 hu
    rfl) (by omega) (by simpa using hb) (Nat.le_refl _)
  refine ⟨v',w',hr,?_,below_grown hgr⟩
  simp only[Nat.zero_add,List.nil_append]at hown
  rcases hown.2 with ⟨_,h5⟩|⟨g,cap,cur,rfl,hbg,hg,hnc,hcm,hcs2,htake⟩
  ·omega
  ·refine ⟨_,cap,rfl,hnc,fun j hj=>⟨g,0,rfl,?_⟩⟩
   rw[Nat.mul_one]at htake hcs2
   have e1:cur.toList[j]?=(cur.toList.take l.length)[j]?:=by rw[List.getElem?_take,if_pos hj]
   rw[htake]at e1
   simp only[World.cell?,hg,Nat.zero_add]
   rw[← Array.getElem?_toList,e1]
   simp[List.getD_eq_getElem?_getD,hj]
theorem wpList_append_copy {P:Program}{ops:Array Oper}{rest:List Oper}{o:Oper}{a:Act}{w:World}{Q:Exit→Act→World→Prop}(hgd:o.guard=none) (s x:Operand) (t:TypeId)
 (ho:o.op=.call { callee:=.builtin .append,args:=#[s,x],argTypes:=#[t,t] }) (e:TypeId) (i:TypeInfo) (z:Value) (ht:P.underlying t=some (.slice e)) (hi:P.info? e=some i) (hz:i.zero=some z) (hsz:i.size=1) (hzs:z.cells.size=1)
 (k:IntKind) (l:List Nat) (A:Option Addr) (m c:Nat) (hs:a.eval s=.slice none 0 0) (hx:a.eval x=.slice A m c) (hm:m=l.length) (hl:Ints k w (.slice A l.length c) l) (hb:l.length*i.bytes≤140737488355328) (h63:l.length≤maxLen)
 (h:∀ v' w',Ints k w' v' l→Below w.heap.size w w'→wpList P ops Q rest (a.put o.dst v') w'):wpList P ops Q (o :: rest) a w:=by
 subst hm
 refine wpList_plain hgd fun K hK=>?_
 obtain ⟨v',w',hrun,h2,h3⟩:=copy_nil (P:=P) (ty:=o.type) ht hi hz hsz hzs k w l A c hl hb h63
 unfold Oper.wp execOp
 simp only[ho,resolve,invoke,builtin,Sem.run_bind,Sem.run_pure,Result.andThen_ok,List.map_toArray,List.map_cons,List.map_nil,hs,hx,hrun]
 exact hK _ _ (h v' w' h2 h3)
end Vic
end
section
namespace Go.Proofs.YtjipjfoambbofaaGreatDoor
open Go.RowKit Vic
theorem digit_m (r next:Nat) (hr:(r:Int)<4294967296) (hn:(next:Int)<4294967296) :
 ∃ m:Nat,m=r*4294967296+next∧bits .or .u64 ((r:Int)*4294967296) ((next:Nat):Int)=((m:Nat):Int):=
 ⟨r*4294967296+next,rfl,by rw[mul_half,or_half _ _ (by omega) (by omega) (by omega)]⟩
theorem digit_p (q yl:Nat) (hq:q≤4294967295) (hl:(yl:Int)<4294967296):(0:Int)≤(q:Int)*(yl:Int)∧(q:Int)*(yl:Int)≤18446744073709551615:=by
 have h:q*yl≤4294967295*4294967295:=Nat.mul_le_mul hq (by omega)
 have e:((q*yl:Nat):Int)=(q:Int)*(yl:Int):=Int.natCast_mul _ _
 rw[← e]
 omega
theorem pos_of_lt_mul {m q y:Nat}(h:m<q*y):0<q:=by
 rcases Nat.eq_zero_or_pos q with h0|h0
 ·subst h0;omega
 ·exact h0
end Go.Proofs.YtjipjfoambbofaaGreatDoor
end
section
namespace Vic
theorem kn_start {B P a2 a1 al b1 bl x:Nat}(hal:al<B*P) (ha1:a1<B) (hb1:0<b1) (hP:0<P)
 (h:x*(b1*(B*P)+bl)≤(a2*B+a1)*(B*P)+al):x≤(a2*B+a1) / b1:=by
 rw[Nat.le_div_iff_mul_le hb1]
 rcases Nat.lt_or_ge (a2*B+a1) (x*b1)with h1|h1
 ·exfalso
  have h2:(a2*B+a1+1)*(B*P)≤x*b1*(B*P):=Nat.mul_le_mul_right _ h1
  rw[Nat.mul_add,← Nat.mul_assoc]at h
  rw[Nat.add_mul (a2*B+a1)]at h2
  omega
 ·exact h1
theorem kn_over {B P a2 a1 a0 al b1 b0 bl q r x:Nat}(hal:al<P) (ha0:a0<B) (hqr:q*b1+r=a2*B+a1)
 (ho:r*B+a0<q*b0) (hx:x≤q) (h:x*((b1*B+b0)*P+bl)≤((a2*B+a1)*B+a0)*P+al):x≤q - 1:=by
 rcases Nat.lt_or_ge x q with h1|h1
 ·omega
 ·exfalso
  have e:x=q:=by omega
  subst e
  rw[← hqr]at h
  have h3:x*((b1*B+b0)*P+bl)=(x*b1*B+x*b0)*P+x*bl:=by
   rw[Nat.mul_add,← Nat.mul_assoc,Nat.mul_add,← Nat.mul_assoc]
  have h4:(r*B+a0+1)*P≤x*b0*P:=Nat.mul_le_mul_right _ ho
  rw[h3,Nat.add_mul,Nat.add_mul (x*b1),Nat.add_mul,Nat.add_mul]at h
  rw[Nat.add_mul,Nat.add_mul]at h4
  omega
theorem kn_end {B P a2 a1 a0 al b1 b0 bl q r:Nat}(hbl:bl<P) (hqr:q*b1+r=a2*B+a1) (ho:q*b0≤r*B+a0) (hq:q≤b1*B+b0+1) :
 (q - 1)*((b1*B+b0)*P+bl)≤((a2*B+a1)*B+a0)*P+al:=by
 have h1:q*(b1*B+b0)≤(a2*B+a1)*B+a0:=by
  rw[Nat.mul_add,← Nat.mul_assoc,← hqr,Nat.add_mul];omega
 generalize b1*B+b0=T at *
 generalize (a2*B+a1)*B+a0=S at *
 rcases Nat.eq_zero_or_pos q with h|h
 ·subst h;simp
 ·obtain ⟨p,rfl⟩:∃ p,q=p+1:=⟨q - 1,by omega⟩
  simp only[Nat.add_sub_cancel]
  have h2:p*(T*P+bl)≤p*((T+1)*P):=Nat.mul_le_mul_left _ (by rw[Nat.add_mul];omega)
  have h3:p*(T+1)≤S:=by rw[Nat.mul_add];rw[Nat.add_mul]at h1;omega
  have h4:p*((T+1)*P)≤S*P:=by rw[← Nat.mul_assoc];exact Nat.mul_le_mul_right _ h3
  omega
theorem kn_two {a b q:Nat}(hb:0<b) (h1:a / b≤q) (h2:(q - 1)*b≤a):q=a / b∨q=a / b+1:=by
 have:=(Nat.le_div_iff_mul_le hb).2 h2
 omega
end Vic
end
