/- Plain arithmetic: bits, noughts at the low end, greatest common divisors by shifts. -/
import Derived.Test.YtbdfhnelmojbpaaGreatDoorProg
import Derived.WalkSpells
import Derived.WalkLawsBesides
import Derived.Test.YtbdfhnelmojbpaaGreatDoorRap
set_option linter.unusedVariables false
set_option linter.unusedSimpArgs false
section
namespace Vic
def blen (n:Nat):Nat:=if n=0 then 0 else n.log2+1
theorem blen_zero:blen 0=0:=rfl
theorem lt_two_blen (n:Nat):n<2 ^ blen n:=by
 unfold blen
 split
 ·omega
 ·rename_i h;exact Nat.lt_log2_self
theorem two_le_blen {n:Nat}(h:n≠0):2 ^ (blen n - 1)≤n:=by
 unfold blen
 rw[if_neg h,Nat.add_sub_cancel]
 exact Nat.log2_self_le h
theorem blen_le {n k:Nat}(h:n<2 ^ k):blen n≤k:=by
 unfold blen
 split
 ·omega
 ·rename_i h0;exact (Nat.log2_lt h0).2 h
theorem lt_blen {n k:Nat}(h:2 ^ k≤n):k<blen n:=by
 have:=lt_two_blen n
 rcases Nat.lt_or_ge k (blen n)with h1|h1
 ·exact h1
 ·have:=Nat.pow_le_pow_right (n:=2) (by omega) h1
  omega
theorem blen_unique {n k:Nat}(h1:2 ^ k≤n) (h2:n<2 ^ (k+1)):blen n=k+1:=by
 have:=lt_blen h1;have:=blen_le h2;omega
theorem blen_pos {n:Nat}(h:n≠0):0<blen n:=by unfold blen;rw[if_neg h];omega
theorem blen_shift {n k d:Nat}(hd:d≠0) (hn:n<2 ^ k):blen (n+2 ^ k*d)=k+blen d:=by
 have h1:=two_le_blen hd
 have h2:=lt_two_blen d
 have hp:=blen_pos hd
 have e:k+blen d=(k+(blen d - 1))+1:=by omega
 rw[e]
 apply blen_unique
 ·rw[Nat.pow_add]
  have:=Nat.mul_le_mul_left (2 ^ k) h1
  omega
 ·have e2:k+(blen d - 1)+1=k+blen d:=by omega
  rw[e2,Nat.pow_add]
  have:2 ^ k*(d+1)≤2 ^ k*2 ^ blen d:=Nat.mul_le_mul_left _ h2
  rw[Nat.mul_add]at this
  omega
def tz (n:Nat):Nat:=if h:n=0∨n % 2=1 then 0 else tz (n / 2)+1
termination_by n
decreasing_by simp only[not_or]at h;omega
theorem tz_zero:tz 0=0:=by unfold tz;simp
theorem tz_odd {n:Nat}(h:n % 2=1):tz n=0:=by unfold tz;simp[h]
theorem tz_even {n:Nat}(h0:n≠0) (h:n % 2=0):tz n=tz (n / 2)+1:=by
 rw[tz];rw[dif_neg (by omega)]
theorem tz_spec {n:Nat}(h:n≠0):∃ m,n=2 ^ tz n*m∧m % 2=1:=by
 induction n using Nat.strongRecOn with
 | _ n ih=>
   by_cases h1:n % 2=1
   ·rw[tz_odd h1];exact ⟨n,by simp,h1⟩
   ·rw[tz_even h (by omega)]
    obtain ⟨m,hm,ho⟩:=ih (n / 2) (by omega) (by omega)
    refine ⟨m,?_,ho⟩
    rw[Nat.pow_succ,Nat.mul_comm _ 2,Nat.mul_assoc,← hm];omega
theorem tz_of {n k m:Nat}(h:n=2 ^ k*m) (hm:m % 2=1):tz n=k:=by
 subst h
 induction k with
 | zero=>simp;exact tz_odd hm
 | succ k ih=>
   have h0:2 ^ (k+1)*m≠0:=by
    have:0<2 ^ (k+1):=Nat.two_pow_pos _
    exact Nat.mul_ne_zero (by omega) (by omega)
   have e:2 ^ (k+1)*m=2*(2 ^ k*m):=by rw[Nat.pow_succ,Nat.mul_comm (2 ^ k) 2,Nat.mul_assoc]
   rw[tz_even h0 (by rw[e];omega),e,Nat.mul_div_cancel_left _ (by omega),ih]
def odd (n:Nat):Nat:=n / 2 ^ tz n
theorem odd_mul (n:Nat):n=2 ^ tz n*odd n:=by
 by_cases h:n=0
 ·subst h;simp[odd]
 ·obtain ⟨m,hm,_⟩:=tz_spec h
  have:odd n=m:=by
   unfold odd
   conv=>lhs;arg 1;rw[hm]
   exact Nat.mul_div_cancel_left _ (Nat.two_pow_pos _)
  rw[this];exact hm
theorem odd_odd {n:Nat}(h:n≠0):odd n % 2=1:=by
 obtain ⟨m,hm,ho⟩:=tz_spec h
 have:odd n=m:=by
  unfold odd
  conv=>lhs;arg 1;rw[hm]
  exact Nat.mul_div_cancel_left _ (Nat.two_pow_pos _)
 rw[this];exact ho
theorem odd_le (n:Nat):odd n≤n:=Nat.div_le_self _ _
theorem coprime_two_pow {b:Nat}(hb:b % 2=1) (k:Nat):Nat.Coprime (2 ^ k) b:=by
 refine Nat.Coprime.pow_left k ?_
 rw[Nat.Coprime,Nat.gcd_rec,hb];rfl
theorem gcd_odd_left {a b:Nat}(hb:b % 2=1):Nat.gcd (odd a) b=Nat.gcd a b:=by
 conv=>rhs;rw[odd_mul a]
 exact (Nat.Coprime.gcd_mul_left_cancel _ (coprime_two_pow hb _)).symm
theorem gcd_round {a b:Nat}(h:b≤a) (hb:b % 2=1):Nat.gcd (odd (a - b)) b=Nat.gcd a b:=by
 rw[gcd_odd_left hb]
 have e:a=(a - b)+b:=by omega
 conv=>rhs;rw[e]
 exact (Nat.gcd_add_self_left _ _).symm
theorem gcd_odd_odd {a b:Nat}(ha:a≠0) (hb:b≠0):Nat.gcd a b=Nat.gcd (odd a) (odd b)*2 ^ min (tz a) (tz b):=by
 have h1:=odd_mul a
 have h2:=odd_mul b
 have o1:=odd_odd ha
 have o2:=odd_odd hb
 generalize odd a=x at *
 generalize odd b=y at *
 generalize tz a=i at *
 generalize tz b=j at *
 rw[h1,h2]
 rcases Nat.le_total i j with h|h
 ·obtain ⟨k,rfl⟩:=Nat.le.dest h
  rw[Nat.min_eq_left h,Nat.pow_add,Nat.mul_assoc,Nat.gcd_mul_left,Nat.mul_comm]
  congr 1
  rw[Nat.gcd_comm,Nat.gcd_comm x]
  exact Nat.Coprime.gcd_mul_left_cancel _ (coprime_two_pow o1 _)
 ·obtain ⟨k,rfl⟩:=Nat.le.dest h
  rw[Nat.min_eq_right h,Nat.pow_add,Nat.mul_assoc,Nat.gcd_mul_left,Nat.mul_comm]
  congr 1
  exact Nat.Coprime.gcd_mul_left_cancel _ (coprime_two_pow o2 _)
theorem gcd_step (a b:Nat):Nat.gcd b (a % b)=Nat.gcd a b:=by
 rw[Nat.gcd_comm a b,Nat.gcd_rec b a,Nat.gcd_comm]
end Vic
end
section
namespace Vic
theorem guess_far {H next yl q r:Nat}(hr:H≤r) (hq:q≤H) (hl:yl<H):q*yl≤r*H+next:=by
 have h1:q*yl≤H*H:=Nat.mul_le_mul hq (by omega)
 have h2:H*H≤r*H:=Nat.mul_le_mul_right _ hr
 omega
theorem scale_div {N y s:Nat}(hs:0<s):(N*s) / (y*s)=N / y∧(N*s) % (y*s)=N % y*s:=by
 constructor
 ·exact Nat.mul_div_mul_right _ _ hs
 ·exact Nat.mul_mod_mul_right _ _ _
end Vic
end
section
namespace Vic
def LenInv (x0 x n b:Nat):Prop:=x=x0 / 2 ^ n∧x<(if b=0 then 2 else 2 ^ (2*b))∧(n=0∨x≠0)∧n+2*b≤64
theorem LenInv.start {x:Nat}(h:x<18446744073709551616):LenInv x x 0 32:=⟨by simp,by simpa using h,.inl rfl,by omega⟩
theorem LenInv.up {x0 x n b:Nat}(h:LenInv x0 x n b) (hb:b=1∨b % 2=0) (hb0:0<b) (hx:x / 2 ^ b≠0):LenInv x0 (x / 2 ^ b) (n+b) (b / 2):=by
 obtain ⟨h1,h2,h3,h4⟩:=h
 rw[if_neg (by omega)]at h2
 refine ⟨?_,?_,.inr hx,by omega⟩
 ·rw[h1,Nat.div_div_eq_div_mul,Nat.pow_add]
 ·rw[Nat.div_lt_iff_lt_mul (Nat.two_pow_pos _)]
  rw[show 2*b=b+b by omega,Nat.pow_add]at h2
  rcases hb with hb|hb
  ·subst hb;simpa using h2
  ·rw[if_neg (by omega),show 2*(b / 2)=b by omega];exact h2
theorem LenInv.stay {x0 x n b:Nat}(h:LenInv x0 x n b) (hb:b=1∨b % 2=0) (hb0:0<b) (hx:x / 2 ^ b=0):LenInv x0 x n (b / 2):=by
 obtain ⟨h1,h2,h3,h4⟩:=h
 refine ⟨h1,?_,h3,by omega⟩
 have hlt:x<2 ^ b:=by
  rcases Nat.lt_or_ge x (2 ^ b)with h|h
  ·exact h
  ·have:=Nat.div_pos h (Nat.two_pow_pos b);omega
 rcases hb with hb|hb
 ·subst hb;simpa using hlt
 ·rw[if_neg (by omega),show 2*(b / 2)=b by omega];exact hlt
theorem LenInv.up' {x0 x n b p c:Nat}(h:LenInv x0 x n b) (hp:p=2 ^ b) (hc:c=b / 2) (hb:b=1∨b % 2=0) (hb0:0<b) (hx:(((x:Nat):Int) / (p:Int) != 0)=true):LenInv x0 (x / p) (n+b) c:=by
 subst hp;subst hc
 refine h.up hb hb0 (fun e=>?_)
 have e2:((x:Nat):Int) / ((2 ^ b:Nat):Int)=((x / 2 ^ b:Nat):Int):=(Int.natCast_ediv _ _).symm
 rw[e2,e]at hx
 simp at hx
theorem LenInv.stay' {x0 x n b p c:Nat}(h:LenInv x0 x n b) (hp:p=2 ^ b) (hc:c=b / 2) (hb:b=1∨b % 2=0) (hb0:0<b) (hx:(((x:Nat):Int) / (p:Int) != 0)=false):LenInv x0 x n c:=by
 subst hp;subst hc
 refine h.stay hb hb0 ?_
 have e2:((x:Nat):Int) / ((2 ^ b:Nat):Int)=((x / 2 ^ b:Nat):Int):=(Int.natCast_ediv _ _).symm
 rw[e2]at hx
 have h3:=bne_eq_false_iff_eq.1 hx
 exact_mod_cast h3
theorem LenInv.done {x0 x n:Nat}(h:LenInv x0 x n 0):n+x=blen x0∧x<2:=by
 obtain ⟨h1,h2,h3,h4⟩:=h
 simp only[if_true]at h2
 refine ⟨?_,h2⟩
 rcases Nat.eq_zero_or_pos x with h0|h0
 ·have hn:n=0:=by omega
  subst hn
  simp at h1
  rw[← h1,h0];rfl
 ·have e:x=1:=by omega
  subst e
  rw[blen_unique (n:=x0) (k:=n)]
  ·have:=Nat.div_mul_le_self x0 (2 ^ n);rw[← h1]at this;omega
  ·have:=Nat.lt_mul_of_div_lt (a:=x0) (b:=2) (c:=2 ^ n) (by omega) (Nat.two_pow_pos _)
   rw[Nat.pow_succ];omega
theorem low_bit (x:Nat) (h0:x≠0) (hx:x<2 ^ 64):x &&& (2 ^ 64 - x)=2 ^ tz x:=by
 obtain ⟨m,hm,ho⟩:=tz_spec h0
 generalize tz x=k at *
 obtain ⟨j,rfl⟩:∃ j,m=2*j+1:=⟨m / 2,by omega⟩
 have hp:=Nat.two_pow_pos k
 have e1:x=2 ^ k*(2*j+1)+0:=by omega
 have e2:x - 1=2 ^ k*(2*j)+(2 ^ k - 1):=by rw[hm,Nat.mul_add];omega
 apply Nat.eq_of_testBit_eq
 intro i
 have e3:2 ^ 64 - x=2 ^ 64 - ((x - 1)+1):=by omega
 rw[Nat.testBit_and,e3,Nat.testBit_two_pow_sub_succ (by omega),e2,Nat.testBit_two_pow_mul_add _ (by omega)]
 conv=>lhs;arg 1;rw[e1]
 rw[Nat.testBit_two_pow_mul_add _ hp,Nat.testBit_two_pow]
 by_cases hi:i<k
 ·simp[hi];omega
 ·rw[if_neg hi,if_neg hi]
  by_cases hk:i=k
  ·subst hk
   have h64:i<64:=by
    rcases Nat.lt_or_ge i 64 with h|h
    ·exact h
    ·have h2:=Nat.pow_le_pow_right (n:=2) (by omega) h
     have h3:2 ^ i*1≤2 ^ i*(2*j+1):=Nat.mul_le_mul_left _ (by omega)
     omega
   simp[h64]
  ·obtain ⟨d,hd⟩:∃ d,i - k=d+1:=⟨i - k - 1,by omega⟩
   rw[hd,Nat.testBit_succ,Nat.testBit_succ]
   have a1:(2*j+1) / 2=j:=by omega
   have a2:2*j / 2=j:=by omega
   rw[a1,a2]
   have:¬ k=i:=fun e=>hk e.symm
   simp[this]
   cases j.testBit d<;>simp
theorem blen_two_pow (k:Nat):blen (2 ^ k)=k+1:=blen_unique (Nat.le_refl _) (by rw[Nat.pow_succ];have:=Nat.two_pow_pos k;omega)
theorem tz_lt {x:Nat}(h0:x≠0) {n:Nat}(hx:x<2 ^ n):tz x<n:=by
 obtain ⟨m,hm,ho⟩:=tz_spec h0
 rcases Nat.lt_or_ge (tz x) n with h|h
 ·exact h
 ·have h2:=Nat.pow_le_pow_right (n:=2) (by omega) h
  have h3:2 ^ tz x*1≤2 ^ tz x*m:=Nat.mul_le_mul_left _ (by omega)
  omega
end Vic
end
section
namespace Go.Proofs.YtbdfhnelmojbpaaGreatDoor
open Go.RowKit Vic
set_option maxHeartbeats 1000000 in
theorem bits_Len (x:Nat) (w:World) (hx:x<18446744073709551616) :
 Calls Tryz.prog 154 #[.int .u64 x] w (Rets (.int .i64 (blen x:Nat)) w):=by
 go_enter Tryz.func154,Tryz.ntmps154
 go_wp2
 go_loop [0,3,4] (fun a n b=>∃ y m s:Nat,a=.int .u64 y∧n=.int .i64 m∧b=.int .i64 s∧(s=32∨s=16∨s=8∨s=4∨s=2∨s=1∨s=0)∧y<18446744073709551616∧m+2*s≤64∧Hid (LenInv x y m s)) (fun _ _ b=>(intOf b).toNat)
 case atStart=>exact ⟨x,0,32,rfl,rfl,rfl,.inl rfl,hx,by omega,LenInv.start hx⟩
 case round=>
  obtain ⟨y,m,s,rfl,rfl,rfl,hs,hy,hm,hi⟩:=hrel
  rcases hs with rfl|rfl|rfl|rfl|rfl|rfl|rfl
  ·go_wp2
   ·have ht:(((y:Nat):Int) / 4294967296 != 0)=true:=by assumption
    go_round
    case rel=>exact ⟨y / 4294967296,m+32,16,rfl,rfl,rfl,by simp,by omega,by omega,hi.out.up' (p:=4294967296) rfl rfl (.inr rfl) (by omega) ht⟩
    case measure=>simp[intOf]
   ·have ht:(((y:Nat):Int) / 4294967296 != 0)=false:=by assumption
    go_round
    case rel=>exact ⟨y,m,16,rfl,rfl,rfl,by simp,by omega,by omega,hi.out.stay' (p:=4294967296) rfl rfl (.inr rfl) (by omega) ht⟩
    case measure=>simp[intOf]
  ·go_wp2
   ·have ht:(((y:Nat):Int) / 65536 != 0)=true:=by assumption
    go_round
    case rel=>exact ⟨y / 65536,m+16,8,rfl,rfl,rfl,by simp,by omega,by omega,hi.out.up' (p:=65536) rfl rfl (.inr rfl) (by omega) ht⟩
    case measure=>simp[intOf]
   ·have ht:(((y:Nat):Int) / 65536 != 0)=false:=by assumption
    go_round
    case rel=>exact ⟨y,m,8,rfl,rfl,rfl,by simp,by omega,by omega,hi.out.stay' (p:=65536) rfl rfl (.inr rfl) (by omega) ht⟩
    case measure=>simp[intOf]
  ·go_wp2
   ·have ht:(((y:Nat):Int) / 256 != 0)=true:=by assumption
    go_round
    case rel=>exact ⟨y / 256,m+8,4,rfl,rfl,rfl,by simp,by omega,by omega,hi.out.up' (p:=256) rfl rfl (.inr rfl) (by omega) ht⟩
    case measure=>simp[intOf]
   ·have ht:(((y:Nat):Int) / 256 != 0)=false:=by assumption
    go_round
    case rel=>exact ⟨y,m,4,rfl,rfl,rfl,by simp,by omega,by omega,hi.out.stay' (p:=256) rfl rfl (.inr rfl) (by omega) ht⟩
    case measure=>simp[intOf]
  ·go_wp2
   ·have ht:(((y:Nat):Int) / 16 != 0)=true:=by assumption
    go_round
    case rel=>exact ⟨y / 16,m+4,2,rfl,rfl,rfl,by simp,by omega,by omega,hi.out.up' (p:=16) rfl rfl (.inr rfl) (by omega) ht⟩
    case measure=>simp[intOf]
   ·have ht:(((y:Nat):Int) / 16 != 0)=false:=by assumption
    go_round
    case rel=>exact ⟨y,m,2,rfl,rfl,rfl,by simp,by omega,by omega,hi.out.stay' (p:=16) rfl rfl (.inr rfl) (by omega) ht⟩
    case measure=>simp[intOf]
  ·go_wp2
   ·have ht:(((y:Nat):Int) / 4 != 0)=true:=by assumption
    go_round
    case rel=>exact ⟨y / 4,m+2,1,rfl,rfl,rfl,by simp,by omega,by omega,hi.out.up' (p:=4) rfl rfl (.inr rfl) (by omega) ht⟩
    case measure=>simp[intOf]
   ·have ht:(((y:Nat):Int) / 4 != 0)=false:=by assumption
    go_round
    case rel=>exact ⟨y,m,1,rfl,rfl,rfl,by simp,by omega,by omega,hi.out.stay' (p:=4) rfl rfl (.inr rfl) (by omega) ht⟩
    case measure=>simp[intOf]
  ·go_wp2
   ·have ht:(((y:Nat):Int) / 2 != 0)=true:=by assumption
    go_round
    case rel=>exact ⟨y / 2,m+1,0,rfl,rfl,rfl,by simp,by omega,by omega,hi.out.up' (p:=2) rfl rfl (.inl rfl) (by omega) ht⟩
    case measure=>simp[intOf]
   ·have ht:(((y:Nat):Int) / 2 != 0)=false:=by assumption
    go_round
    case rel=>exact ⟨y,m,0,rfl,rfl,rfl,by simp,by omega,by omega,hi.out.stay' (p:=2) rfl rfl (.inl rfl) (by omega) ht⟩
    case measure=>simp[intOf]
  ·have hd:=hi.out.done
   obtain ⟨hd1,hd2⟩:=hd
   have H:=Lib.hid hd1;clear hd1
   go_wp2
   go_ret
   refine ⟨ret_int ?_,rfl⟩
   rw[← H.out]
   exact (Int.natCast_add _ _).symm
end Go.Proofs.YtbdfhnelmojbpaaGreatDoor
end
section
namespace Go.Proofs.YtbdfhnelmojbpaaGreatDoor
open Go.RowKit Vic
theorem and_low (x:Nat) (hx:x<18446744073709551616) (h0:x≠0):bits .and .u64 ((x:Nat):Int) (IntKind.u64.wrap (-((x:Nat):Int)))=((2 ^ tz x:Nat):Int):=by
 have e:IntKind.u64.wrap (-((x:Nat):Int))=((18446744073709551616 - x:Nat):Int):=by rw[IntKind.wrap_u64];omega
 rw[e,u64_and_nat _ _ hx (by omega),low_bit x h0 hx]
theorem bits_Zeros_1 (x:Nat) (w:World) (hx:x<18446744073709551616) (h0:x≠0):Calls Tryz.prog 220 #[.int .u64 x] w (Rets (.int .i64 (tz x:Nat)) w):=by
 have hb:(((x:Nat):Int) == 0)=false:=by simp;exact h0
 have ht:=tz_lt (n:=64) h0 hx
 have hl:=and_low x hx h0
 have h2:2 ^ tz x<18446744073709551616:=(show 2 ^ tz x<2 ^ 64 from Nat.pow_lt_pow_right (by omega) ht)
 have hB:=bits_Len (2 ^ tz x) w h2
 rw[blen_two_pow]at hB
 clear h2
 have HL:=Lib.hid hl;clear hl
 go_enter Tryz.func220,Tryz.ntmps220
 go_wp2_with fail
 rw[HL.out]
 refine hB.mono ?_
 rintro e w' ⟨rfl,rfl⟩
 go_wp2
 go_ret
 exact ⟨ret_int (by omega),rfl⟩
end Go.Proofs.YtbdfhnelmojbpaaGreatDoor
end
section
namespace Vic
theorem val_set {B:Nat}{o:List Nat}{j:Nat}(d:Nat) (h:j<o.length):val B (o.set j d)+B ^ j*o.getD j 0=val B o+B ^ j*d:=by
 rw[val_split B (o.set j d) (j+1),val_split B o (j+1),val_take_set B o j d h,val_take_step,List.drop_set,if_pos (by omega)]
 omega
structure MulIn (B:Nat) (b o o0:List Nat) (x i k s:Nat):Prop where
 len:o.length=o0.length
 dg:dig B o
 sum:val B o+B ^ (i+k)*s=val B o0+B ^ i*(x*val B (b.take k))
 small:s<B
 far:∀ j,i+k≤j→o.getD j 0=o0.getD j 0
theorem MulIn.start {B:Nat}{b o0:List Nat}(hB:1<B) (hd:dig B o0) (x i:Nat):MulIn B b o0 o0 x i 0 0:=
 ⟨rfl,hd,by simp[val],by omega,fun _ _=>rfl⟩
theorem mul_small {B x y s d:Nat}(hx:x<B) (hy:y<B) (hs:s<B) (hd:d<B):s+(x*y+d)<B*B:=by
 obtain ⟨c,rfl⟩:∃ c,B=c+1:=⟨B - 1,by omega⟩
 have h1:x*y≤c*c:=Nat.mul_le_mul (by omega) (by omega)
 have h2:(c+1)*(c+1)=c*c+c+c+1:=by rw[Nat.add_mul,Nat.mul_add];omega
 omega
theorem MulIn.step {B:Nat}{b o o0:List Nat}{x i k s:Nat}(h:MulIn B b o o0 x i k s) (hB:1<B) (hb:dig B b) (hx:x<B) (hk:i+k<o0.length) :
 MulIn B b (o.set (i+k) ((s+(x*b.getD k 0+o.getD (i+k) 0)) % B)) o0 x i (k+1) ((s+(x*b.getD k 0+o.getD (i+k) 0)) / B):=by
 have h1:=dig_getD hb (by omega) k
 have h2:=dig_getD h.dg (by omega) (i+k)
 have hs:=mul_small hx h1 h.small h2
 refine ⟨by simp[h.len],dig_set h.dg (Nat.mod_lt _ (by omega)) _,?_,?_,fun j hj=>?_⟩
 ·have e:=val_set (B:=B) (o:=o) (j:=i+k) ((s+(x*b.getD k 0+o.getD (i+k) 0)) % B) (by rw[h.len];exact hk)
  have e2:=Nat.mod_add_div (s+(x*b.getD k 0+o.getD (i+k) 0)) B
  have e3:B ^ (i+k)*((s+(x*b.getD k 0+o.getD (i+k) 0)) % B)+B ^ (i+k)*(B*((s+(x*b.getD k 0+o.getD (i+k) 0)) / B))=B ^ (i+k)*s+(B ^ (i+k)*(x*b.getD k 0)+B ^ (i+k)*o.getD (i+k) 0):=by
   rw[← Nat.mul_add,e2,Nat.mul_add,Nat.mul_add]
  have e4:B ^ (i+(k+1))=B ^ (i+k)*B:=by rw[← Nat.add_assoc,Nat.pow_succ]
  rw[e4,Nat.mul_assoc,val_take_step,Nat.mul_add,Nat.mul_add]
  have e5:B ^ i*(x*(B ^ k*b.getD k 0))=B ^ (i+k)*(x*b.getD k 0):=by
   rw[Nat.pow_add,Nat.mul_assoc,Nat.mul_left_comm x (B ^ k)]
  rw[e5]
  have:=h.sum
  omega
 ·rw[Nat.div_lt_iff_lt_mul (by omega)];exact hs
 ·rw[set_getD_other _ _ _ _ (by omega)];exact h.far j (by omega)
structure MulOut (B:Nat) (a b o:List Nat) (i:Nat):Prop where
 len:o.length=a.length+b.length
 dg:dig B o
 sum:val B o=val B (a.take i)*val B b
 far:∀ j,i+b.length≤j→o.getD j 0=0
theorem MulOut.start {B:Nat}(hB:1<B) (a b:List Nat):MulOut B a b (List.replicate (a.length+b.length) 0) 0:=by
 refine ⟨by simp,dig_replicate (by omega) _,?_,fun j hj=>?_⟩
 ·have h0:∀ n,val B (List.replicate n 0)=0:=fun n=>by
   induction n with
   | zero=>rfl
   | succ n ih=>rw[List.replicate_succ,val_cons,ih];simp
  rw[h0];simp[val]
 ·simp only[List.getD_eq_getElem?_getD,List.getElem?_replicate];split<;>rfl
theorem MulOut.step {B:Nat}{a b o0 o:List Nat}{i s:Nat}(h:MulOut B a b o0 i) (hB:1<B) (ha:dig B a) (hi:i<a.length) (hin:MulIn B b o o0 (a.getD i 0) i b.length s) :
 MulOut B a b (o.set (i+b.length) s) (i+1):=by
 have hl:o.length=a.length+b.length:=hin.len.trans h.len
 refine ⟨by simp[hl],dig_set hin.dg hin.small _,?_,fun j hj=>?_⟩
 ·have e:=val_set (B:=B) (o:=o) (j:=i+b.length) s (by omega)
  have e0:o.getD (i+b.length) 0=0:=by rw[hin.far _ (Nat.le_refl _)];exact h.far _ (Nat.le_refl _)
  rw[e0]at e
  have e2:=hin.sum
  rw[val_take_all B b _ (Nat.le_refl _),h.sum]at e2
  rw[val_take_step,Nat.add_mul,Nat.mul_assoc]
  omega
 ·rw[set_getD_other _ _ _ _ (by omega),hin.far j (by omega)];exact h.far j (by omega)
theorem MulOut.done {B:Nat}{a b o:List Nat}(h:MulOut B a b o a.length):val B o=val B a*val B b:=by
 rw[h.sum,val_take_all B a _ (Nat.le_refl _)]
structure ShortInv (B:Nat) (a o:List Nat) (y k r:Nat):Prop where
 len:o.length=a.length
 dg:dig B o
 sum:y*val B (o.drop k)+r=val B (a.drop k)
 small:r<y
theorem ShortInv.start {B:Nat}(hB:1<B) (a:List Nat) {y:Nat}(hy:0<y):ShortInv B a (List.replicate a.length 0) y a.length 0:=
 ⟨by simp,dig_replicate (by omega) _,by rw[List.drop_of_length_le (by simp),List.drop_of_length_le (Nat.le_refl _)];simp[val],hy⟩
theorem val_drop_set (B:Nat) (o:List Nat) (k d:Nat) (h:k<o.length):val B ((o.set k d).drop k)=d+B*val B (o.drop (k+1)):=by
 rw[val_drop_step,set_getD_same o k d h,List.drop_set,if_pos (by omega)]
theorem ShortInv.step {B:Nat}{a o:List Nat}{y k r:Nat}(h:ShortInv B a o y (k+1) r) (hB:1<B) (ha:dig B a) (hk:k<a.length) :
 (r*B+a.getD k 0) / y<B∧ShortInv B a (o.set k ((r*B+a.getD k 0) / y)) y k ((r*B+a.getD k 0) % y):=by
 have h1:=dig_getD ha (by omega) k
 have hr:=h.small
 have hq:(r*B+a.getD k 0) / y<B:=by
  rw[Nat.div_lt_iff_lt_mul (by omega)]
  have:(r+1)*B≤y*B:=Nat.mul_le_mul_right _ hr
  rw[Nat.add_mul]at this
  rw[Nat.mul_comm B y]
  omega
 refine ⟨hq,by simp[h.len],dig_set h.dg hq _,?_,Nat.mod_lt _ (by omega)⟩
 rw[val_drop_set B o k _ (by rw[h.len];exact hk),val_drop_step B a k,← h.sum]
 have e:=Nat.div_add_mod (r*B+a.getD k 0) y
 rw[Nat.mul_add,Nat.mul_add,← Nat.mul_assoc,← Nat.mul_assoc,Nat.mul_comm y B,Nat.mul_comm B r]
 omega
theorem ShortInv.done {B:Nat}{a o:List Nat}{y r:Nat}(h:ShortInv B a o y 0 r):val B o=val B a / y∧r=val B a % y:=by
 have e:=h.sum
 simp only[List.drop_zero]at e
 have hr:=h.small
 have h1:val B a / y=val B o:=by
  rw[← e,Nat.mul_add_div (by omega),Nat.div_eq_of_lt hr];omega
 have h2:val B a % y=r:=by rw[← e,Nat.mul_add_mod,Nat.mod_eq_of_lt hr]
 exact ⟨h1.symm,h2.symm⟩
theorem blen_digs (n:Nat) (h:n≠0) (k:Nat) (hk:(digs (2 ^ 32) n).length=k+1):blen n=32*k+blen ((digs (2 ^ 32) n).getD k 0):=by
 have hd:=digs_dig (B:=2 ^ 32) (by omega) n
 have hn:=digs_norm (B:=2 ^ 32) (by omega) n
 have hv:=val_digs (B:=2 ^ 32) (by omega) n
 generalize digs (2 ^ 32) n=l at *
 have hlast:l.getD k 0≠0:=by
  intro e
  apply hn
  rw[List.getLast?_eq_getElem?,hk,Nat.add_sub_cancel]
  rw[List.getD_eq_getElem?_getD,List.getElem?_eq_getElem (by omega)]at e
  rw[List.getElem?_eq_getElem (by omega)]
  simpa using e
 have e:val (2 ^ 32) (l.take k)+(2 ^ 32) ^ k*l.getD k 0=n:=by
  rw[← val_take_step,val_take_all _ _ _ (by omega),hv]
 have hlt:=val_take_lt (B:=2 ^ 32) (by omega) hd k
 rw[← Nat.pow_mul]at e hlt
 rw[← e]
 exact blen_shift hlast hlt
theorem tz_digit {l:List Nat}{k:Nat}(h0:val (2 ^ 32) (l.take k)=0) (hk:l.getD k 0≠0) (hd:dig (2 ^ 32) l):tz (val (2 ^ 32) l)=32*k+tz (l.getD k 0):=by
 rw[val_split _ l k,h0,val_drop_step]
 obtain ⟨m,hm,ho⟩:=tz_spec hk
 generalize hx:l.getD k 0=x at *
 have hlt:x<2 ^ 32:=by rw[← hx];exact dig_getD hd (by omega) k
 have ht:tz x<32:=by
  rcases Nat.lt_or_ge (tz x) 32 with h|h
  ·exact h
  ·have h2:=Nat.pow_le_pow_right (n:=2) (by omega) h
   have h3:2 ^ tz x*1≤2 ^ tz x*m:=Nat.mul_le_mul_left _ (by omega)
   omega
 refine tz_of (m:=m+2 ^ (32 - tz x)*val (2 ^ 32) (l.drop (k+1))) ?_ ?_
 ·rw[Nat.zero_add,← Nat.pow_mul,Nat.pow_add,Nat.mul_assoc]
  congr 1
  rw[Nat.mul_add,← hm,← Nat.mul_assoc,← Nat.pow_add]
  congr 3
  omega
 ·obtain ⟨d,hd2⟩:∃ d,32 - tz x=d+1:=⟨31 - tz x,by omega⟩
  rw[hd2,Nat.pow_succ,Nat.mul_comm (2 ^ d) 2,Nat.mul_assoc]
  omega
end Vic
end
section
namespace Go.Proofs.YtbdfhnelmojbpaaGreatDoor
open Go.RowKit Vic
theorem wrap64_small (d:Nat) (h:d<4294967296):IntKind.u64.wrap (d:Int)=d:=by rw[IntKind.wrap_u64];omega
theorem mul_sum (x p q d:Nat) (hs:x<4294967296) (hp:p<4294967296) (hq:q<4294967296) (hd:d<4294967296) :
 IntKind.u64.wrap ((x:Int)+IntKind.u64.wrap (IntKind.u64.wrap (IntKind.u64.wrap (p:Int)*IntKind.u64.wrap (q:Int))+IntKind.u64.wrap (d:Int)))=((x+(p*q+d):Nat):Int):=by
 rw[show IntKind.u64.wrap (p:Int)=p by rw[IntKind.wrap_u64];omega,show IntKind.u64.wrap (q:Int)=q by rw[IntKind.wrap_u64];omega]
 have h1:p*q≤4294967295*4294967295:=Nat.mul_le_mul (by omega) (by omega)
 have e:((p*q:Nat):Int)=(p:Int)*(q:Int):=Int.natCast_mul _ _
 rw[← e]
 generalize p*q=m at *
 simp only[IntKind.wrap_u64]
 omega
theorem _root_.Vic.U32s.at_ {w:World}{A:Option Addr}{c:Nat}{l:List Nat}(h:U32s w (.slice A l.length c) l) (k:Nat) (hk:k<l.length) :
 ∃ b o,A=some ⟨b,o,none⟩∧w.cell? ⟨b,o+k,none⟩=some (.int .u32 ((l.getD k 0:Nat):Int)):=by
 obtain ⟨A',c',hv,_,hcell⟩:=h
 injection hv with h1 h2 h3
 subst h1
 exact hcell k hk
set_option maxRecDepth 100000 in
set_option maxHeartbeats 4000000 in
theorem nat_Mul (w:World) (u v:Value) (a b:Nat) (ha:NatAt w u a) (hb:NatAt w v b) (hal:(dgs a).length≤500000000000) (hbl:(dgs b).length≤500000000000) :
 Calls Tryz.prog 167 #[u,v] w (Gives (fun x w'=>NatAt w' x (a*b)) w):=by
 have CA:=Lib.hid (nat_digits w u a ha)
 have CB:=Lib.hid (nat_digits w v b hb)
 have VA:Hid (val 4294967296 (dgs a)=a):=val_digs (by omega) a
 have VB:Hid (val 4294967296 (dgs b)=b):=val_digs (by omega) b
 have da:dig 4294967296 (dgs a):=digs_dig (by omega) a
 have db:dig 4294967296 (dgs b):=digs_dig (by omega) b
 generalize dgs a=la at *
 generalize dgs b=lb at *
 have hmk:∀ w,(Instr.makeSlice 289 (.int .i64 (la.length+lb.length)) (.int .i64 (la.length+lb.length))).run Tryz.prog w=.ok (.slice (some ⟨w.heap.size,0,none⟩) (la.length+lb.length) (la.length+lb.length)) (w.alloc (.cells (vals .u32 (List.replicate (la.length+lb.length) 0)) 291)):=fun w=>mk_u32 _ _ (by omega) (by omega) w
 go_enter Tryz.func167,Tryz.ntmps167
 go_wp2_with fail
 refine CA.out.mono ?_
 rintro e w' ⟨A,c,rfl,hA,rfl⟩
 go_wp2_with fail
 refine CB.out.mono ?_
 rintro e w' ⟨A',c',rfl,hB,rfl⟩
 go_wp2_with fail
 clear hmk
 go_loopw [25] (fun t wr=>∃ (i:Nat) (o:List Nat),t=.int .i64 i∧i≤la.length∧Below w.heap.size w wr∧Row wr w.heap.size 291 (vals .u32 o)∧Hid (MulOut 4294967296 la lb o i)) (fun t _=>la.length - (intOf t).toNat)
 case atStart=>exact ⟨0,_,rfl,by omega,(Below.refl _ _).alloc (Nat.le_refl _) _,Row.new _ _ _,MulOut.start (by omega) la lb⟩
 case round=>
  obtain ⟨i,o0,rfl,hi,hbl,hrow,ho⟩:=hrel
  by_cases hlt:i<la.length
  ·obtain ⟨b1,o1,rfl,hc1⟩:=(U32s.keep hA hbl).at_ i hlt
   have hp:=dig_getD da (by omega) i
   obtain ⟨p,hpe⟩:∃ p,p=la.getD i 0:=⟨_,rfl⟩
   rw[← hpe]at hp hc1
   have HP:=Lib.hid hp;have HPE:=Lib.hid hpe;clear hp hpe
   go_wp2_with fail
   obtain ⟨wo,hwo⟩:∃ wo:World,wo=wr:=⟨_,rfl⟩
   go_loopw [10,32] (fun s t wi=>∃ (k x:Nat) (o:List Nat),s=.int .u64 x∧t=.int .i64 k∧k≤lb.length∧Below w.heap.size w wi∧Row wi w.heap.size 291 (vals .u32 o)∧Hid (MulIn 4294967296 lb o o0 p i k x)) (fun _ t _=>lb.length - (intOf t).toNat)
   case atStart=>exact ⟨0,0,o0,rfl,rfl,by omega,hbl,hrow,MulIn.start (by omega) ho.out.dg p i⟩
   case round=>
    obtain ⟨k,x,o,rfl,rfl,hk,hbi,hri,hin⟩:=hrel
    by_cases hkl:k<lb.length
    ·obtain ⟨b2,o2,rfl,hc2⟩:=(U32s.keep hB hbi).at_ k hkl
     have hlen:o.length=la.length+lb.length:=hin.out.len.trans ho.out.len
     have hcell:=hri.cell (i+k)
     rw[vals_get .u32 o (i+k) (by omega)]at hcell
     have hfree:=hri.free (i+k)
     have hst:=hin.out.step (by omega) db HP.out (by rw[ho.out.len];omega)
     have hq:=dig_getD db (by omega) k
     have hd:=dig_getD hin.out.dg (by omega) (i+k)
     have hx:=hin.out.small
     generalize lb.getD k 0=q at *
     generalize o.getD (i+k) 0=d at *
     have HS:Hid (MulIn 4294967296 lb (o.set (i+k) ((x+(p*q+d)) % 4294967296)) o0 p i (k+1) ((x+(p*q+d)) / 4294967296)):=hst
     have HE:=Lib.hid (mul_sum x p q d hx HP.out hq hd)
     clear hst hq hd hx
     go_wp2_with fail
     go_roundw
     case rel=>
      refine ⟨k+1,(x+(p*q+d)) / 4294967296,o.set (i+k) ((x+(p*q+d)) % 4294967296),?_,by go_num,by omega,hbi.setCell (Nat.le_refl _) _,?_,HS⟩
      ·rw[HE.out,div_half]
      ·rw[HE.out,show (((x+(p*q+d):Nat):Int) % 4294967296)=(((x+(p*q+d)) % 4294967296:Nat):Int)from (Int.natCast_emod _ _).symm,← vals_set];exact hri.set _ _
     case measure=>simp[intOf];omega
    ·obtain rfl:k=lb.length:=by omega
     have hlen:o.length=la.length+lb.length:=hin.out.len.trans ho.out.len
     have hcell:=hri.cell (i+lb.length)
     rw[vals_get .u32 o (i+lb.length) (by omega)]at hcell
     have hfree:=hri.free (i+lb.length)
     have hin':=hin.out
     rw[HPE.out]at hin'
     have hst:=ho.out.step (by omega) da hlt hin'
     have hx:=hin.out.small
     generalize o.getD (i+lb.length) 0=d at *
     have HS:Hid (MulOut 4294967296 la lb (o.set (i+lb.length) x) (i+1)):=hst
     have HX:=Lib.hid hx
     clear hst hx hin'
     go_wp2_with fail
     go_roundw
     case rel=>
      refine ⟨i+1,o.set (i+lb.length) x,by go_num,by omega,hbi.setCell (Nat.le_refl _) _,?_,HS⟩
      rw[show ((x:Int) % 4294967296)=(x:Int) by have:=HX.out;omega,← vals_set];exact hri.set _ _
     case measure=>simp[intOf];omega
  ·obtain rfl:i=la.length:=by omega
   have hd:=ho.out.done
   rw[VA.out,VB.out]at hd
   have hlen:=ho.out.len
   have hu:U32s wr (.slice (some ⟨w.heap.size,0,none⟩) (la.length+lb.length) (la.length+lb.length)) o0:=by
    have:=hrow.ints (l:=o0) (la.length+lb.length) (by omega)
    rwa [hlen]at this
   have CO:=Lib.hid (nat_of wr _ o0 hu ho.out.dg (by omega))
   have HD:=Lib.hid hd
   clear hd hlen
   go_wp2_with fail
   refine CO.out.mono ?_
   rintro e w' ⟨z,rfl,hz,hbz⟩
   rw[HD.out]at hz
   go_wp2
   go_ret
   exact ⟨z,rfl,hz,below_seq hbl hbz⟩
set_option maxRecDepth 100000 in
set_option maxHeartbeats 1000000 in
theorem nat_Bits (w:World) (v:Value) (a:Nat) (ha:NatAt w v a) (hal:(dgs a).length≤1000000000000) :
 Calls Tryz.prog 147 #[v] w (Rets (.int .i64 ((blen a:Nat):Int)) w):=by
 have CA:=Lib.hid (nat_digits w v a ha)
 obtain ⟨r,hr⟩:∃ r,r=blen a:=⟨_,rfl⟩
 rw[← hr]
 have HR:=Lib.hid hr;clear hr
 rcases Nat.eq_zero_or_pos (dgs a).length with h0|h0
 ·have ha0:a=0:=(digs_eq_nil (by omega)).1 (List.eq_nil_of_length_eq_zero h0)
  have hr0:r=0:=by rw[HR.out,ha0];rfl
  subst hr0
  go_enter Tryz.func147,Tryz.ntmps147
  go_wp2_with fail
  refine CA.out.mono ?_
  rintro e w' ⟨A,c,rfl,hA,rfl⟩
  generalize dgs a=la at *
  go_wp2
  go_ret
  exact ⟨rfl,rfl⟩
 ·obtain ⟨k,hk⟩:∃ k,(dgs a).length=k+1:=⟨(dgs a).length - 1,by omega⟩
  have ha0:a≠0:=fun e=>by rw[e,show dgs 0 = []from digs_zero _]at hk;simp at hk
  have hb:=blen_digs a ha0 k hk
  have da:dig 4294967296 (dgs a):=digs_dig (by omega) a
  have hb':r=32*k+blen ((dgs a).getD k 0):=HR.out.trans hb
  have hlt:=dig_getD da (by omega) k
  generalize hd:(dgs a).getD k 0=d at *
  have HB:=Lib.hid hb'
  have HD:=Lib.hid hd
  have CL:=Lib.hid (bits_Len d w (by omega))
  have hbl:blen d≤64:=blen_le (n:=d) (k:=64) (by omega)
  have HK:=Lib.hid hk
  have EW:=Lib.hid (wrap64_small d (by omega))
  clear hb hb' hd hlt da
  generalize blen d=bd at *
  go_enter Tryz.func147,Tryz.ntmps147
  go_wp2_with fail
  refine CA.out.mono ?_
  rintro e w' ⟨A,c,rfl,hA,rfl⟩
  generalize dgs a=la at *
  obtain ⟨b1,o1,rfl,hc1⟩:=hA.at_ k (by omega)
  rw[HD.out]at hc1
  have hlen:(la.length:Int) - 1=(k:Int):=by omega
  go_wp2_with fail
  rw[EW.out]
  refine CL.out.mono ?_
  rintro e w' ⟨rfl,rfl⟩
  go_wp2
  go_ret
  have:=HB.out
  exact ⟨ret_int (by omega),rfl⟩
set_option maxRecDepth 100000 in
set_option maxHeartbeats 1000000 in
theorem nat_Twos (w:World) (v:Value) (a:Nat) (ha:NatAt w v a) (hal:(dgs a).length≤1000000000000) :
 Calls Tryz.prog 148 #[v] w (Rets (.int .i64 ((tz a:Nat):Int)) w):=by
 have CA:=Lib.hid (nat_digits w v a ha)
 have da:dig 4294967296 (dgs a):=digs_dig (by omega) a
 have VA:Hid (val 4294967296 (dgs a)=a):=val_digs (by omega) a
 obtain ⟨r,hr⟩:∃ r,r=tz a:=⟨_,rfl⟩
 rw[← hr]
 have HR:=Lib.hid hr;clear hr
 go_enter Tryz.func148,Tryz.ntmps148
 go_wp2_with fail
 refine CA.out.mono ?_
 rintro e w' ⟨A,c,rfl,hA,rfl⟩
 generalize dgs a=la at *
 go_wp2_with fail
 go_loop [8] (fun t=>∃ k:Nat,t=.int .i64 k∧k≤la.length∧Hid (val 4294967296 (la.take k)=0)) (fun t=>la.length - (intOf t).toNat)
 case atStart=>exact ⟨0,rfl,by omega,rfl⟩
 case round=>
  obtain ⟨k,rfl,hk,hz⟩:=hrel
  by_cases hlt:k<la.length
  ·obtain ⟨b1,o1,rfl,hc1⟩:=hA.at_ k hlt
   have hd:=dig_getD da (by omega) k
   have hT:Hid (la.getD k 0≠0→r=32*k+tz (la.getD k 0)):=fun h=>by
    rw[HR.out,← VA.out];exact tz_digit hz.out h da
   have hZ:Hid (la.getD k 0=0→val 4294967296 (la.take (k+1))=0):=fun h=>by
    rw[val_take_step,hz.out,h];simp
   generalize la.getD k 0=d at *
   have EW:=Lib.hid (wrap64_small d (by omega))
   rcases Nat.eq_zero_or_pos d with h0|h0
   ·subst h0
    have hz2:=Lib.hid (hZ.out rfl)
    go_wp2_with fail
    go_round
    case rel=>exact ⟨k+1,by go_num,by omega,hz2.out⟩
    case measure=>simp[intOf];omega
   ·have hb:(((d:Nat):Int) != 0)=true:=by rw[bne_iff_ne];omega
    have CZ:=Lib.hid (bits_Zeros_1 d w (by omega) (by omega))
    have HF:=Lib.hid (hT.out (by omega))
    have hlt2:tz d<64:=tz_lt (n:=64) (by omega) (by omega)
    clear hd
    generalize tz d=td at *
    go_wp2_with fail
    rw[EW.out]
    refine CZ.out.mono ?_
    rintro e w' ⟨rfl,rfl⟩
    go_wp2
    go_ret
    have:=HF.out
    exact ⟨ret_int (by omega),rfl⟩
  ·obtain rfl:k=la.length:=by omega
   have h0:r=0:=by
    have:=hz.out
    rw[val_take_all _ _ _ (Nat.le_refl _),VA.out]at this
    rw[HR.out,this,tz_zero]
   subst h0
   go_wp2
   go_ret
   exact ⟨rfl,rfl⟩
end Go.Proofs.YtbdfhnelmojbpaaGreatDoor
end
section
namespace Vic
structure UpInv (l o:List Nat) (q s i:Nat):Prop where
 len:o.length=l.length+q+1
 dg:dig (2 ^ 32) o
 sum:val (2 ^ 32) o=2 ^ s*((2 ^ 32) ^ q*val (2 ^ 32) (l.take i))
 small:o.getD (i+q) 0<2 ^ s
 far:∀ j,i+q<j→o.getD j 0=0
theorem val_zeros (B n:Nat):val B (List.replicate n 0)=0:=by
 induction n with
 | zero=>rfl
 | succ n ih=>rw[List.replicate_succ,val_cons,ih];simp
theorem getD_zeros (n j:Nat):(List.replicate n 0).getD j 0=0:=by
 simp only[List.getD_eq_getElem?_getD,List.getElem?_replicate];split<;>rfl
theorem UpInv.start (l:List Nat) (q s:Nat):UpInv l (List.replicate (l.length+q+1) 0) q s 0:=
 ⟨by simp,dig_replicate (by omega) _,by rw[val_zeros];simp[val],by rw[getD_zeros];exact Nat.two_pow_pos s,fun j _=>getD_zeros _ _⟩
theorem up_or {c y s:Nat}(hc:c<2 ^ s):c ||| (y*2 ^ s % 2 ^ 32)=c+y*2 ^ s % 2 ^ 32:=by
 by_cases hs:s≤32
 ·have e:y*2 ^ s % 2 ^ 32=2 ^ s*(y % 2 ^ (32 - s)):=by
   have:(2:Nat) ^ 32=2 ^ s*2 ^ (32 - s):=by rw[← Nat.pow_add];congr 1;omega
   rw[this,Nat.mul_comm y,Nat.mul_mod_mul_left]
  rw[e,Nat.or_comm,← Nat.two_pow_add_eq_or_of_lt hc];omega
 ·have e:y*2 ^ s % 2 ^ 32=0:=by
   have:(2:Nat) ^ s=2 ^ 32*2 ^ (s - 32):=by rw[← Nat.pow_add];congr 1;omega
   rw[this,Nat.mul_left_comm];exact Nat.mul_mod_right _ _
  rw[e];simp
theorem UpInv.step {l o:List Nat}{q s i:Nat}(h:UpInv l o q s i) (hs:s<32) (hl:dig (2 ^ 32) l) (hi:i<l.length) :
 o.getD (i+q) 0 ||| (l.getD i 0*2 ^ s % 2 ^ 32)<2 ^ 32∧l.getD i 0*2 ^ s / 2 ^ 32<2 ^ 32∧l.getD i 0*2 ^ s<2 ^ 64 ∧
 UpInv l ((o.set (i+q) (o.getD (i+q) 0 ||| (l.getD i 0*2 ^ s % 2 ^ 32))).set (i+q+1) (l.getD i 0*2 ^ s / 2 ^ 32)) q s (i+1):=by
 have hd:=dig_getD hl (by omega) i
 have hp:=Nat.two_pow_pos s
 have hp2:2 ^ s≤2 ^ 31:=Nat.pow_le_pow_right (by omega) (by omega)
 have hc:=h.small
 rw[up_or hc]
 generalize hdd:l.getD i 0=d at *
 generalize hcc:o.getD (i+q) 0=c at *
 have e32:(2:Nat) ^ 32=2 ^ (32 - s)*2 ^ s:=by rw[← Nat.pow_add];congr 1;omega
 have hy:d*2 ^ s<2 ^ 32*2 ^ s:=Nat.mul_lt_mul_of_pos_right hd hp
 have b2:d*2 ^ s / 2 ^ 32<2 ^ s:=by
  rw[Nat.div_lt_iff_lt_mul (by omega),Nat.mul_comm (2 ^ s)];exact hy
 have b1:c+d*2 ^ s % 2 ^ 32<2 ^ 32:=by
  have e:d*2 ^ s % 2 ^ 32=d % 2 ^ (32 - s)*2 ^ s:=by
   conv=>lhs;rw[e32]
   exact Nat.mul_mod_mul_right _ _ _
  have h1:d % 2 ^ (32 - s)+1≤2 ^ (32 - s):=Nat.mod_lt _ (Nat.two_pow_pos _)
  have h2:=Nat.mul_le_mul_right (2 ^ s) h1
  rw[← e32,Nat.add_mul,← e]at h2
  omega
 have b3:d*2 ^ s<2 ^ 64:=by
  have:=Nat.mul_le_mul_left (2 ^ 32) hp2
  omega
 refine ⟨b1,by omega,b3,by simp[h.len],dig_set (dig_set h.dg b1 _) (by omega) _,?_,?_,fun j hj=>?_⟩
 ·have e1:=val_set (B:=2 ^ 32) (o:=o) (j:=i+q) (c+d*2 ^ s % 2 ^ 32) (by rw[h.len];omega)
  have e2:=val_set (B:=2 ^ 32) (o:=o.set (i+q) (c+d*2 ^ s % 2 ^ 32)) (j:=i+q+1) (d*2 ^ s / 2 ^ 32) (by simp[h.len];omega)
  rw[set_getD_other _ _ _ _ (by omega),h.far _ (by omega)]at e2
  rw[hcc,Nat.mul_add]at e1
  have e3:=Nat.mod_add_div (d*2 ^ s) (2 ^ 32)
  have e4:(2 ^ 32) ^ (i+q)*(d*2 ^ s % 2 ^ 32)+(2 ^ 32) ^ (i+q+1)*(d*2 ^ s / 2 ^ 32)=(2 ^ 32) ^ (i+q)*(d*2 ^ s):=by
   rw[show ((2:Nat) ^ 32) ^ (i+q+1)=(2 ^ 32) ^ (i+q)*2 ^ 32 from Nat.pow_succ _ _,Nat.mul_assoc,← Nat.mul_add,e3]
  rw[val_take_step,hdd,Nat.mul_add,Nat.mul_add]
  have e5:2 ^ s*((2 ^ 32) ^ q*((2 ^ 32) ^ i*d))=(2 ^ 32) ^ (i+q)*(d*2 ^ s):=by
   rw[Nat.pow_add,Nat.mul_assoc,Nat.mul_left_comm (2 ^ s),Nat.mul_left_comm ((2 ^ 32) ^ i),Nat.mul_left_comm (2 ^ s),Nat.mul_comm (2 ^ s) d]
  rw[e5]
  have:=h.sum
  omega
 ·rw[show i+1+q=i+q+1 by omega,set_getD_same _ _ _ (by simp[h.len];omega)];exact b2
 ·rw[set_getD_other _ _ _ _ (by omega),set_getD_other _ _ _ _ (by omega)];exact h.far j (by omega)
theorem UpInv.done {l o:List Nat}{q s:Nat}(h:UpInv l o q s l.length):val (2 ^ 32) o=val (2 ^ 32) l*2 ^ (32*q+s):=by
 rw[h.sum,val_take_all _ l _ (Nat.le_refl _),Nat.pow_add,← Nat.pow_mul,Nat.mul_comm (2 ^ s),Nat.mul_right_comm,Nat.mul_comm]
structure DownInv (l o:List Nat) (s i:Nat):Prop where
 len:o.length=l.length
 dg:dig (2 ^ 32) o
 sum:val (2 ^ 32) (o.take i)=val (2 ^ 32) l / 2 ^ s % (2 ^ 32) ^ i
theorem DownInv.start (l:List Nat) (s:Nat):DownInv l (List.replicate l.length 0) s 0:=
 ⟨by simp,dig_replicate (by omega) _,by simp[val];omega⟩
theorem down_digit {l:List Nat}(hl:dig (2 ^ 32) l) (s i:Nat) (hs:s<32) :
 val (2 ^ 32) l / 2 ^ s / (2 ^ 32) ^ i % 2 ^ 32=(l.getD i 0+l.getD (i+1) 0*2 ^ 32) / 2 ^ s % 2 ^ 32:=by
 have hp:=Nat.two_pow_pos s
 have hB:0<(2 ^ 32) ^ i:=Nat.pow_pos (by omega)
 rw[Nat.div_div_eq_div_mul,Nat.mul_comm (2 ^ s),← Nat.div_div_eq_div_mul,← val_drop _ (by omega) l hl,val_drop_step,val_drop_step _ l (i+1)]
 generalize val (2 ^ 32) (l.drop (i+1+1))=V
 generalize l.getD i 0=x
 generalize l.getD (i+1) 0=y
 have e:x+2 ^ 32*(y+2 ^ 32*V)=(x+y*2 ^ 32)+2 ^ s*(2 ^ 32*(2 ^ (32 - s)*V)):=by
  have e32:2 ^ s*(2 ^ 32*(2 ^ (32 - s)*V))=2 ^ 32*(2 ^ 32*V):=by
   rw[Nat.mul_left_comm,← Nat.mul_assoc (2 ^ s),← Nat.pow_add,show s+(32 - s)=32 by omega]
  rw[e32];omega
 rw[e,Nat.add_mul_div_left _ _ hp,Nat.add_mul_mod_self_left]
theorem DownInv.step {l o:List Nat}{s i:Nat}(h:DownInv l o s i) (hs:s<32) (hl:dig (2 ^ 32) l) (hi:i<l.length) :
 DownInv l (o.set i ((l.getD i 0+l.getD (i+1) 0*2 ^ 32) / 2 ^ s % 2 ^ 32)) s (i+1):=by
 refine ⟨by simp[h.len],dig_set h.dg (Nat.mod_lt _ (by omega)) _,?_⟩
 rw[val_take_set _ o i _ (by rw[h.len];exact hi),h.sum,← down_digit hl s i hs]
 exact (Nat.mod_pow_succ ..).symm
theorem DownInv.done {l o:List Nat}{s:Nat}(h:DownInv l o s l.length) (hl:dig (2 ^ 32) l):val (2 ^ 32) o=val (2 ^ 32) l / 2 ^ s:=by
 have e:=h.sum
 rw[val_take_all _ o _ (by rw[h.len];exact Nat.le_refl _)]at e
 rw[e]
 refine Nat.mod_eq_of_lt (Nat.lt_of_le_of_lt (Nat.div_le_self _ _) ?_)
 exact val_lt (by omega) hl
theorem down_all {l:List Nat}(hl:dig (2 ^ 32) l) (q s:Nat):val (2 ^ 32) (l.drop q) / 2 ^ s=val (2 ^ 32) l / 2 ^ (32*q+s):=by
 rw[val_drop _ (by omega) l hl,Nat.div_div_eq_div_mul,Nat.pow_add,Nat.pow_mul]
theorem down_none {l:List Nat}(hl:dig (2 ^ 32) l) (k:Nat) (h:l.length≤k / 32):val (2 ^ 32) l / 2 ^ k=0:=by
 apply Nat.div_eq_of_lt
 have h1:=val_lt (by omega) hl
 rw[← Nat.pow_mul]at h1
 exact Nat.lt_of_lt_of_le h1 (Nat.pow_le_pow_right (by omega) (by omega))
end Vic
end
section
namespace Go.Proofs.YtbdfhnelmojbpaaGreatDoor
open Go.RowKit Vic
theorem _root_.Vic.U32s.cap {w:World}{A:Option Addr}{c:Nat}{l:List Nat}(h:U32s w (.slice A l.length c) l):l.length≤c:=by
 obtain ⟨A',c',hv,h2,_⟩:=h
 injection hv with _ _ h3
 omega
theorem _root_.Vic.U32s.cut {w:World}{b o c:Nat}{l:List Nat}(h:U32s w (.slice (some ⟨b,o,none⟩) l.length c) l) (q:Nat) (hq:q≤l.length) :
 U32s w (.slice (some ⟨b,o+q,none⟩) (l.length - q) (c - q)) (l.drop q):=by
 refine ⟨_,c - q,by rw[List.length_drop],by rw[List.length_drop];have:=h.cap;omega,fun i hi=>?_⟩
 rw[List.length_drop]at hi
 obtain ⟨b',o',hb,hc⟩:=h.at_ (q+i) (by omega)
 injection hb with hb
 injection hb with hb1 hb2
 subst hb1;subst hb2
 exact ⟨b,o+q,rfl,by rw[getD_drop,Nat.add_assoc];exact hc⟩
theorem down_val (p p2 s:Nat) (hp:p<4294967296) (hp2:p2<4294967296) :
 bits .or .u64 (p:Int) (IntKind.u64.wrap ((p2:Int)*4294967296)) / 2 ^ s % 4294967296=(((p+p2*2 ^ 32) / 2 ^ s % 2 ^ 32:Nat):Int):=by
 rw[show IntKind.u64.wrap ((p2:Int)*4294967296)=(p2:Int)*4294967296 by rw[IntKind.wrap_u64];omega,or_up p p2 hp hp2,shr_val,
  show p+4294967296*p2=p+p2*2 ^ 32 by omega]
 generalize (p+p2*2 ^ 32) / 2 ^ s=y
 omega
theorem up_y (d s:Nat) (hd:d<4294967296) (h:d*2 ^ s<2 ^ 64):IntKind.u64.wrap (IntKind.u64.wrap (d:Int)*2 ^ s)=((d*2 ^ s:Nat):Int):=by
 rw[wrap64_small d hd,shl_val]
 exact congrArg (fun n:Nat=>(n:Int)) (Nat.mod_eq_of_lt h)
theorem up_lo (x d s:Nat) (hx:x<4294967296) (hd:d<4294967296) (h:d*2 ^ s<2 ^ 64) :
 bits .or .u32 (x:Int) (IntKind.u64.wrap (IntKind.u64.wrap (d:Int)*2 ^ s) % 4294967296)=((x ||| d*2 ^ s % 2 ^ 32:Nat):Int):=by
 rw[up_y d s hd h]
 generalize d*2 ^ s=y
 rw[show ((y:Nat):Int) % 4294967296=((y % 2 ^ 32:Nat):Int) by omega]
 exact u32_or_nat _ _ hx (by omega)
theorem up_hi (d s:Nat) (hd:d<4294967296) (h:d*2 ^ s<2 ^ 64) :
 IntKind.u64.wrap (IntKind.u64.wrap (d:Int)*2 ^ s) / 4294967296 % 4294967296=((d*2 ^ s / 2 ^ 32:Nat):Int):=by
 rw[up_y d s hd h]
 generalize d*2 ^ s=y at *
 omega
set_option maxRecDepth 100000 in
set_option maxHeartbeats 4000000 in
theorem nat_up (w:World) (v:Value) (a k:Nat) (ha:NatAt w v a) (hal:(dgs a).length≤500000000000) (hk:k≤1000000000000) :
 Calls Tryz.prog 272 #[v,.int .i64 k] w (Gives (fun x w'=>NatAt w' x (a*2 ^ k)) w):=by
 have CA:=Lib.hid (nat_digits w v a ha)
 have VA:Hid (val 4294967296 (dgs a)=a):=val_digs (by omega) a
 have da:dig 4294967296 (dgs a):=digs_dig (by omega) a
 generalize dgs a=la at *
 obtain ⟨q,hq⟩:∃ q,q=k / 32:=⟨_,rfl⟩
 obtain ⟨s,hs⟩:∃ s,s=k % 32:=⟨_,rfl⟩
 have hqb:q≤100000000000:=by omega
 have hsb:s<32:=by omega
 have eq1:((k:Nat):Int) / 32=(q:Int):=by omega
 have es:((k:Nat):Int) % 32=(s:Int):=by omega
 have hqs:k=32*q+s:=by omega
 have HQS:=Lib.hid hqs
 have hmk:∀ w,(Instr.makeSlice 289 (.int .i64 (la.length+q+1)) (.int .i64 (la.length+q+1))).run Tryz.prog w=.ok (.slice (some ⟨w.heap.size,0,none⟩) (la.length+q+1) (la.length+q+1)) (w.alloc (.cells (vals .u32 (List.replicate (la.length+q+1) 0)) 291)):=fun w=>mk_u32 _ _ (by omega) (by omega) w
 clear hq hs hqs
 go_enter Tryz.func272,Tryz.ntmps272
 go_wp2_with fail
 refine CA.out.mono ?_
 rintro e w' ⟨A,c,rfl,hA,rfl⟩
 go_wp2_with fail
 clear hmk
 go_loopw [21] (fun t wr=>∃ (i:Nat) (o:List Nat),t=.int .i64 i∧i≤la.length∧Below w.heap.size w wr∧Row wr w.heap.size 291 (vals .u32 o)∧Hid (UpInv la o q s i)) (fun t _=>la.length - (intOf t).toNat)
 case atStart=>exact ⟨0,_,rfl,by omega,(Below.refl _ _).alloc (Nat.le_refl _) _,Row.new _ _ _,UpInv.start la q s⟩
 case round=>
  obtain ⟨i,o,rfl,hi,hbl,hrow,ho⟩:=hrel
  by_cases hlt:i<la.length
  ·obtain ⟨b1,o1,rfl,hc1⟩:=(U32s.keep hA hbl).at_ i hlt
   have hlen:=ho.out.len
   have hcell:=hrow.cell (i+q)
   rw[vals_get .u32 o (i+q) (by omega)]at hcell
   have hfree:=hrow.free (i+q)
   have hst:=ho.out.step hsb da hlt
   have hd:=dig_getD da (by omega) i
   have hc:=dig_getD ho.out.dg (by omega) (i+q)
   have hcell2:=hrow.cell (i+q+1)
   rw[vals_get .u32 o (i+q+1) (by omega)]at hcell2
   have hfree2:=hrow.free (i+q+1)
   generalize la.getD i 0=d at *
   generalize o.getD (i+q) 0=x at *
   generalize o.getD (i+q+1) 0=z at *
   have HST:=Lib.hid hst
   have HD:=Lib.hid hd
   have HC:=Lib.hid hc
   clear hst hd hc
   go_wp2_with fail
   go_roundw
   case rel=>
    obtain ⟨f1,f2,f3,f4⟩:=HST.out
    refine ⟨i+1,_,by go_num,by omega,(hbl.setCell (Nat.le_refl _) _).setCell (Nat.le_refl _) _,?_,f4⟩
    rw[up_lo x d s HC.out HD.out f3,up_hi d s HD.out f3,← vals_set,← vals_set]
    exact (hrow.set _ _).set _ _
   case measure=>simp[intOf];omega
  ·obtain rfl:i=la.length:=by omega
   have hd:=ho.out.done
   rw[← HQS.out]at hd
   have hd':val 4294967296 o=a*2 ^ k:=by rw[← VA.out];exact hd
   have hlen:=ho.out.len
   have hu:U32s wr (.slice (some ⟨w.heap.size,0,none⟩) (la.length+q+1) (la.length+q+1)) o:=by
    have:=hrow.ints (l:=o) (la.length+q+1) (by omega)
    rwa [hlen]at this
   have CO:=Lib.hid (nat_of wr _ o hu ho.out.dg (by omega))
   have HD:=Lib.hid hd'
   clear hd hd' hlen
   go_wp2_with fail
   refine CO.out.mono ?_
   rintro e w' ⟨z,rfl,hz,hbz⟩
   rw[HD.out]at hz
   go_wp2
   go_ret
   exact ⟨z,rfl,hz,below_seq hbl hbz⟩
set_option maxRecDepth 100000 in
set_option maxHeartbeats 4000000 in
theorem nat_down (w:World) (v:Value) (a k:Nat) (ha:NatAt w v a) (hal:(dgs a).length≤1000000000000) (hk:k≤1000000000000000) :
 Calls Tryz.prog 274 #[v,.int .i64 k] w (Gives (fun x w'=>NatAt w' x (a / 2 ^ k)) w):=by
 have CA:=Lib.hid (nat_digits w v a ha)
 have VA:Hid (val 4294967296 (dgs a)=a):=val_digs (by omega) a
 have da:dig 4294967296 (dgs a):=digs_dig (by omega) a
 generalize dgs a=la at *
 obtain ⟨q,hq⟩:∃ q,q=k / 32:=⟨_,rfl⟩
 obtain ⟨s,hs⟩:∃ s,s=k % 32:=⟨_,rfl⟩
 have hqb:q≤1000000000000000:=by omega
 have hsb:s<32:=by omega
 have eq1:((k:Nat):Int) / 32=(q:Int):=by omega
 have es:((k:Nat):Int) % 32=(s:Int):=by omega
 have hqs:k=32*q+s:=by omega
 have HQS:=Lib.hid hqs
 have HQ:=Lib.hid hq
 clear hq hs hqs
 by_cases hlq:la.length≤q
 ·have h0:a / 2 ^ k=0:=by rw[← VA.out];exact down_none da k (by rw[← HQ.out];exact hlq)
  have CO:=Lib.hid (nat_of w (.slice none 0 0) [] (Ints.nil_ _ w) (dig_nil _) (by simp))
  rw[h0]
  clear h0
  go_enter Tryz.func274,Tryz.ntmps274
  go_wp2_with fail
  refine CA.out.mono ?_
  rintro e w' ⟨A,c,rfl,hA,rfl⟩
  go_wp2_with fail
  refine CO.out.mono ?_
  rintro e w' ⟨z,rfl,hz,hbz⟩
  go_wp2
  go_ret
  exact ⟨z,rfl,hz,hbz⟩
 ·have hmk:∀ w,(Instr.makeSlice 289 (.int .i64 (la.length - q:Nat)) (.int .i64 (la.length - q:Nat))).run Tryz.prog w=.ok (.slice (some ⟨w.heap.size,0,none⟩) (la.length - q) (la.length - q)) (w.alloc (.cells (vals .u32 (List.replicate (la.length - q) 0)) 291)):=fun w=>mk_u32 _ _ (by omega) (by omega) w
  go_enter Tryz.func274,Tryz.ntmps274
  go_wp2_with fail
  refine CA.out.mono ?_
  rintro e w' ⟨A,c,rfl,hA,rfl⟩
  obtain ⟨b1,o1,rfl,_⟩:=hA.at_ 0 (by omega)
  have hcq:¬ c=q:=by have:=hA.cap;omega
  have hcap:=hA.cap
  have hcut:=Lib.hid (hA.cut q (by omega))
  have hm:(la.drop q).length=la.length - q:=List.length_drop
  have dq:dig 4294967296 (la.drop q):=dig_drop da q
  obtain ⟨lq,hlqe⟩:∃ lq,lq=la.drop q:=⟨_,rfl⟩
  rw[← hlqe]at hm dq hcut
  have hval:val (2 ^ 32) lq / 2 ^ s=a / 2 ^ k:=by
   rw[hlqe,down_all da,← HQS.out];exact congrArg (· / 2 ^ k) VA.out
  have HV:=Lib.hid hval
  have HM:=Lib.hid hm
  clear hval hm hlqe hcap hA
  go_wp2_with fail
  clear hmk
  go_loopw [25] (fun t wr=>∃ (i:Nat) (o:List Nat),t=.int .i64 i∧i≤la.length - q∧Below w.heap.size w wr∧Row wr w.heap.size 291 (vals .u32 o)∧Hid (DownInv lq o s i)) (fun t _=>la.length - q - (intOf t).toNat)
  case atStart=>exact ⟨0,_,rfl,by omega,(Below.refl _ _).alloc (Nat.le_refl _) _,Row.new _ _ _,by rw[← HM.out];exact DownInv.start lq s⟩
  case round=>
   obtain ⟨i,o,rfl,hi,hbl,hrow,ho⟩:=hrel
   by_cases hlt:i<la.length - q
   ·have hlen:o.length=la.length - q:=ho.out.len.trans HM.out
    have hcell:=hrow.cell i
    rw[vals_get .u32 o i (by omega)]at hcell
    have hfree:=hrow.free i
    have hst:=ho.out.step hsb dq (by rw[HM.out];omega)
    have hp:=dig_getD dq (by omega) i
    have hp2:=dig_getD dq (by omega) (i+1)
    have C1:=Lib.hid (nat_at wr _ lq i (hcut.out.keep hbl) dq (by rw[HM.out];omega) (by omega))
    have c2:=nat_at wr _ lq (i+1) (hcut.out.keep hbl) dq (by rw[HM.out];omega) (by omega)
    rw[show (((i+1:Nat)):Int)=(i:Int)+1 from rfl]at c2
    have C2:=Lib.hid c2
    generalize lq.getD i 0=p at *
    generalize lq.getD (i+1) 0=p2 at *
    generalize o.getD i 0=z at *
    have HST:=Lib.hid hst
    have HP:=Lib.hid hp
    have HP2:=Lib.hid hp2
    clear hst hp hp2 c2 hlen
    go_wp2_with fail
    refine C1.out.mono ?_
    rintro e w' ⟨rfl,rfl⟩
    go_wp2_with fail
    refine C2.out.mono ?_
    rintro e w' ⟨rfl,rfl⟩
    go_wp2_with fail
    go_roundw
    case rel=>
     refine ⟨i+1,_,by go_num,by omega,hbl.setCell (Nat.le_refl _) _,?_,HST.out⟩
     rw[down_val p p2 s HP.out HP2.out,← vals_set]
     exact hrow.set _ _
    case measure=>simp[intOf];omega
   ·obtain rfl:i=la.length - q:=by omega
    have ho':=ho.out
    rw[← HM.out]at ho'
    have hd:=ho'.done dq
    rw[HV.out]at hd
    have hd':val 4294967296 o=a / 2 ^ k:=hd
    have hlen:o.length=la.length - q:=ho.out.len.trans HM.out
    have hu:U32s wr (.slice (some ⟨w.heap.size,0,none⟩) (la.length - q) (la.length - q)) o:=by
     have:=hrow.ints (l:=o) (la.length - q) (by omega)
     rwa [hlen]at this
    have CO:=Lib.hid (nat_of wr _ o hu ho.out.dg (by omega))
    have HD:=Lib.hid hd'
    clear hd hd' hlen ho'
    go_wp2_with fail
    refine CO.out.mono ?_
    rintro e w' ⟨z,rfl,hz,hbz⟩
    rw[HD.out]at hz
    go_wp2
    go_ret
    exact ⟨z,rfl,hz,below_seq hbl hbz⟩
end Go.Proofs.YtbdfhnelmojbpaaGreatDoor
end
section
namespace Go.Proofs.YtbdfhnelmojbpaaGreatDoor
open Go.RowKit Vic
theorem short_or (r p:Nat) (hr:r<4294967296) (hp:p<4294967296) :
 bits .or .u64 (IntKind.u64.wrap ((r:Int)*4294967296)) (IntKind.u64.wrap (p:Int))=((r*4294967296+p:Nat):Int):=by
 rw[wrap64_small p hp,show IntKind.u64.wrap ((r:Int)*4294967296)=((r*4294967296:Nat):Int) by rw[IntKind.wrap_u64];omega,or_half _ _ (Nat.mul_mod_left _ _) (by omega) hp]
def ShortPost (l:List Nat) (y:Nat) (w:World) (e:Ending) (w':World):Prop:=
 ∃ (b:Nat) (o:List Nat),e=.returned (.tuple #[.slice (some ⟨b,0,none⟩) l.length l.length,.int .u64 ((val 4294967296 l % y:Nat):Int)]) ∧
   U32s w' (.slice (some ⟨b,0,none⟩) l.length l.length) o∧dig 4294967296 o∧o.length=l.length∧val 4294967296 o=val 4294967296 l / y∧Below w.heap.size w w'
set_option maxRecDepth 100000 in
set_option maxHeartbeats 2000000 in
theorem nat_short (w:World) (A:Option Addr) (c:Nat) (l:List Nat) (y:Nat) (h:U32s w (.slice A l.length c) l) (hd:dig 4294967296 l) (hl:l.length≤1000000000000) (hy:0<y) (hy2:y≤4294967296) :
 Calls Tryz.prog 221 #[.slice A l.length c,.int .u64 y] w (ShortPost l y w):=by
 have hmk:∀ w,(Instr.makeSlice 289 (.int .i64 l.length) (.int .i64 l.length)).run Tryz.prog w=.ok (.slice (some ⟨w.heap.size,0,none⟩) l.length l.length) (w.alloc (.cells (vals .u32 (List.replicate l.length 0)) 291)):=fun w=>mk_u32 _ _ rfl (by omega) w
 have HY:=Lib.hid hy2
 have hy1:(1:Int)≤y:=by omega
 clear hy2
 go_enter Tryz.func221,Tryz.ntmps221
 go_wp2_with fail
 clear hmk
 go_loopw [7,8] (fun s t wr=>∃ (j r:Nat) (o:List Nat),s=.int .u64 r∧t=.int .i64 ((j:Int) - 1)∧j≤l.length∧Below w.heap.size w wr∧Row wr w.heap.size 291 (vals .u32 o)∧Hid (ShortInv 4294967296 l o y j r)) (fun _ t _=>(intOf t+1).toNat)
 case atStart=>exact ⟨l.length,0,_,rfl,rfl,by omega,(Below.refl _ _).alloc (Nat.le_refl _) _,Row.new _ _ _,ShortInv.start (by omega) l hy⟩
 case round=>
  obtain ⟨j,r,o,rfl,rfl,hj,hbl,hrow,hi⟩:=hrel
  rcases Nat.eq_zero_or_pos j with h0|h0
  ·subst h0
   go_wp2
   go_ret2
   obtain ⟨d1,d2⟩:=hi.out.done
   have hlen:=hi.out.len
   refine ⟨w.heap.size,o,by rw[← d2];rfl,?_,hi.out.dg,hlen,d1,hbl⟩
   have:=hrow.ints (l:=o) l.length (by omega)
   rwa [hlen]at this
  ·obtain ⟨k,rfl⟩:∃ k,j=k+1:=⟨j - 1,by omega⟩
   obtain ⟨b1,o1,rfl,hc1⟩:=(U32s.keep h hbl).at_ k (by omega)
   have hcell:=hrow.cell k
   rw[vals_get .u32 o k (by rw[hi.out.len];omega)]at hcell
   have hfree:=hrow.free k
   have hst:=hi.out.step (by omega) hd (by omega)
   have hp:=dig_getD hd (by omega) k
   have hr:r<4294967296:=by have:=hi.out.small;have:=HY.out;omega
   generalize l.getD k 0=p at *
   generalize o.getD k 0=z at *
   have e1:=short_or r p hr hp
   have e2:((r*4294967296+p:Nat):Int) / (y:Int)=(((r*4294967296+p) / y:Nat):Int):=(Int.natCast_ediv _ _).symm
   have e3:((r*4294967296+p:Nat):Int) % (y:Int)=(((r*4294967296+p) % y:Nat):Int):=(Int.natCast_emod _ _).symm
   generalize (r*4294967296+p) / y=q at *
   generalize (r*4294967296+p) % y=r' at *
   generalize r*4294967296+p=m at *
   have HST:=Lib.hid hst
   clear hst hp hr
   go_wp2_with fail
   go_roundw
   case rel=>
    refine ⟨k,r',o.set k q,by rw[e3],rfl,by omega,hbl.setCell (Nat.le_refl _) _,?_,HST.out.2⟩
    have hq:=HST.out.1
    rw[wrap64_small q hq,show ((q:Int) % 4294967296)=q by omega,← vals_set]
    exact hrow.set _ _
   case measure=>simp[intOf]
end Go.Proofs.YtbdfhnelmojbpaaGreatDoor
end
