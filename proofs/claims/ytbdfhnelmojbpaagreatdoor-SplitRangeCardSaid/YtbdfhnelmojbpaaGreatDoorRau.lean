/- Plain laws of the document's numbers: lists of digits, of which one is turned at a time. -/
import Derived.Test.YtbdfhnelmojbpaaGreatDoorRap
import Derived.Test.YtbdfhnelmojbpaaGreatDoorRar
import Derived.Test.YtbdfhnelmojbpaaGreatDoorProg
import Derived.Test.YtbdfhnelmojbpaaGreatDoorRat
import Derived.Deep.QuietTactic
import Derived.BigQuiet
import Derived.Deep.OwnRows
import Derived.Deep.DeepCutAuto
import Derived.Deep.CutBlock
set_option linter.unusedVariables false
set_option linter.unusedSimpArgs false
section
namespace Vic
open Go
theorem rval_set (B:Nat) (o:List Nat) (k d:Nat) (h:k<o.length):val B (o.set k d)+B ^ k*o.getD k 0=val B o+B ^ k*d:=by
 induction o generalizing k with
 | nil=>simp at h
 | cons x o ih=>
   cases k with
   | zero=>simp[val];omega
   | succ k=>
     have h1:=ih k (by simpa using h)
     have e:=congrArg (B * ·) h1
     simp only[Nat.mul_add]at e
     simp only[List.set_cons_succ,val_cons,List.getD_cons_succ,Nat.pow_succ]
     have e1:∀ y,B ^ k*B*y=B*(B ^ k*y):=fun y=>by rw[Nat.mul_comm (B ^ k) B,Nat.mul_assoc]
     rw[e1,e1]
     omega
theorem set_self (o:List Nat) (k:Nat) (h:k<o.length):o.set k (o.getD k 0)=o:=by
 apply List.ext_getElem?
 intro j
 rw[List.getElem?_set]
 by_cases e:k=j
 ·subst e;rw[if_pos rfl,if_pos h,List.getD_eq_getElem?_getD,List.getElem?_eq_getElem h];rfl
 ·rw[if_neg e]
theorem set_set_ (o:List Nat) (k c d:Nat):(o.set k c).set k d=o.set k d:=by simp
theorem rgetD_zeros (n j:Nat):(List.replicate n 0).getD j 0=0:=by
 rw[List.getD_eq_getElem?_getD,List.getElem?_replicate];split<;>rfl
theorem rval_zeros (B n:Nat):val B (List.replicate n 0)=0:=by
 induction n with
 | zero=>rfl
 | succ n ih=>rw[List.replicate_succ,val_cons,ih];simp
theorem take_snoc_getD (l:List Nat) (k:Nat) (h:k<l.length):l.take (k+1)=l.take k ++ [l.getD k 0]:=by
 rw[List.take_add_one,List.getD_eq_getElem?_getD,List.getElem?_eq_getElem h];rfl
theorem dig_of_getD {B:Nat}{l:List Nat}(h:∀ j,j<l.length→l.getD j 0<B):dig B l:=fun d hd=>by
 obtain ⟨j,hj,rfl⟩:=List.getElem_of_mem hd
 have:=h j hj
 rwa [List.getD_eq_getElem?_getD,List.getElem?_eq_getElem hj]at this
structure RAdd (B:Nat) (a b o:List Nat) (n k:Nat):Prop where
 len:o.length=n
 low:∀ j,j<k→o.getD j 0<B
 high:∀ j,k<j→o.getD j 0=0
 one:o.getD k 0≤1
 v:val B o=val B (a.take k)+val B (b.take k)
theorem RAdd.start (B:Nat) (a b:List Nat) (n:Nat):RAdd B a b (List.replicate n 0) n 0:=
 ⟨by simp,fun j h=>by omega,fun j _=>rgetD_zeros n j,by rw[rgetD_zeros];omega,by rw[rval_zeros];simp[val]⟩
theorem RAdd.plain {B:Nat}{a b o:List Nat}{n k:Nat}(h:RAdd B a b o n k) (hk:k<n) (ht:o.getD k 0+a.getD k 0+b.getD k 0<B) :
 RAdd B a b (o.set k (o.getD k 0+a.getD k 0+b.getD k 0)) n (k+1):=by
 have hl:=h.len
 refine ⟨by simp[hl],fun j hj=>?_,fun j hj=>?_,?_,?_⟩
 ·by_cases e:j=k
  ·subst e;rw[set_getD_same _ _ _ (by omega)];exact ht
  ·rw[set_getD_other _ _ _ _ e];exact h.low j (by omega)
 ·rw[set_getD_other _ _ _ _ (by omega)];exact h.high j (by omega)
 ·rw[set_getD_other _ _ _ _ (by omega),h.high (k+1) (by omega)];omega
 ·have h1:=rval_set B o k (o.getD k 0+a.getD k 0+b.getD k 0) (by omega)
  rw[val_take_step,val_take_step]
  have h2:=h.v
  simp only[Nat.mul_add]at h1
  omega
theorem RAdd.carry {B:Nat}{a b o:List Nat}{n k:Nat}(h:RAdd B a b o n k) (hB:1<B) (ha:dig B a) (hb:dig B b) (hn:max a.length b.length+1=n) (hk:k<n) (ht:B≤o.getD k 0+a.getD k 0+b.getD k 0) :
 k+1<n∧o.getD (k+1) 0=0∧RAdd B a b ((o.set k (o.getD k 0+a.getD k 0+b.getD k 0 - B)).set (k+1) 1) n (k+1):=by
 have hl:=h.len
 have h1:=h.one
 have b1:=dig_getD ha (by omega) k
 have b2:=dig_getD hb (by omega) k
 have hk1:k+1<n:=by
  rcases Nat.lt_or_ge (k+1) n with h5|h5
  ·exact h5
  ·rw[getD_big a k (by omega),getD_big b k (by omega)]at ht
   omega
 refine ⟨hk1,h.high _ (by omega),by simp[hl],fun j hj=>?_,fun j hj=>?_,?_,?_⟩
 ·rw[set_getD_other _ _ _ _ (by omega)]
  by_cases e:j=k
  ·subst e;rw[set_getD_same _ _ _ (by omega)];omega
  ·rw[set_getD_other _ _ _ _ e];exact h.low j (by omega)
 ·rw[set_getD_other _ _ _ _ (by omega),set_getD_other _ _ _ _ (by omega)];exact h.high j (by omega)
 ·rw[set_getD_same _ _ _ (by simp;omega)];omega
 ·have h3:=rval_set B (o.set k (o.getD k 0+a.getD k 0+b.getD k 0 - B)) (k+1) 1 (by simp;omega)
  rw[set_getD_other _ _ _ _ (by omega),h.high (k+1) (by omega)]at h3
  have h4:=rval_set B o k (o.getD k 0+a.getD k 0+b.getD k 0 - B) (by omega)
  have h5:B ^ k*(o.getD k 0+a.getD k 0+b.getD k 0 - B)+B ^ (k+1)*1=B ^ k*(o.getD k 0)+B ^ k*a.getD k 0+B ^ k*b.getD k 0:=by
   rw[← Nat.mul_add,← Nat.mul_add,Nat.mul_one,Nat.pow_succ,← Nat.mul_add]
   congr 1;omega
  rw[val_take_step,val_take_step]
  have h2:=h.v
  omega
theorem RAdd.done {B:Nat}{a b o:List Nat}{n:Nat}(h:RAdd B a b o n n) (hn:max a.length b.length+1=n):dig B o∧val B o=val B a+val B b:=by
 refine ⟨dig_of_getD fun j hj=>h.low j (by rw[← h.len];exact hj),?_⟩
 rw[h.v,val_take_all _ _ _ (by omega),val_take_all _ _ _ (by omega)]
structure RMul (B:Nat) (a b o:List Nat) (i k:Nat):Prop where
 len:o.length=a.length+b.length+1
 here:k<b.length→o.getD (i+k) 0≤2*B
 rest:∀ j,(k<b.length→j≠i+k)→o.getD j 0≤B
 zero:k<b.length→∀ j,i+b.length≤j→o.getD j 0=0
 zero2:∀ j,i+b.length<j→o.getD j 0=0
 all:k=0→∀ j,o.getD j 0≤B
 v:val B o=val B (a.take i)*val B b+B ^ i*a.getD i 0*val B (b.take k)
theorem RMul.start (B:Nat) (a b:List Nat):RMul B a b (List.replicate (a.length+b.length+1) 0) 0 0:=
 ⟨by simp,fun _=>by rw[rgetD_zeros];omega,fun j _=>by rw[rgetD_zeros];omega,fun _ j _=>rgetD_zeros _ j,fun j _=>rgetD_zeros _ j,fun _ j=>by rw[rgetD_zeros];omega,by rw[rval_zeros];simp[val]⟩
theorem mul_carry {B x p q:Nat}(hB:1<B) (hx:x≤2*B) (hp:p<B) (hq:q<B):(x+p*q) / B≤B:=by
 have h1:p*q≤(B - 1)*(B - 1):=Nat.mul_le_mul (by omega) (by omega)
 have h2:(B - 1)*(B - 1)+2*B=B*B+1:=by
  obtain ⟨c,rfl⟩:∃ c,B=c+1:=⟨B - 1,by omega⟩
  simp only[Nat.add_sub_cancel,Nat.mul_add,Nat.add_mul];omega
 have h3:x+p*q<(B+1)*B:=by rw[Nat.add_mul];omega
 have:=(Nat.div_lt_iff_lt_mul (by omega:0<B)).2 h3
 omega
theorem RMul.step {B:Nat}{a b o:List Nat}{i k:Nat}(h:RMul B a b o i k) (hB:1<B) (ha:dig B a) (hb:dig B b) (hi:i<a.length) (hk:k<b.length) :
 RMul B a b ((o.set (i+k) ((o.getD (i+k) 0+a.getD i 0*b.getD k 0) % B)).set (i+k+1) (o.getD (i+k+1) 0+(o.getD (i+k) 0+a.getD i 0*b.getD k 0) / B)) i (k+1):=by
 have hl:=h.len
 have b1:=dig_getD ha (by omega) i
 have b2:=dig_getD hb (by omega) k
 have hc:=mul_carry hB (h.here hk) b1 b2
 have hr:=h.rest (i+k+1) (fun _=>by omega)
 have hm:(o.getD (i+k) 0+a.getD i 0*b.getD k 0) % B<B:=Nat.mod_lt _ (by omega)
 have hdm:=Nat.div_add_mod (o.getD (i+k) 0+a.getD i 0*b.getD k 0) B
 have hv:=h.v
 generalize hC:(o.getD (i+k) 0+a.getD i 0*b.getD k 0) / B=C at *
 generalize hM:(o.getD (i+k) 0+a.getD i 0*b.getD k 0) % B=Mo at *
 have g1:∀ j,j≠i+k→j≠i+k+1→((o.set (i+k) Mo).set (i+k+1) (o.getD (i+k+1) 0+C)).getD j 0=o.getD j 0:=fun j e1 e2=>by
  rw[set_getD_other _ _ _ _ e2,set_getD_other _ _ _ _ e1]
 have g2:((o.set (i+k) Mo).set (i+k+1) (o.getD (i+k+1) 0+C)).getD (i+k+1) 0=o.getD (i+k+1) 0+C:=set_getD_same _ _ _ (by simp;omega)
 have g3:((o.set (i+k) Mo).set (i+k+1) (o.getD (i+k+1) 0+C)).getD (i+k) 0=Mo:=by
  rw[set_getD_other _ _ _ _ (by omega),set_getD_same _ _ _ (by omega)]
 refine ⟨by simp[hl],fun hk1=>?_,fun j hj=>?_,fun hk1 j hj=>?_,fun j hj=>?_,?_,?_⟩
 ·rw[show i+(k+1)=i+k+1 by omega,g2];omega
 ·by_cases e1:j=i+k
  ·subst e1;rw[g3];omega
  ·by_cases e2:j=i+k+1
   ·subst e2
    rw[g2]
    have hkb:k+1=b.length:=by
     rcases Nat.lt_or_ge (k+1) b.length with h5|h5
     ·exact absurd (by omega) (hj h5)
     ·omega
    rw[h.zero hk (i+k+1) (by omega)];omega
   ·rw[g1 j e1 e2];exact h.rest j (fun _=>e1)
 ·rw[g1 j (by omega) (by omega)];exact h.zero hk j hj
 ·rw[g1 j (by omega) (by omega)];exact h.zero2 j hj
 ·intro e;omega
 ·have h3:=rval_set B (o.set (i+k) Mo) (i+k+1) (o.getD (i+k+1) 0+C) (by simp;omega)
  rw[set_getD_other _ _ _ _ (by omega)]at h3
  have h4:=rval_set B o (i+k) Mo (by omega)
  have h5:B ^ (i+k+1)*(o.getD (i+k+1) 0+C)+B ^ (i+k)*Mo=B ^ (i+k+1)*o.getD (i+k+1) 0+B ^ (i+k)*o.getD (i+k) 0+B ^ i*a.getD i 0*(B ^ k*b.getD k 0):=by
   have e1:B ^ (i+k+1)*C=B ^ (i+k)*(B*C):=by rw[Nat.pow_succ,Nat.mul_assoc]
   have e2:B ^ i*a.getD i 0*(B ^ k*b.getD k 0)=B ^ (i+k)*(a.getD i 0*b.getD k 0):=by
    rw[Nat.pow_add];simp only[Nat.mul_assoc,Nat.mul_left_comm]
   rw[Nat.mul_add,e1,e2,Nat.add_assoc,← Nat.mul_add,hdm,Nat.mul_add,← Nat.add_assoc]
  rw[val_take_step,Nat.mul_add]
  omega
theorem RMul.next {B:Nat}{a b o:List Nat}{i:Nat}(h:RMul B a b o i b.length) (hi:i<a.length):RMul B a b o (i+1) 0:=
 ⟨h.len,fun hk=>Nat.le_trans (h.rest _ (fun hk=>by omega)) (by omega),fun j _=>h.rest j (fun hk=>by omega),fun _ j hj=>h.zero2 j (by omega),fun j hj=>h.zero2 j (by omega),fun _ j=>h.rest j (fun hk=>by omega),by
  rw[h.v,val_take_step,val_take_all B b _ (Nat.le_refl _),Nat.add_mul]
  simp[val]⟩
structure RNorm (B n:Nat) (o:List Nat) (m k:Nat):Prop where
 len:o.length=n
 low:∀ j,j<k→o.getD j 0<B
 here:o.getD k 0≤2*B
 high:∀ j,k<j→o.getD j 0≤B
 v:val B o=m
theorem RNorm.step {B n:Nat}{o:List Nat}{m k:Nat}(h:RNorm B n o m k) (hB:2<B) (hk:k+1<n) :
 RNorm B n ((o.set (k+1) (o.getD (k+1) 0+o.getD k 0 / B)).set k (o.getD k 0 % B)) m (k+1):=by
 have hl:=h.len
 have hh:=h.here
 have h1:=h.high (k+1) (by omega)
 have hm:o.getD k 0 % B<B:=Nat.mod_lt _ (by omega)
 have hdm:=Nat.div_add_mod (o.getD k 0) B
 have hc:o.getD k 0 / B≤2:=by
  have:=(Nat.div_lt_iff_lt_mul (by omega:0<B)).2 (show o.getD k 0<3*B by omega)
  omega
 generalize hC:o.getD k 0 / B=C at *
 generalize hM:o.getD k 0 % B=Mo at *
 refine ⟨by simp[hl],fun j hj=>?_,?_,fun j hj=>?_,?_⟩
 ·by_cases e:j=k
  ·subst e;rw[set_getD_same _ _ _ (by simp;omega)];exact hm
  ·rw[set_getD_other _ _ _ _ e,set_getD_other _ _ _ _ (by omega)];exact h.low j (by omega)
 ·rw[set_getD_other _ _ _ _ (by omega),set_getD_same _ _ _ (by omega)];omega
 ·rw[set_getD_other _ _ _ _ (by omega),set_getD_other _ _ _ _ (by omega)];exact h.high j (by omega)
 ·have h3:=rval_set B (o.set (k+1) (o.getD (k+1) 0+C)) k Mo (by simp;omega)
  rw[set_getD_other _ _ _ _ (by omega)]at h3
  have h4:=rval_set B o (k+1) (o.getD (k+1) 0+C) (by omega)
  have e1:B ^ (k+1)*C=B ^ k*(B*C):=by rw[Nat.pow_succ,Nat.mul_assoc]
  have e2:B ^ k*(B*C)+B ^ k*Mo=B ^ k*o.getD k 0:=by rw[← Nat.mul_add,hdm]
  have h2:=h.v
  rw[Nat.mul_add]at h4
  omega
theorem RNorm.done {B n:Nat}{o:List Nat}{m k:Nat}(h:RNorm B n o m k) (hB:1<B) (hk:k+1=n) (hm:m<B ^ k):dig B o∧val B o=m:=by
 refine ⟨dig_of_getD fun j hj=>?_,h.v⟩
 have hl:=h.len
 by_cases e:j=k
 ·subst e
  have h1:=val_split B o j
  rw[h.v]at h1
  have h2:=val_drop_step B o j
  rw[show o.drop (j+1) = []from List.drop_of_length_le (by omega)]at h2
  simp only[val_nil,Nat.mul_zero,Nat.add_zero]at h2
  rw[h2]at h1
  have h3:B ^ j*o.getD j 0<B ^ j:=by omega
  rcases Nat.eq_zero_or_pos (o.getD j 0)with h4|h4
  ·omega
  ·have:=Nat.le_mul_of_pos_right (B ^ j) h4
   omega
 ·exact h.low j (by omega)
theorem RMul.norm {B:Nat}{a b o:List Nat}(h:RMul B a b o a.length 0):RNorm B (a.length+b.length+1) o (val B a*val B b) 0:=
 ⟨h.len,fun j hj=>by omega,Nat.le_trans (h.all rfl 0) (by omega),fun j _=>h.all rfl j,by
  rw[h.v,val_take_all B a _ (Nat.le_refl _)];simp[val]⟩
theorem RMul.top {B:Nat}{a b:List Nat}(hB:0<B) (ha:dig B a) (hb:dig B b):val B a*val B b<B ^ (a.length+b.length):=by
 rw[Nat.pow_add]
 exact Nat.mul_lt_mul'' (val_lt hB ha) (val_lt hB hb)
def valI (B:Nat):List Int→Int
 | []=>0
 | d :: ds=>d+B*valI B ds
theorem valI_set (B:Nat) (o:List Int) (k:Nat) (d:Int) (h:k<o.length):valI B (o.set k d)+(B ^ k:Nat)*o.getD k 0=valI B o+(B ^ k:Nat)*d:=by
 induction o generalizing k with
 | nil=>simp at h
 | cons x o ih=>
   cases k with
   | zero=>simp[valI];omega
   | succ k=>
     have h1:=ih k (by simpa using h)
     have e:=congrArg ((B:Int) * ·) h1
     simp only[Int.mul_add]at e
     simp only[List.set_cons_succ,valI,List.getD_cons_succ,Nat.pow_succ,Int.natCast_mul]
     have e1:∀ y:Int,((B ^ k:Nat):Int)*B*y=B*((B ^ k:Nat)*y):=fun y=>by rw[Int.mul_comm ((B ^ k:Nat):Int) B,Int.mul_assoc]
     rw[e1,e1]
     omega
theorem valI_nat (B:Nat) (l:List Nat):valI B (l.map fun (d:Nat)=>(d:Int))=val B l:=by
 induction l with
 | nil=>rfl
 | cons d l ih=>simp only[List.map_cons,valI,val_cons,ih];simp
theorem isetD_same (o:List Int) (k:Nat) (d:Int) (h:k<o.length):(o.set k d).getD k 0=d:=by
 simp[List.getD_eq_getElem?_getD,h]
theorem isetD_other (o:List Int) (k j:Nat) (d:Int) (h:j≠k):(o.set k d).getD j 0=o.getD j 0:=by
 simp[List.getD_eq_getElem?_getD,List.getElem?_set_ne (Ne.symm h)]
structure RSub (B:Nat) (a b:List Nat) (o:List Int) (k:Nat):Prop where
 len:o.length=a.length
 low:∀ j,j<k→0≤o.getD j 0∧o.getD j 0<B
 here:o.getD k 0=a.getD k 0∨o.getD k 0=(a.getD k 0:Int) - 1
 high:∀ j,k<j→o.getD j 0=a.getD j 0
 v:valI B o=(val B a:Int) - (val B (b.take k):Nat)
theorem map_getD_int (a:List Nat) (j:Nat):(a.map fun (d:Nat)=>(d:Int)).getD j 0=(a.getD j 0:Nat):=by
 simp only[List.getD_eq_getElem?_getD,List.getElem?_map]
 cases a[j]?<;>rfl
theorem RSub.start (B:Nat) (a b:List Nat):RSub B a b (a.map fun (d:Nat)=>(d:Int)) 0:=
 ⟨by simp,fun j h=>by omega,.inl (map_getD_int a 0),fun j _=>map_getD_int a j,by rw[valI_nat];simp[val]⟩
theorem RSub.plain {B:Nat}{a b:List Nat}{o:List Int}{k:Nat}(h:RSub B a b o k) (ha:dig B a) (hB:0<B) (hk:k<a.length) (ht:0≤o.getD k 0 - (b.getD k 0:Nat)) :
 RSub B a b (o.set k (o.getD k 0 - (b.getD k 0:Nat))) (k+1):=by
 have hl:=h.len
 have b1:=dig_getD ha hB k
 refine ⟨by simp[hl],fun j hj=>?_,?_,fun j hj=>?_,?_⟩
 ·by_cases e:j=k
  ·subst e;rw[isetD_same _ _ _ (by omega)]
   refine ⟨ht,?_⟩
   rcases h.here with h1|h1<;>omega
  ·rw[isetD_other _ _ _ _ e];exact h.low j (by omega)
 ·rw[isetD_other _ _ _ _ (by omega)];exact .inl (h.high _ (by omega))
 ·rw[isetD_other _ _ _ _ (by omega)];exact h.high j (by omega)
 ·have h1:=valI_set B o k (o.getD k 0 - (b.getD k 0:Nat)) (by omega)
  have h2:=h.v
  rw[val_take_step,Int.natCast_add,Int.natCast_mul]
  rw[Int.mul_sub]at h1
  omega
theorem valI_low {B:Nat}(hB:0<B):∀ (o:List Int),(∀ j,j<o.length→0≤o.getD j 0∧o.getD j 0<B)→0≤valI B o∧valI B o<(B ^ o.length:Nat):=by
 intro o
 induction o with
 | nil=>intro _;simp[valI]
 | cons x o ih=>
   intro h
   obtain ⟨h1,h2⟩:=ih fun j hj=>by have:=h (j+1) (by simpa using hj);simpa using this
   have h0:=h 0 (by simp)
   simp only[List.getD_cons_zero]at h0
   simp only[valI,List.length_cons,Nat.pow_succ,Int.natCast_mul]
   have h3:(0:Int)≤B*valI B o:=Int.mul_nonneg (by omega) h1
   have h4:(B:Int)*(valI B o+1)≤B*(B ^ o.length:Nat):=Int.mul_le_mul_of_nonneg_left (by omega) (by omega)
   rw[Int.mul_add]at h4
   rw[Int.mul_comm _ (B:Int)]
   omega
theorem valI_snoc (B:Nat) (o:List Int) (d:Int):valI B (o ++ [d])=valI B o+(B ^ o.length:Nat)*d:=by
 induction o with
 | nil=>simp[valI]
 | cons x o ih=>
   simp only[List.cons_append,valI,ih,List.length_cons,Nat.pow_succ,Int.natCast_mul]
   rw[Int.mul_add,← Int.mul_assoc,Int.mul_comm (B:Int) ((B ^ o.length:Nat):Int)]
   omega
theorem RSub.back {B:Nat}{a b:List Nat}{o:List Int}{k:Nat}(h:RSub B a b o k) (hB:1<B) (ha:dig B a) (hb:dig B b) (hle:val B b≤val B a) (hbl:b.length≤a.length) (hk:k<a.length) (ht:o.getD k 0 - (b.getD k 0:Nat)<0) :
 k+1<a.length∧o.getD (k+1) 0=a.getD (k+1) 0∧RSub B a b ((o.set k (o.getD k 0 - (b.getD k 0:Nat)+B)).set (k+1) (a.getD (k+1) 0 - 1)) (k+1):=by
 have hl:=h.len
 have b1:=dig_getD ha (by omega) k
 have b2:=dig_getD hb (by omega) k
 have h1:=valI_set B o k (o.getD k 0 - (b.getD k 0:Nat)) (by omega)
 have h2:=h.v
 rw[Int.mul_sub]at h1
 have h6:valI B (o.set k (o.getD k 0 - (b.getD k 0:Nat)))=(val B a:Int) - (val B (b.take (k+1)):Nat):=by
  rw[val_take_step,Int.natCast_add,Int.natCast_mul]
  omega
 have hk1:k+1<a.length:=by
  rcases Nat.lt_or_ge (k+1) a.length with h5|h5
  ·exact h5
  ·exfalso
   have hke:k+1=a.length:=by omega
   rw[val_take_all B b (k+1) (by omega)]at h6
   have hsp:o.set k (o.getD k 0 - (b.getD k 0:Nat))=o.take k ++ [o.getD k 0 - (b.getD k 0:Nat)]:=by
    rw[List.set_eq_take_append_cons_drop,if_pos (by omega),List.drop_of_length_le (by omega)]
   have hlow:=valI_low (B:=B) (by omega) (o.take k) (fun j hj=>by
    have hj':j<k:=by rw[List.length_take]at hj;omega
    have:=h.low j hj'
    rwa [List.getD_eq_getElem?_getD,List.getElem?_take,if_pos hj',← List.getD_eq_getElem?_getD])
   rw[hsp,valI_snoc]at h6
   have hlt:(o.take k).length=k:=by rw[List.length_take];omega
   rw[hlt]at h6 hlow
   have h7:((B ^ k:Nat):Int)*(o.getD k 0 - (b.getD k 0:Nat))≤((B ^ k:Nat):Int)*(-1):=Int.mul_le_mul_of_nonneg_left (by omega) (by omega)
   omega
 refine ⟨hk1,h.high _ (by omega),by simp[hl],fun j hj=>?_,?_,fun j hj=>?_,?_⟩
 ·rw[isetD_other _ _ _ _ (by omega)]
  by_cases e:j=k
  ·subst e;rw[isetD_same _ _ _ (by omega)]
   rcases h.here with h5|h5<;>omega
  ·rw[isetD_other _ _ _ _ e];exact h.low j (by omega)
 ·rw[isetD_same _ _ _ (by simp;omega)];exact .inr rfl
 ·rw[isetD_other _ _ _ _ (by omega),isetD_other _ _ _ _ (by omega)];exact h.high j (by omega)
 ·have h3:=valI_set B (o.set k (o.getD k 0 - (b.getD k 0:Nat)+B)) (k+1) (a.getD (k+1) 0 - 1) (by simp;omega)
  rw[isetD_other _ _ _ _ (by omega),h.high (k+1) (by omega)]at h3
  have h4:=valI_set B o k (o.getD k 0 - (b.getD k 0:Nat)+B) (by omega)
  rw[val_take_step,Int.natCast_add,Int.natCast_mul]
  rw[Nat.pow_succ,Int.natCast_mul]at h3
  simp only[Int.mul_add,Int.mul_sub,Int.mul_one]at h3 h4
  omega
theorem RSub.done {B:Nat}{a b:List Nat}{o:List Int}(h:RSub B a b o a.length) (hle:val B b≤val B a) (hbl:b.length≤a.length) :
 ∃ l:List Nat,o=l.map (fun (d:Nat)=>(d:Int))∧dig B l∧val B l=val B a - val B b:=by
 have hl:=h.len
 have hg:∀ j,j<o.length→∃ d:Nat,o[j]?=some (d:Int)∧d<B:=fun j hj=>by
  have:=h.low j (by omega)
  rw[List.getD_eq_getElem?_getD,List.getElem?_eq_getElem hj,Option.getD_some]at this
  exact ⟨(o[j]).toNat,by rw[List.getElem?_eq_getElem hj];congr 1;omega,by omega⟩
 refine ⟨o.map Int.toNat,?_,?_,?_⟩
 ·apply List.ext_getElem?
  intro j
  simp only[List.map_map,List.getElem?_map]
  rcases Nat.lt_or_ge j o.length with hj|hj
  ·obtain ⟨d,h1,_⟩:=hg j hj
   rw[h1];simp
  ·rw[List.getElem?_eq_none hj];rfl
 ·intro d hd
  obtain ⟨x,hx,rfl⟩:=List.mem_map.1 hd
  obtain ⟨j,hj⟩:=List.getElem?_of_mem hx
  have hj':=(List.getElem?_eq_some_iff.1 hj).1
  obtain ⟨e,h1,h2⟩:=hg j hj'
  rw[hj]at h1
  injection h1 with h1
  subst h1
  simpa using h2
 ·have e:(o.map Int.toNat).map (fun (d:Nat)=>(d:Int))=o:=by
   apply List.ext_getElem?
   intro j
   simp only[List.map_map,List.getElem?_map]
   rcases Nat.lt_or_ge j o.length with hj|hj
   ·obtain ⟨d,h1,_⟩:=hg j hj
    rw[h1];simp
   ·rw[List.getElem?_eq_none hj];rfl
  have h1:=valI_nat B (o.map Int.toNat)
  rw[e,h.v,val_take_all B b _ hbl]at h1
  omega
structure RDiv (B b:Nat) (a q:List Nat) (i r:Nat):Prop where
 len:q.length=a.length
 dg:dig B q
 low:∀ j,j<i→q.getD j 0=0
 lt:r<b
 v:val B (a.drop i)=b*val B (q.drop i)+r
theorem RDiv.start {B b:Nat}(hB:0<B) (hb:0<b) (a:List Nat):RDiv B b a (List.replicate a.length 0) a.length 0:=
 ⟨by simp,dig_replicate hB _,fun j _=>rgetD_zeros _ j,hb,by
  rw[List.drop_of_length_le (Nat.le_refl _),List.drop_of_length_le (by simp)];simp[val]⟩
theorem RDiv.step {B b:Nat}{a q:List Nat}{i r:Nat}(h:RDiv B b a q (i+1) r) (hB:0<B) (ha:dig B a) (hi:i<a.length) :
 (a.getD i 0+B*r) / b<B∧RDiv B b a (q.set i ((a.getD i 0+B*r) / b)) i ((a.getD i 0+B*r) % b):=by
 have hl:=h.len
 have hb:0<b:=Nat.lt_of_le_of_lt (Nat.zero_le _) h.lt
 have b1:=dig_getD ha hB i
 have hr:=h.lt
 have hlt:(a.getD i 0+B*r) / b<B:=by
  rw[Nat.div_lt_iff_lt_mul hb]
  have:B*(r+1)≤B*b:=Nat.mul_le_mul_left _ hr
  rw[Nat.mul_add]at this
  omega
 refine ⟨hlt,by simp[hl],dig_set h.dg hlt _,fun j hj=>?_,Nat.mod_lt _ hb,?_⟩
 ·rw[set_getD_other _ _ _ _ (by omega)];exact h.low j (by omega)
 ·rw[val_drop_step B a i,h.v,val_drop_step B (q.set i _) i,set_getD_same _ _ _ (by omega)]
  have e:(q.set i ((a.getD i 0+B*r) / b)).drop (i+1)=q.drop (i+1):=by
   rw[List.drop_set];simp
  rw[e]
  have:=Nat.div_add_mod (a.getD i 0+B*r) b
  rw[Nat.mul_add,Nat.mul_add,Nat.mul_left_comm b B]
  omega
theorem RDiv.done {B b:Nat}{a q:List Nat}{r:Nat}(h:RDiv B b a q 0 r):val B q=val B a / b∧r=val B a % b:=by
 have hv:=h.v
 simp only[List.drop_zero]at hv
 have hb:0<b:=Nat.lt_of_le_of_lt (Nat.zero_le _) h.lt
 rw[hv]
 constructor
 ·rw[Nat.mul_add_div hb,Nat.div_eq_of_lt h.lt];rfl
 ·rw[Nat.mul_add_mod,Nat.mod_eq_of_lt h.lt]
def Half (b r low high:Nat):Prop:=low*b≤r∧r<high*b∧1≤low∧high≤10000
theorem Half.done {b r low high:Nat}(h:Half b r low high) (hb:0<b) (h1:¬ 1<high - low):low=r / b:=by
 obtain ⟨h2,h3,_,_⟩:=h
 have h4:=(Nat.le_div_iff_mul_le hb).2 h2
 have h5:=(Nat.div_lt_iff_lt_mul hb).2 h3
 omega
structure RGet (l:List UInt8) (m:Nat) (n:List Nat) (w d:Nat):Prop where
 le:m≤l.length
 ok:∀ c∈l.drop m,isDig c=true
 dg:dig 10000 n
 wd:w=1∨w=10∨w=100∨w=1000
 dw:d<w
 nl:n.length+m≤l.length
 v:val 10000 n+10000 ^ n.length*d=numOf 0 (l.drop m)
 p:m≠0→10000 ^ n.length*w=10 ^ (l.length - m)
theorem RGet.start (l:List UInt8):RGet l l.length [] 1 0:=
 ⟨Nat.le_refl _,by simp,dig_nil _,.inl rfl,by omega,by simp,by simp[val,numOf_nil],fun _=>by simp⟩
theorem RGet.value {l:List UInt8}{m:Nat}{n:List Nat}{w d:Nat}(h:RGet l (m+1) n w d) {c:UInt8}(hc:l[m]?=some c) :
 l.drop m=c :: l.drop (m+1)∧numOf 0 (l.drop m)=val 10000 n+10000 ^ n.length*(d+(c.toNat - 48)*w):=by
 have hm:=(List.getElem?_eq_some_iff.1 hc).1
 have e:l.drop m=c :: l.drop (m+1):=by
  rw[List.drop_eq_getElem_cons hm]
  congr 1
  rw[List.getElem?_eq_getElem hm]at hc
  injection hc
 refine ⟨e,?_⟩
 rw[e,numOf_cons,numOf_acc,← h.v,List.length_drop,← h.p (by omega)]
 rw[Nat.zero_mul,Nat.zero_add,Nat.mul_add,Nat.mul_left_comm (10000 ^ n.length)]
 omega
theorem RGet.bound {l:List UInt8}{m:Nat}{n:List Nat}{w d:Nat}(h:RGet l (m+1) n w d) {c:UInt8}(hd:isDig c=true):d+(c.toNat - 48)*w<10*w:=by
 have h1:=isDig_iff.1 hd
 have h2:=h.dw
 have h3:(c.toNat - 48)*w≤9*w:=Nat.mul_le_mul_right _ (by omega)
 omega
theorem RGet.more {l:List UInt8}{m:Nat}{n:List Nat}{w d:Nat}(h:RGet l (m+1) n w d) {c:UInt8}(hc:l[m]?=some c) (hd:isDig c=true) (hw:w*10≠10000) (hm:m≠0) :
 RGet l m n (w*10) (d+(c.toNat - 48)*w):=by
 obtain ⟨e,hv⟩:=h.value hc
 have hb:=h.bound hd
 have hl:=h.le
 refine ⟨by omega,fun x hx=>?_,h.dg,?_,by omega,by have:=h.nl;omega,hv.symm,fun _=>?_⟩
 ·rw[e]at hx
  rcases List.mem_cons.1 hx with rfl|hx
  ·exact hd
  ·exact h.ok x hx
 ·rcases h.wd with h1|h1|h1|h1<;>omega
 ·rw[← Nat.mul_assoc,h.p (by omega),show l.length - m=l.length - (m+1)+1 by omega,Nat.pow_succ]
theorem RGet.put {l:List UInt8}{m:Nat}{n:List Nat}{w d:Nat}(h:RGet l (m+1) n w d) {c:UInt8}(hc:l[m]?=some c) (hd:isDig c=true) (hw:w*10=10000∨m=0) :
 RGet l m (n ++ [d+(c.toNat - 48)*w]) 1 0:=by
 obtain ⟨e,hv⟩:=h.value hc
 have hb:=h.bound hd
 have hl:=h.le
 refine ⟨by omega,fun x hx=>?_,dig_append.2 ⟨h.dg,dig_cons.2 ⟨?_,dig_nil _⟩⟩,.inl rfl,by omega,by have:=h.nl;simp;omega,?_,fun hm=>?_⟩
 ·rw[e]at hx
  rcases List.mem_cons.1 hx with rfl|hx
  ·exact hd
  ·exact h.ok x hx
 ·rcases h.wd with h1|h1|h1|h1<;>omega
 ·rw[val_snoc,hv,Nat.mul_zero,Nat.add_zero]
 ·rw[List.length_append,show ([d+(c.toNat - 48)*w]:List Nat).length=1 from rfl,Nat.pow_add,Nat.pow_one,Nat.mul_one]
  have h1:=h.p (by omega)
  have h2:w*10=10000:=by rcases hw with h2|h2<;>omega
  rw[show l.length - m=l.length - (m+1)+1 by omega,Nat.pow_succ,← h1,Nat.mul_assoc,h2]
theorem RGet.done {l:List UInt8}{n:List Nat}{w d:Nat}(h:RGet l 0 n w d) (hd:d=0):(∀ c∈l,isDig c=true)∧val 10000 n=numOf 0 l:=by
 have h1:=h.ok;have h2:=h.v
 simp only[List.drop_zero,hd,Nat.mul_zero,Nat.add_zero]at h1 h2
 exact ⟨h1,h2⟩
theorem pad_front (k r:Nat):pad (k+1) r=UInt8.ofNat (48+r / 10 ^ k % 10) :: pad k r:=by
 induction k generalizing r with
 | zero=>simp[pad]
 | succ k ih=>
   have e:pad (k+1+1) r=pad (k+1) (r / 10) ++ [UInt8.ofNat (48+r % 10)]:=rfl
   rw[e,ih (r / 10),Nat.div_div_eq_div_mul,Nat.pow_succ,Nat.mul_comm (10 ^ k) 10]
   rfl
def txt (l:List Nat):List UInt8:=l.foldl (fun s x=>pad 4 x ++ s) []
theorem txt_nil:txt [] = []:=rfl
theorem txt_snoc (l:List Nat) (x:Nat):txt (l ++ [x])=pad 4 x ++ txt l:=by unfold txt;rw[List.foldl_append];rfl
theorem txt_take (l:List Nat) (k:Nat) (h:k<l.length):txt (l.take (k+1))=pad 4 (l.getD k 0) ++ txt (l.take k):=by
 rw[take_snoc_getD l k h,txt_snoc]
theorem txt_length (l:List Nat):(txt l).length=4*l.length:=by
 rcases List.eq_nil_or_concat l with rfl|⟨m,d,rfl⟩
 ·rfl
 ·rw[List.concat_eq_append,txt_snoc,List.length_append,pad_length,txt_length m,List.length_append]
  simp;omega
termination_by l.length
decreasing_by all_goals simp_all
theorem dec_txt (m:List Nat) (hm:dig 10000 m) (D:Nat) (hD:0<D):Lib.decDigits (val 10000 m+10000 ^ m.length*D)=Lib.decDigits D ++ txt m:=by
 rcases List.eq_nil_or_concat m with rfl|⟨m,x,rfl⟩
 ·simp[val,txt_nil]
 ·rw[List.concat_eq_append]at hm ⊢
  obtain ⟨h1,h2⟩:=dig_append.1 hm
  have hx:=(dig_cons.1 h2).1
  rw[val_snoc,List.length_append,show ([x]:List Nat).length=1 from rfl,Nat.pow_add,Nat.pow_one,Nat.mul_assoc,Nat.add_assoc,← Nat.mul_add,dec_txt m h1 (x+10000*D) (by omega),txt_snoc]
  have:=dec_pad D 4 x hD (by omega)
  rw[show D*10 ^ 4+x=x+10000*D by omega]at this
  rw[this,List.append_assoc]
termination_by m.length
decreasing_by all_goals simp_all
theorem pad_top (k D:Nat) (hk:0<D / 10 ^ k) (h:D / 10 ^ (k+1)=0):pad (k+1) D=Lib.decDigits D:=by
 have hp:0<10 ^ (k+1):=Nat.pow_pos (by omega)
 have hlt:D<10 ^ (k+1):=by
  rcases Nat.lt_or_ge D (10 ^ (k+1))with h1|h1
  ·exact h1
  ·have:=Nat.div_pos h1 hp;omega
 have hge:10 ^ k≤D:=by
  rcases Nat.lt_or_ge D (10 ^ k)with h1|h1
  ·rw[Nat.div_eq_of_lt h1]at hk;omega
  ·exact h1
 have hl:k+1≤(Lib.decDigits D).length:=by
  have h1:=numOf_lt (Lib.decDigits D) (dec_isDig D)
  rw[numOf_dec]at h1
  have h2:=(Nat.pow_lt_pow_iff_right (by omega:1<10)).1 (Nat.lt_of_le_of_lt hge h1)
  omega
 rw[pad_dec k D hlt,show k+1 - (Lib.decDigits D).length=0 by omega]
 rfl
end Vic
end
section
namespace Vic
open Go Go.RowKit
def Above (B:Nat) (v:Value):Prop:=∀ A l c,v=.slice A l c→∀ b o,A=some ⟨b,o,none⟩→B≤b
theorem Above.mono {B C:Nat}{v:Value}(h:Above B v) (hc:C≤B):Above C v:=fun A l c h1 b o h2=>Nat.le_trans hc (h A l c h1 b o h2)
theorem above_slice {B g o l c:Nat}(h:B≤g):Above B (.slice (some ⟨g,o,none⟩) l c):=fun A l' c' h1 b o' h2=>by
 injection h1 with h3 h4 h5
 rw[← h3]at h2
 injection h2 with h2
 injection h2 with h6 h7
 omega
theorem above_nil {B l c:Nat}:Above B (.slice none l c):=fun A l' c' h1 b o' h2=>by
 injection h1 with h3 h4 h5
 rw[← h3]at h2
 cases h2
abbrev tdg (n:Nat):List Nat:=digs 10000 n
def RefN (w:World) (v:Value) (n:Nat):Prop:=Ints .i64 w v (tdg n)
theorem Ints.aside {k:IntKind}{w w':World}{v:Value}{l:List Nat}{B:Nat}(h:Ints k w v l) (ha:Above B v) (hs:∀ b,B≤b→b<w.heap.size→w'.heap[b]?=w.heap[b]?):Ints k w' v l:=by
 obtain ⟨A,c,h1,h2,h3⟩:=h
 refine ⟨A,c,h1,h2,fun i hi=>?_⟩
 obtain ⟨b,o,hA,hc⟩:=h3 i hi
 exact ⟨b,o,hA,by rw[World.cell?_of_block (w:=w) (hs b (ha A _ c h1 b o hA) (block_lt hc))];exact hc⟩
theorem RefN.keep {w w':World}{v:Value}{n:Nat}(h:RefN w v n) (hb:Below w.heap.size w w'):RefN w' v n:=Ints.keep h hb
theorem Ints.at_ {k:IntKind}{w:World}{A:Option Addr}{c:Nat}{l:List Nat}(h:Ints k w (.slice A l.length c) l) (i:Nat) (hi:i<l.length) :
 ∃ b o,A=some ⟨b,o,none⟩∧w.cell? ⟨b,o+i,none⟩=some (.int k ((l.getD i 0:Nat):Int)):=by
 obtain ⟨A',c',hv,_,hcell⟩:=h
 injection hv with h1 h2 h3
 subst h1
 exact hcell i hi
theorem RefN.open_ {w:World}{v:Value}{n:Nat}(h:RefN w v n):∃ A c,v=.slice A (tdg n).length c∧Ints .i64 w (.slice A (tdg n).length c) (tdg n):=by
 obtain ⟨A,c,rfl,h1,h2⟩:=h
 exact ⟨A,c,rfl,A,c,rfl,h1,h2⟩
theorem Ints.front {k:IntKind}{w:World}{A:Option Addr}{c:Nat}{l:List Nat}(h:Ints k w (.slice A l.length c) l) (n:Nat) (hn:n≤l.length):Ints k w (.slice A n c) (l.take n):=by
 obtain ⟨A',c',hv,hlc,hcell⟩:=h
 injection hv with h1 h2 h3
 subst h1;subst h3
 have hlen:(l.take n).length=n:=by simp;omega
 refine ⟨A,c,by rw[hlen],by rw[hlen];omega,fun i hi=>?_⟩
 rw[hlen]at hi
 obtain ⟨b,o,hA,hc⟩:=hcell i (by omega)
 exact ⟨b,o,hA,by rw[getD_take l n i hi];exact hc⟩
theorem tdg_len {n k:Nat}(h:n<10000 ^ k):(tdg n).length≤k:=digs_length_le (by omega) h
theorem tdg_small {n:Nat}(h0:0<n) (h:n<10000):tdg n = [n]:=by
 rw[tdg,digs_pos (by omega) (by omega),Nat.mod_eq_of_lt h,Nat.div_eq_of_lt h,digs_zero]
def intKind (u:Value):Prop:=∃ n:Int,u=.int .i64 n
theorem OwnK.ints {w:World}{base:Nat}{e:TypeId}{v:Value}{l:List Nat}(h:OwnK intKind w base e 1 v l.length (l.map fun (d:Nat)=>Value.int .i64 (d:Int))):Ints .i64 w v l:=by
 have h2:=h
 obtain ⟨h1,⟨rfl,h0⟩|⟨g,cap,cur,rfl,a2,a3,a4,a5,a6,a7,a8⟩⟩:=h
 ·obtain rfl:l = []:=List.eq_nil_of_length_eq_zero h0
  exact Ints.nil_ _ _
 ·refine ⟨_,cap,rfl,a4,fun i hi=>⟨g,0,rfl,?_⟩⟩
  have:=h2.own.cells (g:=g) rfl i (.int .i64 ((l.getD i 0:Nat):Int)) (by
   rw[List.getElem?_map,List.getElem?_eq_getElem hi,List.getD_eq_getElem?_getD,List.getElem?_eq_getElem hi];rfl)
  rwa [show (⟨g,0,none⟩:Addr).add i=⟨g,0+i,none⟩ by simp[Addr.add];omega]at this
theorem OwnK.below {Kd:Value→Prop}{B:Nat}{w0 wr w1 w5:World}{e:TypeId}{size:Nat}{v:Value}{n:Nat}{xs:List Value}(h:OwnK Kd wr B e size v n xs) (hbr:Below B w0 wr) (h01:Below wr.heap.size wr w1) (hgr:w1.grownBy w5 v.ownBlock) (hB:B≤wr.heap.size):Below B w0 w5:=by
 have h1:=hbr.trans (h01.mono hB)
 refine ⟨hgr.os.trans h1.os,hgr.tape.trans h1.tape,hgr.output.trans h1.output,Nat.le_trans h1.size hgr.size,fun j hj=>(hgr.block j (by have:=h01.size;omega) (fun e=>?_)).trans (h1.block j hj)⟩
 have:=(h.lt e.symm).1
 omega
end Vic
namespace Go.Proofs.YtbdfhnelmojbpaaGreatDoor
open Go.RowKit Vic
set_option maxHeartbeats 400000 in
theorem ref_trimA (w:World) (A:Option Addr) (c:Nat) (l:List Nat) (h:Ints .i64 w (.slice A l.length c) l) (hd:dig 10000 l) (hl:l.length≤10000000) :
 Calls Tryz.prog 106 #[.slice A l.length c] w (fun e w'=>∃ k,e=.returned (.slice A k c)∧RefN w' (.slice A k c) (val 10000 l)∧Below w.heap.size w w'):=by
 have h':=h
 have fin:∀ k,k≤l.length→(∀ i,k≤i→i<l.length→l.getD i 0=0)→(k=0∨l.getD (k - 1) 0≠0)→RefN w (.slice A k c) (val 10000 l):=fun k hk h0 hk0=>by
  have e:=trimd_take l k hk h0 hk0
  rw[trimd_eq_digs (by omega) hd]at e
  show Ints .i64 w _ (digs 10000 (val 10000 l))
  rw[e]
  exact h.front k hk
 have FIN:=Lib.hid fin
 obtain ⟨A',c',hv,hlc,hcell⟩:=h
 injection hv with h1 h2 h3
 subst h1;subst h3
 clear fin h2
 go_enter Tryz.func106,Tryz.ntmps106
 go_wp2
 go_loop [3] (fun t=>∃ k:Nat,k≤l.length∧t=.int .i64 k∧Hid (∀ i,k≤i→i<l.length→l.getD i 0=0)) (fun t=>(intOf t).toNat)
 case atStart=>exact ⟨l.length,Nat.le_refl _,rfl,fun i h1 h2=>by omega⟩
 case round=>
  obtain ⟨k,hk,rfl,hz⟩:=hrel
  rcases Nat.eq_zero_or_pos k with hk0|hk0
  ·subst hk0
   go_wp2
   go_ret
   exact ⟨_,rfl,FIN.out 0 (Nat.zero_le _) hz.out (.inl rfl),Below.refl _ _⟩
  ·obtain ⟨j,rfl⟩:∃ j,k=j+1:=⟨k - 1,by omega⟩
   obtain ⟨b,o,rfl,hcl⟩:=hcell j (by omega)
   obtain ⟨d,hdj⟩:∃ d,d=l.getD j 0:=⟨_,rfl⟩
   rw[← hdj]at hcl
   have HD:=Lib.hid hdj;clear hdj
   clear hcell
   go_wp2
   ·have h0:((d:Int) == 0)=true:=by assumption
    go_round
    case rel=>
     refine ⟨j,by omega,rfl,fun i h1 h2=>?_⟩
     by_cases e:i=j
     ·subst e;rw[← HD.out];simpa using h0
     ·exact hz.out i (by omega) h2
    case measure=>simp[intOf]
   ·have h0:((d:Int) == 0)=false:=by assumption
    go_ret
    refine ⟨_,rfl,FIN.out (j+1) hk hz.out (.inr ?_),Below.refl _ _⟩
    simp only[Nat.add_sub_cancel]
    rw[← HD.out];simpa using h0
theorem ref_trim (w:World) (A:Option Addr) (c:Nat) (l:List Nat) (h:Ints .i64 w (.slice A l.length c) l) (hd:dig 10000 l) (hl:l.length≤10000000) :
 Calls Tryz.prog 106 #[.slice A l.length c] w (Gives (fun x w'=>RefN w' x (val 10000 l)) w):=
 (ref_trimA w A c l h hd hl).mono fun e w' ⟨k,h1,h2,h3⟩=>⟨_,h1,h2,h3⟩
theorem info_int0:(Tryz.prog.info? 3).map (fun i=>(i.zero,i.size,i.bytes))=some (some (.int .i64 0),1,8):=by kernel_rfl
theorem info_int:∃ i:TypeInfo,Tryz.prog.info? 3=some i∧i.zero=some (.int .i64 0)∧i.size=1∧i.bytes=8:=by
 have h:=info_int0
 cases hi:Tryz.prog.info? 3 with
 | none=>rw[hi]at h;simp at h
 | some i=>rw[hi]at h;simp at h;exact ⟨i,rfl,h.1,h.2.1,h.2.2⟩
set_option maxRecDepth 100000 in
set_option maxHeartbeats 1000000 in
theorem ref_OfU (w:World) (x:Nat) (hx:x<18446744073709551616) :
 Calls Tryz.prog 43 #[.int .u64 x] w (Gives (fun v w'=>RefN w' v x) w):=by
 obtain ⟨i1,hi1,hz1,hsz1,hby1⟩:=info_int
 go_enter Tryz.func43,Tryz.ntmps43
 go_wp2_with fail
 go_loopw [0,3] (fun t s wr=>∃ (y:Nat) (l:List Nat),t=.int .u64 y∧Hid (y<18446744073709551616)∧l.length≤100∧Hid (y*10000 ^ l.length≤x)∧Hid (tdg x=l ++ tdg y)∧Hid (OwnK intKind wr w.heap.size 3 1 s l.length (l.map fun (d:Nat)=>Value.int .i64 (d:Int)))∧Below w.heap.size w wr) (fun t _ _=>(intOf t).toNat)
 case atStart=>exact ⟨x,[],rfl,hx,by simp,by show _≤_;simp,by show _=_;simp,OwnK.nil_ _ _ _ _ _,Below.refl _ _⟩
 case round=>
  obtain ⟨y,l,rfl,hy,hl,hyx,ht,hown,hbr⟩:=hrel
  rcases Nat.eq_zero_or_pos y with h0|h0
  ·subst h0
   have ht':Hid (tdg x=l):=by have:=ht.out;rw[show tdg 0 = []from digs_zero _,List.append_nil]at this;exact this
   go_wp2_with fail
   go_ret
   refine ⟨_,rfl,?_,hbr⟩
   show Ints .i64 wr _ (tdg x)
   rw[ht'.out];exact hown.out.ints
  ·have e1:((y:Nat):Int) % 10000=((y % 10000:Nat):Int):=by omega
   have e2:((y:Nat):Int) / 10000=((y / 10000:Nat):Int):=by omega
   have hds:Hid (tdg x=(l ++ [y % 10000]) ++ tdg (y / 10000)):=by
    show _=_
    rw[ht.out,List.append_assoc]
    congr 1
    exact digs_pos (by omega) (by omega)
   have hll:Hid (l.length+1≤100):=by
    show _≤_
    rcases Nat.lt_or_ge l.length 99 with h5|h5
    ·omega
    ·exfalso
     have h6:=hyx.out
     have h7:10000 ^ 99≤10000 ^ l.length:=Nat.pow_le_pow_right (by omega) h5
     have h8:1*10000 ^ l.length≤y*10000 ^ l.length:=Nat.mul_le_mul_right _ h0
     have h9:(18446744073709551616:Nat)≤10000 ^ 99:=by decide +kernel
     omega
   have hyn:Hid (y / 10000*10000 ^ (l ++ [y % 10000]).length≤x):=by
    show _≤_
    rw[List.length_append,show ([y % 10000]:List Nat).length=1 from rfl,Nat.pow_succ,Nat.mul_comm (10000 ^ l.length) 10000,← Nat.mul_assoc]
    exact Nat.le_trans (Nat.mul_le_mul_right _ (Nat.div_mul_le_self y 10000)) hyx.out
   have hlt:Hid (y / 10000<y):=Nat.div_lt_self h0 (by omega)
   have hyy:Hid (y / 10000<18446744073709551616):=Nat.lt_of_le_of_lt (Nat.div_le_self _ _) hy.out
   have hmod:y % 10000<10000:=Nat.mod_lt _ (by omega)
   generalize y % 10000=m at *
   generalize y / 10000=q at *
   have hown1:=Lib.hid (hown.out.stay (w':=wr.alloc (.cells #[.int .i64 (m:Int)] 3)) (fun b hb=>((Below.refl wr.heap.size wr).alloc (Nat.le_refl _) _).block b (hown.out.lt hb).2))
   have hnew1:Hid (∀ (j:Nat) u,[Value.int .i64 (m:Int)][j]?=some u→(wr.alloc (.cells #[.int .i64 (m:Int)] 3)).cell? ((⟨wr.heap.size,0,none⟩:Addr).add j)=some u):=Lib.hid fun j u hj=>by
    rcases j with _|j
    ·cases hj
     exact (Row.new _ _ _).cell 0
    ·simp at hj
   have hk1:w.heap.size≤(wr.alloc (.cells #[.int .i64 (m:Int)] 3)).heap.size:=Nat.le_trans hbr.size (by simp)
   have HM:=Lib.hid hmod
   clear hmod
   go_wp2_with (at_builtin;refine wpList_append_ownK (Kd:=intKind) rfl (.tmp 8) (.tmp 12) 47 rfl w.heap.size 3 i1 _ 1 Tryz.underlying47 hi1 hz1 hsz1 rfl (by omega) _ l.length _ rfl hown1.out ⟨wr.heap.size,0,none⟩ 1 1 [Value.int .i64 (m:Int)] rfl (by simp) hnew1.out (by simp[Value.oneCell']) (by simp[intKind]) (by simp[intKind,Value.cells]) (by omega) (by unfold maxLen;omega) (by rw[hby1];omega) hk1 ?_;intro v5 w5 hown5 hgr5 hloc5)
   have hb5:=hown.out.below hbr ((Below.refl wr.heap.size wr).alloc (Nat.le_refl _) _) hgr5 hbr.size
   refine ⟨⟨q,l ++ [m],?_,hyy,by rw[List.length_append];exact hll.out,hyn,hds,?_,hb5⟩,?_⟩
   ·rw[wrap64_nat,Nat.mod_eq_of_lt hyy.out]
   ·rw[List.length_append,List.map_append];exact hown5
   ·rw[wrap64_nat,Nat.mod_eq_of_lt hyy.out]
    have:=hlt.out
    simp[intOf];omega
set_option maxHeartbeats 2000000 in
theorem ref_Cmp (w:World) (u v:Value) (a b:Nat) (ha:RefN w u a) (hb:RefN w v b) (hal:(tdg a).length≤10000000) (hbl:(tdg b).length≤10000000) :
 Calls Tryz.prog 38 #[u,v] w (Rets (.int .i64 (cmpI a b)) w):=by
 obtain ⟨A,c,rfl,hA⟩:=ha.open_
 obtain ⟨A',c',rfl,hB⟩:=hb.open_
 clear ha hb
 obtain ⟨r,hr⟩:∃ r,r=cmpI a b:=⟨_,rfl⟩
 rw[← hr]
 have HR:=Lib.hid hr;clear hr
 have VA:Hid (val 10000 (tdg a)=a):=val_digs (by omega) a
 have VB:Hid (val 10000 (tdg b)=b):=val_digs (by omega) b
 have da:dig 10000 (tdg a):=digs_dig (by omega) a
 have db:dig 10000 (tdg b):=digs_dig (by omega) b
 generalize tdg a=la at *
 generalize tdg b=lb at *
 go_enter Tryz.func38,Tryz.ntmps38
 go_wp2_with fail
 all_goals
  go_loop [5] (fun t=>∃ j:Nat,t=.int .i64 ((j:Int) - 1)∧j≤10000000∧Hid (val 10000 (la.drop j)=val 10000 (lb.drop j))) (fun t=>(intOf t+1).toNat)
  case atStart=>first
   | exact ⟨lb.length,rfl,hbl,by rw[List.drop_of_length_le (by omega),List.drop_of_length_le (Nat.le_refl _)];rfl⟩
   | exact ⟨la.length,rfl,hal,by rw[List.drop_of_length_le (Nat.le_refl _),List.drop_of_length_le (by omega)];rfl⟩
  case round=>
   obtain ⟨j,rfl,hj,hd⟩:=hrel
   rcases Nat.eq_zero_or_pos j with h0|h0
   ·subst h0
    go_wp2
    go_ret
    refine ⟨ret_int ?_,rfl⟩
    rw[HR.out]
    have e:=hd.out
    simp only[List.drop_zero]at e
    rw[VA.out,VB.out]at e
    exact (cmpI_eq e).symm
   ·obtain ⟨k,rfl⟩:∃ k,j=k+1:=⟨j - 1,by omega⟩
    have hs1:Hid (val 10000 (la.drop k)=la.getD k 0+10000*val 10000 (la.drop (k+1))):=val_drop_step _ la k
    have hs2:Hid (val 10000 (lb.drop k)=lb.getD k 0+10000*val 10000 (lb.drop (k+1))):=val_drop_step _ lb k
    have hl1:Hid (la.getD k 0<lb.getD k 0→a<b):=fun h=>by
     have:=lt_of_digit (by omega) da k hd.out h
     rwa [VA.out,VB.out]at this
    have hl2:Hid (lb.getD k 0<la.getD k 0→b<a):=fun h=>by
     have:=lt_of_digit (by omega) db k hd.out.symm h
     rwa [VA.out,VB.out]at this
    have hca:Hid (k<la.length→∃ b o,A=some ⟨b,o,none⟩∧w.cell? ⟨b,o+k,none⟩=some (.int .i64 ((la.getD k 0:Nat):Int))):=hA.at_ k
    have hcb:Hid (k<lb.length→∃ b o,A'=some ⟨b,o,none⟩∧w.cell? ⟨b,o+k,none⟩=some (.int .i64 ((lb.getD k 0:Nat):Int))):=hB.at_ k
    have hna:Hid (la.length≤k→la.getD k 0=0):=getD_big la k
    have hnb:Hid (lb.length≤k→lb.getD k 0=0):=getD_big lb k
    clear hA hB
    generalize la.getD k 0=x at *
    generalize lb.getD k 0=y at *
    have hx:(k<la.length∧∃ b o,A=some ⟨b,o,none⟩∧w.cell? ⟨b,o+k,none⟩=some (.int .i64 ((x:Nat):Int)))∨(¬ k<la.length∧x=0):=by
     by_cases h:k<la.length
     ·exact .inl ⟨h,hca.out h⟩
     ·exact .inr ⟨h,hna.out (by omega)⟩
    have hy:(k<lb.length∧∃ b o,A'=some ⟨b,o,none⟩∧w.cell? ⟨b,o+k,none⟩=some (.int .i64 ((y:Nat):Int)))∨(¬ k<lb.length∧y=0):=by
     by_cases h:k<lb.length
     ·exact .inl ⟨h,hcb.out h⟩
     ·exact .inr ⟨h,hnb.out (by omega)⟩
    have HX:=Lib.hid hx;have HY:=Lib.hid hy
    clear hca hcb hna hnb hx hy
    rcases Nat.lt_trichotomy x y with hxy|hxy|hxy
    ·rcases HX.out with ⟨ka,b1,o1,rfl,hc1⟩|⟨ka,rfl⟩<;>rcases HY.out with ⟨kb,b2,o2,rfl,hc2⟩|⟨kb,rfl⟩<;>clear HX HY
     all_goals first
      | (exfalso;omega)
      | (go_wp2
         go_ret
         exact ⟨ret_int (by rw[HR.out,cmpI_lt (hl1.out hxy)]),rfl⟩)
    ·subst hxy
     rcases HX.out with ⟨ka,b1,o1,rfl,hc1⟩|⟨ka,rfl⟩<;>rcases HY.out with ⟨kb,b2,o2,rfl,hc2⟩|⟨kb,hz⟩<;>clear HX HY
     case' inl.inr=>subst hz
     all_goals
      go_wp2
      go_round
      case rel=>exact ⟨k,by go_num,by omega,by rw[hs1.out,hs2.out,hd.out];exact rfl⟩
      case measure=>simp[intOf]
    ·rcases HX.out with ⟨ka,b1,o1,rfl,hc1⟩|⟨ka,rfl⟩<;>rcases HY.out with ⟨kb,b2,o2,rfl,hc2⟩|⟨kb,rfl⟩<;>clear HX HY
     all_goals first
      | (exfalso;omega)
      | (go_wp2
         go_ret
         exact ⟨ret_int (by rw[HR.out,cmpI_gt (hl2.out hxy)]),rfl⟩)
end Go.Proofs.YtbdfhnelmojbpaaGreatDoor
end
section
namespace Go.Proofs.YtbdfhnelmojbpaaGreatDoor
open Go.RowKit Vic
theorem made_i64 (n:Nat):madeCells #[.int .i64 0] n=vals .i64 (List.replicate n 0):=by
 apply Array.ext'
 rw[toList_madeCells_one]
 simp[vals]
theorem mk_int (n:Nat) (N:Int) (hN:N=n) (hn:n≤10000000000) (w:World) :
 (Instr.makeSlice 47 (.int .i64 N) (.int .i64 N)).run Tryz.prog w=.ok (.slice (some ⟨w.heap.size,0,none⟩) n n) (w.alloc (.cells (vals .i64 (List.replicate n 0)) 3)):=by
 subst hN
 rw[run_make_row' 47 3 _ 8 Tryz.underlying47 info_int0 rfl .i64 .i64 n (by omega) (by omega) w,made_i64]
theorem w64_add (x p s:Nat) (h:x+p=s) (hs:s≤1000000000000):wrap64 ((x:Int)+(p:Int))=(s:Int):=by unfold wrap64;omega
set_option maxRecDepth 100000 in
set_option maxHeartbeats 8000000 in
theorem ref_Add (w:World) (u v:Value) (a b:Nat) (ha:RefN w u a) (hb:RefN w v b) (hal:(tdg a).length≤1000000) (hbl:(tdg b).length≤1000000) :
 Calls Tryz.prog 109 #[u,v] w (Gives (fun x w'=>RefN w' x (a+b)) w):=by
 obtain ⟨A,c,rfl,hA⟩:=ha.open_
 obtain ⟨A',c',rfl,hB⟩:=hb.open_
 clear ha hb
 have VA:Hid (val 10000 (tdg a)=a):=val_digs (by omega) a
 have VB:Hid (val 10000 (tdg b)=b):=val_digs (by omega) b
 have da:dig 10000 (tdg a):=digs_dig (by omega) a
 have db:dig 10000 (tdg b):=digs_dig (by omega) b
 generalize tdg a=la at *
 generalize tdg b=lb at *
 obtain ⟨n,hn⟩:∃ n,max la.length lb.length+1=n:=⟨_,rfl⟩
 have HN:=Lib.hid hn
 have DA:=Lib.hid da;have DB:=Lib.hid db
 have hnl:n≤1000001:=by omega
 clear da db
 by_cases hll:la.length<lb.length
 case' pos=>have hmk:∀ w,(Instr.makeSlice 47 (.int .i64 (lb.length+1)) (.int .i64 (lb.length+1))).run Tryz.prog w=.ok (.slice (some ⟨w.heap.size,0,none⟩) n n) (w.alloc (.cells (vals .i64 (List.replicate n 0)) 3)):=fun w=>mk_int _ _ (by omega) (by omega) w
 case' neg=>have hmk:∀ w,(Instr.makeSlice 47 (.int .i64 (la.length+1)) (.int .i64 (la.length+1))).run Tryz.prog w=.ok (.slice (some ⟨w.heap.size,0,none⟩) n n) (w.alloc (.cells (vals .i64 (List.replicate n 0)) 3)):=fun w=>mk_int _ _ (by omega) (by omega) w
 all_goals
  clear hn
  go_enter Tryz.func109,Tryz.ntmps109
  go_wp2_with fail
  clear hmk hll
  go_loopw [16] (fun t wr=>∃ (k:Nat) (o:List Nat),t=.int .i64 k∧k≤n∧Below w.heap.size w wr∧Hid (Row wr w.heap.size 3 (vals .i64 o))∧Hid (RAdd 10000 la lb o n k)) (fun t _=>n - (intOf t).toNat)
  case atStart=>exact ⟨0,_,rfl,by omega,(Below.refl _ _).alloc (Nat.le_refl _) _,Row.new _ _ _,RAdd.start 10000 la lb n⟩
  case round=>
   obtain ⟨k,o,rfl,hk,hbl2,hrow,hi⟩:=hrel
   by_cases hlt:k<n
   ·have hlen:=hi.out.len
    have hcell:=hrow.out.cell k
    rw[vals_get .i64 o k (by omega)]at hcell
    have hfree:=hrow.out.free k
    have hone:=hi.out.one
    have b1:=dig_getD DA.out (by omega) k
    have b2:=dig_getD DB.out (by omega) k
    have hp:Hid (o.getD k 0+la.getD k 0+lb.getD k 0<10000→RAdd 10000 la lb (o.set k (o.getD k 0+la.getD k 0+lb.getD k 0)) n (k+1)):=fun h=>hi.out.plain hlt h
    have hcr:Hid (10000≤o.getD k 0+la.getD k 0+lb.getD k 0→k+1<n∧o.getD (k+1) 0=0∧RAdd 10000 la lb ((o.set k (o.getD k 0+la.getD k 0+lb.getD k 0 - 10000)).set (k+1) 1) n (k+1)):=fun h=>hi.out.carry (by omega) DA.out DB.out HN.out hlt h
    have hca:Hid (k<la.length→∃ b o,A=some ⟨b,o,none⟩∧wr.cell? ⟨b,o+k,none⟩=some (.int .i64 ((la.getD k 0:Nat):Int))):=(Ints.keep hA hbl2).at_ k
    have hcb:Hid (k<lb.length→∃ b o,A'=some ⟨b,o,none⟩∧wr.cell? ⟨b,o+k,none⟩=some (.int .i64 ((lb.getD k 0:Nat):Int))):=(Ints.keep hB hbl2).at_ k
    have hna:Hid (la.length≤k→la.getD k 0=0):=getD_big la k
    have hnb:Hid (lb.length≤k→lb.getD k 0=0):=getD_big lb k
    have hself:Hid (o.set k (o.getD k 0)=o):=set_self o k (by omega)
    generalize la.getD k 0=p at *
    obtain ⟨q,hq⟩:∃ q,q=lb.getD k 0:=⟨_,rfl⟩
    rw[← hq]at hcb hnb b2 hp hcr
    have HQ:=Lib.hid hq
    clear hq
    generalize o.getD k 0=x at *
    obtain ⟨s1,hs1⟩:∃ s1,x+p=s1:=⟨_,rfl⟩
    obtain ⟨s2,hs2⟩:∃ s2,s1+q=s2:=⟨_,rfl⟩
    rw[hs1,hs2]at hp hcr
    have hs3:s2≤20000:=by omega
    have hz1:Hid (¬ k<la.length→s1=x):=Lib.hid fun h=>by have:=hna.out (by omega);omega
    have hz2:Hid (¬ k<lb.length→s2=s1):=Lib.hid fun h=>by have:=hnb.out (by omega);omega
    have hpx:Hid (s2<10000→RAdd 10000 la lb (o.set k s2) n (k+1)):=hp
    have hrow1:=Lib.hid (Row.set hrow.out k (.int .i64 (s1:Int)))
    rw[vals_set]at hrow1
    have hs4:s1≤1000000000000:=by omega
    have hs5:s2≤1000000000000:=by omega
    have hw0:IntKind.i64.wrap ((k:Int)+1)=((k+1:Nat):Int):=by rw[IntKind.wrap_i64];omega
    have e1:=w64_add x p s1 hs1 hs4
    have e2:=w64_add s1 q s2 hs2 hs5
    clear hna hnb hp hs1 hs2 b1 b2 hone hs4 hs5
    have HW0:=Lib.hid hw0
    clear hw0
    by_cases ka:k<la.length
    case' pos=>
     obtain ⟨b1,o1,rfl,hc1⟩:=hca.out ka
     clear hca hcb
     go_wp2_with fail
     go_region
     obtain ⟨W1,hW1⟩:∃ W1:World,(wr.setCell ⟨w.heap.size,k,none⟩ (.int .i64 (s1:Int))).drew=W1:=⟨_,rfl⟩
     rw[hW1]
     have hR1:Hid (Row W1 w.heap.size 3 (vals .i64 (o.set k s1))∧Below w.heap.size w W1):=by
      rw[← hW1]
      exact ⟨hrow1.out,Vic.Below.drewN_ (hbl2.setCell (p:=⟨w.heap.size,k,none⟩) (Nat.le_refl _) _) 1⟩
    case' neg=>
     obtain rfl:s1=x:=hz1.out ka
     clear hca hcb
     obtain ⟨W1,hW1⟩:∃ W1:World,wr=W1:=⟨_,rfl⟩
     rw[hW1]
     have hR1:Hid (Row W1 w.heap.size 3 (vals .i64 (o.set k s1))∧Below w.heap.size w W1):=by
      rw[← hW1,hself.out]
      exact ⟨hrow.out,hbl2⟩
    all_goals
     clear hW1 hrow1 hcell hfree hrow hbl2 hz1 hself e1
     have hcell1:=hR1.out.1.cell k
     rw[vals_get .i64 _ k (by simp;omega),set_getD_same _ _ _ (by omega)]at hcell1
     have hfree1:=hR1.out.1.free k
     have hcb1:Hid (k<lb.length→∃ b o,A'=some ⟨b,o,none⟩∧W1.cell? ⟨b,o+k,none⟩=some (.int .i64 ((q:Nat):Int))):=by
      have:=(Ints.keep hB hR1.out.2).at_ k
      rwa [← HQ.out]at this
     by_cases kb:k<lb.length
     case' pos=>
      obtain ⟨b2,o2,rfl,hc2⟩:=hcb1.out kb
      clear hcb1
      go_wp2_with fail
      go_region
      obtain ⟨W2,hW2⟩:∃ W2:World,(W1.setCell ⟨w.heap.size,k,none⟩ (.int .i64 (s2:Int))).drew=W2:=⟨_,rfl⟩
      rw[hW2]
      have hR2:Hid (Row W2 w.heap.size 3 (vals .i64 (o.set k s2))∧Below w.heap.size w W2):=by
       rw[← hW2]
       refine ⟨?_,Vic.Below.drewN_ (hR1.out.2.setCell (p:=⟨w.heap.size,k,none⟩) (Nat.le_refl _) _) 1⟩
       have:=hR1.out.1.set k (.int .i64 (s2:Int))
       rw[vals_set,set_set_]at this
       exact this
     case' neg=>
      obtain rfl:s2=s1:=hz2.out kb
      clear hcb1
      obtain ⟨W2,hW2⟩:∃ W2:World,W1=W2:=⟨_,rfl⟩
      rw[hW2]
      have hR2:Hid (Row W2 w.heap.size 3 (vals .i64 (o.set k s2))∧Below w.heap.size w W2):=by
       rw[← hW2]
       exact hR1.out
     all_goals
      clear hW2 hcell1 hfree1 hR1 hz2 e2
      have hcell2:=hR2.out.1.cell k
      rw[vals_get .i64 _ k (by simp;omega),set_getD_same _ _ _ (by omega)]at hcell2
      have hfree2:=hR2.out.1.free k
      rcases Nat.lt_or_ge s2 10000 with hs|hs
      ·have hlo:¬ ((s2:Nat):Int)≥10000:=by omega
       have HP:=Lib.hid (hpx.out hs)
       have hw0:=HW0.out
       clear hpx hcr
       go_wp2_with fail
       go_roundw
       case rel=>exact ⟨k+1,_,by go_num,by omega,hR2.out.2,hR2.out.1,HP⟩
       case measure=>simp[intOf];omega
      ·obtain ⟨hk1,hz0,hra⟩:=hcr.out hs
       have HRA:=Lib.hid hra
       have hhi:((s2:Nat):Int)≥10000:=by omega
       have hcell3:=hR2.out.1.cell (k+1)
       rw[vals_get .i64 _ (k+1) (by simp;omega),set_getD_other _ _ _ _ (by omega),hz0]at hcell3
       have hfree3:=hR2.out.1.free (k+1)
       have e3:((s2:Int) - 10000)=((s2 - 10000:Nat):Int):=by omega
       have hR4:=Lib.hid (Row.set (Row.set hR2.out.1 k (.int .i64 ((s2 - 10000:Nat):Int))) (k+1) (.int .i64 ((1:Nat):Int)))
       rw[vals_set,set_set_,vals_set]at hR4
       have hb4:=(hR2.out.2.setCell (p:=⟨w.heap.size,k,none⟩) (Nat.le_refl _) (.int .i64 ((s2 - 10000:Nat):Int))).setCell (p:=⟨w.heap.size,k+1,none⟩) (Nat.le_refl _) (.int .i64 ((1:Nat):Int))
       generalize s2 - 10000=s3 at *
       have hw0:=HW0.out
       clear hpx hcr hra hz0
       go_wp2_with fail
       go_roundw
       case rel=>exact ⟨k+1,_,by go_num,by omega,hb4,hR4,HRA⟩
       case measure=>simp[intOf];omega
   ·obtain rfl:k=n:=by omega
    obtain ⟨hd1,hd2⟩:=hi.out.done HN.out
    rw[VA.out,VB.out]at hd2
    have hlen:=hi.out.len
    have hu:Ints .i64 wr (.slice (some ⟨w.heap.size,0,none⟩) o.length k) o:=hrow.out.ints (l:=o) k (by omega)
    have CT0:=ref_trim wr _ _ o hu hd1 (by omega)
    rw[hd2,hlen]at CT0
    have CT:=Lib.hid CT0
    clear CT0 hd1 hd2 hu
    go_wp2_with fail
    refine CT.out.mono ?_
    rintro e w' ⟨z,rfl,hz,hbz⟩
    go_wp2
    go_ret
    exact ⟨z,rfl,hz,below_seq hbl2 hbz⟩
end Go.Proofs.YtbdfhnelmojbpaaGreatDoor
end
