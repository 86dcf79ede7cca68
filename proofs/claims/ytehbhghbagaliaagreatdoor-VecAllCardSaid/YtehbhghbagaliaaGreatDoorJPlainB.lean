/- Plain text: a number in decimal digits, written and read by nine digits at once. And: Plain laws of the document's numbers: lists of digits, of which one is turned at a time. -/
import Derived.Lib.ItoaNum
import Derived.Lib.ParseIntB
import Derived.Lib.SlTrimSet
import Derived.Lib.Repeat
import Derived.Test.YtehbhghbagaliaaGreatDoorJPlainA
set_option linter.unusedVariables false
namespace Vic
open Go
def pad:Nat→Nat→List UInt8
 | 0,_=>[]
 | k+1,r=>pad k (r / 10) ++ [UInt8.ofNat (48+r % 10)]
theorem pad_length (k r:Nat):(pad k r).length=k:=by
 induction k generalizing r with
 | zero=>rfl
 | succ k ih=>simp[pad,ih]
theorem pad_zero (k:Nat):pad k 0=List.replicate k 48:=by
 induction k with
 | zero=>rfl
 | succ k ih=>
   have:pad (k+1) 0=pad k 0 ++ [48]:=rfl
   rw[this,ih,← List.replicate_succ']
theorem dec_big {u:Nat}(h:10≤u):Lib.decDigits u=Lib.decDigits (u / 10) ++ [UInt8.ofNat (48+u % 10)]:=by
 rw[Lib.decDigits,dif_neg (by omega)]
theorem dec_small {u:Nat}(h:u<10):Lib.decDigits u = [UInt8.ofNat (48+u)]:=by
 rw[Lib.decDigits,dif_pos h]
theorem dec_pad (m k r:Nat) (hm:0<m) (hr:r<10 ^ k):Lib.decDigits (m*10 ^ k+r)=Lib.decDigits m ++ pad k r:=by
 induction k generalizing r with
 | zero=>simp only[Nat.pow_zero]at hr ⊢;obtain rfl:r=0:=by omega
         simp[pad]
 | succ k ih=>
   have hp:0<10 ^ k:=Nat.pow_pos (by omega)
   have e:m*10 ^ (k+1)+r=10*(m*10 ^ k)+r:=by rw[Nat.pow_succ];rw[← Nat.mul_assoc,Nat.mul_comm]
   have hb:0<m*10 ^ k:=Nat.mul_pos hm hp
   rw[e,dec_big (by omega)]
   have e1:(10*(m*10 ^ k)+r) / 10=m*10 ^ k+r / 10:=by omega
   have e2:(10*(m*10 ^ k)+r) % 10=r % 10:=by omega
   rw[e1,e2,ih (r / 10) (by rw[Nat.pow_succ]at hr;omega)]
   simp[pad]
theorem pad_dec (k r:Nat) (hr:r<10 ^ (k+1)):pad (k+1) r=List.replicate (k+1 - (Lib.decDigits r).length) 48 ++ Lib.decDigits r:=by
 induction k generalizing r with
 | zero=>
   rw[dec_small (by simpa using hr)]
   simp only[Nat.zero_add,Nat.pow_one]at hr
   simp[pad,Nat.mod_eq_of_lt hr]
 | succ k ih=>
   by_cases h:r<10
   ·rw[dec_small h]
    show pad (k+1) (r / 10) ++ [UInt8.ofNat (48+r % 10)]=_
    rw[show r / 10=0 by omega,pad_zero,Nat.mod_eq_of_lt h]
    simp
   ·rw[dec_big (by omega)]
    show pad (k+1) (r / 10) ++ [UInt8.ofNat (48+r % 10)]=_
    rw[ih (r / 10) (by rw[Nat.pow_succ]at hr;omega)]
    simp
structure TextInv (n m:Nat) (s:List UInt8):Prop where
 le:m≤n
 open_:0<m→Lib.decDigits n=Lib.decDigits m ++ s
 shut:m=0→(n=0∧s = [])∨(0<n∧s=Lib.decDigits n)
theorem TextInv.start (n:Nat):TextInv n n []:=⟨Nat.le_refl _,fun _=>by simp,fun h=>.inl ⟨h,rfl⟩⟩
theorem TextInv.go {n m:Nat}{s:List UInt8}(h:TextInv n m s) (hm:0<m) (hq:0<m / 1000000000):TextInv n (m / 1000000000) (List.replicate (9 - (Lib.decDigits (m % 1000000000)).length) 48 ++ Lib.decDigits (m % 1000000000) ++ s):=by
 have e:m=m / 1000000000*10 ^ 9+m % 1000000000:=by omega
 have h1:=dec_pad (m / 1000000000) 9 (m % 1000000000) hq (by omega)
 rw[← e,pad_dec 8 _ (by omega)]at h1
 have hl:=h.le
 refine ⟨by omega,fun _=>?_,fun h0=>by omega⟩
 rw[h.open_ hm,h1]
 simp
theorem TextInv.last {n m:Nat}{s:List UInt8}(h:TextInv n m s) (hm:0<m) (hq:m / 1000000000=0):TextInv n 0 (Lib.decDigits (m % 1000000000) ++ s):=by
 have hl:=h.le
 refine ⟨Nat.zero_le _,fun h0=>by omega,fun _=>.inr ⟨by omega,?_⟩⟩
 rw[show m % 1000000000=m by omega,h.open_ hm]
theorem dec_ne (n:Nat):Lib.decDigits n≠[]:=by
 rw[Lib.decDigits];split<;>simp
theorem TextInv.done {n:Nat}{s:List UInt8}(h:TextInv n 0 s):(s = []→Lib.decDigits n = [48])∧(s≠[]→s=Lib.decDigits n):=by
 rcases h.shut rfl with ⟨h1,h2⟩|⟨h1,h2⟩
 ·exact ⟨fun _=>by rw[h1,dec_small (by omega)];rfl,fun h3=>absurd h2 h3⟩
 ·exact ⟨fun h3=>absurd (h2.symm.trans h3) (dec_ne n),fun _=>h2⟩
theorem TextInv.len {n m:Nat}{s:List UInt8}(h:TextInv n m s):s.length≤(Lib.decDigits n).length:=by
 rcases Nat.eq_zero_or_pos m with h0|h0
 ·rcases h.shut h0 with ⟨_,h2⟩|⟨_,h2⟩<;>rw[h2]<;>simp
 ·rw[h.open_ h0];simp
theorem dec_len {n k:Nat}(h:n<10 ^ (k+1)):(Lib.decDigits n).length≤k+1:=by
 have h1:=congrArg List.length (pad_dec k n h)
 rw[pad_length,List.length_append,List.length_replicate]at h1
 omega
theorem dec_len_digs {n L:Nat}(h:n<4294967296 ^ L):(Lib.decDigits n).length≤10*L+1:=by
 apply dec_len
 have h1:4294967296 ^ L≤(10 ^ 10) ^ L:=Nat.pow_le_pow_left (by omega) L
 rw[← Nat.pow_mul]at h1
 have h2:10 ^ (10*L)≤10 ^ (10*L+1):=Nat.pow_le_pow_right (by omega) (by omega)
 omega
theorem rep_one (b:UInt8) (k:Nat):Lib.repeatL [b] k=List.replicate k b:=by
 induction k with
 | zero=>rfl
 | succ k ih=>rw[List.replicate_succ,← ih];rfl
def isDig (c:UInt8):Bool:=decide (48≤c.toNat) && decide (c.toNat≤57)
theorem isDig_iff {c:UInt8}:isDig c=true↔48≤c.toNat∧c.toNat≤57:=by simp[isDig]
def numOf (acc:Nat) (l:List UInt8):Nat:=l.foldl (fun a c=>a*10+(c.toNat - 48)) acc
theorem numOf_nil (acc:Nat):numOf acc []=acc:=rfl
theorem numOf_append (acc:Nat) (a b:List UInt8):numOf acc (a ++ b)=numOf (numOf acc a) b:=List.foldl_append
theorem numOf_cons (acc:Nat) (c:UInt8) (r:List UInt8):numOf acc (c :: r)=numOf (acc*10+(c.toNat - 48)) r:=List.foldl_cons ..
theorem acc_step (a d p n:Nat):(a*10+d)*p+n=a*(p*10)+((0*10+d)*p+n):=by
 rw[Nat.add_mul,Nat.zero_mul,Nat.zero_add,Nat.mul_assoc,Nat.mul_comm 10,Nat.add_assoc]
theorem numOf_acc (acc:Nat) (l:List UInt8):numOf acc l=acc*10 ^ l.length+numOf 0 l:=by
 induction l generalizing acc with
 | nil=>rw[List.length_nil,Nat.pow_zero,Nat.mul_one,numOf_nil,numOf_nil,Nat.add_zero]
 | cons c r ih=>
   rw[numOf_cons,numOf_cons 0,List.length_cons,Nat.pow_succ]
   generalize c.toNat - 48=d
   have h1:=ih (acc*10+d)
   have h2:=ih (0*10+d)
   rw[h1,h2]
   exact acc_step _ _ _ _
theorem numOf_lt (l:List UInt8) (h:∀ c∈l,isDig c=true):numOf 0 l<10 ^ l.length:=by
 induction l with
 | nil=>rw[numOf_nil];simp
 | cons c r ih=>
   rw[numOf_cons,numOf_acc,List.length_cons,Nat.pow_succ]
   have h1:=isDig_iff.1 (h c (by simp))
   have h2:=ih fun x hx=>h x (by simp[hx])
   have h3:(0*10+(c.toNat - 48))*10 ^ r.length≤9*10 ^ r.length:=Nat.mul_le_mul_right _ (by omega)
   omega
theorem parseM_ok (l:List UInt8) (h:∀ c∈l,isDig c=true) (acc j:Nat) (ha:acc<10 ^ j) (hj:l.length+j≤9):Lib.parseUintM 4294967295 acc l=.ok (numOf acc l):=by
 induction l generalizing acc j with
 | nil=>rfl
 | cons c r ih=>
   have h1:=isDig_iff.1 (h c (by simp))
   rw[List.length_cons]at hj
   have h2:(10:Nat) ^ (j+1)≤10 ^ 9:=Nat.pow_le_pow_right (by omega) (by omega)
   have h4:(10:Nat) ^ (j+1)=10 ^ j*10:=Nat.pow_succ _ _
   have h3:acc*10+(c.toNat - 48)<10 ^ (j+1):=by omega
   rw[Lib.parseUintM,if_pos h1,if_neg (by omega),if_neg (by omega)]
   exact ih (fun x hx=>h x (by simp[hx])) _ (j+1) h3 (by omega)
theorem parse32_ok (l:List UInt8) (h:∀ c∈l,isDig c=true) (h0:l≠[]) (h9:l.length≤9):Lib.parseUintB 32 l=.ok (numOf 0 l):=by
 rw[Lib.parseUintB,if_neg h0]
 exact parseM_ok l h 0 0 (by simp) (by omega)
theorem byte_dig {n:Nat}(h:n<10):(UInt8.ofNat (48+n)).toNat=48+n:=by
 rw[UInt8.toNat_ofNat'];omega
theorem numOf_dec (n:Nat):numOf 0 (Lib.decDigits n)=n:=by
 induction n using Nat.strongRecOn with
 | _ n ih=>
   by_cases h:n<10
   ·rw[dec_small h]
    rw[numOf_cons,numOf_nil,byte_dig h];omega
   ·rw[dec_big (by omega),numOf_append,ih (n / 10) (by omega)]
    rw[numOf_cons,numOf_nil,byte_dig (by omega)];omega
theorem dec_isDig (n:Nat):∀ c∈Lib.decDigits n,isDig c=true:=by
 induction n using Nat.strongRecOn with
 | _ n ih=>
   by_cases h:n<10
   ·rw[dec_small h]
    intro c hc
    simp only[List.mem_singleton]at hc
    rw[hc,isDig_iff,byte_dig h];omega
   ·rw[dec_big (by omega)]
    intro c hc
    rcases List.mem_append.1 hc with h1|h1
    ·exact ih (n / 10) (by omega) c h1
    ·simp only[List.mem_singleton]at h1
     rw[h1,isDig_iff,byte_dig (by omega)];omega
def Canon (l:List UInt8):Prop:=l≠[]∧(∀ c∈l,isDig c=true)∧(l.length=1∨l.head?≠some 48)
theorem dig_byte {c:UInt8}(h:isDig c=true):UInt8.ofNat (48+(c.toNat - 48))=c:=by
 have:=isDig_iff.1 h
 rw[show 48+(c.toNat - 48)=c.toNat by omega]
 exact UInt8.ofNat_toNat
theorem canon_pos {l:List UInt8}(h:Canon l) (hl:2≤l.length∨l≠[48]):0<numOf 0 l:=by
 obtain ⟨h0,h1,h2⟩:=h
 match l,h0,h1,h2,hl with
 | c :: r,_,h1,h2,hl=>
   have hc:=isDig_iff.1 (h1 c (by simp))
   have hne:c≠48:=by
    rintro rfl
    rcases h2 with h2|h2
    ·simp at h2;subst h2;simp at hl
    ·simp at h2
   have hc2:c.toNat≠48:=fun h=>hne (UInt8.toNat_inj.1 h)
   rw[numOf_cons,numOf_acc]
   have:0<(0*10+(c.toNat - 48))*10 ^ r.length:=Nat.mul_pos (by omega) (Nat.pow_pos (by omega))
   omega
theorem dec_numOf_aux (k:Nat):∀ l:List UInt8,l.length=k→Canon l→Lib.decDigits (numOf 0 l)=l:=by
 induction k with
 | zero=>intro l hl h;exact absurd (List.eq_nil_of_length_eq_zero hl) h.1
 | succ k ih=>
   intro l hl h
   have hx:l=l.dropLast ++ [l.getLast h.1]:=(List.dropLast_concat_getLast h.1).symm
   have hld:(l.dropLast).length=k:=by simp[hl]
   have hc:=h.2.1 (l.getLast h.1) (List.getLast_mem h.1)
   have hh:=isDig_iff.1 hc
   obtain ⟨c,hce⟩:∃ c,c=l.getLast h.1:=⟨_,rfl⟩
   obtain ⟨m,hme⟩:∃ m,m=l.dropLast:=⟨_,rfl⟩
   rw[← hce]at hx hc hh
   rw[← hme]at hx hld
   clear hce hme
   subst hx
   rw[numOf_append,numOf_cons,numOf_nil]
   rcases Nat.eq_zero_or_pos k with hk|hk
   ·obtain rfl:m = []:=List.eq_nil_of_length_eq_zero (by omega)
    rw[numOf_nil,dec_small (by omega),Nat.zero_mul,Nat.zero_add,dig_byte hc]
    rfl
   ·have hmne:m≠[]:=fun e=>by rw[e]at hld;simp at hld;omega
    have hhead:m.head?≠some 48:=by
     rcases h.2.2 with h3|h3
     ·simp at h3;exact absurd h3 hmne
     ·match m,hmne,h3 with
      | x :: r,_,h3=>simpa using h3
    have hm:Canon m:=⟨hmne,fun x hx=>h.2.1 x (by simp[hx]),.inr hhead⟩
    have hp:0<numOf 0 m:=canon_pos hm (by
     right;intro e;rw[e]at hhead;simp at hhead)
    rw[dec_big (by omega),show (numOf 0 m*10+(c.toNat - 48)) / 10=numOf 0 m by omega,show (numOf 0 m*10+(c.toNat - 48)) % 10=c.toNat - 48 by omega,ih m hld hm,dig_byte hc]
theorem dec_numOf {l:List UInt8}(h:Canon l):Lib.decDigits (numOf 0 l)=l:=dec_numOf_aux l.length l rfl h
theorem dec_head {n:Nat}(h:0<n):(Lib.decDigits n).head?≠some 48:=by
 induction n using Nat.strongRecOn with
 | _ n ih=>
   by_cases h1:n<10
   ·rw[dec_small h1]
    intro e
    simp only[List.head?_cons,Option.some.injEq]at e
    have:=congrArg UInt8.toNat e
    rw[byte_dig h1]at this
    simp at this;omega
   ·rw[dec_big (by omega),List.head?_append]
    have h3:=ih (n / 10) (by omega) (by omega)
    have h4:=dec_ne (n / 10)
    generalize Lib.decDigits (n / 10)=l at *
    match l,h4,h3 with
    | x :: r,_,h3=>simpa using h3
theorem dec_canon (n:Nat):Canon (Lib.decDigits n):=by
 refine ⟨dec_ne n,dec_isDig n,?_⟩
 rcases Nat.eq_zero_or_pos n with h|h
 ·subst h;exact .inl (by rw[dec_small (by omega)];rfl)
 ·exact .inr (dec_head h)
def tenDigs:List UInt8:=[48,49,50,51,52,53,54,55,56,57]
set_option maxRecDepth 10000 in
theorem ten_fin:∀ n:Fin 256,tenDigs.contains (UInt8.ofNat n.val)=isDig (UInt8.ofNat n.val):=by decide
theorem ten_iff (c:UInt8):tenDigs.contains c=isDig c:=by
 have:=ten_fin ⟨c.toNat,c.toNat_lt⟩
 simpa using this
theorem dropWhile_nil {p:UInt8→Bool}{l:List UInt8}:l.dropWhile p = []↔∀ c∈l,p c=true:=by
 induction l with
 | nil=>simp
 | cons c r ih=>
   rw[List.dropWhile_cons]
   by_cases h:p c=true
   ·rw[if_pos h,ih];simp[h]
   ·rw[if_neg h];simp[h]
theorem trim_digs (l:List UInt8):Lib.trimS l tenDigs = []↔∀ c∈l,isDig c=true:=by
 unfold Lib.trimS Lib.trimRightS Lib.trimLeftS
 have e:(fun c=>tenDigs.contains c)=isDig:=funext ten_iff
 rw[e]
 constructor
 ·intro h
  rw[dropWhile_nil]at h
  have h1:l.reverse.dropWhile isDig = []:=by
   rcases hd:l.reverse.dropWhile isDig with _|⟨x,r⟩
   ·rfl
   ·have h2:isDig x=true:=h x (by rw[hd];simp)
    have h3:=List.head?_dropWhile_not isDig l.reverse
    rw[hd]at h3
    simp[h2]at h3
  exact fun c hc=>dropWhile_nil.1 h1 c (by simpa using hc)
 ·intro h
  rw[show l.reverse.dropWhile isDig = []from dropWhile_nil.2 fun c hc=>h c (by simpa using hc)]
  rfl
theorem bytes_take (l:List UInt8) (k:Nat):(⟨l.toArray⟩:ByteArray).extract 0 k=⟨(l.take k).toArray⟩:=by
 apply ByteArray.ext
 simp[ByteArray.data_extract]
theorem bytes_drop (l:List UInt8) (k n:Nat) (h:n=l.length):(⟨l.toArray⟩:ByteArray).extract k n=⟨(l.drop k).toArray⟩:=by
 subst h
 apply ByteArray.ext
 simp[ByteArray.data_extract]
 exact List.take_of_length_le (by simp)
theorem bytes_app (a b:List UInt8):(⟨a.toArray⟩ ++ ⟨b.toArray⟩:ByteArray)=⟨(a ++ b).toArray⟩:=by
 apply ByteArray.ext
 simp
end Vic
set_option linter.unusedVariables false
set_option linter.unusedSimpArgs false
namespace Vic
open Go
theorem rval_set (B:Nat) (o:List Nat) (k d:Nat) (h:k<o.length):val B (o.set k d)+B ^ k*o.getD k 0=val B o+B ^ k*d:=by
 induction o generalizing k with
 | nil=>simp at h
 | cons x o ih=>
   cases k with
   | zero=>simp[val];omega
   | succ k=>
     have h1:=ih k (by simpa using h)
     have e:=congrArg (B * ·) h1
     simp only[Nat.mul_add]at e
     simp only[List.set_cons_succ,val_cons,List.getD_cons_succ,Nat.pow_succ]
     have e1:∀ y,B ^ k*B*y=B*(B ^ k*y):=fun y=>by rw[Nat.mul_comm (B ^ k) B,Nat.mul_assoc]
     rw[e1,e1]
     omega
theorem set_self (o:List Nat) (k:Nat) (h:k<o.length):o.set k (o.getD k 0)=o:=by
 apply List.ext_getElem?
 intro j
 rw[List.getElem?_set]
 by_cases e:k=j
 ·subst e;rw[if_pos rfl,if_pos h,List.getD_eq_getElem?_getD,List.getElem?_eq_getElem h];rfl
 ·rw[if_neg e]
theorem set_set_ (o:List Nat) (k c d:Nat):(o.set k c).set k d=o.set k d:=by simp
theorem rgetD_zeros (n j:Nat):(List.replicate n 0).getD j 0=0:=by
 rw[List.getD_eq_getElem?_getD,List.getElem?_replicate];split<;>rfl
theorem rval_zeros (B n:Nat):val B (List.replicate n 0)=0:=by
 induction n with
 | zero=>rfl
 | succ n ih=>rw[List.replicate_succ,val_cons,ih];simp
theorem take_snoc_getD (l:List Nat) (k:Nat) (h:k<l.length):l.take (k+1)=l.take k ++ [l.getD k 0]:=by
 rw[List.take_add_one,List.getD_eq_getElem?_getD,List.getElem?_eq_getElem h];rfl
theorem dig_of_getD {B:Nat}{l:List Nat}(h:∀ j,j<l.length→l.getD j 0<B):dig B l:=fun d hd=>by
 obtain ⟨j,hj,rfl⟩:=List.getElem_of_mem hd
 have:=h j hj
 rwa [List.getD_eq_getElem?_getD,List.getElem?_eq_getElem hj]at this
structure RAdd (B:Nat) (a b o:List Nat) (n k:Nat):Prop where
 len:o.length=n
 low:∀ j,j<k→o.getD j 0<B
 high:∀ j,k<j→o.getD j 0=0
 one:o.getD k 0≤1
 v:val B o=val B (a.take k)+val B (b.take k)
theorem RAdd.start (B:Nat) (a b:List Nat) (n:Nat):RAdd B a b (List.replicate n 0) n 0:=
 ⟨by simp,fun j h=>by omega,fun j _=>rgetD_zeros n j,by rw[rgetD_zeros];omega,by rw[rval_zeros];simp[val]⟩
theorem RAdd.plain {B:Nat}{a b o:List Nat}{n k:Nat}(h:RAdd B a b o n k) (hk:k<n) (ht:o.getD k 0+a.getD k 0+b.getD k 0<B) :
 RAdd B a b (o.set k (o.getD k 0+a.getD k 0+b.getD k 0)) n (k+1):=by
 have hl:=h.len
 refine ⟨by simp[hl],fun j hj=>?_,fun j hj=>?_,?_,?_⟩
 ·by_cases e:j=k
  ·subst e;rw[set_getD_same _ _ _ (by omega)];exact ht
  ·rw[set_getD_other _ _ _ _ e];exact h.low j (by omega)
 ·rw[set_getD_other _ _ _ _ (by omega)];exact h.high j (by omega)
 ·rw[set_getD_other _ _ _ _ (by omega),h.high (k+1) (by omega)];omega
 ·have h1:=rval_set B o k (o.getD k 0+a.getD k 0+b.getD k 0) (by omega)
  rw[val_take_step,val_take_step]
  have h2:=h.v
  simp only[Nat.mul_add]at h1
  omega
theorem RAdd.carry {B:Nat}{a b o:List Nat}{n k:Nat}(h:RAdd B a b o n k) (hB:1<B) (ha:dig B a) (hb:dig B b) (hn:max a.length b.length+1=n) (hk:k<n) (ht:B≤o.getD k 0+a.getD k 0+b.getD k 0) :
 k+1<n∧o.getD (k+1) 0=0∧RAdd B a b ((o.set k (o.getD k 0+a.getD k 0+b.getD k 0 - B)).set (k+1) 1) n (k+1):=by
 have hl:=h.len
 have h1:=h.one
 have b1:=dig_getD ha (by omega) k
 have b2:=dig_getD hb (by omega) k
 have hk1:k+1<n:=by
  rcases Nat.lt_or_ge (k+1) n with h5|h5
  ·exact h5
  ·rw[getD_big a k (by omega),getD_big b k (by omega)]at ht
   omega
 refine ⟨hk1,h.high _ (by omega),by simp[hl],fun j hj=>?_,fun j hj=>?_,?_,?_⟩
 ·rw[set_getD_other _ _ _ _ (by omega)]
  by_cases e:j=k
  ·subst e;rw[set_getD_same _ _ _ (by omega)];omega
  ·rw[set_getD_other _ _ _ _ e];exact h.low j (by omega)
 ·rw[set_getD_other _ _ _ _ (by omega),set_getD_other _ _ _ _ (by omega)];exact h.high j (by omega)
 ·rw[set_getD_same _ _ _ (by simp;omega)];omega
 ·have h3:=rval_set B (o.set k (o.getD k 0+a.getD k 0+b.getD k 0 - B)) (k+1) 1 (by simp;omega)
  rw[set_getD_other _ _ _ _ (by omega),h.high (k+1) (by omega)]at h3
  have h4:=rval_set B o k (o.getD k 0+a.getD k 0+b.getD k 0 - B) (by omega)
  have h5:B ^ k*(o.getD k 0+a.getD k 0+b.getD k 0 - B)+B ^ (k+1)*1=B ^ k*(o.getD k 0)+B ^ k*a.getD k 0+B ^ k*b.getD k 0:=by
   rw[← Nat.mul_add,← Nat.mul_add,Nat.mul_one,Nat.pow_succ,← Nat.mul_add]
   congr 1;omega
  rw[val_take_step,val_take_step]
  have h2:=h.v
  omega
theorem RAdd.done {B:Nat}{a b o:List Nat}{n:Nat}(h:RAdd B a b o n n) (hn:max a.length b.length+1=n):dig B o∧val B o=val B a+val B b:=by
 refine ⟨dig_of_getD fun j hj=>h.low j (by rw[← h.len];exact hj),?_⟩
 rw[h.v,val_take_all _ _ _ (by omega),val_take_all _ _ _ (by omega)]
structure RMul (B:Nat) (a b o:List Nat) (i k:Nat):Prop where
 len:o.length=a.length+b.length+1
 here:k<b.length→o.getD (i+k) 0≤2*B
 rest:∀ j,(k<b.length→j≠i+k)→o.getD j 0≤B
 zero:k<b.length→∀ j,i+b.length≤j→o.getD j 0=0
 zero2:∀ j,i+b.length<j→o.getD j 0=0
 all:k=0→∀ j,o.getD j 0≤B
 v:val B o=val B (a.take i)*val B b+B ^ i*a.getD i 0*val B (b.take k)
theorem RMul.start (B:Nat) (a b:List Nat):RMul B a b (List.replicate (a.length+b.length+1) 0) 0 0:=
 ⟨by simp,fun _=>by rw[rgetD_zeros];omega,fun j _=>by rw[rgetD_zeros];omega,fun _ j _=>rgetD_zeros _ j,fun j _=>rgetD_zeros _ j,fun _ j=>by rw[rgetD_zeros];omega,by rw[rval_zeros];simp[val]⟩
theorem mul_carry {B x p q:Nat}(hB:1<B) (hx:x≤2*B) (hp:p<B) (hq:q<B):(x+p*q) / B≤B:=by
 have h1:p*q≤(B - 1)*(B - 1):=Nat.mul_le_mul (by omega) (by omega)
 have h2:(B - 1)*(B - 1)+2*B=B*B+1:=by
  obtain ⟨c,rfl⟩:∃ c,B=c+1:=⟨B - 1,by omega⟩
  simp only[Nat.add_sub_cancel,Nat.mul_add,Nat.add_mul];omega
 have h3:x+p*q<(B+1)*B:=by rw[Nat.add_mul];omega
 have:=(Nat.div_lt_iff_lt_mul (by omega:0<B)).2 h3
 omega
theorem RMul.step {B:Nat}{a b o:List Nat}{i k:Nat}(h:RMul B a b o i k) (hB:1<B) (ha:dig B a) (hb:dig B b) (hi:i<a.length) (hk:k<b.length) :
 RMul B a b ((o.set (i+k) ((o.getD (i+k) 0+a.getD i 0*b.getD k 0) % B)).set (i+k+1) (o.getD (i+k+1) 0+(o.getD (i+k) 0+a.getD i 0*b.getD k 0) / B)) i (k+1):=by
 have hl:=h.len
 have b1:=dig_getD ha (by omega) i
 have b2:=dig_getD hb (by omega) k
 have hc:=mul_carry hB (h.here hk) b1 b2
 have hr:=h.rest (i+k+1) (fun _=>by omega)
 have hm:(o.getD (i+k) 0+a.getD i 0*b.getD k 0) % B<B:=Nat.mod_lt _ (by omega)
 have hdm:=Nat.div_add_mod (o.getD (i+k) 0+a.getD i 0*b.getD k 0) B
 have hv:=h.v
 generalize hC:(o.getD (i+k) 0+a.getD i 0*b.getD k 0) / B=C at *
 generalize hM:(o.getD (i+k) 0+a.getD i 0*b.getD k 0) % B=Mo at *
 have g1:∀ j,j≠i+k→j≠i+k+1→((o.set (i+k) Mo).set (i+k+1) (o.getD (i+k+1) 0+C)).getD j 0=o.getD j 0:=fun j e1 e2=>by
  rw[set_getD_other _ _ _ _ e2,set_getD_other _ _ _ _ e1]
 have g2:((o.set (i+k) Mo).set (i+k+1) (o.getD (i+k+1) 0+C)).getD (i+k+1) 0=o.getD (i+k+1) 0+C:=set_getD_same _ _ _ (by simp;omega)
 have g3:((o.set (i+k) Mo).set (i+k+1) (o.getD (i+k+1) 0+C)).getD (i+k) 0=Mo:=by
  rw[set_getD_other _ _ _ _ (by omega),set_getD_same _ _ _ (by omega)]
 refine ⟨by simp[hl],fun hk1=>?_,fun j hj=>?_,fun hk1 j hj=>?_,fun j hj=>?_,?_,?_⟩
 ·rw[show i+(k+1)=i+k+1 by omega,g2];omega
 ·by_cases e1:j=i+k
  ·subst e1;rw[g3];omega
  ·by_cases e2:j=i+k+1
   ·subst e2
    rw[g2]
    have hkb:k+1=b.length:=by
     rcases Nat.lt_or_ge (k+1) b.length with h5|h5
     ·exact absurd (by omega) (hj h5)
     ·omega
    rw[h.zero hk (i+k+1) (by omega)];omega
   ·rw[g1 j e1 e2];exact h.rest j (fun _=>e1)
 ·rw[g1 j (by omega) (by omega)];exact h.zero hk j hj
 ·rw[g1 j (by omega) (by omega)];exact h.zero2 j hj
 ·intro e;omega
 ·have h3:=rval_set B (o.set (i+k) Mo) (i+k+1) (o.getD (i+k+1) 0+C) (by simp;omega)
  rw[set_getD_other _ _ _ _ (by omega)]at h3
  have h4:=rval_set B o (i+k) Mo (by omega)
  have h5:B ^ (i+k+1)*(o.getD (i+k+1) 0+C)+B ^ (i+k)*Mo=B ^ (i+k+1)*o.getD (i+k+1) 0+B ^ (i+k)*o.getD (i+k) 0+B ^ i*a.getD i 0*(B ^ k*b.getD k 0):=by
   have e1:B ^ (i+k+1)*C=B ^ (i+k)*(B*C):=by rw[Nat.pow_succ,Nat.mul_assoc]
   have e2:B ^ i*a.getD i 0*(B ^ k*b.getD k 0)=B ^ (i+k)*(a.getD i 0*b.getD k 0):=by
    rw[Nat.pow_add];simp only[Nat.mul_assoc,Nat.mul_left_comm]
   rw[Nat.mul_add,e1,e2,Nat.add_assoc,← Nat.mul_add,hdm,Nat.mul_add,← Nat.add_assoc]
  rw[val_take_step,Nat.mul_add]
  omega
theorem RMul.next {B:Nat}{a b o:List Nat}{i:Nat}(h:RMul B a b o i b.length) (hi:i<a.length):RMul B a b o (i+1) 0:=
 ⟨h.len,fun hk=>Nat.le_trans (h.rest _ (fun hk=>by omega)) (by omega),fun j _=>h.rest j (fun hk=>by omega),fun _ j hj=>h.zero2 j (by omega),fun j hj=>h.zero2 j (by omega),fun _ j=>h.rest j (fun hk=>by omega),by
  rw[h.v,val_take_step,val_take_all B b _ (Nat.le_refl _),Nat.add_mul]
  simp[val]⟩
structure RNorm (B n:Nat) (o:List Nat) (m k:Nat):Prop where
 len:o.length=n
 low:∀ j,j<k→o.getD j 0<B
 here:o.getD k 0≤2*B
 high:∀ j,k<j→o.getD j 0≤B
 v:val B o=m
theorem RNorm.step {B n:Nat}{o:List Nat}{m k:Nat}(h:RNorm B n o m k) (hB:2<B) (hk:k+1<n) :
 RNorm B n ((o.set (k+1) (o.getD (k+1) 0+o.getD k 0 / B)).set k (o.getD k 0 % B)) m (k+1):=by
 have hl:=h.len
 have hh:=h.here
 have h1:=h.high (k+1) (by omega)
 have hm:o.getD k 0 % B<B:=Nat.mod_lt _ (by omega)
 have hdm:=Nat.div_add_mod (o.getD k 0) B
 have hc:o.getD k 0 / B≤2:=by
  have:=(Nat.div_lt_iff_lt_mul (by omega:0<B)).2 (show o.getD k 0<3*B by omega)
  omega
 generalize hC:o.getD k 0 / B=C at *
 generalize hM:o.getD k 0 % B=Mo at *
 refine ⟨by simp[hl],fun j hj=>?_,?_,fun j hj=>?_,?_⟩
 ·by_cases e:j=k
  ·subst e;rw[set_getD_same _ _ _ (by simp;omega)];exact hm
  ·rw[set_getD_other _ _ _ _ e,set_getD_other _ _ _ _ (by omega)];exact h.low j (by omega)
 ·rw[set_getD_other _ _ _ _ (by omega),set_getD_same _ _ _ (by omega)];omega
 ·rw[set_getD_other _ _ _ _ (by omega),set_getD_other _ _ _ _ (by omega)];exact h.high j (by omega)
 ·have h3:=rval_set B (o.set (k+1) (o.getD (k+1) 0+C)) k Mo (by simp;omega)
  rw[set_getD_other _ _ _ _ (by omega)]at h3
  have h4:=rval_set B o (k+1) (o.getD (k+1) 0+C) (by omega)
  have e1:B ^ (k+1)*C=B ^ k*(B*C):=by rw[Nat.pow_succ,Nat.mul_assoc]
  have e2:B ^ k*(B*C)+B ^ k*Mo=B ^ k*o.getD k 0:=by rw[← Nat.mul_add,hdm]
  have h2:=h.v
  rw[Nat.mul_add]at h4
  omega
theorem RNorm.done {B n:Nat}{o:List Nat}{m k:Nat}(h:RNorm B n o m k) (hB:1<B) (hk:k+1=n) (hm:m<B ^ k):dig B o∧val B o=m:=by
 refine ⟨dig_of_getD fun j hj=>?_,h.v⟩
 have hl:=h.len
 by_cases e:j=k
 ·subst e
  have h1:=val_split B o j
  rw[h.v]at h1
  have h2:=val_drop_step B o j
  rw[show o.drop (j+1) = []from List.drop_of_length_le (by omega)]at h2
  simp only[val_nil,Nat.mul_zero,Nat.add_zero]at h2
  rw[h2]at h1
  have h3:B ^ j*o.getD j 0<B ^ j:=by omega
  rcases Nat.eq_zero_or_pos (o.getD j 0)with h4|h4
  ·omega
  ·have:=Nat.le_mul_of_pos_right (B ^ j) h4
   omega
 ·exact h.low j (by omega)
theorem RMul.norm {B:Nat}{a b o:List Nat}(h:RMul B a b o a.length 0):RNorm B (a.length+b.length+1) o (val B a*val B b) 0:=
 ⟨h.len,fun j hj=>by omega,Nat.le_trans (h.all rfl 0) (by omega),fun j _=>h.all rfl j,by
  rw[h.v,val_take_all B a _ (Nat.le_refl _)];simp[val]⟩
theorem RMul.top {B:Nat}{a b:List Nat}(hB:0<B) (ha:dig B a) (hb:dig B b):val B a*val B b<B ^ (a.length+b.length):=by
 rw[Nat.pow_add]
 exact Nat.mul_lt_mul'' (val_lt hB ha) (val_lt hB hb)
def valI (B:Nat):List Int→Int
 | []=>0
 | d :: ds=>d+B*valI B ds
theorem valI_set (B:Nat) (o:List Int) (k:Nat) (d:Int) (h:k<o.length):valI B (o.set k d)+(B ^ k:Nat)*o.getD k 0=valI B o+(B ^ k:Nat)*d:=by
 induction o generalizing k with
 | nil=>simp at h
 | cons x o ih=>
   cases k with
   | zero=>simp[valI];omega
   | succ k=>
     have h1:=ih k (by simpa using h)
     have e:=congrArg ((B:Int) * ·) h1
     simp only[Int.mul_add]at e
     simp only[List.set_cons_succ,valI,List.getD_cons_succ,Nat.pow_succ,Int.natCast_mul]
     have e1:∀ y:Int,((B ^ k:Nat):Int)*B*y=B*((B ^ k:Nat)*y):=fun y=>by rw[Int.mul_comm ((B ^ k:Nat):Int) B,Int.mul_assoc]
     rw[e1,e1]
     omega
theorem valI_nat (B:Nat) (l:List Nat):valI B (l.map fun (d:Nat)=>(d:Int))=val B l:=by
 induction l with
 | nil=>rfl
 | cons d l ih=>simp only[List.map_cons,valI,val_cons,ih];simp
theorem isetD_same (o:List Int) (k:Nat) (d:Int) (h:k<o.length):(o.set k d).getD k 0=d:=by
 simp[List.getD_eq_getElem?_getD,h]
theorem isetD_other (o:List Int) (k j:Nat) (d:Int) (h:j≠k):(o.set k d).getD j 0=o.getD j 0:=by
 simp[List.getD_eq_getElem?_getD,List.getElem?_set_ne (Ne.symm h)]
structure RSub (B:Nat) (a b:List Nat) (o:List Int) (k:Nat):Prop where
 len:o.length=a.length
 low:∀ j,j<k→0≤o.getD j 0∧o.getD j 0<B
 here:o.getD k 0=a.getD k 0∨o.getD k 0=(a.getD k 0:Int) - 1
 high:∀ j,k<j→o.getD j 0=a.getD j 0
 v:valI B o=(val B a:Int) - (val B (b.take k):Nat)
theorem map_getD_int (a:List Nat) (j:Nat):(a.map fun (d:Nat)=>(d:Int)).getD j 0=(a.getD j 0:Nat):=by
 simp only[List.getD_eq_getElem?_getD,List.getElem?_map]
 cases a[j]?<;>rfl
theorem RSub.start (B:Nat) (a b:List Nat):RSub B a b (a.map fun (d:Nat)=>(d:Int)) 0:=
 ⟨by simp,fun j h=>by omega,.inl (map_getD_int a 0),fun j _=>map_getD_int a j,by rw[valI_nat];simp[val]⟩
theorem RSub.plain {B:Nat}{a b:List Nat}{o:List Int}{k:Nat}(h:RSub B a b o k) (ha:dig B a) (hB:0<B) (hk:k<a.length) (ht:0≤o.getD k 0 - (b.getD k 0:Nat)) :
 RSub B a b (o.set k (o.getD k 0 - (b.getD k 0:Nat))) (k+1):=by
 have hl:=h.len
 have b1:=dig_getD ha hB k
 refine ⟨by simp[hl],fun j hj=>?_,?_,fun j hj=>?_,?_⟩
 ·by_cases e:j=k
  ·subst e;rw[isetD_same _ _ _ (by omega)]
   refine ⟨ht,?_⟩
   rcases h.here with h1|h1<;>omega
  ·rw[isetD_other _ _ _ _ e];exact h.low j (by omega)
 ·rw[isetD_other _ _ _ _ (by omega)];exact .inl (h.high _ (by omega))
 ·rw[isetD_other _ _ _ _ (by omega)];exact h.high j (by omega)
 ·have h1:=valI_set B o k (o.getD k 0 - (b.getD k 0:Nat)) (by omega)
  have h2:=h.v
  rw[val_take_step,Int.natCast_add,Int.natCast_mul]
  rw[Int.mul_sub]at h1
  omega
theorem valI_low {B:Nat}(hB:0<B):∀ (o:List Int),(∀ j,j<o.length→0≤o.getD j 0∧o.getD j 0<B)→0≤valI B o∧valI B o<(B ^ o.length:Nat):=by
 intro o
 induction o with
 | nil=>intro _;simp[valI]
 | cons x o ih=>
   intro h
   obtain ⟨h1,h2⟩:=ih fun j hj=>by have:=h (j+1) (by simpa using hj);simpa using this
   have h0:=h 0 (by simp)
   simp only[List.getD_cons_zero]at h0
   simp only[valI,List.length_cons,Nat.pow_succ,Int.natCast_mul]
   have h3:(0:Int)≤B*valI B o:=Int.mul_nonneg (by omega) h1
   have h4:(B:Int)*(valI B o+1)≤B*(B ^ o.length:Nat):=Int.mul_le_mul_of_nonneg_left (by omega) (by omega)
   rw[Int.mul_add]at h4
   rw[Int.mul_comm _ (B:Int)]
   omega
theorem valI_snoc (B:Nat) (o:List Int) (d:Int):valI B (o ++ [d])=valI B o+(B ^ o.length:Nat)*d:=by
 induction o with
 | nil=>simp[valI]
 | cons x o ih=>
   simp only[List.cons_append,valI,ih,List.length_cons,Nat.pow_succ,Int.natCast_mul]
   rw[Int.mul_add,← Int.mul_assoc,Int.mul_comm (B:Int) ((B ^ o.length:Nat):Int)]
   omega
theorem RSub.back {B:Nat}{a b:List Nat}{o:List Int}{k:Nat}(h:RSub B a b o k) (hB:1<B) (ha:dig B a) (hb:dig B b) (hle:val B b≤val B a) (hbl:b.length≤a.length) (hk:k<a.length) (ht:o.getD k 0 - (b.getD k 0:Nat)<0) :
 k+1<a.length∧o.getD (k+1) 0=a.getD (k+1) 0∧RSub B a b ((o.set k (o.getD k 0 - (b.getD k 0:Nat)+B)).set (k+1) (a.getD (k+1) 0 - 1)) (k+1):=by
 have hl:=h.len
 have b1:=dig_getD ha (by omega) k
 have b2:=dig_getD hb (by omega) k
 have h1:=valI_set B o k (o.getD k 0 - (b.getD k 0:Nat)) (by omega)
 have h2:=h.v
 rw[Int.mul_sub]at h1
 have h6:valI B (o.set k (o.getD k 0 - (b.getD k 0:Nat)))=(val B a:Int) - (val B (b.take (k+1)):Nat):=by
  rw[val_take_step,Int.natCast_add,Int.natCast_mul]
  omega
 have hk1:k+1<a.length:=by
  rcases Nat.lt_or_ge (k+1) a.length with h5|h5
  ·exact h5
  ·exfalso
   have hke:k+1=a.length:=by omega
   rw[val_take_all B b (k+1) (by omega)]at h6
   have hsp:o.set k (o.getD k 0 - (b.getD k 0:Nat))=o.take k ++ [o.getD k 0 - (b.getD k 0:Nat)]:=by
    rw[List.set_eq_take_append_cons_drop,if_pos (by omega),List.drop_of_length_le (by omega)]
   have hlow:=valI_low (B:=B) (by omega) (o.take k) (fun j hj=>by
    have hj':j<k:=by rw[List.length_take]at hj;omega
    have:=h.low j hj'
    rwa [List.getD_eq_getElem?_getD,List.getElem?_take,if_pos hj',← List.getD_eq_getElem?_getD])
   rw[hsp,valI_snoc]at h6
   have hlt:(o.take k).length=k:=by rw[List.length_take];omega
   rw[hlt]at h6 hlow
   have h7:((B ^ k:Nat):Int)*(o.getD k 0 - (b.getD k 0:Nat))≤((B ^ k:Nat):Int)*(-1):=Int.mul_le_mul_of_nonneg_left (by omega) (by omega)
   omega
 refine ⟨hk1,h.high _ (by omega),by simp[hl],fun j hj=>?_,?_,fun j hj=>?_,?_⟩
 ·rw[isetD_other _ _ _ _ (by omega)]
  by_cases e:j=k
  ·subst e;rw[isetD_same _ _ _ (by omega)]
   rcases h.here with h5|h5<;>omega
  ·rw[isetD_other _ _ _ _ e];exact h.low j (by omega)
 ·rw[isetD_same _ _ _ (by simp;omega)];exact .inr rfl
 ·rw[isetD_other _ _ _ _ (by omega),isetD_other _ _ _ _ (by omega)];exact h.high j (by omega)
 ·have h3:=valI_set B (o.set k (o.getD k 0 - (b.getD k 0:Nat)+B)) (k+1) (a.getD (k+1) 0 - 1) (by simp;omega)
  rw[isetD_other _ _ _ _ (by omega),h.high (k+1) (by omega)]at h3
  have h4:=valI_set B o k (o.getD k 0 - (b.getD k 0:Nat)+B) (by omega)
  rw[val_take_step,Int.natCast_add,Int.natCast_mul]
  rw[Nat.pow_succ,Int.natCast_mul]at h3
  simp only[Int.mul_add,Int.mul_sub,Int.mul_one]at h3 h4
  omega
theorem RSub.done {B:Nat}{a b:List Nat}{o:List Int}(h:RSub B a b o a.length) (hle:val B b≤val B a) (hbl:b.length≤a.length) :
 ∃ l:List Nat,o=l.map (fun (d:Nat)=>(d:Int))∧dig B l∧val B l=val B a - val B b:=by
 have hl:=h.len
 have hg:∀ j,j<o.length→∃ d:Nat,o[j]?=some (d:Int)∧d<B:=fun j hj=>by
  have:=h.low j (by omega)
  rw[List.getD_eq_getElem?_getD,List.getElem?_eq_getElem hj,Option.getD_some]at this
  exact ⟨(o[j]).toNat,by rw[List.getElem?_eq_getElem hj];congr 1;omega,by omega⟩
 refine ⟨o.map Int.toNat,?_,?_,?_⟩
 ·apply List.ext_getElem?
  intro j
  simp only[List.map_map,List.getElem?_map]
  rcases Nat.lt_or_ge j o.length with hj|hj
  ·obtain ⟨d,h1,_⟩:=hg j hj
   rw[h1];simp
  ·rw[List.getElem?_eq_none hj];rfl
 ·intro d hd
  obtain ⟨x,hx,rfl⟩:=List.mem_map.1 hd
  obtain ⟨j,hj⟩:=List.getElem?_of_mem hx
  have hj':=(List.getElem?_eq_some_iff.1 hj).1
  obtain ⟨e,h1,h2⟩:=hg j hj'
  rw[hj]at h1
  injection h1 with h1
  subst h1
  simpa using h2
 ·have e:(o.map Int.toNat).map (fun (d:Nat)=>(d:Int))=o:=by
   apply List.ext_getElem?
   intro j
   simp only[List.map_map,List.getElem?_map]
   rcases Nat.lt_or_ge j o.length with hj|hj
   ·obtain ⟨d,h1,_⟩:=hg j hj
    rw[h1];simp
   ·rw[List.getElem?_eq_none hj];rfl
  have h1:=valI_nat B (o.map Int.toNat)
  rw[e,h.v,val_take_all B b _ hbl]at h1
  omega
structure RDiv (B b:Nat) (a q:List Nat) (i r:Nat):Prop where
 len:q.length=a.length
 dg:dig B q
 low:∀ j,j<i→q.getD j 0=0
 lt:r<b
 v:val B (a.drop i)=b*val B (q.drop i)+r
theorem RDiv.start {B b:Nat}(hB:0<B) (hb:0<b) (a:List Nat):RDiv B b a (List.replicate a.length 0) a.length 0:=
 ⟨by simp,dig_replicate hB _,fun j _=>rgetD_zeros _ j,hb,by
  rw[List.drop_of_length_le (Nat.le_refl _),List.drop_of_length_le (by simp)];simp[val]⟩
theorem RDiv.step {B b:Nat}{a q:List Nat}{i r:Nat}(h:RDiv B b a q (i+1) r) (hB:0<B) (ha:dig B a) (hi:i<a.length) :
 (a.getD i 0+B*r) / b<B∧RDiv B b a (q.set i ((a.getD i 0+B*r) / b)) i ((a.getD i 0+B*r) % b):=by
 have hl:=h.len
 have hb:0<b:=Nat.lt_of_le_of_lt (Nat.zero_le _) h.lt
 have b1:=dig_getD ha hB i
 have hr:=h.lt
 have hlt:(a.getD i 0+B*r) / b<B:=by
  rw[Nat.div_lt_iff_lt_mul hb]
  have:B*(r+1)≤B*b:=Nat.mul_le_mul_left _ hr
  rw[Nat.mul_add]at this
  omega
 refine ⟨hlt,by simp[hl],dig_set h.dg hlt _,fun j hj=>?_,Nat.mod_lt _ hb,?_⟩
 ·rw[set_getD_other _ _ _ _ (by omega)];exact h.low j (by omega)
 ·rw[val_drop_step B a i,h.v,val_drop_step B (q.set i _) i,set_getD_same _ _ _ (by omega)]
  have e:(q.set i ((a.getD i 0+B*r) / b)).drop (i+1)=q.drop (i+1):=by
   rw[List.drop_set];simp
  rw[e]
  have:=Nat.div_add_mod (a.getD i 0+B*r) b
  rw[Nat.mul_add,Nat.mul_add,Nat.mul_left_comm b B]
  omega
theorem RDiv.done {B b:Nat}{a q:List Nat}{r:Nat}(h:RDiv B b a q 0 r):val B q=val B a / b∧r=val B a % b:=by
 have hv:=h.v
 simp only[List.drop_zero]at hv
 have hb:0<b:=Nat.lt_of_le_of_lt (Nat.zero_le _) h.lt
 rw[hv]
 constructor
 ·rw[Nat.mul_add_div hb,Nat.div_eq_of_lt h.lt];rfl
 ·rw[Nat.mul_add_mod,Nat.mod_eq_of_lt h.lt]
def Half (b r low high:Nat):Prop:=low*b≤r∧r<high*b∧1≤low∧high≤10000
theorem Half.done {b r low high:Nat}(h:Half b r low high) (hb:0<b) (h1:¬ 1<high - low):low=r / b:=by
 obtain ⟨h2,h3,_,_⟩:=h
 have h4:=(Nat.le_div_iff_mul_le hb).2 h2
 have h5:=(Nat.div_lt_iff_lt_mul hb).2 h3
 omega
structure RGet (l:List UInt8) (m:Nat) (n:List Nat) (w d:Nat):Prop where
 le:m≤l.length
 ok:∀ c∈l.drop m,isDig c=true
 dg:dig 10000 n
 wd:w=1∨w=10∨w=100∨w=1000
 dw:d<w
 nl:n.length+m≤l.length
 v:val 10000 n+10000 ^ n.length*d=numOf 0 (l.drop m)
 p:m≠0→10000 ^ n.length*w=10 ^ (l.length - m)
theorem RGet.start (l:List UInt8):RGet l l.length [] 1 0:=
 ⟨Nat.le_refl _,by simp,dig_nil _,.inl rfl,by omega,by simp,by simp[val,numOf_nil],fun _=>by simp⟩
theorem RGet.value {l:List UInt8}{m:Nat}{n:List Nat}{w d:Nat}(h:RGet l (m+1) n w d) {c:UInt8}(hc:l[m]?=some c) :
 l.drop m=c :: l.drop (m+1)∧numOf 0 (l.drop m)=val 10000 n+10000 ^ n.length*(d+(c.toNat - 48)*w):=by
 have hm:=(List.getElem?_eq_some_iff.1 hc).1
 have e:l.drop m=c :: l.drop (m+1):=by
  rw[List.drop_eq_getElem_cons hm]
  congr 1
  rw[List.getElem?_eq_getElem hm]at hc
  injection hc
 refine ⟨e,?_⟩
 rw[e,numOf_cons,numOf_acc,← h.v,List.length_drop,← h.p (by omega)]
 rw[Nat.zero_mul,Nat.zero_add,Nat.mul_add,Nat.mul_left_comm (10000 ^ n.length)]
 omega
theorem RGet.bound {l:List UInt8}{m:Nat}{n:List Nat}{w d:Nat}(h:RGet l (m+1) n w d) {c:UInt8}(hd:isDig c=true):d+(c.toNat - 48)*w<10*w:=by
 have h1:=isDig_iff.1 hd
 have h2:=h.dw
 have h3:(c.toNat - 48)*w≤9*w:=Nat.mul_le_mul_right _ (by omega)
 omega
theorem RGet.more {l:List UInt8}{m:Nat}{n:List Nat}{w d:Nat}(h:RGet l (m+1) n w d) {c:UInt8}(hc:l[m]?=some c) (hd:isDig c=true) (hw:w*10≠10000) (hm:m≠0) :
 RGet l m n (w*10) (d+(c.toNat - 48)*w):=by
 obtain ⟨e,hv⟩:=h.value hc
 have hb:=h.bound hd
 have hl:=h.le
 refine ⟨by omega,fun x hx=>?_,h.dg,?_,by omega,by have:=h.nl;omega,hv.symm,fun _=>?_⟩
 ·rw[e]at hx
  rcases List.mem_cons.1 hx with rfl|hx
  ·exact hd
  ·exact h.ok x hx
 ·rcases h.wd with h1|h1|h1|h1<;>omega
 ·rw[← Nat.mul_assoc,h.p (by omega),show l.length - m=l.length - (m+1)+1 by omega,Nat.pow_succ]
theorem RGet.put {l:List UInt8}{m:Nat}{n:List Nat}{w d:Nat}(h:RGet l (m+1) n w d) {c:UInt8}(hc:l[m]?=some c) (hd:isDig c=true) (hw:w*10=10000∨m=0) :
 RGet l m (n ++ [d+(c.toNat - 48)*w]) 1 0:=by
 obtain ⟨e,hv⟩:=h.value hc
 have hb:=h.bound hd
 have hl:=h.le
 refine ⟨by omega,fun x hx=>?_,dig_append.2 ⟨h.dg,dig_cons.2 ⟨?_,dig_nil _⟩⟩,.inl rfl,by omega,by have:=h.nl;simp;omega,?_,fun hm=>?_⟩
 ·rw[e]at hx
  rcases List.mem_cons.1 hx with rfl|hx
  ·exact hd
  ·exact h.ok x hx
 ·rcases h.wd with h1|h1|h1|h1<;>omega
 ·rw[val_snoc,hv,Nat.mul_zero,Nat.add_zero]
 ·rw[List.length_append,show ([d+(c.toNat - 48)*w]:List Nat).length=1 from rfl,Nat.pow_add,Nat.pow_one,Nat.mul_one]
  have h1:=h.p (by omega)
  have h2:w*10=10000:=by rcases hw with h2|h2<;>omega
  rw[show l.length - m=l.length - (m+1)+1 by omega,Nat.pow_succ,← h1,Nat.mul_assoc,h2]
theorem RGet.done {l:List UInt8}{n:List Nat}{w d:Nat}(h:RGet l 0 n w d) (hd:d=0):(∀ c∈l,isDig c=true)∧val 10000 n=numOf 0 l:=by
 have h1:=h.ok;have h2:=h.v
 simp only[List.drop_zero,hd,Nat.mul_zero,Nat.add_zero]at h1 h2
 exact ⟨h1,h2⟩
theorem pad_front (k r:Nat):pad (k+1) r=UInt8.ofNat (48+r / 10 ^ k % 10) :: pad k r:=by
 induction k generalizing r with
 | zero=>simp[pad]
 | succ k ih=>
   have e:pad (k+1+1) r=pad (k+1) (r / 10) ++ [UInt8.ofNat (48+r % 10)]:=rfl
   rw[e,ih (r / 10),Nat.div_div_eq_div_mul,Nat.pow_succ,Nat.mul_comm (10 ^ k) 10]
   rfl
def txt (l:List Nat):List UInt8:=l.foldl (fun s x=>pad 4 x ++ s) []
theorem txt_nil:txt [] = []:=rfl
theorem txt_snoc (l:List Nat) (x:Nat):txt (l ++ [x])=pad 4 x ++ txt l:=by unfold txt;rw[List.foldl_append];rfl
theorem txt_take (l:List Nat) (k:Nat) (h:k<l.length):txt (l.take (k+1))=pad 4 (l.getD k 0) ++ txt (l.take k):=by
 rw[take_snoc_getD l k h,txt_snoc]
theorem txt_length (l:List Nat):(txt l).length=4*l.length:=by
 rcases List.eq_nil_or_concat l with rfl|⟨m,d,rfl⟩
 ·rfl
 ·rw[List.concat_eq_append,txt_snoc,List.length_append,pad_length,txt_length m,List.length_append]
  simp;omega
termination_by l.length
decreasing_by all_goals simp_all
theorem dec_txt (m:List Nat) (hm:dig 10000 m) (D:Nat) (hD:0<D):Lib.decDigits (val 10000 m+10000 ^ m.length*D)=Lib.decDigits D ++ txt m:=by
 rcases List.eq_nil_or_concat m with rfl|⟨m,x,rfl⟩
 ·simp[val,txt_nil]
 ·rw[List.concat_eq_append]at hm ⊢
  obtain ⟨h1,h2⟩:=dig_append.1 hm
  have hx:=(dig_cons.1 h2).1
  rw[val_snoc,List.length_append,show ([x]:List Nat).length=1 from rfl,Nat.pow_add,Nat.pow_one,Nat.mul_assoc,Nat.add_assoc,← Nat.mul_add,dec_txt m h1 (x+10000*D) (by omega),txt_snoc]
  have:=dec_pad D 4 x hD (by omega)
  rw[show D*10 ^ 4+x=x+10000*D by omega]at this
  rw[this,List.append_assoc]
termination_by m.length
decreasing_by all_goals simp_all
theorem pad_top (k D:Nat) (hk:0<D / 10 ^ k) (h:D / 10 ^ (k+1)=0):pad (k+1) D=Lib.decDigits D:=by
 have hp:0<10 ^ (k+1):=Nat.pow_pos (by omega)
 have hlt:D<10 ^ (k+1):=by
  rcases Nat.lt_or_ge D (10 ^ (k+1))with h1|h1
  ·exact h1
  ·have:=Nat.div_pos h1 hp;omega
 have hge:10 ^ k≤D:=by
  rcases Nat.lt_or_ge D (10 ^ k)with h1|h1
  ·rw[Nat.div_eq_of_lt h1]at hk;omega
  ·exact h1
 have hl:k+1≤(Lib.decDigits D).length:=by
  have h1:=numOf_lt (Lib.decDigits D) (dec_isDig D)
  rw[numOf_dec]at h1
  have h2:=(Nat.pow_lt_pow_iff_right (by omega:1<10)).1 (Nat.lt_of_le_of_lt hge h1)
  omega
 rw[pad_dec k D hlt,show k+1 - (Lib.decDigits D).length=0 by omega]
 rfl
end Vic
