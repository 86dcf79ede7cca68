/- Plain text: a number in decimal digits, written and read by nine digits at once. -/
import Derived.Lib.ItoaNum
import Derived.Lib.ParseIntB
import Derived.Lib.SlTrimSet
import Derived.Lib.Repeat
import Derived.Test.YtbdfhnelmojbpaaGreatDoorRap
import Derived.Deep.Draws
import Derived.Laws.AppendOwn
import Derived.Deep.RegionLaw
import Derived.Maps.AppendAt
import Derived.Test.YtbdfhnelmojbpaaGreatDoorRaq
set_option linter.unusedVariables false
set_option linter.unusedSimpArgs false
section
namespace Vic
open Go
def pad:Nat→Nat→List UInt8
 | 0,_=>[]
 | k+1,r=>pad k (r / 10) ++ [UInt8.ofNat (48+r % 10)]
theorem pad_length (k r:Nat):(pad k r).length=k:=by
 induction k generalizing r with
 | zero=>rfl
 | succ k ih=>simp[pad,ih]
theorem pad_zero (k:Nat):pad k 0=List.replicate k 48:=by
 induction k with
 | zero=>rfl
 | succ k ih=>
   have:pad (k+1) 0=pad k 0 ++ [48]:=rfl
   rw[this,ih,← List.replicate_succ']
theorem dec_big {u:Nat}(h:10≤u):Lib.decDigits u=Lib.decDigits (u / 10) ++ [UInt8.ofNat (48+u % 10)]:=by
 rw[Lib.decDigits,dif_neg (by omega)]
theorem dec_small {u:Nat}(h:u<10):Lib.decDigits u = [UInt8.ofNat (48+u)]:=by
 rw[Lib.decDigits,dif_pos h]
theorem dec_pad (m k r:Nat) (hm:0<m) (hr:r<10 ^ k):Lib.decDigits (m*10 ^ k+r)=Lib.decDigits m ++ pad k r:=by
 induction k generalizing r with
 | zero=>simp only[Nat.pow_zero]at hr ⊢;obtain rfl:r=0:=by omega
         simp[pad]
 | succ k ih=>
   have hp:0<10 ^ k:=Nat.pow_pos (by omega)
   have e:m*10 ^ (k+1)+r=10*(m*10 ^ k)+r:=by rw[Nat.pow_succ];rw[← Nat.mul_assoc,Nat.mul_comm]
   have hb:0<m*10 ^ k:=Nat.mul_pos hm hp
   rw[e,dec_big (by omega)]
   have e1:(10*(m*10 ^ k)+r) / 10=m*10 ^ k+r / 10:=by omega
   have e2:(10*(m*10 ^ k)+r) % 10=r % 10:=by omega
   rw[e1,e2,ih (r / 10) (by rw[Nat.pow_succ]at hr;omega)]
   simp[pad]
theorem pad_dec (k r:Nat) (hr:r<10 ^ (k+1)):pad (k+1) r=List.replicate (k+1 - (Lib.decDigits r).length) 48 ++ Lib.decDigits r:=by
 induction k generalizing r with
 | zero=>
   rw[dec_small (by simpa using hr)]
   simp only[Nat.zero_add,Nat.pow_one]at hr
   simp[pad,Nat.mod_eq_of_lt hr]
 | succ k ih=>
   by_cases h:r<10
   ·rw[dec_small h]
    show pad (k+1) (r / 10) ++ [UInt8.ofNat (48+r % 10)]=_
    rw[show r / 10=0 by omega,pad_zero,Nat.mod_eq_of_lt h]
    simp
   ·rw[dec_big (by omega)]
    show pad (k+1) (r / 10) ++ [UInt8.ofNat (48+r % 10)]=_
    rw[ih (r / 10) (by rw[Nat.pow_succ]at hr;omega)]
    simp
structure TextInv (n m:Nat) (s:List UInt8):Prop where
 le:m≤n
 open_:0<m→Lib.decDigits n=Lib.decDigits m ++ s
 shut:m=0→(n=0∧s = [])∨(0<n∧s=Lib.decDigits n)
theorem TextInv.start (n:Nat):TextInv n n []:=⟨Nat.le_refl _,fun _=>by simp,fun h=>.inl ⟨h,rfl⟩⟩
theorem TextInv.go {n m:Nat}{s:List UInt8}(h:TextInv n m s) (hm:0<m) (hq:0<m / 1000000000):TextInv n (m / 1000000000) (List.replicate (9 - (Lib.decDigits (m % 1000000000)).length) 48 ++ Lib.decDigits (m % 1000000000) ++ s):=by
 have e:m=m / 1000000000*10 ^ 9+m % 1000000000:=by omega
 have h1:=dec_pad (m / 1000000000) 9 (m % 1000000000) hq (by omega)
 rw[← e,pad_dec 8 _ (by omega)]at h1
 have hl:=h.le
 refine ⟨by omega,fun _=>?_,fun h0=>by omega⟩
 rw[h.open_ hm,h1]
 simp
theorem TextInv.last {n m:Nat}{s:List UInt8}(h:TextInv n m s) (hm:0<m) (hq:m / 1000000000=0):TextInv n 0 (Lib.decDigits (m % 1000000000) ++ s):=by
 have hl:=h.le
 refine ⟨Nat.zero_le _,fun h0=>by omega,fun _=>.inr ⟨by omega,?_⟩⟩
 rw[show m % 1000000000=m by omega,h.open_ hm]
theorem dec_ne (n:Nat):Lib.decDigits n≠[]:=by
 rw[Lib.decDigits];split<;>simp
theorem TextInv.done {n:Nat}{s:List UInt8}(h:TextInv n 0 s):(s = []→Lib.decDigits n = [48])∧(s≠[]→s=Lib.decDigits n):=by
 rcases h.shut rfl with ⟨h1,h2⟩|⟨h1,h2⟩
 ·exact ⟨fun _=>by rw[h1,dec_small (by omega)];rfl,fun h3=>absurd h2 h3⟩
 ·exact ⟨fun h3=>absurd (h2.symm.trans h3) (dec_ne n),fun _=>h2⟩
theorem TextInv.len {n m:Nat}{s:List UInt8}(h:TextInv n m s):s.length≤(Lib.decDigits n).length:=by
 rcases Nat.eq_zero_or_pos m with h0|h0
 ·rcases h.shut h0 with ⟨_,h2⟩|⟨_,h2⟩<;>rw[h2]<;>simp
 ·rw[h.open_ h0];simp
theorem dec_len {n k:Nat}(h:n<10 ^ (k+1)):(Lib.decDigits n).length≤k+1:=by
 have h1:=congrArg List.length (pad_dec k n h)
 rw[pad_length,List.length_append,List.length_replicate]at h1
 omega
theorem dec_len_digs {n L:Nat}(h:n<4294967296 ^ L):(Lib.decDigits n).length≤10*L+1:=by
 apply dec_len
 have h1:4294967296 ^ L≤(10 ^ 10) ^ L:=Nat.pow_le_pow_left (by omega) L
 rw[← Nat.pow_mul]at h1
 have h2:10 ^ (10*L)≤10 ^ (10*L+1):=Nat.pow_le_pow_right (by omega) (by omega)
 omega
theorem rep_one (b:UInt8) (k:Nat):Lib.repeatL [b] k=List.replicate k b:=by
 induction k with
 | zero=>rfl
 | succ k ih=>rw[List.replicate_succ,← ih];rfl
def isDig (c:UInt8):Bool:=decide (48≤c.toNat) && decide (c.toNat≤57)
theorem isDig_iff {c:UInt8}:isDig c=true↔48≤c.toNat∧c.toNat≤57:=by simp[isDig]
def numOf (acc:Nat) (l:List UInt8):Nat:=l.foldl (fun a c=>a*10+(c.toNat - 48)) acc
theorem numOf_nil (acc:Nat):numOf acc []=acc:=rfl
theorem numOf_append (acc:Nat) (a b:List UInt8):numOf acc (a ++ b)=numOf (numOf acc a) b:=List.foldl_append
theorem numOf_cons (acc:Nat) (c:UInt8) (r:List UInt8):numOf acc (c :: r)=numOf (acc*10+(c.toNat - 48)) r:=List.foldl_cons ..
theorem acc_step (a d p n:Nat):(a*10+d)*p+n=a*(p*10)+((0*10+d)*p+n):=by
 rw[Nat.add_mul,Nat.zero_mul,Nat.zero_add,Nat.mul_assoc,Nat.mul_comm 10,Nat.add_assoc]
theorem numOf_acc (acc:Nat) (l:List UInt8):numOf acc l=acc*10 ^ l.length+numOf 0 l:=by
 induction l generalizing acc with
 | nil=>rw[List.length_nil,Nat.pow_zero,Nat.mul_one,numOf_nil,numOf_nil,Nat.add_zero]
 | cons c r ih=>
   rw[numOf_cons,numOf_cons 0,List.length_cons,Nat.pow_succ]
   generalize c.toNat - 48=d
   have h1:=ih (acc*10+d)
   have h2:=ih (0*10+d)
   rw[h1,h2]
   exact acc_step _ _ _ _
theorem numOf_lt (l:List UInt8) (h:∀ c∈l,isDig c=true):numOf 0 l<10 ^ l.length:=by
 induction l with
 | nil=>rw[numOf_nil];simp
 | cons c r ih=>
   rw[numOf_cons,numOf_acc,List.length_cons,Nat.pow_succ]
   have h1:=isDig_iff.1 (h c (by simp))
   have h2:=ih fun x hx=>h x (by simp[hx])
   have h3:(0*10+(c.toNat - 48))*10 ^ r.length≤9*10 ^ r.length:=Nat.mul_le_mul_right _ (by omega)
   omega
theorem parseM_ok (l:List UInt8) (h:∀ c∈l,isDig c=true) (acc j:Nat) (ha:acc<10 ^ j) (hj:l.length+j≤9):Lib.parseUintM 4294967295 acc l=.ok (numOf acc l):=by
 induction l generalizing acc j with
 | nil=>rfl
 | cons c r ih=>
   have h1:=isDig_iff.1 (h c (by simp))
   rw[List.length_cons]at hj
   have h2:(10:Nat) ^ (j+1)≤10 ^ 9:=Nat.pow_le_pow_right (by omega) (by omega)
   have h4:(10:Nat) ^ (j+1)=10 ^ j*10:=Nat.pow_succ _ _
   have h3:acc*10+(c.toNat - 48)<10 ^ (j+1):=by omega
   rw[Lib.parseUintM,if_pos h1,if_neg (by omega),if_neg (by omega)]
   exact ih (fun x hx=>h x (by simp[hx])) _ (j+1) h3 (by omega)
theorem parse32_ok (l:List UInt8) (h:∀ c∈l,isDig c=true) (h0:l≠[]) (h9:l.length≤9):Lib.parseUintB 32 l=.ok (numOf 0 l):=by
 rw[Lib.parseUintB,if_neg h0]
 exact parseM_ok l h 0 0 (by simp) (by omega)
theorem byte_dig {n:Nat}(h:n<10):(UInt8.ofNat (48+n)).toNat=48+n:=by
 rw[UInt8.toNat_ofNat'];omega
theorem numOf_dec (n:Nat):numOf 0 (Lib.decDigits n)=n:=by
 induction n using Nat.strongRecOn with
 | _ n ih=>
   by_cases h:n<10
   ·rw[dec_small h]
    rw[numOf_cons,numOf_nil,byte_dig h];omega
   ·rw[dec_big (by omega),numOf_append,ih (n / 10) (by omega)]
    rw[numOf_cons,numOf_nil,byte_dig (by omega)];omega
theorem dec_isDig (n:Nat):∀ c∈Lib.decDigits n,isDig c=true:=by
 induction n using Nat.strongRecOn with
 | _ n ih=>
   by_cases h:n<10
   ·rw[dec_small h]
    intro c hc
    simp only[List.mem_singleton]at hc
    rw[hc,isDig_iff,byte_dig h];omega
   ·rw[dec_big (by omega)]
    intro c hc
    rcases List.mem_append.1 hc with h1|h1
    ·exact ih (n / 10) (by omega) c h1
    ·simp only[List.mem_singleton]at h1
     rw[h1,isDig_iff,byte_dig (by omega)];omega
def Canon (l:List UInt8):Prop:=l≠[]∧(∀ c∈l,isDig c=true)∧(l.length=1∨l.head?≠some 48)
theorem dig_byte {c:UInt8}(h:isDig c=true):UInt8.ofNat (48+(c.toNat - 48))=c:=by
 have:=isDig_iff.1 h
 rw[show 48+(c.toNat - 48)=c.toNat by omega]
 exact UInt8.ofNat_toNat
theorem canon_pos {l:List UInt8}(h:Canon l) (hl:2≤l.length∨l≠[48]):0<numOf 0 l:=by
 obtain ⟨h0,h1,h2⟩:=h
 match l,h0,h1,h2,hl with
 | c :: r,_,h1,h2,hl=>
   have hc:=isDig_iff.1 (h1 c (by simp))
   have hne:c≠48:=by
    rintro rfl
    rcases h2 with h2|h2
    ·simp at h2;subst h2;simp at hl
    ·simp at h2
   have hc2:c.toNat≠48:=fun h=>hne (UInt8.toNat_inj.1 h)
   rw[numOf_cons,numOf_acc]
   have:0<(0*10+(c.toNat - 48))*10 ^ r.length:=Nat.mul_pos (by omega) (Nat.pow_pos (by omega))
   omega
theorem dec_numOf_aux (k:Nat):∀ l:List UInt8,l.length=k→Canon l→Lib.decDigits (numOf 0 l)=l:=by
 induction k with
 | zero=>intro l hl h;exact absurd (List.eq_nil_of_length_eq_zero hl) h.1
 | succ k ih=>
   intro l hl h
   have hx:l=l.dropLast ++ [l.getLast h.1]:=(List.dropLast_concat_getLast h.1).symm
   have hld:(l.dropLast).length=k:=by simp[hl]
   have hc:=h.2.1 (l.getLast h.1) (List.getLast_mem h.1)
   have hh:=isDig_iff.1 hc
   obtain ⟨c,hce⟩:∃ c,c=l.getLast h.1:=⟨_,rfl⟩
   obtain ⟨m,hme⟩:∃ m,m=l.dropLast:=⟨_,rfl⟩
   rw[← hce]at hx hc hh
   rw[← hme]at hx hld
   clear hce hme
   subst hx
   rw[numOf_append,numOf_cons,numOf_nil]
   rcases Nat.eq_zero_or_pos k with hk|hk
   ·obtain rfl:m = []:=List.eq_nil_of_length_eq_zero (by omega)
    rw[numOf_nil,dec_small (by omega),Nat.zero_mul,Nat.zero_add,dig_byte hc]
    rfl
   ·have hmne:m≠[]:=fun e=>by rw[e]at hld;simp at hld;omega
    have hhead:m.head?≠some 48:=by
     rcases h.2.2 with h3|h3
     ·simp at h3;exact absurd h3 hmne
     ·match m,hmne,h3 with
      | x :: r,_,h3=>simpa using h3
    have hm:Canon m:=⟨hmne,fun x hx=>h.2.1 x (by simp[hx]),.inr hhead⟩
    have hp:0<numOf 0 m:=canon_pos hm (by
     right;intro e;rw[e]at hhead;simp at hhead)
    rw[dec_big (by omega),show (numOf 0 m*10+(c.toNat - 48)) / 10=numOf 0 m by omega,show (numOf 0 m*10+(c.toNat - 48)) % 10=c.toNat - 48 by omega,ih m hld hm,dig_byte hc]
theorem dec_numOf {l:List UInt8}(h:Canon l):Lib.decDigits (numOf 0 l)=l:=dec_numOf_aux l.length l rfl h
theorem dec_head {n:Nat}(h:0<n):(Lib.decDigits n).head?≠some 48:=by
 induction n using Nat.strongRecOn with
 | _ n ih=>
   by_cases h1:n<10
   ·rw[dec_small h1]
    intro e
    simp only[List.head?_cons,Option.some.injEq]at e
    have:=congrArg UInt8.toNat e
    rw[byte_dig h1]at this
    simp at this;omega
   ·rw[dec_big (by omega),List.head?_append]
    have h3:=ih (n / 10) (by omega) (by omega)
    have h4:=dec_ne (n / 10)
    generalize Lib.decDigits (n / 10)=l at *
    match l,h4,h3 with
    | x :: r,_,h3=>simpa using h3
theorem dec_canon (n:Nat):Canon (Lib.decDigits n):=by
 refine ⟨dec_ne n,dec_isDig n,?_⟩
 rcases Nat.eq_zero_or_pos n with h|h
 ·subst h;exact .inl (by rw[dec_small (by omega)];rfl)
 ·exact .inr (dec_head h)
def tenDigs:List UInt8:=[48,49,50,51,52,53,54,55,56,57]
set_option maxRecDepth 10000 in
theorem ten_fin:∀ n:Fin 256,tenDigs.contains (UInt8.ofNat n.val)=isDig (UInt8.ofNat n.val):=by decide
theorem ten_iff (c:UInt8):tenDigs.contains c=isDig c:=by
 have:=ten_fin ⟨c.toNat,c.toNat_lt⟩
 simpa using this
theorem dropWhile_nil {p:UInt8→Bool}{l:List UInt8}:l.dropWhile p = []↔∀ c∈l,p c=true:=by
 induction l with
 | nil=>simp
 | cons c r ih=>
   rw[List.dropWhile_cons]
   by_cases h:p c=true
   ·rw[if_pos h,ih];simp[h]
   ·rw[if_neg h];simp[h]
theorem trim_digs (l:List UInt8):Lib.trimS l tenDigs = []↔∀ c∈l,isDig c=true:=by
 unfold Lib.trimS Lib.trimRightS Lib.trimLeftS
 have e:(fun c=>tenDigs.contains c)=isDig:=funext ten_iff
 rw[e]
 constructor
 ·intro h
  rw[dropWhile_nil]at h
  have h1:l.reverse.dropWhile isDig = []:=by
   rcases hd:l.reverse.dropWhile isDig with _|⟨x,r⟩
   ·rfl
   ·have h2:isDig x=true:=h x (by rw[hd];simp)
    have h3:=List.head?_dropWhile_not isDig l.reverse
    rw[hd]at h3
    simp[h2]at h3
  exact fun c hc=>dropWhile_nil.1 h1 c (by simpa using hc)
 ·intro h
  rw[show l.reverse.dropWhile isDig = []from dropWhile_nil.2 fun c hc=>h c (by simpa using hc)]
  rfl
theorem bytes_take (l:List UInt8) (k:Nat):(⟨l.toArray⟩:ByteArray).extract 0 k=⟨(l.take k).toArray⟩:=by
 apply ByteArray.ext
 simp[ByteArray.data_extract]
theorem bytes_drop (l:List UInt8) (k n:Nat) (h:n=l.length):(⟨l.toArray⟩:ByteArray).extract k n=⟨(l.drop k).toArray⟩:=by
 subst h
 apply ByteArray.ext
 simp[ByteArray.data_extract]
 exact List.take_of_length_le (by simp)
theorem bytes_app (a b:List UInt8):(⟨a.toArray⟩ ++ ⟨b.toArray⟩:ByteArray)=⟨(a ++ b).toArray⟩:=by
 apply ByteArray.ext
 simp
end Vic
end
section
namespace Vic
open Go Go.RowKit
def upd (cur:Array Value) (oa:Nat) (l:List Nat):Array Value:=
 cur.mapIdx fun j v=>if oa≤j∧j<oa+l.length then .int .u32 ((l.getD (j - oa) 0:Nat):Int)else v
theorem upd_get (cur:Array Value) (oa:Nat) (l:List Nat) (i:Nat) (h:i<l.length) (hs:oa+l.length≤cur.size) :
 (upd cur oa l)[oa+i]?=some (.int .u32 ((l.getD i 0:Nat):Int)):=by
 simp only[upd,Array.getElem?_mapIdx]
 rw[Array.getElem?_eq_getElem (show oa+i<cur.size by omega)]
 simp only[Option.map_some]
 rw[if_pos (by omega),Nat.add_sub_cancel_left]
theorem upd_other (cur:Array Value) (oa:Nat) (l:List Nat) (j:Nat) (h:j<oa∨oa+l.length≤j):(upd cur oa l)[j]?=cur[j]?:=by
 simp only[upd,Array.getElem?_mapIdx]
 cases cur[j]? with
 | none=>rfl
 | some v=>simp only[Option.map_some];rw[if_neg (by omega)]
theorem upd_set (cur:Array Value) (oa:Nat) (l:List Nat) (i d:Nat) (h:i<l.length) :
 (upd cur oa l).setIfInBounds (oa+i) (.int .u32 (d:Int))=upd cur oa (l.set i d):=by
 apply Array.ext_getElem?
 intro j
 rw[Array.getElem?_setIfInBounds]
 simp only[upd,Array.getElem?_mapIdx,Array.size_mapIdx,List.length_set]
 by_cases hj:oa+i=j
 ·subst hj
  rw[if_pos rfl]
  by_cases hs:oa+i<cur.size
  ·rw[if_pos hs,Array.getElem?_eq_getElem hs]
   simp only[Option.map_some]
   rw[if_pos (by omega),Nat.add_sub_cancel_left]
   simp[List.getD_eq_getElem?_getD,h]
  ·rw[if_neg hs,Array.getElem?_eq_none (by omega)];rfl
 ·rw[if_neg hj]
  cases cur[j]? with
  | none=>rfl
  | some v=>
    simp only[Option.map_some]
    by_cases hin:oa≤j∧j<oa+l.length
    ·rw[if_pos hin,if_pos hin]
     have:j - oa≠i:=by omega
     simp[List.getD_eq_getElem?_getD,List.getElem?_set_ne (Ne.symm this)]
    ·rw[if_neg hin,if_neg hin]
theorem upd_self (cur:Array Value) (oa:Nat) (l:List Nat) (h:∀ i,i<l.length→cur[oa+i]?=some (.int .u32 ((l.getD i 0:Nat):Int))):upd cur oa l=cur:=by
 apply Array.ext_getElem?
 intro j
 simp only[upd,Array.getElem?_mapIdx]
 cases hc:cur[j]? with
 | none=>rfl
 | some v=>
   simp only[Option.map_some]
   split
   ·rename_i hj
    have:=h (j - oa) (by omega)
    rw[show oa+(j - oa)=j by omega,hc]at this
    exact this.symm
   ·rfl
structure Only (b:Nat) (w w':World):Prop where
 os:w'.os=w.os
 tape:w'.tape=w.tape
 output:w'.output=w.output
 size:w'.heap.size=w.heap.size
 block:∀ k,k≠b→w'.heap[k]?=w.heap[k]?
theorem Only.refl (b:Nat) (w:World):Only b w w:=⟨rfl,rfl,rfl,rfl,fun _ _=>rfl⟩
theorem Only.trans {b:Nat}{u v w:World}(h:Only b u v) (k:Only b v w):Only b u w:=
 ⟨k.os.trans h.os,k.tape.trans h.tape,k.output.trans h.output,k.size.trans h.size,fun i hi=>(k.block i hi).trans (h.block i hi)⟩
theorem Only.drewN {b:Nat}{u w:World}(h:Only b u w) (n:Nat):Only b u (w.drewN n):=⟨h.os,h.tape,h.output,h.size,h.block⟩
theorem Only.setCell {b:Nat}{u w:World}(h:Only b u w) (i:Nat) (x:Value):Only b u (w.setCell ⟨b,i,none⟩ x):=
 h.trans ⟨rfl,rfl,rfl,by simp[World.setCell],fun k hk=>Below.heap_setCell _ _ _ _ hk⟩
theorem Only.cell {b:Nat}{u w:World}(h:Only b u w) {c o:Nat}(hc:c≠b):w.cell? ⟨c,o,none⟩=u.cell? ⟨c,o,none⟩:=World.cell?_of_block (w:=u) (h.block c hc)
theorem Only.below {b B:Nat}{u w:World}(h:Only b u w) (hB:B≤b):Below B u w:=
 ⟨h.os,h.tape,h.output,by rw[h.size];exact Nat.le_refl _,fun k hk=>h.block k (by omega)⟩
theorem Row.drewN {w:World}{b:Nat}{t:TypeId}{cs:Array Value}(h:Row w b t cs) (n:Nat):Row (w.drewN n) b t cs:=h
end Vic
end
section
namespace Vic
open Go Go.RowKit
theorem setRow_only (w:World) (g:Nat) (cs:Array Value):Only g w (w.setRow g cs):=
 ⟨rfl,rfl,rfl,by simp[World.setRow],fun k hk=>setRow_other w g k cs hk⟩
theorem vals_append (k:IntKind) (z l:List Nat) (n:Nat) :
 ((vals k z).toList.take n ++ l.map (fun (d:Nat)=>Value.int k (d:Int)) ++ (vals k z).toList.drop (n+l.length)).toArray=vals k (z.take n ++ l ++ z.drop (n+l.length)):=by
 simp[vals]
theorem Row.append {P:Program}{t ty e:TypeId}{i:TypeInfo}(ht:P.underlying t=some (.slice e)) (hi:P.info? e=some i) (hsz:i.size=1) {k:IntKind}{w:World}{g:Nat}{z l:List Nat}{A:Option Addr}{n c cx:Nat}
 (hr:Row w g e (vals k z)) (hl:Ints k w (.slice A l.length cx) l) (hne:0<l.length) (hn:n+l.length≤z.length) (hc:n+l.length≤c) :
 ∃ w',(Builtin.append_ #[t,t] ty #[.slice (some ⟨g,0,none⟩) n c,.slice A l.length cx]).run P w=.ok (.slice (some ⟨g,0,none⟩) (n+l.length) c) w' ∧
   Row w' g e (vals k (z.take n ++ l ++ z.drop (n+l.length)))∧Only g w w':=by
 obtain ⟨A',c',hv,hlc,hcell⟩:=hl
 injection hv with h1 h2 h3
 subst h1;subst h3
 obtain ⟨b,o,rfl,_⟩:=hcell 0 hne
 have hcs:∀ i,i<l.length→w.cell? ⟨b,o+i,none⟩=some (.int k ((l.getD i 0:Nat):Int)):=fun i hi=>by
  obtain ⟨b',o',hb,hc⟩:=hcell i hi
  injection hb with hb
  injection hb with hb1 hb2
  subst hb1;subst hb2
  exact hc
 have hrun:=run_append_room (P:=P) w t ty e i ht hi g n c (vals k z) hr ⟨b,o,none⟩ l.length cx (l.map fun (d:Nat)=>Value.int k (d:Int)) (by simp[hsz]) (fun j u hj=>by
  have hjl:j<l.length:=by
   have:=(List.getElem?_eq_some_iff.1 hj).1
   simpa using this
  rw[show (⟨b,o,none⟩:Addr).add j=⟨b,o+j,none⟩ by simp[Addr.add],hcs j hjl,← hj]
  simp[List.getD_eq_getElem?_getD,hjl]) (fun u hu=>by
  obtain ⟨d,_,rfl⟩:=List.mem_map.1 hu
  rfl) hc (by simp[hsz,vals_size];omega)
 refine ⟨_,hrun,?_,setRow_only _ _ _⟩
 have:=setRow_heap w g (vals k z) (((vals k z).toList.take (n*i.size) ++ l.map (fun (d:Nat)=>Value.int k (d:Int)) ++ (vals k z).toList.drop (n*i.size+(l.map (fun (d:Nat)=>Value.int k (d:Int))).length)).toArray) e (0,0) hr
 rw[hsz,Nat.mul_one,List.length_map,vals_append]at this
 rw[hsz,Nat.mul_one,List.length_map,vals_append]
 exact this
theorem wpList_append_row {P:Program}{ops:Array Oper}{rest:List Oper}{o:Oper}{a:Act}{w:World}{Q:Exit→Act→World→Prop}(hgd:o.guard=none) (s x:Operand) (t:TypeId)
 (ho:o.op=.call { callee:=.builtin .append,args:=#[s,x],argTypes:=#[t,t] }) (e:TypeId) (i:TypeInfo) (ht:P.underlying t=some (.slice e)) (hi:P.info? e=some i) (hsz:i.size=1)
 (k:IntKind) (g n c cx:Nat) (z l:List Nat) (A:Option Addr) (m:Nat) (hs:a.eval s=.slice (some ⟨g,0,none⟩) n c) (hx:a.eval x=.slice A m cx) (hm:m=l.length)
 (hr:Row w g e (vals k z)) (hl:Ints k w (.slice A l.length cx) l) (hne:0<l.length) (hn:n+l.length≤z.length) (hc:n+l.length≤c)
 (h:∀ w',Row w' g e (vals k (z.take n ++ l ++ z.drop (n+l.length)))→Only g w w'→wpList P ops Q rest (a.put o.dst (.slice (some ⟨g,0,none⟩) (n+m) c)) w'):wpList P ops Q (o :: rest) a w:=by
 subst hm
 refine wpList_plain hgd fun K hK=>?_
 obtain ⟨w',hrun,h2,h3⟩:=Row.append (P:=P) (ty:=o.type) ht hi hsz hr hl hne hn hc
 unfold Oper.wp execOp
 simp only[ho,resolve,invoke,builtin,Sem.run_bind,Sem.run_pure,Result.andThen_ok,List.map_toArray,List.map_cons,List.map_nil,hs,hx,hrun]
 exact hK _ _ (h w' h2 h3)
theorem step_append_row {P:Program}{ops:Array Oper}{o:Oper}{a:Act}{w:World}{K:Act→World→Prop}{Q:Exit→Act→World→Prop}{E:Prop}(hgd:o.guard=none) (s x:Operand) (t:TypeId)
 (ho:o.op=.call { callee:=.builtin .append,args:=#[s,x],argTypes:=#[t,t] }) (e:TypeId) (i:TypeInfo) (ht:P.underlying t=some (.slice e)) (hi:P.info? e=some i) (hsz:i.size=1)
 (k:IntKind) (g n c cx:Nat) (z l:List Nat) (A:Option Addr) (m:Nat) (hs:a.eval s=.slice (some ⟨g,0,none⟩) n c) (hx:a.eval x=.slice A m cx) (hm:m=l.length)
 (hr:Row w g e (vals k z)) (hl:Ints k w (.slice A l.length cx) l) (hne:0<l.length) (hn:n+l.length≤z.length) (hc:n+l.length≤c)
 (h:∀ w',Row w' g e (vals k (z.take n ++ l ++ z.drop (n+l.length)))→Only g w w'→K (a.put o.dst (.slice (some ⟨g,0,none⟩) (n+m) c)) w') :
 if Region.wanted o (yielded ops a.tmps)=true then Oper.wp P o a w K Q else E:=by
 subst hm
 have hw:Region.wanted o (yielded ops a.tmps)=true:=by simp[Region.wanted,hgd]
 rw[if_pos hw]
 obtain ⟨w',hrun,h2,h3⟩:=Row.append (P:=P) (ty:=o.type) ht hi hsz hr hl hne hn hc
 unfold Oper.wp execOp
 simp only[ho,resolve,invoke,builtin,Sem.run_bind,Sem.run_pure,Result.andThen_ok,List.map_toArray,List.map_cons,List.map_nil,hs,hx,hrun]
 exact h w' h2 h3
theorem Row.front {k:IntKind}{w:World}{b:Nat}{t:TypeId}{z:List Nat}(h:Row w b t (vals k z)) (n c:Nat) (hn:n≤z.length) (hc:n≤c):Ints k w (.slice (some ⟨b,0,none⟩) n c) (z.take n):=by
 have hlen:(z.take n).length=n:=by simp;omega
 refine ⟨_,c,by rw[hlen],by rw[hlen];exact hc,fun i hi=>⟨b,0,rfl,?_⟩⟩
 rw[hlen]at hi
 rw[Nat.zero_add,h.cell,vals_get k z i (by omega),getD_take z n i hi]
theorem upd_window (z:List Nat) (i n:Nat) (h:i+n≤z.length):upd (vals .u32 z) i ((z.drop i).take n)=vals .u32 z:=by
 refine upd_self _ _ _ fun j hj=>?_
 have hlen:((z.drop i).take n).length=n:=by simp;omega
 rw[hlen]at hj
 rw[vals_get .u32 z (i+j) (by omega),getD_take _ n j hj,getD_drop]
theorem upd_vals (z l:List Nat) (i:Nat) (h:i+l.length≤z.length):upd (vals .u32 z) i l=vals .u32 (z.take i ++ l ++ z.drop (i+l.length)):=by
 apply Array.ext_getElem?
 intro j
 have hti:(z.take i).length=i:=by simp;omega
 by_cases hj:i≤j∧j<i+l.length
 ·have e:=upd_get (vals .u32 z) i l (j - i) (by omega) (by rw[vals_size];omega)
  rw[show i+(j - i)=j by omega]at e
  rw[e,vals_get _ _ _ (by simp;omega),List.append_assoc,getD_app_right _ _ _ (by omega),hti,getD_app_left _ _ _ (by omega)]
 ·rw[upd_other _ _ _ _ (by omega)]
  by_cases hz:j<z.length
  ·rw[vals_get _ _ _ hz,vals_get _ _ _ (by simp;omega),List.append_assoc]
   congr 3
   rcases Nat.lt_or_ge j i with h1|h1
   ·rw[getD_app_left _ _ _ (by omega),getD_take _ _ _ h1]
   ·rw[getD_app_right _ _ _ (by omega),hti,getD_app_right _ _ _ (by omega),getD_drop]
    congr 1
    omega
  ·rw[Array.getElem?_eq_none (by rw[vals_size];omega),Array.getElem?_eq_none (by rw[vals_size];simp;omega)]
end Vic
end
section
namespace Vic
open Go Go.RowKit
theorem below_grown {w w':World}(h:w.grownBy w' none):Below w.heap.size w w':=
 ⟨h.os,h.tape,h.output,h.size,fun k hk=>h.block k hk (by simp)⟩
theorem copy_nil {P:Program}{t ty e:TypeId}{i:TypeInfo}{z:Value}(ht:P.underlying t=some (.slice e)) (hi:P.info? e=some i) (hz:i.zero=some z) (hsz:i.size=1) (hzs:z.cells.size=1)
 (k:IntKind) (w:World) (l:List Nat) (A:Option Addr) (c:Nat) (hl:Ints k w (.slice A l.length c) l) (hb:l.length*i.bytes≤140737488355328) (h63:l.length≤maxLen) :
 ∃ v' w',(Builtin.append_ #[t,t] ty #[.slice none 0 0,.slice A l.length c]).run P w=.ok v' w'∧Ints k w' v' l∧Below w.heap.size w w':=by
 obtain ⟨A',c',hv,hlc,hcell⟩:=hl
 injection hv with h1 h2 h3
 subst h1;subst h3
 by_cases h0:l = []
 ·subst h0
  refine ⟨.slice none 0 0,w,?_,Ints.nil_ _ _,Below.refl _ _⟩
  rcases A with _|A<;>simp[Builtin.append_,run_underlying ht,Go.sizeOf,typeInfo,hi,Builtin.lenOf,Builtin.firstCells,loadCells,loadCellsFrom]
 ·have hne:0<l.length:=by
   rcases l with _|⟨x,r⟩
   ·exact absurd rfl h0
   ·simp
  obtain ⟨b,o,rfl,_⟩:=hcell 0 hne
  have hcs:∀ i,i<l.length→w.cell? ⟨b,o+i,none⟩=some (.int k ((l.getD i 0:Nat):Int)):=fun i hi=>by
   obtain ⟨b',o',hb,hc⟩:=hcell i hi
   injection hb with hb
   injection hb with hb1 hb2
   subst hb1;subst hb2
   exact hc
  obtain ⟨v',w',hr,hown,hgr,_,_⟩:=run_append_own_at (P:=P) w w.heap.size t ty e i z 1 i.bytes ht hi hz hsz rfl hzs (by omega) (.slice none 0 0) 0 [] (World.ownsRow_nil w w.heap.size e 1)
   ⟨b,o,none⟩ l.length c (l.map fun (d:Nat)=>Value.int k (d:Int)) (by simp) (fun j u hj=>by
    have hjl:j<l.length:=by
     have:=(List.getElem?_eq_some_iff.1 hj).1
     simpa using this
    rw[show (⟨b,o,none⟩:Addr).add j=⟨b,o+j,none⟩ by simp[Addr.add],hcs j hjl,← hj]
    simp[List.getD_eq_getElem?_getD,hjl]) (fun u hu=>by
    obtain ⟨d,_,rfl⟩:=List.mem_map.1 hu
    rfl) (by omega) (by simpa using hb) (Nat.le_refl _)
  refine ⟨v',w',hr,?_,below_grown hgr⟩
  simp only[Nat.zero_add,List.nil_append]at hown
  rcases hown.2 with ⟨_,h5⟩|⟨g,cap,cur,rfl,hbg,hg,hnc,hcm,hcs2,htake⟩
  ·omega
  ·refine ⟨_,cap,rfl,hnc,fun j hj=>⟨g,0,rfl,?_⟩⟩
   rw[Nat.mul_one]at htake hcs2
   have e1:cur.toList[j]?=(cur.toList.take l.length)[j]?:=by rw[List.getElem?_take,if_pos hj]
   rw[htake]at e1
   simp only[World.cell?,hg,Nat.zero_add]
   rw[← Array.getElem?_toList,e1]
   simp[List.getD_eq_getElem?_getD,hj]
theorem wpList_append_copy {P:Program}{ops:Array Oper}{rest:List Oper}{o:Oper}{a:Act}{w:World}{Q:Exit→Act→World→Prop}(hgd:o.guard=none) (s x:Operand) (t:TypeId)
 (ho:o.op=.call { callee:=.builtin .append,args:=#[s,x],argTypes:=#[t,t] }) (e:TypeId) (i:TypeInfo) (z:Value) (ht:P.underlying t=some (.slice e)) (hi:P.info? e=some i) (hz:i.zero=some z) (hsz:i.size=1) (hzs:z.cells.size=1)
 (k:IntKind) (l:List Nat) (A:Option Addr) (m c:Nat) (hs:a.eval s=.slice none 0 0) (hx:a.eval x=.slice A m c) (hm:m=l.length) (hl:Ints k w (.slice A l.length c) l) (hb:l.length*i.bytes≤140737488355328) (h63:l.length≤maxLen)
 (h:∀ v' w',Ints k w' v' l→Below w.heap.size w w'→wpList P ops Q rest (a.put o.dst v') w'):wpList P ops Q (o :: rest) a w:=by
 subst hm
 refine wpList_plain hgd fun K hK=>?_
 obtain ⟨v',w',hrun,h2,h3⟩:=copy_nil (P:=P) (ty:=o.type) ht hi hz hsz hzs k w l A c hl hb h63
 unfold Oper.wp execOp
 simp only[ho,resolve,invoke,builtin,Sem.run_bind,Sem.run_pure,Result.andThen_ok,List.map_toArray,List.map_cons,List.map_nil,hs,hx,hrun]
 exact hK _ _ (h v' w' h2 h3)
end Vic
end
section
namespace Go.Proofs.YtbdfhnelmojbpaaGreatDoor
open Go.RowKit Vic
theorem digit_m (r next:Nat) (hr:(r:Int)<4294967296) (hn:(next:Int)<4294967296) :
 ∃ m:Nat,m=r*4294967296+next∧bits .or .u64 ((r:Int)*4294967296) ((next:Nat):Int)=((m:Nat):Int):=
 ⟨r*4294967296+next,rfl,by rw[mul_half,or_half _ _ (by omega) (by omega) (by omega)]⟩
theorem digit_p (q yl:Nat) (hq:q≤4294967295) (hl:(yl:Int)<4294967296):(0:Int)≤(q:Int)*(yl:Int)∧(q:Int)*(yl:Int)≤18446744073709551615:=by
 have h:q*yl≤4294967295*4294967295:=Nat.mul_le_mul hq (by omega)
 have e:((q*yl:Nat):Int)=(q:Int)*(yl:Int):=Int.natCast_mul _ _
 rw[← e]
 omega
theorem pos_of_lt_mul {m q y:Nat}(h:m<q*y):0<q:=by
 rcases Nat.eq_zero_or_pos q with h0|h0
 ·subst h0;omega
 ·exact h0
end Go.Proofs.YtbdfhnelmojbpaaGreatDoor
end
section
namespace Vic
theorem kn_start {B P a2 a1 al b1 bl x:Nat}(hal:al<B*P) (ha1:a1<B) (hb1:0<b1) (hP:0<P)
 (h:x*(b1*(B*P)+bl)≤(a2*B+a1)*(B*P)+al):x≤(a2*B+a1) / b1:=by
 rw[Nat.le_div_iff_mul_le hb1]
 rcases Nat.lt_or_ge (a2*B+a1) (x*b1)with h1|h1
 ·exfalso
  have h2:(a2*B+a1+1)*(B*P)≤x*b1*(B*P):=Nat.mul_le_mul_right _ h1
  rw[Nat.mul_add,← Nat.mul_assoc]at h
  rw[Nat.add_mul (a2*B+a1)]at h2
  omega
 ·exact h1
theorem kn_over {B P a2 a1 a0 al b1 b0 bl q r x:Nat}(hal:al<P) (ha0:a0<B) (hqr:q*b1+r=a2*B+a1)
 (ho:r*B+a0<q*b0) (hx:x≤q) (h:x*((b1*B+b0)*P+bl)≤((a2*B+a1)*B+a0)*P+al):x≤q - 1:=by
 rcases Nat.lt_or_ge x q with h1|h1
 ·omega
 ·exfalso
  have e:x=q:=by omega
  subst e
  rw[← hqr]at h
  have h3:x*((b1*B+b0)*P+bl)=(x*b1*B+x*b0)*P+x*bl:=by
   rw[Nat.mul_add,← Nat.mul_assoc,Nat.mul_add,← Nat.mul_assoc]
  have h4:(r*B+a0+1)*P≤x*b0*P:=Nat.mul_le_mul_right _ ho
  rw[h3,Nat.add_mul,Nat.add_mul (x*b1),Nat.add_mul,Nat.add_mul]at h
  rw[Nat.add_mul,Nat.add_mul]at h4
  omega
theorem kn_end {B P a2 a1 a0 al b1 b0 bl q r:Nat}(hbl:bl<P) (hqr:q*b1+r=a2*B+a1) (ho:q*b0≤r*B+a0) (hq:q≤b1*B+b0+1) :
 (q - 1)*((b1*B+b0)*P+bl)≤((a2*B+a1)*B+a0)*P+al:=by
 have h1:q*(b1*B+b0)≤(a2*B+a1)*B+a0:=by
  rw[Nat.mul_add,← Nat.mul_assoc,← hqr,Nat.add_mul];omega
 generalize b1*B+b0=T at *
 generalize (a2*B+a1)*B+a0=S at *
 rcases Nat.eq_zero_or_pos q with h|h
 ·subst h;simp
 ·obtain ⟨p,rfl⟩:∃ p,q=p+1:=⟨q - 1,by omega⟩
  simp only[Nat.add_sub_cancel]
  have h2:p*(T*P+bl)≤p*((T+1)*P):=Nat.mul_le_mul_left _ (by rw[Nat.add_mul];omega)
  have h3:p*(T+1)≤S:=by rw[Nat.mul_add];rw[Nat.add_mul]at h1;omega
  have h4:p*((T+1)*P)≤S*P:=by rw[← Nat.mul_assoc];exact Nat.mul_le_mul_right _ h3
  omega
theorem kn_two {a b q:Nat}(hb:0<b) (h1:a / b≤q) (h2:(q - 1)*b≤a):q=a / b∨q=a / b+1:=by
 have:=(Nat.le_div_iff_mul_le hb).2 h2
 omega
end Vic
end
section
namespace Vic
structure KnInv (B a b two b1 q r:Nat):Prop where
 eq:q*b1+r=two
 ge:∀ x,x*b≤a→x≤q
 le:q≤B - 1
structure Tops (B P a b a2 a1 a0 al b1 b0 bl:Nat):Prop where
 ha:a=((a2*B+a1)*B+a0)*P+al
 hb:b=(b1*B+b0)*P+bl
 hal:al<P
 hbl:bl<P
 ha1:a1<B
 ha0:a0<B
 hb0:b0<B
 hb1:0<b1
theorem KnInv.start {B P a b a2 a1 a0 al b1 b0 bl:Nat}(t:Tops B P a b a2 a1 a0 al b1 b0 bl) (hB:1<B) (hlt:a<b*B) :
 KnInv B a b (a2*B+a1) b1 (min ((a2*B+a1) / b1) (B - 1)) (a2*B+a1 - min ((a2*B+a1) / b1) (B - 1)*b1):=by
 have h1:=Nat.div_mul_le_self (a2*B+a1) b1
 have h2:min ((a2*B+a1) / b1) (B - 1)*b1≤(a2*B+a1) / b1*b1:=Nat.mul_le_mul_right _ (Nat.min_le_left _ _)
 have hP:0<P:=by have:=t.hal;omega
 have hb0:0<b:=by
  rw[t.hb]
  have:0<(b1*B+b0)*P:=Nat.mul_pos (by have:=Nat.mul_pos t.hb1 (show 0<B by omega);omega) hP
  omega
 refine ⟨by omega,fun x hx=>?_,Nat.min_le_right _ _⟩
 refine Nat.le_min.2 ⟨?_,?_⟩
 ·refine kn_start (B:=B) (P:=P) (a2:=a2) (a1:=a1) (al:=a0*P+al) (bl:=b0*P+bl) ?_ t.ha1 t.hb1 hP ?_
  ·have:(a0+1)*P≤B*P:=Nat.mul_le_mul_right _ t.ha0
   rw[Nat.add_mul]at this
   have:=t.hal
   omega
  ·rw[t.ha,t.hb]at hx
   have e1:b1*(B*P)+(b0*P+bl)=(b1*B+b0)*P+bl:=by rw[Nat.add_mul,← Nat.mul_assoc];omega
   have e2:(a2*B+a1)*(B*P)+(a0*P+al)=((a2*B+a1)*B+a0)*P+al:=by rw[Nat.add_mul _ a0,← Nat.mul_assoc];omega
   rw[e1,e2];exact hx
 ·rcases Nat.lt_or_ge x B with h|h
  ·omega
  ·have:B*b≤x*b:=Nat.mul_le_mul_right _ h
   rw[Nat.mul_comm]at this
   omega
theorem KnInv.down {B P a b a2 a1 a0 al b1 b0 bl q r:Nat}(h:KnInv B a b (a2*B+a1) b1 q r) (t:Tops B P a b a2 a1 a0 al b1 b0 bl) (hq:0<q)
 (ho:r*B+a0<q*b0):KnInv B a b (a2*B+a1) b1 (q - 1) (r+b1):=by
 refine ⟨?_,fun x hx=>?_,by have:=h.le;omega⟩
 ·obtain ⟨p,rfl⟩:∃ p,q=p+1:=⟨q - 1,by omega⟩
  have:=h.eq
  simp only[Nat.add_sub_cancel]
  rw[Nat.add_mul]at this
  omega
 ·have h1:=h.ge x hx
  rw[t.ha,t.hb]at hx
  exact kn_over t.hal t.ha0 h.eq ho h1 hx
theorem KnInv.done {B P a b a2 a1 a0 al b1 b0 bl q r:Nat}(h:KnInv B a b (a2*B+a1) b1 q r) (t:Tops B P a b a2 a1 a0 al b1 b0 bl) (hb1:B≤2*b1) (hB:1<B)
 (ho:B≤r∨q*b0≤r*B+a0):q=a / b∨q=a / b+1:=by
 have hP:0<P:=by have:=t.hal;omega
 have hb0:0<b:=by
  rw[t.hb]
  have:0<(b1*B+b0)*P:=Nat.mul_pos (by have:=Nat.mul_pos t.hb1 (show 0<B by omega);omega) hP
  omega
 have hle:=h.le
 have ho':q*b0≤r*B+a0:=by
  rcases ho with ho|ho
  ·exact guess_far ho (by omega) t.hb0
  ·exact ho
 refine kn_two hb0 (h.ge _ (Nat.div_mul_le_self _ _)) ?_
 rw[t.ha,t.hb]
 refine kn_end t.hbl h.eq ho' ?_
 have:1*B≤b1*B:=Nat.mul_le_mul_right _ t.hb1
 omega
theorem drop_set_before (o:List Nat) (k d:Nat):(o.set k d).drop (k+1)=o.drop (k+1):=by
 rw[List.drop_set,if_pos (by omega)]
structure SubInv (B q:Nat) (la lb l:List Nat) (i c:Nat) (r:Int):Prop where
 len:l.length=la.length
 dg:dig B l
 sum:(val B (l.take i):Int)+(B:Int) ^ i*(r - (c:Int))=(val B (la.take i):Int) - (q:Int)*(val B (lb.take i):Int)
 rest:l.drop i=la.drop i
 cs:c<B
 rs:r=0∨r=-1
theorem SubInv.start {B:Nat}(hB:1<B) (q:Nat) {la:List Nat}(lb:List Nat) (ha:dig B la):SubInv B q la lb la 0 0 0:=
 ⟨rfl,ha,by simp[val],rfl,by omega,.inl rfl⟩
theorem sub_small {B c q y:Nat}(hB:1<B) (hc:c<B) (hq:q<B) (hy:y<B):c+q*y<B*B:=by
 obtain ⟨n,rfl⟩:∃ n,B=n+1:=⟨B - 1,by omega⟩
 have h1:q*y≤n*n:=Nat.mul_le_mul (by omega) (by omega)
 have h2:(n+1)*(n+1)=n*n+n+n+1:=by rw[Nat.add_mul,Nat.mul_add];omega
 omega
theorem SubInv.step {B q:Nat}{la lb l:List Nat}{i c:Nat}{r:Int}(h:SubInv B q la lb l i c r) (hB:1<B) (hq:q<B) (hb:dig B lb) (hi:i<la.length) :
 SubInv B q la lb (l.set i ((r+((l.getD i 0:Int) - (((c+q*lb.getD i 0) % B:Nat):Int))) % (B:Int)).toNat) (i+1) ((c+q*lb.getD i 0) / B)
  ((r+((l.getD i 0:Int) - (((c+q*lb.getD i 0) % B:Nat):Int))) / (B:Int)):=by
 have hy:=dig_getD hb (by omega) i
 have ha:=dig_getD h.dg (by omega) i
 have hal:l.getD i 0=la.getD i 0:=by
  have e:=congrArg (fun x:List Nat=>x.getD 0 0) h.rest
  simp only[getD_drop,Nat.add_zero]at e;exact e
 have hs:=sub_small hB h.cs hq hy
 have hp:(0:Int)<(B:Int):=by omega
 generalize hm:(c+q*lb.getD i 0) % B=m
 generalize hk:(c+q*lb.getD i 0) / B=k
 have e1:m+B*k=c+q*lb.getD i 0:=by rw[← hm,← hk];exact Nat.mod_add_div _ _
 have hmB:m<B:=by rw[← hm];exact Nat.mod_lt _ (by omega)
 have hkB:k<B:=by rw[← hk,Nat.div_lt_iff_lt_mul (by omega)];exact hs
 have m1:=Int.emod_nonneg (r+((l.getD i 0:Int) - (m:Int))) (show (B:Int)≠0 by omega)
 have m2:=Int.emod_lt_of_pos (r+((l.getD i 0:Int) - (m:Int))) hp
 have e2:=Int.emod_add_mul_ediv (r+((l.getD i 0:Int) - (m:Int))) (B:Int)
 have hr:=h.rs
 have q1 : -1≤(r+((l.getD i 0:Int) - (m:Int))) / (B:Int):=by rw[Int.le_ediv_iff_mul_le hp];omega
 have q2:(r+((l.getD i 0:Int) - (m:Int))) / (B:Int)<1:=by rw[Int.ediv_lt_iff_lt_mul hp];omega
 generalize hqq:(r+((l.getD i 0:Int) - (m:Int))) / (B:Int)=t at *
 generalize hmm:(r+((l.getD i 0:Int) - (m:Int))) % (B:Int)=u at *
 refine ⟨by simp[h.len],dig_set h.dg (by omega) _,?_,?_,hkB,by omega⟩
 ·rw[val_take_set B l i _ (by rw[h.len];exact hi),val_take_step,val_take_step,← hal]
  simp only[Int.natCast_add,Int.natCast_mul,Int.natCast_pow,Int.toNat_of_nonneg m1]
  have e1':(m:Int)+(B:Int)*(k:Int)=(c:Int)+(q:Int)*(lb.getD i 0:Int):=by exact_mod_cast e1
  have hsum:=h.sum
  rw[Int.pow_succ]
  generalize (lb.getD i 0:Int)=y at *
  generalize (l.getD i 0:Int)=x at *
  generalize (B:Int) ^ i=P at *
  have f1:P*(B:Int)*(t - (k:Int))=P*((B:Int)*t) - P*((B:Int)*(k:Int)):=by rw[Int.mul_assoc,Int.mul_sub,Int.mul_sub]
  have f2:P*u+P*((B:Int)*t)=P*r+(P*x - P*(m:Int)):=by rw[← Int.mul_add,e2,Int.mul_add,Int.mul_sub]
  have f3:P*(m:Int)+P*((B:Int)*(k:Int))=P*(c:Int)+P*((q:Int)*y):=by rw[← Int.mul_add,e1',Int.mul_add]
  have f4:(q:Int)*((val B (lb.take i):Int)+P*y)=(q:Int)*(val B (lb.take i):Int)+P*((q:Int)*y):=by rw[Int.mul_add,Int.mul_left_comm]
  rw[f1,f4]
  rw[Int.mul_sub]at hsum
  omega
 ·rw[drop_set_before]
  have:=congrArg (fun x:List Nat=>x.drop 1) h.rest
  simpa [List.drop_drop]using this
theorem SubInv.top {B q:Nat}{la lb l:List Nat}{n c:Nat}{r:Int}(h:SubInv B q la lb l n c r) (hB:1<B) (hla:la.length=n+1) (hlb:lb.length=n) (hda:dig B la) (hdb:dig B lb) :
 ∃ d:Nat,d<B∧((r+((l.getD n 0:Int) - (c:Int))) % (B:Int)).toNat=d∧dig B (l.set n d)∧(l.set n d).length=n+1 ∧
   (0≤r+((l.getD n 0:Int) - (c:Int))→(val B (l.set n d):Int)=(val B la:Int) - (q:Int)*(val B lb:Int)) ∧
   (r+((l.getD n 0:Int) - (c:Int))<0→(val B (l.set n d):Int) - (B:Int) ^ (n+1)=(val B la:Int) - (q:Int)*(val B lb:Int)):=by
 have hp:(0:Int)<(B:Int):=by omega
 have ha:=dig_getD h.dg (by omega) n
 have hal:l.getD n 0=la.getD n 0:=by
  have e:=congrArg (fun x:List Nat=>x.getD 0 0) h.rest
  simp only[getD_drop,Nat.add_zero]at e;exact e
 have hr:=h.rs
 have hc:=h.cs
 have m1:=Int.emod_nonneg (r+((l.getD n 0:Int) - (c:Int))) (show (B:Int)≠0 by omega)
 have m2:=Int.emod_lt_of_pos (r+((l.getD n 0:Int) - (c:Int))) hp
 have e2:=Int.emod_add_mul_ediv (r+((l.getD n 0:Int) - (c:Int))) (B:Int)
 have q1 : -1≤(r+((l.getD n 0:Int) - (c:Int))) / (B:Int):=by rw[Int.le_ediv_iff_mul_le hp];omega
 have q2:(r+((l.getD n 0:Int) - (c:Int))) / (B:Int)<1:=by rw[Int.ediv_lt_iff_lt_mul hp];omega
 have hlen:l.length=n+1:=h.len.trans hla
 have hv:∀ d,(val B (l.set n d):Int)=(val B (l.take n):Int)+(B:Int) ^ n*(d:Int):=fun d=>by
  have:=val_take_set B l n d (by omega)
  rw[val_take_all B _ _ (by simp;omega)]at this
  rw[this];simp
 have hva:(val B la:Int)=(val B (la.take n):Int)+(B:Int) ^ n*(la.getD n 0:Int):=by
  have:=val_take_step B la n
  rw[val_take_all B _ _ (by omega)]at this
  rw[this];simp
 have hs:=h.sum
 rw[val_take_all B lb n (by omega)]at hs
 refine ⟨((r+((l.getD n 0:Int) - (c:Int))) % (B:Int)).toNat,by omega,rfl,dig_set h.dg (by omega) _,by simp[hlen],fun h0=>?_,fun h0=>?_⟩
 ·have hq0:(r+((l.getD n 0:Int) - (c:Int))) / (B:Int)=0:=by
   have:=Int.ediv_nonneg h0 (show (0:Int)≤B by omega);omega
  rw[hq0,Int.mul_zero,Int.add_zero]at e2
  rw[hv,Int.toNat_of_nonneg m1,e2,hva,← hal]
  generalize (B:Int) ^ n=P at *
  rw[Int.mul_sub]at hs
  rw[Int.mul_add,Int.mul_sub]
  omega
 ·have hq0:(r+((l.getD n 0:Int) - (c:Int))) / (B:Int)=-1:=by
   have:=Int.ediv_neg_of_neg_of_pos h0 hp;omega
  rw[hq0]at e2
  rw[hv,Int.toNat_of_nonneg m1,hva,← hal,Int.pow_succ]
  generalize (B:Int) ^ n=P at *
  have e3:(r+((l.getD n 0:Int) - (c:Int))) % (B:Int)=(r+((l.getD n 0:Int) - (c:Int)))+(B:Int):=by omega
  rw[e3]
  rw[Int.mul_sub]at hs
  rw[Int.mul_add,Int.mul_add,Int.mul_sub]
  omega
structure BackInv (B:Nat) (l0 lb l:List Nat) (i s:Nat):Prop where
 len:l.length=l0.length
 dg:dig B l
 sum:val B (l.take i)+B ^ i*s=val B (l0.take i)+val B (lb.take i)
 rest:l.drop i=l0.drop i
 small:s≤1
theorem BackInv.start {B:Nat}{l0:List Nat}(lb:List Nat) (h:dig B l0):BackInv B l0 lb l0 0 0:=⟨rfl,h,by simp[val],rfl,by omega⟩
theorem BackInv.step {B:Nat}{l0 lb l:List Nat}{i s:Nat}(h:BackInv B l0 lb l i s) (hB:1<B) (hb:dig B lb) (hi:i<l0.length) :
 BackInv B l0 lb (l.set i ((s+(l.getD i 0+lb.getD i 0)) % B)) (i+1) ((s+(l.getD i 0+lb.getD i 0)) / B):=by
 have h1:=dig_getD h.dg (by omega) i
 have h2:=dig_getD hb (by omega) i
 have hal:l.getD i 0=l0.getD i 0:=by
  have e:=congrArg (fun x:List Nat=>x.getD 0 0) h.rest
  simp only[getD_drop,Nat.add_zero]at e;exact e
 refine ⟨by simp[h.len],dig_set h.dg (Nat.mod_lt _ (by omega)) _,?_,?_,?_⟩
 ·rw[val_take_set B l i _ (by rw[h.len];exact hi),val_take_step,val_take_step,Nat.pow_succ,Nat.mul_assoc,← hal]
  have e:=Nat.mod_add_div (s+(l.getD i 0+lb.getD i 0)) B
  have e2:B ^ i*((s+(l.getD i 0+lb.getD i 0)) % B)+B ^ i*(B*((s+(l.getD i 0+lb.getD i 0)) / B))=B ^ i*s+(B ^ i*l.getD i 0+B ^ i*lb.getD i 0):=by
   rw[← Nat.mul_add,e,Nat.mul_add,Nat.mul_add]
  have:=h.sum
  omega
 ·rw[drop_set_before]
  have:=congrArg (fun x:List Nat=>x.drop 1) h.rest
  simpa [List.drop_drop]using this
 ·have h3:=h.small
  have:(s+(l.getD i 0+lb.getD i 0)) / B<2:=by rw[Nat.div_lt_iff_lt_mul (by omega)];omega
  omega
theorem BackInv.done {B:Nat}{l0 lb l:List Nat}{n s:Nat}(h:BackInv B l0 lb l n s) (hB:1<B) (hl0:l0.length=n+1) (hlb:lb.length=n) (v:Nat) (hv:val B l0+val B lb=B ^ (n+1)+v) (hvs:v<B ^ (n+1)) :
 dig B (l.set n ((l.getD n 0+s) % B))∧(l.set n ((l.getD n 0+s) % B)).length=n+1∧val B (l.set n ((l.getD n 0+s) % B))=v:=by
 have hlen:l.length=n+1:=h.len.trans hl0
 have hal:l.getD n 0=l0.getD n 0:=by
  have e:=congrArg (fun x:List Nat=>x.getD 0 0) h.rest
  simp only[getD_drop,Nat.add_zero]at e;exact e
 have hd:dig B (l.set n ((l.getD n 0+s) % B)):=dig_set h.dg (Nat.mod_lt _ (by omega)) _
 refine ⟨hd,by simp[hlen],?_⟩
 have e1:=val_take_set B l n ((l.getD n 0+s) % B) (by omega)
 rw[val_take_all B _ _ (by simp;omega)]at e1
 have e0:=val_take_step B l0 n
 rw[val_take_all B _ _ (by omega)]at e0
 have hs:=h.sum
 rw[val_take_all B lb n (by omega)]at hs
 have e2:=Nat.mod_add_div (l.getD n 0+s) B
 have e3:B ^ n*((l.getD n 0+s) % B)+B ^ (n+1)*((l.getD n 0+s) / B)=B ^ n*l.getD n 0+B ^ n*s:=by
  rw[Nat.pow_succ,Nat.mul_assoc,← Nat.mul_add,e2,Nat.mul_add]
 have hlt:=val_lt (by omega:0<B) hd
 rw[List.length_set,hlen]at hlt
 rw[← hal]at e0
 have e4:val B (l.set n ((l.getD n 0+s) % B))+B ^ (n+1)*((l.getD n 0+s) / B)=B ^ (n+1)+v:=by omega
 have e5:=congrArg (· % B ^ (n+1)) e4
 simp only[Nat.add_mul_mod_self_left,Nat.add_mod_left]at e5
 rw[Nat.mod_eq_of_lt hlt,Nat.mod_eq_of_lt hvs]at e5
 exact e5
theorem la_tops {la lb:List Nat}{m:Nat}(da:dig 4294967296 la) (db:dig 4294967296 lb) (hla:la.length=m+3) (hlb:lb.length=m+2) (ht:2147483648≤lb.getD (m+1) 0) :
 Tops 4294967296 (4294967296 ^ m) (val 4294967296 la) (val 4294967296 lb) (la.getD (m+2) 0) (la.getD (m+1) 0) (la.getD m 0) (val 4294967296 (la.take m)) (lb.getD (m+1) 0) (lb.getD m 0) (val 4294967296 (lb.take m)):=by
 have h3:la.drop (m+3) = []:=List.drop_of_length_le (by omega)
 have h2:lb.drop (m+2) = []:=List.drop_of_length_le (by omega)
 refine ⟨?_,?_,val_take_lt (by omega) da m,val_take_lt (by omega) db m,dig_getD da (by omega) _,dig_getD da (by omega) _,dig_getD db (by omega) _,by omega⟩
 ·rw[val_split _ la m,val_drop_step _ la m,val_drop_step _ la (m+1),val_drop_step _ la (m+1+1),show m+1+1=m+2 from rfl,h3]
  simp only[val,Nat.mul_zero,Nat.add_zero]
  generalize 4294967296 ^ m=P
  rw[Nat.mul_comm P,Nat.add_comm]
  congr 2
  omega
 ·rw[val_split _ lb m,val_drop_step _ lb m,val_drop_step _ lb (m+1),show m+1+1=m+2 from rfl,h2]
  simp only[val,Nat.mul_zero,Nat.add_zero]
  generalize 4294967296 ^ m=P
  rw[Nat.mul_comm P,Nat.add_comm]
  congr 2
  omega
end Vic
end
