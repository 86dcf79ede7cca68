/- Plain text: a number in decimal digits, written and read by nine digits at once. -/
import Derived.Lib.ItoaNum
import Derived.Lib.ParseIntB
import Derived.Lib.SlTrimSet
import Derived.Lib.Repeat
import Derived.Test.YtbdfhnelmojbpaaGreatDoorKap
import Derived.Deep.Draws
import Derived.Laws.AppendOwn
import Derived.Deep.RegionLaw
import Derived.Maps.AppendAt
import Derived.Test.YtbdfhnelmojbpaaGreatDoorKaq
import Derived.Deep.QuietTactic
import Derived.BigQuiet
import Derived.Deep.DeepCutAuto
import Derived.Deep.CutBlock
set_option linter.unusedVariables false
set_option linter.unusedSimpArgs false
section
namespace Vic
open Go
def pad:Nat→Nat→List UInt8
 | 0,_=>[]
 | k+1,r=>pad k (r / 10) ++ [UInt8.ofNat (48+r % 10)]
theorem pad_length (k r:Nat):(pad k r).length=k:=by
 induction k generalizing r with
 | zero=>rfl
 | succ k ih=>simp[pad,ih]
theorem pad_zero (k:Nat):pad k 0=List.replicate k 48:=by
 induction k with
 | zero=>rfl
 | succ k ih=>
   have:pad (k+1) 0=pad k 0 ++ [48]:=rfl
   rw[this,ih,← List.replicate_succ']
theorem dec_big {u:Nat}(h:10≤u):Lib.decDigits u=Lib.decDigits (u / 10) ++ [UInt8.ofNat (48+u % 10)]:=by
 rw[Lib.decDigits,dif_neg (by omega)]
theorem dec_small {u:Nat}(h:u<10):Lib.decDigits u = [UInt8.ofNat (48+u)]:=by
 rw[Lib.decDigits,dif_pos h]
theorem dec_pad (m k r:Nat) (hm:0<m) (hr:r<10 ^ k):Lib.decDigits (m*10 ^ k+r)=Lib.decDigits m ++ pad k r:=by
 induction k generalizing r with
 | zero=>simp only[Nat.pow_zero]at hr ⊢;obtain rfl:r=0:=by omega
         simp[pad]
 | succ k ih=>
   have hp:0<10 ^ k:=Nat.pow_pos (by omega)
   have e:m*10 ^ (k+1)+r=10*(m*10 ^ k)+r:=by rw[Nat.pow_succ];rw[← Nat.mul_assoc,Nat.mul_comm]
   have hb:0<m*10 ^ k:=Nat.mul_pos hm hp
   rw[e,dec_big (by omega)]
   have e1:(10*(m*10 ^ k)+r) / 10=m*10 ^ k+r / 10:=by omega
   have e2:(10*(m*10 ^ k)+r) % 10=r % 10:=by omega
   rw[e1,e2,ih (r / 10) (by rw[Nat.pow_succ]at hr;omega)]
   simp[pad]
theorem pad_dec (k r:Nat) (hr:r<10 ^ (k+1)):pad (k+1) r=List.replicate (k+1 - (Lib.decDigits r).length) 48 ++ Lib.decDigits r:=by
 induction k generalizing r with
 | zero=>
   rw[dec_small (by simpa using hr)]
   simp only[Nat.zero_add,Nat.pow_one]at hr
   simp[pad,Nat.mod_eq_of_lt hr]
 | succ k ih=>
   by_cases h:r<10
   ·rw[dec_small h]
    show pad (k+1) (r / 10) ++ [UInt8.ofNat (48+r % 10)]=_
    rw[show r / 10=0 by omega,pad_zero,Nat.mod_eq_of_lt h]
    simp
   ·rw[dec_big (by omega)]
    show pad (k+1) (r / 10) ++ [UInt8.ofNat (48+r % 10)]=_
    rw[ih (r / 10) (by rw[Nat.pow_succ]at hr;omega)]
    simp
structure TextInv (n m:Nat) (s:List UInt8):Prop where
 le:m≤n
 open_:0<m→Lib.decDigits n=Lib.decDigits m ++ s
 shut:m=0→(n=0∧s = [])∨(0<n∧s=Lib.decDigits n)
theorem TextInv.start (n:Nat):TextInv n n []:=⟨Nat.le_refl _,fun _=>by simp,fun h=>.inl ⟨h,rfl⟩⟩
theorem TextInv.go {n m:Nat}{s:List UInt8}(h:TextInv n m s) (hm:0<m) (hq:0<m / 1000000000):TextInv n (m / 1000000000) (List.replicate (9 - (Lib.decDigits (m % 1000000000)).length) 48 ++ Lib.decDigits (m % 1000000000) ++ s):=by
 have e:m=m / 1000000000*10 ^ 9+m % 1000000000:=by omega
 have h1:=dec_pad (m / 1000000000) 9 (m % 1000000000) hq (by omega)
 rw[← e,pad_dec 8 _ (by omega)]at h1
 have hl:=h.le
 refine ⟨by omega,fun _=>?_,fun h0=>by omega⟩
 rw[h.open_ hm,h1]
 simp
theorem TextInv.last {n m:Nat}{s:List UInt8}(h:TextInv n m s) (hm:0<m) (hq:m / 1000000000=0):TextInv n 0 (Lib.decDigits (m % 1000000000) ++ s):=by
 have hl:=h.le
 refine ⟨Nat.zero_le _,fun h0=>by omega,fun _=>.inr ⟨by omega,?_⟩⟩
 rw[show m % 1000000000=m by omega,h.open_ hm]
theorem dec_ne (n:Nat):Lib.decDigits n≠[]:=by
 rw[Lib.decDigits];split<;>simp
theorem TextInv.done {n:Nat}{s:List UInt8}(h:TextInv n 0 s):(s = []→Lib.decDigits n = [48])∧(s≠[]→s=Lib.decDigits n):=by
 rcases h.shut rfl with ⟨h1,h2⟩|⟨h1,h2⟩
 ·exact ⟨fun _=>by rw[h1,dec_small (by omega)];rfl,fun h3=>absurd h2 h3⟩
 ·exact ⟨fun h3=>absurd (h2.symm.trans h3) (dec_ne n),fun _=>h2⟩
theorem TextInv.len {n m:Nat}{s:List UInt8}(h:TextInv n m s):s.length≤(Lib.decDigits n).length:=by
 rcases Nat.eq_zero_or_pos m with h0|h0
 ·rcases h.shut h0 with ⟨_,h2⟩|⟨_,h2⟩<;>rw[h2]<;>simp
 ·rw[h.open_ h0];simp
theorem dec_len {n k:Nat}(h:n<10 ^ (k+1)):(Lib.decDigits n).length≤k+1:=by
 have h1:=congrArg List.length (pad_dec k n h)
 rw[pad_length,List.length_append,List.length_replicate]at h1
 omega
theorem dec_len_digs {n L:Nat}(h:n<4294967296 ^ L):(Lib.decDigits n).length≤10*L+1:=by
 apply dec_len
 have h1:4294967296 ^ L≤(10 ^ 10) ^ L:=Nat.pow_le_pow_left (by omega) L
 rw[← Nat.pow_mul]at h1
 have h2:10 ^ (10*L)≤10 ^ (10*L+1):=Nat.pow_le_pow_right (by omega) (by omega)
 omega
theorem rep_one (b:UInt8) (k:Nat):Lib.repeatL [b] k=List.replicate k b:=by
 induction k with
 | zero=>rfl
 | succ k ih=>rw[List.replicate_succ,← ih];rfl
def isDig (c:UInt8):Bool:=decide (48≤c.toNat) && decide (c.toNat≤57)
theorem isDig_iff {c:UInt8}:isDig c=true↔48≤c.toNat∧c.toNat≤57:=by simp[isDig]
def numOf (acc:Nat) (l:List UInt8):Nat:=l.foldl (fun a c=>a*10+(c.toNat - 48)) acc
theorem numOf_nil (acc:Nat):numOf acc []=acc:=rfl
theorem numOf_append (acc:Nat) (a b:List UInt8):numOf acc (a ++ b)=numOf (numOf acc a) b:=List.foldl_append
theorem numOf_cons (acc:Nat) (c:UInt8) (r:List UInt8):numOf acc (c :: r)=numOf (acc*10+(c.toNat - 48)) r:=List.foldl_cons ..
theorem acc_step (a d p n:Nat):(a*10+d)*p+n=a*(p*10)+((0*10+d)*p+n):=by
 rw[Nat.add_mul,Nat.zero_mul,Nat.zero_add,Nat.mul_assoc,Nat.mul_comm 10,Nat.add_assoc]
theorem numOf_acc (acc:Nat) (l:List UInt8):numOf acc l=acc*10 ^ l.length+numOf 0 l:=by
 induction l generalizing acc with
 | nil=>rw[List.length_nil,Nat.pow_zero,Nat.mul_one,numOf_nil,numOf_nil,Nat.add_zero]
 | cons c r ih=>
   rw[numOf_cons,numOf_cons 0,List.length_cons,Nat.pow_succ]
   generalize c.toNat - 48=d
   have h1:=ih (acc*10+d)
   have h2:=ih (0*10+d)
   rw[h1,h2]
   exact acc_step _ _ _ _
theorem numOf_lt (l:List UInt8) (h:∀ c∈l,isDig c=true):numOf 0 l<10 ^ l.length:=by
 induction l with
 | nil=>rw[numOf_nil];simp
 | cons c r ih=>
   rw[numOf_cons,numOf_acc,List.length_cons,Nat.pow_succ]
   have h1:=isDig_iff.1 (h c (by simp))
   have h2:=ih fun x hx=>h x (by simp[hx])
   have h3:(0*10+(c.toNat - 48))*10 ^ r.length≤9*10 ^ r.length:=Nat.mul_le_mul_right _ (by omega)
   omega
theorem parseM_ok (l:List UInt8) (h:∀ c∈l,isDig c=true) (acc j:Nat) (ha:acc<10 ^ j) (hj:l.length+j≤9):Lib.parseUintM 4294967295 acc l=.ok (numOf acc l):=by
 induction l generalizing acc j with
 | nil=>rfl
 | cons c r ih=>
   have h1:=isDig_iff.1 (h c (by simp))
   rw[List.length_cons]at hj
   have h2:(10:Nat) ^ (j+1)≤10 ^ 9:=Nat.pow_le_pow_right (by omega) (by omega)
   have h4:(10:Nat) ^ (j+1)=10 ^ j*10:=Nat.pow_succ _ _
   have h3:acc*10+(c.toNat - 48)<10 ^ (j+1):=by omega
   rw[Lib.parseUintM,if_pos h1,if_neg (by omega),if_neg (by omega)]
   exact ih (fun x hx=>h x (by simp[hx])) _ (j+1) h3 (by omega)
theorem parse32_ok (l:List UInt8) (h:∀ c∈l,isDig c=true) (h0:l≠[]) (h9:l.length≤9):Lib.parseUintB 32 l=.ok (numOf 0 l):=by
 rw[Lib.parseUintB,if_neg h0]
 exact parseM_ok l h 0 0 (by simp) (by omega)
theorem byte_dig {n:Nat}(h:n<10):(UInt8.ofNat (48+n)).toNat=48+n:=by
 rw[UInt8.toNat_ofNat'];omega
theorem numOf_dec (n:Nat):numOf 0 (Lib.decDigits n)=n:=by
 induction n using Nat.strongRecOn with
 | _ n ih=>
   by_cases h:n<10
   ·rw[dec_small h]
    rw[numOf_cons,numOf_nil,byte_dig h];omega
   ·rw[dec_big (by omega),numOf_append,ih (n / 10) (by omega)]
    rw[numOf_cons,numOf_nil,byte_dig (by omega)];omega
theorem dec_isDig (n:Nat):∀ c∈Lib.decDigits n,isDig c=true:=by
 induction n using Nat.strongRecOn with
 | _ n ih=>
   by_cases h:n<10
   ·rw[dec_small h]
    intro c hc
    simp only[List.mem_singleton]at hc
    rw[hc,isDig_iff,byte_dig h];omega
   ·rw[dec_big (by omega)]
    intro c hc
    rcases List.mem_append.1 hc with h1|h1
    ·exact ih (n / 10) (by omega) c h1
    ·simp only[List.mem_singleton]at h1
     rw[h1,isDig_iff,byte_dig (by omega)];omega
def Canon (l:List UInt8):Prop:=l≠[]∧(∀ c∈l,isDig c=true)∧(l.length=1∨l.head?≠some 48)
theorem dec_head {n:Nat}(h:0<n):(Lib.decDigits n).head?≠some 48:=by
 induction n using Nat.strongRecOn with
 | _ n ih=>
   by_cases h1:n<10
   ·rw[dec_small h1]
    intro e
    simp only[List.head?_cons,Option.some.injEq]at e
    have:=congrArg UInt8.toNat e
    rw[byte_dig h1]at this
    simp at this;omega
   ·rw[dec_big (by omega),List.head?_append]
    have h3:=ih (n / 10) (by omega) (by omega)
    have h4:=dec_ne (n / 10)
    generalize Lib.decDigits (n / 10)=l at *
    match l,h4,h3 with
    | x :: r,_,h3=>simpa using h3
theorem dec_canon (n:Nat):Canon (Lib.decDigits n):=by
 refine ⟨dec_ne n,dec_isDig n,?_⟩
 rcases Nat.eq_zero_or_pos n with h|h
 ·subst h;exact .inl (by rw[dec_small (by omega)];rfl)
 ·exact .inr (dec_head h)
def tenDigs:List UInt8:=[48,49,50,51,52,53,54,55,56,57]
set_option maxRecDepth 10000 in
theorem ten_fin:∀ n:Fin 256,tenDigs.contains (UInt8.ofNat n.val)=isDig (UInt8.ofNat n.val):=by decide
theorem ten_iff (c:UInt8):tenDigs.contains c=isDig c:=by
 have:=ten_fin ⟨c.toNat,c.toNat_lt⟩
 simpa using this
theorem dropWhile_nil {p:UInt8→Bool}{l:List UInt8}:l.dropWhile p = []↔∀ c∈l,p c=true:=by
 induction l with
 | nil=>simp
 | cons c r ih=>
   rw[List.dropWhile_cons]
   by_cases h:p c=true
   ·rw[if_pos h,ih];simp[h]
   ·rw[if_neg h];simp[h]
theorem trim_digs (l:List UInt8):Lib.trimS l tenDigs = []↔∀ c∈l,isDig c=true:=by
 unfold Lib.trimS Lib.trimRightS Lib.trimLeftS
 have e:(fun c=>tenDigs.contains c)=isDig:=funext ten_iff
 rw[e]
 constructor
 ·intro h
  rw[dropWhile_nil]at h
  have h1:l.reverse.dropWhile isDig = []:=by
   rcases hd:l.reverse.dropWhile isDig with _|⟨x,r⟩
   ·rfl
   ·have h2:isDig x=true:=h x (by rw[hd];simp)
    have h3:=List.head?_dropWhile_not isDig l.reverse
    rw[hd]at h3
    simp[h2]at h3
  exact fun c hc=>dropWhile_nil.1 h1 c (by simpa using hc)
 ·intro h
  rw[show l.reverse.dropWhile isDig = []from dropWhile_nil.2 fun c hc=>h c (by simpa using hc)]
  rfl
theorem bytes_take (l:List UInt8) (k:Nat):(⟨l.toArray⟩:ByteArray).extract 0 k=⟨(l.take k).toArray⟩:=by
 apply ByteArray.ext
 simp[ByteArray.data_extract]
theorem bytes_drop (l:List UInt8) (k n:Nat) (h:n=l.length):(⟨l.toArray⟩:ByteArray).extract k n=⟨(l.drop k).toArray⟩:=by
 subst h
 apply ByteArray.ext
 simp[ByteArray.data_extract]
 exact List.take_of_length_le (by simp)
theorem bytes_app (a b:List UInt8):(⟨a.toArray⟩ ++ ⟨b.toArray⟩:ByteArray)=⟨(a ++ b).toArray⟩:=by
 apply ByteArray.ext
 simp
end Vic
end
section
namespace Vic
open Go Go.RowKit
def upd (cur:Array Value) (oa:Nat) (l:List Nat):Array Value:=
 cur.mapIdx fun j v=>if oa≤j∧j<oa+l.length then .int .u32 ((l.getD (j - oa) 0:Nat):Int)else v
theorem upd_get (cur:Array Value) (oa:Nat) (l:List Nat) (i:Nat) (h:i<l.length) (hs:oa+l.length≤cur.size) :
 (upd cur oa l)[oa+i]?=some (.int .u32 ((l.getD i 0:Nat):Int)):=by
 simp only[upd,Array.getElem?_mapIdx]
 rw[Array.getElem?_eq_getElem (show oa+i<cur.size by omega)]
 simp only[Option.map_some]
 rw[if_pos (by omega),Nat.add_sub_cancel_left]
theorem upd_other (cur:Array Value) (oa:Nat) (l:List Nat) (j:Nat) (h:j<oa∨oa+l.length≤j):(upd cur oa l)[j]?=cur[j]?:=by
 simp only[upd,Array.getElem?_mapIdx]
 cases cur[j]? with
 | none=>rfl
 | some v=>simp only[Option.map_some];rw[if_neg (by omega)]
theorem upd_set (cur:Array Value) (oa:Nat) (l:List Nat) (i d:Nat) (h:i<l.length) :
 (upd cur oa l).setIfInBounds (oa+i) (.int .u32 (d:Int))=upd cur oa (l.set i d):=by
 apply Array.ext_getElem?
 intro j
 rw[Array.getElem?_setIfInBounds]
 simp only[upd,Array.getElem?_mapIdx,Array.size_mapIdx,List.length_set]
 by_cases hj:oa+i=j
 ·subst hj
  rw[if_pos rfl]
  by_cases hs:oa+i<cur.size
  ·rw[if_pos hs,Array.getElem?_eq_getElem hs]
   simp only[Option.map_some]
   rw[if_pos (by omega),Nat.add_sub_cancel_left]
   simp[List.getD_eq_getElem?_getD,h]
  ·rw[if_neg hs,Array.getElem?_eq_none (by omega)];rfl
 ·rw[if_neg hj]
  cases cur[j]? with
  | none=>rfl
  | some v=>
    simp only[Option.map_some]
    by_cases hin:oa≤j∧j<oa+l.length
    ·rw[if_pos hin,if_pos hin]
     have:j - oa≠i:=by omega
     simp[List.getD_eq_getElem?_getD,List.getElem?_set_ne (Ne.symm this)]
    ·rw[if_neg hin,if_neg hin]
theorem upd_self (cur:Array Value) (oa:Nat) (l:List Nat) (h:∀ i,i<l.length→cur[oa+i]?=some (.int .u32 ((l.getD i 0:Nat):Int))):upd cur oa l=cur:=by
 apply Array.ext_getElem?
 intro j
 simp only[upd,Array.getElem?_mapIdx]
 cases hc:cur[j]? with
 | none=>rfl
 | some v=>
   simp only[Option.map_some]
   split
   ·rename_i hj
    have:=h (j - oa) (by omega)
    rw[show oa+(j - oa)=j by omega,hc]at this
    exact this.symm
   ·rfl
structure Only (b:Nat) (w w':World):Prop where
 os:w'.os=w.os
 tape:w'.tape=w.tape
 output:w'.output=w.output
 size:w'.heap.size=w.heap.size
 block:∀ k,k≠b→w'.heap[k]?=w.heap[k]?
theorem Only.refl (b:Nat) (w:World):Only b w w:=⟨rfl,rfl,rfl,rfl,fun _ _=>rfl⟩
theorem Only.trans {b:Nat}{u v w:World}(h:Only b u v) (k:Only b v w):Only b u w:=
 ⟨k.os.trans h.os,k.tape.trans h.tape,k.output.trans h.output,k.size.trans h.size,fun i hi=>(k.block i hi).trans (h.block i hi)⟩
theorem Only.drewN {b:Nat}{u w:World}(h:Only b u w) (n:Nat):Only b u (w.drewN n):=⟨h.os,h.tape,h.output,h.size,h.block⟩
theorem Only.setCell {b:Nat}{u w:World}(h:Only b u w) (i:Nat) (x:Value):Only b u (w.setCell ⟨b,i,none⟩ x):=
 h.trans ⟨rfl,rfl,rfl,by simp[World.setCell],fun k hk=>Below.heap_setCell _ _ _ _ hk⟩
theorem Only.cell {b:Nat}{u w:World}(h:Only b u w) {c o:Nat}(hc:c≠b):w.cell? ⟨c,o,none⟩=u.cell? ⟨c,o,none⟩:=World.cell?_of_block (w:=u) (h.block c hc)
theorem Only.below {b B:Nat}{u w:World}(h:Only b u w) (hB:B≤b):Below B u w:=
 ⟨h.os,h.tape,h.output,by rw[h.size];exact Nat.le_refl _,fun k hk=>h.block k (by omega)⟩
theorem Row.drewN {w:World}{b:Nat}{t:TypeId}{cs:Array Value}(h:Row w b t cs) (n:Nat):Row (w.drewN n) b t cs:=h
end Vic
end
section
namespace Vic
open Go Go.RowKit
theorem setRow_only (w:World) (g:Nat) (cs:Array Value):Only g w (w.setRow g cs):=
 ⟨rfl,rfl,rfl,by simp[World.setRow],fun k hk=>setRow_other w g k cs hk⟩
theorem vals_append (k:IntKind) (z l:List Nat) (n:Nat) :
 ((vals k z).toList.take n ++ l.map (fun (d:Nat)=>Value.int k (d:Int)) ++ (vals k z).toList.drop (n+l.length)).toArray=vals k (z.take n ++ l ++ z.drop (n+l.length)):=by
 simp[vals]
theorem Row.append {P:Program}{t ty e:TypeId}{i:TypeInfo}(ht:P.underlying t=some (.slice e)) (hi:P.info? e=some i) (hsz:i.size=1) {k:IntKind}{w:World}{g:Nat}{z l:List Nat}{A:Option Addr}{n c cx:Nat}
 (hr:Row w g e (vals k z)) (hl:Ints k w (.slice A l.length cx) l) (hne:0<l.length) (hn:n+l.length≤z.length) (hc:n+l.length≤c) :
 ∃ w',(Builtin.append_ #[t,t] ty #[.slice (some ⟨g,0,none⟩) n c,.slice A l.length cx]).run P w=.ok (.slice (some ⟨g,0,none⟩) (n+l.length) c) w' ∧
   Row w' g e (vals k (z.take n ++ l ++ z.drop (n+l.length)))∧Only g w w':=by
 obtain ⟨A',c',hv,hlc,hcell⟩:=hl
 injection hv with h1 h2 h3
 subst h1;subst h3
 obtain ⟨b,o,rfl,_⟩:=hcell 0 hne
 have hcs:∀ i,i<l.length→w.cell? ⟨b,o+i,none⟩=some (.int k ((l.getD i 0:Nat):Int)):=fun i hi=>by
  obtain ⟨b',o',hb,hc⟩:=hcell i hi
  injection hb with hb
  injection hb with hb1 hb2
  subst hb1;subst hb2
  exact hc
 have hrun:=run_append_room (P:=P) w t ty e i ht hi g n c (vals k z) hr ⟨b,o,none⟩ l.length cx (l.map fun (d:Nat)=>Value.int k (d:Int)) (by simp[hsz]) (fun j u hj=>by
  have hjl:j<l.length:=by
   have:=(List.getElem?_eq_some_iff.1 hj).1
   simpa using this
  rw[show (⟨b,o,none⟩:Addr).add j=⟨b,o+j,none⟩ by simp[Addr.add],hcs j hjl,← hj]
  simp[List.getD_eq_getElem?_getD,hjl]) (fun u hu=>by
  obtain ⟨d,_,rfl⟩:=List.mem_map.1 hu
  rfl) hc (by simp[hsz,vals_size];omega)
 refine ⟨_,hrun,?_,setRow_only _ _ _⟩
 have:=setRow_heap w g (vals k z) (((vals k z).toList.take (n*i.size) ++ l.map (fun (d:Nat)=>Value.int k (d:Int)) ++ (vals k z).toList.drop (n*i.size+(l.map (fun (d:Nat)=>Value.int k (d:Int))).length)).toArray) e (0,0) hr
 rw[hsz,Nat.mul_one,List.length_map,vals_append]at this
 rw[hsz,Nat.mul_one,List.length_map,vals_append]
 exact this
theorem wpList_append_row {P:Program}{ops:Array Oper}{rest:List Oper}{o:Oper}{a:Act}{w:World}{Q:Exit→Act→World→Prop}(hgd:o.guard=none) (s x:Operand) (t:TypeId)
 (ho:o.op=.call { callee:=.builtin .append,args:=#[s,x],argTypes:=#[t,t] }) (e:TypeId) (i:TypeInfo) (ht:P.underlying t=some (.slice e)) (hi:P.info? e=some i) (hsz:i.size=1)
 (k:IntKind) (g n c cx:Nat) (z l:List Nat) (A:Option Addr) (m:Nat) (hs:a.eval s=.slice (some ⟨g,0,none⟩) n c) (hx:a.eval x=.slice A m cx) (hm:m=l.length)
 (hr:Row w g e (vals k z)) (hl:Ints k w (.slice A l.length cx) l) (hne:0<l.length) (hn:n+l.length≤z.length) (hc:n+l.length≤c)
 (h:∀ w',Row w' g e (vals k (z.take n ++ l ++ z.drop (n+l.length)))→Only g w w'→wpList P ops Q rest (a.put o.dst (.slice (some ⟨g,0,none⟩) (n+m) c)) w'):wpList P ops Q (o :: rest) a w:=by
 subst hm
 refine wpList_plain hgd fun K hK=>?_
 obtain ⟨w',hrun,h2,h3⟩:=Row.append (P:=P) (ty:=o.type) ht hi hsz hr hl hne hn hc
 unfold Oper.wp execOp
 simp only[ho,resolve,invoke,builtin,Sem.run_bind,Sem.run_pure,Result.andThen_ok,List.map_toArray,List.map_cons,List.map_nil,hs,hx,hrun]
 exact hK _ _ (h w' h2 h3)
theorem step_append_row {P:Program}{ops:Array Oper}{o:Oper}{a:Act}{w:World}{K:Act→World→Prop}{Q:Exit→Act→World→Prop}{E:Prop}(hgd:o.guard=none) (s x:Operand) (t:TypeId)
 (ho:o.op=.call { callee:=.builtin .append,args:=#[s,x],argTypes:=#[t,t] }) (e:TypeId) (i:TypeInfo) (ht:P.underlying t=some (.slice e)) (hi:P.info? e=some i) (hsz:i.size=1)
 (k:IntKind) (g n c cx:Nat) (z l:List Nat) (A:Option Addr) (m:Nat) (hs:a.eval s=.slice (some ⟨g,0,none⟩) n c) (hx:a.eval x=.slice A m cx) (hm:m=l.length)
 (hr:Row w g e (vals k z)) (hl:Ints k w (.slice A l.length cx) l) (hne:0<l.length) (hn:n+l.length≤z.length) (hc:n+l.length≤c)
 (h:∀ w',Row w' g e (vals k (z.take n ++ l ++ z.drop (n+l.length)))→Only g w w'→K (a.put o.dst (.slice (some ⟨g,0,none⟩) (n+m) c)) w') :
 if Region.wanted o (yielded ops a.tmps)=true then Oper.wp P o a w K Q else E:=by
 subst hm
 have hw:Region.wanted o (yielded ops a.tmps)=true:=by simp[Region.wanted,hgd]
 rw[if_pos hw]
 obtain ⟨w',hrun,h2,h3⟩:=Row.append (P:=P) (ty:=o.type) ht hi hsz hr hl hne hn hc
 unfold Oper.wp execOp
 simp only[ho,resolve,invoke,builtin,Sem.run_bind,Sem.run_pure,Result.andThen_ok,List.map_toArray,List.map_cons,List.map_nil,hs,hx,hrun]
 exact h w' h2 h3
theorem Row.front {k:IntKind}{w:World}{b:Nat}{t:TypeId}{z:List Nat}(h:Row w b t (vals k z)) (n c:Nat) (hn:n≤z.length) (hc:n≤c):Ints k w (.slice (some ⟨b,0,none⟩) n c) (z.take n):=by
 have hlen:(z.take n).length=n:=by simp;omega
 refine ⟨_,c,by rw[hlen],by rw[hlen];exact hc,fun i hi=>⟨b,0,rfl,?_⟩⟩
 rw[hlen]at hi
 rw[Nat.zero_add,h.cell,vals_get k z i (by omega),getD_take z n i hi]
theorem upd_window (z:List Nat) (i n:Nat) (h:i+n≤z.length):upd (vals .u32 z) i ((z.drop i).take n)=vals .u32 z:=by
 refine upd_self _ _ _ fun j hj=>?_
 have hlen:((z.drop i).take n).length=n:=by simp;omega
 rw[hlen]at hj
 rw[vals_get .u32 z (i+j) (by omega),getD_take _ n j hj,getD_drop]
theorem upd_vals (z l:List Nat) (i:Nat) (h:i+l.length≤z.length):upd (vals .u32 z) i l=vals .u32 (z.take i ++ l ++ z.drop (i+l.length)):=by
 apply Array.ext_getElem?
 intro j
 have hti:(z.take i).length=i:=by simp;omega
 by_cases hj:i≤j∧j<i+l.length
 ·have e:=upd_get (vals .u32 z) i l (j - i) (by omega) (by rw[vals_size];omega)
  rw[show i+(j - i)=j by omega]at e
  rw[e,vals_get _ _ _ (by simp;omega),List.append_assoc,getD_app_right _ _ _ (by omega),hti,getD_app_left _ _ _ (by omega)]
 ·rw[upd_other _ _ _ _ (by omega)]
  by_cases hz:j<z.length
  ·rw[vals_get _ _ _ hz,vals_get _ _ _ (by simp;omega),List.append_assoc]
   congr 3
   rcases Nat.lt_or_ge j i with h1|h1
   ·rw[getD_app_left _ _ _ (by omega),getD_take _ _ _ h1]
   ·rw[getD_app_right _ _ _ (by omega),hti,getD_app_right _ _ _ (by omega),getD_drop]
    congr 1
    omega
  ·rw[Array.getElem?_eq_none (by rw[vals_size];omega),Array.getElem?_eq_none (by rw[vals_size];simp;omega)]
end Vic
end
section
namespace Vic
open Go Go.RowKit
theorem below_grown {w w':World}(h:w.grownBy w' none):Below w.heap.size w w':=
 ⟨h.os,h.tape,h.output,h.size,fun k hk=>h.block k hk (by simp)⟩
theorem copy_nil {P:Program}{t ty e:TypeId}{i:TypeInfo}{z:Value}(ht:P.underlying t=some (.slice e)) (hi:P.info? e=some i) (hz:i.zero=some z) (hsz:i.size=1) (hzs:z.cells.size=1)
 (k:IntKind) (w:World) (l:List Nat) (A:Option Addr) (c:Nat) (hl:Ints k w (.slice A l.length c) l) (hb:l.length*i.bytes≤140737488355328) (h63:l.length≤maxLen) :
 ∃ v' w',(Builtin.append_ #[t,t] ty #[.slice none 0 0,.slice A l.length c]).run P w=.ok v' w'∧Ints k w' v' l∧Below w.heap.size w w':=by
 obtain ⟨A',c',hv,hlc,hcell⟩:=hl
 injection hv with h1 h2 h3
 subst h1;subst h3
 by_cases h0:l = []
 ·subst h0
  refine ⟨.slice none 0 0,w,?_,Ints.nil_ _ _,Below.refl _ _⟩
  rcases A with _|A<;>simp[Builtin.append_,run_underlying ht,Go.sizeOf,typeInfo,hi,Builtin.lenOf,Builtin.firstCells,loadCells,loadCellsFrom]
 ·have hne:0<l.length:=by
   rcases l with _|⟨x,r⟩
   ·exact absurd rfl h0
   ·simp
  obtain ⟨b,o,rfl,_⟩:=hcell 0 hne
  have hcs:∀ i,i<l.length→w.cell? ⟨b,o+i,none⟩=some (.int k ((l.getD i 0:Nat):Int)):=fun i hi=>by
   obtain ⟨b',o',hb,hc⟩:=hcell i hi
   injection hb with hb
   injection hb with hb1 hb2
   subst hb1;subst hb2
   exact hc
  obtain ⟨v',w',hr,hown,hgr,_,_⟩:=run_append_own_at (P:=P) w w.heap.size t ty e i z 1 i.bytes ht hi hz hsz rfl hzs (by omega) (.slice none 0 0) 0 [] (World.ownsRow_nil w w.heap.size e 1)
   ⟨b,o,none⟩ l.length c (l.map fun (d:Nat)=>Value.int k (d:Int)) (by simp) (fun j u hj=>by
    have hjl:j<l.length:=by
     have:=(List.getElem?_eq_some_iff.1 hj).1
     simpa using this
    rw[show (⟨b,o,none⟩:Addr).add j=⟨b,o+j,none⟩ by simp[Addr.add],hcs j hjl,← hj]
    simp[List.getD_eq_getElem?_getD,hjl]) (fun u hu=>by
    obtain ⟨d,_,rfl⟩:=List.mem_map.1 hu
    rfl) (by omega) (by simpa using hb) (Nat.le_refl _)
  refine ⟨v',w',hr,?_,below_grown hgr⟩
  simp only[Nat.zero_add,List.nil_append]at hown
  rcases hown.2 with ⟨_,h5⟩|⟨g,cap,cur,rfl,hbg,hg,hnc,hcm,hcs2,htake⟩
  ·omega
  ·refine ⟨_,cap,rfl,hnc,fun j hj=>⟨g,0,rfl,?_⟩⟩
   rw[Nat.mul_one]at htake hcs2
   have e1:cur.toList[j]?=(cur.toList.take l.length)[j]?:=by rw[List.getElem?_take,if_pos hj]
   rw[htake]at e1
   simp only[World.cell?,hg,Nat.zero_add]
   rw[← Array.getElem?_toList,e1]
   simp[List.getD_eq_getElem?_getD,hj]
theorem wpList_append_copy {P:Program}{ops:Array Oper}{rest:List Oper}{o:Oper}{a:Act}{w:World}{Q:Exit→Act→World→Prop}(hgd:o.guard=none) (s x:Operand) (t:TypeId)
 (ho:o.op=.call { callee:=.builtin .append,args:=#[s,x],argTypes:=#[t,t] }) (e:TypeId) (i:TypeInfo) (z:Value) (ht:P.underlying t=some (.slice e)) (hi:P.info? e=some i) (hz:i.zero=some z) (hsz:i.size=1) (hzs:z.cells.size=1)
 (k:IntKind) (l:List Nat) (A:Option Addr) (m c:Nat) (hs:a.eval s=.slice none 0 0) (hx:a.eval x=.slice A m c) (hm:m=l.length) (hl:Ints k w (.slice A l.length c) l) (hb:l.length*i.bytes≤140737488355328) (h63:l.length≤maxLen)
 (h:∀ v' w',Ints k w' v' l→Below w.heap.size w w'→wpList P ops Q rest (a.put o.dst v') w'):wpList P ops Q (o :: rest) a w:=by
 subst hm
 refine wpList_plain hgd fun K hK=>?_
 obtain ⟨v',w',hrun,h2,h3⟩:=copy_nil (P:=P) (ty:=o.type) ht hi hz hsz hzs k w l A c hl hb h63
 unfold Oper.wp execOp
 simp only[ho,resolve,invoke,builtin,Sem.run_bind,Sem.run_pure,Result.andThen_ok,List.map_toArray,List.map_cons,List.map_nil,hs,hx,hrun]
 exact hK _ _ (h v' w' h2 h3)
end Vic
end
section
namespace Go.Proofs.YtbdfhnelmojbpaaGreatDoor
open Go.RowKit Vic
theorem digit_m (r next:Nat) (hr:(r:Int)<4294967296) (hn:(next:Int)<4294967296) :
 ∃ m:Nat,m=r*4294967296+next∧bits .or .u64 ((r:Int)*4294967296) ((next:Nat):Int)=((m:Nat):Int):=
 ⟨r*4294967296+next,rfl,by rw[mul_half,or_half _ _ (by omega) (by omega) (by omega)]⟩
theorem digit_p (q yl:Nat) (hq:q≤4294967295) (hl:(yl:Int)<4294967296):(0:Int)≤(q:Int)*(yl:Int)∧(q:Int)*(yl:Int)≤18446744073709551615:=by
 have h:q*yl≤4294967295*4294967295:=Nat.mul_le_mul hq (by omega)
 have e:((q*yl:Nat):Int)=(q:Int)*(yl:Int):=Int.natCast_mul _ _
 rw[← e]
 omega
theorem pos_of_lt_mul {m q y:Nat}(h:m<q*y):0<q:=by
 rcases Nat.eq_zero_or_pos q with h0|h0
 ·subst h0;omega
 ·exact h0
end Go.Proofs.YtbdfhnelmojbpaaGreatDoor
end
section
namespace Vic
theorem kn_start {B P a2 a1 al b1 bl x:Nat}(hal:al<B*P) (ha1:a1<B) (hb1:0<b1) (hP:0<P)
 (h:x*(b1*(B*P)+bl)≤(a2*B+a1)*(B*P)+al):x≤(a2*B+a1) / b1:=by
 rw[Nat.le_div_iff_mul_le hb1]
 rcases Nat.lt_or_ge (a2*B+a1) (x*b1)with h1|h1
 ·exfalso
  have h2:(a2*B+a1+1)*(B*P)≤x*b1*(B*P):=Nat.mul_le_mul_right _ h1
  rw[Nat.mul_add,← Nat.mul_assoc]at h
  rw[Nat.add_mul (a2*B+a1)]at h2
  omega
 ·exact h1
theorem kn_over {B P a2 a1 a0 al b1 b0 bl q r x:Nat}(hal:al<P) (ha0:a0<B) (hqr:q*b1+r=a2*B+a1)
 (ho:r*B+a0<q*b0) (hx:x≤q) (h:x*((b1*B+b0)*P+bl)≤((a2*B+a1)*B+a0)*P+al):x≤q - 1:=by
 rcases Nat.lt_or_ge x q with h1|h1
 ·omega
 ·exfalso
  have e:x=q:=by omega
  subst e
  rw[← hqr]at h
  have h3:x*((b1*B+b0)*P+bl)=(x*b1*B+x*b0)*P+x*bl:=by
   rw[Nat.mul_add,← Nat.mul_assoc,Nat.mul_add,← Nat.mul_assoc]
  have h4:(r*B+a0+1)*P≤x*b0*P:=Nat.mul_le_mul_right _ ho
  rw[h3,Nat.add_mul,Nat.add_mul (x*b1),Nat.add_mul,Nat.add_mul]at h
  rw[Nat.add_mul,Nat.add_mul]at h4
  omega
theorem kn_end {B P a2 a1 a0 al b1 b0 bl q r:Nat}(hbl:bl<P) (hqr:q*b1+r=a2*B+a1) (ho:q*b0≤r*B+a0) (hq:q≤b1*B+b0+1) :
 (q - 1)*((b1*B+b0)*P+bl)≤((a2*B+a1)*B+a0)*P+al:=by
 have h1:q*(b1*B+b0)≤(a2*B+a1)*B+a0:=by
  rw[Nat.mul_add,← Nat.mul_assoc,← hqr,Nat.add_mul];omega
 generalize b1*B+b0=T at *
 generalize (a2*B+a1)*B+a0=S at *
 rcases Nat.eq_zero_or_pos q with h|h
 ·subst h;simp
 ·obtain ⟨p,rfl⟩:∃ p,q=p+1:=⟨q - 1,by omega⟩
  simp only[Nat.add_sub_cancel]
  have h2:p*(T*P+bl)≤p*((T+1)*P):=Nat.mul_le_mul_left _ (by rw[Nat.add_mul];omega)
  have h3:p*(T+1)≤S:=by rw[Nat.mul_add];rw[Nat.add_mul]at h1;omega
  have h4:p*((T+1)*P)≤S*P:=by rw[← Nat.mul_assoc];exact Nat.mul_le_mul_right _ h3
  omega
theorem kn_two {a b q:Nat}(hb:0<b) (h1:a / b≤q) (h2:(q - 1)*b≤a):q=a / b∨q=a / b+1:=by
 have:=(Nat.le_div_iff_mul_le hb).2 h2
 omega
end Vic
end
section
namespace Vic
structure KnInv (B a b two b1 q r:Nat):Prop where
 eq:q*b1+r=two
 ge:∀ x,x*b≤a→x≤q
 le:q≤B - 1
structure Tops (B P a b a2 a1 a0 al b1 b0 bl:Nat):Prop where
 ha:a=((a2*B+a1)*B+a0)*P+al
 hb:b=(b1*B+b0)*P+bl
 hal:al<P
 hbl:bl<P
 ha1:a1<B
 ha0:a0<B
 hb0:b0<B
 hb1:0<b1
theorem KnInv.start {B P a b a2 a1 a0 al b1 b0 bl:Nat}(t:Tops B P a b a2 a1 a0 al b1 b0 bl) (hB:1<B) (hlt:a<b*B) :
 KnInv B a b (a2*B+a1) b1 (min ((a2*B+a1) / b1) (B - 1)) (a2*B+a1 - min ((a2*B+a1) / b1) (B - 1)*b1):=by
 have h1:=Nat.div_mul_le_self (a2*B+a1) b1
 have h2:min ((a2*B+a1) / b1) (B - 1)*b1≤(a2*B+a1) / b1*b1:=Nat.mul_le_mul_right _ (Nat.min_le_left _ _)
 have hP:0<P:=by have:=t.hal;omega
 have hb0:0<b:=by
  rw[t.hb]
  have:0<(b1*B+b0)*P:=Nat.mul_pos (by have:=Nat.mul_pos t.hb1 (show 0<B by omega);omega) hP
  omega
 refine ⟨by omega,fun x hx=>?_,Nat.min_le_right _ _⟩
 refine Nat.le_min.2 ⟨?_,?_⟩
 ·refine kn_start (B:=B) (P:=P) (a2:=a2) (a1:=a1) (al:=a0*P+al) (bl:=b0*P+bl) ?_ t.ha1 t.hb1 hP ?_
  ·have:(a0+1)*P≤B*P:=Nat.mul_le_mul_right _ t.ha0
   rw[Nat.add_mul]at this
   have:=t.hal
   omega
  ·rw[t.ha,t.hb]at hx
   have e1:b1*(B*P)+(b0*P+bl)=(b1*B+b0)*P+bl:=by rw[Nat.add_mul,← Nat.mul_assoc];omega
   have e2:(a2*B+a1)*(B*P)+(a0*P+al)=((a2*B+a1)*B+a0)*P+al:=by rw[Nat.add_mul _ a0,← Nat.mul_assoc];omega
   rw[e1,e2];exact hx
 ·rcases Nat.lt_or_ge x B with h|h
  ·omega
  ·have:B*b≤x*b:=Nat.mul_le_mul_right _ h
   rw[Nat.mul_comm]at this
   omega
theorem KnInv.down {B P a b a2 a1 a0 al b1 b0 bl q r:Nat}(h:KnInv B a b (a2*B+a1) b1 q r) (t:Tops B P a b a2 a1 a0 al b1 b0 bl) (hq:0<q)
 (ho:r*B+a0<q*b0):KnInv B a b (a2*B+a1) b1 (q - 1) (r+b1):=by
 refine ⟨?_,fun x hx=>?_,by have:=h.le;omega⟩
 ·obtain ⟨p,rfl⟩:∃ p,q=p+1:=⟨q - 1,by omega⟩
  have:=h.eq
  simp only[Nat.add_sub_cancel]
  rw[Nat.add_mul]at this
  omega
 ·have h1:=h.ge x hx
  rw[t.ha,t.hb]at hx
  exact kn_over t.hal t.ha0 h.eq ho h1 hx
theorem KnInv.done {B P a b a2 a1 a0 al b1 b0 bl q r:Nat}(h:KnInv B a b (a2*B+a1) b1 q r) (t:Tops B P a b a2 a1 a0 al b1 b0 bl) (hb1:B≤2*b1) (hB:1<B)
 (ho:B≤r∨q*b0≤r*B+a0):q=a / b∨q=a / b+1:=by
 have hP:0<P:=by have:=t.hal;omega
 have hb0:0<b:=by
  rw[t.hb]
  have:0<(b1*B+b0)*P:=Nat.mul_pos (by have:=Nat.mul_pos t.hb1 (show 0<B by omega);omega) hP
  omega
 have hle:=h.le
 have ho':q*b0≤r*B+a0:=by
  rcases ho with ho|ho
  ·exact guess_far ho (by omega) t.hb0
  ·exact ho
 refine kn_two hb0 (h.ge _ (Nat.div_mul_le_self _ _)) ?_
 rw[t.ha,t.hb]
 refine kn_end t.hbl h.eq ho' ?_
 have:1*B≤b1*B:=Nat.mul_le_mul_right _ t.hb1
 omega
theorem drop_set_before (o:List Nat) (k d:Nat):(o.set k d).drop (k+1)=o.drop (k+1):=by
 rw[List.drop_set,if_pos (by omega)]
structure SubInv (B q:Nat) (la lb l:List Nat) (i c:Nat) (r:Int):Prop where
 len:l.length=la.length
 dg:dig B l
 sum:(val B (l.take i):Int)+(B:Int) ^ i*(r - (c:Int))=(val B (la.take i):Int) - (q:Int)*(val B (lb.take i):Int)
 rest:l.drop i=la.drop i
 cs:c<B
 rs:r=0∨r=-1
theorem SubInv.start {B:Nat}(hB:1<B) (q:Nat) {la:List Nat}(lb:List Nat) (ha:dig B la):SubInv B q la lb la 0 0 0:=
 ⟨rfl,ha,by simp[val],rfl,by omega,.inl rfl⟩
theorem sub_small {B c q y:Nat}(hB:1<B) (hc:c<B) (hq:q<B) (hy:y<B):c+q*y<B*B:=by
 obtain ⟨n,rfl⟩:∃ n,B=n+1:=⟨B - 1,by omega⟩
 have h1:q*y≤n*n:=Nat.mul_le_mul (by omega) (by omega)
 have h2:(n+1)*(n+1)=n*n+n+n+1:=by rw[Nat.add_mul,Nat.mul_add];omega
 omega
theorem SubInv.step {B q:Nat}{la lb l:List Nat}{i c:Nat}{r:Int}(h:SubInv B q la lb l i c r) (hB:1<B) (hq:q<B) (hb:dig B lb) (hi:i<la.length) :
 SubInv B q la lb (l.set i ((r+((l.getD i 0:Int) - (((c+q*lb.getD i 0) % B:Nat):Int))) % (B:Int)).toNat) (i+1) ((c+q*lb.getD i 0) / B)
  ((r+((l.getD i 0:Int) - (((c+q*lb.getD i 0) % B:Nat):Int))) / (B:Int)):=by
 have hy:=dig_getD hb (by omega) i
 have ha:=dig_getD h.dg (by omega) i
 have hal:l.getD i 0=la.getD i 0:=by
  have e:=congrArg (fun x:List Nat=>x.getD 0 0) h.rest
  simp only[getD_drop,Nat.add_zero]at e;exact e
 have hs:=sub_small hB h.cs hq hy
 have hp:(0:Int)<(B:Int):=by omega
 generalize hm:(c+q*lb.getD i 0) % B=m
 generalize hk:(c+q*lb.getD i 0) / B=k
 have e1:m+B*k=c+q*lb.getD i 0:=by rw[← hm,← hk];exact Nat.mod_add_div _ _
 have hmB:m<B:=by rw[← hm];exact Nat.mod_lt _ (by omega)
 have hkB:k<B:=by rw[← hk,Nat.div_lt_iff_lt_mul (by omega)];exact hs
 have m1:=Int.emod_nonneg (r+((l.getD i 0:Int) - (m:Int))) (show (B:Int)≠0 by omega)
 have m2:=Int.emod_lt_of_pos (r+((l.getD i 0:Int) - (m:Int))) hp
 have e2:=Int.emod_add_mul_ediv (r+((l.getD i 0:Int) - (m:Int))) (B:Int)
 have hr:=h.rs
 have q1 : -1≤(r+((l.getD i 0:Int) - (m:Int))) / (B:Int):=by rw[Int.le_ediv_iff_mul_le hp];omega
 have q2:(r+((l.getD i 0:Int) - (m:Int))) / (B:Int)<1:=by rw[Int.ediv_lt_iff_lt_mul hp];omega
 generalize hqq:(r+((l.getD i 0:Int) - (m:Int))) / (B:Int)=t at *
 generalize hmm:(r+((l.getD i 0:Int) - (m:Int))) % (B:Int)=u at *
 refine ⟨by simp[h.len],dig_set h.dg (by omega) _,?_,?_,hkB,by omega⟩
 ·rw[val_take_set B l i _ (by rw[h.len];exact hi),val_take_step,val_take_step,← hal]
  simp only[Int.natCast_add,Int.natCast_mul,Int.natCast_pow,Int.toNat_of_nonneg m1]
  have e1':(m:Int)+(B:Int)*(k:Int)=(c:Int)+(q:Int)*(lb.getD i 0:Int):=by exact_mod_cast e1
  have hsum:=h.sum
  rw[Int.pow_succ]
  generalize (lb.getD i 0:Int)=y at *
  generalize (l.getD i 0:Int)=x at *
  generalize (B:Int) ^ i=P at *
  have f1:P*(B:Int)*(t - (k:Int))=P*((B:Int)*t) - P*((B:Int)*(k:Int)):=by rw[Int.mul_assoc,Int.mul_sub,Int.mul_sub]
  have f2:P*u+P*((B:Int)*t)=P*r+(P*x - P*(m:Int)):=by rw[← Int.mul_add,e2,Int.mul_add,Int.mul_sub]
  have f3:P*(m:Int)+P*((B:Int)*(k:Int))=P*(c:Int)+P*((q:Int)*y):=by rw[← Int.mul_add,e1',Int.mul_add]
  have f4:(q:Int)*((val B (lb.take i):Int)+P*y)=(q:Int)*(val B (lb.take i):Int)+P*((q:Int)*y):=by rw[Int.mul_add,Int.mul_left_comm]
  rw[f1,f4]
  rw[Int.mul_sub]at hsum
  omega
 ·rw[drop_set_before]
  have:=congrArg (fun x:List Nat=>x.drop 1) h.rest
  simpa [List.drop_drop]using this
theorem SubInv.top {B q:Nat}{la lb l:List Nat}{n c:Nat}{r:Int}(h:SubInv B q la lb l n c r) (hB:1<B) (hla:la.length=n+1) (hlb:lb.length=n) (hda:dig B la) (hdb:dig B lb) :
 ∃ d:Nat,d<B∧((r+((l.getD n 0:Int) - (c:Int))) % (B:Int)).toNat=d∧dig B (l.set n d)∧(l.set n d).length=n+1 ∧
   (0≤r+((l.getD n 0:Int) - (c:Int))→(val B (l.set n d):Int)=(val B la:Int) - (q:Int)*(val B lb:Int)) ∧
   (r+((l.getD n 0:Int) - (c:Int))<0→(val B (l.set n d):Int) - (B:Int) ^ (n+1)=(val B la:Int) - (q:Int)*(val B lb:Int)):=by
 have hp:(0:Int)<(B:Int):=by omega
 have ha:=dig_getD h.dg (by omega) n
 have hal:l.getD n 0=la.getD n 0:=by
  have e:=congrArg (fun x:List Nat=>x.getD 0 0) h.rest
  simp only[getD_drop,Nat.add_zero]at e;exact e
 have hr:=h.rs
 have hc:=h.cs
 have m1:=Int.emod_nonneg (r+((l.getD n 0:Int) - (c:Int))) (show (B:Int)≠0 by omega)
 have m2:=Int.emod_lt_of_pos (r+((l.getD n 0:Int) - (c:Int))) hp
 have e2:=Int.emod_add_mul_ediv (r+((l.getD n 0:Int) - (c:Int))) (B:Int)
 have q1 : -1≤(r+((l.getD n 0:Int) - (c:Int))) / (B:Int):=by rw[Int.le_ediv_iff_mul_le hp];omega
 have q2:(r+((l.getD n 0:Int) - (c:Int))) / (B:Int)<1:=by rw[Int.ediv_lt_iff_lt_mul hp];omega
 have hlen:l.length=n+1:=h.len.trans hla
 have hv:∀ d,(val B (l.set n d):Int)=(val B (l.take n):Int)+(B:Int) ^ n*(d:Int):=fun d=>by
  have:=val_take_set B l n d (by omega)
  rw[val_take_all B _ _ (by simp;omega)]at this
  rw[this];simp
 have hva:(val B la:Int)=(val B (la.take n):Int)+(B:Int) ^ n*(la.getD n 0:Int):=by
  have:=val_take_step B la n
  rw[val_take_all B _ _ (by omega)]at this
  rw[this];simp
 have hs:=h.sum
 rw[val_take_all B lb n (by omega)]at hs
 refine ⟨((r+((l.getD n 0:Int) - (c:Int))) % (B:Int)).toNat,by omega,rfl,dig_set h.dg (by omega) _,by simp[hlen],fun h0=>?_,fun h0=>?_⟩
 ·have hq0:(r+((l.getD n 0:Int) - (c:Int))) / (B:Int)=0:=by
   have:=Int.ediv_nonneg h0 (show (0:Int)≤B by omega);omega
  rw[hq0,Int.mul_zero,Int.add_zero]at e2
  rw[hv,Int.toNat_of_nonneg m1,e2,hva,← hal]
  generalize (B:Int) ^ n=P at *
  rw[Int.mul_sub]at hs
  rw[Int.mul_add,Int.mul_sub]
  omega
 ·have hq0:(r+((l.getD n 0:Int) - (c:Int))) / (B:Int)=-1:=by
   have:=Int.ediv_neg_of_neg_of_pos h0 hp;omega
  rw[hq0]at e2
  rw[hv,Int.toNat_of_nonneg m1,hva,← hal,Int.pow_succ]
  generalize (B:Int) ^ n=P at *
  have e3:(r+((l.getD n 0:Int) - (c:Int))) % (B:Int)=(r+((l.getD n 0:Int) - (c:Int)))+(B:Int):=by omega
  rw[e3]
  rw[Int.mul_sub]at hs
  rw[Int.mul_add,Int.mul_add,Int.mul_sub]
  omega
structure BackInv (B:Nat) (l0 lb l:List Nat) (i s:Nat):Prop where
 len:l.length=l0.length
 dg:dig B l
 sum:val B (l.take i)+B ^ i*s=val B (l0.take i)+val B (lb.take i)
 rest:l.drop i=l0.drop i
 small:s≤1
theorem BackInv.start {B:Nat}{l0:List Nat}(lb:List Nat) (h:dig B l0):BackInv B l0 lb l0 0 0:=⟨rfl,h,by simp[val],rfl,by omega⟩
theorem BackInv.step {B:Nat}{l0 lb l:List Nat}{i s:Nat}(h:BackInv B l0 lb l i s) (hB:1<B) (hb:dig B lb) (hi:i<l0.length) :
 BackInv B l0 lb (l.set i ((s+(l.getD i 0+lb.getD i 0)) % B)) (i+1) ((s+(l.getD i 0+lb.getD i 0)) / B):=by
 have h1:=dig_getD h.dg (by omega) i
 have h2:=dig_getD hb (by omega) i
 have hal:l.getD i 0=l0.getD i 0:=by
  have e:=congrArg (fun x:List Nat=>x.getD 0 0) h.rest
  simp only[getD_drop,Nat.add_zero]at e;exact e
 refine ⟨by simp[h.len],dig_set h.dg (Nat.mod_lt _ (by omega)) _,?_,?_,?_⟩
 ·rw[val_take_set B l i _ (by rw[h.len];exact hi),val_take_step,val_take_step,Nat.pow_succ,Nat.mul_assoc,← hal]
  have e:=Nat.mod_add_div (s+(l.getD i 0+lb.getD i 0)) B
  have e2:B ^ i*((s+(l.getD i 0+lb.getD i 0)) % B)+B ^ i*(B*((s+(l.getD i 0+lb.getD i 0)) / B))=B ^ i*s+(B ^ i*l.getD i 0+B ^ i*lb.getD i 0):=by
   rw[← Nat.mul_add,e,Nat.mul_add,Nat.mul_add]
  have:=h.sum
  omega
 ·rw[drop_set_before]
  have:=congrArg (fun x:List Nat=>x.drop 1) h.rest
  simpa [List.drop_drop]using this
 ·have h3:=h.small
  have:(s+(l.getD i 0+lb.getD i 0)) / B<2:=by rw[Nat.div_lt_iff_lt_mul (by omega)];omega
  omega
theorem BackInv.done {B:Nat}{l0 lb l:List Nat}{n s:Nat}(h:BackInv B l0 lb l n s) (hB:1<B) (hl0:l0.length=n+1) (hlb:lb.length=n) (v:Nat) (hv:val B l0+val B lb=B ^ (n+1)+v) (hvs:v<B ^ (n+1)) :
 dig B (l.set n ((l.getD n 0+s) % B))∧(l.set n ((l.getD n 0+s) % B)).length=n+1∧val B (l.set n ((l.getD n 0+s) % B))=v:=by
 have hlen:l.length=n+1:=h.len.trans hl0
 have hal:l.getD n 0=l0.getD n 0:=by
  have e:=congrArg (fun x:List Nat=>x.getD 0 0) h.rest
  simp only[getD_drop,Nat.add_zero]at e;exact e
 have hd:dig B (l.set n ((l.getD n 0+s) % B)):=dig_set h.dg (Nat.mod_lt _ (by omega)) _
 refine ⟨hd,by simp[hlen],?_⟩
 have e1:=val_take_set B l n ((l.getD n 0+s) % B) (by omega)
 rw[val_take_all B _ _ (by simp;omega)]at e1
 have e0:=val_take_step B l0 n
 rw[val_take_all B _ _ (by omega)]at e0
 have hs:=h.sum
 rw[val_take_all B lb n (by omega)]at hs
 have e2:=Nat.mod_add_div (l.getD n 0+s) B
 have e3:B ^ n*((l.getD n 0+s) % B)+B ^ (n+1)*((l.getD n 0+s) / B)=B ^ n*l.getD n 0+B ^ n*s:=by
  rw[Nat.pow_succ,Nat.mul_assoc,← Nat.mul_add,e2,Nat.mul_add]
 have hlt:=val_lt (by omega:0<B) hd
 rw[List.length_set,hlen]at hlt
 rw[← hal]at e0
 have e4:val B (l.set n ((l.getD n 0+s) % B))+B ^ (n+1)*((l.getD n 0+s) / B)=B ^ (n+1)+v:=by omega
 have e5:=congrArg (· % B ^ (n+1)) e4
 simp only[Nat.add_mul_mod_self_left,Nat.add_mod_left]at e5
 rw[Nat.mod_eq_of_lt hlt,Nat.mod_eq_of_lt hvs]at e5
 exact e5
theorem la_tops {la lb:List Nat}{m:Nat}(da:dig 4294967296 la) (db:dig 4294967296 lb) (hla:la.length=m+3) (hlb:lb.length=m+2) (ht:2147483648≤lb.getD (m+1) 0) :
 Tops 4294967296 (4294967296 ^ m) (val 4294967296 la) (val 4294967296 lb) (la.getD (m+2) 0) (la.getD (m+1) 0) (la.getD m 0) (val 4294967296 (la.take m)) (lb.getD (m+1) 0) (lb.getD m 0) (val 4294967296 (lb.take m)):=by
 have h3:la.drop (m+3) = []:=List.drop_of_length_le (by omega)
 have h2:lb.drop (m+2) = []:=List.drop_of_length_le (by omega)
 refine ⟨?_,?_,val_take_lt (by omega) da m,val_take_lt (by omega) db m,dig_getD da (by omega) _,dig_getD da (by omega) _,dig_getD db (by omega) _,by omega⟩
 ·rw[val_split _ la m,val_drop_step _ la m,val_drop_step _ la (m+1),val_drop_step _ la (m+1+1),show m+1+1=m+2 from rfl,h3]
  simp only[val,Nat.mul_zero,Nat.add_zero]
  generalize 4294967296 ^ m=P
  rw[Nat.mul_comm P,Nat.add_comm]
  congr 2
  omega
 ·rw[val_split _ lb m,val_drop_step _ lb m,val_drop_step _ lb (m+1),show m+1+1=m+2 from rfl,h2]
  simp only[val,Nat.mul_zero,Nat.add_zero]
  generalize 4294967296 ^ m=P
  rw[Nat.mul_comm P,Nat.add_comm]
  congr 2
  omega
end Vic
end
section
namespace Go.Proofs.YtbdfhnelmojbpaaGreatDoor
open Go.RowKit Vic
theorem step_min1 (q1 q0:Nat) (h0:q0=min q1 4294967295) (hw:q1<18446744073709551616) (h:(4294967295:Int)<IntKind.u64.wrap (q1:Int)):q0=4294967295:=by
 rw[IntKind.wrap_u64]at h;omega
theorem step_min2 (q1 q0:Nat) (h0:q0=min q1 4294967295) (hw:q1<18446744073709551616) (h:¬ (4294967295:Int)<IntKind.u64.wrap (q1:Int)):(IntKind.u64.wrap (q1:Int))=(q0:Int):=by
 rw[IntKind.wrap_u64]at *;omega
theorem step_rest (two q b:Nat) (h:two<18446744073709551616) (hq:q*b≤two):IntKind.u64.wrap ((two:Int) - IntKind.u64.wrap ((q:Int)*(b:Int)))=((two - q*b:Nat):Int):=by
 have e:((q*b:Nat):Int)=(q:Int)*(b:Int):=Int.natCast_mul _ _
 rw[← e]
 generalize q*b=p at *
 simp only[IntKind.wrap_u64]
 omega
theorem wrap_dec (q:Nat) (h1:1≤q) (h:q≤4294967295):IntKind.u64.wrap ((q:Int) - 1)=((q - 1:Nat):Int):=by
 rw[IntKind.wrap_u64];omega
theorem wrap_add2 (r b:Nat) (h1:r≤4294967295) (h:b<4294967296):IntKind.u64.wrap ((r:Int)+(b:Int))=((r+b:Nat):Int):=by
 rw[IntKind.wrap_u64];omega
theorem step_carry (c q y:Nat) (hc:c<4294967296) (hq:q<4294967296) (hy:y<4294967296) :
 IntKind.u64.wrap ((c:Int)+IntKind.u64.wrap ((q:Int)*IntKind.u64.wrap (y:Int)))=((c+q*y:Nat):Int):=by
 rw[wrap64_small y hy]
 have h1:q*y≤4294967295*4294967295:=Nat.mul_le_mul (by omega) (by omega)
 have e:((q*y:Nat):Int)=(q:Int)*(y:Int):=Int.natCast_mul _ _
 rw[← e]
 generalize q*y=m at *
 simp only[IntKind.wrap_u64]
 omega
theorem step_diff (x S:Nat) (r:Int) (hx:x<4294967296) (hr:r=0∨r=-1) :
 wrap64 (r+wrap64 (wrap64 (x:Int) - (S:Int) % 4294967296))=r+((x:Int) - ((S % 4294967296:Nat):Int)):=by
 unfold wrap64;omega
theorem step_top (x c:Nat) (r:Int) (hx:x<4294967296) (hc:c<4294967296) (hr:r=0∨r=-1) :
 wrap64 (r+wrap64 (wrap64 (x:Int) - wrap64 (c:Int)))=r+((x:Int) - (c:Int)):=by
 unfold wrap64;omega
theorem dig_yes {a b q v:Nat}(hb:0<b) (hq:q=a / b∨q=a / b+1) (h:(v:Int)=(a:Int) - (q:Int)*(b:Int)):q=a / b∧v=a % b:=by
 have e:=Nat.div_add_mod a b
 have hm:=Nat.mod_lt a hb
 have e2:((q*b:Nat):Int)=(q:Int)*(b:Int):=Int.natCast_mul _ _
 rw[← e2]at h
 rcases hq with hq|hq
 ·refine ⟨hq,?_⟩
  rw[← hq,Nat.mul_comm]at e
  generalize q*b=p at *
  generalize a % b=z at *
  omega
 ·exfalso
  rw[hq,Nat.add_mul,Nat.mul_comm]at h
  generalize b*(a / b)=p at *
  generalize a % b=z at *
  omega
theorem dig_no {a b q v P:Nat}(hb:0<b) (hq:q=a / b∨q=a / b+1) (hv:v<P) (h:(v:Int) - (P:Int)=(a:Int) - (q:Int)*(b:Int)) :
 q=a / b+1∧v+b=P+a % b:=by
 have e:=Nat.div_add_mod a b
 have hm:=Nat.mod_lt a hb
 have e2:((q*b:Nat):Int)=(q:Int)*(b:Int):=Int.natCast_mul _ _
 rw[← e2]at h
 rcases hq with hq|hq
 ·exfalso
  rw[← hq,Nat.mul_comm]at e
  generalize q*b=p at *
  generalize a % b=z at *
  omega
 ·refine ⟨hq,?_⟩
  rw[hq,Nat.add_mul,Nat.mul_comm]at h
  generalize b*(a / b)=p at *
  generalize a % b=z at *
  omega
theorem back_sum (s x y:Nat) (hs:s≤1) (hx:x<4294967296) (hy:y<4294967296) :
 IntKind.u64.wrap ((s:Int)+IntKind.u64.wrap (IntKind.u64.wrap (x:Int)+IntKind.u64.wrap (y:Int)))=((s+(x+y):Nat):Int):=by
 simp only[IntKind.wrap_u64];omega
theorem step_back (q g:Nat) (h:q=g+1) (hq:q<4294967296):IntKind.u64.wrap ((q:Int) - 1) % 4294967296=((g:Nat):Int):=by
 rw[IntKind.wrap_u64];omega
def StepPost (Ba oa:Nat) (cur:Array Value) (la lb:List Nat) (w:World) (e:Ending) (w':World):Prop:=
 e=.returned (.int .u32 ((val 4294967296 la / val 4294967296 lb:Nat):Int)) ∧
  ∃ l,Row w' Ba 291 (upd cur oa l)∧l.length=la.length∧dig 4294967296 l∧val 4294967296 l=val 4294967296 la % val 4294967296 lb∧Only Ba w w'
set_option maxRecDepth 100000 in
set_option maxHeartbeats 4000000 in
theorem nat_step (w:World) (Ba oa ca Bb ob cb m:Nat) (cur:Array Value) (la lb:List Nat) (hA:Row w Ba 291 (upd cur oa la)) (hsz:oa+la.length≤cur.size)
 (hB:∀ i,i<lb.length→w.cell? ⟨Bb,ob+i,none⟩=some (.int .u32 ((lb.getD i 0:Nat):Int))) (hne:Bb≠Ba)
 (hla:la.length=m+3) (hlb:lb.length=m+2) (hm:m≤1000000000000) (hca:m+3≤ca) (hcb:m+2≤cb) (da:dig 4294967296 la) (db:dig 4294967296 lb)
 (htop:2147483648≤lb.getD (m+1) 0) (hlt:val 4294967296 la<val 4294967296 lb*4294967296) :
 Calls Tryz.prog 273 #[.slice (some ⟨Ba,oa,none⟩) (m+3) ca,.slice (some ⟨Bb,ob,none⟩) (m+2) cb] w (StepPost Ba oa cur la lb w):=by
 have hcA:∀ i,i<la.length→w.cell? ⟨Ba,oa+i,none⟩=some (.int .u32 ((la.getD i 0:Nat):Int)):=fun i hi=>by
  rw[hA.cell,upd_get cur oa la i hi hsz]
 have x2:=hcA (m+2) (by omega)
 have x1:=hcA (m+1) (by omega)
 have x0:=hcA m (by omega)
 have y1:=hB (m+1) (by omega)
 have y0:=hB m (by omega)
 have l2:=dig_getD da (by omega) (m+2)
 have l1:=dig_getD da (by omega) (m+1)
 have l0:=dig_getD da (by omega) m
 have k1:=dig_getD db (by omega) (m+1)
 have k0:=dig_getD db (by omega) m
 have HL:=Lib.hid (la_tops da db hla hlb htop)
 have HA:=Lib.hid hcA
 have HB:=Lib.hid hB
 generalize la.getD (m+2) 0=a2 at *
 generalize la.getD (m+1) 0=a1 at *
 generalize la.getD m 0=a0 at *
 generalize lb.getD (m+1) 0=b1 at *
 generalize lb.getD m 0=b0 at *
 have e2:=wrap64_small a2 l2
 have e1:=wrap64_small a1 l1
 have e0:=wrap64_small a0 l0
 have f1:=wrap64_small b1 k1
 have f0:=wrap64_small b0 k0
 have etwo:=short_or a2 a1 l2 l1
 rw[e1]at etwo
 obtain ⟨two,htwo⟩:∃ two,two=a2*4294967296+a1:=⟨_,rfl⟩
 rw[← htwo]at etwo
 obtain ⟨q1,hq1⟩:∃ q1,q1=two / b1:=⟨_,rfl⟩
 have ed:((two:Nat):Int) / ((b1:Nat):Int)=((q1:Nat):Int):=by rw[hq1];exact (Int.natCast_ediv _ _).symm
 obtain ⟨q0,hq0⟩:∃ q0,q0=min q1 4294967295:=⟨_,rfl⟩
 have hq1b:q1<18446744073709551616:=by rw[hq1,htwo];exact Nat.lt_of_le_of_lt (Nat.div_le_self _ _) (by omega)
 have HW:=Lib.hid hq1b
 clear hq1b
 have HI0:=KnInv.start HL.out (by omega) hlt
 have er:IntKind.u64.wrap ((two:Int) - IntKind.u64.wrap ((q0:Int)*(b1:Int)))=((two - q0*b1:Nat):Int):=step_rest two q0 b1 (by rw[htwo];omega) (by rw[hq0,hq1];exact Nat.le_trans (Nat.mul_le_mul_right _ (Nat.min_le_left _ _)) (Nat.div_mul_le_self _ _))
 rw[← htwo,show (4294967296:Nat) - 1=4294967295 from rfl,← hq1,← hq0]at HI0
 have hr0:two - q0*b1<18446744073709551616:=Nat.lt_of_le_of_lt (Nat.sub_le _ _) (by rw[htwo];omega)
 rw[htwo]at HI0
 obtain ⟨r0,hr0e⟩:∃ r0,r0=two - q0*b1:=⟨_,rfl⟩
 rw[← htwo,← hr0e]at HI0
 rw[htwo]at HI0
 rw[← hr0e]at er hr0
 have HI:=Lib.hid HI0
 have HR0:=Lib.hid hr0
 clear HI0 hr0 hr0e
 have HQ1:=Lib.hid hq1
 have HQ0:=Lib.hid hq0
 clear hq1 hq0
 have hb1:(1:Int)≤b1:=by omega
 have HBP:Hid (0<val 4294967296 lb):=by rcases Nat.eq_zero_or_pos (val 4294967296 lb)with h|h;(· rw[h]at hlt;omega);exact h
 have HT:=Lib.hid htwo
 have L2:=Lib.hid l2;have L1:=Lib.hid l1;have L0:=Lib.hid l0;have K1:=Lib.hid k1;have K0:=Lib.hid k0;have TOP:=Lib.hid htop;have HLT:=Lib.hid hlt;have SZ:=Lib.hid hsz
 clear htwo hcA hB l2 l1 l0 k1 k0 htop hlt hsz hca hcb
 go_enter Tryz.func273,Tryz.ntmps273
 go_wp2_with fail
 go_quiet (fail)
 go_upto_region 3 with fail
 go_cut [7] (fun x wc=>x=.int .u64 q0∧wc=w.drewN nq)
 case first=>
  go_wp2_with fail
  ·have h:(4294967295:Int)<IntKind.u64.wrap (q1:Int):=by assumption
   go_meet
   case rel=>exact ⟨by rw[step_min1 q1 q0 HQ0.out HW.out h];rfl,rfl⟩
  ·have h:¬ (4294967295:Int)<IntKind.u64.wrap (q1:Int):=by first|assumption|(have:=‹IntKind.u64.wrap (q1:Int)≤4294967295›;omega)
   go_meet
   case rel=>exact ⟨by rw[step_min2 q1 q0 HQ0.out HW.out h],rfl⟩
 case rest=>
  obtain ⟨rfl,rfl⟩:=hcut
  go_upto_block 0 with fail
  go_cut [7] (fun x wc=>∃ q n:Nat,x=.int .u64 q∧wc=w.drewN n∧Hid (q≤4294967295)∧Hid (q=val 4294967296 la / val 4294967296 lb∨q=val 4294967296 la / val 4294967296 lb+1))
  case first=>
   go_wp2_with fail
   go_loopw [7,8] (fun x y wr=>∃ q r n:Nat,x=.int .u64 q∧y=.int .u64 r∧wr=w.drewN n∧Hid (r<18446744073709551616)∧Hid (KnInv 4294967296 (val 4294967296 la) (val 4294967296 lb) (a2*4294967296+a1) b1 q r)) (fun x _ _=>(intOf x).toNat)
   case atStart=>exact ⟨q0,r0,nq,rfl,rfl,rfl,HR0.out,HI.out⟩
   case round=>
    obtain ⟨q,r,n,rfl,rfl,rfl,hr,hi⟩:=hrel
    by_cases hA:r≤4294967295
    ·have hT:decide ((r:Int)≤4294967295)=true:=decide_eq_true (by omega)
     obtain ⟨m2,em,e5⟩:=digit_m r a0 (by omega) (by have:=L0.out;omega)
     have hqle:=hi.out.le
     obtain ⟨c1,c2⟩:=digit_p q b0 (by omega) (by have:=K0.out;omega)
     have e6:IntKind.u64.wrap ((r:Int)*4294967296)=(r:Int)*4294967296:=by rw[IntKind.wrap_u64];omega
     have e7:IntKind.u64.wrap ((q:Int)*(b0:Int))=(q:Int)*(b0:Int):=by rw[IntKind.wrap_u64];omega
     have hP:((q*b0:Nat):Int)=(q:Int)*(b0:Int):=Int.natCast_mul _ _
     by_cases hB:m2<q*b0
     ·have hG:decide ((m2:Int)<(q:Int)*(b0:Int))=true:=decide_eq_true (by omega)
      have hq1:=pos_of_lt_mul hB
      have HD:=Lib.hid (hi.out.down HL.out hq1 (by rw[← em];exact hB))
      have hq1':(1:Int)≤q:=by omega
      have HR:=Lib.hid hA
      have HQL:=Lib.hid hqle
      clear hA hB hP em c1 c2 hqle hq1
      go_wp2_with fail
      go_quiet (fail)
      go_wp2_with fail
      rw[wrap_dec q (by omega) (by have:=HQL.out;omega),wrap_add2 r b1 HR.out K1.out]
      refine ⟨⟨_,_,_,rfl,rfl,rfl,Lib.hid (by have:=HR.out;have:=K1.out;omega),HD⟩,?_⟩
      show ((q - 1:Nat):Int).toNat<((q:Nat):Int).toNat
      omega
     ·have hG:decide ((m2:Int)<(q:Int)*(b0:Int))=false:=decide_eq_false (by omega)
      have HD:=Lib.hid (hi.out.done HL.out (by have:=TOP.out;omega) (by omega) (.inr (by rw[← em];omega)))
      have HR:=Lib.hid hA
      have HQL:=Lib.hid hqle
      clear hA hB hP em c1 c2 hqle
      go_wp2_with fail
      go_quiet (fail)
      go_wp2_with fail
      go_meet
      case rel=>exact ⟨q,n+nq,rfl,World.drewN_drewN _ _ _,Lib.hid (by have:=HQL.out;omega),HD⟩
    ·have hT:decide ((r:Int)≤4294967295)=false:=decide_eq_false (by omega)
     have hqle:=hi.out.le
     have HD:=Lib.hid (hi.out.done HL.out (by have:=TOP.out;omega) (by omega) (.inl (by omega)))
     have HQL:=Lib.hid hqle
     clear hA hqle
     go_wp2_with fail
     go_quiet (fail)
     go_wp2_with fail
     go_meet
     case rel=>exact ⟨q,n+nq,rfl,World.drewN_drewN _ _ _,Lib.hid (by have:=HQL.out;omega),HD⟩
  case rest=>
   obtain ⟨q,n,rfl,rfl,hqm,hqq⟩:=hcut
   have hq32:q<4294967296:=by have:=hqm.out;omega
   have HQM:=Lib.hid hq32
   clear HI HR0 HQ1 HQ0 HW er ed etwo x2 x1 x0 y1 y0 e2 e1 e0 f1 f0 hqm hq32
   go_wp2_with fail
   go_loopw [9,10,84] (fun s t u wr=>∃ (k c:Nat) (r:Int) (l:List Nat),s=.int .u64 c∧t=.int .i64 r∧u=.int .i64 k∧k≤m+2∧Only Ba w wr∧Row wr Ba 291 (upd cur oa l)∧Hid (SubInv 4294967296 q la lb l k c r)) (fun _ _ u _=>m+2 - (intOf u).toNat)
   case atStart=>exact ⟨0,0,0,la,rfl,rfl,rfl,by omega,(Only.refl _ _).drewN _,hA,SubInv.start (by omega) q lb da⟩
   case round=>
    obtain ⟨k,c,r,l,rfl,rfl,rfl,hk,hon,hrow,hi⟩:=hrel
    by_cases hlt:k<m+2
    ·have hcell:=hrow.cell (oa+k)
     rw[upd_get cur oa l k (by rw[hi.out.len];omega) (by rw[hi.out.len];exact SZ.out)]at hcell
     have hfree:=hrow.free (oa+k)
     have hcb:=HB.out k (by omega)
     rw[← hon.cell hne]at hcb
     have hst:=hi.out.step (by omega) HQM.out db (by omega)
     have hy:=dig_getD db (by omega) k
     have hx:=dig_getD hi.out.dg (by omega) k
     have hc:=hi.out.cs
     have hr:=hi.out.rs
     generalize lb.getD k 0=y at *
     generalize l.getD k 0=x at *
     have HE:=step_carry c q y hc HQM.out hy
     obtain ⟨S,hS⟩:∃ S,S=c+q*y:=⟨_,rfl⟩
     rw[← hS]at HE hst
     have HX:=Lib.hid hx;have HR:=Lib.hid hr;have HST:=Lib.hid hst
     clear hx hr hst hy hc hS
     go_wp2_with fail
     go_roundw
     case rel=>
      refine ⟨k+1,S / 4294967296,(r+((x:Int) - ((S % 4294967296:Nat):Int))) / ((4294967296:Nat):Int),l.set k ((r+((x:Int) - ((S % 4294967296:Nat):Int))) % ((4294967296:Nat):Int)).toNat,?_,?_,by go_num,by omega,hon.setCell _ _,?_,HST⟩
      ·rw[div_half]
      ·rw[step_diff x S r HX.out HR.out];rfl
      ·rw[step_diff x S r HX.out HR.out,less_lo,← upd_set cur oa l k _ (by rw[hi.out.len];omega)];exact hrow.set _ _
     case measure=>simp[intOf];omega
    ·obtain rfl:k=m+2:=by omega
     obtain ⟨d,hd,hde,hdd,hdl,hyes,hno⟩:=hi.out.top (by omega) hla hlb da db
     have hcell:=hrow.cell (oa+(m+2))
     rw[upd_get cur oa l (m+2) (by rw[hi.out.len];omega) (by rw[hi.out.len];exact SZ.out)]at hcell
     have hfree:=hrow.free (oa+(m+2))
     have hx:=dig_getD hi.out.dg (by omega) (m+2)
     have hc:=hi.out.cs
     have hr:=hi.out.rs
     have hrow2:=hrow.set (oa+(m+2)) (.int .u32 (d:Int))
     rw[upd_set cur oa l (m+2) d (by rw[hi.out.len];omega)]at hrow2
     generalize l.set (m+2) d=l2 at *
     generalize l.getD (m+2) 0=x at *
     have HE:=step_top x c r hx hc hr
     obtain ⟨t,ht⟩:∃ t:Int,t=r+((x:Int) - (c:Int)):=⟨_,rfl⟩
     rw[← ht]at HE hde hyes hno
     have HDE:=Lib.hid hde;have HT2:=Lib.hid ht
     have HX:=Lib.hid hx;have HR:=Lib.hid hr;have HDD:=Lib.hid hdd;have HY:=Lib.hid hyes;have HN:=Lib.hid hno;have HROW:=Lib.hid hrow2
     clear hde ht hx hc hr hdd hyes hno hd hrow2
     by_cases h0:(0:Int)≤t
     ·have hT:decide ((0:Int)≤t)=true:=decide_eq_true h0
      go_wp2_with fail
      obtain ⟨hqe,hve⟩:=dig_yes HBP.out hqq.out (HY.out h0)
      go_ret
      refine ⟨by rw[← hqe];exact ret_int (by have:=HQM.out;omega),l2,?_,by omega,HDD.out,hve,hon.setCell _ _⟩
      rw[less_lo,HDE.out]
      exact HROW.out
     ·have hT:decide ((0:Int)≤t)=false:=decide_eq_false h0
      have hv2:=val_lt (B:=4294967296) (by omega) HDD.out
      rw[hdl]at hv2
      have hvp:=HN.out (by omega)
      rw[show (((4294967296:Nat):Int) ^ (m+2+1))=((4294967296 ^ (m+2+1):Nat):Int)from (Int.natCast_pow _ _).symm]at hvp
      obtain ⟨hqe,hve⟩:=dig_no HBP.out hqq.out hv2 hvp
      have hvs:val 4294967296 la % val 4294967296 lb<4294967296 ^ (m+2+1):=Nat.lt_of_le_of_lt (Nat.mod_le _ _) (by have:=val_lt (B:=4294967296) (by omega) da;rwa [hla]at this)
      have HVS:=Lib.hid hvs
      have HQE:=Lib.hid hqe;have HVE:=Lib.hid hve
      have hrow3:Row (wr.setCell ⟨Ba,oa+(m+2),none⟩ (.int .u32 (t % 4294967296))) Ba 291 (upd cur oa l2):=by
       rw[less_lo,HDE.out]
       exact HROW.out
      have hon3:=hon.setCell (oa+(m+2)) (.int .u32 (t % 4294967296))
      have hqp:(1:Int)≤q:=Int.ofNat_le.2 (hqe▸Nat.le_add_left _ _)
      clear hv2 hvp hqe hve hvs hrow hi HROW
      go_wp2_with fail
      generalize wr.setCell ⟨Ba,oa+(m+2),none⟩ (.int .u32 (t % 4294967296))=w3 at *
      go_loopw [13,137] (fun s u wq=>∃ (k c:Nat) (l:List Nat),s=.int .u64 c∧u=.int .i64 k∧k≤m+2∧Only Ba w wq∧Row wq Ba 291 (upd cur oa l)∧Hid (BackInv 4294967296 l2 lb l k c)) (fun _ u _=>m+2 - (intOf u).toNat)
      case atStart=>exact ⟨0,0,l2,rfl,rfl,by omega,hon3,hrow3,BackInv.start lb HDD.out⟩
      case round=>
       obtain ⟨k,s,l4,rfl,rfl,hk4,hon4,hrow4,hi4⟩:=hrel
       by_cases hlt4:k<m+2
       ·have hcell4:=hrow4.cell (oa+k)
        rw[upd_get cur oa l4 k (by rw[hi4.out.len];omega) (by rw[hi4.out.len,hdl,← hla];exact SZ.out)]at hcell4
        have hfree4:=hrow4.free (oa+k)
        have hcb4:=HB.out k (by omega)
        rw[← hon4.cell hne]at hcb4
        have hst:=hi4.out.step (by omega) db (by omega)
        have hy:=dig_getD db (by omega) k
        have hx:=dig_getD hi4.out.dg (by omega) k
        have hs:=hi4.out.small
        generalize lb.getD k 0=y at *
        generalize l4.getD k 0=z at *
        have HE4:=back_sum s z y hs hx hy
        obtain ⟨S,hS⟩:∃ S,S=s+(z+y):=⟨_,rfl⟩
        rw[← hS]at HE4 hst
        have HST:=Lib.hid hst
        clear hst hy hx hs hS
        go_wp2_with fail
        go_roundw
        case rel=>
         refine ⟨k+1,S / 4294967296,l4.set k (S % 4294967296),by rw[div_half],by go_num,by omega,hon4.setCell _ _,?_,HST⟩
         rw[show ((S:Int) % 4294967296)=((S % 4294967296:Nat):Int)from (Int.natCast_emod _ _).symm,← upd_set cur oa l4 k _ (by rw[hi4.out.len];omega)]
         exact hrow4.set _ _
        case measure=>simp[intOf];omega
       ·obtain rfl:k=m+2:=by omega
        obtain ⟨hd1,hd2,hd3⟩:=hi4.out.done (by omega) hdl hlb _ HVE.out HVS.out
        have hcell4:=hrow4.cell (oa+(m+2))
        rw[upd_get cur oa l4 (m+2) (by rw[hi4.out.len];omega) (by rw[hi4.out.len,hdl,← hla];exact SZ.out)]at hcell4
        have hfree4:=hrow4.free (oa+(m+2))
        have hrow5:=hrow4.set (oa+(m+2)) (.int .u32 (((l4.getD (m+2) 0+s) % 4294967296:Nat):Int))
        rw[upd_set cur oa l4 (m+2) _ (by rw[hi4.out.len];omega)]at hrow5
        generalize l4.set (m+2) ((l4.getD (m+2) 0+s) % 4294967296)=l5 at *
        generalize l4.getD (m+2) 0=z at *
        have D1:=Lib.hid hd1;have D3:=Lib.hid hd3;have R5:=Lib.hid hrow5
        clear hd1 hd3 hrow5
        go_wp2_with fail
        go_ret
        refine ⟨ret_int ?_,l5,?_,by omega,D1.out,D3.out,hon4.setCell _ _⟩
        ·exact step_back q _ HQE.out HQM.out
        ·rw[show (((z:Int)+(s:Int)) % 4294967296)=(((z+s) % 4294967296:Nat):Int)from (Int.natCast_emod _ _).symm▸rfl]
         exact R5.out
end Go.Proofs.YtbdfhnelmojbpaaGreatDoor
end
