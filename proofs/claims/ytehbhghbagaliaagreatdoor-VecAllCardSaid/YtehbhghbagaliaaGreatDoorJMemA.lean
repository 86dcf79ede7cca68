/- What lies in memory: digits in a slice, a natural number behind a pointer. No program in sight. And: Plain law: fractions, as core's rational numbers; sizes. A set of numbers, map[int]bool. No program in sight. -/
import Derived.WalkKit
import Derived.Lib.Hide
import Derived.Test.YtehbhghbagaliaaGreatDoorJPlainA
import Derived.MapKept
set_option linter.unusedVariables false
set_option linter.unusedSimpArgs false
namespace Vic
open Go Go.RowKit
theorem block_lt {w:World}{b o:Nat}{v:Value}(h:w.cell? ⟨b,o,none⟩=some v):b<w.heap.size:=by
 rcases Nat.lt_or_ge b w.heap.size with h1|h1
 ·exact h1
 ·simp[World.cell?,Array.getElem?_eq_none h1]at h
theorem cell_keep {w w':World}{b o:Nat}{v:Value}(h:w.cell? ⟨b,o,none⟩=some v) (hb:Below w.heap.size w w'):w'.cell? ⟨b,o,none⟩=some v:=
 (hb.cell (p:=⟨b,o,none⟩) (block_lt h)).trans h
theorem below_seq {w a b:World}(h:Below w.heap.size w a) (k:Below a.heap.size a b):Below w.heap.size w b:=h.trans (k.mono h.size)
def Ints (k:IntKind) (w:World) (v:Value) (l:List Nat):Prop:=
 ∃ A c,v=.slice A l.length c∧l.length≤c∧(∀ i,i<l.length→∃ b o,A=some ⟨b,o,none⟩∧w.cell? ⟨b,o+i,none⟩=some (.int k ((l.getD i 0:Nat):Int)))
def U32s (w:World) (v:Value) (l:List Nat):Prop:=Ints .u32 w v l
theorem Ints.keep {k:IntKind}{w w':World}{v:Value}{l:List Nat}(h:Ints k w v l) (hb:Below w.heap.size w w'):Ints k w' v l:=by
 obtain ⟨A,c,h1,h2,h3⟩:=h
 refine ⟨A,c,h1,h2,fun i hi=>?_⟩
 obtain ⟨b,o,hA,hc⟩:=h3 i hi
 exact ⟨b,o,hA,cell_keep hc hb⟩
theorem U32s.keep {w w':World}{v:Value}{l:List Nat}(h:U32s w v l) (hb:Below w.heap.size w w'):U32s w' v l:=Ints.keep h hb
theorem Ints.nil_ (k:IntKind) (w:World):Ints k w (.slice none 0 0) []:=⟨none,0,rfl,Nat.le_refl _,fun i hi=>by simp at hi⟩
abbrev dgs (n:Nat):List Nat:=digs 4294967296 n
def NatBlk (w:World) (b:Nat):Prop:=∃ cs fr,w.heap[b]?=some (.cells cs 129 fr)
theorem NatBlk.same {w w':World}{b:Nat}(h:NatBlk w b) (hs:w'.heap[b]?=w.heap[b]?):NatBlk w' b:=by
 obtain ⟨cs,fr,h⟩:=h;exact ⟨cs,fr,hs.trans h⟩
theorem NatBlk.lt {w:World}{b:Nat}(h:NatBlk w b):b<w.heap.size:=by
 obtain ⟨cs,fr,h⟩:=h
 rcases Nat.lt_or_ge b w.heap.size with h1|h1
 ·exact h1
 ·rw[Array.getElem?_eq_none h1]at h;cases h
theorem NatBlk.keep {w w':World}{b:Nat}(h:NatBlk w b) (hb:Below w.heap.size w w'):NatBlk w' b:=h.same (hb.block b h.lt)
def NatAt (w:World) (v:Value) (n:Nat):Prop:=
 (v=.pointer none∧n=0)∨∃ b s,v=.pointer (some ⟨b,0,none⟩)∧w.cell? ⟨b,0,none⟩=some s∧U32s w s (digs 4294967296 n)∧NatBlk w b
def NatPtr (w:World) (v:Value) (n:Nat):Prop:=
 ∃ b s,v=.pointer (some ⟨b,0,none⟩)∧w.cell? ⟨b,0,none⟩=some s∧U32s w s (digs 4294967296 n)∧NatBlk w b
theorem NatPtr.at_ {w:World}{v:Value}{n:Nat}(h:NatPtr w v n):NatAt w v n:=.inr h
theorem NatPtr.keep {w w':World}{v:Value}{n:Nat}(h:NatPtr w v n) (hb:Below w.heap.size w w'):NatPtr w' v n:=by
 obtain ⟨b,s,h1,h2,h3,h4⟩:=h
 exact ⟨b,s,h1,cell_keep h2 hb,h3.keep hb,h4.keep hb⟩
theorem NatPtr.open_ {w:World}{v:Value}{n:Nat}(h:NatPtr w v n) :
 ∃ b A c,v=.pointer (some ⟨b,0,none⟩)∧w.cell? ⟨b,0,none⟩=some (.slice A (dgs n).length c)∧U32s w (.slice A (dgs n).length c) (dgs n):=by
 obtain ⟨b,s,h1,h2,⟨A,c,rfl,h4,h5⟩,_⟩:=h
 exact ⟨b,A,c,h1,h2,⟨A,c,rfl,h4,h5⟩⟩
def NewPtr (B:Nat) (v:Value):Prop:=∃ b,v=.pointer (some ⟨b,0,none⟩)∧B≤b
theorem NewPtr.mono {B C:Nat}{v:Value}(h:NewPtr B v) (hc:C≤B):NewPtr C v:=by
 obtain ⟨b,h1,h2⟩:=h;exact ⟨b,h1,Nat.le_trans hc h2⟩
theorem NatAt.ptr {w:World}{v:Value}{n:Nat}(h:NatAt w v n) (h0:n≠0):NatPtr w v n:=by
 rcases h with ⟨_,h⟩|h
 ·exact absurd h h0
 ·exact h
theorem NatAt.keep {w w':World}{v:Value}{n:Nat}(h:NatAt w v n) (hb:Below w.heap.size w w'):NatAt w' v n:=by
 rcases h with h|⟨b,s,h1,h2,h3,h4⟩
 ·exact .inl h
 ·exact .inr ⟨b,s,h1,cell_keep h2 hb,h3.keep hb,h4.keep hb⟩
def Row (w:World) (b:Nat) (t:TypeId) (cs:Array Value):Prop:=w.heap[b]?=some (.cells cs t (0,0))
theorem Row.lt {w:World}{b:Nat}{t:TypeId}{cs:Array Value}(h:Row w b t cs):b<w.heap.size:=by
 rcases Nat.lt_or_ge b w.heap.size with h1|h1
 ·exact h1
 ·unfold Row at h;rw[Array.getElem?_eq_none h1]at h;cases h
theorem Row.cell {w:World}{b:Nat}{t:TypeId}{cs:Array Value}(h:Row w b t cs) (i:Nat):w.cell? ⟨b,i,none⟩=cs[i]?:=by
 unfold Row at h;simp[World.cell?,h]
theorem Row.free {w:World}{b:Nat}{t:TypeId}{cs:Array Value}(h:Row w b t cs) (i:Nat):w.frozen? ⟨b,i,none⟩=false:=by
 unfold Row at h;simp[World.frozen?,h]
theorem Row.new (w:World) (t:TypeId) (cs:Array Value):Row (w.alloc (.cells cs t)) w.heap.size t cs:=by
 show (w.heap.push _)[w.heap.size]?=_
 simp
theorem Row.set {w:World}{b:Nat}{t:TypeId}{cs:Array Value}(h:Row w b t cs) (i:Nat) (u:Value):Row (w.setCell ⟨b,i,none⟩ u) b t (cs.setIfInBounds i u):=by
 unfold Row at h ⊢
 simp[World.setCell,Array.getElem?_modify,h]
theorem Row.far {w:World}{b:Nat}{t:TypeId}{cs:Array Value}(h:Row w b t cs) {p:Addr}(hp:b≠p.block) (u:Value):Row (w.setCell p u) b t cs:=
 (Below.heap_setCell w p u b hp).trans h
theorem Row.alloc {w:World}{b:Nat}{t:TypeId}{cs:Array Value}(h:Row w b t cs) (o:Obj):Row (w.alloc o) b t cs:=(Below.heap_alloc w o b h.lt).trans h
theorem Row.keep {w w':World}{b:Nat}{t:TypeId}{cs:Array Value}(h:Row w b t cs) (hb:Below w.heap.size w w'):Row w' b t cs:=(hb.block b h.lt).trans h
def vals (k:IntKind) (l:List Nat):Array Value:=(l.map fun (d:Nat)=>Value.int k (d:Int)).toArray
theorem vals_size (k:IntKind) (l:List Nat):(vals k l).size=l.length:=by simp[vals]
theorem vals_get (k:IntKind) (l:List Nat) (i:Nat) (h:i<l.length):(vals k l)[i]?=some (.int k ((l.getD i 0:Nat):Int)):=by
 simp[vals,h,List.getD_eq_getElem?_getD]
theorem vals_set (k:IntKind) (l:List Nat) (i:Nat) (d:Nat):(vals k l).setIfInBounds i (.int k (d:Int))=vals k (l.set i d):=by
 simp[vals,List.map_set]
theorem vals_replicate (k:IntKind) (n d:Nat):Array.replicate n (Value.int k (d:Int))=vals k (List.replicate n d):=by simp[vals]
theorem Row.ints {k:IntKind}{w:World}{b:Nat}{t:TypeId}{l:List Nat}(h:Row w b t (vals k l)) (c:Nat) (hc:l.length≤c):Ints k w (.slice (some ⟨b,0,none⟩) l.length c) l:=
 ⟨_,c,rfl,hc,fun i hi=>⟨b,0,rfl,by rw[Nat.zero_add,h.cell,vals_get k l i hi]⟩⟩
def Rets (v:Value) (w:World) (e:Ending) (w':World):Prop:=e=.returned v∧w=w'
def Keeps (v:Value) (w:World) (e:Ending) (w':World):Prop:=e=.returned v∧Below w.heap.size w w'
theorem Rets.keeps {v:Value}{w:World}{e:Ending}{w':World}(h:Rets v w e w'):Keeps v w e w':=by
 obtain ⟨h1,rfl⟩:=h;exact ⟨h1,Below.refl _ _⟩
def Gives (Q:Value→World→Prop) (w:World) (e:Ending) (w':World):Prop:=∃ x,e=.returned x∧Q x w'∧Below w.heap.size w w'
theorem Gives.mono {Q R:Value→World→Prop}{w w':World}{e:Ending}(h:Gives Q w e w') (k:∀ x w,Q x w→R x w):Gives R w e w':=by
 obtain ⟨x,h1,h2,h3⟩:=h
 exact ⟨x,h1,k x w' h2,h3⟩
theorem Rets.mk {v:Value}{w:World}{e:Ending}(h:e=.returned v):Rets v w e w:=⟨h,rfl⟩
theorem ret_int {k:IntKind}{a b:Int}(h:a=b):Ending.returned (.int k a)=.returned (.int k b):=by rw[h]
theorem ret2_int {k l:IntKind}{a b c d:Int}(h:a=b) (h':c=d):Ending.returned (.tuple #[.int k a,.int l c])=.returned (.tuple #[.int k b,.int l d]):=by rw[h,h']
theorem ret_bool {a b:Bool}(h:a=b):Ending.returned (.bool a)=.returned (.bool b):=by rw[h]
theorem ret_ib {k:IntKind}{a b:Int}{c d:Bool}(h:a=b) (h':c=d):Ending.returned (.tuple #[.int k a,.bool c])=.returned (.tuple #[.int k b,.bool d]):=by rw[h,h']
theorem ret_iib {k l:IntKind}{a b a' b':Int}{c d:Bool}(h:a=b) (h2:a'=b') (h':c=d):Ending.returned (.tuple #[.int k a,.int l a',.bool c])=.returned (.tuple #[.int k b,.int l b',.bool d]):=by rw[h,h2,h']
theorem shl_val (x n:Nat):IntKind.u64.wrap (((x:Nat):Int)*2 ^ n)=((x*2 ^ n % 18446744073709551616:Nat):Int):=by
 have e:((x:Nat):Int)*2 ^ n=((x*2 ^ n:Nat):Int):=by simp
 rw[e,IntKind.wrap_u64]
 exact (Int.natCast_emod _ _).symm
theorem shr_val (x n:Nat):((x:Nat):Int) / 2 ^ n=((x / 2 ^ n:Nat):Int):=by simp
theorem wrap64_nat (n:Nat):IntKind.u64.wrap ((n:Nat):Int)=((n % 18446744073709551616:Nat):Int):=by
 rw[IntKind.wrap_u64];omega
theorem wrap32_nat (n:Nat):IntKind.u32.wrap ((n:Nat):Int)=((n % 4294967296:Nat):Int):=by
 rw[IntKind.wrap_u32'];omega
theorem and_mask (n:Nat) (h:n<18446744073709551616):bits .and .u64 ((n:Nat):Int) 4294967295=((n % 4294967296:Nat):Int):=by
 have:=u64_and_nat n 4294967295 h (by omega)
 rw[show ((4294967295:Nat):Int)=4294967295 from rfl]at this
 rw[this,show (4294967295:Nat)=2 ^ 32 - 1 from rfl,Nat.and_two_pow_sub_one_eq_mod]
theorem div_half (n:Nat):((n:Nat):Int) / 4294967296=((n / 4294967296:Nat):Int):=by omega
theorem mul_half (n:Nat):((n:Nat):Int)*4294967296=((n*4294967296:Nat):Int):=by omega
theorem split_half (n:Nat):n / 4294967296*4294967296+n % 4294967296=n:=by omega
theorem or_half (a b:Nat) (ha:a % 4294967296=0) (h:a<18446744073709551616) (hb:b<4294967296):bits .or .u64 ((a:Nat):Int) ((b:Nat):Int)=((a+b:Nat):Int):=by
 rw[u64_or_nat _ _ h (by omega),nat_join 32 a b (by omega) (by omega)]
end Vic
set_option linter.unusedVariables false
namespace Vic
def sgn (neg:Bool) (n:Nat):Int:=if neg then -(n:Int)else n
theorem sgn_natAbs (neg:Bool) (n:Nat):(sgn neg n).natAbs=n:=by cases neg<;>simp[sgn]
def quo (neg:Bool) (n d:Nat):Rat:=mkRat (sgn neg n) d
theorem quo_den {neg:Bool}{n d:Nat}(hd:d≠0):(quo neg n d).den=d / Nat.gcd n d:=by
 rw[quo,Rat.den_mkRat,if_neg hd,sgn_natAbs,Nat.gcd_comm]
theorem sgn_div (neg:Bool) (n g:Nat) (h:g∣n):sgn neg n / (g:Int)=sgn neg (n / g):=by
 obtain ⟨k,rfl⟩:=h
 rcases Nat.eq_zero_or_pos g with h0|h0
 ·subst h0;cases neg<;>simp[sgn]
 ·rw[Nat.mul_div_cancel_left _ h0]
  have e:sgn neg (g*k)=(g:Int)*sgn neg k:=by
   cases neg<;>simp[sgn,Int.mul_neg]
  rw[e,Int.mul_ediv_cancel_left _ (by omega)]
theorem quo_num {neg:Bool}{n d:Nat}(hd:d≠0):(quo neg n d).num=sgn neg (n / Nat.gcd n d):=by
 rw[quo,Rat.num_mkRat,if_neg hd,sgn_natAbs,Nat.gcd_comm,sgn_div _ _ _ (Nat.gcd_dvd_left n d)]
theorem quo_natAbs {neg:Bool}{n d:Nat}(hd:d≠0):(quo neg n d).num.natAbs=n / Nat.gcd n d:=by
 rw[quo_num hd,sgn_natAbs]
theorem quo_neg {neg:Bool}{n d:Nat}(hd:d≠0):decide ((quo neg n d).num<0)=(neg && decide (n / Nat.gcd n d≠0)):=by
 rw[quo_num hd]
 generalize n / Nat.gcd n d=m
 cases neg
 ·simp[sgn]
 ·simp only[sgn,if_true,Bool.true_and]
  by_cases h:m=0
  ·subst h;rfl
  ·rw[decide_eq_true (by omega),decide_eq_true h]
theorem quo_self (q:Rat):quo (decide (q.num<0)) q.num.natAbs q.den=q:=by
 have e:sgn (decide (q.num<0)) q.num.natAbs=q.num:=by
  unfold sgn
  by_cases h:q.num<0
  ·simp[h];omega
  ·simp[h];omega
 rw[quo,e]
 exact Rat.mkRat_self q
theorem sgn_self (q:Rat):sgn (decide (q.num<0)) q.num.natAbs=q.num:=by
 unfold sgn
 by_cases h:q.num<0
 ·simp[h];omega
 ·simp[h];omega
abbrev sz (n:Nat):Nat:=(dgs n).length
theorem sz_mono {a b:Nat}(h:a≤b):sz a≤sz b:=digs_length_mono (by omega) h
theorem sz_mul (a b:Nat):sz (a*b)≤sz a+sz b:=by
 have h1:a<4294967296 ^ sz a:=lt_pow_digs_length (B:=4294967296) (by omega) a
 have h2:b<4294967296 ^ sz b:=lt_pow_digs_length (B:=4294967296) (by omega) b
 apply digs_length_le (by omega)
 rw[Nat.pow_add]
 exact Nat.mul_lt_mul'' h1 h2
theorem sz_add (a b:Nat):sz (a+b)≤max (sz a) (sz b)+1:=by
 have h1:a<4294967296 ^ sz a:=lt_pow_digs_length (B:=4294967296) (by omega) a
 have h2:b<4294967296 ^ sz b:=lt_pow_digs_length (B:=4294967296) (by omega) b
 apply digs_length_le (by omega)
 have h3:4294967296 ^ sz a≤4294967296 ^ max (sz a) (sz b):=Nat.pow_le_pow_right (by omega) (Nat.le_max_left _ _)
 have h4:4294967296 ^ sz b≤4294967296 ^ max (sz a) (sz b):=Nat.pow_le_pow_right (by omega) (Nat.le_max_right _ _)
 rw[Nat.pow_succ]
 omega
theorem sz_div (a b:Nat):sz (a / b)≤sz a:=sz_mono (Nat.div_le_self a b)
theorem sz_word {a:Nat}(h:a<18446744073709551616):sz a≤2:=digs_length_le (B:=4294967296) (k:=2) (by omega) h
def Fits (L:Nat) (q:Rat):Prop:=sz q.num.natAbs≤L∧sz q.den≤L
theorem fits_quo {neg:Bool}{n d L:Nat}(hd:d≠0) (hn:sz n≤L) (hl:sz d≤L):Fits L (quo neg n d):=
 ⟨by rw[quo_natAbs hd];exact Nat.le_trans (sz_div _ _) hn,by rw[quo_den hd];exact Nat.le_trans (sz_div _ _) hl⟩
theorem Fits.mono {L M:Nat}{q:Rat}(h:Fits L q) (hm:L≤M):Fits M q:=⟨Nat.le_trans h.1 hm,Nat.le_trans h.2 hm⟩
theorem quo_mul (p q:Bool) (n m d e:Nat):quo (p != q) (n*m) (d*e)=quo p n d*quo q m e:=by
 rw[quo,quo,quo,Rat.mkRat_mul_mkRat]
 congr 1
 cases p<;>cases q<;>simp[sgn,Int.mul_neg,Int.neg_mul]
theorem quo_of_num (q:Rat) (n:Int) (d:Nat) (h:q=mkRat n d):q=quo (decide (n<0)) n.natAbs d:=by
 rw[h,quo]
 congr 1
 unfold sgn
 by_cases h:n<0
 ·simp[h];omega
 ·simp[h];omega
theorem quo_add {d e:Nat}(x y:Rat) (hd:x.den=d) (he:y.den=e) (neg:Bool) (s:Nat) (h:sgn neg s=x.num*e+y.num*d):quo neg s (d*e)=x+y:=by
 rw[quo,h,Rat.add_def',hd,he]
theorem quo_add_same {d:Nat}(x y:Rat) (hd:x.den=d) (he:y.den=d) (neg:Bool) (s:Nat) (h:sgn neg s=x.num+y.num):quo neg s d=x+y:=by
 have h0:d≠0:=by rw[← hd];exact x.den_nz
 rw[quo,h,Rat.add_def',hd,he]
 rw[show x.num*(d:Int)+y.num*(d:Int)=(x.num+y.num)*(d:Int) by rw[Int.add_mul]]
 exact (Rat.mkRat_mul_right h0).symm
theorem quo_div (x y:Rat) (hy:y≠0):quo (decide (x.num<0) != decide (y.num<0)) (x.num.natAbs*y.den) (x.den*y.num.natAbs)=x / y:=by
 have e:y⁻¹=quo (decide (y.num<0)) y.den y.num.natAbs:=by
  have hn:y.num≠0:=fun h=>hy (Rat.num_eq_zero.1 h)
  rw[Rat.inv_def]
  by_cases h:y.num<0
  ·have e1:y.num=-(y.num.natAbs:Int):=by omega
   rw[decide_eq_true h]
   generalize y.num.natAbs=k at *
   rw[e1,Rat.divInt_neg',Rat.divInt_ofNat]
   rfl
  ·have e1:y.num=(y.num.natAbs:Int):=by omega
   rw[decide_eq_false h]
   generalize y.num.natAbs=k at *
   rw[e1,Rat.divInt_ofNat]
   rfl
 rw[quo_mul,quo_self,← e,Rat.div_def]
end Vic
set_option linter.unusedVariables false
set_option linter.unusedSimpArgs false
namespace Vic
open Go Go.RowKit
def IntSet (w:World) (m:Nat) (ks:List Int):Prop:=
 ∃ es clock,w.heap[m]?=some (.map es clock)∧es.toList.map (fun e:MapEntry=>(e.key,e.val))=ks.map (fun k=>(Value.int .i64 k,Value.bool true))
theorem IntSet.lt {w:World}{m:Nat}{ks:List Int}(h:IntSet w m ks):m<w.heap.size:=by
 obtain ⟨es,c,h1,_⟩:=h
 rcases Nat.lt_or_ge m w.heap.size with h2|h2
 ·exact h2
 ·rw[Array.getElem?_eq_none h2]at h1;cases h1
theorem IntSet.keep {w w':World}{m:Nat}{ks:List Int}(h:IntSet w m ks) (hb:w'.heap[m]?=w.heap[m]?):IntSet w' m ks:=by
 obtain ⟨es,c,h1,h2⟩:=h
 exact ⟨es,c,hb.trans h1,h2⟩
theorem IntSet.made (w:World):IntSet (w.alloc (.map #[] 0)) w.heap.size []:=⟨#[],0,by show (w.heap.push _)[w.heap.size]?=_;simp,rfl⟩
theorem findNow_ints {k:IntKind}(c:Int):∀ (es:List MapEntry) (ks:List Int) (i:Nat),es.map (fun e:MapEntry=>(e.key,e.val))=ks.map (fun k=>(Value.int .i64 k,Value.bool true)) →
 (c∈ks→∃ j,Instr.findNow (.int k) (.int .i64 c) es i=some (some (j,.bool true)))∧(c∉ks→Instr.findNow (.int k) (.int .i64 c) es i=some none)
 | [],ks,i,h=>by
   have h0:ks = []:=by cases ks with|nil=>rfl|cons a r=>simp at h
   subst h0
   exact ⟨fun h=>absurd h (by simp),fun _=>rfl⟩
 | e :: es,[],i,h=>by simp at h
 | e :: es,a :: ks,i,h=>by
   simp only[List.map_cons,List.cons.injEq,Prod.mk.injEq]at h
   obtain ⟨⟨h1,h2⟩,h3⟩:=h
   have ih:=findNow_ints (k:=k) c es ks (i+1) h3
   have hs:Instr.sameNow (.int k) (.int .i64 c) e.key=some (c == a):=by rw[h1];rfl
   unfold Instr.findNow
   rw[hs]
   by_cases hca:c=a
   ·subst hca
    simp only[beq_self_eq_true]
    exact ⟨fun _=>⟨i,by rw[h2]⟩,fun h=>absurd (by simp) h⟩
   ·rw[beq_eq_false_iff_ne.2 hca]
    refine ⟨fun h=>ih.1 ?_,fun h=>ih.2 ?_⟩
    ·rcases List.mem_cons.1 h with h|h
     ·exact absurd h hca
     ·exact h
    ·exact fun h2=>h (List.mem_cons_of_mem _ h2)
variable {P:Program}
theorem checkKey_int {kt:TypeId}{k:IntKind}(hk:P.underlying kt=some (.int k)) (b:Bool) (v:Int) (w:World):(Instr.checkKey b 10000 kt (.int .i64 v)).run P w=.ok () w:=by
 unfold Instr.checkKey
 simp[run_underlying hk]
theorem IntSet.lookup {t kt et:TypeId}{k:IntKind}(ht:P.underlying t=some (.map kt et)) (hk:P.underlying kt=some (.int k)) (hz:∀ w,(zeroValue et).run P w=.ok (.bool false) w) {w:World}{m:Nat}{ks:List Int}(h:IntSet w m ks) (c:Int) :
 (Instr.lookup t (.map (some m)) (.int .i64 c) false).run P w=.ok (.bool (decide (c∈ks))) w:=by
 obtain ⟨es,cl,h1,h2⟩:=h
 obtain ⟨f1,f2⟩:=findNow_ints (k:=k) c es.toList ks 0 h2
 by_cases hc:c∈ks
 ·obtain ⟨j,hj⟩:=f1 hc
  rw[decide_eq_true hc]
  simp[Instr.lookup,run_underlying ht,MapKept.run_getObj_map h1,checkKey_int hk,Instr.findKey,run_underlying hk,hj]
 ·rw[decide_eq_false hc]
  simp[Instr.lookup,run_underlying ht,MapKept.run_getObj_map h1,checkKey_int hk,Instr.findKey,run_underlying hk,f2 hc,hz]
theorem IntSet.update {t kt et:TypeId}{k:IntKind}(ht:P.underlying t=some (.map kt et)) (hk:P.underlying kt=some (.int k)) {w:World}{m:Nat}{ks:List Int}(h:IntSet w m ks) (c:Int) (hc:c∉ks) :
 ∃ w',(Instr.mapUpdate t (.map (some m)) (.int .i64 c) (.bool true)).run P w=.ok () w'∧IntSet w' m (ks ++ [c])∧w.grownBy w' (some m)∧w'.heap.size=w.heap.size:=by
 obtain ⟨es,cl,h1,h2⟩:=h
 obtain ⟨f1,f2⟩:=findNow_ints (k:=k) c es.toList ks 0 h2
 have hlt:m<w.heap.size:=by
  rcases Nat.lt_or_ge m w.heap.size with h3|h3
  ·exact h3
  ·rw[Array.getElem?_eq_none h3]at h1;cases h1
 refine ⟨{ w with heap:=w.heap.setIfInBounds m (.map (es.push { key:=.int .i64 c,val:=.bool true,born:=cl }) (cl+1)) },?_,?_,?_,?_⟩
 ·simp[Instr.mapUpdate,run_underlying ht,MapKept.run_getObj_map h1,checkKey_int hk,Instr.findKey,run_underlying hk,f2 hc,MapKept.run_setObj_map _ h1]
 ·refine ⟨_,_,by show (w.heap.setIfInBounds m _)[m]?=_;rw[Array.getElem?_setIfInBounds_self];rw[if_pos hlt],?_⟩
  simp[h2]
 ·refine ⟨rfl,rfl,rfl,by simp,fun j hj hne=>?_⟩
  show (w.heap.setIfInBounds m _)[j]?=_
  rw[Array.getElem?_setIfInBounds_ne]
  intro e;exact hne (by rw[e])
 ·simp
end Vic
