/- Plain arithmetic of lists of digits, the lowest first: no program in sight. -/
import Derived.WalkKit
import Derived.Lib.Hide
import Derived.Deep.Draws
import Derived.Lib.Strings
import Derived.Lib.IndexMore
import Derived.Lib.TrimByte
import Derived.Lib.FieldsP
import Derived.Laws.RangeString
import Derived.Test.YtbdfhnelmojbpaaGreatDoorProg
import Derived.WalkSpells
import Derived.WalkLawsBesides
import Derived.Lib.Builder
import Derived.Lib.AppendStr
import Derived.Lib.UnsafeStr
import Derived.Deep.QuietTactic
import Derived.BigQuiet
import Derived.Shelf.RegionOpenPlain
import Derived.Laws.Externs
import Derived.Deep.OwnRows
import Derived.Lib.ItoaNum
import Derived.Lib.ParseIntB
import Derived.Lib.SlTrimSet
import Derived.Lib.Repeat
import Derived.Laws.AppendOwn
import Derived.Deep.RegionLaw
set_option linter.unusedVariables false
set_option linter.unusedSimpArgs false
section
namespace Vic
def val (B:Nat):List Nat→Nat
 | []=>0
 | d :: ds=>d+B*val B ds
theorem val_nil (B:Nat):val B []=0:=rfl
theorem val_cons (B d:Nat) (ds:List Nat):val B (d :: ds)=d+B*val B ds:=rfl
theorem val_append (B:Nat) (a b:List Nat):val B (a ++ b)=val B a+B ^ a.length*val B b:=by
 induction a with
 | nil=>simp[val]
 | cons d ds ih=>
   simp only[List.cons_append,val,ih,List.length_cons,Nat.pow_succ]
   rw[Nat.mul_add,← Nat.mul_assoc,Nat.mul_comm B (B ^ ds.length)]
   omega
theorem val_snoc (B:Nat) (a:List Nat) (d:Nat):val B (a ++ [d])=val B a+B ^ a.length*d:=by
 rw[val_append];simp[val]
def dig (B:Nat) (l:List Nat):Prop:=∀ d∈l,d<B
theorem dig_nil (B:Nat):dig B []:=by intro d h;cases h
theorem dig_cons {B d:Nat}{l:List Nat}:dig B (d :: l)↔d<B∧dig B l:=by simp[dig]
theorem dig_append {B:Nat}{a b:List Nat}:dig B (a ++ b)↔dig B a∧dig B b:=by
 simp only[dig,List.mem_append]
 exact ⟨fun h=>⟨fun d hd=>h d (.inl hd),fun d hd=>h d (.inr hd)⟩,fun h d hd=>hd.elim (h.1 d) (h.2 d)⟩
theorem dig_take {B:Nat}{l:List Nat}(h:dig B l) (k:Nat):dig B (l.take k):=fun d hd=>h d (List.mem_of_mem_take hd)
theorem dig_drop {B:Nat}{l:List Nat}(h:dig B l) (k:Nat):dig B (l.drop k):=fun d hd=>h d (List.mem_of_mem_drop hd)
theorem dig_getD {B:Nat}{l:List Nat}(h:dig B l) (hB:0<B) (i:Nat):l.getD i 0<B:=by
 rw[List.getD_eq_getElem?_getD]
 cases hi:l[i]? with
 | none=>simpa using hB
 | some d=>simpa using h d (List.mem_of_getElem? hi)
theorem val_lt {B:Nat}(hB:0<B) {l:List Nat}(h:dig B l):val B l<B ^ l.length:=by
 induction l with
 | nil=>simp[val]
 | cons d ds ih=>
   obtain ⟨h1,h2⟩:=dig_cons.1 h
   have:=ih h2
   simp only[val,List.length_cons,Nat.pow_succ]
   have h3:B*(val B ds+1)≤B*B ^ ds.length:=Nat.mul_le_mul_left _ this
   rw[Nat.mul_add]at h3
   rw[Nat.mul_comm (B ^ ds.length) B]
   omega
def digs (B:Nat) (n:Nat):List Nat:=
 if h:n=0∨B≤1 then []else n % B :: digs B (n / B)
termination_by n
decreasing_by
 simp only[not_or]at h
 exact Nat.div_lt_self (Nat.pos_of_ne_zero h.1) (by omega)
theorem digs_zero (B:Nat):digs B 0 = []:=by unfold digs;simp
theorem digs_pos {B n:Nat}(hB:1<B) (hn:n≠0):digs B n=n % B :: digs B (n / B):=by
 rw[digs];rw[dif_neg (by omega)]
theorem val_digs {B:Nat}(hB:1<B) (n:Nat):val B (digs B n)=n:=by
 induction n using Nat.strongRecOn with
 | _ n ih=>
   by_cases hn:n=0
   ·subst hn;rw[digs_zero];rfl
   ·rw[digs_pos hB hn,val_cons,ih _ (Nat.div_lt_self (by omega) hB)]
    have:=Nat.div_add_mod n B
    omega
theorem digs_eq_nil {B n:Nat}(hB:1<B):digs B n = []↔n=0:=by
 constructor
 ·intro h;have:=val_digs hB n;rw[h]at this;simpa [val]using this.symm
 ·rintro rfl;exact digs_zero B
def norm (l:List Nat):Prop:=l.getLast?≠some 0
theorem val_drop (B:Nat) (hB:0<B) (l:List Nat) (hd:dig B l) (k:Nat):val B (l.drop k)=val B l / B ^ k:=by
 by_cases h:k≤l.length
 ·have e:val B l=val B (l.take k)+B ^ k*val B (l.drop k):=by
   have:=val_append B (l.take k) (l.drop k)
   rw[List.take_append_drop,List.length_take,Nat.min_eq_left h]at this
   exact this
  have h2:=val_lt hB (dig_take hd k)
  rw[List.length_take,Nat.min_eq_left h]at h2
  rw[e,Nat.add_mul_div_left _ _ (Nat.pow_pos hB),Nat.div_eq_of_lt h2];omega
 ·have h1:=val_lt hB hd
  rw[List.drop_of_length_le (by omega)]
  rw[Nat.div_eq_of_lt]
  ·rfl
  ·exact Nat.lt_of_lt_of_le h1 (Nat.pow_le_pow_right hB (by omega))
end Vic
end
section
namespace Vic
open Go Go.RowKit
theorem block_lt {w:World}{b o:Nat}{v:Value}(h:w.cell? ⟨b,o,none⟩=some v):b<w.heap.size:=by
 rcases Nat.lt_or_ge b w.heap.size with h1|h1
 ·exact h1
 ·simp[World.cell?,Array.getElem?_eq_none h1]at h
theorem cell_keep {w w':World}{b o:Nat}{v:Value}(h:w.cell? ⟨b,o,none⟩=some v) (hb:Below w.heap.size w w'):w'.cell? ⟨b,o,none⟩=some v:=
 (hb.cell (p:=⟨b,o,none⟩) (block_lt h)).trans h
theorem Below.drewN_ {B:Nat}{u w:World}(h:Below B u w) (n:Nat):Below B u (w.drewN n):=⟨h.os,h.tape,h.output,h.size,h.block⟩
theorem below_seq {w a b:World}(h:Below w.heap.size w a) (k:Below a.heap.size a b):Below w.heap.size w b:=h.trans (k.mono h.size)
def Ints (k:IntKind) (w:World) (v:Value) (l:List Nat):Prop:=
 ∃ A c,v=.slice A l.length c∧l.length≤c∧(∀ i,i<l.length→∃ b o,A=some ⟨b,o,none⟩∧w.cell? ⟨b,o+i,none⟩=some (.int k ((l.getD i 0:Nat):Int)))
def U32s (w:World) (v:Value) (l:List Nat):Prop:=Ints .u32 w v l
theorem Ints.keep {k:IntKind}{w w':World}{v:Value}{l:List Nat}(h:Ints k w v l) (hb:Below w.heap.size w w'):Ints k w' v l:=by
 obtain ⟨A,c,h1,h2,h3⟩:=h
 refine ⟨A,c,h1,h2,fun i hi=>?_⟩
 obtain ⟨b,o,hA,hc⟩:=h3 i hi
 exact ⟨b,o,hA,cell_keep hc hb⟩
theorem U32s.keep {w w':World}{v:Value}{l:List Nat}(h:U32s w v l) (hb:Below w.heap.size w w'):U32s w' v l:=Ints.keep h hb
theorem Ints.nil_ (k:IntKind) (w:World):Ints k w (.slice none 0 0) []:=⟨none,0,rfl,Nat.le_refl _,fun i hi=>by simp at hi⟩
abbrev dgs (n:Nat):List Nat:=digs 4294967296 n
def NatBlk (w:World) (b:Nat):Prop:=∃ cs fr,w.heap[b]?=some (.cells cs 295 fr)
theorem NatBlk.same {w w':World}{b:Nat}(h:NatBlk w b) (hs:w'.heap[b]?=w.heap[b]?):NatBlk w' b:=by
 obtain ⟨cs,fr,h⟩:=h;exact ⟨cs,fr,hs.trans h⟩
theorem NatBlk.lt {w:World}{b:Nat}(h:NatBlk w b):b<w.heap.size:=by
 obtain ⟨cs,fr,h⟩:=h
 rcases Nat.lt_or_ge b w.heap.size with h1|h1
 ·exact h1
 ·rw[Array.getElem?_eq_none h1]at h;cases h
theorem NatBlk.keep {w w':World}{b:Nat}(h:NatBlk w b) (hb:Below w.heap.size w w'):NatBlk w' b:=h.same (hb.block b h.lt)
def NatAt (w:World) (v:Value) (n:Nat):Prop:=
 (v=.pointer none∧n=0)∨∃ b s,v=.pointer (some ⟨b,0,none⟩)∧w.cell? ⟨b,0,none⟩=some s∧U32s w s (digs 4294967296 n)∧NatBlk w b
def NatPtr (w:World) (v:Value) (n:Nat):Prop:=
 ∃ b s,v=.pointer (some ⟨b,0,none⟩)∧w.cell? ⟨b,0,none⟩=some s∧U32s w s (digs 4294967296 n)∧NatBlk w b
theorem NatPtr.at_ {w:World}{v:Value}{n:Nat}(h:NatPtr w v n):NatAt w v n:=.inr h
theorem NatPtr.keep {w w':World}{v:Value}{n:Nat}(h:NatPtr w v n) (hb:Below w.heap.size w w'):NatPtr w' v n:=by
 obtain ⟨b,s,h1,h2,h3,h4⟩:=h
 exact ⟨b,s,h1,cell_keep h2 hb,h3.keep hb,h4.keep hb⟩
def NewPtr (B:Nat) (v:Value):Prop:=∃ b,v=.pointer (some ⟨b,0,none⟩)∧B≤b
theorem NewPtr.mono {B C:Nat}{v:Value}(h:NewPtr B v) (hc:C≤B):NewPtr C v:=by
 obtain ⟨b,h1,h2⟩:=h;exact ⟨b,h1,Nat.le_trans hc h2⟩
theorem NatAt.ptr {w:World}{v:Value}{n:Nat}(h:NatAt w v n) (h0:n≠0):NatPtr w v n:=by
 rcases h with ⟨_,h⟩|h
 ·exact absurd h h0
 ·exact h
theorem NatAt.keep {w w':World}{v:Value}{n:Nat}(h:NatAt w v n) (hb:Below w.heap.size w w'):NatAt w' v n:=by
 rcases h with h|⟨b,s,h1,h2,h3,h4⟩
 ·exact .inl h
 ·exact .inr ⟨b,s,h1,cell_keep h2 hb,h3.keep hb,h4.keep hb⟩
def Row (w:World) (b:Nat) (t:TypeId) (cs:Array Value):Prop:=w.heap[b]?=some (.cells cs t (0,0))
theorem Row.lt {w:World}{b:Nat}{t:TypeId}{cs:Array Value}(h:Row w b t cs):b<w.heap.size:=by
 rcases Nat.lt_or_ge b w.heap.size with h1|h1
 ·exact h1
 ·unfold Row at h;rw[Array.getElem?_eq_none h1]at h;cases h
theorem Row.cell {w:World}{b:Nat}{t:TypeId}{cs:Array Value}(h:Row w b t cs) (i:Nat):w.cell? ⟨b,i,none⟩=cs[i]?:=by
 unfold Row at h;simp[World.cell?,h]
theorem Row.free {w:World}{b:Nat}{t:TypeId}{cs:Array Value}(h:Row w b t cs) (i:Nat):w.frozen? ⟨b,i,none⟩=false:=by
 unfold Row at h;simp[World.frozen?,h]
theorem Row.new (w:World) (t:TypeId) (cs:Array Value):Row (w.alloc (.cells cs t)) w.heap.size t cs:=by
 show (w.heap.push _)[w.heap.size]?=_
 simp
theorem Row.set {w:World}{b:Nat}{t:TypeId}{cs:Array Value}(h:Row w b t cs) (i:Nat) (u:Value):Row (w.setCell ⟨b,i,none⟩ u) b t (cs.setIfInBounds i u):=by
 unfold Row at h ⊢
 simp[World.setCell,Array.getElem?_modify,h]
theorem Row.far {w:World}{b:Nat}{t:TypeId}{cs:Array Value}(h:Row w b t cs) {p:Addr}(hp:b≠p.block) (u:Value):Row (w.setCell p u) b t cs:=
 (Below.heap_setCell w p u b hp).trans h
theorem Row.alloc {w:World}{b:Nat}{t:TypeId}{cs:Array Value}(h:Row w b t cs) (o:Obj):Row (w.alloc o) b t cs:=(Below.heap_alloc w o b h.lt).trans h
theorem Row.keep {w w':World}{b:Nat}{t:TypeId}{cs:Array Value}(h:Row w b t cs) (hb:Below w.heap.size w w'):Row w' b t cs:=(hb.block b h.lt).trans h
def vals (k:IntKind) (l:List Nat):Array Value:=(l.map fun (d:Nat)=>Value.int k (d:Int)).toArray
theorem vals_size (k:IntKind) (l:List Nat):(vals k l).size=l.length:=by simp[vals]
def Rets (v:Value) (w:World) (e:Ending) (w':World):Prop:=e=.returned v∧w=w'
def Keeps (v:Value) (w:World) (e:Ending) (w':World):Prop:=e=.returned v∧Below w.heap.size w w'
def Gives (Q:Value→World→Prop) (w:World) (e:Ending) (w':World):Prop:=∃ x,e=.returned x∧Q x w'∧Below w.heap.size w w'
theorem Gives.mono {Q R:Value→World→Prop}{w w':World}{e:Ending}(h:Gives Q w e w') (k:∀ x w,Q x w→R x w):Gives R w e w':=by
 obtain ⟨x,h1,h2,h3⟩:=h
 exact ⟨x,h1,k x w' h2,h3⟩
theorem ret_int {k:IntKind}{a b:Int}(h:a=b):Ending.returned (.int k a)=.returned (.int k b):=by rw[h]
theorem ret_bool {a b:Bool}(h:a=b):Ending.returned (.bool a)=.returned (.bool b):=by rw[h]
theorem qa {α:Type}(l:List α) (i:Nat) (a:α):l.toArray.setIfInBounds i a=(l.set i a).toArray:=List.setIfInBounds_toArray l i a
theorem qb {α:Type}(x:α) (l:List α) (a:α):(x :: l).set 0 a=a :: l:=rfl
theorem qc {α:Type}(x:α) (l:List α) (n:Nat) (a:α):(x :: l).set (n+1) a=x :: l.set n a:=rfl
end Vic
end
section
namespace Vic
open Go Go.RowKit
structure Only (b:Nat) (w w':World):Prop where
 os:w'.os=w.os
 tape:w'.tape=w.tape
 output:w'.output=w.output
 size:w'.heap.size=w.heap.size
 block:∀ k,k≠b→w'.heap[k]?=w.heap[k]?
theorem Only.refl (b:Nat) (w:World):Only b w w:=⟨rfl,rfl,rfl,rfl,fun _ _=>rfl⟩
theorem Only.trans {b:Nat}{u v w:World}(h:Only b u v) (k:Only b v w):Only b u w:=
 ⟨k.os.trans h.os,k.tape.trans h.tape,k.output.trans h.output,k.size.trans h.size,fun i hi=>(k.block i hi).trans (h.block i hi)⟩
theorem Only.drewN {b:Nat}{u w:World}(h:Only b u w) (n:Nat):Only b u (w.drewN n):=⟨h.os,h.tape,h.output,h.size,h.block⟩
theorem Only.setCell {b:Nat}{u w:World}(h:Only b u w) (i:Nat) (x:Value):Only b u (w.setCell ⟨b,i,none⟩ x):=
 h.trans ⟨rfl,rfl,rfl,by simp[World.setCell],fun k hk=>Below.heap_setCell _ _ _ _ hk⟩
theorem Only.cell {b:Nat}{u w:World}(h:Only b u w) {c o:Nat}(hc:c≠b):w.cell? ⟨c,o,none⟩=u.cell? ⟨c,o,none⟩:=World.cell?_of_block (w:=u) (h.block c hc)
theorem Row.drewN {w:World}{b:Nat}{t:TypeId}{cs:Array Value}(h:Row w b t cs) (n:Nat):Row (w.drewN n) b t cs:=h
end Vic
end
section
namespace Vic
open Go
def strLen:Value→Nat
 | .string s=>s.size
 | _=>0
theorem cut_len1 (s p:List UInt8):(Lib.cut s p).1.length≤s.length:=by
 unfold Lib.cut;split
 ·simp;omega
 ·exact Nat.le_refl _
theorem pre_one (c b:UInt8) (l:List UInt8) : [c].isPrefixOf (b :: l)=(c == b):=by
 show (c == b && [].isPrefixOf l)=_
 cases l<;>simp
theorem index_none {c:UInt8}:∀ {l:List UInt8},c∉l→Lib.index l [c]=-1
 | [],_=>rfl
 | b :: l,h=>by
   have hb:b≠c:=fun e=>h (by simp[e])
   have ih:=index_none (l:=l) (fun e=>h (List.mem_cons_of_mem _ e))
   unfold Lib.index
   rw[if_neg (by simp[pre_one,Ne.symm hb]),ih]
   rfl
theorem index_app {c:UInt8}:∀ {a:List UInt8}(b:List UInt8),c∉a→Lib.index (a ++ c :: b) [c]=(a.length:Nat)
 | [],b,_=>by
   show Lib.index (c :: b) [c]=_
   unfold Lib.index
   rw[if_pos (by simp[pre_one])];rfl
 | x :: a,b,h=>by
   have hx:x≠c:=fun e=>h (by simp[e])
   have ih:=index_app (a:=a) b (fun e=>h (List.mem_cons_of_mem _ e))
   show Lib.index (x :: (a ++ c :: b)) [c]=_
   unfold Lib.index
   rw[if_neg (by simp[pre_one,Ne.symm hx]),ih,if_neg (by simp)]
   simp
theorem cut_none {c:UInt8}{l:List UInt8}(h:c∉l):Lib.cut l [c]=(l,[],false):=by
 unfold Lib.cut;rw[index_none h,if_neg (by omega)]
theorem cut_app {c:UInt8}{a:List UInt8}(b:List UInt8) (h:c∉a):Lib.cut (a ++ c :: b) [c]=(a,b,true):=by
 unfold Lib.cut
 rw[index_app b h,if_pos (by omega)]
 simp
theorem take_bytes (l:List UInt8) (k:Nat):(⟨l.toArray⟩:ByteArray).extract 0 k=⟨(l.take k).toArray⟩:=by
 apply ByteArray.ext
 simp[ByteArray.extract,ByteArray.copySlice]
end Vic
end
section
namespace Vic
open Go
abbrev Txt:=List UInt8
def badC (c:UInt8):Bool:=c≤32 || 126<c
def nameB (s:Txt):Bool:=!s.any badC && 1≤s.length && s.length≤20
def blankC (c:UInt8):Bool:=c == 32 || c == 9 || c == 13
def fldsP (p:UInt8→Bool):Txt→Txt→List Txt
 | [],cur=>if cur = []then []else [cur]
 | c :: t,cur=>if p c then (if cur = []then fldsP p t []else cur :: fldsP p t [])else fldsP p t (cur ++ [c])
def fieldsB (s:Txt):List Txt:=fldsP blankC s []
def spl:Txt→List Txt
 | []=>[]
 | c :: t=>if c=10 then [] :: spl t else match spl t with | []=>[[c]]|l :: ls=>(c :: l) :: ls
theorem spl_app {a:Txt}(b:Txt) (h:(10:UInt8)∉a):spl (a ++ 10 :: b)=a :: spl b:=by
 induction a with
 | nil=>simp[spl]
 | cons c t ih=>
   have hc:c≠10:=fun e=>h (by simp[e])
   have ht:(10:UInt8)∉t:=fun e=>h (by simp[e])
   rw[List.cons_append,spl,if_neg hc,ih ht]
theorem spl_one:∀ {a:Txt},(10:UInt8)∉a→a≠[]→spl a = [a]
 | [],_,h=>absurd rfl h
 | [c],h,_=>by
   have hc:c≠10:=fun e=>h (by simp[e])
   simp[spl,hc]
 | c :: d :: t,h,_=>by
   have hc:c≠10:=fun e=>h (by simp[e])
   rw[spl,if_neg hc,spl_one (a:=d :: t) (fun e=>h (List.mem_cons_of_mem _ e)) (by simp)]
def cutNl (t:Txt):Txt × Txt:=((Lib.cut t [10]).1,(Lib.cut t [10]).2.1)
theorem spl_cut {t:Txt}(h:t≠[]):spl t=(cutNl t).1 :: spl (cutNl t).2∧(cutNl t).2.length<t.length∧(10:UInt8)∉(cutNl t).1:=by
 unfold cutNl
 by_cases hm:(10:UInt8)∈t
 ·obtain ⟨a,b,rfl,ha⟩:=List.eq_append_cons_of_mem hm
  rw[cut_app b ha]
  exact ⟨spl_app b ha,by simp;omega,ha⟩
 ·rw[cut_none hm]
  exact ⟨by rw[spl_one hm h];rfl,by simpa using List.length_pos_iff.2 h,hm⟩
def badL (c:UInt8):Bool:=126<c || (c<32 && c != 9)
def trimCr (s:Txt):Txt:=Lib.trimSuffix s [13]
def lookB (s:Txt):Int:=if 200<s.length then 6 else if (trimCr s).any badL then 1 else 0
structure LineM where
 no:Nat
 head:Bool
 words:List Txt
def lineOf (no:Nat) (s:Txt):List LineM:=
 if fieldsB s = []∨s.head?=some 42 then []else [⟨no,s.head? != some 32 && s.head? != some 9,fieldsB s⟩]
def getFrom:Nat→List Txt→List LineM→List LineM × Nat × Int
 | _,[],acc=>(acc,0,0)
 | no,s :: ls,acc=>if 2500<no then ([],no,6)else if lookB s≠0 then ([],no,lookB s)else getFrom (no+1) ls (acc ++ lineOf no s)
def wordsGet (t:Txt):List LineM × Nat × Int:=getFrom 1 (spl t) []
def blankR (r:Nat):Bool:=r == 32 || r == 9 || r == 13
theorem blankR_c (c:UInt8):blankR c.toNat=blankC c:=by
 unfold blankR blankC
 rw[Bool.eq_iff_iff]
 simp[← UInt8.toNat_inj]
theorem spans_flds (s:Txt) (ha:∀ c∈s,c.toNat<128):∀ (suf pre:Txt) (f:Nat) (st:Option Nat) (acc:List (Nat × Nat)),s=pre ++ suf→suf.length≤f→(∀ a,st=some a→a<pre.length) →
 (Lib.closeSpans ⟨s.toArray⟩ (Lib.spansFromP blankR ⟨s.toArray⟩ f pre.length st acc)).map (fun x=>(⟨s.toArray⟩:ByteArray).extract x.1 x.2) =
  acc.map (fun x=>(⟨s.toArray⟩:ByteArray).extract x.1 x.2) ++ (fldsP blankC suf (match st with|some a=>pre.drop a|none=>[])).map (fun l=>(⟨l.toArray⟩:ByteArray))
 | [],pre,f,st,acc,hs,hf,hst=>by
   have hn:¬ pre.length<(⟨s.toArray⟩:ByteArray).size:=by simp[ByteArray.size,hs]
   rw[Lib.spansFromP_end _ _ _ _ _ _ hn]
   subst hs
   cases st with
   | none=>simp[Lib.closeSpans,fldsP]
   | some a=>
     have hl:=hst a rfl
     have hne:pre.drop a≠[]:=by
      intro e
      have:=congrArg List.length e
      simp at this;omega
     simp only[Lib.closeSpans,fldsP,hne,if_false,List.map_append,List.map_cons,List.map_nil,List.append_nil]
     congr 2
     rw[Lib.extract_mk]
     simp only[ByteArray.size,List.size_toArray,List.append_nil]
     rw[List.take_of_length_le (by simp)]
 | c :: suf,pre,0,st,acc,hs,hf,hst=>by simp at hf
 | c :: suf,pre,f+1,st,acc,hs,hf,hst=>by
   have hlt:pre.length<(⟨s.toArray⟩:ByteArray).size:=by simp[ByteArray.size,hs]
   have hget:(⟨s.toArray⟩:ByteArray)[pre.length]'hlt=c:=by
    show s.toArray[pre.length]'_=c
    simp[hs]
   have hdec:=decode_ascii ⟨s.toArray⟩ pre.length hlt (by rw[hget];exact ha c (by rw[hs];simp))
   rw[hget]at hdec
   have hs2:s=(pre ++ [c]) ++ suf:=by rw[hs];simp
   have hl2:(pre ++ [c]).length=pre.length+1:=by simp
   have hext:∀ a,a<pre.length→(⟨s.toArray⟩:ByteArray).extract a pre.length=⟨(pre.drop a).toArray⟩:=fun a ha=>by
    rw[Lib.extract_mk]
    congr 2
    rw[hs,List.drop_append_of_le_length (by omega),List.take_append_of_le_length (by simp),List.take_of_length_le (by simp)]
   unfold Lib.spansFromP
   rw[if_pos hlt,hdec]
   simp only[blankR_c]
   by_cases hb:blankC c=true
   ·rw[if_pos hb]
    have key:∀ acc',(Lib.closeSpans ⟨s.toArray⟩ (Lib.spansFromP blankR ⟨s.toArray⟩ f (pre.length+1) none acc')).map (fun x=>(⟨s.toArray⟩:ByteArray).extract x.1 x.2)=acc'.map (fun x=>(⟨s.toArray⟩:ByteArray).extract x.1 x.2) ++ (fldsP blankC suf []).map (fun l=>(⟨l.toArray⟩:ByteArray)):=fun acc'=>by
     have:=spans_flds s ha suf (pre ++ [c]) f none acc' hs2 (by simpa using hf) (fun a h=>by cases h)
     rwa [hl2]at this
    cases st with
    | none=>
      simp only[fldsP,hb,if_true]
      exact key acc
    | some a=>
      have hl:=hst a rfl
      have hne:pre.drop a≠[]:=by
       intro e
       have:=congrArg List.length e
       simp at this;omega
      simp only[fldsP,hb,hne,if_true,if_false]
      rw[key,List.map_append,List.append_assoc]
      simp[hext a hl]
   ·rw[if_neg hb]
    cases st with
    | none=>
      have:=spans_flds s ha suf (pre ++ [c]) f (some pre.length) acc hs2 (by simpa using hf) (fun a h=>by cases h;simp)
      rw[hl2]at this
      simp only[fldsP,hb]
      rw[this]
      simp
    | some a=>
      have hl:=hst a rfl
      have:=spans_flds s ha suf (pre ++ [c]) f (some a) acc hs2 (by simpa using hf) (fun a' h=>by cases h;simp;omega)
      rw[hl2]at this
      simp only[fldsP,hb]
      rw[this]
      simp[List.drop_append_of_le_length (Nat.le_of_lt hl)]
theorem goFields_flds (s:Txt) (ha:∀ c∈s,c.toNat<128):Lib.goFieldsP blankR ⟨s.toArray⟩=(fieldsB s).map (fun l=>(⟨l.toArray⟩:ByteArray)):=by
 have h:=spans_flds s ha s [] s.length none [] rfl (Nat.le_refl _) (fun a h=>by cases h)
 simpa [Lib.goFieldsP,Lib.spansOfP,fieldsB,ByteArray.size]using h
end Vic
end
section
namespace Vic
open Go Go.RowKit
def FileAt (w:World) (B b:Nat) (p:Value) (bad:Bool) (l:Txt):Prop:=
 B≤b∧∃ v,Row w b 122 #[p,v,.bool bad]∧w.ownsRow B 5 1 v l.length (Lib.byteCells l)
def FileIn (w:World) (B b:Nat) (bad:Bool) (l:Txt):Prop:=FileAt w B b (.pointer none) bad l∨FileAt w B b (.pointer (some ⟨b,0,none⟩)) bad l
theorem FileAt.stay {w w':World}{B b:Nat}{p:Value}{bad:Bool}{l:Txt}(h:FileAt w B b p bad l) (hb:Below w.heap.size w w'):FileAt w' B b p bad l:=by
 obtain ⟨h1,v,h2,h3⟩:=h
 refine ⟨h1,v,h2.keep hb,?_⟩
 rcases h3.2 with ⟨rfl,h0⟩|⟨g,cap,cur,rfl,a2,a3,a4⟩
 ·exact ⟨h3.1,.inl ⟨rfl,h0⟩⟩
 ·have hlt:=(h3.lt g rfl).2
  exact ⟨h3.1,.inr ⟨g,cap,cur,rfl,a2,(hb.block g hlt).trans a3,a4⟩⟩
theorem FileIn.keep {w w':World}{B b:Nat}{bad:Bool}{l:Txt}(h:FileIn w B b bad l) (hb:Below w.heap.size w w'):FileIn w' B b bad l:=by
 rcases h with h|h
 ·exact .inl (h.stay hb)
 ·exact .inr (h.stay hb)
theorem FileIn.open {w:World}{B b:Nat}{bad:Bool}{l:Txt}(h:FileIn w B b bad l):∃ p,FileAt w B b p bad l:=by
 rcases h with h|h
 ·exact ⟨_,h⟩
 ·exact ⟨_,h⟩
theorem FileAt.used {w:World}{B b:Nat}{p:Value}{bad:Bool}{l:Txt}(h:FileAt w B b p bad l) (q:Value):FileAt (w.setCell ⟨b,0,none⟩ q) B b q bad l:=by
 obtain ⟨h1,v,h2,h3⟩:=h
 have hne:=Lib.ownBlock_ne h3 (show w.heap[b]?=some (.cells #[p,v,.bool bad] 122 (0,0))from h2) (by decide)
 refine ⟨h1,v,by have:=h2.set 0 q;simpa using this,?_⟩
 exact h3.kept (row:=some b) ⟨rfl,rfl,rfl,by simp[World.setCell],fun k _ hk=>Below.heap_setCell _ _ _ _ (fun e=>hk (by simp[e]))⟩ (Or.inr hne)
theorem FileAt.flag {w:World}{B b:Nat}{p:Value}{bad:Bool}{l:Txt}(h:FileAt w B b p bad l) (q:Bool):FileAt (w.setCell ⟨b,2,none⟩ (.bool q)) B b p q l:=by
 obtain ⟨h1,v,h2,h3⟩:=h
 have hne:=Lib.ownBlock_ne h3 (show w.heap[b]?=some (.cells #[p,v,.bool bad] 122 (0,0))from h2) (by decide)
 refine ⟨h1,v,by have:=h2.set 2 (.bool q);simpa using this,?_⟩
 exact h3.kept (row:=some b) ⟨rfl,rfl,rfl,by simp[World.setCell],fun k _ hk=>Below.heap_setCell _ _ _ _ (fun e=>hk (by simp[e]))⟩ (Or.inr hne)
theorem FileAt.put {w:World}{B b:Nat}{p v v':Value}{bad:Bool}{l':Txt}(hB:B≤b) (hb:Row w b 122 #[p,v,.bool bad]) (ho:w.ownsRow B 5 1 v' l'.length (Lib.byteCells l')):FileAt (w.setCell ⟨b,1,none⟩ v') B b p bad l':=by
 have hne:=Lib.ownBlock_ne ho (show w.heap[b]?=some (.cells #[p,v,.bool bad] 122 (0,0))from hb) (by decide)
 refine ⟨hB,v',by have:=hb.set 1 v';simpa using this,?_⟩
 exact ho.kept (row:=some b) ⟨rfl,rfl,rfl,by simp[World.setCell],fun k _ hk=>Below.heap_setCell _ _ _ _ (fun e=>hk (by simp[e]))⟩ (Or.inr hne)
theorem FileAt.row {w:World}{B b:Nat}{p:Value}{bad:Bool}{l:Txt}(h:FileAt w B b p bad l):∃ v,Row w b 122 #[p,v,.bool bad]:=by
 obtain ⟨_,v,h2,_⟩:=h
 exact ⟨v,h2⟩
theorem FileIn.flag {w:World}{B b:Nat}{bad:Bool}{l:Txt}(h:FileIn w B b bad l) (q:Bool):FileIn (w.setCell ⟨b,2,none⟩ (.bool q)) B b q l:=by
 rcases h with h|h
 ·exact .inl (h.flag q)
 ·exact .inr (h.flag q)
theorem FileIn.cell2 {w:World}{B b:Nat}{bad:Bool}{l:Txt}(h:FileIn w B b bad l):w.cell? ⟨b,2,none⟩=some (.bool bad)∧w.frozen? ⟨b,2,none⟩=false∧B≤b∧b<w.heap.size:=by
 obtain ⟨p,h⟩:=h.open
 obtain ⟨v,hr⟩:=h.row
 exact ⟨hr.cell 2,hr.free 2,h.1,hr.lt⟩
end Vic
namespace Go.Proofs.YtbdfhnelmojbpaaGreatDoor
open Go.RowKit Vic
theorem info_Bld:(Tryz.prog.info? 120).map (·.size)=some 2:=by kernel_rfl
theorem lies_Bld:Go.liesAt Tryz.prog Tryz.prog.depth 122 (3 / Tryz.prog.cellsOf 122) 0 120 1=true:=by kernel_rfl
theorem info_byte0:(Tryz.prog.info? 5).map (fun i=>(i.zero,i.size,i.bytes))=some (some (.int .u8 0),1,1):=by kernel_rfl
theorem info_byte_:∃ i:TypeInfo,Tryz.prog.info? 5=some i∧i.zero=some (.int .u8 0)∧i.size=1∧i.bytes=1:=by
 have h:=info_byte0
 cases hi:Tryz.prog.info? 5 with
 | none=>rw[hi]at h;simp at h
 | some i=>rw[hi]at h;simp at h;exact ⟨i,rfl,h.1,h.2.1,h.2.2⟩
set_option maxRecDepth 100000 in
set_option maxHeartbeats 2000000 in
theorem fcheck_used (b:Nat) (w:World) (h0:w.cell? ⟨b,0,none⟩=some (.pointer (some ⟨b,0,none⟩))):Calls Tryz.prog 168 #[.pointer (some ⟨b,0,none⟩)] w fun e w'=>e=.returned (.tuple #[])∧w'=w:=by
 obtain ⟨j,hj,_⟩:=Option.map_eq_some_iff.1 info_Bld
 go_enter Tryz.func168,Tryz.ntmps168
 go_wp2_with fail
 rw[Lib.run_neq_ptr_same w _ Tryz.underlying118 hj]
 go_wp2_with fail
 go_end0
 exact ⟨rfl,rfl⟩
set_option maxRecDepth 100000 in
set_option maxHeartbeats 2000000 in
theorem fcheck_fresh (b:Nat) (w:World) (h0:w.cell? ⟨b,0,none⟩=some (.pointer none)) (hsh:w.shape? b=some (122,3)) (hfz:w.frozen? ⟨b,0,none⟩=false) :
 Calls Tryz.prog 168 #[.pointer (some ⟨b,0,none⟩)] w fun e w'=>e=.returned (.tuple #[])∧w'=w.setCell ⟨b,0,none⟩ (.pointer (some ⟨b,0,none⟩)):=by
 obtain ⟨j,hj,hjs⟩:=Option.map_eq_some_iff.1 info_Bld
 go_enter Tryz.func168,Tryz.ntmps168
 go_wp2_with fail
 rw[Lib.run_to_unsafe w ⟨b,0,none⟩ Tryz.underlying118 Tryz.underlying303 hj (by rw[hjs];decide) hsh (show 0<3 by omega)]
 simp only[Result.andThen]
 rw[Oper.upon_value]
 go_wp2_with fail
 rw[run_callFunc_extern Tryz.func232 (by kernel_rfl) (by kernel_rfl) (by kernel_rfl) (e:=Extern.AbiNoEscape.same) (by kernel_rfl)]
 rw[Lib.run_noEscape]
 simp only[Result.andThen]
 rw[Oper.upon_value]
 go_wp2_with fail
 rw[Lib.run_from_unsafe w ⟨b,0,none⟩ Tryz.underlying303 Tryz.underlying118 hj hsh lies_Bld]
 simp only[Result.andThen]
 rw[Oper.upon_value]
 go_wp2_with fail
 go_end0
 exact ⟨rfl,rfl⟩
theorem fcheck (B b:Nat) (bad:Bool) (l:Txt) (w:World) (h:FileIn w B b bad l):Calls Tryz.prog 168 #[.pointer (some ⟨b,0,none⟩)] w fun e w'=>e=.returned (.tuple #[])∧FileAt w' B b (.pointer (some ⟨b,0,none⟩)) bad l∧Below B w w':=by
 rcases h with h|h
 ·obtain ⟨v,hr⟩:=h.row
  have hr':w.heap[b]?=some (.cells #[.pointer none,v,.bool bad] 122 (0,0)):=hr
  refine (fcheck_fresh b w (hr.cell 0) (by simp[World.shape?,hr']) (hr.free 0)).mono ?_
  rintro e w' ⟨rfl,rfl⟩
  exact ⟨rfl,h.used _,(Below.refl B w).setCell (p:=⟨b,0,none⟩) h.1 _⟩
 ·obtain ⟨v,hr⟩:=h.row
  refine (fcheck_used b w (hr.cell 0)).mono ?_
  rintro e w' ⟨rfl,rfl⟩
  exact ⟨rfl,h,Below.refl B _⟩
set_option maxRecDepth 100000 in
set_option maxHeartbeats 2000000 in
theorem fwrite (B b:Nat) (bad:Bool) (l s:Txt) (w:World) (h:FileIn w B b bad l) (hlen:l.length+s.length≤140737488355328) (hBw:B≤w.heap.size) :
 Calls Tryz.prog 114 #[.pointer (some ⟨b,0,none⟩),.string ⟨s.toArray⟩] w fun e w'=>e=.returned (.tuple #[.int .i64 s.length,.nilIface])∧FileAt w' B b (.pointer (some ⟨b,0,none⟩)) bad (l ++ s)∧Below B w w':=by
 obtain ⟨i0,hi,hz0,hz1,hz2⟩:=info_byte_
 have CC:=Lib.hid (fcheck B b bad l w h)
 go_enter Tryz.func114,Tryz.ntmps114
 go_wp2_with fail
 refine CC.out.mono ?_
 rintro e w1 ⟨rfl,h1,hb1⟩
 obtain ⟨hB,v,hr,hown⟩:=h1
 have c1:w1.cell? ⟨b,1,none⟩=some v:=hr.cell 1
 have HR:=Lib.hid hr;have HOW:=Lib.hid hown;have HB1:=Lib.hid hb1
 have hs:(⟨s.toArray⟩:ByteArray).size=s.length:=by simp[ByteArray.size]
 have hl:(Lib.byteCells l).length=l.length:=Lib.byteCells_length l
 clear h hr hown hb1 CC
 go_wp2_with (at_builtin;refine Lib.wpList_append_own_string _ rfl _ _ 115 9 rfl B 5 i0 Tryz.underlying115 Tryz.underlying9 hi hz0 hz1 hz2 _ _ _ rfl HOW.out ⟨s.toArray⟩ rfl ?c3 ?c4 ?c5 ?_)
 case c3=>rw[hs];unfold maxLen;omega
 case c4=>rw[hs];omega
 case c5=>have:=HB1.out.size;omega
 intro v' w2 hown' hgrow _
 have hne:=Lib.ownBlock_ne HOW.out (show w1.heap[b]?=some (.cells #[.pointer (some ⟨b,0,none⟩),v,.bool bad] 122 (0,0))from HR.out) (by decide)
 have hb2:Row w2 b 122 #[.pointer (some ⟨b,0,none⟩),v,.bool bad]:=(hgrow.block b HR.out.lt (fun e=>hne e.symm)).trans HR.out
 have d1:w2.cell? ⟨b,1,none⟩=some v:=hb2.cell 1
 have f1:w2.frozen? ⟨b,1,none⟩=false:=hb2.free 1
 obtain ⟨ao,n',cap,rfl⟩:∃ ao n' cap,v'=.slice ao n' cap:=by
  rcases hown'.2 with ⟨hv,_⟩|⟨g,cap,cur,hv,_⟩
  ·exact ⟨_,_,_,hv⟩
  ·exact ⟨_,_,_,hv⟩
 have HF:=Lib.hid (FileAt.put (l':=l ++ s) hB hb2 (by
  have e1:(l ++ s).length=l.length+(⟨s.toArray⟩:ByteArray).size:=by rw[hs,List.length_append]
  have e2:Lib.byteCells (l ++ s)=Lib.byteCells l ++ Lib.strCells ⟨s.toArray⟩:=by simp[Lib.byteCells,Lib.strCells]
  rw[e1,e2];exact hown'))
 have HBB:=Lib.hid ((HB1.out.grown hgrow (by have:=HB1.out.size;omega) (fun k hk=>(HOW.out.lt k hk).1)).setCell (p:=⟨b,1,none⟩) hB (.slice ao n' cap))
 have HS:=Lib.hid hs
 clear hown' hgrow hb2 hne hs
 go_wp2_with fail
 go_ret2
 exact ⟨rfl,HF.out,HBB.out⟩
set_option maxRecDepth 100000 in
set_option maxHeartbeats 2000000 in
theorem fstring (B b:Nat) (p:Value) (bad:Bool) (l:Txt) (w:World) (h:FileAt w B b p bad l) (h0:l≠[]) :
 Calls Tryz.prog 116 #[.pointer (some ⟨b,0,none⟩)] w fun e w'=>e=.returned (.string ⟨l.toArray⟩)∧Below B w w':=by
 obtain ⟨hB,v,hbk,hown⟩:=h
 have hl0:l.length≠0:=by simpa using h0
 obtain ⟨g,cap,cur,rfl,hbg,hg,hnc,hcm,hcs,htake⟩:∃ g cap cur,v=.slice (some ⟨g,0,none⟩) l.length cap∧B≤g∧w.heap[g]?=some (.cells cur 5 (0,0))∧l.length≤cap∧cap≤maxLen∧cur.size=cap*1∧cur.toList.take (l.length*1)=Lib.byteCells l:=by
  rcases hown.2 with ⟨_,hz⟩|⟨g,cap,cur,hv,r⟩
  ·exact absurd hz hl0
  ·exact ⟨g,cap,cur,hv,r⟩
 have c1:w.drew.cell? ⟨b,1,none⟩=some (.slice (some ⟨g,0,none⟩) l.length cap):=by
  have:Row w.drew b 122 #[p,.slice (some ⟨g,0,none⟩) l.length cap,.bool bad]:=hbk
  exact this.cell 1
 have hSD:(Builtin.unsafeSliceData_ #[115] 244 #[.slice (some ⟨g,0,none⟩) l.length cap]).run Tryz.prog w.drew=.ok (.pointer (some ⟨g,0,none⟩)) w.drew:=
  Lib.run_unsafeSliceData_row _ _ _ _ _ _ (by omega)
 have hUS:(Builtin.unsafeString_ #[244,3] 9 #[.pointer (some ⟨g,0,none⟩),.int .i64 l.length]).run Tryz.prog w.drew=.ok (.string ⟨l.toArray⟩) (w.drew.freeze ⟨g,0,none⟩ l.length):=by
  refine Lib.run_unsafeString_row w.drew 244 3 9 5 Tryz.underlying244 (by kernel_rfl) g cur.size (by have hg':w.drew.heap[g]?=some (.cells cur 5 (0,0)):=hg;simp[World.shape?,hg']) l h0 (by omega) (by unfold maxLen at hcm;omega) ?_
  intro j x hx
  have:=hown.cells (g:=g) rfl j (.int .u8 x.toNat) (by simp[Lib.byteCells,hx])
  exact this
 have mixed:Tryz.prog.follows .mixedOrders=true:=by kernel_rfl
 clear hbk hown hg hcs htake h0
 go_enter Tryz.func116,Tryz.ntmps116
 go_wp2_with fail
 go_region_o
 all_goals (go_wp2_with fail;go_ret;exact ⟨rfl,Lib.below_freeze (Below.drew (Below.refl B w)) (p:=⟨g,0,none⟩) hbg _⟩)
end Go.Proofs.YtbdfhnelmojbpaaGreatDoor
end
section
namespace Vic
theorem getD_drop (l:List Nat) (i j:Nat):(l.drop i).getD j 0=l.getD (i+j) 0:=by simp[List.getD_eq_getElem?_getD]
theorem getD_big (l:List Nat) (i:Nat) (h:l.length≤i):l.getD i 0=0:=by
 rw[List.getD_eq_getElem?_getD,List.getElem?_eq_none h];rfl
theorem val_drop_step (B:Nat) (l:List Nat) (i:Nat):val B (l.drop i)=l.getD i 0+B*val B (l.drop (i+1)):=by
 by_cases h:i<l.length
 ·rw[List.drop_eq_getElem_cons h,val_cons,List.getD_eq_getElem?_getD,List.getElem?_eq_getElem h];rfl
 ·rw[List.drop_of_length_le (by omega),List.drop_of_length_le (by omega),getD_big l i (by omega)];rfl
theorem val_take_step (B:Nat) (l:List Nat) (i:Nat):val B (l.take (i+1))=val B (l.take i)+B ^ i*l.getD i 0:=by
 by_cases h:i<l.length
 ·rw[List.take_succ_eq_append_getElem h,val_append,List.length_take,Nat.min_eq_left (by omega),List.getD_eq_getElem?_getD,List.getElem?_eq_getElem h];simp[val]
 ·rw[List.take_of_length_le (by omega),List.take_of_length_le (by omega),getD_big l i (by omega)];simp
theorem val_split (B:Nat) (l:List Nat) (i:Nat):val B l=val B (l.take i)+B ^ i*val B (l.drop i):=by
 by_cases h:i≤l.length
 ·have:=val_append B (l.take i) (l.drop i)
  rwa [List.take_append_drop,List.length_take,Nat.min_eq_left h]at this
 ·rw[List.take_of_length_le (by omega),List.drop_of_length_le (by omega)];simp[val]
theorem val_take_all (B:Nat) (l:List Nat) (i:Nat) (h:l.length≤i):val B (l.take i)=val B l:=by rw[List.take_of_length_le h]
theorem set_getD_same (o:List Nat) (k d:Nat) (h:k<o.length):(o.set k d).getD k 0=d:=by
 simp[List.getD_eq_getElem?_getD,h]
theorem set_getD_other (o:List Nat) (k d j:Nat) (h:j≠k):(o.set k d).getD j 0=o.getD j 0:=by
 simp[List.getD_eq_getElem?_getD,List.getElem?_set_ne (Ne.symm h)]
theorem take_set (o:List Nat) (k d:Nat):(o.set k d).take k=o.take k:=by
 rw[List.take_set];exact List.set_eq_of_length_le (by rw[List.length_take];omega)
theorem dig_set {B:Nat}{o:List Nat}(h:dig B o) {d:Nat}(hd:d<B) (k:Nat):dig B (o.set k d):=fun x hx=>by
 rcases List.mem_or_eq_of_mem_set hx with h1|h1
 ·exact h x h1
 ·exact h1▸hd
theorem val_take_set (B:Nat) (o:List Nat) (k d:Nat) (h:k<o.length):val B ((o.set k d).take (k+1))=val B (o.take k)+B ^ k*d:=by
 rw[val_take_step,take_set,set_getD_same o k d h]
structure AddInv (B:Nat) (a b o:List Nat) (n k s:Nat):Prop where
 len:o.length=n
 dg:dig B o
 sum:val B (o.take k)+B ^ k*s=val B (a.take k)+val B (b.take k)
 small:s≤1
theorem AddInv.step {B:Nat}{a b o:List Nat}{n k s:Nat}(h:AddInv B a b o n k s) (hB:1<B) (ha:dig B a) (hb:dig B b) (hk:k<n) :
 AddInv B a b (o.set k ((s+(a.getD k 0+b.getD k 0)) % B)) n (k+1) ((s+(a.getD k 0+b.getD k 0)) / B):=by
 have h1:=dig_getD ha (by omega) k
 have h2:=dig_getD hb (by omega) k
 refine ⟨by simp[h.len],dig_set h.dg (Nat.mod_lt _ (by omega)) k,?_,?_⟩
 ·rw[val_take_set B o k _ (by rw[h.len];exact hk),val_take_step,val_take_step,Nat.pow_succ,Nat.mul_assoc]
  have e:=Nat.mod_add_div (s+(a.getD k 0+b.getD k 0)) B
  have e2:B ^ k*((s+(a.getD k 0+b.getD k 0)) % B)+B ^ k*(B*((s+(a.getD k 0+b.getD k 0)) / B))=B ^ k*s+(B ^ k*a.getD k 0+B ^ k*b.getD k 0):=by
   rw[← Nat.mul_add,e,Nat.mul_add,Nat.mul_add]
  have:=h.sum
  omega
 ·have h3:=h.small
  have:(s+(a.getD k 0+b.getD k 0)) / B<2:=by rw[Nat.div_lt_iff_lt_mul (by omega)];omega
  omega
theorem AddInv.done {B:Nat}{a b o:List Nat}{n s:Nat}(h:AddInv B a b o n n s) (hB:1<B) (ha:dig B a) (hb:dig B b) (hn:max a.length b.length+1=n) :
 val B o=val B a+val B b:=by
 have e:=h.sum
 rw[val_take_all B o n (by rw[h.len];exact Nat.le_refl _),val_take_all B a n (by omega),val_take_all B b n (by omega)]at e
 have h1:val B a<B ^ max a.length b.length:=Nat.lt_of_lt_of_le (val_lt (by omega) ha) (Nat.pow_le_pow_right (by omega) (by omega))
 have h2:val B b<B ^ max a.length b.length:=Nat.lt_of_lt_of_le (val_lt (by omega) hb) (Nat.pow_le_pow_right (by omega) (by omega))
 have h3:2*B ^ max a.length b.length≤B ^ n:=by
  rw[← hn,Nat.pow_succ,Nat.mul_comm];exact Nat.mul_le_mul_left _ hB
 rcases Nat.eq_zero_or_pos s with h0|h0
 ·subst h0;omega
 ·have:B ^ n*1≤B ^ n*s:=Nat.mul_le_mul_left _ h0
  omega
structure LessInv (B:Nat) (a b o:List Nat) (n k:Nat) (r:Int):Prop where
 len:o.length=n
 dg:dig B o
 sum:(val B (o.take k):Int)+(B:Int) ^ k*r=(val B (a.take k):Int) - (val B (b.take k):Int)
 small:r=0∨r=-1
theorem LessInv.step {B:Nat}{a b o:List Nat}{n k:Nat}{r:Int}(h:LessInv B a b o n k r) (hB:1<B) (ha:dig B a) (hb:dig B b) (hk:k<n) :
 LessInv B a b (o.set k ((r+((a.getD k 0:Int) - (b.getD k 0:Int))) % (B:Int)).toNat) n (k+1) ((r+((a.getD k 0:Int) - (b.getD k 0:Int))) / (B:Int)):=by
 have h1:=dig_getD ha (by omega) k
 have h2:=dig_getD hb (by omega) k
 have hp:(0:Int)<(B:Int):=by omega
 have m1:=Int.emod_nonneg (r+((a.getD k 0:Int) - (b.getD k 0:Int))) (show (B:Int)≠0 by omega)
 have m2:=Int.emod_lt_of_pos (r+((a.getD k 0:Int) - (b.getD k 0:Int))) hp
 have e:=Int.emod_add_mul_ediv (r+((a.getD k 0:Int) - (b.getD k 0:Int))) (B:Int)
 refine ⟨by simp[h.len],dig_set h.dg (by omega) k,?_,?_⟩
 ·rw[val_take_set B o k _ (by rw[h.len];exact hk),val_take_step,val_take_step]
  generalize hq:(r+((a.getD k 0:Int) - (b.getD k 0:Int))) / (B:Int)=q at *
  generalize hm:(r+((a.getD k 0:Int) - (b.getD k 0:Int))) % (B:Int)=m at *
  simp only[Int.natCast_add,Int.natCast_mul,Int.natCast_pow,Int.toNat_of_nonneg m1]
  have hs:=h.sum
  rw[Int.pow_succ,Int.mul_assoc]
  have e2:(B:Int) ^ k*m+(B:Int) ^ k*((B:Int)*q)=(B:Int) ^ k*r+((B:Int) ^ k*(a.getD k 0:Int) - (B:Int) ^ k*(b.getD k 0:Int)):=by
   rw[← Int.mul_add,e,Int.mul_add,Int.mul_sub]
  omega
 ·have h3:=h.small
  have q1 : -1≤(r+((a.getD k 0:Int) - (b.getD k 0:Int))) / (B:Int):=by
   rw[Int.le_ediv_iff_mul_le hp];omega
  have q2:(r+((a.getD k 0:Int) - (b.getD k 0:Int))) / (B:Int)<1:=by
   rw[Int.ediv_lt_iff_lt_mul hp];omega
  omega
theorem LessInv.done {B:Nat}{a b o:List Nat}{r:Int}(h:LessInv B a b o a.length a.length r) (hB:1<B) (ha:dig B a) (hb:dig B b) (hle:val B b≤val B a) (hbl:b.length≤a.length) :
 val B o=val B a - val B b:=by
 have e:=h.sum
 rw[val_take_all B o _ (by rw[h.len];exact Nat.le_refl _),val_take_all B a _ (Nat.le_refl _),val_take_all B b _ hbl]at e
 have h0:=val_lt (by omega) h.dg
 rw[h.len]at h0
 rcases h.small with h1|h1
 ·subst h1;simp at e;omega
 ·subst h1
  have:((B ^ a.length:Nat):Int)=(B:Int) ^ a.length:=by simp
  omega
end Vic
end
section
namespace Vic
def blen (n:Nat):Nat:=if n=0 then 0 else n.log2+1
theorem lt_two_blen (n:Nat):n<2 ^ blen n:=by
 unfold blen
 split
 ·omega
 ·rename_i h;exact Nat.lt_log2_self
theorem blen_le {n k:Nat}(h:n<2 ^ k):blen n≤k:=by
 unfold blen
 split
 ·omega
 ·rename_i h0;exact (Nat.log2_lt h0).2 h
theorem lt_blen {n k:Nat}(h:2 ^ k≤n):k<blen n:=by
 have:=lt_two_blen n
 rcases Nat.lt_or_ge k (blen n)with h1|h1
 ·exact h1
 ·have:=Nat.pow_le_pow_right (n:=2) (by omega) h1
  omega
theorem blen_unique {n k:Nat}(h1:2 ^ k≤n) (h2:n<2 ^ (k+1)):blen n=k+1:=by
 have:=lt_blen h1;have:=blen_le h2;omega
end Vic
end
section
namespace Vic
def LenInv (x0 x n b:Nat):Prop:=x=x0 / 2 ^ n∧x<(if b=0 then 2 else 2 ^ (2*b))∧(n=0∨x≠0)∧n+2*b≤64
theorem LenInv.up {x0 x n b:Nat}(h:LenInv x0 x n b) (hb:b=1∨b % 2=0) (hb0:0<b) (hx:x / 2 ^ b≠0):LenInv x0 (x / 2 ^ b) (n+b) (b / 2):=by
 obtain ⟨h1,h2,h3,h4⟩:=h
 rw[if_neg (by omega)]at h2
 refine ⟨?_,?_,.inr hx,by omega⟩
 ·rw[h1,Nat.div_div_eq_div_mul,Nat.pow_add]
 ·rw[Nat.div_lt_iff_lt_mul (Nat.two_pow_pos _)]
  rw[show 2*b=b+b by omega,Nat.pow_add]at h2
  rcases hb with hb|hb
  ·subst hb;simpa using h2
  ·rw[if_neg (by omega),show 2*(b / 2)=b by omega];exact h2
theorem LenInv.stay {x0 x n b:Nat}(h:LenInv x0 x n b) (hb:b=1∨b % 2=0) (hb0:0<b) (hx:x / 2 ^ b=0):LenInv x0 x n (b / 2):=by
 obtain ⟨h1,h2,h3,h4⟩:=h
 refine ⟨h1,?_,h3,by omega⟩
 have hlt:x<2 ^ b:=by
  rcases Nat.lt_or_ge x (2 ^ b)with h|h
  ·exact h
  ·have:=Nat.div_pos h (Nat.two_pow_pos b);omega
 rcases hb with hb|hb
 ·subst hb;simpa using hlt
 ·rw[if_neg (by omega),show 2*(b / 2)=b by omega];exact hlt
theorem LenInv.done {x0 x n:Nat}(h:LenInv x0 x n 0):n+x=blen x0∧x<2:=by
 obtain ⟨h1,h2,h3,h4⟩:=h
 simp only[if_true]at h2
 refine ⟨?_,h2⟩
 rcases Nat.eq_zero_or_pos x with h0|h0
 ·have hn:n=0:=by omega
  subst hn
  simp at h1
  rw[← h1,h0];rfl
 ·have e:x=1:=by omega
  subst e
  rw[blen_unique (n:=x0) (k:=n)]
  ·have:=Nat.div_mul_le_self x0 (2 ^ n);rw[← h1]at this;omega
  ·have:=Nat.lt_mul_of_div_lt (a:=x0) (b:=2) (c:=2 ^ n) (by omega) (Nat.two_pow_pos _)
   rw[Nat.pow_succ];omega
end Vic
end
section
namespace Vic
theorem val_set {B:Nat}{o:List Nat}{j:Nat}(d:Nat) (h:j<o.length):val B (o.set j d)+B ^ j*o.getD j 0=val B o+B ^ j*d:=by
 rw[val_split B (o.set j d) (j+1),val_split B o (j+1),val_take_set B o j d h,val_take_step,List.drop_set,if_pos (by omega)]
 omega
structure MulIn (B:Nat) (b o o0:List Nat) (x i k s:Nat):Prop where
 len:o.length=o0.length
 dg:dig B o
 sum:val B o+B ^ (i+k)*s=val B o0+B ^ i*(x*val B (b.take k))
 small:s<B
 far:∀ j,i+k≤j→o.getD j 0=o0.getD j 0
theorem mul_small {B x y s d:Nat}(hx:x<B) (hy:y<B) (hs:s<B) (hd:d<B):s+(x*y+d)<B*B:=by
 obtain ⟨c,rfl⟩:∃ c,B=c+1:=⟨B - 1,by omega⟩
 have h1:x*y≤c*c:=Nat.mul_le_mul (by omega) (by omega)
 have h2:(c+1)*(c+1)=c*c+c+c+1:=by rw[Nat.add_mul,Nat.mul_add];omega
 omega
theorem MulIn.step {B:Nat}{b o o0:List Nat}{x i k s:Nat}(h:MulIn B b o o0 x i k s) (hB:1<B) (hb:dig B b) (hx:x<B) (hk:i+k<o0.length) :
 MulIn B b (o.set (i+k) ((s+(x*b.getD k 0+o.getD (i+k) 0)) % B)) o0 x i (k+1) ((s+(x*b.getD k 0+o.getD (i+k) 0)) / B):=by
 have h1:=dig_getD hb (by omega) k
 have h2:=dig_getD h.dg (by omega) (i+k)
 have hs:=mul_small hx h1 h.small h2
 refine ⟨by simp[h.len],dig_set h.dg (Nat.mod_lt _ (by omega)) _,?_,?_,fun j hj=>?_⟩
 ·have e:=val_set (B:=B) (o:=o) (j:=i+k) ((s+(x*b.getD k 0+o.getD (i+k) 0)) % B) (by rw[h.len];exact hk)
  have e2:=Nat.mod_add_div (s+(x*b.getD k 0+o.getD (i+k) 0)) B
  have e3:B ^ (i+k)*((s+(x*b.getD k 0+o.getD (i+k) 0)) % B)+B ^ (i+k)*(B*((s+(x*b.getD k 0+o.getD (i+k) 0)) / B))=B ^ (i+k)*s+(B ^ (i+k)*(x*b.getD k 0)+B ^ (i+k)*o.getD (i+k) 0):=by
   rw[← Nat.mul_add,e2,Nat.mul_add,Nat.mul_add]
  have e4:B ^ (i+(k+1))=B ^ (i+k)*B:=by rw[← Nat.add_assoc,Nat.pow_succ]
  rw[e4,Nat.mul_assoc,val_take_step,Nat.mul_add,Nat.mul_add]
  have e5:B ^ i*(x*(B ^ k*b.getD k 0))=B ^ (i+k)*(x*b.getD k 0):=by
   rw[Nat.pow_add,Nat.mul_assoc,Nat.mul_left_comm x (B ^ k)]
  rw[e5]
  have:=h.sum
  omega
 ·rw[Nat.div_lt_iff_lt_mul (by omega)];exact hs
 ·rw[set_getD_other _ _ _ _ (by omega)];exact h.far j (by omega)
structure MulOut (B:Nat) (a b o:List Nat) (i:Nat):Prop where
 len:o.length=a.length+b.length
 dg:dig B o
 sum:val B o=val B (a.take i)*val B b
 far:∀ j,i+b.length≤j→o.getD j 0=0
theorem MulOut.step {B:Nat}{a b o0 o:List Nat}{i s:Nat}(h:MulOut B a b o0 i) (hB:1<B) (ha:dig B a) (hi:i<a.length) (hin:MulIn B b o o0 (a.getD i 0) i b.length s) :
 MulOut B a b (o.set (i+b.length) s) (i+1):=by
 have hl:o.length=a.length+b.length:=hin.len.trans h.len
 refine ⟨by simp[hl],dig_set hin.dg hin.small _,?_,fun j hj=>?_⟩
 ·have e:=val_set (B:=B) (o:=o) (j:=i+b.length) s (by omega)
  have e0:o.getD (i+b.length) 0=0:=by rw[hin.far _ (Nat.le_refl _)];exact h.far _ (Nat.le_refl _)
  rw[e0]at e
  have e2:=hin.sum
  rw[val_take_all B b _ (Nat.le_refl _),h.sum]at e2
  rw[val_take_step,Nat.add_mul,Nat.mul_assoc]
  omega
 ·rw[set_getD_other _ _ _ _ (by omega),hin.far j (by omega)];exact h.far j (by omega)
theorem MulOut.done {B:Nat}{a b o:List Nat}(h:MulOut B a b o a.length):val B o=val B a*val B b:=by
 rw[h.sum,val_take_all B a _ (Nat.le_refl _)]
structure ShortInv (B:Nat) (a o:List Nat) (y k r:Nat):Prop where
 len:o.length=a.length
 dg:dig B o
 sum:y*val B (o.drop k)+r=val B (a.drop k)
 small:r<y
theorem val_drop_set (B:Nat) (o:List Nat) (k d:Nat) (h:k<o.length):val B ((o.set k d).drop k)=d+B*val B (o.drop (k+1)):=by
 rw[val_drop_step,set_getD_same o k d h,List.drop_set,if_pos (by omega)]
theorem ShortInv.step {B:Nat}{a o:List Nat}{y k r:Nat}(h:ShortInv B a o y (k+1) r) (hB:1<B) (ha:dig B a) (hk:k<a.length) :
 (r*B+a.getD k 0) / y<B∧ShortInv B a (o.set k ((r*B+a.getD k 0) / y)) y k ((r*B+a.getD k 0) % y):=by
 have h1:=dig_getD ha (by omega) k
 have hr:=h.small
 have hq:(r*B+a.getD k 0) / y<B:=by
  rw[Nat.div_lt_iff_lt_mul (by omega)]
  have:(r+1)*B≤y*B:=Nat.mul_le_mul_right _ hr
  rw[Nat.add_mul]at this
  rw[Nat.mul_comm B y]
  omega
 refine ⟨hq,by simp[h.len],dig_set h.dg hq _,?_,Nat.mod_lt _ (by omega)⟩
 rw[val_drop_set B o k _ (by rw[h.len];exact hk),val_drop_step B a k,← h.sum]
 have e:=Nat.div_add_mod (r*B+a.getD k 0) y
 rw[Nat.mul_add,Nat.mul_add,← Nat.mul_assoc,← Nat.mul_assoc,Nat.mul_comm y B,Nat.mul_comm B r]
 omega
theorem ShortInv.done {B:Nat}{a o:List Nat}{y r:Nat}(h:ShortInv B a o y 0 r):val B o=val B a / y∧r=val B a % y:=by
 have e:=h.sum
 simp only[List.drop_zero]at e
 have hr:=h.small
 have h1:val B a / y=val B o:=by
  rw[← e,Nat.mul_add_div (by omega),Nat.div_eq_of_lt hr];omega
 have h2:val B a % y=r:=by rw[← e,Nat.mul_add_mod,Nat.mod_eq_of_lt hr]
 exact ⟨h1.symm,h2.symm⟩
end Vic
end
section
namespace Go.Proofs.YtbdfhnelmojbpaaGreatDoor
open Go.RowKit Vic
theorem _root_.Vic.U32s.at_ {w:World}{A:Option Addr}{c:Nat}{l:List Nat}(h:U32s w (.slice A l.length c) l) (k:Nat) (hk:k<l.length) :
 ∃ b o,A=some ⟨b,o,none⟩∧w.cell? ⟨b,o+k,none⟩=some (.int .u32 ((l.getD k 0:Nat):Int)):=by
 obtain ⟨A',c',hv,_,hcell⟩:=h
 injection hv with h1 h2 h3
 subst h1
 exact hcell k hk
end Go.Proofs.YtbdfhnelmojbpaaGreatDoor
end
section
namespace Vic
structure UpInv (l o:List Nat) (q s i:Nat):Prop where
 len:o.length=l.length+q+1
 dg:dig (2 ^ 32) o
 sum:val (2 ^ 32) o=2 ^ s*((2 ^ 32) ^ q*val (2 ^ 32) (l.take i))
 small:o.getD (i+q) 0<2 ^ s
 far:∀ j,i+q<j→o.getD j 0=0
theorem up_or {c y s:Nat}(hc:c<2 ^ s):c ||| (y*2 ^ s % 2 ^ 32)=c+y*2 ^ s % 2 ^ 32:=by
 by_cases hs:s≤32
 ·have e:y*2 ^ s % 2 ^ 32=2 ^ s*(y % 2 ^ (32 - s)):=by
   have:(2:Nat) ^ 32=2 ^ s*2 ^ (32 - s):=by rw[← Nat.pow_add];congr 1;omega
   rw[this,Nat.mul_comm y,Nat.mul_mod_mul_left]
  rw[e,Nat.or_comm,← Nat.two_pow_add_eq_or_of_lt hc];omega
 ·have e:y*2 ^ s % 2 ^ 32=0:=by
   have:(2:Nat) ^ s=2 ^ 32*2 ^ (s - 32):=by rw[← Nat.pow_add];congr 1;omega
   rw[this,Nat.mul_left_comm];exact Nat.mul_mod_right _ _
  rw[e];simp
theorem UpInv.step {l o:List Nat}{q s i:Nat}(h:UpInv l o q s i) (hs:s<32) (hl:dig (2 ^ 32) l) (hi:i<l.length) :
 o.getD (i+q) 0 ||| (l.getD i 0*2 ^ s % 2 ^ 32)<2 ^ 32∧l.getD i 0*2 ^ s / 2 ^ 32<2 ^ 32∧l.getD i 0*2 ^ s<2 ^ 64 ∧
 UpInv l ((o.set (i+q) (o.getD (i+q) 0 ||| (l.getD i 0*2 ^ s % 2 ^ 32))).set (i+q+1) (l.getD i 0*2 ^ s / 2 ^ 32)) q s (i+1):=by
 have hd:=dig_getD hl (by omega) i
 have hp:=Nat.two_pow_pos s
 have hp2:2 ^ s≤2 ^ 31:=Nat.pow_le_pow_right (by omega) (by omega)
 have hc:=h.small
 rw[up_or hc]
 generalize hdd:l.getD i 0=d at *
 generalize hcc:o.getD (i+q) 0=c at *
 have e32:(2:Nat) ^ 32=2 ^ (32 - s)*2 ^ s:=by rw[← Nat.pow_add];congr 1;omega
 have hy:d*2 ^ s<2 ^ 32*2 ^ s:=Nat.mul_lt_mul_of_pos_right hd hp
 have b2:d*2 ^ s / 2 ^ 32<2 ^ s:=by
  rw[Nat.div_lt_iff_lt_mul (by omega),Nat.mul_comm (2 ^ s)];exact hy
 have b1:c+d*2 ^ s % 2 ^ 32<2 ^ 32:=by
  have e:d*2 ^ s % 2 ^ 32=d % 2 ^ (32 - s)*2 ^ s:=by
   conv=>lhs;rw[e32]
   exact Nat.mul_mod_mul_right _ _ _
  have h1:d % 2 ^ (32 - s)+1≤2 ^ (32 - s):=Nat.mod_lt _ (Nat.two_pow_pos _)
  have h2:=Nat.mul_le_mul_right (2 ^ s) h1
  rw[← e32,Nat.add_mul,← e]at h2
  omega
 have b3:d*2 ^ s<2 ^ 64:=by
  have:=Nat.mul_le_mul_left (2 ^ 32) hp2
  omega
 refine ⟨b1,by omega,b3,by simp[h.len],dig_set (dig_set h.dg b1 _) (by omega) _,?_,?_,fun j hj=>?_⟩
 ·have e1:=val_set (B:=2 ^ 32) (o:=o) (j:=i+q) (c+d*2 ^ s % 2 ^ 32) (by rw[h.len];omega)
  have e2:=val_set (B:=2 ^ 32) (o:=o.set (i+q) (c+d*2 ^ s % 2 ^ 32)) (j:=i+q+1) (d*2 ^ s / 2 ^ 32) (by simp[h.len];omega)
  rw[set_getD_other _ _ _ _ (by omega),h.far _ (by omega)]at e2
  rw[hcc,Nat.mul_add]at e1
  have e3:=Nat.mod_add_div (d*2 ^ s) (2 ^ 32)
  have e4:(2 ^ 32) ^ (i+q)*(d*2 ^ s % 2 ^ 32)+(2 ^ 32) ^ (i+q+1)*(d*2 ^ s / 2 ^ 32)=(2 ^ 32) ^ (i+q)*(d*2 ^ s):=by
   rw[show ((2:Nat) ^ 32) ^ (i+q+1)=(2 ^ 32) ^ (i+q)*2 ^ 32 from Nat.pow_succ _ _,Nat.mul_assoc,← Nat.mul_add,e3]
  rw[val_take_step,hdd,Nat.mul_add,Nat.mul_add]
  have e5:2 ^ s*((2 ^ 32) ^ q*((2 ^ 32) ^ i*d))=(2 ^ 32) ^ (i+q)*(d*2 ^ s):=by
   rw[Nat.pow_add,Nat.mul_assoc,Nat.mul_left_comm (2 ^ s),Nat.mul_left_comm ((2 ^ 32) ^ i),Nat.mul_left_comm (2 ^ s),Nat.mul_comm (2 ^ s) d]
  rw[e5]
  have:=h.sum
  omega
 ·rw[show i+1+q=i+q+1 by omega,set_getD_same _ _ _ (by simp[h.len];omega)];exact b2
 ·rw[set_getD_other _ _ _ _ (by omega),set_getD_other _ _ _ _ (by omega)];exact h.far j (by omega)
theorem UpInv.done {l o:List Nat}{q s:Nat}(h:UpInv l o q s l.length):val (2 ^ 32) o=val (2 ^ 32) l*2 ^ (32*q+s):=by
 rw[h.sum,val_take_all _ l _ (Nat.le_refl _),Nat.pow_add,← Nat.pow_mul,Nat.mul_comm (2 ^ s),Nat.mul_right_comm,Nat.mul_comm]
structure DownInv (l o:List Nat) (s i:Nat):Prop where
 len:o.length=l.length
 dg:dig (2 ^ 32) o
 sum:val (2 ^ 32) (o.take i)=val (2 ^ 32) l / 2 ^ s % (2 ^ 32) ^ i
theorem down_digit {l:List Nat}(hl:dig (2 ^ 32) l) (s i:Nat) (hs:s<32) :
 val (2 ^ 32) l / 2 ^ s / (2 ^ 32) ^ i % 2 ^ 32=(l.getD i 0+l.getD (i+1) 0*2 ^ 32) / 2 ^ s % 2 ^ 32:=by
 have hp:=Nat.two_pow_pos s
 have hB:0<(2 ^ 32) ^ i:=Nat.pow_pos (by omega)
 rw[Nat.div_div_eq_div_mul,Nat.mul_comm (2 ^ s),← Nat.div_div_eq_div_mul,← val_drop _ (by omega) l hl,val_drop_step,val_drop_step _ l (i+1)]
 generalize val (2 ^ 32) (l.drop (i+1+1))=V
 generalize l.getD i 0=x
 generalize l.getD (i+1) 0=y
 have e:x+2 ^ 32*(y+2 ^ 32*V)=(x+y*2 ^ 32)+2 ^ s*(2 ^ 32*(2 ^ (32 - s)*V)):=by
  have e32:2 ^ s*(2 ^ 32*(2 ^ (32 - s)*V))=2 ^ 32*(2 ^ 32*V):=by
   rw[Nat.mul_left_comm,← Nat.mul_assoc (2 ^ s),← Nat.pow_add,show s+(32 - s)=32 by omega]
  rw[e32];omega
 rw[e,Nat.add_mul_div_left _ _ hp,Nat.add_mul_mod_self_left]
theorem DownInv.step {l o:List Nat}{s i:Nat}(h:DownInv l o s i) (hs:s<32) (hl:dig (2 ^ 32) l) (hi:i<l.length) :
 DownInv l (o.set i ((l.getD i 0+l.getD (i+1) 0*2 ^ 32) / 2 ^ s % 2 ^ 32)) s (i+1):=by
 refine ⟨by simp[h.len],dig_set h.dg (Nat.mod_lt _ (by omega)) _,?_⟩
 rw[val_take_set _ o i _ (by rw[h.len];exact hi),h.sum,← down_digit hl s i hs]
 exact (Nat.mod_pow_succ ..).symm
theorem DownInv.done {l o:List Nat}{s:Nat}(h:DownInv l o s l.length) (hl:dig (2 ^ 32) l):val (2 ^ 32) o=val (2 ^ 32) l / 2 ^ s:=by
 have e:=h.sum
 rw[val_take_all _ o _ (by rw[h.len];exact Nat.le_refl _)]at e
 rw[e]
 refine Nat.mod_eq_of_lt (Nat.lt_of_le_of_lt (Nat.div_le_self _ _) ?_)
 exact val_lt (by omega) hl
end Vic
end
section
namespace Go.Proofs.YtbdfhnelmojbpaaGreatDoor
open Go.RowKit Vic
theorem _root_.Vic.U32s.cap {w:World}{A:Option Addr}{c:Nat}{l:List Nat}(h:U32s w (.slice A l.length c) l):l.length≤c:=by
 obtain ⟨A',c',hv,h2,_⟩:=h
 injection hv with _ _ h3
 omega
theorem _root_.Vic.U32s.cut {w:World}{b o c:Nat}{l:List Nat}(h:U32s w (.slice (some ⟨b,o,none⟩) l.length c) l) (q:Nat) (hq:q≤l.length) :
 U32s w (.slice (some ⟨b,o+q,none⟩) (l.length - q) (c - q)) (l.drop q):=by
 refine ⟨_,c - q,by rw[List.length_drop],by rw[List.length_drop];have:=h.cap;omega,fun i hi=>?_⟩
 rw[List.length_drop]at hi
 obtain ⟨b',o',hb,hc⟩:=h.at_ (q+i) (by omega)
 injection hb with hb
 injection hb with hb1 hb2
 subst hb1;subst hb2
 exact ⟨b,o+q,rfl,by rw[getD_drop,Nat.add_assoc];exact hc⟩
end Go.Proofs.YtbdfhnelmojbpaaGreatDoor
end
section
namespace Vic
open Go
theorem dec_small {u:Nat}(h:u<10):Lib.decDigits u = [UInt8.ofNat (48+u)]:=by
 rw[Lib.decDigits,dif_pos h]
structure TextInv (n m:Nat) (s:List UInt8):Prop where
 le:m≤n
 open_:0<m→Lib.decDigits n=Lib.decDigits m ++ s
 shut:m=0→(n=0∧s = [])∨(0<n∧s=Lib.decDigits n)
theorem dec_ne (n:Nat):Lib.decDigits n≠[]:=by
 rw[Lib.decDigits];split<;>simp
theorem TextInv.done {n:Nat}{s:List UInt8}(h:TextInv n 0 s):(s = []→Lib.decDigits n = [48])∧(s≠[]→s=Lib.decDigits n):=by
 rcases h.shut rfl with ⟨h1,h2⟩|⟨h1,h2⟩
 ·exact ⟨fun _=>by rw[h1,dec_small (by omega)];rfl,fun h3=>absurd h2 h3⟩
 ·exact ⟨fun h3=>absurd (h2.symm.trans h3) (dec_ne n),fun _=>h2⟩
theorem TextInv.len {n m:Nat}{s:List UInt8}(h:TextInv n m s):s.length≤(Lib.decDigits n).length:=by
 rcases Nat.eq_zero_or_pos m with h0|h0
 ·rcases h.shut h0 with ⟨_,h2⟩|⟨_,h2⟩<;>rw[h2]<;>simp
 ·rw[h.open_ h0];simp
def isDig (c:UInt8):Bool:=decide (48≤c.toNat) && decide (c.toNat≤57)
theorem isDig_iff {c:UInt8}:isDig c=true↔48≤c.toNat∧c.toNat≤57:=by simp[isDig]
def numOf (acc:Nat) (l:List UInt8):Nat:=l.foldl (fun a c=>a*10+(c.toNat - 48)) acc
theorem numOf_nil (acc:Nat):numOf acc []=acc:=rfl
theorem numOf_cons (acc:Nat) (c:UInt8) (r:List UInt8):numOf acc (c :: r)=numOf (acc*10+(c.toNat - 48)) r:=List.foldl_cons ..
theorem acc_step (a d p n:Nat):(a*10+d)*p+n=a*(p*10)+((0*10+d)*p+n):=by
 rw[Nat.add_mul,Nat.zero_mul,Nat.zero_add,Nat.mul_assoc,Nat.mul_comm 10,Nat.add_assoc]
theorem numOf_acc (acc:Nat) (l:List UInt8):numOf acc l=acc*10 ^ l.length+numOf 0 l:=by
 induction l generalizing acc with
 | nil=>rw[List.length_nil,Nat.pow_zero,Nat.mul_one,numOf_nil,numOf_nil,Nat.add_zero]
 | cons c r ih=>
   rw[numOf_cons,numOf_cons 0,List.length_cons,Nat.pow_succ]
   generalize c.toNat - 48=d
   have h1:=ih (acc*10+d)
   have h2:=ih (0*10+d)
   rw[h1,h2]
   exact acc_step _ _ _ _
def Canon (l:List UInt8):Prop:=l≠[]∧(∀ c∈l,isDig c=true)∧(l.length=1∨l.head?≠some 48)
end Vic
end
section
namespace Vic
open Go Go.RowKit
theorem setRow_only (w:World) (g:Nat) (cs:Array Value):Only g w (w.setRow g cs):=
 ⟨rfl,rfl,rfl,by simp[World.setRow],fun k hk=>setRow_other w g k cs hk⟩
theorem vals_append (k:IntKind) (z l:List Nat) (n:Nat) :
 ((vals k z).toList.take n ++ l.map (fun (d:Nat)=>Value.int k (d:Int)) ++ (vals k z).toList.drop (n+l.length)).toArray=vals k (z.take n ++ l ++ z.drop (n+l.length)):=by
 simp[vals]
theorem Row.append {P:Program}{t ty e:TypeId}{i:TypeInfo}(ht:P.underlying t=some (.slice e)) (hi:P.info? e=some i) (hsz:i.size=1) {k:IntKind}{w:World}{g:Nat}{z l:List Nat}{A:Option Addr}{n c cx:Nat}
 (hr:Row w g e (vals k z)) (hl:Ints k w (.slice A l.length cx) l) (hne:0<l.length) (hn:n+l.length≤z.length) (hc:n+l.length≤c) :
 ∃ w',(Builtin.append_ #[t,t] ty #[.slice (some ⟨g,0,none⟩) n c,.slice A l.length cx]).run P w=.ok (.slice (some ⟨g,0,none⟩) (n+l.length) c) w' ∧
   Row w' g e (vals k (z.take n ++ l ++ z.drop (n+l.length)))∧Only g w w':=by
 obtain ⟨A',c',hv,hlc,hcell⟩:=hl
 injection hv with h1 h2 h3
 subst h1;subst h3
 obtain ⟨b,o,rfl,_⟩:=hcell 0 hne
 have hcs:∀ i,i<l.length→w.cell? ⟨b,o+i,none⟩=some (.int k ((l.getD i 0:Nat):Int)):=fun i hi=>by
  obtain ⟨b',o',hb,hc⟩:=hcell i hi
  injection hb with hb
  injection hb with hb1 hb2
  subst hb1;subst hb2
  exact hc
 have hrun:=run_append_room (P:=P) w t ty e i ht hi g n c (vals k z) hr ⟨b,o,none⟩ l.length cx (l.map fun (d:Nat)=>Value.int k (d:Int)) (by simp[hsz]) (fun j u hj=>by
  have hjl:j<l.length:=by
   have:=(List.getElem?_eq_some_iff.1 hj).1
   simpa using this
  rw[show (⟨b,o,none⟩:Addr).add j=⟨b,o+j,none⟩ by simp[Addr.add],hcs j hjl,← hj]
  simp[List.getD_eq_getElem?_getD,hjl]) (fun u hu=>by
  obtain ⟨d,_,rfl⟩:=List.mem_map.1 hu
  rfl) hc (by simp[hsz,vals_size];omega)
 refine ⟨_,hrun,?_,setRow_only _ _ _⟩
 have:=setRow_heap w g (vals k z) (((vals k z).toList.take (n*i.size) ++ l.map (fun (d:Nat)=>Value.int k (d:Int)) ++ (vals k z).toList.drop (n*i.size+(l.map (fun (d:Nat)=>Value.int k (d:Int))).length)).toArray) e (0,0) hr
 rw[hsz,Nat.mul_one,List.length_map,vals_append]at this
 rw[hsz,Nat.mul_one,List.length_map,vals_append]
 exact this
end Vic
end
