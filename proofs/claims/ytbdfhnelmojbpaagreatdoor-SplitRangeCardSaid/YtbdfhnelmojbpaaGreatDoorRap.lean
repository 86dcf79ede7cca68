/- Plain arithmetic of lists of digits, the lowest first: no program in sight. -/
import Derived.WalkKit
import Derived.Lib.Hide
import Derived.Deep.Draws
import Derived.OrdersHeld
import Derived.Deep.RegionHeld
import Derived.Lib.Strings
import Derived.Lib.IndexMore
import Derived.Lib.TrimByte
import Derived.Lib.FieldsP
import Derived.Laws.RangeString
import Derived.Test.YtbdfhnelmojbpaaGreatDoorProg
import Derived.WalkSpells
import Derived.WalkLawsBesides
import Derived.Deep.OwnRows
set_option linter.unusedVariables false
set_option linter.unusedSimpArgs false
section
namespace Vic
theorem getD_app_left (a b:List Nat) (i:Nat) (h:i<a.length):(a ++ b).getD i 0=a.getD i 0:=by
 simp only[List.getD_eq_getElem?_getD,List.getElem?_append_left h]
theorem getD_app_right (a b:List Nat) (i:Nat) (h:a.length≤i):(a ++ b).getD i 0=b.getD (i - a.length) 0:=by
 simp only[List.getD_eq_getElem?_getD,List.getElem?_append_right h]
def val (B:Nat):List Nat→Nat
 | []=>0
 | d :: ds=>d+B*val B ds
theorem val_nil (B:Nat):val B []=0:=rfl
theorem val_cons (B d:Nat) (ds:List Nat):val B (d :: ds)=d+B*val B ds:=rfl
theorem val_append (B:Nat) (a b:List Nat):val B (a ++ b)=val B a+B ^ a.length*val B b:=by
 induction a with
 | nil=>simp[val]
 | cons d ds ih=>
   simp only[List.cons_append,val,ih,List.length_cons,Nat.pow_succ]
   rw[Nat.mul_add,← Nat.mul_assoc,Nat.mul_comm B (B ^ ds.length)]
   omega
theorem val_snoc (B:Nat) (a:List Nat) (d:Nat):val B (a ++ [d])=val B a+B ^ a.length*d:=by
 rw[val_append];simp[val]
def dig (B:Nat) (l:List Nat):Prop:=∀ d∈l,d<B
theorem dig_nil (B:Nat):dig B []:=by intro d h;cases h
theorem dig_cons {B d:Nat}{l:List Nat}:dig B (d :: l)↔d<B∧dig B l:=by simp[dig]
theorem dig_append {B:Nat}{a b:List Nat}:dig B (a ++ b)↔dig B a∧dig B b:=by
 simp only[dig,List.mem_append]
 exact ⟨fun h=>⟨fun d hd=>h d (.inl hd),fun d hd=>h d (.inr hd)⟩,fun h d hd=>hd.elim (h.1 d) (h.2 d)⟩
theorem dig_take {B:Nat}{l:List Nat}(h:dig B l) (k:Nat):dig B (l.take k):=fun d hd=>h d (List.mem_of_mem_take hd)
theorem dig_drop {B:Nat}{l:List Nat}(h:dig B l) (k:Nat):dig B (l.drop k):=fun d hd=>h d (List.mem_of_mem_drop hd)
theorem dig_getD {B:Nat}{l:List Nat}(h:dig B l) (hB:0<B) (i:Nat):l.getD i 0<B:=by
 rw[List.getD_eq_getElem?_getD]
 cases hi:l[i]? with
 | none=>simpa using hB
 | some d=>simpa using h d (List.mem_of_getElem? hi)
theorem val_lt {B:Nat}(hB:0<B) {l:List Nat}(h:dig B l):val B l<B ^ l.length:=by
 induction l with
 | nil=>simp[val]
 | cons d ds ih=>
   obtain ⟨h1,h2⟩:=dig_cons.1 h
   have:=ih h2
   simp only[val,List.length_cons,Nat.pow_succ]
   have h3:B*(val B ds+1)≤B*B ^ ds.length:=Nat.mul_le_mul_left _ this
   rw[Nat.mul_add]at h3
   rw[Nat.mul_comm (B ^ ds.length) B]
   omega
def digs (B:Nat) (n:Nat):List Nat:=
 if h:n=0∨B≤1 then []else n % B :: digs B (n / B)
termination_by n
decreasing_by
 simp only[not_or]at h
 exact Nat.div_lt_self (Nat.pos_of_ne_zero h.1) (by omega)
theorem digs_zero (B:Nat):digs B 0 = []:=by unfold digs;simp
theorem digs_pos {B n:Nat}(hB:1<B) (hn:n≠0):digs B n=n % B :: digs B (n / B):=by
 rw[digs];rw[dif_neg (by omega)]
theorem digs_dig {B:Nat}(hB:1<B) (n:Nat):dig B (digs B n):=by
 induction n using Nat.strongRecOn with
 | _ n ih=>
   by_cases hn:n=0
   ·subst hn;rw[digs_zero];exact dig_nil B
   ·rw[digs_pos hB hn,dig_cons]
    exact ⟨Nat.mod_lt _ (by omega),ih _ (Nat.div_lt_self (by omega) hB)⟩
theorem val_digs {B:Nat}(hB:1<B) (n:Nat):val B (digs B n)=n:=by
 induction n using Nat.strongRecOn with
 | _ n ih=>
   by_cases hn:n=0
   ·subst hn;rw[digs_zero];rfl
   ·rw[digs_pos hB hn,val_cons,ih _ (Nat.div_lt_self (by omega) hB)]
    have:=Nat.div_add_mod n B
    omega
theorem digs_eq_nil {B n:Nat}(hB:1<B):digs B n = []↔n=0:=by
 constructor
 ·intro h;have:=val_digs hB n;rw[h]at this;simpa [val]using this.symm
 ·rintro rfl;exact digs_zero B
def norm (l:List Nat):Prop:=l.getLast?≠some 0
theorem norm_nil:norm []:=by simp[norm]
theorem norm_cons {d:Nat}{l:List Nat}(h:l≠[]):norm (d :: l)↔norm l:=by
 unfold norm
 rw[List.getLast?_cons]
 cases hl:l.getLast? with
 | none=>simp[List.getLast?_eq_none_iff]at hl;exact absurd hl h
 | some x=>simp
theorem digs_norm {B:Nat}(hB:1<B) (n:Nat):norm (digs B n):=by
 induction n using Nat.strongRecOn with
 | _ n ih=>
   by_cases hn:n=0
   ·subst hn;rw[digs_zero];exact norm_nil
   ·rw[digs_pos hB hn]
    by_cases h0:n / B=0
    ·rw[h0,digs_zero]
     have:n % B=n:=Nat.mod_eq_of_lt (by
      rcases Nat.lt_or_ge n B with h|h
      ·exact h
      ·have:=Nat.div_pos h (by omega);omega)
     simp[norm,this,hn]
    ·rw[norm_cons (by rw[Ne,digs_eq_nil hB];exact h0)]
     exact ih _ (Nat.div_lt_self (by omega) hB)
theorem digs_val {B:Nat}(hB:1<B) {l:List Nat}(hd:dig B l) (hn:norm l):digs B (val B l)=l:=by
 induction l with
 | nil=>exact digs_zero B
 | cons d ds ih=>
   obtain ⟨h1,h2⟩:=dig_cons.1 hd
   by_cases hds:ds = []
   ·subst hds
    have hd0:d≠0:=by simpa [norm]using hn
    have hv:val B [d]=d:=by simp[val]
    rw[hv,digs_pos hB hd0,Nat.mod_eq_of_lt h1,Nat.div_eq_of_lt h1,digs_zero]
   ·have hn':=(norm_cons hds).1 hn
    have ih':=ih h2 hn'
    have hne:val B (d :: ds)≠0:=by
     intro h
     simp only[val]at h
     have hz:val B ds=0:=by
      have:B*val B ds=0:=by omega
      rcases Nat.mul_eq_zero.1 this with h|h
      ·omega
      ·exact h
     rw[hz,digs_zero]at ih'
     exact hds ih'.symm
    rw[digs_pos hB hne,val_cons]
    have e1:(d+B*val B ds) % B=d:=by rw[Nat.add_mul_mod_self_left];exact Nat.mod_eq_of_lt h1
    have e2:(d+B*val B ds) / B=val B ds:=by
     rw[Nat.add_mul_div_left _ _ (by omega)];rw[Nat.div_eq_of_lt h1];omega
    rw[e1,e2,ih']
def trimd (l:List Nat):List Nat:=(l.reverse.dropWhile (· == 0)).reverse
theorem trimd_snoc_zero (l:List Nat):trimd (l ++ [0])=trimd l:=by simp[trimd,List.dropWhile]
theorem trimd_snoc {d:Nat}(l:List Nat) (h:d≠0):trimd (l ++ [d])=l ++ [d]:=by
 simp[trimd,List.dropWhile,h]
theorem trimd_of_norm {l:List Nat}(h:norm l):trimd l=l:=by
 rcases List.eq_nil_or_concat l with rfl|⟨m,d,rfl⟩
 ·rfl
 ·simp only[List.concat_eq_append]at h ⊢
  exact trimd_snoc m (by simpa [norm]using h)
theorem trimd_norm (l:List Nat):norm (trimd l):=by
 induction hl:l.length generalizing l with
 | zero=>have:l = []:=List.length_eq_zero_iff.1 hl;subst this;exact norm_nil
 | succ n ih=>
   rcases List.eq_nil_or_concat l with rfl|⟨m,d,rfl⟩
   ·exact norm_nil
   ·simp only[List.concat_eq_append]at hl ⊢
    by_cases hd:d=0
    ·subst hd;rw[trimd_snoc_zero];exact ih m (by simpa using hl)
    ·rw[trimd_snoc m hd];simpa [norm]using hd
theorem val_trimd (B:Nat) (l:List Nat):val B (trimd l)=val B l:=by
 induction hl:l.length generalizing l with
 | zero=>have:l = []:=List.length_eq_zero_iff.1 hl;subst this;rfl
 | succ n ih=>
   rcases List.eq_nil_or_concat l with rfl|⟨m,d,rfl⟩
   ·rfl
   ·simp only[List.concat_eq_append]at hl ⊢
    by_cases hd:d=0
    ·subst hd;rw[trimd_snoc_zero,val_snoc,ih m (by simpa using hl)];simp
    ·rw[trimd_snoc m hd]
theorem dig_trimd {B:Nat}{l:List Nat}(h:dig B l):dig B (trimd l):=by
 intro d hd
 unfold trimd at hd
 rw[List.mem_reverse]at hd
 exact h d (by simpa using (List.dropWhile_sublist _).subset hd)
theorem trimd_eq_digs {B:Nat}(hB:1<B) {l:List Nat}(h:dig B l):trimd l=digs B (val B l):=by
 rw[← val_trimd B l]
 exact (digs_val hB (dig_trimd h) (trimd_norm l)).symm
theorem trimd_take (l:List Nat) (k:Nat) (hk:k≤l.length) (h0:∀ i,k≤i→i<l.length→l.getD i 0=0) (hk0:k=0∨l.getD (k - 1) 0≠0) :
 trimd l=l.take k:=by
 induction hn:l.length - k generalizing l with
 | zero=>
   have hkl:k=l.length:=by omega
   rw[List.take_of_length_le (by omega)]
   refine trimd_of_norm ?_
   rcases List.eq_nil_or_concat l with rfl|⟨m,d,rfl⟩
   ·exact norm_nil
   ·simp only[List.concat_eq_append]at *
    simp only[List.length_append,List.length_cons,List.length_nil]at hkl
    subst hkl
    rcases hk0 with h|h
    ·omega
    ·simpa [norm]using h
 | succ n ih=>
   rcases List.eq_nil_or_concat l with rfl|⟨m,d,rfl⟩
   ·simp at hn
   ·simp only[List.concat_eq_append,List.length_append,List.length_cons,List.length_nil]at *
    have hd:d=0:=by
     have:=h0 m.length (by omega) (by omega)
     simpa using this
    subst hd
    have hkm:k≤m.length:=by omega
    rw[trimd_snoc_zero,List.take_append_of_le_length hkm]
    refine ih m hkm (fun i h1 h2=>?_) ?_ (by omega)
    ·have:=h0 i h1 (by omega)
     rwa [getD_app_left _ _ _ h2]at this
    ·rcases hk0 with h|h
     ·exact .inl h
     ·by_cases hk':k=0
      ·exact .inl hk'
      ·right;rwa [getD_app_left _ _ _ (by omega)]at h
theorem digs_length_le {B:Nat}(hB:1<B) {n k:Nat}(h:n<B ^ k):(digs B n).length≤k:=by
 induction k generalizing n with
 | zero=>have:n=0:=by simpa using h
         subst this;rw[digs_zero];simp
 | succ k ih=>
   by_cases hn:n=0
   ·subst hn;rw[digs_zero];simp
   ·rw[digs_pos hB hn]
    have:=ih (n:=n / B) (by
     rw[Nat.div_lt_iff_lt_mul (by omega)];rwa [Nat.pow_succ]at h)
    simp;omega
theorem lt_pow_digs_length {B:Nat}(hB:1<B) (n:Nat):n<B ^ (digs B n).length:=by
 have:=val_lt (by omega:0<B) (digs_dig hB n)
 rwa [val_digs hB]at this
theorem pow_le_of_digs_length {B:Nat}(hB:1<B) {n k:Nat}(h:k<(digs B n).length):B ^ k≤n:=by
 rcases Nat.lt_or_ge n (B ^ k)with h'|h'
 ·have:=digs_length_le hB h';omega
 ·exact h'
theorem digs_getD {B:Nat}(hB:1<B) (n i:Nat):(digs B n).getD i 0=n / B ^ i % B:=by
 induction i generalizing n with
 | zero=>
   by_cases hn:n=0
   ·subst hn;simp[digs_zero]
   ·rw[digs_pos hB hn];simp
 | succ i ih=>
   by_cases hn:n=0
   ·subst hn;simp[digs_zero]
   ·rw[digs_pos hB hn,List.getD_cons_succ,ih,Nat.pow_succ,Nat.mul_comm,Nat.div_div_eq_div_mul]
theorem val_drop (B:Nat) (hB:0<B) (l:List Nat) (hd:dig B l) (k:Nat):val B (l.drop k)=val B l / B ^ k:=by
 by_cases h:k≤l.length
 ·have e:val B l=val B (l.take k)+B ^ k*val B (l.drop k):=by
   have:=val_append B (l.take k) (l.drop k)
   rw[List.take_append_drop,List.length_take,Nat.min_eq_left h]at this
   exact this
  have h2:=val_lt hB (dig_take hd k)
  rw[List.length_take,Nat.min_eq_left h]at h2
  rw[e,Nat.add_mul_div_left _ _ (Nat.pow_pos hB),Nat.div_eq_of_lt h2];omega
 ·have h1:=val_lt hB hd
  rw[List.drop_of_length_le (by omega)]
  rw[Nat.div_eq_of_lt]
  ·rfl
  ·exact Nat.lt_of_lt_of_le h1 (Nat.pow_le_pow_right hB (by omega))
end Vic
end
section
namespace Vic
open Go Go.RowKit
theorem block_lt {w:World}{b o:Nat}{v:Value}(h:w.cell? ⟨b,o,none⟩=some v):b<w.heap.size:=by
 rcases Nat.lt_or_ge b w.heap.size with h1|h1
 ·exact h1
 ·simp[World.cell?,Array.getElem?_eq_none h1]at h
theorem cell_keep {w w':World}{b o:Nat}{v:Value}(h:w.cell? ⟨b,o,none⟩=some v) (hb:Below w.heap.size w w'):w'.cell? ⟨b,o,none⟩=some v:=
 (hb.cell (p:=⟨b,o,none⟩) (block_lt h)).trans h
theorem Below.drewN_ {B:Nat}{u w:World}(h:Below B u w) (n:Nat):Below B u (w.drewN n):=⟨h.os,h.tape,h.output,h.size,h.block⟩
theorem below_seq {w a b:World}(h:Below w.heap.size w a) (k:Below a.heap.size a b):Below w.heap.size w b:=h.trans (k.mono h.size)
def Ints (k:IntKind) (w:World) (v:Value) (l:List Nat):Prop:=
 ∃ A c,v=.slice A l.length c∧l.length≤c∧(∀ i,i<l.length→∃ b o,A=some ⟨b,o,none⟩∧w.cell? ⟨b,o+i,none⟩=some (.int k ((l.getD i 0:Nat):Int)))
def U32s (w:World) (v:Value) (l:List Nat):Prop:=Ints .u32 w v l
theorem Ints.keep {k:IntKind}{w w':World}{v:Value}{l:List Nat}(h:Ints k w v l) (hb:Below w.heap.size w w'):Ints k w' v l:=by
 obtain ⟨A,c,h1,h2,h3⟩:=h
 refine ⟨A,c,h1,h2,fun i hi=>?_⟩
 obtain ⟨b,o,hA,hc⟩:=h3 i hi
 exact ⟨b,o,hA,cell_keep hc hb⟩
theorem U32s.keep {w w':World}{v:Value}{l:List Nat}(h:U32s w v l) (hb:Below w.heap.size w w'):U32s w' v l:=Ints.keep h hb
theorem Ints.nil_ (k:IntKind) (w:World):Ints k w (.slice none 0 0) []:=⟨none,0,rfl,Nat.le_refl _,fun i hi=>by simp at hi⟩
abbrev dgs (n:Nat):List Nat:=digs 4294967296 n
def NatBlk (w:World) (b:Nat):Prop:=∃ cs fr,w.heap[b]?=some (.cells cs 295 fr)
theorem NatBlk.same {w w':World}{b:Nat}(h:NatBlk w b) (hs:w'.heap[b]?=w.heap[b]?):NatBlk w' b:=by
 obtain ⟨cs,fr,h⟩:=h;exact ⟨cs,fr,hs.trans h⟩
theorem NatBlk.lt {w:World}{b:Nat}(h:NatBlk w b):b<w.heap.size:=by
 obtain ⟨cs,fr,h⟩:=h
 rcases Nat.lt_or_ge b w.heap.size with h1|h1
 ·exact h1
 ·rw[Array.getElem?_eq_none h1]at h;cases h
theorem NatBlk.keep {w w':World}{b:Nat}(h:NatBlk w b) (hb:Below w.heap.size w w'):NatBlk w' b:=h.same (hb.block b h.lt)
def NatAt (w:World) (v:Value) (n:Nat):Prop:=
 (v=.pointer none∧n=0)∨∃ b s,v=.pointer (some ⟨b,0,none⟩)∧w.cell? ⟨b,0,none⟩=some s∧U32s w s (digs 4294967296 n)∧NatBlk w b
def NatPtr (w:World) (v:Value) (n:Nat):Prop:=
 ∃ b s,v=.pointer (some ⟨b,0,none⟩)∧w.cell? ⟨b,0,none⟩=some s∧U32s w s (digs 4294967296 n)∧NatBlk w b
theorem NatPtr.at_ {w:World}{v:Value}{n:Nat}(h:NatPtr w v n):NatAt w v n:=.inr h
theorem NatPtr.keep {w w':World}{v:Value}{n:Nat}(h:NatPtr w v n) (hb:Below w.heap.size w w'):NatPtr w' v n:=by
 obtain ⟨b,s,h1,h2,h3,h4⟩:=h
 exact ⟨b,s,h1,cell_keep h2 hb,h3.keep hb,h4.keep hb⟩
theorem NatPtr.open_ {w:World}{v:Value}{n:Nat}(h:NatPtr w v n) :
 ∃ b A c,v=.pointer (some ⟨b,0,none⟩)∧w.cell? ⟨b,0,none⟩=some (.slice A (dgs n).length c)∧U32s w (.slice A (dgs n).length c) (dgs n):=by
 obtain ⟨b,s,h1,h2,⟨A,c,rfl,h4,h5⟩,_⟩:=h
 exact ⟨b,A,c,h1,h2,⟨A,c,rfl,h4,h5⟩⟩
def NewPtr (B:Nat) (v:Value):Prop:=∃ b,v=.pointer (some ⟨b,0,none⟩)∧B≤b
theorem NewPtr.mono {B C:Nat}{v:Value}(h:NewPtr B v) (hc:C≤B):NewPtr C v:=by
 obtain ⟨b,h1,h2⟩:=h;exact ⟨b,h1,Nat.le_trans hc h2⟩
theorem NatAt.ptr {w:World}{v:Value}{n:Nat}(h:NatAt w v n) (h0:n≠0):NatPtr w v n:=by
 rcases h with ⟨_,h⟩|h
 ·exact absurd h h0
 ·exact h
theorem NatAt.keep {w w':World}{v:Value}{n:Nat}(h:NatAt w v n) (hb:Below w.heap.size w w'):NatAt w' v n:=by
 rcases h with h|⟨b,s,h1,h2,h3,h4⟩
 ·exact .inl h
 ·exact .inr ⟨b,s,h1,cell_keep h2 hb,h3.keep hb,h4.keep hb⟩
def Row (w:World) (b:Nat) (t:TypeId) (cs:Array Value):Prop:=w.heap[b]?=some (.cells cs t (0,0))
theorem Row.lt {w:World}{b:Nat}{t:TypeId}{cs:Array Value}(h:Row w b t cs):b<w.heap.size:=by
 rcases Nat.lt_or_ge b w.heap.size with h1|h1
 ·exact h1
 ·unfold Row at h;rw[Array.getElem?_eq_none h1]at h;cases h
theorem Row.cell {w:World}{b:Nat}{t:TypeId}{cs:Array Value}(h:Row w b t cs) (i:Nat):w.cell? ⟨b,i,none⟩=cs[i]?:=by
 unfold Row at h;simp[World.cell?,h]
theorem Row.free {w:World}{b:Nat}{t:TypeId}{cs:Array Value}(h:Row w b t cs) (i:Nat):w.frozen? ⟨b,i,none⟩=false:=by
 unfold Row at h;simp[World.frozen?,h]
theorem Row.new (w:World) (t:TypeId) (cs:Array Value):Row (w.alloc (.cells cs t)) w.heap.size t cs:=by
 show (w.heap.push _)[w.heap.size]?=_
 simp
theorem Row.set {w:World}{b:Nat}{t:TypeId}{cs:Array Value}(h:Row w b t cs) (i:Nat) (u:Value):Row (w.setCell ⟨b,i,none⟩ u) b t (cs.setIfInBounds i u):=by
 unfold Row at h ⊢
 simp[World.setCell,Array.getElem?_modify,h]
theorem Row.far {w:World}{b:Nat}{t:TypeId}{cs:Array Value}(h:Row w b t cs) {p:Addr}(hp:b≠p.block) (u:Value):Row (w.setCell p u) b t cs:=
 (Below.heap_setCell w p u b hp).trans h
theorem Row.alloc {w:World}{b:Nat}{t:TypeId}{cs:Array Value}(h:Row w b t cs) (o:Obj):Row (w.alloc o) b t cs:=(Below.heap_alloc w o b h.lt).trans h
theorem Row.keep {w w':World}{b:Nat}{t:TypeId}{cs:Array Value}(h:Row w b t cs) (hb:Below w.heap.size w w'):Row w' b t cs:=(hb.block b h.lt).trans h
def vals (k:IntKind) (l:List Nat):Array Value:=(l.map fun (d:Nat)=>Value.int k (d:Int)).toArray
theorem vals_size (k:IntKind) (l:List Nat):(vals k l).size=l.length:=by simp[vals]
theorem vals_get (k:IntKind) (l:List Nat) (i:Nat) (h:i<l.length):(vals k l)[i]?=some (.int k ((l.getD i 0:Nat):Int)):=by
 simp[vals,h,List.getD_eq_getElem?_getD]
theorem vals_set (k:IntKind) (l:List Nat) (i:Nat) (d:Nat):(vals k l).setIfInBounds i (.int k (d:Int))=vals k (l.set i d):=by
 simp[vals,List.map_set]
theorem Row.ints {k:IntKind}{w:World}{b:Nat}{t:TypeId}{l:List Nat}(h:Row w b t (vals k l)) (c:Nat) (hc:l.length≤c):Ints k w (.slice (some ⟨b,0,none⟩) l.length c) l:=
 ⟨_,c,rfl,hc,fun i hi=>⟨b,0,rfl,by rw[Nat.zero_add,h.cell,vals_get k l i hi]⟩⟩
def Rets (v:Value) (w:World) (e:Ending) (w':World):Prop:=e=.returned v∧w=w'
def Keeps (v:Value) (w:World) (e:Ending) (w':World):Prop:=e=.returned v∧Below w.heap.size w w'
def Gives (Q:Value→World→Prop) (w:World) (e:Ending) (w':World):Prop:=∃ x,e=.returned x∧Q x w'∧Below w.heap.size w w'
theorem Gives.mono {Q R:Value→World→Prop}{w w':World}{e:Ending}(h:Gives Q w e w') (k:∀ x w,Q x w→R x w):Gives R w e w':=by
 obtain ⟨x,h1,h2,h3⟩:=h
 exact ⟨x,h1,k x w' h2,h3⟩
theorem ret_int {k:IntKind}{a b:Int}(h:a=b):Ending.returned (.int k a)=.returned (.int k b):=by rw[h]
theorem ret_bool {a b:Bool}(h:a=b):Ending.returned (.bool a)=.returned (.bool b):=by rw[h]
theorem shl_val (x n:Nat):IntKind.u64.wrap (((x:Nat):Int)*2 ^ n)=((x*2 ^ n % 18446744073709551616:Nat):Int):=by
 have e:((x:Nat):Int)*2 ^ n=((x*2 ^ n:Nat):Int):=by simp
 rw[e,IntKind.wrap_u64]
 exact (Int.natCast_emod _ _).symm
theorem shr_val (x n:Nat):((x:Nat):Int) / 2 ^ n=((x / 2 ^ n:Nat):Int):=by simp
theorem wrap64_nat (n:Nat):IntKind.u64.wrap ((n:Nat):Int)=((n % 18446744073709551616:Nat):Int):=by
 rw[IntKind.wrap_u64];omega
theorem div_half (n:Nat):((n:Nat):Int) / 4294967296=((n / 4294967296:Nat):Int):=by omega
theorem mul_half (n:Nat):((n:Nat):Int)*4294967296=((n*4294967296:Nat):Int):=by omega
theorem or_half (a b:Nat) (ha:a % 4294967296=0) (h:a<18446744073709551616) (hb:b<4294967296):bits .or .u64 ((a:Nat):Int) ((b:Nat):Int)=((a+b:Nat):Int):=by
 rw[u64_or_nat _ _ h (by omega),nat_join 32 a b (by omega) (by omega)]
theorem qa {α:Type}(l:List α) (i:Nat) (a:α):l.toArray.setIfInBounds i a=(l.set i a).toArray:=List.setIfInBounds_toArray l i a
theorem qb {α:Type}(x:α) (l:List α) (a:α):(x :: l).set 0 a=a :: l:=rfl
theorem qc {α:Type}(x:α) (l:List α) (n:Nat) (a:α):(x :: l).set (n+1) a=x :: l.set n a:=rfl
end Vic
end
section
namespace Vic
open Go
theorem tkH {P:Program}{md:Region.Mode}{ops:Array Oper}{Q:Exit→Act→World→Prop}{S:World→Prop}{i:Nat}{oi:Oper}{v:Value}{fuel:Nat}{listed:Array Bool}{a:Act}{w:World}
 (hc:(Region.noSelect ops && (Region.free md ops listed i && ((Region.ready md ops listed).contains i && Region.wanted oi (yielded ops a.tmps))))=true) (hi:ops[i]?=some oi)
 (hQ:∀ c a w,Q (.panic c) (a.put oi.dst v) w→Q (.panic c) a w) (hr:∀ w,S w→(execOp a.eval oi).run P w=.ok (.value v) w) (hS:S w)
 (h:wpAnyH P md ops Q S fuel (listed.setIfInBounds i true) (a.put oi.dst v) w):wpAnyH P md ops Q S (fuel+1) listed a w:=by
 simp only[Bool.and_eq_true]at hc
 exact wpAnyH_take hi hc.1 hc.2.1 hc.2.2.1 hQ (Or.inl ⟨hc.2.2.2,hr⟩) hS h
theorem oneH {P:Program}{md:Region.Mode}{ops:Array Oper}{Q:Exit→Act→World→Prop}{S:World→Prop}{fuel:Nat}{listed:Array Bool}{a:Act}{w:World}{i:Nat}{o:Oper}(hr:Region.ready md ops listed = [i]) (ho:ops[i]?=some o)
 (h:∀ K':Act→World→Prop,Shut (∀ a w,S w→(S w→wpAnyH P md ops Q S fuel (listed.setIfInBounds i true) a w)→K' a w)→if Region.wanted o (yielded ops a.tmps)=true then Oper.wp P o a w K' Q else K' (a.put o.dst undef) w):wpAnyH P md ops Q S (fuel+1) listed a w:=
 wpAnyH_ready hr (by simp) (AllReadyH.cons ho h AllReadyH.nil)
end Vic
end
section
namespace Vic
open Go
def strLen:Value→Nat
 | .string s=>s.size
 | _=>0
theorem cut_len1 (s p:List UInt8):(Lib.cut s p).1.length≤s.length:=by
 unfold Lib.cut;split
 ·simp;omega
 ·exact Nat.le_refl _
theorem cut_len2 (s p:List UInt8):(Lib.cut s p).2.1.length≤s.length:=by
 unfold Lib.cut;split
 ·simp
 ·simp
theorem pre_one (c b:UInt8) (l:List UInt8) : [c].isPrefixOf (b :: l)=(c == b):=by
 show (c == b && [].isPrefixOf l)=_
 cases l<;>simp
theorem index_none {c:UInt8}:∀ {l:List UInt8},c∉l→Lib.index l [c]=-1
 | [],_=>rfl
 | b :: l,h=>by
   have hb:b≠c:=fun e=>h (by simp[e])
   have ih:=index_none (l:=l) (fun e=>h (List.mem_cons_of_mem _ e))
   unfold Lib.index
   rw[if_neg (by simp[pre_one,Ne.symm hb]),ih]
   rfl
theorem index_app {c:UInt8}:∀ {a:List UInt8}(b:List UInt8),c∉a→Lib.index (a ++ c :: b) [c]=(a.length:Nat)
 | [],b,_=>by
   show Lib.index (c :: b) [c]=_
   unfold Lib.index
   rw[if_pos (by simp[pre_one])];rfl
 | x :: a,b,h=>by
   have hx:x≠c:=fun e=>h (by simp[e])
   have ih:=index_app (a:=a) b (fun e=>h (List.mem_cons_of_mem _ e))
   show Lib.index (x :: (a ++ c :: b)) [c]=_
   unfold Lib.index
   rw[if_neg (by simp[pre_one,Ne.symm hx]),ih,if_neg (by simp)]
   simp
theorem cut_none {c:UInt8}{l:List UInt8}(h:c∉l):Lib.cut l [c]=(l,[],false):=by
 unfold Lib.cut;rw[index_none h,if_neg (by omega)]
theorem cut_app {c:UInt8}{a:List UInt8}(b:List UInt8) (h:c∉a):Lib.cut (a ++ c :: b) [c]=(a,b,true):=by
 unfold Lib.cut
 rw[index_app b h,if_pos (by omega)]
 simp
theorem take_bytes (l:List UInt8) (k:Nat):(⟨l.toArray⟩:ByteArray).extract 0 k=⟨(l.take k).toArray⟩:=by
 apply ByteArray.ext
 simp[ByteArray.extract,ByteArray.copySlice]
end Vic
end
section
namespace Vic
open Go
abbrev Txt:=List UInt8
def badC (c:UInt8):Bool:=c≤32 || 126<c
def nameB (s:Txt):Bool:=!s.any badC && 1≤s.length && s.length≤20
def badL (c:UInt8):Bool:=126<c || (c<32 && c != 9)
def trimCr (s:Txt):Txt:=Lib.trimSuffix s [13]
def lookB (s:Txt):Int:=if 200<s.length then 6 else if (trimCr s).any badL then 1 else 0
end Vic
end
section
namespace Vic
theorem getD_drop (l:List Nat) (i j:Nat):(l.drop i).getD j 0=l.getD (i+j) 0:=by simp[List.getD_eq_getElem?_getD]
theorem getD_take (l:List Nat) (i j:Nat) (h:j<i):(l.take i).getD j 0=l.getD j 0:=by
 simp[List.getD_eq_getElem?_getD,List.getElem?_take,h]
theorem getD_big (l:List Nat) (i:Nat) (h:l.length≤i):l.getD i 0=0:=by
 rw[List.getD_eq_getElem?_getD,List.getElem?_eq_none h];rfl
theorem val_drop_step (B:Nat) (l:List Nat) (i:Nat):val B (l.drop i)=l.getD i 0+B*val B (l.drop (i+1)):=by
 by_cases h:i<l.length
 ·rw[List.drop_eq_getElem_cons h,val_cons,List.getD_eq_getElem?_getD,List.getElem?_eq_getElem h];rfl
 ·rw[List.drop_of_length_le (by omega),List.drop_of_length_le (by omega),getD_big l i (by omega)];rfl
theorem val_take_step (B:Nat) (l:List Nat) (i:Nat):val B (l.take (i+1))=val B (l.take i)+B ^ i*l.getD i 0:=by
 by_cases h:i<l.length
 ·rw[List.take_succ_eq_append_getElem h,val_append,List.length_take,Nat.min_eq_left (by omega),List.getD_eq_getElem?_getD,List.getElem?_eq_getElem h];simp[val]
 ·rw[List.take_of_length_le (by omega),List.take_of_length_le (by omega),getD_big l i (by omega)];simp
theorem val_split (B:Nat) (l:List Nat) (i:Nat):val B l=val B (l.take i)+B ^ i*val B (l.drop i):=by
 by_cases h:i≤l.length
 ·have:=val_append B (l.take i) (l.drop i)
  rwa [List.take_append_drop,List.length_take,Nat.min_eq_left h]at this
 ·rw[List.take_of_length_le (by omega),List.drop_of_length_le (by omega)];simp[val]
theorem val_take_lt {B:Nat}(hB:0<B) {l:List Nat}(h:dig B l) (i:Nat):val B (l.take i)<B ^ i:=by
 have h1:=val_lt hB (dig_take h i)
 exact Nat.lt_of_lt_of_le h1 (Nat.pow_le_pow_right hB (by rw[List.length_take];omega))
theorem val_take_all (B:Nat) (l:List Nat) (i:Nat) (h:l.length≤i):val B (l.take i)=val B l:=by rw[List.take_of_length_le h]
theorem lt_of_drop_lt {B:Nat}(hB:0<B) {a b:List Nat}(ha:dig B a) (i:Nat) (h:val B (a.drop i)<val B (b.drop i)):val B a<val B b:=by
 rw[val_split B a i,val_split B b i]
 have h1:=val_take_lt hB ha i
 have h2:B ^ i*(val B (a.drop i)+1)≤B ^ i*val B (b.drop i):=Nat.mul_le_mul_left _ h
 rw[Nat.mul_add]at h2
 omega
theorem lt_of_digit {B:Nat}(hB:0<B) {a b:List Nat}(ha:dig B a) (i:Nat) (he:val B (a.drop (i+1))=val B (b.drop (i+1))) (h:a.getD i 0<b.getD i 0):val B a<val B b:=by
 refine lt_of_drop_lt hB ha i ?_
 rw[val_drop_step B a i,val_drop_step B b i,he];omega
def cmpI (a b:Nat):Int:=if a<b then -1 else if b<a then 1 else 0
theorem cmpI_lt {a b:Nat}(h:a<b):cmpI a b=-1:=by unfold cmpI;rw[if_pos h]
theorem cmpI_gt {a b:Nat}(h:b<a):cmpI a b=1:=by unfold cmpI;rw[if_neg (by omega),if_pos h]
theorem cmpI_eq {a b:Nat}(h:a=b):cmpI a b=0:=by unfold cmpI;rw[if_neg (by omega),if_neg (by omega)]
theorem set_getD_same (o:List Nat) (k d:Nat) (h:k<o.length):(o.set k d).getD k 0=d:=by
 simp[List.getD_eq_getElem?_getD,h]
theorem set_getD_other (o:List Nat) (k d j:Nat) (h:j≠k):(o.set k d).getD j 0=o.getD j 0:=by
 simp[List.getD_eq_getElem?_getD,List.getElem?_set_ne (Ne.symm h)]
theorem take_set (o:List Nat) (k d:Nat):(o.set k d).take k=o.take k:=by
 rw[List.take_set];exact List.set_eq_of_length_le (by rw[List.length_take];omega)
theorem dig_set {B:Nat}{o:List Nat}(h:dig B o) {d:Nat}(hd:d<B) (k:Nat):dig B (o.set k d):=fun x hx=>by
 rcases List.mem_or_eq_of_mem_set hx with h1|h1
 ·exact h x h1
 ·exact h1▸hd
theorem dig_replicate {B:Nat}(hB:0<B) (n:Nat):dig B (List.replicate n 0):=fun d hd=>by
 rw[List.mem_replicate]at hd;omega
theorem val_take_set (B:Nat) (o:List Nat) (k d:Nat) (h:k<o.length):val B ((o.set k d).take (k+1))=val B (o.take k)+B ^ k*d:=by
 rw[val_take_step,take_set,set_getD_same o k d h]
structure AddInv (B:Nat) (a b o:List Nat) (n k s:Nat):Prop where
 len:o.length=n
 dg:dig B o
 sum:val B (o.take k)+B ^ k*s=val B (a.take k)+val B (b.take k)
 small:s≤1
theorem AddInv.start {B:Nat}(hB:1<B) (a b:List Nat) (n:Nat):AddInv B a b (List.replicate n 0) n 0 0:=
 ⟨by simp,dig_replicate (by omega) n,by simp[val],by omega⟩
theorem AddInv.step {B:Nat}{a b o:List Nat}{n k s:Nat}(h:AddInv B a b o n k s) (hB:1<B) (ha:dig B a) (hb:dig B b) (hk:k<n) :
 AddInv B a b (o.set k ((s+(a.getD k 0+b.getD k 0)) % B)) n (k+1) ((s+(a.getD k 0+b.getD k 0)) / B):=by
 have h1:=dig_getD ha (by omega) k
 have h2:=dig_getD hb (by omega) k
 refine ⟨by simp[h.len],dig_set h.dg (Nat.mod_lt _ (by omega)) k,?_,?_⟩
 ·rw[val_take_set B o k _ (by rw[h.len];exact hk),val_take_step,val_take_step,Nat.pow_succ,Nat.mul_assoc]
  have e:=Nat.mod_add_div (s+(a.getD k 0+b.getD k 0)) B
  have e2:B ^ k*((s+(a.getD k 0+b.getD k 0)) % B)+B ^ k*(B*((s+(a.getD k 0+b.getD k 0)) / B))=B ^ k*s+(B ^ k*a.getD k 0+B ^ k*b.getD k 0):=by
   rw[← Nat.mul_add,e,Nat.mul_add,Nat.mul_add]
  have:=h.sum
  omega
 ·have h3:=h.small
  have:(s+(a.getD k 0+b.getD k 0)) / B<2:=by rw[Nat.div_lt_iff_lt_mul (by omega)];omega
  omega
theorem AddInv.done {B:Nat}{a b o:List Nat}{n s:Nat}(h:AddInv B a b o n n s) (hB:1<B) (ha:dig B a) (hb:dig B b) (hn:max a.length b.length+1=n) :
 val B o=val B a+val B b:=by
 have e:=h.sum
 rw[val_take_all B o n (by rw[h.len];exact Nat.le_refl _),val_take_all B a n (by omega),val_take_all B b n (by omega)]at e
 have h1:val B a<B ^ max a.length b.length:=Nat.lt_of_lt_of_le (val_lt (by omega) ha) (Nat.pow_le_pow_right (by omega) (by omega))
 have h2:val B b<B ^ max a.length b.length:=Nat.lt_of_lt_of_le (val_lt (by omega) hb) (Nat.pow_le_pow_right (by omega) (by omega))
 have h3:2*B ^ max a.length b.length≤B ^ n:=by
  rw[← hn,Nat.pow_succ,Nat.mul_comm];exact Nat.mul_le_mul_left _ hB
 rcases Nat.eq_zero_or_pos s with h0|h0
 ·subst h0;omega
 ·have:B ^ n*1≤B ^ n*s:=Nat.mul_le_mul_left _ h0
  omega
theorem digs_length_mono {B a b:Nat}(hB:1<B) (h:a≤b):(digs B a).length≤(digs B b).length:=
 digs_length_le hB (Nat.lt_of_le_of_lt h (lt_pow_digs_length hB b))
structure LessInv (B:Nat) (a b o:List Nat) (n k:Nat) (r:Int):Prop where
 len:o.length=n
 dg:dig B o
 sum:(val B (o.take k):Int)+(B:Int) ^ k*r=(val B (a.take k):Int) - (val B (b.take k):Int)
 small:r=0∨r=-1
theorem LessInv.start {B:Nat}(hB:1<B) (a b:List Nat) (n:Nat):LessInv B a b (List.replicate n 0) n 0 0:=
 ⟨by simp,dig_replicate (by omega) n,by simp[val],.inl rfl⟩
theorem LessInv.step {B:Nat}{a b o:List Nat}{n k:Nat}{r:Int}(h:LessInv B a b o n k r) (hB:1<B) (ha:dig B a) (hb:dig B b) (hk:k<n) :
 LessInv B a b (o.set k ((r+((a.getD k 0:Int) - (b.getD k 0:Int))) % (B:Int)).toNat) n (k+1) ((r+((a.getD k 0:Int) - (b.getD k 0:Int))) / (B:Int)):=by
 have h1:=dig_getD ha (by omega) k
 have h2:=dig_getD hb (by omega) k
 have hp:(0:Int)<(B:Int):=by omega
 have m1:=Int.emod_nonneg (r+((a.getD k 0:Int) - (b.getD k 0:Int))) (show (B:Int)≠0 by omega)
 have m2:=Int.emod_lt_of_pos (r+((a.getD k 0:Int) - (b.getD k 0:Int))) hp
 have e:=Int.emod_add_mul_ediv (r+((a.getD k 0:Int) - (b.getD k 0:Int))) (B:Int)
 refine ⟨by simp[h.len],dig_set h.dg (by omega) k,?_,?_⟩
 ·rw[val_take_set B o k _ (by rw[h.len];exact hk),val_take_step,val_take_step]
  generalize hq:(r+((a.getD k 0:Int) - (b.getD k 0:Int))) / (B:Int)=q at *
  generalize hm:(r+((a.getD k 0:Int) - (b.getD k 0:Int))) % (B:Int)=m at *
  simp only[Int.natCast_add,Int.natCast_mul,Int.natCast_pow,Int.toNat_of_nonneg m1]
  have hs:=h.sum
  rw[Int.pow_succ,Int.mul_assoc]
  have e2:(B:Int) ^ k*m+(B:Int) ^ k*((B:Int)*q)=(B:Int) ^ k*r+((B:Int) ^ k*(a.getD k 0:Int) - (B:Int) ^ k*(b.getD k 0:Int)):=by
   rw[← Int.mul_add,e,Int.mul_add,Int.mul_sub]
  omega
 ·have h3:=h.small
  have q1 : -1≤(r+((a.getD k 0:Int) - (b.getD k 0:Int))) / (B:Int):=by
   rw[Int.le_ediv_iff_mul_le hp];omega
  have q2:(r+((a.getD k 0:Int) - (b.getD k 0:Int))) / (B:Int)<1:=by
   rw[Int.ediv_lt_iff_lt_mul hp];omega
  omega
theorem LessInv.done {B:Nat}{a b o:List Nat}{r:Int}(h:LessInv B a b o a.length a.length r) (hB:1<B) (ha:dig B a) (hb:dig B b) (hle:val B b≤val B a) (hbl:b.length≤a.length) :
 val B o=val B a - val B b:=by
 have e:=h.sum
 rw[val_take_all B o _ (by rw[h.len];exact Nat.le_refl _),val_take_all B a _ (Nat.le_refl _),val_take_all B b _ hbl]at e
 have h0:=val_lt (by omega) h.dg
 rw[h.len]at h0
 rcases h.small with h1|h1
 ·subst h1;simp at e;omega
 ·subst h1
  have:((B ^ a.length:Nat):Int)=(B:Int) ^ a.length:=by simp
  omega
end Vic
end
section
namespace Go.Proofs.YtbdfhnelmojbpaaGreatDoor
open Go.RowKit Vic
theorem nat_at (w:World) (v:Value) (l:List Nat) (i:Nat) (h:U32s w v l) (hd:dig 4294967296 l) (hl:l.length≤1099511627776) (hi:i≤1099511627776) :
 Calls Tryz.prog 230 #[v,.int .i64 i] w (Rets (.int .u64 ((l.getD i 0:Nat):Int)) w):=by
 obtain ⟨d,hdd⟩:∃ d,d=l.getD i 0:=⟨_,rfl⟩
 have hlt:=dig_getD hd (by omega) i
 obtain ⟨A,c,rfl,hc,hcell⟩:=h
 by_cases hil:i<l.length
 ·obtain ⟨b,o,rfl,hcl⟩:=hcell i hil
  rw[← hdd]at hcl ⊢ hlt
  have hlt':((d:Nat):Int)<4294967296:=by omega
  clear hcell hdd hlt
  go_enter Tryz.func230,Tryz.ntmps230
  go_wp2
  go_ret
  exact ⟨rfl,rfl⟩
 ·have h0:d=0:=by rw[hdd];exact getD_big l i (by omega)
  rw[← hdd]
  clear hcell hdd hlt
  subst h0
  go_enter Tryz.func230,Tryz.ntmps230
  go_wp2
  go_ret
  exact ⟨rfl,rfl⟩
def DigsOf (l:List Nat) (w:World) (e:Ending) (w':World):Prop:=∃ A c,e=.returned (.slice A l.length c)∧U32s w (.slice A l.length c) l∧w=w'
theorem nat_digits (w:World) (v:Value) (n:Nat) (h:NatAt w v n):Calls Tryz.prog 219 #[v] w (DigsOf (dgs n) w):=by
 rcases h with ⟨rfl,rfl⟩|⟨b,s,rfl,hc,hs,_⟩
 ·go_enter Tryz.func219,Tryz.ntmps219
  go_wp2
  go_ret
  refine ⟨none,0,?_,?_,rfl⟩
  ·simp[dgs,digs_zero]
  ·rw[show dgs 0 = []from digs_zero _];exact Ints.nil_ _ _
 ·obtain ⟨A,c,rfl,h1,h2⟩:=hs
  go_enter Tryz.func219,Tryz.ntmps219
  go_wp2
  go_ret
  exact ⟨A,c,rfl,⟨A,c,rfl,h1,h2⟩,rfl⟩
theorem of_end (w:World) (A:Option Addr) (c:Nat) (l:List Nat) (k:Nat) (h:U32s w (.slice A l.length c) l) (hd:dig 4294967296 l) (hk:k≤l.length)
 (h0:∀ i,k≤i→i<l.length→l.getD i 0=0) (hk0:k=0∨l.getD (k - 1) 0≠0) :
 NatPtr (w.alloc (.cells #[.slice A k c] 295)) (.pointer (some ⟨w.heap.size,0,none⟩)) (val 4294967296 l):=by
 have e:=trimd_take l k hk h0 hk0
 rw[trimd_eq_digs (by omega) hd]at e
 obtain ⟨A',c',hv,hlc,hcell⟩:=h
 injection hv with h1 h2 h3
 subst h1;subst h3
 refine ⟨_,.slice A k c,rfl,by simp,?_,⟨_,_,Row.new _ _ _⟩⟩
 rw[e]
 have hlen:(l.take k).length=k:=by simp;omega
 refine ⟨A,c,by rw[hlen],by rw[hlen];omega,fun i hi=>?_⟩
 rw[hlen]at hi
 obtain ⟨b,o,hA,hc⟩:=hcell i (by omega)
 refine ⟨b,o,hA,?_⟩
 rw[getD_take l k i hi]
 exact cell_keep hc ((Below.refl _ _).alloc (Nat.le_refl _) _)
set_option maxHeartbeats 400000 in
theorem nat_ofpN (w:World) (v:Value) (l:List Nat) (h:U32s w v l) (hd:dig 4294967296 l) (hl:l.length≤1099511627776) :
 Calls Tryz.prog 199 #[v] w (Gives (fun x w'=>NatPtr w' x (val 4294967296 l)∧NewPtr w.heap.size x) w):=by
 have h':=h
 obtain ⟨A,c,rfl,hc,hcell⟩:=h
 go_enter Tryz.func199,Tryz.ntmps199
 go_wp2
 go_loop [3] (fun t=>∃ k:Nat,k≤l.length∧t=.int .i64 k∧Hid (∀ i,k≤i→i<l.length→l.getD i 0=0)) (fun t=>(intOf t).toNat)
 case atStart=>exact ⟨l.length,Nat.le_refl _,rfl,fun i h1 h2=>by omega⟩
 case round=>
  obtain ⟨k,hk,rfl,hz⟩:=hrel
  rcases Nat.eq_zero_or_pos k with hk0|hk0
  ·subst hk0
   go_wp2
   go_ret
   exact ⟨_,rfl,⟨of_end w A c l 0 h' hd (Nat.zero_le _) hz.out (.inl rfl),_,rfl,Nat.le_refl _⟩,(Below.refl _ _).alloc (Nat.le_refl _) _⟩
  ·obtain ⟨j,rfl⟩:∃ j,k=j+1:=⟨k - 1,by omega⟩
   obtain ⟨b,o,rfl,hcl⟩:=hcell j (by omega)
   obtain ⟨d,hdj⟩:∃ d,d=l.getD j 0:=⟨_,rfl⟩
   rw[← hdj]at hcl
   have HD:=Lib.hid hdj;clear hdj
   clear hcell
   go_wp2
   ·have h0:((d:Int) == 0)=true:=by assumption
    go_round
    case rel=>
     refine ⟨j,by omega,rfl,fun i h1 h2=>?_⟩
     by_cases e:i=j
     ·subst e;rw[← HD.out];simpa using h0
     ·exact hz.out i (by omega) h2
    case measure=>simp[intOf]
   ·have h0:((d:Int) == 0)=false:=by assumption
    go_ret
    refine ⟨_,rfl,⟨of_end w _ c l (j+1) h' hd hk hz.out (.inr ?_),_,rfl,Nat.le_refl _⟩,(Below.refl _ _).alloc (Nat.le_refl _) _⟩
    simp only[Nat.add_sub_cancel]
    rw[← HD.out];simpa using h0
theorem nat_ofp (w:World) (v:Value) (l:List Nat) (h:U32s w v l) (hd:dig 4294967296 l) (hl:l.length≤1099511627776) :
 Calls Tryz.prog 199 #[v] w (Gives (fun x w'=>NatPtr w' x (val 4294967296 l)) w):=
 (nat_ofpN w v l h hd hl).mono fun _ _ h=>h.mono fun _ _ h=>h.1
theorem nat_of (w:World) (v:Value) (l:List Nat) (h:U32s w v l) (hd:dig 4294967296 l) (hl:l.length≤1099511627776) :
 Calls Tryz.prog 199 #[v] w (Gives (fun x w'=>NatAt w' x (val 4294967296 l)) w):=
 (nat_ofp w v l h hd hl).mono fun _ _ h=>h.mono fun _ _=>NatPtr.at_
theorem of_val (x:Nat):val 4294967296 [x % 4294967296,x / 4294967296]=x:=by
 simp only[val];omega
theorem nat_Ofp (w:World) (x:Nat) (hx:x<18446744073709551616) :
 Calls Tryz.prog 201 #[.int .u64 x] w (Gives (fun v w'=>NatPtr w' v x) w):=by
 have e1:((x:Nat):Int) % 4294967296=((x % 4294967296:Nat):Int):=by omega
 have e2:((x:Nat):Int) / 4294967296=((x / 4294967296:Nat):Int):=by omega
 have hr:=Row.new w 291 (vals .u32 [x % 4294967296,x / 4294967296])
 have hc:=nat_ofp _ _ _ (hr.ints 2 (by simp)) (by simp[dig];omega) (by simp)
 rw[of_val]at hc
 have HC:=Lib.hid hc;have E1:=Lib.hid e1;have E2:=Lib.hid e2;clear hc hr e1 e2
 go_enter Tryz.func201,Tryz.ntmps201
 go_wp2_with fail
 rw[E1.out,E2.out]
 refine HC.out.mono ?_
 rintro e w' ⟨v,rfl,hv,hb⟩
 go_wp2
 go_ret
 exact ⟨v,rfl,hv,((Below.refl _ _).alloc (Nat.le_refl _) _).trans (hb.mono (by simp))⟩
theorem nat_Of (w:World) (x:Nat) (hx:x<18446744073709551616) :
 Calls Tryz.prog 201 #[.int .u64 x] w (Gives (fun v w'=>NatAt w' v x) w):=
 (nat_Ofp w x hx).mono fun _ _ h=>h.mono fun _ _=>NatPtr.at_
set_option maxHeartbeats 1000000 in
theorem nat_Cmp (w:World) (u v:Value) (a b:Nat) (ha:NatAt w u a) (hb:NatAt w v b) (hal:(dgs a).length≤1000000000000) (hbl:(dgs b).length≤1000000000000) :
 Calls Tryz.prog 165 #[u,v] w (Rets (.int .i64 (cmpI a b)) w):=by
 have ca:=nat_digits w u a ha
 have cb:=nat_digits w v b hb
 have CA:=Lib.hid ca;clear ca
 have CB:=Lib.hid cb;clear cb
 obtain ⟨r,hr⟩:∃ r,r=cmpI a b:=⟨_,rfl⟩
 rw[← hr]
 have HR:=Lib.hid hr;clear hr
 have va:val 4294967296 (dgs a)=a:=val_digs (by omega) a
 have vb:val 4294967296 (dgs b)=b:=val_digs (by omega) b
 have VA:=Lib.hid va;have VB:=Lib.hid vb;clear va vb
 have da:dig 4294967296 (dgs a):=digs_dig (by omega) a
 have db:dig 4294967296 (dgs b):=digs_dig (by omega) b
 go_enter Tryz.func165,Tryz.ntmps165
 go_wp2_with fail
 refine CA.out.mono ?_
 rintro e w' ⟨A,c,rfl,hA,rfl⟩
 go_wp2_with fail
 refine CB.out.mono ?_
 rintro e w' ⟨A',c',rfl,hB,rfl⟩
 generalize dgs a=la at *
 generalize dgs b=lb at *
 go_wp2_with fail
 all_goals
  go_loop [7] (fun t=>∃ j:Nat,t=.int .i64 ((j:Int) - 1)∧j≤1000000000000∧Hid (val 4294967296 (la.drop j)=val 4294967296 (lb.drop j))) (fun t=>(intOf t+1).toNat)
  case atStart=>first
   | exact ⟨lb.length,rfl,hbl,by rw[List.drop_of_length_le (by omega),List.drop_of_length_le (Nat.le_refl _)];rfl⟩
   | exact ⟨la.length,rfl,hal,by rw[List.drop_of_length_le (Nat.le_refl _),List.drop_of_length_le (by omega)];rfl⟩
  case round=>
   obtain ⟨j,rfl,hj,hd⟩:=hrel
   rcases Nat.eq_zero_or_pos j with h0|h0
   ·subst h0
    go_wp2
    go_ret
    refine ⟨ret_int ?_,rfl⟩
    rw[HR.out]
    have e:=hd.out
    simp only[List.drop_zero]at e
    rw[VA.out,VB.out]at e
    exact (cmpI_eq e).symm
   ·obtain ⟨k,rfl⟩:∃ k,j=k+1:=⟨j - 1,by omega⟩
    have c1:=nat_at w _ la k hA da (by omega) (by omega)
    have c2:=nat_at w _ lb k hB db (by omega) (by omega)
    have C1:=Lib.hid c1;have C2:=Lib.hid c2;clear c1 c2
    have hs1:Hid (val 4294967296 (la.drop k)=la.getD k 0+4294967296*val 4294967296 (la.drop (k+1))):=val_drop_step _ la k
    have hs2:Hid (val 4294967296 (lb.drop k)=lb.getD k 0+4294967296*val 4294967296 (lb.drop (k+1))):=val_drop_step _ lb k
    have hl1:Hid (la.getD k 0<lb.getD k 0→a<b):=fun h=>by
     have:=lt_of_digit (by omega) da k hd.out h
     rwa [VA.out,VB.out]at this
    have hl2:Hid (lb.getD k 0<la.getD k 0→b<a):=fun h=>by
     have:=lt_of_digit (by omega) db k hd.out.symm h
     rwa [VA.out,VB.out]at this
    generalize la.getD k 0=x at *
    generalize lb.getD k 0=y at *
    go_wp2_with fail
    refine C1.out.mono ?_
    rintro e w' ⟨rfl,rfl⟩
    go_wp2_with fail
    refine C2.out.mono ?_
    rintro e w' ⟨rfl,rfl⟩
    rcases Nat.lt_trichotomy x y with hxy|hxy|hxy
    ·have b1:(((x:Nat):Int) != ((y:Nat):Int))=true:=by rw[bne_iff_ne];omega
     go_wp2
     go_ret
     exact ⟨ret_int (by rw[HR.out,cmpI_lt (hl1.out hxy)]),rfl⟩
    ·subst hxy
     go_wp2
     go_round
     case rel=>exact ⟨k,by go_num,by omega,by rw[hs1.out,hs2.out,hd.out];exact rfl⟩
     case measure=>simp[intOf]
    ·have b1:(((x:Nat):Int) != ((y:Nat):Int))=true:=by rw[bne_iff_ne];omega
     go_wp2
     go_ret
     exact ⟨ret_int (by rw[HR.out,cmpI_gt (hl2.out hxy)]),rfl⟩
theorem word_small {a:Nat}(h:(dgs a).length≤2):a<18446744073709551616:=by
 have h1:=lt_pow_digs_length (B:=4294967296) (by omega) a
 have h2:4294967296 ^ (dgs a).length≤4294967296 ^ 2:=Nat.pow_le_pow_right (by omega) h
 exact Nat.lt_of_lt_of_le h1 h2
theorem word_big {a:Nat}(h:2<(dgs a).length):18446744073709551616≤a:=pow_le_of_digs_length (B:=4294967296) (k:=2) (by omega) h
theorem or_zero (x:Nat) (h:x<18446744073709551616):bits .or .u64 0 ((x:Nat):Int)=((x:Nat):Int):=by
 have:=u64_or_nat 0 x (by omega) h
 rw[Nat.zero_or]at this;exact this
theorem or_up (x y:Nat) (hx:x<4294967296) (hy:y<4294967296):bits .or .u64 ((x:Nat):Int) (((y:Nat):Int)*4294967296)=((x+4294967296*y:Nat):Int):=by
 rw[mul_half,u64_or_nat _ _ (by omega) (by omega),Nat.or_comm,nat_join 32 _ _ (Nat.mul_mod_left _ _) hx]
 congr 1;omega
set_option maxRecDepth 100000 in
set_option maxHeartbeats 1000000 in
theorem nat_Word (w:World) (v:Value) (a:Nat) (ha:NatAt w v a) (hal:(dgs a).length≤1000000000000) :
 Calls Tryz.prog 293 #[v] w (Rets (.tuple #[.int .u64 ((if a<18446744073709551616 then a else 0:Nat):Int),.bool (decide (a<18446744073709551616))]) w):=by
 have ca:=nat_digits w v a ha
 have CA:=Lib.hid ca;clear ca
 have va:val 4294967296 (dgs a)=a:=val_digs (by omega) a
 have da:dig 4294967296 (dgs a):=digs_dig (by omega) a
 by_cases hl:2<(dgs a).length
 ·have hb:=word_big hl
  rw[if_neg (by omega),decide_eq_false (by omega)]
  clear hb va da
  go_enter Tryz.func293,Tryz.ntmps293
  go_wp2_with fail
  refine CA.out.mono ?_
  rintro e w' ⟨A,c,rfl,hA,rfl⟩
  generalize dgs a=la at *
  go_wp2
  go_ret2
  exact ⟨rfl,rfl⟩
 ·have hb:=word_small (a:=a) (by omega)
  rw[if_pos hb,decide_eq_true hb]
  obtain ⟨r,hr⟩:∃ r,r=a:=⟨_,rfl⟩
  rw[← hr]
  have HR:=Lib.hid hr;clear hr
  have VA:=Lib.hid va
  have DA:=Lib.hid da
  clear hb va da
  go_enter Tryz.func293,Tryz.ntmps293
  go_wp2_with fail
  refine CA.out.mono ?_
  rintro e w' ⟨A,c,rfl,hA,rfl⟩
  generalize dgs a=la at *
  obtain ⟨A',c',hv,_,hcell⟩:=hA
  injection hv with h1 h2 h3
  subst h1;subst h3
  match la,hl,VA,DA,hcell with
  | [],_,VA,_,_=>
    have h0:r=0:=HR.out.trans VA.out.symm
    subst h0
    clear HR
    go_wp2
    go_loop [4,15] (fun x t=>x=.int .u64 0∧t=.int .i64 0) (fun _ _=>0)
    case atStart=>exact ⟨rfl,rfl⟩
    case round=>
     obtain ⟨rfl,rfl⟩:=hrel
     go_wp2
     go_ret2
     exact ⟨rfl,rfl⟩
  | [p],_,VA,DA,hcell=>
    have h0:r=p:=by have:=VA.out;rw[HR.out,← this];simp[val]
    clear HR
    obtain rfl:p=r:=h0.symm
    obtain ⟨b,o,rfl,hc0⟩:=hcell 0 (by simp)
    have hp:p<4294967296:=DA.out p (by simp)
    have e1:=or_zero p (by omega)
    have hp':((p:Nat):Int)<4294967296:=by omega
    simp only[List.getD_cons_zero,Nat.add_zero]at hc0
    clear hcell hp
    go_wp2
    go_loop [4,15] (fun x t=>(x=.int .u64 0∧t=.int .i64 0)∨(x=.int .u64 p∧t=.int .i64 1)) (fun _ t=>1 - (intOf t).toNat)
    case atStart=>exact .inl ⟨rfl,rfl⟩
    case round=>
     rcases hrel with ⟨rfl,rfl⟩|⟨rfl,rfl⟩
     ·go_wp2
      go_round
      case rel=>exact .inr ⟨rfl,rfl⟩
      case measure=>simp[intOf]
     ·go_wp2
      go_ret2
      exact ⟨rfl,rfl⟩
  | [p,q],_,VA,DA,hcell=>
    have hr:r=p+4294967296*q:=by have:=VA.out;rw[HR.out,← this];simp[val]
    obtain ⟨b,o,rfl,hc0⟩:=hcell 0 (by simp)
    obtain ⟨b',o',hbo,hc1⟩:=hcell 1 (by simp)
    injection hbo with hbo
    injection hbo with hb1 hb2
    subst hb1;subst hb2
    have hp:p<4294967296:=DA.out p (by simp)
    have hq:q<4294967296:=DA.out q (by simp)
    have e1:=or_zero p (by omega)
    have e2:=or_up p q hp hq
    have hp':((p:Nat):Int)<4294967296:=by omega
    have hq':((q:Nat):Int)<4294967296:=by omega
    simp only[List.getD_cons_zero,List.getD_cons_succ,Nat.add_zero]at hc0 hc1
    rw[← hr]at e2
    clear hcell hp hq hr HR
    go_wp2
    go_loop [4,15] (fun x t=>(x=.int .u64 0∧t=.int .i64 0)∨(x=.int .u64 p∧t=.int .i64 1)∨(x=.int .u64 r∧t=.int .i64 2)) (fun _ t=>2 - (intOf t).toNat)
    case atStart=>exact .inl ⟨rfl,rfl⟩
    case round=>
     rcases hrel with ⟨rfl,rfl⟩|⟨rfl,rfl⟩|⟨rfl,rfl⟩
     ·go_wp2
      go_round
      case rel=>exact .inr (.inl ⟨rfl,rfl⟩)
      case measure=>simp[intOf]
     ·go_wp2
      go_round
      case rel=>exact .inr (.inr ⟨rfl,rfl⟩)
      case measure=>simp[intOf]
     ·go_wp2
      go_ret2
      exact ⟨rfl,rfl⟩
  | p :: q :: r :: l,hl,_,_,_=>exact absurd (by simp) hl
end Go.Proofs.YtbdfhnelmojbpaaGreatDoor
end
section
namespace Go.Proofs.YtbdfhnelmojbpaaGreatDoor
open Go.RowKit Vic
theorem info_u32:(Tryz.prog.info? 291).map (fun i=>(i.zero,i.size,i.bytes))=some (some (.int .u32 0),1,4):=by kernel_rfl
theorem made_u32 (n:Nat):madeCells #[.int .u32 0] n=vals .u32 (List.replicate n 0):=by
 apply Array.ext'
 rw[toList_madeCells_one]
 simp[vals]
theorem add_hi (x p q:Nat) (h:x≤1) (hp:p<4294967296) (hq:q<4294967296) :
 (.int .u64 (IntKind.u64.wrap ((x:Int)+IntKind.u64.wrap ((p:Int)+(q:Int))) / 4294967296):Value)=.int .u64 (((x+(p+q)) / 4294967296:Nat):Int):=by
 congr 1;rw[IntKind.wrap_u64,IntKind.wrap_u64];omega
theorem add_lo (x p q:Nat) (h:x≤1) (hp:p<4294967296) (hq:q<4294967296) :
 (IntKind.u64.wrap ((x:Int)+IntKind.u64.wrap ((p:Int)+(q:Int))) % 4294967296)=(((x+(p+q)) % 4294967296:Nat):Int):=by
 rw[IntKind.wrap_u64,IntKind.wrap_u64];omega
theorem mk_u32 (n:Nat) (N:Int) (hN:N=n) (hn:n≤10000000000000) (w:World) :
 (Instr.makeSlice 289 (.int .i64 N) (.int .i64 N)).run Tryz.prog w=.ok (.slice (some ⟨w.heap.size,0,none⟩) n n) (w.alloc (.cells (vals .u32 (List.replicate n 0)) 291)):=by
 subst hN
 rw[run_make_row' 289 291 _ 4 Tryz.underlying289 info_u32 rfl .i64 .i64 n (by omega) (by omega) w,made_u32]
set_option maxRecDepth 100000 in
set_option maxHeartbeats 2000000 in
theorem nat_AddpN (w:World) (u v:Value) (a b:Nat) (ha:NatAt w u a) (hb:NatAt w v b) (hal:(dgs a).length≤1000000000000) (hbl:(dgs b).length≤1000000000000) :
 Calls Tryz.prog 202 #[u,v] w (Gives (fun x w'=>NatPtr w' x (a+b)∧NewPtr w.heap.size x) w):=by
 have CA:=Lib.hid (nat_digits w u a ha)
 have CB:=Lib.hid (nat_digits w v b hb)
 have VA:Hid (val 4294967296 (dgs a)=a):=val_digs (by omega) a
 have VB:Hid (val 4294967296 (dgs b)=b):=val_digs (by omega) b
 have da:dig 4294967296 (dgs a):=digs_dig (by omega) a
 have db:dig 4294967296 (dgs b):=digs_dig (by omega) b
 generalize dgs a=la at *
 generalize dgs b=lb at *
 obtain ⟨n,hn⟩:∃ n,n=max la.length lb.length+1:=⟨_,rfl⟩
 have HN:=Lib.hid hn
 have hmk:∀ w,(Instr.makeSlice 289 (.int .i64 (la.length+1)) (.int .i64 (la.length+1))).run Tryz.prog w=.ok (.slice (some ⟨w.heap.size,0,none⟩) (la.length+1) (la.length+1)) (w.alloc (.cells (vals .u32 (List.replicate (la.length+1) 0)) 291)):=fun w=>mk_u32 _ _ (by omega) (by omega) w
 have hmk2:∀ w,(Instr.makeSlice 289 (.int .i64 (lb.length+1)) (.int .i64 (lb.length+1))).run Tryz.prog w=.ok (.slice (some ⟨w.heap.size,0,none⟩) (lb.length+1) (lb.length+1)) (w.alloc (.cells (vals .u32 (List.replicate (lb.length+1) 0)) 291)):=fun w=>mk_u32 _ _ (by omega) (by omega) w
 clear hn
 go_enter Tryz.func202,Tryz.ntmps202
 go_wp2_with fail
 refine CA.out.mono ?_
 rintro e w' ⟨A,c,rfl,hA,rfl⟩
 go_wp2_with fail
 refine CB.out.mono ?_
 rintro e w' ⟨A',c',rfl,hB,rfl⟩
 go_wp2_with fail
 ·have hn:=HN.out
  obtain rfl:n=lb.length+1:=by rw[hn,Nat.max_eq_right (a:=la.length) (b:=lb.length) (by omega)]
  clear hn hmk hmk2
  go_loopw [8,23] (fun s t wr=>∃ (k x:Nat) (o:List Nat),s=.int .u64 x∧t=.int .i64 k∧k≤lb.length+1∧Below w.heap.size w wr∧Row wr w.heap.size 291 (vals .u32 o)∧Hid (AddInv 4294967296 la lb o (lb.length+1) k x)) (fun _ t _=>lb.length+1 - (intOf t).toNat)
  case atStart=>exact ⟨0,0,_,rfl,rfl,by omega,(Below.refl _ _).alloc (Nat.le_refl _) _,Row.new _ _ _,AddInv.start (by omega) la lb _⟩
  case round=>
   obtain ⟨k,x,o,rfl,rfl,hk,hbl,hrow,hi⟩:=hrel
   by_cases hlt:k<lb.length+1
   ·have C1:=Lib.hid (nat_at wr _ la k (U32s.keep hA hbl) da (by omega) (by omega))
    have C2:=Lib.hid (nat_at wr _ lb k (U32s.keep hB hbl) db (by omega) (by omega))
    have hcell:=hrow.cell k
    rw[vals_get .u32 o k (by rw[hi.out.len];omega)]at hcell
    have hfree:=hrow.free k
    have hst:=hi.out.step (by omega) da db hlt
    have b1:=dig_getD da (by omega) k
    have b2:=dig_getD db (by omega) k
    have b3:=hi.out.small
    generalize la.getD k 0=p at *
    generalize lb.getD k 0=q at *
    generalize o.getD k 0=r at *
    have HS:Hid (AddInv 4294967296 la lb (o.set k ((x+(p+q)) % 4294967296)) (lb.length+1) (k+1) ((x+(p+q)) / 4294967296)):=hst
    have B1:=Lib.hid b1;have B2:=Lib.hid b2
    clear hst b1 b2
    go_wp2_with fail
    refine C1.out.mono ?_
    rintro e w' ⟨rfl,rfl⟩
    go_wp2_with fail
    refine C2.out.mono ?_
    rintro e w' ⟨rfl,rfl⟩
    go_wp2_with fail
    go_roundw
    case rel=>
     refine ⟨k+1,(x+(p+q)) / 4294967296,o.set k ((x+(p+q)) % 4294967296),?_,by go_num,by omega,hbl.setCell (Nat.le_refl _) _,?_,HS⟩
     ·rw[add_hi x p q b3 B1.out B2.out]
     ·rw[add_lo x p q b3 B1.out B2.out,← vals_set];exact hrow.set _ _
    case measure=>simp[intOf];omega
   ·obtain rfl:k=lb.length+1:=by omega
    have hd:=hi.out.done (by omega) da db (HN.out.symm)
    rw[VA.out,VB.out]at hd
    have hlen:=hi.out.len
    have hu:U32s wr (.slice (some ⟨w.heap.size,0,none⟩) (lb.length+1) (lb.length+1)) o:=by
     have:=hrow.ints (l:=o) (lb.length+1) (by omega)
     rwa [hlen]at this
    have CO:=Lib.hid (nat_ofpN wr _ o hu hi.out.dg (by omega))
    have HD:=Lib.hid hd
    clear hd hlen
    go_wp2_with fail
    refine CO.out.mono ?_
    rintro e w' ⟨z,rfl,⟨hz,hnz⟩,hbz⟩
    rw[HD.out]at hz
    go_wp2
    go_ret
    exact ⟨z,rfl,⟨hz,hnz.mono hbl.size⟩,below_seq hbl hbz⟩
 ·have hn:=HN.out
  obtain rfl:n=la.length+1:=by rw[hn,Nat.max_eq_left (a:=la.length) (b:=lb.length) (by omega)]
  clear hn hmk hmk2
  go_loopw [8,23] (fun s t wr=>∃ (k x:Nat) (o:List Nat),s=.int .u64 x∧t=.int .i64 k∧k≤la.length+1∧Below w.heap.size w wr∧Row wr w.heap.size 291 (vals .u32 o)∧Hid (AddInv 4294967296 la lb o (la.length+1) k x)) (fun _ t _=>la.length+1 - (intOf t).toNat)
  case atStart=>exact ⟨0,0,_,rfl,rfl,by omega,(Below.refl _ _).alloc (Nat.le_refl _) _,Row.new _ _ _,AddInv.start (by omega) la lb _⟩
  case round=>
   obtain ⟨k,x,o,rfl,rfl,hk,hbl,hrow,hi⟩:=hrel
   by_cases hlt:k<la.length+1
   ·have C1:=Lib.hid (nat_at wr _ la k (U32s.keep hA hbl) da (by omega) (by omega))
    have C2:=Lib.hid (nat_at wr _ lb k (U32s.keep hB hbl) db (by omega) (by omega))
    have hcell:=hrow.cell k
    rw[vals_get .u32 o k (by rw[hi.out.len];omega)]at hcell
    have hfree:=hrow.free k
    have hst:=hi.out.step (by omega) da db hlt
    have b1:=dig_getD da (by omega) k
    have b2:=dig_getD db (by omega) k
    have b3:=hi.out.small
    generalize la.getD k 0=p at *
    generalize lb.getD k 0=q at *
    generalize o.getD k 0=r at *
    have HS:Hid (AddInv 4294967296 la lb (o.set k ((x+(p+q)) % 4294967296)) (la.length+1) (k+1) ((x+(p+q)) / 4294967296)):=hst
    have B1:=Lib.hid b1;have B2:=Lib.hid b2
    clear hst b1 b2
    go_wp2_with fail
    refine C1.out.mono ?_
    rintro e w' ⟨rfl,rfl⟩
    go_wp2_with fail
    refine C2.out.mono ?_
    rintro e w' ⟨rfl,rfl⟩
    go_wp2_with fail
    go_roundw
    case rel=>
     refine ⟨k+1,(x+(p+q)) / 4294967296,o.set k ((x+(p+q)) % 4294967296),?_,by go_num,by omega,hbl.setCell (Nat.le_refl _) _,?_,HS⟩
     ·rw[add_hi x p q b3 B1.out B2.out]
     ·rw[add_lo x p q b3 B1.out B2.out,← vals_set];exact hrow.set _ _
    case measure=>simp[intOf];omega
   ·obtain rfl:k=la.length+1:=by omega
    have hd:=hi.out.done (by omega) da db (HN.out.symm)
    rw[VA.out,VB.out]at hd
    have hlen:=hi.out.len
    have hu:U32s wr (.slice (some ⟨w.heap.size,0,none⟩) (la.length+1) (la.length+1)) o:=by
     have:=hrow.ints (l:=o) (la.length+1) (by omega)
     rwa [hlen]at this
    have CO:=Lib.hid (nat_ofpN wr _ o hu hi.out.dg (by omega))
    have HD:=Lib.hid hd
    clear hd hlen
    go_wp2_with fail
    refine CO.out.mono ?_
    rintro e w' ⟨z,rfl,⟨hz,hnz⟩,hbz⟩
    rw[HD.out]at hz
    go_wp2
    go_ret
    exact ⟨z,rfl,⟨hz,hnz.mono hbl.size⟩,below_seq hbl hbz⟩
theorem nat_Addp (w:World) (u v:Value) (a b:Nat) (ha:NatAt w u a) (hb:NatAt w v b) (hal:(dgs a).length≤1000000000000) (hbl:(dgs b).length≤1000000000000) :
 Calls Tryz.prog 202 #[u,v] w (Gives (fun x w'=>NatPtr w' x (a+b)) w):=
 (nat_AddpN w u v a b ha hb hal hbl).mono fun _ _ h=>h.mono fun _ _ h=>h.1
theorem nat_Add (w:World) (u v:Value) (a b:Nat) (ha:NatAt w u a) (hb:NatAt w v b) (hal:(dgs a).length≤1000000000000) (hbl:(dgs b).length≤1000000000000) :
 Calls Tryz.prog 202 #[u,v] w (Gives (fun x w'=>NatAt w' x (a+b)) w):=
 (nat_Addp w u v a b ha hb hal hbl).mono fun _ _ h=>h.mono fun _ _=>NatPtr.at_
theorem less_sum (x:Int) (p q:Nat) (h:x=0∨x=-1) (hp:p<4294967296) (hq:q<4294967296) :
 wrap64 (x+wrap64 (wrap64 (p:Int) - wrap64 (q:Int)))=x+((p:Int) - (q:Int)):=by
 unfold wrap64;omega
theorem less_lo (y:Int):y % 4294967296=(((y % ((4294967296:Nat):Int)).toNat:Nat):Int):=by omega
theorem cmpI_nonneg {a b:Nat}(h:b≤a):0≤cmpI a b:=by
 unfold cmpI
 rw[if_neg (by omega)]
 split<;>omega
def GivesOk (Q:Value→World→Prop) (w:World) (e:Ending) (w':World):Prop:=∃ x,e=.returned (.tuple #[x,.bool true])∧Q x w'∧Below w.heap.size w w'
theorem nat_Less_no (w:World) (u v:Value) (a b:Nat) (ha:NatAt w u a) (hb:NatAt w v b) (hal:(dgs a).length≤1000000000000) (hbl:(dgs b).length≤1000000000000) (h:a<b) :
 Calls Tryz.prog 231 #[u,v] w (Rets (.tuple #[.pointer none,.bool false]) w):=by
 have cc:=nat_Cmp w u v a b ha hb hal hbl
 rw[cmpI_lt h]at cc
 have CC:=Lib.hid cc
 clear cc hal hbl h
 go_enter Tryz.func231,Tryz.ntmps231
 go_wp2_with fail
 refine CC.out.mono ?_
 rintro e w' ⟨rfl,rfl⟩
 go_wp2
 go_ret2
 exact ⟨rfl,rfl⟩
set_option maxRecDepth 100000 in
set_option maxHeartbeats 2000000 in
theorem nat_Less_yes (w:World) (u v:Value) (a b:Nat) (ha:NatAt w u a) (hb:NatAt w v b) (hal:(dgs a).length≤1000000000000) (hbl:(dgs b).length≤1000000000000) (h:b≤a) :
 Calls Tryz.prog 231 #[u,v] w (GivesOk (fun x w'=>NatAt w' x (a - b)) w):=by
 obtain ⟨s0,hs0,CC⟩:∃ s0:Int,0≤s0∧Hid (Calls Tryz.prog 165 #[u,v] w (Rets (.int .i64 s0) w)):=
  ⟨cmpI a b,cmpI_nonneg h,nat_Cmp w u v a b ha hb hal hbl⟩
 have CA:=Lib.hid (nat_digits w u a ha)
 have CB:=Lib.hid (nat_digits w v b hb)
 have VA:Hid (val 4294967296 (dgs a)=a):=val_digs (by omega) a
 have VB:Hid (val 4294967296 (dgs b)=b):=val_digs (by omega) b
 have da:dig 4294967296 (dgs a):=digs_dig (by omega) a
 have db:dig 4294967296 (dgs b):=digs_dig (by omega) b
 have hll:(dgs b).length≤(dgs a).length:=digs_length_mono (by omega) h
 generalize dgs a=la at *
 generalize dgs b=lb at *
 have hmk:∀ w,(Instr.makeSlice 289 (.int .i64 la.length) (.int .i64 la.length)).run Tryz.prog w=.ok (.slice (some ⟨w.heap.size,0,none⟩) la.length la.length) (w.alloc (.cells (vals .u32 (List.replicate la.length 0)) 291)):=fun w=>mk_u32 _ _ rfl (by omega) w
 have H:=Lib.hid h
 clear h
 go_enter Tryz.func231,Tryz.ntmps231
 go_wp2_with fail
 refine CC.out.mono ?_
 rintro e w' ⟨rfl,rfl⟩
 go_wp2_with fail
 refine CA.out.mono ?_
 rintro e w' ⟨A,c,rfl,hA,rfl⟩
 go_wp2_with fail
 refine CB.out.mono ?_
 rintro e w' ⟨A',c',rfl,hB,rfl⟩
 go_wp2_with fail
 clear hmk
 go_loopw [9,24] (fun s t wr=>∃ (k:Nat) (x:Int) (o:List Nat),s=.int .i64 x∧t=.int .i64 k∧k≤la.length∧Below w.heap.size w wr∧Row wr w.heap.size 291 (vals .u32 o)∧Hid (LessInv 4294967296 la lb o la.length k x)) (fun _ t _=>la.length - (intOf t).toNat)
 case atStart=>exact ⟨0,0,_,rfl,rfl,by omega,(Below.refl _ _).alloc (Nat.le_refl _) _,Row.new _ _ _,LessInv.start (by omega) la lb _⟩
 case round=>
  obtain ⟨k,x,o,rfl,rfl,hk,hbl,hrow,hi⟩:=hrel
  by_cases hlt:k<la.length
  ·have C1:=Lib.hid (nat_at wr _ la k (U32s.keep hA hbl) da (by omega) (by omega))
   have C2:=Lib.hid (nat_at wr _ lb k (U32s.keep hB hbl) db (by omega) (by omega))
   have hcell:=hrow.cell k
   rw[vals_get .u32 o k (by rw[hi.out.len];omega)]at hcell
   have hfree:=hrow.free k
   have hst:=hi.out.step (by omega) da db hlt
   have b1:=dig_getD da (by omega) k
   have b2:=dig_getD db (by omega) k
   have b3:=hi.out.small
   generalize la.getD k 0=p at *
   generalize lb.getD k 0=q at *
   generalize o.getD k 0=r at *
   have HS:Hid (LessInv 4294967296 la lb (o.set k ((x+((p:Int) - (q:Int))) % ((4294967296:Nat):Int)).toNat) la.length (k+1) ((x+((p:Int) - (q:Int))) / ((4294967296:Nat):Int))):=hst
   have B1:=Lib.hid b1;have B2:=Lib.hid b2;have B3:=Lib.hid b3
   clear hst b1 b2 b3
   go_wp2_with fail
   refine C1.out.mono ?_
   rintro e w' ⟨rfl,rfl⟩
   go_wp2_with fail
   refine C2.out.mono ?_
   rintro e w' ⟨rfl,rfl⟩
   go_wp2_with fail
   go_roundw
   case rel=>
    refine ⟨k+1,(x+((p:Int) - (q:Int))) / ((4294967296:Nat):Int),o.set k ((x+((p:Int) - (q:Int))) % ((4294967296:Nat):Int)).toNat,?_,by go_num,by omega,hbl.setCell (Nat.le_refl _) _,?_,HS⟩
    ·rw[less_sum x p q B3.out B1.out B2.out];rfl
    ·rw[less_sum x p q B3.out B1.out B2.out,less_lo,← vals_set];exact hrow.set _ _
   case measure=>simp[intOf];omega
  ·obtain rfl:k=la.length:=by omega
   have hd:=hi.out.done (by omega) da db (by rw[VA.out,VB.out];exact H.out) hll
   rw[VA.out,VB.out]at hd
   have hlen:=hi.out.len
   have hu:U32s wr (.slice (some ⟨w.heap.size,0,none⟩) la.length la.length) o:=by
    have:=hrow.ints (l:=o) la.length (by omega)
    rwa [hlen]at this
   have CO:=Lib.hid (nat_of wr _ o hu hi.out.dg (by omega))
   have HD:=Lib.hid hd
   clear hd hlen
   go_wp2_with fail
   refine CO.out.mono ?_
   rintro e w' ⟨z,rfl,hz,hbz⟩
   rw[HD.out]at hz
   go_wp2
   go_ret2
   exact ⟨z,rfl,hz,below_seq hbl hbz⟩
end Go.Proofs.YtbdfhnelmojbpaaGreatDoor
end
