/- Plain arithmetic of lists of digits, the lowest first: no program in sight. -/
import Derived.WalkKit
import Derived.Lib.Hide
import Derived.Deep.Draws
import Derived.Maps.AppendAt
import Derived.Deep.RegionLaw
import Derived.Lib.Strings
import Derived.Lib.IndexMore
import Derived.Lib.TrimByte
import Derived.Lib.FieldsP
import Derived.Laws.RangeString
set_option linter.unusedVariables false
set_option linter.unusedSimpArgs false
section
namespace Vic
theorem getD_app_left (a b:List Nat) (i:Nat) (h:i<a.length):(a ++ b).getD i 0=a.getD i 0:=by
 simp only[List.getD_eq_getElem?_getD,List.getElem?_append_left h]
theorem getD_app_right (a b:List Nat) (i:Nat) (h:a.length≤i):(a ++ b).getD i 0=b.getD (i - a.length) 0:=by
 simp only[List.getD_eq_getElem?_getD,List.getElem?_append_right h]
def val (B:Nat):List Nat→Nat
 | []=>0
 | d :: ds=>d+B*val B ds
theorem val_nil (B:Nat):val B []=0:=rfl
theorem val_cons (B d:Nat) (ds:List Nat):val B (d :: ds)=d+B*val B ds:=rfl
theorem val_append (B:Nat) (a b:List Nat):val B (a ++ b)=val B a+B ^ a.length*val B b:=by
 induction a with
 | nil=>simp[val]
 | cons d ds ih=>
   simp only[List.cons_append,val,ih,List.length_cons,Nat.pow_succ]
   rw[Nat.mul_add,← Nat.mul_assoc,Nat.mul_comm B (B ^ ds.length)]
   omega
theorem val_snoc (B:Nat) (a:List Nat) (d:Nat):val B (a ++ [d])=val B a+B ^ a.length*d:=by
 rw[val_append];simp[val]
def dig (B:Nat) (l:List Nat):Prop:=∀ d∈l,d<B
theorem dig_nil (B:Nat):dig B []:=by intro d h;cases h
theorem dig_cons {B d:Nat}{l:List Nat}:dig B (d :: l)↔d<B∧dig B l:=by simp[dig]
theorem dig_append {B:Nat}{a b:List Nat}:dig B (a ++ b)↔dig B a∧dig B b:=by
 simp only[dig,List.mem_append]
 exact ⟨fun h=>⟨fun d hd=>h d (.inl hd),fun d hd=>h d (.inr hd)⟩,fun h d hd=>hd.elim (h.1 d) (h.2 d)⟩
theorem dig_take {B:Nat}{l:List Nat}(h:dig B l) (k:Nat):dig B (l.take k):=fun d hd=>h d (List.mem_of_mem_take hd)
theorem dig_drop {B:Nat}{l:List Nat}(h:dig B l) (k:Nat):dig B (l.drop k):=fun d hd=>h d (List.mem_of_mem_drop hd)
theorem dig_getD {B:Nat}{l:List Nat}(h:dig B l) (hB:0<B) (i:Nat):l.getD i 0<B:=by
 rw[List.getD_eq_getElem?_getD]
 cases hi:l[i]? with
 | none=>simpa using hB
 | some d=>simpa using h d (List.mem_of_getElem? hi)
theorem val_lt {B:Nat}(hB:0<B) {l:List Nat}(h:dig B l):val B l<B ^ l.length:=by
 induction l with
 | nil=>simp[val]
 | cons d ds ih=>
   obtain ⟨h1,h2⟩:=dig_cons.1 h
   have:=ih h2
   simp only[val,List.length_cons,Nat.pow_succ]
   have h3:B*(val B ds+1)≤B*B ^ ds.length:=Nat.mul_le_mul_left _ this
   rw[Nat.mul_add]at h3
   rw[Nat.mul_comm (B ^ ds.length) B]
   omega
def digs (B:Nat) (n:Nat):List Nat:=
 if h:n=0∨B≤1 then []else n % B :: digs B (n / B)
termination_by n
decreasing_by
 simp only[not_or]at h
 exact Nat.div_lt_self (Nat.pos_of_ne_zero h.1) (by omega)
theorem digs_zero (B:Nat):digs B 0 = []:=by unfold digs;simp
theorem digs_pos {B n:Nat}(hB:1<B) (hn:n≠0):digs B n=n % B :: digs B (n / B):=by
 rw[digs];rw[dif_neg (by omega)]
theorem digs_dig {B:Nat}(hB:1<B) (n:Nat):dig B (digs B n):=by
 induction n using Nat.strongRecOn with
 | _ n ih=>
   by_cases hn:n=0
   ·subst hn;rw[digs_zero];exact dig_nil B
   ·rw[digs_pos hB hn,dig_cons]
    exact ⟨Nat.mod_lt _ (by omega),ih _ (Nat.div_lt_self (by omega) hB)⟩
theorem val_digs {B:Nat}(hB:1<B) (n:Nat):val B (digs B n)=n:=by
 induction n using Nat.strongRecOn with
 | _ n ih=>
   by_cases hn:n=0
   ·subst hn;rw[digs_zero];rfl
   ·rw[digs_pos hB hn,val_cons,ih _ (Nat.div_lt_self (by omega) hB)]
    have:=Nat.div_add_mod n B
    omega
theorem digs_eq_nil {B n:Nat}(hB:1<B):digs B n = []↔n=0:=by
 constructor
 ·intro h;have:=val_digs hB n;rw[h]at this;simpa [val]using this.symm
 ·rintro rfl;exact digs_zero B
def norm (l:List Nat):Prop:=l.getLast?≠some 0
theorem norm_nil:norm []:=by simp[norm]
theorem norm_cons {d:Nat}{l:List Nat}(h:l≠[]):norm (d :: l)↔norm l:=by
 unfold norm
 rw[List.getLast?_cons]
 cases hl:l.getLast? with
 | none=>simp[List.getLast?_eq_none_iff]at hl;exact absurd hl h
 | some x=>simp
theorem digs_norm {B:Nat}(hB:1<B) (n:Nat):norm (digs B n):=by
 induction n using Nat.strongRecOn with
 | _ n ih=>
   by_cases hn:n=0
   ·subst hn;rw[digs_zero];exact norm_nil
   ·rw[digs_pos hB hn]
    by_cases h0:n / B=0
    ·rw[h0,digs_zero]
     have:n % B=n:=Nat.mod_eq_of_lt (by
      rcases Nat.lt_or_ge n B with h|h
      ·exact h
      ·have:=Nat.div_pos h (by omega);omega)
     simp[norm,this,hn]
    ·rw[norm_cons (by rw[Ne,digs_eq_nil hB];exact h0)]
     exact ih _ (Nat.div_lt_self (by omega) hB)
theorem digs_val {B:Nat}(hB:1<B) {l:List Nat}(hd:dig B l) (hn:norm l):digs B (val B l)=l:=by
 induction l with
 | nil=>exact digs_zero B
 | cons d ds ih=>
   obtain ⟨h1,h2⟩:=dig_cons.1 hd
   by_cases hds:ds = []
   ·subst hds
    have hd0:d≠0:=by simpa [norm]using hn
    have hv:val B [d]=d:=by simp[val]
    rw[hv,digs_pos hB hd0,Nat.mod_eq_of_lt h1,Nat.div_eq_of_lt h1,digs_zero]
   ·have hn':=(norm_cons hds).1 hn
    have ih':=ih h2 hn'
    have hne:val B (d :: ds)≠0:=by
     intro h
     simp only[val]at h
     have hz:val B ds=0:=by
      have:B*val B ds=0:=by omega
      rcases Nat.mul_eq_zero.1 this with h|h
      ·omega
      ·exact h
     rw[hz,digs_zero]at ih'
     exact hds ih'.symm
    rw[digs_pos hB hne,val_cons]
    have e1:(d+B*val B ds) % B=d:=by rw[Nat.add_mul_mod_self_left];exact Nat.mod_eq_of_lt h1
    have e2:(d+B*val B ds) / B=val B ds:=by
     rw[Nat.add_mul_div_left _ _ (by omega)];rw[Nat.div_eq_of_lt h1];omega
    rw[e1,e2,ih']
def trimd (l:List Nat):List Nat:=(l.reverse.dropWhile (· == 0)).reverse
theorem trimd_snoc_zero (l:List Nat):trimd (l ++ [0])=trimd l:=by simp[trimd,List.dropWhile]
theorem trimd_snoc {d:Nat}(l:List Nat) (h:d≠0):trimd (l ++ [d])=l ++ [d]:=by
 simp[trimd,List.dropWhile,h]
theorem trimd_of_norm {l:List Nat}(h:norm l):trimd l=l:=by
 rcases List.eq_nil_or_concat l with rfl|⟨m,d,rfl⟩
 ·rfl
 ·simp only[List.concat_eq_append]at h ⊢
  exact trimd_snoc m (by simpa [norm]using h)
theorem trimd_norm (l:List Nat):norm (trimd l):=by
 induction hl:l.length generalizing l with
 | zero=>have:l = []:=List.length_eq_zero_iff.1 hl;subst this;exact norm_nil
 | succ n ih=>
   rcases List.eq_nil_or_concat l with rfl|⟨m,d,rfl⟩
   ·exact norm_nil
   ·simp only[List.concat_eq_append]at hl ⊢
    by_cases hd:d=0
    ·subst hd;rw[trimd_snoc_zero];exact ih m (by simpa using hl)
    ·rw[trimd_snoc m hd];simpa [norm]using hd
theorem val_trimd (B:Nat) (l:List Nat):val B (trimd l)=val B l:=by
 induction hl:l.length generalizing l with
 | zero=>have:l = []:=List.length_eq_zero_iff.1 hl;subst this;rfl
 | succ n ih=>
   rcases List.eq_nil_or_concat l with rfl|⟨m,d,rfl⟩
   ·rfl
   ·simp only[List.concat_eq_append]at hl ⊢
    by_cases hd:d=0
    ·subst hd;rw[trimd_snoc_zero,val_snoc,ih m (by simpa using hl)];simp
    ·rw[trimd_snoc m hd]
theorem dig_trimd {B:Nat}{l:List Nat}(h:dig B l):dig B (trimd l):=by
 intro d hd
 unfold trimd at hd
 rw[List.mem_reverse]at hd
 exact h d (by simpa using (List.dropWhile_sublist _).subset hd)
theorem trimd_eq_digs {B:Nat}(hB:1<B) {l:List Nat}(h:dig B l):trimd l=digs B (val B l):=by
 rw[← val_trimd B l]
 exact (digs_val hB (dig_trimd h) (trimd_norm l)).symm
theorem trimd_take (l:List Nat) (k:Nat) (hk:k≤l.length) (h0:∀ i,k≤i→i<l.length→l.getD i 0=0) (hk0:k=0∨l.getD (k - 1) 0≠0) :
 trimd l=l.take k:=by
 induction hn:l.length - k generalizing l with
 | zero=>
   have hkl:k=l.length:=by omega
   rw[List.take_of_length_le (by omega)]
   refine trimd_of_norm ?_
   rcases List.eq_nil_or_concat l with rfl|⟨m,d,rfl⟩
   ·exact norm_nil
   ·simp only[List.concat_eq_append]at *
    simp only[List.length_append,List.length_cons,List.length_nil]at hkl
    subst hkl
    rcases hk0 with h|h
    ·omega
    ·simpa [norm]using h
 | succ n ih=>
   rcases List.eq_nil_or_concat l with rfl|⟨m,d,rfl⟩
   ·simp at hn
   ·simp only[List.concat_eq_append,List.length_append,List.length_cons,List.length_nil]at *
    have hd:d=0:=by
     have:=h0 m.length (by omega) (by omega)
     simpa using this
    subst hd
    have hkm:k≤m.length:=by omega
    rw[trimd_snoc_zero,List.take_append_of_le_length hkm]
    refine ih m hkm (fun i h1 h2=>?_) ?_ (by omega)
    ·have:=h0 i h1 (by omega)
     rwa [getD_app_left _ _ _ h2]at this
    ·rcases hk0 with h|h
     ·exact .inl h
     ·by_cases hk':k=0
      ·exact .inl hk'
      ·right;rwa [getD_app_left _ _ _ (by omega)]at h
theorem digs_length_le {B:Nat}(hB:1<B) {n k:Nat}(h:n<B ^ k):(digs B n).length≤k:=by
 induction k generalizing n with
 | zero=>have:n=0:=by simpa using h
         subst this;rw[digs_zero];simp
 | succ k ih=>
   by_cases hn:n=0
   ·subst hn;rw[digs_zero];simp
   ·rw[digs_pos hB hn]
    have:=ih (n:=n / B) (by
     rw[Nat.div_lt_iff_lt_mul (by omega)];rwa [Nat.pow_succ]at h)
    simp;omega
theorem lt_pow_digs_length {B:Nat}(hB:1<B) (n:Nat):n<B ^ (digs B n).length:=by
 have:=val_lt (by omega:0<B) (digs_dig hB n)
 rwa [val_digs hB]at this
theorem pow_le_of_digs_length {B:Nat}(hB:1<B) {n k:Nat}(h:k<(digs B n).length):B ^ k≤n:=by
 rcases Nat.lt_or_ge n (B ^ k)with h'|h'
 ·have:=digs_length_le hB h';omega
 ·exact h'
theorem digs_getD {B:Nat}(hB:1<B) (n i:Nat):(digs B n).getD i 0=n / B ^ i % B:=by
 induction i generalizing n with
 | zero=>
   by_cases hn:n=0
   ·subst hn;simp[digs_zero]
   ·rw[digs_pos hB hn];simp
 | succ i ih=>
   by_cases hn:n=0
   ·subst hn;simp[digs_zero]
   ·rw[digs_pos hB hn,List.getD_cons_succ,ih,Nat.pow_succ,Nat.mul_comm,Nat.div_div_eq_div_mul]
theorem val_drop (B:Nat) (hB:0<B) (l:List Nat) (hd:dig B l) (k:Nat):val B (l.drop k)=val B l / B ^ k:=by
 by_cases h:k≤l.length
 ·have e:val B l=val B (l.take k)+B ^ k*val B (l.drop k):=by
   have:=val_append B (l.take k) (l.drop k)
   rw[List.take_append_drop,List.length_take,Nat.min_eq_left h]at this
   exact this
  have h2:=val_lt hB (dig_take hd k)
  rw[List.length_take,Nat.min_eq_left h]at h2
  rw[e,Nat.add_mul_div_left _ _ (Nat.pow_pos hB),Nat.div_eq_of_lt h2];omega
 ·have h1:=val_lt hB hd
  rw[List.drop_of_length_le (by omega)]
  rw[Nat.div_eq_of_lt]
  ·rfl
  ·exact Nat.lt_of_lt_of_le h1 (Nat.pow_le_pow_right hB (by omega))
end Vic
end
section
namespace Vic
open Go Go.RowKit
theorem block_lt {w:World}{b o:Nat}{v:Value}(h:w.cell? ⟨b,o,none⟩=some v):b<w.heap.size:=by
 rcases Nat.lt_or_ge b w.heap.size with h1|h1
 ·exact h1
 ·simp[World.cell?,Array.getElem?_eq_none h1]at h
theorem cell_keep {w w':World}{b o:Nat}{v:Value}(h:w.cell? ⟨b,o,none⟩=some v) (hb:Below w.heap.size w w'):w'.cell? ⟨b,o,none⟩=some v:=
 (hb.cell (p:=⟨b,o,none⟩) (block_lt h)).trans h
theorem Below.drewN_ {B:Nat}{u w:World}(h:Below B u w) (n:Nat):Below B u (w.drewN n):=⟨h.os,h.tape,h.output,h.size,h.block⟩
theorem below_seq {w a b:World}(h:Below w.heap.size w a) (k:Below a.heap.size a b):Below w.heap.size w b:=h.trans (k.mono h.size)
def Ints (k:IntKind) (w:World) (v:Value) (l:List Nat):Prop:=
 ∃ A c,v=.slice A l.length c∧l.length≤c∧(∀ i,i<l.length→∃ b o,A=some ⟨b,o,none⟩∧w.cell? ⟨b,o+i,none⟩=some (.int k ((l.getD i 0:Nat):Int)))
def U32s (w:World) (v:Value) (l:List Nat):Prop:=Ints .u32 w v l
theorem Ints.keep {k:IntKind}{w w':World}{v:Value}{l:List Nat}(h:Ints k w v l) (hb:Below w.heap.size w w'):Ints k w' v l:=by
 obtain ⟨A,c,h1,h2,h3⟩:=h
 refine ⟨A,c,h1,h2,fun i hi=>?_⟩
 obtain ⟨b,o,hA,hc⟩:=h3 i hi
 exact ⟨b,o,hA,cell_keep hc hb⟩
theorem U32s.keep {w w':World}{v:Value}{l:List Nat}(h:U32s w v l) (hb:Below w.heap.size w w'):U32s w' v l:=Ints.keep h hb
theorem Ints.nil_ (k:IntKind) (w:World):Ints k w (.slice none 0 0) []:=⟨none,0,rfl,Nat.le_refl _,fun i hi=>by simp at hi⟩
abbrev dgs (n:Nat):List Nat:=digs 4294967296 n
def NatBlk (w:World) (b:Nat):Prop:=∃ cs fr,w.heap[b]?=some (.cells cs 287 fr)
theorem NatBlk.same {w w':World}{b:Nat}(h:NatBlk w b) (hs:w'.heap[b]?=w.heap[b]?):NatBlk w' b:=by
 obtain ⟨cs,fr,h⟩:=h;exact ⟨cs,fr,hs.trans h⟩
theorem NatBlk.lt {w:World}{b:Nat}(h:NatBlk w b):b<w.heap.size:=by
 obtain ⟨cs,fr,h⟩:=h
 rcases Nat.lt_or_ge b w.heap.size with h1|h1
 ·exact h1
 ·rw[Array.getElem?_eq_none h1]at h;cases h
theorem NatBlk.keep {w w':World}{b:Nat}(h:NatBlk w b) (hb:Below w.heap.size w w'):NatBlk w' b:=h.same (hb.block b h.lt)
def NatAt (w:World) (v:Value) (n:Nat):Prop:=
 (v=.pointer none∧n=0)∨∃ b s,v=.pointer (some ⟨b,0,none⟩)∧w.cell? ⟨b,0,none⟩=some s∧U32s w s (digs 4294967296 n)∧NatBlk w b
def NatPtr (w:World) (v:Value) (n:Nat):Prop:=
 ∃ b s,v=.pointer (some ⟨b,0,none⟩)∧w.cell? ⟨b,0,none⟩=some s∧U32s w s (digs 4294967296 n)∧NatBlk w b
theorem NatPtr.at_ {w:World}{v:Value}{n:Nat}(h:NatPtr w v n):NatAt w v n:=.inr h
theorem NatPtr.keep {w w':World}{v:Value}{n:Nat}(h:NatPtr w v n) (hb:Below w.heap.size w w'):NatPtr w' v n:=by
 obtain ⟨b,s,h1,h2,h3,h4⟩:=h
 exact ⟨b,s,h1,cell_keep h2 hb,h3.keep hb,h4.keep hb⟩
theorem NatPtr.open_ {w:World}{v:Value}{n:Nat}(h:NatPtr w v n) :
 ∃ b A c,v=.pointer (some ⟨b,0,none⟩)∧w.cell? ⟨b,0,none⟩=some (.slice A (dgs n).length c)∧U32s w (.slice A (dgs n).length c) (dgs n):=by
 obtain ⟨b,s,h1,h2,⟨A,c,rfl,h4,h5⟩,_⟩:=h
 exact ⟨b,A,c,h1,h2,⟨A,c,rfl,h4,h5⟩⟩
def NewPtr (B:Nat) (v:Value):Prop:=∃ b,v=.pointer (some ⟨b,0,none⟩)∧B≤b
theorem NewPtr.mono {B C:Nat}{v:Value}(h:NewPtr B v) (hc:C≤B):NewPtr C v:=by
 obtain ⟨b,h1,h2⟩:=h;exact ⟨b,h1,Nat.le_trans hc h2⟩
theorem NatAt.ptr {w:World}{v:Value}{n:Nat}(h:NatAt w v n) (h0:n≠0):NatPtr w v n:=by
 rcases h with ⟨_,h⟩|h
 ·exact absurd h h0
 ·exact h
theorem NatAt.keep {w w':World}{v:Value}{n:Nat}(h:NatAt w v n) (hb:Below w.heap.size w w'):NatAt w' v n:=by
 rcases h with h|⟨b,s,h1,h2,h3,h4⟩
 ·exact .inl h
 ·exact .inr ⟨b,s,h1,cell_keep h2 hb,h3.keep hb,h4.keep hb⟩
def Row (w:World) (b:Nat) (t:TypeId) (cs:Array Value):Prop:=w.heap[b]?=some (.cells cs t (0,0))
theorem Row.lt {w:World}{b:Nat}{t:TypeId}{cs:Array Value}(h:Row w b t cs):b<w.heap.size:=by
 rcases Nat.lt_or_ge b w.heap.size with h1|h1
 ·exact h1
 ·unfold Row at h;rw[Array.getElem?_eq_none h1]at h;cases h
theorem Row.cell {w:World}{b:Nat}{t:TypeId}{cs:Array Value}(h:Row w b t cs) (i:Nat):w.cell? ⟨b,i,none⟩=cs[i]?:=by
 unfold Row at h;simp[World.cell?,h]
theorem Row.free {w:World}{b:Nat}{t:TypeId}{cs:Array Value}(h:Row w b t cs) (i:Nat):w.frozen? ⟨b,i,none⟩=false:=by
 unfold Row at h;simp[World.frozen?,h]
theorem Row.new (w:World) (t:TypeId) (cs:Array Value):Row (w.alloc (.cells cs t)) w.heap.size t cs:=by
 show (w.heap.push _)[w.heap.size]?=_
 simp
theorem Row.set {w:World}{b:Nat}{t:TypeId}{cs:Array Value}(h:Row w b t cs) (i:Nat) (u:Value):Row (w.setCell ⟨b,i,none⟩ u) b t (cs.setIfInBounds i u):=by
 unfold Row at h ⊢
 simp[World.setCell,Array.getElem?_modify,h]
theorem Row.far {w:World}{b:Nat}{t:TypeId}{cs:Array Value}(h:Row w b t cs) {p:Addr}(hp:b≠p.block) (u:Value):Row (w.setCell p u) b t cs:=
 (Below.heap_setCell w p u b hp).trans h
theorem Row.alloc {w:World}{b:Nat}{t:TypeId}{cs:Array Value}(h:Row w b t cs) (o:Obj):Row (w.alloc o) b t cs:=(Below.heap_alloc w o b h.lt).trans h
theorem Row.keep {w w':World}{b:Nat}{t:TypeId}{cs:Array Value}(h:Row w b t cs) (hb:Below w.heap.size w w'):Row w' b t cs:=(hb.block b h.lt).trans h
def vals (k:IntKind) (l:List Nat):Array Value:=(l.map fun (d:Nat)=>Value.int k (d:Int)).toArray
theorem vals_size (k:IntKind) (l:List Nat):(vals k l).size=l.length:=by simp[vals]
theorem vals_get (k:IntKind) (l:List Nat) (i:Nat) (h:i<l.length):(vals k l)[i]?=some (.int k ((l.getD i 0:Nat):Int)):=by
 simp[vals,h,List.getD_eq_getElem?_getD]
theorem vals_set (k:IntKind) (l:List Nat) (i:Nat) (d:Nat):(vals k l).setIfInBounds i (.int k (d:Int))=vals k (l.set i d):=by
 simp[vals,List.map_set]
theorem Row.ints {k:IntKind}{w:World}{b:Nat}{t:TypeId}{l:List Nat}(h:Row w b t (vals k l)) (c:Nat) (hc:l.length≤c):Ints k w (.slice (some ⟨b,0,none⟩) l.length c) l:=
 ⟨_,c,rfl,hc,fun i hi=>⟨b,0,rfl,by rw[Nat.zero_add,h.cell,vals_get k l i hi]⟩⟩
def Rets (v:Value) (w:World) (e:Ending) (w':World):Prop:=e=.returned v∧w=w'
def Keeps (v:Value) (w:World) (e:Ending) (w':World):Prop:=e=.returned v∧Below w.heap.size w w'
def Gives (Q:Value→World→Prop) (w:World) (e:Ending) (w':World):Prop:=∃ x,e=.returned x∧Q x w'∧Below w.heap.size w w'
theorem Gives.mono {Q R:Value→World→Prop}{w w':World}{e:Ending}(h:Gives Q w e w') (k:∀ x w,Q x w→R x w):Gives R w e w':=by
 obtain ⟨x,h1,h2,h3⟩:=h
 exact ⟨x,h1,k x w' h2,h3⟩
theorem Rets.mk {v:Value}{w:World}{e:Ending}(h:e=.returned v):Rets v w e w:=⟨h,rfl⟩
theorem ret_int {k:IntKind}{a b:Int}(h:a=b):Ending.returned (.int k a)=.returned (.int k b):=by rw[h]
theorem ret_bool {a b:Bool}(h:a=b):Ending.returned (.bool a)=.returned (.bool b):=by rw[h]
theorem shl_val (x n:Nat):IntKind.u64.wrap (((x:Nat):Int)*2 ^ n)=((x*2 ^ n % 18446744073709551616:Nat):Int):=by
 have e:((x:Nat):Int)*2 ^ n=((x*2 ^ n:Nat):Int):=by simp
 rw[e,IntKind.wrap_u64]
 exact (Int.natCast_emod _ _).symm
theorem shr_val (x n:Nat):((x:Nat):Int) / 2 ^ n=((x / 2 ^ n:Nat):Int):=by simp
theorem wrap64_nat (n:Nat):IntKind.u64.wrap ((n:Nat):Int)=((n % 18446744073709551616:Nat):Int):=by
 rw[IntKind.wrap_u64];omega
theorem div_half (n:Nat):((n:Nat):Int) / 4294967296=((n / 4294967296:Nat):Int):=by omega
theorem mul_half (n:Nat):((n:Nat):Int)*4294967296=((n*4294967296:Nat):Int):=by omega
theorem or_half (a b:Nat) (ha:a % 4294967296=0) (h:a<18446744073709551616) (hb:b<4294967296):bits .or .u64 ((a:Nat):Int) ((b:Nat):Int)=((a+b:Nat):Int):=by
 rw[u64_or_nat _ _ h (by omega),nat_join 32 a b (by omega) (by omega)]
end Vic
end
section
namespace Vic
open Go Go.RowKit
def OwnK (Kd:Value→Prop) (w:World) (base:Nat) (e:TypeId) (size:Nat) (v:Value) (n:Nat) (xs:List Value):Prop:=
 xs.length=n*size ∧
 ((v=.slice none 0 0∧n=0) ∨
  ∃ g cap cur,v=.slice (some ⟨g,0,none⟩) n cap∧base≤g∧w.heap[g]?=some (.cells cur e (0,0))∧n≤cap∧cap≤maxLen∧cur.size=cap*size∧cur.toList.take (n*size)=xs∧∀ u∈cur,Kd u)
theorem OwnK.own {Kd:Value→Prop}{w:World}{base:Nat}{e:TypeId}{size:Nat}{v:Value}{n:Nat}{xs:List Value}(h:OwnK Kd w base e size v n xs):w.ownsRow base e size v n xs:=by
 obtain ⟨h1,h2|⟨g,cap,cur,a1,a2,a3,a4,a5,a6,a7,_⟩⟩:=h
 ·exact ⟨h1,.inl h2⟩
 ·exact ⟨h1,.inr ⟨g,cap,cur,a1,a2,a3,a4,a5,a6,a7⟩⟩
theorem OwnK.nil_ (Kd:Value→Prop) (w:World) (base:Nat) (e:TypeId) (size:Nat):OwnK Kd w base e size (.slice none 0 0) 0 []:=⟨by simp,.inl ⟨rfl,rfl⟩⟩
theorem OwnK.stay {Kd:Value→Prop}{w w':World}{base:Nat}{e:TypeId}{size:Nat}{v:Value}{n:Nat}{xs:List Value}(h:OwnK Kd w base e size v n xs) (hs:∀ g,v.ownBlock=some g→w'.heap[g]?=w.heap[g]?):OwnK Kd w' base e size v n xs:=by
 obtain ⟨h1,h2|⟨g,cap,cur,rfl,a2,a3,a4⟩⟩:=h
 ·exact ⟨h1,.inl h2⟩
 ·exact ⟨h1,.inr ⟨g,cap,cur,rfl,a2,by rw[hs g rfl];exact a3,a4⟩⟩
theorem OwnK.lt {Kd:Value→Prop}{w:World}{base:Nat}{e:TypeId}{size:Nat}{v:Value}{n:Nat}{xs:List Value}(h:OwnK Kd w base e size v n xs) {g:Nat}(hg:v.ownBlock=some g):base≤g∧g<w.heap.size:=by
 obtain ⟨h1,⟨rfl,_⟩|⟨g',cap,cur,rfl,a2,a3,a4⟩⟩:=h
 ·cases hg
 ·injection hg with hg
  subst hg
  refine ⟨a2,?_⟩
  rcases Nat.lt_or_ge g' w.heap.size with h|h
  ·exact h
  ·rw[Array.getElem?_eq_none h]at a3;cases a3
theorem OwnK.keep {Kd:Value→Prop}{w w':World}{base:Nat}{e:TypeId}{size:Nat}{v:Value}{n:Nat}{xs:List Value}(h:OwnK Kd w base e size v n xs) (hb:Below w.heap.size w w'):OwnK Kd w' base e size v n xs:=
 h.stay fun g hg=>hb.block g (h.lt hg).2
theorem OwnK.kind {Kd:Value→Prop}{w:World}{base:Nat}{e:TypeId}{size:Nat}{v:Value}{n:Nat}{xs:List Value}(h:OwnK Kd w base e size v n xs) {g:Nat}(hg:v.ownBlock=some g) {o:Nat}{u:Value}(hc:w.cell? ⟨g,o,none⟩=some u):Kd u:=by
 obtain ⟨h1,⟨rfl,_⟩|⟨g',cap,cur,rfl,a2,a3,a4,a5,a6,a7,a8⟩⟩:=h
 ·cases hg
 ·cases hg
  simp only[World.cell?,a3]at hc
  exact a8 u (Array.mem_of_getElem? hc)
theorem OwnK.shape {Kd:Value→Prop}{w:World}{base:Nat}{e:TypeId}{size:Nat}{v:Value}{n:Nat}{xs:List Value}(h:OwnK Kd w base e size v n xs) (h0:0<n):∃ g cap,v=.slice (some ⟨g,0,none⟩) n cap:=by
 obtain ⟨_,⟨_,h1⟩|⟨g,cap,cur,rfl,_⟩⟩:=h
 ·omega
 ·exact ⟨g,cap,rfl⟩
theorem mem_zeroCells {z:Array Value}{n:Nat}{u:Value}(h:u∈Builtin.zeroCells z n):u∈z:=by
 unfold Builtin.zeroCells at h
 obtain ⟨i,hi,rfl⟩:=Array.mem_map.1 h
 have hz:0<z.size:=by
  rcases Nat.eq_zero_or_pos z.size with h0|h0
  ·rw[h0]at hi;simp at hi
  ·exact h0
 have hlt:i % z.size<z.size:=Nat.mod_lt _ hz
 rw[getElem!_pos z (i % z.size) hlt]
 exact Array.getElem_mem hlt
theorem OwnK.append {P:Program}{Kd:Value→Prop}{w:World}{base:Nat}{t ty e:TypeId}{i:TypeInfo}{z:Value}{size:Nat}(ht:P.underlying t=some (.slice e)) (hi:P.info? e=some i) (hz:i.zero=some z)
 (hsize:i.size=size) (hzs:z.cells.size=size) (hsz:0<size)
 {v:Value}{n:Nat}{xs:List Value}(hown:OwnK Kd w base e size v n xs)
 (a:Addr) (m c:Nat) (news:List Value) (hl:news.length=m*size) (hnews:∀ j u,news[j]?=some u→w.cell? (a.add j)=some u) (h1:∀ u∈news,u.oneCell'=true)
 (hk:∀ u∈news,Kd u) (hkz:∀ u∈z.cells,Kd u) (h0:0<m)
 (h63:n+m≤maxLen) (hbytes:(n+m)*i.bytes≤140737488355328) (hbase:base≤w.heap.size) :
 ∃ v' w',(Builtin.append_ #[t,t] ty #[v,.slice (some a) m c]).run P w=.ok v' w'∧OwnK Kd w' base e size v' (n+m) (xs ++ news)∧w.grownBy w' v.ownBlock∧(v'.ownBlock=v.ownBlock∨v'.ownBlock=some w.heap.size):=by
 subst hsize
 have hsmall:n+m≤9223372036854775807:=by simp only[maxLen]at h63;omega
 have hlen:(xs ++ news).length=(n+m)*i.size:=by rw[List.length_append,hown.1,hl,Nat.add_mul]
 have grown:∀ (old:Nat),(∀ u∈xs,Kd u)→∀ (row:Option Nat),
  OwnK Kd (w.drew.alloc (.cells (xs.toArray ++ news.toArray ++ Builtin.zeroCells z.cells (grownCap w (n+m) old e - (n+m))) e)) base e i.size
   (.slice (some ⟨w.heap.size,0,none⟩) (n+m) (grownCap w (n+m) old e)) (n+m) (xs ++ news) ∧
  w.grownBy (w.drew.alloc (.cells (xs.toArray ++ news.toArray ++ Builtin.zeroCells z.cells (grownCap w (n+m) old e - (n+m))) e)) row:=by
  intro old hxs row
  have hge:=grownCap_ge w (n+m) old e
  have hcm:grownCap w (n+m) old e≤maxLen:=grownCap_le_maxLen w (n+m) old e h63
  refine ⟨⟨hlen,.inr ⟨w.heap.size,_,_,rfl,hbase,heap_alloc_new w.drew _,hge,hcm,?_,?_,?_⟩⟩,⟨rfl,rfl,rfl,by simp,fun k hk _=>Below.heap_alloc w.drew _ k hk⟩⟩
  ·simp only[Array.size_append,List.size_toArray,size_zeroCells,hzs,hown.1,hl,← Nat.add_mul]
   congr 1
   omega
  ·simp only[Array.toList_append,List.append_assoc]
   rw[← List.append_assoc,← hlen]
   exact List.take_left
  ·intro u hu
   rcases Array.mem_append.1 hu with hu|hu
   ·rcases Array.mem_append.1 hu with hu|hu
    ·exact hxs u (by simpa using hu)
    ·exact hk u (by simpa using hu)
   ·exact hkz u (mem_zeroCells hu)
 rcases hown.2 with ⟨rfl,rfl⟩|⟨g,cap,cur,rfl,hbg,hg,hnc,hcm,hcs,htake,hkd⟩
 ·have hx:xs = []:=List.eq_nil_of_length_eq_zero (by simpa using hown.1)
  subst hx
  have hr:=run_append_nil (P:=P) w t ty e i z ht hi hz a m c news hl hnews (by omega) (by omega) (by have hb:=hbytes;simp only[Nat.zero_add]at hb;omega)
  have hgr:=grown 0 (by simp) (Value.ownBlock (.slice none 0 0))
  simp only[Nat.zero_add,List.nil_append,Array.empty_append]at hgr ⊢
  exact ⟨_,_,hr,hgr.1,hgr.2,Or.inr rfl⟩
 ·have hxk:∀ u∈xs,Kd u:=fun u hu=>hkd u (by
   rw[← htake]at hu
   have:=List.mem_of_mem_take hu
   simpa using this)
  by_cases hroom:n+m≤cap
  ·have hfit:n*i.size+news.length≤cur.size:=by rw[hl,hcs,← Nat.add_mul];exact Nat.mul_le_mul_right _ hroom
   have hr:=run_append_room (P:=P) w t ty e i ht hi g n cap cur hg a m c news hl hnews h1 hroom hfit
   refine ⟨_,_,hr,⟨hlen,.inr ⟨g,cap,_,rfl,hbg,setRow_heap w g cur _ e _ hg,hroom,hcm,?_,?_,?_⟩⟩,⟨rfl,rfl,rfl,by simp,fun k _ hk=>setRow_other w g k _ (fun e=>hk (by simp[Value.ownBlock,e]))⟩,Or.inl rfl⟩
   ·simp only[List.size_toArray,List.length_append,List.length_take,List.length_drop,Array.length_toList]
    omega
   ·rw[htake,← hlen]
    show List.take (xs ++ news).length (xs ++ news ++ _)=_
    exact List.take_left
   ·intro u hu
    have hu':u∈cur.toList.take (n*i.size) ++ news ++ cur.toList.drop (n*i.size+news.length):=by simpa using hu
    rcases List.mem_append.1 hu' with hu|hu
    ·rcases List.mem_append.1 hu with hu|hu
     ·exact hkd u (by have:=List.mem_of_mem_take hu;simpa using this)
     ·exact hk u hu
    ·exact hkd u (by have:=List.mem_of_mem_drop hu;simpa using this)
  ·have holds:∀ j u,xs[j]?=some u→w.cell? ((⟨g,0,none⟩:Addr).add j)=some u:=hown.own.cells (g:=g) rfl
   have hr:=run_append_grow (P:=P) w t ty e i z ht hi hz ⟨g,0,none⟩ n cap xs hown.1 holds a m c news hl hnews (by omega) (by omega) (growslice_fits (by omega) hbytes)
   have hgr:=grown cap hxk (Value.ownBlock (.slice (some ⟨g,0,none⟩) n cap))
   exact ⟨_,_,hr,hgr.1,hgr.2,Or.inr rfl⟩
theorem wpList_append_ownK {P:Program}{Kd:Value→Prop}{ops:Array Oper}{rest:List Oper}{o:Oper}{a:Act}{w:World}{Q:Exit→Act→World→Prop}(hgd:o.guard=none) (s x:Operand) (t:TypeId)
 (ho:o.op=.call { callee:=.builtin .append,args:=#[s,x],argTypes:=#[t,t] }) (base:Nat) (e:TypeId) (i:TypeInfo) (z:Value) (size:Nat) (ht:P.underlying t=some (.slice e)) (hi:P.info? e=some i) (hz:i.zero=some z)
 (hsize:i.size=size) (hzs:z.cells.size=size) (hsz:0<size) (v:Value) (n:Nat) (xs:List Value) (hs:a.eval s=v) (hown:OwnK Kd w base e size v n xs)
 (ad:Addr) (m c:Nat) (news:List Value) (hx:a.eval x=.slice (some ad) m c) (hl:news.length=m*size) (hnews:∀ j u,news[j]?=some u→w.cell? (ad.add j)=some u) (h1:∀ u∈news,u.oneCell'=true)
 (hk:∀ u∈news,Kd u) (hkz:∀ u∈z.cells,Kd u) (h0:0<m) (h63:n+m≤maxLen) (hbytes:(n+m)*i.bytes≤140737488355328) (hbase:base≤w.heap.size)
 (h:∀ v' w',OwnK Kd w' base e size v' (n+m) (xs ++ news)→w.grownBy w' v.ownBlock→(v'.ownBlock=v.ownBlock∨v'.ownBlock=some w.heap.size)→wpList P ops Q rest (a.put o.dst v') w'):wpList P ops Q (o :: rest) a w:=by
 refine wpList_plain hgd fun K hK=>?_
 obtain ⟨v',w',hrun,h2,h3,h4⟩:=OwnK.append (P:=P) (ty:=o.type) ht hi hz hsize hzs hsz hown ad m c news hl hnews h1 hk hkz h0 h63 hbytes hbase
 unfold Oper.wp execOp
 simp only[ho,resolve,invoke,builtin,Sem.run_bind,Sem.run_pure,Result.andThen_ok,List.map_toArray,List.map_cons,List.map_nil,hs,hx,hrun]
 exact hK _ _ (h v' w' h2 h3 h4)
theorem step_append_ownK {P:Program}{Kd:Value→Prop}{ops:Array Oper}{o:Oper}{a:Act}{w:World}{K:Act→World→Prop}{Q:Exit→Act→World→Prop}{E:Prop}(hgd:o.guard=none) (s x:Operand) (t:TypeId)
 (ho:o.op=.call { callee:=.builtin .append,args:=#[s,x],argTypes:=#[t,t] }) (base:Nat) (e:TypeId) (i:TypeInfo) (z:Value) (size:Nat) (ht:P.underlying t=some (.slice e)) (hi:P.info? e=some i) (hz:i.zero=some z)
 (hsize:i.size=size) (hzs:z.cells.size=size) (hsz:0<size) (v:Value) (n:Nat) (xs:List Value) (hs:a.eval s=v) (hown:OwnK Kd w base e size v n xs)
 (ad:Addr) (m c:Nat) (news:List Value) (hx:a.eval x=.slice (some ad) m c) (hl:news.length=m*size) (hnews:∀ j u,news[j]?=some u→w.cell? (ad.add j)=some u) (h1:∀ u∈news,u.oneCell'=true)
 (hk:∀ u∈news,Kd u) (hkz:∀ u∈z.cells,Kd u) (h0:0<m) (h63:n+m≤maxLen) (hbytes:(n+m)*i.bytes≤140737488355328) (hbase:base≤w.heap.size)
 (h:∀ v' w',OwnK Kd w' base e size v' (n+m) (xs ++ news)→w.grownBy w' v.ownBlock→(v'.ownBlock=v.ownBlock∨v'.ownBlock=some w.heap.size)→K (a.put o.dst v') w') :
 if Region.wanted o (yielded ops a.tmps)=true then Oper.wp P o a w K Q else E:=by
 have hw:Region.wanted o (yielded ops a.tmps)=true:=by simp[Region.wanted,hgd]
 rw[if_pos hw]
 obtain ⟨v',w',hrun,h2,h3,h4⟩:=OwnK.append (P:=P) (ty:=o.type) ht hi hz hsize hzs hsz hown ad m c news hl hnews h1 hk hkz h0 h63 hbytes hbase
 unfold Oper.wp execOp
 simp only[ho,resolve,invoke,builtin,Sem.run_bind,Sem.run_pure,Result.andThen_ok,List.map_toArray,List.map_cons,List.map_nil,hs,hx,hrun]
 exact h v' w' h2 h3 h4
end Vic
end
section
namespace Vic
open Go Go.RowKit
abbrev Own (w:World) (B:Nat) (e:TypeId) (size:Nat) (v:Value) (n:Nat) (xs:List Value):Prop:=OwnK (fun _=>True) w B e size v n xs
theorem OwnK.typed {Kd:Value→Prop}{w:World}{B:Nat}{e:TypeId}{size:Nat}{v:Value}{n:Nat}{xs:List Value}(h:OwnK Kd w B e size v n xs) {g:Nat}(hg:v.ownBlock=some g):∃ cur,w.heap[g]?=some (.cells cur e (0,0)):=by
 obtain ⟨_,⟨rfl,_⟩|⟨g',cap,cur,rfl,a2,a3,_⟩⟩:=h
 ·cases hg
 ·cases hg;exact ⟨cur,a3⟩
theorem OwnK.sl {Kd:Value→Prop}{w:World}{B:Nat}{e:TypeId}{size:Nat}{v:Value}{n:Nat}{xs:List Value}(h:OwnK Kd w B e size v n xs):∃ A c,v=.slice A n c∧n≤c∧∀ j u,xs[j]?=some u→∃ g,A=some ⟨g,0,none⟩∧w.cell? ⟨g,j,none⟩=some u:=by
 obtain ⟨hl,⟨rfl,rfl⟩|⟨g,cap,cur,rfl,a2,a3,a4,a5,a6,a7,_⟩⟩:=h
 ·refine ⟨none,0,rfl,Nat.le_refl _,fun j u hj=>?_⟩
  have:xs = []:=List.eq_nil_of_length_eq_zero (by simpa using hl)
  subst this;simp at hj
 ·refine ⟨_,_,rfl,a4,fun j u hj=>⟨g,rfl,?_⟩⟩
  rw[← a7]at hj
  have hj':=(List.getElem?_eq_some_iff.1 hj).1
  rw[List.length_take]at hj'
  rw[List.getElem?_take]at hj
  split at hj
  ·simpa [World.cell?,a3]using hj
  ·cases hj
theorem OwnK.alloc {Kd:Value→Prop}{w:World}{B:Nat}{e:TypeId}{size:Nat}{v:Value}{n:Nat}{xs:List Value}(h:OwnK Kd w B e size v n xs) (o:Obj):OwnK Kd (w.alloc o) B e size v n xs:=
 h.keep ((Below.refl _ _).alloc (Nat.le_refl _) _)
theorem OwnK.store {Kd:Value→Prop}{w:World}{B:Nat}{e:TypeId}{size:Nat}{v:Value}{n:Nat}{xs:List Value}(h:OwnK Kd w B e size v n xs) {g:Nat}(hg:v.ownBlock=some g) (i:Nat) (u:Value) (hi:i<xs.length) (hk:Kd u) :
 OwnK Kd (w.setCell ⟨g,i,none⟩ u) B e size v n (xs.set i u):=by
 obtain ⟨hl,⟨rfl,rfl⟩|⟨g',cap,cur,rfl,a2,a3,a4,a5,a6,a7,a8⟩⟩:=h
 ·cases hg
 ·injection hg with hg
  subst hg
  refine ⟨by simpa using hl,.inr ⟨g',cap,cur.setIfInBounds i u,rfl,a2,?_,a4,a5,by simpa using a6,?_,fun x hx=>?_⟩⟩
  ·simp[World.setCell,Array.getElem?_modify,a3]
  ·rw[Array.toList_setIfInBounds,← a7,List.take_set]
  ·rcases Array.mem_or_eq_of_mem_setIfInBounds hx with h1|h1
   ·exact a8 x h1
   ·subst h1;exact hk
variable {ι:Type}
structure OwnF (w:World) (B:Nat) (e:TypeId) (size:Nat) (dom:ι→Prop) (v:ι→Value) (n:ι→Nat) (xs:ι→List Value):Prop where
 own:∀ i,dom i→Own w B e size (v i) (n i) (xs i)
 apart:∀ i j g,dom i→dom j→(v i).ownBlock=some g→(v j).ownBlock=some g→i=j
theorem OwnF.stay {w w':World}{B:Nat}{e:TypeId}{size:Nat}{dom:ι→Prop}{v:ι→Value}{n:ι→Nat}{xs:ι→List Value}(h:OwnF w B e size dom v n xs) (hs:∀ i g,dom i→(v i).ownBlock=some g→w'.heap[g]?=w.heap[g]?):OwnF w' B e size dom v n xs:=
 ⟨fun i hi=>(h.own i hi).stay fun g hg=>hs i g hi hg,h.apart⟩
theorem OwnF.keep {w w':World}{B:Nat}{e:TypeId}{size:Nat}{dom:ι→Prop}{v:ι→Value}{n:ι→Nat}{xs:ι→List Value}(h:OwnF w B e size dom v n xs) (hb:Below w.heap.size w w'):OwnF w' B e size dom v n xs:=
 h.stay fun i g hi hg=>hb.block g ((h.own i hi).lt hg).2
theorem OwnF.other {w w':World}{B:Nat}{e:TypeId}{size:Nat}{dom:ι→Prop}{v:ι→Value}{n:ι→Nat}{xs:ι→List Value}(h:OwnF w B e size dom v n xs) (hs:∀ (g:Nat) (cur:Array Value),w.heap[g]?=some (Obj.cells cur e (0,0))→w'.heap[g]?=w.heap[g]?):OwnF w' B e size dom v n xs:=
 h.stay fun i g hi hg=>by obtain ⟨cur,hc⟩:=(h.own i hi).typed hg;exact hs g cur hc
theorem OwnF.app [DecidableEq ι] {w w':World}{B:Nat}{e:TypeId}{size:Nat}{dom:ι→Prop}{v:ι→Value}{n:ι→Nat}{xs:ι→List Value}(h:OwnF w B e size dom v n xs) (i:ι) (hi:dom i) {v':Value}{n':Nat}{ys:List Value}
 (ho:Own w' B e size v' n' ys) (hg:w.grownBy w' (v i).ownBlock) (hl:v'.ownBlock=(v i).ownBlock∨v'.ownBlock=some w.heap.size) :
 OwnF w' B e size dom (fun j=>if j=i then v' else v j) (fun j=>if j=i then n' else n j) (fun j=>if j=i then ys else xs j):=by
 constructor
 ·intro j hj
  by_cases e:j=i
  ·simp only[e,if_true];exact ho
  ·simp only[e,if_false]
   refine (h.own j hj).stay fun g hgj=>hg.block g ((h.own j hj).lt hgj).2 (fun e2=>e ?_)
   exact h.apart j i g hj hi hgj e2.symm
 ·intro a b g ha hb h1 h2
  by_cases ea:a=i
  ·by_cases eb:b=i
   ·rw[ea,eb]
   ·simp only[ea,eb,if_true,if_false]at h1 h2
    rcases hl with hl|hl
    ·exact absurd (h.apart b i g hb hi h2 (hl▸h1)) eb
    ·have:=((h.own b hb).lt h2).2
     rw[hl]at h1;injection h1;omega
  ·by_cases eb:b=i
   ·simp only[ea,eb,if_true,if_false]at h1 h2
    rcases hl with hl|hl
    ·exact absurd (h.apart a i g ha hi h1 (hl▸h2)) ea
    ·have:=((h.own a ha).lt h1).2
     rw[hl]at h2;injection h2;omega
   ·simp only[ea,eb,if_false]at h1 h2
    exact h.apart a b g ha hb h1 h2
theorem OwnF.more [DecidableEq ι] {w:World}{B:Nat}{e:TypeId}{size:Nat}{dom dom':ι→Prop}{v:ι→Value}{n:ι→Nat}{xs:ι→List Value}(h:OwnF w B e size dom v n xs) (i:ι) (hd:∀ j,dom' j→j=i∨dom j) :
 OwnF w B e size dom' (fun j=>if j=i then .slice none 0 0 else v j) (fun j=>if j=i then 0 else n j) (fun j=>if j=i then []else xs j):=by
 constructor
 ·intro j hj
  by_cases e:j=i
  ·simp only[e,if_true];exact OwnK.nil_ _ _ _ _ _
  ·simp only[e,if_false]
   exact h.own j ((hd j hj).resolve_left e)
 ·intro a b g ha hb h1 h2
  by_cases ea:a=i
  ·simp only[ea,if_true]at h1;cases h1
  ·by_cases eb:b=i
   ·simp only[eb,if_true]at h2;cases h2
   ·simp only[ea,eb,if_false]at h1 h2
    exact h.apart a b g ((hd a ha).resolve_left ea) ((hd b hb).resolve_left eb) h1 h2
theorem OwnF.sub {w:World}{B:Nat}{e:TypeId}{size:Nat}{dom dom':ι→Prop}{v v':ι→Value}{n n':ι→Nat}{xs xs':ι→List Value}(h:OwnF w B e size dom v n xs) (hd:∀ i,dom' i→dom i∧v' i=v i∧n' i=n i∧xs' i=xs i):OwnF w B e size dom' v' n' xs':=
 ⟨fun i hi=>by obtain ⟨a,b,c,d⟩:=hd i hi;rw[b,c,d];exact h.own i a,fun i j g hi hj h1 h2=>h.apart i j g (hd i hi).1 (hd j hj).1 ((hd i hi).2.1▸h1) ((hd j hj).2.1▸h2)⟩
end Vic
end
section
namespace Vic
open Go
def strLen:Value→Nat
 | .string s=>s.size
 | _=>0
theorem cut_len1 (s p:List UInt8):(Lib.cut s p).1.length≤s.length:=by
 unfold Lib.cut;split
 ·simp;omega
 ·exact Nat.le_refl _
theorem cut_len2 (s p:List UInt8):(Lib.cut s p).2.1.length≤s.length:=by
 unfold Lib.cut;split
 ·simp
 ·simp
theorem pre_one (c b:UInt8) (l:List UInt8) : [c].isPrefixOf (b :: l)=(c == b):=by
 show (c == b && [].isPrefixOf l)=_
 cases l<;>simp
theorem index_none {c:UInt8}:∀ {l:List UInt8},c∉l→Lib.index l [c]=-1
 | [],_=>rfl
 | b :: l,h=>by
   have hb:b≠c:=fun e=>h (by simp[e])
   have ih:=index_none (l:=l) (fun e=>h (List.mem_cons_of_mem _ e))
   unfold Lib.index
   rw[if_neg (by simp[pre_one,Ne.symm hb]),ih]
   rfl
theorem index_app {c:UInt8}:∀ {a:List UInt8}(b:List UInt8),c∉a→Lib.index (a ++ c :: b) [c]=(a.length:Nat)
 | [],b,_=>by
   show Lib.index (c :: b) [c]=_
   unfold Lib.index
   rw[if_pos (by simp[pre_one])];rfl
 | x :: a,b,h=>by
   have hx:x≠c:=fun e=>h (by simp[e])
   have ih:=index_app (a:=a) b (fun e=>h (List.mem_cons_of_mem _ e))
   show Lib.index (x :: (a ++ c :: b)) [c]=_
   unfold Lib.index
   rw[if_neg (by simp[pre_one,Ne.symm hx]),ih,if_neg (by simp)]
   simp
theorem cut_none {c:UInt8}{l:List UInt8}(h:c∉l):Lib.cut l [c]=(l,[],false):=by
 unfold Lib.cut;rw[index_none h,if_neg (by omega)]
theorem cut_app {c:UInt8}{a:List UInt8}(b:List UInt8) (h:c∉a):Lib.cut (a ++ c :: b) [c]=(a,b,true):=by
 unfold Lib.cut
 rw[index_app b h,if_pos (by omega)]
 simp
end Vic
end
section
namespace Vic
open Go
abbrev Txt:=List UInt8
def badC (c:UInt8):Bool:=c≤32 || 126<c
def nameB (s:Txt):Bool:=!s.any badC && 1≤s.length && s.length≤20
def blankC (c:UInt8):Bool:=c == 32 || c == 9 || c == 13
def fldsP (p:UInt8→Bool):Txt→Txt→List Txt
 | [],cur=>if cur = []then []else [cur]
 | c :: t,cur=>if p c then (if cur = []then fldsP p t []else cur :: fldsP p t [])else fldsP p t (cur ++ [c])
def fieldsB (s:Txt):List Txt:=fldsP blankC s []
def spl:Txt→List Txt
 | []=>[]
 | c :: t=>if c=10 then [] :: spl t else match spl t with | []=>[[c]]|l :: ls=>(c :: l) :: ls
theorem spl_app {a:Txt}(b:Txt) (h:(10:UInt8)∉a):spl (a ++ 10 :: b)=a :: spl b:=by
 induction a with
 | nil=>simp[spl]
 | cons c t ih=>
   have hc:c≠10:=fun e=>h (by simp[e])
   have ht:(10:UInt8)∉t:=fun e=>h (by simp[e])
   rw[List.cons_append,spl,if_neg hc,ih ht]
theorem spl_one:∀ {a:Txt},(10:UInt8)∉a→a≠[]→spl a = [a]
 | [],_,h=>absurd rfl h
 | [c],h,_=>by
   have hc:c≠10:=fun e=>h (by simp[e])
   simp[spl,hc]
 | c :: d :: t,h,_=>by
   have hc:c≠10:=fun e=>h (by simp[e])
   rw[spl,if_neg hc,spl_one (a:=d :: t) (fun e=>h (List.mem_cons_of_mem _ e)) (by simp)]
def cutNl (t:Txt):Txt × Txt:=((Lib.cut t [10]).1,(Lib.cut t [10]).2.1)
theorem spl_cut {t:Txt}(h:t≠[]):spl t=(cutNl t).1 :: spl (cutNl t).2∧(cutNl t).2.length<t.length∧(10:UInt8)∉(cutNl t).1:=by
 unfold cutNl
 by_cases hm:(10:UInt8)∈t
 ·obtain ⟨a,b,rfl,ha⟩:=List.eq_append_cons_of_mem hm
  rw[cut_app b ha]
  exact ⟨spl_app b ha,by simp;omega,ha⟩
 ·rw[cut_none hm]
  exact ⟨by rw[spl_one hm h];rfl,by simpa using List.length_pos_iff.2 h,hm⟩
def badL (c:UInt8):Bool:=126<c || (c<32 && c != 9)
def trimCr (s:Txt):Txt:=Lib.trimSuffix s [13]
def lookB (s:Txt):Int:=if 200<s.length then 6 else if (trimCr s).any badL then 1 else 0
structure LineM where
 no:Nat
 head:Bool
 words:List Txt
def lineOf (no:Nat) (s:Txt):List LineM:=
 if fieldsB s = []∨s.head?=some 42 then []else [⟨no,s.head? != some 32 && s.head? != some 9,fieldsB s⟩]
def getFrom:Nat→List Txt→List LineM→List LineM × Nat × Int
 | _,[],acc=>(acc,0,0)
 | no,s :: ls,acc=>if 2500<no then ([],no,6)else if lookB s≠0 then ([],no,lookB s)else getFrom (no+1) ls (acc ++ lineOf no s)
def wordsGet (t:Txt):List LineM × Nat × Int:=getFrom 1 (spl t) []
def blankR (r:Nat):Bool:=r == 32 || r == 9 || r == 13
theorem blankR_c (c:UInt8):blankR c.toNat=blankC c:=by
 unfold blankR blankC
 rw[Bool.eq_iff_iff]
 simp[← UInt8.toNat_inj]
theorem spans_flds (s:Txt) (ha:∀ c∈s,c.toNat<128):∀ (suf pre:Txt) (f:Nat) (st:Option Nat) (acc:List (Nat × Nat)),s=pre ++ suf→suf.length≤f→(∀ a,st=some a→a<pre.length) →
 (Lib.closeSpans ⟨s.toArray⟩ (Lib.spansFromP blankR ⟨s.toArray⟩ f pre.length st acc)).map (fun x=>(⟨s.toArray⟩:ByteArray).extract x.1 x.2) =
  acc.map (fun x=>(⟨s.toArray⟩:ByteArray).extract x.1 x.2) ++ (fldsP blankC suf (match st with|some a=>pre.drop a|none=>[])).map (fun l=>(⟨l.toArray⟩:ByteArray))
 | [],pre,f,st,acc,hs,hf,hst=>by
   have hn:¬ pre.length<(⟨s.toArray⟩:ByteArray).size:=by simp[ByteArray.size,hs]
   rw[Lib.spansFromP_end _ _ _ _ _ _ hn]
   subst hs
   cases st with
   | none=>simp[Lib.closeSpans,fldsP]
   | some a=>
     have hl:=hst a rfl
     have hne:pre.drop a≠[]:=by
      intro e
      have:=congrArg List.length e
      simp at this;omega
     simp only[Lib.closeSpans,fldsP,hne,if_false,List.map_append,List.map_cons,List.map_nil,List.append_nil]
     congr 2
     rw[Lib.extract_mk]
     simp only[ByteArray.size,List.size_toArray,List.append_nil]
     rw[List.take_of_length_le (by simp)]
 | c :: suf,pre,0,st,acc,hs,hf,hst=>by simp at hf
 | c :: suf,pre,f+1,st,acc,hs,hf,hst=>by
   have hlt:pre.length<(⟨s.toArray⟩:ByteArray).size:=by simp[ByteArray.size,hs]
   have hget:(⟨s.toArray⟩:ByteArray)[pre.length]'hlt=c:=by
    show s.toArray[pre.length]'_=c
    simp[hs]
   have hdec:=decode_ascii ⟨s.toArray⟩ pre.length hlt (by rw[hget];exact ha c (by rw[hs];simp))
   rw[hget]at hdec
   have hs2:s=(pre ++ [c]) ++ suf:=by rw[hs];simp
   have hl2:(pre ++ [c]).length=pre.length+1:=by simp
   have hext:∀ a,a<pre.length→(⟨s.toArray⟩:ByteArray).extract a pre.length=⟨(pre.drop a).toArray⟩:=fun a ha=>by
    rw[Lib.extract_mk]
    congr 2
    rw[hs,List.drop_append_of_le_length (by omega),List.take_append_of_le_length (by simp),List.take_of_length_le (by simp)]
   unfold Lib.spansFromP
   rw[if_pos hlt,hdec]
   simp only[blankR_c]
   by_cases hb:blankC c=true
   ·rw[if_pos hb]
    have key:∀ acc',(Lib.closeSpans ⟨s.toArray⟩ (Lib.spansFromP blankR ⟨s.toArray⟩ f (pre.length+1) none acc')).map (fun x=>(⟨s.toArray⟩:ByteArray).extract x.1 x.2)=acc'.map (fun x=>(⟨s.toArray⟩:ByteArray).extract x.1 x.2) ++ (fldsP blankC suf []).map (fun l=>(⟨l.toArray⟩:ByteArray)):=fun acc'=>by
     have:=spans_flds s ha suf (pre ++ [c]) f none acc' hs2 (by simpa using hf) (fun a h=>by cases h)
     rwa [hl2]at this
    cases st with
    | none=>
      simp only[fldsP,hb,if_true]
      exact key acc
    | some a=>
      have hl:=hst a rfl
      have hne:pre.drop a≠[]:=by
       intro e
       have:=congrArg List.length e
       simp at this;omega
      simp only[fldsP,hb,hne,if_true,if_false]
      rw[key,List.map_append,List.append_assoc]
      simp[hext a hl]
   ·rw[if_neg hb]
    cases st with
    | none=>
      have:=spans_flds s ha suf (pre ++ [c]) f (some pre.length) acc hs2 (by simpa using hf) (fun a h=>by cases h;simp)
      rw[hl2]at this
      simp only[fldsP,hb]
      rw[this]
      simp
    | some a=>
      have hl:=hst a rfl
      have:=spans_flds s ha suf (pre ++ [c]) f (some a) acc hs2 (by simpa using hf) (fun a' h=>by cases h;simp;omega)
      rw[hl2]at this
      simp only[fldsP,hb]
      rw[this]
      simp[List.drop_append_of_le_length (Nat.le_of_lt hl)]
theorem goFields_flds (s:Txt) (ha:∀ c∈s,c.toNat<128):Lib.goFieldsP blankR ⟨s.toArray⟩=(fieldsB s).map (fun l=>(⟨l.toArray⟩:ByteArray)):=by
 have h:=spans_flds s ha s [] s.length none [] rfl (Nat.le_refl _) (fun a h=>by cases h)
 simpa [Lib.goFieldsP,Lib.spansOfP,fieldsB,ByteArray.size]using h
end Vic
end
section
namespace Vic
open Go Go.RowKit
def SlIn {α:Type}(R:World→Nat→Nat→α→Prop) (size:Nat) (w:World) (v:Value) (l:List α):Prop:=
 ∃ A c,v=.slice A l.length c∧l.length≤c∧∀ (i:Nat) (x:α),l[i]?=some x→∃ g o,A=some ⟨g,o,none⟩∧R w g (o+i*size) x
def Firm {α:Type}(R:World→Nat→Nat→α→Prop):Prop:=∀ w w' g o x,R w g o x→Below w.heap.size w w'→R w' g o x
theorem SlIn.keep {α:Type}{R:World→Nat→Nat→α→Prop}(hR:Firm R) {size:Nat}{w w':World}{v:Value}{l:List α}(h:SlIn R size w v l) (hb:Below w.heap.size w w'):SlIn R size w' v l:=by
 obtain ⟨A,c,h1,h2,h3⟩:=h
 refine ⟨A,c,h1,h2,fun i x hx=>?_⟩
 obtain ⟨g,o,h4,h5⟩:=h3 i x hx
 exact ⟨g,o,h4,hR _ _ _ _ _ h5 hb⟩
theorem SlIn.nil_ {α:Type}(R:World→Nat→Nat→α→Prop) (size:Nat) (w:World):SlIn R size w (.slice none 0 0) []:=⟨none,0,rfl,Nat.le_refl _,fun i x hx=>by simp at hx⟩
theorem SlIn.imp {α:Type}{R S:World→Nat→Nat→α→Prop}{size:Nat}{w w':World}{v:Value}{l:List α}(h:SlIn R size w v l) (k:∀ g o x,x∈l→R w g o x→S w' g o x):SlIn S size w' v l:=by
 obtain ⟨A,c,h1,h2,h3⟩:=h
 refine ⟨A,c,h1,h2,fun i x hx=>?_⟩
 obtain ⟨g,o,h4,h5⟩:=h3 i x hx
 exact ⟨g,o,h4,k _ _ _ (List.mem_of_getElem? hx) h5⟩
theorem SlIn.imp_at {α:Type}{R S:World→Nat→Nat→α→Prop}{size:Nat}{w w':World}{a:Option Addr}{n c:Nat}{l:List α}(h:SlIn R size w (.slice a n c) l) (k:∀ g o x,a=some ⟨g,o,none⟩→∀ j,R w g (o+j) x→S w' g (o+j) x):SlIn S size w' (.slice a n c) l:=by
 obtain ⟨A,c',h1,h2,h3⟩:=h
 refine ⟨A,c',h1,h2,fun i x hx=>?_⟩
 obtain ⟨g,o,h4,h5⟩:=h3 i x hx
 injection h1 with h1 _ _
 exact ⟨g,o,h4,k _ _ _ (h1.trans h4) _ h5⟩
def StrR (w:World) (g o:Nat) (s:Txt):Prop:=w.cell? ⟨g,o,none⟩=some (.string ⟨s.toArray⟩)
theorem StrR.firm:Firm StrR:=fun _ _ _ _ _ h hb=>cell_keep h hb
abbrev StrsIn (w:World) (v:Value) (l:List Txt):Prop:=SlIn StrR 1 w v l
def LineR (w:World) (g o:Nat) (x:LineM):Prop:=∃ v,w.cell? ⟨g,o,none⟩=some (.int .i64 (x.no:Nat))∧w.cell? ⟨g,o+1,none⟩=some (.bool x.head)∧w.cell? ⟨g,o+2,none⟩=some v∧StrsIn w v x.words
theorem LineR.firm:Firm LineR:=fun _ _ _ _ _ ⟨v,h1,h2,h3,h4⟩ hb=>⟨v,cell_keep h1 hb,cell_keep h2 hb,cell_keep h3 hb,h4.keep StrR.firm hb⟩
abbrev LinesIn (w:World) (v:Value) (l:List LineM):Prop:=SlIn LineR 3 w v l
theorem fl_get {α:Type}{enc:α→List Value}{size:Nat}(he:∀ x,(enc x).length=size):∀ {l:List α}{i:Nat}{x:α}{k:Nat},l[i]?=some x→k<size→(l.flatMap enc)[i*size+k]?=(enc x)[k]?
 | [],i,x,k,h,_=>by simp at h
 | y :: l,0,x,k,h,hk=>by
   simp only[List.getElem?_cons_zero,Option.some.injEq]at h
   subst h
   rw[List.flatMap_cons,Nat.zero_mul,Nat.zero_add,List.getElem?_append_left (by rw[he];exact hk)]
 | y :: l,i+1,x,k,h,hk=>by
   have ih:=fl_get he (l:=l) (i:=i) (x:=x) (k:=k) (by simpa using h) hk
   rw[List.flatMap_cons,List.getElem?_append_right (by rw[he,Nat.add_mul];omega),he,← ih]
   congr 1
   rw[Nat.add_mul];omega
theorem fl_len {α:Type}{enc:α→List Value}{size:Nat}(he:∀ x,(enc x).length=size):∀ (l:List α),(l.flatMap enc).length=l.length*size
 | []=>by simp
 | y :: l=>by rw[List.flatMap_cons,List.length_append,he,fl_len he l,List.length_cons,Nat.add_mul];omega
theorem OwnK.slIn {α:Type}{Kd:Value→Prop}{enc:α→List Value}{size:Nat}(he:∀ x,(enc x).length=size) {R:World→Nat→Nat→α→Prop}{w:World}{B:Nat}{e:TypeId}{v:Value}{l:List α}(h:OwnK Kd w B e size v l.length (l.flatMap enc))
 (hR:∀ g i x,l[i]?=some x→(∀ k u,(enc x)[k]?=some u→w.cell? ⟨g,i*size+k,none⟩=some u)→R w g (i*size) x):SlIn R size w v l:=by
 obtain ⟨A,c,h1,h2,h3⟩:=h.sl
 refine ⟨A,c,h1,h2,fun i x hx=>?_⟩
 have hcell:∀ k u,(enc x)[k]?=some u→∃ g,A=some ⟨g,0,none⟩∧w.cell? ⟨g,i*size+k,none⟩=some u:=fun k u hu=>by
  have hk:k<size:=by rw[← he x];exact (List.getElem?_eq_some_iff.1 hu).1
  exact h3 _ u (by rw[fl_get he hx hk];exact hu)
 obtain ⟨_,⟨hv,h0⟩|⟨g,cap,cur,hv,_⟩⟩:=h
 ·have:l = []:=List.eq_nil_of_length_eq_zero h0
  subst this;simp at hx
 ·rw[h1]at hv
  injection hv with hA _ _
  refine ⟨g,0,hA,?_⟩
  rw[Nat.zero_add]
  refine hR g i x hx fun k u hu=>?_
  obtain ⟨g',hg',hc⟩:=hcell k u hu
  rw[hA]at hg'
  injection hg' with hg'
  injection hg' with hg'
  rw[hg'];exact hc
end Vic
end
section
namespace Vic
theorem getD_drop (l:List Nat) (i j:Nat):(l.drop i).getD j 0=l.getD (i+j) 0:=by simp[List.getD_eq_getElem?_getD]
theorem getD_take (l:List Nat) (i j:Nat) (h:j<i):(l.take i).getD j 0=l.getD j 0:=by
 simp[List.getD_eq_getElem?_getD,List.getElem?_take,h]
theorem getD_big (l:List Nat) (i:Nat) (h:l.length≤i):l.getD i 0=0:=by
 rw[List.getD_eq_getElem?_getD,List.getElem?_eq_none h];rfl
theorem val_drop_step (B:Nat) (l:List Nat) (i:Nat):val B (l.drop i)=l.getD i 0+B*val B (l.drop (i+1)):=by
 by_cases h:i<l.length
 ·rw[List.drop_eq_getElem_cons h,val_cons,List.getD_eq_getElem?_getD,List.getElem?_eq_getElem h];rfl
 ·rw[List.drop_of_length_le (by omega),List.drop_of_length_le (by omega),getD_big l i (by omega)];rfl
theorem val_take_step (B:Nat) (l:List Nat) (i:Nat):val B (l.take (i+1))=val B (l.take i)+B ^ i*l.getD i 0:=by
 by_cases h:i<l.length
 ·rw[List.take_succ_eq_append_getElem h,val_append,List.length_take,Nat.min_eq_left (by omega),List.getD_eq_getElem?_getD,List.getElem?_eq_getElem h];simp[val]
 ·rw[List.take_of_length_le (by omega),List.take_of_length_le (by omega),getD_big l i (by omega)];simp
theorem val_split (B:Nat) (l:List Nat) (i:Nat):val B l=val B (l.take i)+B ^ i*val B (l.drop i):=by
 by_cases h:i≤l.length
 ·have:=val_append B (l.take i) (l.drop i)
  rwa [List.take_append_drop,List.length_take,Nat.min_eq_left h]at this
 ·rw[List.take_of_length_le (by omega),List.drop_of_length_le (by omega)];simp[val]
theorem val_take_lt {B:Nat}(hB:0<B) {l:List Nat}(h:dig B l) (i:Nat):val B (l.take i)<B ^ i:=by
 have h1:=val_lt hB (dig_take h i)
 exact Nat.lt_of_lt_of_le h1 (Nat.pow_le_pow_right hB (by rw[List.length_take];omega))
theorem val_take_all (B:Nat) (l:List Nat) (i:Nat) (h:l.length≤i):val B (l.take i)=val B l:=by rw[List.take_of_length_le h]
theorem lt_of_drop_lt {B:Nat}(hB:0<B) {a b:List Nat}(ha:dig B a) (i:Nat) (h:val B (a.drop i)<val B (b.drop i)):val B a<val B b:=by
 rw[val_split B a i,val_split B b i]
 have h1:=val_take_lt hB ha i
 have h2:B ^ i*(val B (a.drop i)+1)≤B ^ i*val B (b.drop i):=Nat.mul_le_mul_left _ h
 rw[Nat.mul_add]at h2
 omega
theorem lt_of_digit {B:Nat}(hB:0<B) {a b:List Nat}(ha:dig B a) (i:Nat) (he:val B (a.drop (i+1))=val B (b.drop (i+1))) (h:a.getD i 0<b.getD i 0):val B a<val B b:=by
 refine lt_of_drop_lt hB ha i ?_
 rw[val_drop_step B a i,val_drop_step B b i,he];omega
def cmpI (a b:Nat):Int:=if a<b then -1 else if b<a then 1 else 0
theorem cmpI_lt {a b:Nat}(h:a<b):cmpI a b=-1:=by unfold cmpI;rw[if_pos h]
theorem cmpI_gt {a b:Nat}(h:b<a):cmpI a b=1:=by unfold cmpI;rw[if_neg (by omega),if_pos h]
theorem cmpI_eq {a b:Nat}(h:a=b):cmpI a b=0:=by unfold cmpI;rw[if_neg (by omega),if_neg (by omega)]
theorem set_getD_same (o:List Nat) (k d:Nat) (h:k<o.length):(o.set k d).getD k 0=d:=by
 simp[List.getD_eq_getElem?_getD,h]
theorem set_getD_other (o:List Nat) (k d j:Nat) (h:j≠k):(o.set k d).getD j 0=o.getD j 0:=by
 simp[List.getD_eq_getElem?_getD,List.getElem?_set_ne (Ne.symm h)]
theorem take_set (o:List Nat) (k d:Nat):(o.set k d).take k=o.take k:=by
 rw[List.take_set];exact List.set_eq_of_length_le (by rw[List.length_take];omega)
theorem dig_set {B:Nat}{o:List Nat}(h:dig B o) {d:Nat}(hd:d<B) (k:Nat):dig B (o.set k d):=fun x hx=>by
 rcases List.mem_or_eq_of_mem_set hx with h1|h1
 ·exact h x h1
 ·exact h1▸hd
theorem dig_replicate {B:Nat}(hB:0<B) (n:Nat):dig B (List.replicate n 0):=fun d hd=>by
 rw[List.mem_replicate]at hd;omega
theorem val_take_set (B:Nat) (o:List Nat) (k d:Nat) (h:k<o.length):val B ((o.set k d).take (k+1))=val B (o.take k)+B ^ k*d:=by
 rw[val_take_step,take_set,set_getD_same o k d h]
structure AddInv (B:Nat) (a b o:List Nat) (n k s:Nat):Prop where
 len:o.length=n
 dg:dig B o
 sum:val B (o.take k)+B ^ k*s=val B (a.take k)+val B (b.take k)
 small:s≤1
theorem AddInv.start {B:Nat}(hB:1<B) (a b:List Nat) (n:Nat):AddInv B a b (List.replicate n 0) n 0 0:=
 ⟨by simp,dig_replicate (by omega) n,by simp[val],by omega⟩
theorem AddInv.step {B:Nat}{a b o:List Nat}{n k s:Nat}(h:AddInv B a b o n k s) (hB:1<B) (ha:dig B a) (hb:dig B b) (hk:k<n) :
 AddInv B a b (o.set k ((s+(a.getD k 0+b.getD k 0)) % B)) n (k+1) ((s+(a.getD k 0+b.getD k 0)) / B):=by
 have h1:=dig_getD ha (by omega) k
 have h2:=dig_getD hb (by omega) k
 refine ⟨by simp[h.len],dig_set h.dg (Nat.mod_lt _ (by omega)) k,?_,?_⟩
 ·rw[val_take_set B o k _ (by rw[h.len];exact hk),val_take_step,val_take_step,Nat.pow_succ,Nat.mul_assoc]
  have e:=Nat.mod_add_div (s+(a.getD k 0+b.getD k 0)) B
  have e2:B ^ k*((s+(a.getD k 0+b.getD k 0)) % B)+B ^ k*(B*((s+(a.getD k 0+b.getD k 0)) / B))=B ^ k*s+(B ^ k*a.getD k 0+B ^ k*b.getD k 0):=by
   rw[← Nat.mul_add,e,Nat.mul_add,Nat.mul_add]
  have:=h.sum
  omega
 ·have h3:=h.small
  have:(s+(a.getD k 0+b.getD k 0)) / B<2:=by rw[Nat.div_lt_iff_lt_mul (by omega)];omega
  omega
theorem AddInv.done {B:Nat}{a b o:List Nat}{n s:Nat}(h:AddInv B a b o n n s) (hB:1<B) (ha:dig B a) (hb:dig B b) (hn:max a.length b.length+1=n) :
 val B o=val B a+val B b:=by
 have e:=h.sum
 rw[val_take_all B o n (by rw[h.len];exact Nat.le_refl _),val_take_all B a n (by omega),val_take_all B b n (by omega)]at e
 have h1:val B a<B ^ max a.length b.length:=Nat.lt_of_lt_of_le (val_lt (by omega) ha) (Nat.pow_le_pow_right (by omega) (by omega))
 have h2:val B b<B ^ max a.length b.length:=Nat.lt_of_lt_of_le (val_lt (by omega) hb) (Nat.pow_le_pow_right (by omega) (by omega))
 have h3:2*B ^ max a.length b.length≤B ^ n:=by
  rw[← hn,Nat.pow_succ,Nat.mul_comm];exact Nat.mul_le_mul_left _ hB
 rcases Nat.eq_zero_or_pos s with h0|h0
 ·subst h0;omega
 ·have:B ^ n*1≤B ^ n*s:=Nat.mul_le_mul_left _ h0
  omega
theorem digs_length_mono {B a b:Nat}(hB:1<B) (h:a≤b):(digs B a).length≤(digs B b).length:=
 digs_length_le hB (Nat.lt_of_le_of_lt h (lt_pow_digs_length hB b))
structure LessInv (B:Nat) (a b o:List Nat) (n k:Nat) (r:Int):Prop where
 len:o.length=n
 dg:dig B o
 sum:(val B (o.take k):Int)+(B:Int) ^ k*r=(val B (a.take k):Int) - (val B (b.take k):Int)
 small:r=0∨r=-1
theorem LessInv.start {B:Nat}(hB:1<B) (a b:List Nat) (n:Nat):LessInv B a b (List.replicate n 0) n 0 0:=
 ⟨by simp,dig_replicate (by omega) n,by simp[val],.inl rfl⟩
theorem LessInv.step {B:Nat}{a b o:List Nat}{n k:Nat}{r:Int}(h:LessInv B a b o n k r) (hB:1<B) (ha:dig B a) (hb:dig B b) (hk:k<n) :
 LessInv B a b (o.set k ((r+((a.getD k 0:Int) - (b.getD k 0:Int))) % (B:Int)).toNat) n (k+1) ((r+((a.getD k 0:Int) - (b.getD k 0:Int))) / (B:Int)):=by
 have h1:=dig_getD ha (by omega) k
 have h2:=dig_getD hb (by omega) k
 have hp:(0:Int)<(B:Int):=by omega
 have m1:=Int.emod_nonneg (r+((a.getD k 0:Int) - (b.getD k 0:Int))) (show (B:Int)≠0 by omega)
 have m2:=Int.emod_lt_of_pos (r+((a.getD k 0:Int) - (b.getD k 0:Int))) hp
 have e:=Int.emod_add_mul_ediv (r+((a.getD k 0:Int) - (b.getD k 0:Int))) (B:Int)
 refine ⟨by simp[h.len],dig_set h.dg (by omega) k,?_,?_⟩
 ·rw[val_take_set B o k _ (by rw[h.len];exact hk),val_take_step,val_take_step]
  generalize hq:(r+((a.getD k 0:Int) - (b.getD k 0:Int))) / (B:Int)=q at *
  generalize hm:(r+((a.getD k 0:Int) - (b.getD k 0:Int))) % (B:Int)=m at *
  simp only[Int.natCast_add,Int.natCast_mul,Int.natCast_pow,Int.toNat_of_nonneg m1]
  have hs:=h.sum
  rw[Int.pow_succ,Int.mul_assoc]
  have e2:(B:Int) ^ k*m+(B:Int) ^ k*((B:Int)*q)=(B:Int) ^ k*r+((B:Int) ^ k*(a.getD k 0:Int) - (B:Int) ^ k*(b.getD k 0:Int)):=by
   rw[← Int.mul_add,e,Int.mul_add,Int.mul_sub]
  omega
 ·have h3:=h.small
  have q1 : -1≤(r+((a.getD k 0:Int) - (b.getD k 0:Int))) / (B:Int):=by
   rw[Int.le_ediv_iff_mul_le hp];omega
  have q2:(r+((a.getD k 0:Int) - (b.getD k 0:Int))) / (B:Int)<1:=by
   rw[Int.ediv_lt_iff_lt_mul hp];omega
  omega
theorem LessInv.done {B:Nat}{a b o:List Nat}{r:Int}(h:LessInv B a b o a.length a.length r) (hB:1<B) (ha:dig B a) (hb:dig B b) (hle:val B b≤val B a) (hbl:b.length≤a.length) :
 val B o=val B a - val B b:=by
 have e:=h.sum
 rw[val_take_all B o _ (by rw[h.len];exact Nat.le_refl _),val_take_all B a _ (Nat.le_refl _),val_take_all B b _ hbl]at e
 have h0:=val_lt (by omega) h.dg
 rw[h.len]at h0
 rcases h.small with h1|h1
 ·subst h1;simp at e;omega
 ·subst h1
  have:((B ^ a.length:Nat):Int)=(B:Int) ^ a.length:=by simp
  omega
end Vic
end
