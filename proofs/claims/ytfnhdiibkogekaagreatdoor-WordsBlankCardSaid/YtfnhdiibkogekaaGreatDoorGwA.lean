/- Plain arithmetic of lists of digits, the lowest first: no program in sight. -/
import Derived.WalkKit
import Derived.Lib.Hide
import Derived.Deep.Draws
import Derived.Lib.Strings
import Derived.Lib.IndexMore
import Derived.Lib.TrimByte
import Derived.Lib.FieldsP
import Derived.Laws.RangeString
set_option linter.unusedVariables false
set_option linter.unusedSimpArgs false
section
namespace Vic

theorem getD_app_left (a b : List Nat) (i : Nat) (h : i < a.length) : (a ++ b).getD i 0 = a.getD i 0 := by
  simp only [List.getD_eq_getElem?_getD, List.getElem?_append_left h]
theorem getD_app_right (a b : List Nat) (i : Nat) (h : a.length ≤ i) : (a ++ b).getD i 0 = b.getD (i - a.length) 0 := by
  simp only [List.getD_eq_getElem?_getD, List.getElem?_append_right h]

/-- the number that a list of digits stands for, base B -/
def val (B : Nat) : List Nat → Nat
  | [] => 0
  | d :: ds => d + B * val B ds

theorem val_nil (B : Nat) : val B [] = 0 := rfl
theorem val_cons (B d : Nat) (ds : List Nat) : val B (d :: ds) = d + B * val B ds := rfl

theorem val_append (B : Nat) (a b : List Nat) : val B (a ++ b) = val B a + B ^ a.length * val B b := by
  induction a with
  | nil => simp [val]
  | cons d ds ih =>
    simp only [List.cons_append, val, ih, List.length_cons, Nat.pow_succ]
    rw [Nat.mul_add, ← Nat.mul_assoc, Nat.mul_comm B (B ^ ds.length)]
    omega

theorem val_snoc (B : Nat) (a : List Nat) (d : Nat) : val B (a ++ [d]) = val B a + B ^ a.length * d := by
  rw [val_append]; simp [val]

/-- all digits below the base -/
def dig (B : Nat) (l : List Nat) : Prop := ∀ d ∈ l, d < B

theorem dig_nil (B : Nat) : dig B [] := by intro d h; cases h
theorem dig_cons {B d : Nat} {l : List Nat} : dig B (d :: l) ↔ d < B ∧ dig B l := by simp [dig]
theorem dig_append {B : Nat} {a b : List Nat} : dig B (a ++ b) ↔ dig B a ∧ dig B b := by
  simp only [dig, List.mem_append]
  exact ⟨fun h => ⟨fun d hd => h d (.inl hd), fun d hd => h d (.inr hd)⟩, fun h d hd => hd.elim (h.1 d) (h.2 d)⟩
theorem dig_take {B : Nat} {l : List Nat} (h : dig B l) (k : Nat) : dig B (l.take k) := fun d hd => h d (List.mem_of_mem_take hd)
theorem dig_drop {B : Nat} {l : List Nat} (h : dig B l) (k : Nat) : dig B (l.drop k) := fun d hd => h d (List.mem_of_mem_drop hd)
theorem dig_getD {B : Nat} {l : List Nat} (h : dig B l) (hB : 0 < B) (i : Nat) : l.getD i 0 < B := by
  rw [List.getD_eq_getElem?_getD]
  cases hi : l[i]? with
  | none => simpa using hB
  | some d => simpa using h d (List.mem_of_getElem? hi)

theorem val_lt {B : Nat} (hB : 0 < B) {l : List Nat} (h : dig B l) : val B l < B ^ l.length := by
  induction l with
  | nil => simp [val]
  | cons d ds ih =>
    obtain ⟨h1, h2⟩ := dig_cons.1 h
    have := ih h2
    simp only [val, List.length_cons, Nat.pow_succ]
    have h3 : B * (val B ds + 1) ≤ B * B ^ ds.length := Nat.mul_le_mul_left _ this
    rw [Nat.mul_add] at h3
    rw [Nat.mul_comm (B ^ ds.length) B]
    omega

/-- the digits of a number, none of 0 above -/
def digs (B : Nat) (n : Nat) : List Nat :=
  if h : n = 0 ∨ B ≤ 1 then [] else n % B :: digs B (n / B)
termination_by n
decreasing_by
  simp only [not_or] at h
  exact Nat.div_lt_self (Nat.pos_of_ne_zero h.1) (by omega)

theorem digs_zero (B : Nat) : digs B 0 = [] := by unfold digs; simp
theorem digs_pos {B n : Nat} (hB : 1 < B) (hn : n ≠ 0) : digs B n = n % B :: digs B (n / B) := by
  rw [digs]; rw [dif_neg (by omega)]

theorem digs_dig {B : Nat} (hB : 1 < B) (n : Nat) : dig B (digs B n) := by
  induction n using Nat.strongRecOn with
  | _ n ih =>
    by_cases hn : n = 0
    · subst hn; rw [digs_zero]; exact dig_nil B
    · rw [digs_pos hB hn, dig_cons]
      exact ⟨Nat.mod_lt _ (by omega), ih _ (Nat.div_lt_self (by omega) hB)⟩

theorem val_digs {B : Nat} (hB : 1 < B) (n : Nat) : val B (digs B n) = n := by
  induction n using Nat.strongRecOn with
  | _ n ih =>
    by_cases hn : n = 0
    · subst hn; rw [digs_zero]; rfl
    · rw [digs_pos hB hn, val_cons, ih _ (Nat.div_lt_self (by omega) hB)]
      have := Nat.div_add_mod n B
      omega

theorem digs_eq_nil {B n : Nat} (hB : 1 < B) : digs B n = [] ↔ n = 0 := by
  constructor
  · intro h; have := val_digs hB n; rw [h] at this; simpa [val] using this.symm
  · rintro rfl; exact digs_zero B

/-- a list of digits whose last one is not 0 -/
def norm (l : List Nat) : Prop := l.getLast? ≠ some 0

theorem norm_nil : norm [] := by simp [norm]
theorem norm_cons {d : Nat} {l : List Nat} (h : l ≠ []) : norm (d :: l) ↔ norm l := by
  unfold norm
  rw [List.getLast?_cons]
  cases hl : l.getLast? with
  | none => simp [List.getLast?_eq_none_iff] at hl; exact absurd hl h
  | some x => simp

theorem digs_norm {B : Nat} (hB : 1 < B) (n : Nat) : norm (digs B n) := by
  induction n using Nat.strongRecOn with
  | _ n ih =>
    by_cases hn : n = 0
    · subst hn; rw [digs_zero]; exact norm_nil
    · rw [digs_pos hB hn]
      by_cases h0 : n / B = 0
      · rw [h0, digs_zero]
        have : n % B = n := Nat.mod_eq_of_lt (by
          rcases Nat.lt_or_ge n B with h | h
          · exact h
          · have := Nat.div_pos h (by omega); omega)
        simp [norm, this, hn]
      · rw [norm_cons (by rw [Ne, digs_eq_nil hB]; exact h0)]
        exact ih _ (Nat.div_lt_self (by omega) hB)

/-- a list of digits without a 0 above is the digits of its number -/
theorem digs_val {B : Nat} (hB : 1 < B) {l : List Nat} (hd : dig B l) (hn : norm l) : digs B (val B l) = l := by
  induction l with
  | nil => exact digs_zero B
  | cons d ds ih =>
    obtain ⟨h1, h2⟩ := dig_cons.1 hd
    by_cases hds : ds = []
    · subst hds
      have hd0 : d ≠ 0 := by simpa [norm] using hn
      have hv : val B [d] = d := by simp [val]
      rw [hv, digs_pos hB hd0, Nat.mod_eq_of_lt h1, Nat.div_eq_of_lt h1, digs_zero]
    · have hn' := (norm_cons hds).1 hn
      have ih' := ih h2 hn'
      have hne : val B (d :: ds) ≠ 0 := by
        intro h
        simp only [val] at h
        have hz : val B ds = 0 := by
          have : B * val B ds = 0 := by omega
          rcases Nat.mul_eq_zero.1 this with h | h
          · omega
          · exact h
        rw [hz, digs_zero] at ih'
        exact hds ih'.symm
      rw [digs_pos hB hne, val_cons]
      have e1 : (d + B * val B ds) % B = d := by rw [Nat.add_mul_mod_self_left]; exact Nat.mod_eq_of_lt h1
      have e2 : (d + B * val B ds) / B = val B ds := by
        rw [Nat.add_mul_div_left _ _ (by omega)]; rw [Nat.div_eq_of_lt h1]; omega
      rw [e1, e2, ih']

/-- the noughts above taken away -/
def trimd (l : List Nat) : List Nat := (l.reverse.dropWhile (· == 0)).reverse

theorem trimd_snoc_zero (l : List Nat) : trimd (l ++ [0]) = trimd l := by simp [trimd, List.dropWhile]
theorem trimd_snoc {d : Nat} (l : List Nat) (h : d ≠ 0) : trimd (l ++ [d]) = l ++ [d] := by
  simp [trimd, List.dropWhile, h]
theorem trimd_nil : trimd [] = [] := rfl

theorem trimd_of_norm {l : List Nat} (h : norm l) : trimd l = l := by
  rcases List.eq_nil_or_concat l with rfl | ⟨m, d, rfl⟩
  · rfl
  · simp only [List.concat_eq_append] at h ⊢
    exact trimd_snoc m (by simpa [norm] using h)

theorem trimd_norm (l : List Nat) : norm (trimd l) := by
  induction hl : l.length generalizing l with
  | zero => have : l = [] := List.length_eq_zero_iff.1 hl; subst this; exact norm_nil
  | succ n ih =>
    rcases List.eq_nil_or_concat l with rfl | ⟨m, d, rfl⟩
    · exact norm_nil
    · simp only [List.concat_eq_append] at hl ⊢
      by_cases hd : d = 0
      · subst hd; rw [trimd_snoc_zero]; exact ih m (by simpa using hl)
      · rw [trimd_snoc m hd]; simpa [norm] using hd

theorem val_trimd (B : Nat) (l : List Nat) : val B (trimd l) = val B l := by
  induction hl : l.length generalizing l with
  | zero => have : l = [] := List.length_eq_zero_iff.1 hl; subst this; rfl
  | succ n ih =>
    rcases List.eq_nil_or_concat l with rfl | ⟨m, d, rfl⟩
    · rfl
    · simp only [List.concat_eq_append] at hl ⊢
      by_cases hd : d = 0
      · subst hd; rw [trimd_snoc_zero, val_snoc, ih m (by simpa using hl)]; simp
      · rw [trimd_snoc m hd]

theorem dig_trimd {B : Nat} {l : List Nat} (h : dig B l) : dig B (trimd l) := by
  intro d hd
  unfold trimd at hd
  rw [List.mem_reverse] at hd
  exact h d (by simpa using (List.dropWhile_sublist _).subset hd)

theorem trimd_eq_digs {B : Nat} (hB : 1 < B) {l : List Nat} (h : dig B l) : trimd l = digs B (val B l) := by
  rw [← val_trimd B l]
  exact (digs_val hB (dig_trimd h) (trimd_norm l)).symm

/-- the first k digits, where all above are 0 -/
theorem trimd_take (l : List Nat) (k : Nat) (hk : k ≤ l.length) (h0 : ∀ i, k ≤ i → i < l.length → l.getD i 0 = 0) (hk0 : k = 0 ∨ l.getD (k - 1) 0 ≠ 0) :
    trimd l = l.take k := by
  induction hn : l.length - k generalizing l with
  | zero =>
    have hkl : k = l.length := by omega
    rw [List.take_of_length_le (by omega)]
    refine trimd_of_norm ?_
    rcases List.eq_nil_or_concat l with rfl | ⟨m, d, rfl⟩
    · exact norm_nil
    · simp only [List.concat_eq_append] at *
      simp only [List.length_append, List.length_cons, List.length_nil] at hkl
      subst hkl
      rcases hk0 with h | h
      · omega
      · simpa [norm] using h
  | succ n ih =>
    rcases List.eq_nil_or_concat l with rfl | ⟨m, d, rfl⟩
    · simp at hn
    · simp only [List.concat_eq_append, List.length_append, List.length_cons, List.length_nil] at *
      have hd : d = 0 := by
        have := h0 m.length (by omega) (by omega)
        simpa using this
      subst hd
      have hkm : k ≤ m.length := by omega
      rw [trimd_snoc_zero, List.take_append_of_le_length hkm]
      refine ih m hkm (fun i h1 h2 => ?_) ?_ (by omega)
      · have := h0 i h1 (by omega)
        rwa [getD_app_left _ _ _ h2] at this
      · rcases hk0 with h | h
        · exact .inl h
        · by_cases hk' : k = 0
          · exact .inl hk'
          · right; rwa [getD_app_left _ _ _ (by omega)] at h

theorem digs_length_le {B : Nat} (hB : 1 < B) {n k : Nat} (h : n < B ^ k) : (digs B n).length ≤ k := by
  induction k generalizing n with
  | zero => have : n = 0 := by simpa using h
            subst this; rw [digs_zero]; simp
  | succ k ih =>
    by_cases hn : n = 0
    · subst hn; rw [digs_zero]; simp
    · rw [digs_pos hB hn]
      have := ih (n := n / B) (by
        rw [Nat.div_lt_iff_lt_mul (by omega)]; rwa [Nat.pow_succ] at h)
      simp; omega

theorem lt_pow_digs_length {B : Nat} (hB : 1 < B) (n : Nat) : n < B ^ (digs B n).length := by
  have := val_lt (by omega : 0 < B) (digs_dig hB n)
  rwa [val_digs hB] at this

theorem pow_le_of_digs_length {B : Nat} (hB : 1 < B) {n k : Nat} (h : k < (digs B n).length) : B ^ k ≤ n := by
  rcases Nat.lt_or_ge n (B ^ k) with h' | h'
  · have := digs_length_le hB h'; omega
  · exact h'

/-- the digit at place i -/
theorem digs_getD {B : Nat} (hB : 1 < B) (n i : Nat) : (digs B n).getD i 0 = n / B ^ i % B := by
  induction i generalizing n with
  | zero =>
    by_cases hn : n = 0
    · subst hn; simp [digs_zero]
    · rw [digs_pos hB hn]; simp
  | succ i ih =>
    by_cases hn : n = 0
    · subst hn; simp [digs_zero]
    · rw [digs_pos hB hn, List.getD_cons_succ, ih, Nat.pow_succ, Nat.mul_comm, Nat.div_div_eq_div_mul]

theorem val_take (B : Nat) (hB : 0 < B) (l : List Nat) (hd : dig B l) (k : Nat) : val B (l.take k) = val B l % B ^ k := by
  by_cases h : k ≤ l.length
  · have e : val B l = val B (l.take k) + B ^ k * val B (l.drop k) := by
      have := val_append B (l.take k) (l.drop k)
      rw [List.take_append_drop, List.length_take, Nat.min_eq_left h] at this
      exact this
    have h2 := val_lt hB (dig_take hd k)
    rw [List.length_take, Nat.min_eq_left h] at h2
    rw [e, Nat.add_mul_mod_self_left, Nat.mod_eq_of_lt h2]
  · have h1 := val_lt hB hd
    rw [List.take_of_length_le (by omega)]
    rw [Nat.mod_eq_of_lt]
    exact Nat.lt_of_lt_of_le h1 (Nat.pow_le_pow_right hB (by omega))

theorem val_drop (B : Nat) (hB : 0 < B) (l : List Nat) (hd : dig B l) (k : Nat) : val B (l.drop k) = val B l / B ^ k := by
  by_cases h : k ≤ l.length
  · have e : val B l = val B (l.take k) + B ^ k * val B (l.drop k) := by
      have := val_append B (l.take k) (l.drop k)
      rw [List.take_append_drop, List.length_take, Nat.min_eq_left h] at this
      exact this
    have h2 := val_lt hB (dig_take hd k)
    rw [List.length_take, Nat.min_eq_left h] at h2
    rw [e, Nat.add_mul_div_left _ _ (Nat.pow_pos hB), Nat.div_eq_of_lt h2]; omega
  · have h1 := val_lt hB hd
    rw [List.drop_of_length_le (by omega)]
    rw [Nat.div_eq_of_lt]
    · rfl
    · exact Nat.lt_of_lt_of_le h1 (Nat.pow_le_pow_right hB (by omega))

end Vic
end
section
namespace Vic
open Go Go.RowKit

theorem block_lt {w : World} {b o : Nat} {v : Value} (h : w.cell? ⟨b, o, none⟩ = some v) : b < w.heap.size := by
  rcases Nat.lt_or_ge b w.heap.size with h1 | h1
  · exact h1
  · simp [World.cell?, Array.getElem?_eq_none h1] at h

theorem cell_keep {w w' : World} {b o : Nat} {v : Value} (h : w.cell? ⟨b, o, none⟩ = some v) (hb : Below w.heap.size w w') : w'.cell? ⟨b, o, none⟩ = some v :=
  (hb.cell (p := ⟨b, o, none⟩) (block_lt h)).trans h

/-- two calls, one behind the other -/
theorem Below.drewN_ {B : Nat} {u w : World} (h : Below B u w) (n : Nat) : Below B u (w.drewN n) := ⟨h.os, h.tape, h.output, h.size, h.block⟩
theorem below_seq {w a b : World} (h : Below w.heap.size w a) (k : Below a.heap.size a b) : Below w.heap.size w b := h.trans (k.mono h.size)

/-- the slice value v holds the numbers l, of kind k -/
def Ints (k : IntKind) (w : World) (v : Value) (l : List Nat) : Prop :=
  ∃ A c, v = .slice A l.length c ∧ l.length ≤ c ∧ (∀ i, i < l.length → ∃ b o, A = some ⟨b, o, none⟩ ∧ w.cell? ⟨b, o + i, none⟩ = some (.int k ((l.getD i 0 : Nat) : Int)))

/-- the slice value v holds the digits l -/
def U32s (w : World) (v : Value) (l : List Nat) : Prop := Ints .u32 w v l

theorem Ints.keep {k : IntKind} {w w' : World} {v : Value} {l : List Nat} (h : Ints k w v l) (hb : Below w.heap.size w w') : Ints k w' v l := by
  obtain ⟨A, c, h1, h2, h3⟩ := h
  refine ⟨A, c, h1, h2, fun i hi => ?_⟩
  obtain ⟨b, o, hA, hc⟩ := h3 i hi
  exact ⟨b, o, hA, cell_keep hc hb⟩
theorem U32s.keep {w w' : World} {v : Value} {l : List Nat} (h : U32s w v l) (hb : Below w.heap.size w w') : U32s w' v l := Ints.keep h hb

theorem Ints.nil_ (k : IntKind) (w : World) : Ints k w (.slice none 0 0) [] := ⟨none, 0, rfl, Nat.le_refl _, fun i hi => by simp at hi⟩

/-- the digits that a number has, base 2^32 -/
abbrev dgs (n : Nat) : List Nat := digs 4294967296 n

/-- a block of the type of numbers -/
def NatBlk (w : World) (b : Nat) : Prop := ∃ cs fr, w.heap[b]? = some (.cells cs 292 fr)
theorem NatBlk.same {w w' : World} {b : Nat} (h : NatBlk w b) (hs : w'.heap[b]? = w.heap[b]?) : NatBlk w' b := by
  obtain ⟨cs, fr, h⟩ := h; exact ⟨cs, fr, hs.trans h⟩
theorem NatBlk.lt {w : World} {b : Nat} (h : NatBlk w b) : b < w.heap.size := by
  obtain ⟨cs, fr, h⟩ := h
  rcases Nat.lt_or_ge b w.heap.size with h1 | h1
  · exact h1
  · rw [Array.getElem?_eq_none h1] at h; cases h
theorem NatBlk.keep {w w' : World} {b : Nat} (h : NatBlk w b) (hb : Below w.heap.size w w') : NatBlk w' b := h.same (hb.block b h.lt)
def NatAt (w : World) (v : Value) (n : Nat) : Prop :=
  (v = .pointer none ∧ n = 0) ∨ ∃ b s, v = .pointer (some ⟨b, 0, none⟩) ∧ w.cell? ⟨b, 0, none⟩ = some s ∧ U32s w s (digs 4294967296 n) ∧ NatBlk w b

/-- a number behind a pointer that is not nil -/
def NatPtr (w : World) (v : Value) (n : Nat) : Prop :=
  ∃ b s, v = .pointer (some ⟨b, 0, none⟩) ∧ w.cell? ⟨b, 0, none⟩ = some s ∧ U32s w s (digs 4294967296 n) ∧ NatBlk w b
theorem NatPtr.at_ {w : World} {v : Value} {n : Nat} (h : NatPtr w v n) : NatAt w v n := .inr h
theorem NatPtr.keep {w w' : World} {v : Value} {n : Nat} (h : NatPtr w v n) (hb : Below w.heap.size w w') : NatPtr w' v n := by
  obtain ⟨b, s, h1, h2, h3, h4⟩ := h
  exact ⟨b, s, h1, cell_keep h2 hb, h3.keep hb, h4.keep hb⟩
theorem NatPtr.open_ {w : World} {v : Value} {n : Nat} (h : NatPtr w v n) :
    ∃ b A c, v = .pointer (some ⟨b, 0, none⟩) ∧ w.cell? ⟨b, 0, none⟩ = some (.slice A (dgs n).length c) ∧ U32s w (.slice A (dgs n).length c) (dgs n) := by
  obtain ⟨b, s, h1, h2, ⟨A, c, rfl, h4, h5⟩, _⟩ := h
  exact ⟨b, A, c, h1, h2, ⟨A, c, rfl, h4, h5⟩⟩
/-- a pointer to a block that lies from B on -/
def NewPtr (B : Nat) (v : Value) : Prop := ∃ b, v = .pointer (some ⟨b, 0, none⟩) ∧ B ≤ b
theorem NewPtr.mono {B C : Nat} {v : Value} (h : NewPtr B v) (hc : C ≤ B) : NewPtr C v := by
  obtain ⟨b, h1, h2⟩ := h; exact ⟨b, h1, Nat.le_trans hc h2⟩
theorem NatAt.ptr {w : World} {v : Value} {n : Nat} (h : NatAt w v n) (h0 : n ≠ 0) : NatPtr w v n := by
  rcases h with ⟨_, h⟩ | h
  · exact absurd h h0
  · exact h

theorem NatAt.keep {w w' : World} {v : Value} {n : Nat} (h : NatAt w v n) (hb : Below w.heap.size w w') : NatAt w' v n := by
  rcases h with h | ⟨b, s, h1, h2, h3, h4⟩
  · exact .inl h
  · exact .inr ⟨b, s, h1, cell_keep h2 hb, h3.keep hb, h4.keep hb⟩

/-- a block that is known whole -/
def Row (w : World) (b : Nat) (t : TypeId) (cs : Array Value) : Prop := w.heap[b]? = some (.cells cs t (0, 0))

theorem Row.lt {w : World} {b : Nat} {t : TypeId} {cs : Array Value} (h : Row w b t cs) : b < w.heap.size := by
  rcases Nat.lt_or_ge b w.heap.size with h1 | h1
  · exact h1
  · unfold Row at h; rw [Array.getElem?_eq_none h1] at h; cases h
theorem Row.cell {w : World} {b : Nat} {t : TypeId} {cs : Array Value} (h : Row w b t cs) (i : Nat) : w.cell? ⟨b, i, none⟩ = cs[i]? := by
  unfold Row at h; simp [World.cell?, h]
theorem Row.free {w : World} {b : Nat} {t : TypeId} {cs : Array Value} (h : Row w b t cs) (i : Nat) : w.frozen? ⟨b, i, none⟩ = false := by
  unfold Row at h; simp [World.frozen?, h]
theorem Row.new (w : World) (t : TypeId) (cs : Array Value) : Row (w.alloc (.cells cs t)) w.heap.size t cs := by
  show (w.heap.push _)[w.heap.size]? = _
  simp
theorem Row.set {w : World} {b : Nat} {t : TypeId} {cs : Array Value} (h : Row w b t cs) (i : Nat) (u : Value) : Row (w.setCell ⟨b, i, none⟩ u) b t (cs.setIfInBounds i u) := by
  unfold Row at h ⊢
  simp [World.setCell, Array.getElem?_modify, h]
theorem Row.far {w : World} {b : Nat} {t : TypeId} {cs : Array Value} (h : Row w b t cs) {p : Addr} (hp : b ≠ p.block) (u : Value) : Row (w.setCell p u) b t cs :=
  (Below.heap_setCell w p u b hp).trans h
theorem Row.alloc {w : World} {b : Nat} {t : TypeId} {cs : Array Value} (h : Row w b t cs) (o : Obj) : Row (w.alloc o) b t cs := (Below.heap_alloc w o b h.lt).trans h
theorem Row.keep {w w' : World} {b : Nat} {t : TypeId} {cs : Array Value} (h : Row w b t cs) (hb : Below w.heap.size w w') : Row w' b t cs := (hb.block b h.lt).trans h

/-- a row of numbers -/
def vals (k : IntKind) (l : List Nat) : Array Value := (l.map fun (d : Nat) => Value.int k (d : Int)).toArray
theorem vals_size (k : IntKind) (l : List Nat) : (vals k l).size = l.length := by simp [vals]
theorem vals_get (k : IntKind) (l : List Nat) (i : Nat) (h : i < l.length) : (vals k l)[i]? = some (.int k ((l.getD i 0 : Nat) : Int)) := by
  simp [vals, h, List.getD_eq_getElem?_getD]
theorem vals_set (k : IntKind) (l : List Nat) (i : Nat) (d : Nat) : (vals k l).setIfInBounds i (.int k (d : Int)) = vals k (l.set i d) := by
  simp [vals, List.map_set]
theorem vals_replicate (k : IntKind) (n d : Nat) : Array.replicate n (Value.int k (d : Int)) = vals k (List.replicate n d) := by simp [vals]

/-- a block of numbers, and the slice of its first ones -/
theorem Row.ints {k : IntKind} {w : World} {b : Nat} {t : TypeId} {l : List Nat} (h : Row w b t (vals k l)) (c : Nat) (hc : l.length ≤ c) : Ints k w (.slice (some ⟨b, 0, none⟩) l.length c) l :=
  ⟨_, c, rfl, hc, fun i hi => ⟨b, 0, rfl, by rw [Nat.zero_add, h.cell, vals_get k l i hi]⟩⟩

/-- a call that only reckons: it returns v, the world is as it was -/
def Rets (v : Value) (w : World) (e : Ending) (w' : World) : Prop := e = .returned v ∧ w = w'
/-- a call that returns v and turns nothing that was there -/
def Keeps (v : Value) (w : World) (e : Ending) (w' : World) : Prop := e = .returned v ∧ Below w.heap.size w w'
theorem Rets.keeps {v : Value} {w : World} {e : Ending} {w' : World} (h : Rets v w e w') : Keeps v w e w' := by
  obtain ⟨h1, rfl⟩ := h; exact ⟨h1, Below.refl _ _⟩
/-- a call that makes memory: what it returns is such, and all that was there is as it was -/
def Gives (Q : Value → World → Prop) (w : World) (e : Ending) (w' : World) : Prop := ∃ x, e = .returned x ∧ Q x w' ∧ Below w.heap.size w w'
theorem Gives.mono {Q R : Value → World → Prop} {w w' : World} {e : Ending} (h : Gives Q w e w') (k : ∀ x w, Q x w → R x w) : Gives R w e w' := by
  obtain ⟨x, h1, h2, h3⟩ := h
  exact ⟨x, h1, k x w' h2, h3⟩
theorem Rets.mk {v : Value} {w : World} {e : Ending} (h : e = .returned v) : Rets v w e w := ⟨h, rfl⟩

theorem ret_int {k : IntKind} {a b : Int} (h : a = b) : Ending.returned (.int k a) = .returned (.int k b) := by rw [h]
theorem ret2_int {k l : IntKind} {a b c d : Int} (h : a = b) (h' : c = d) : Ending.returned (.tuple #[.int k a, .int l c]) = .returned (.tuple #[.int k b, .int l d]) := by rw [h, h']
theorem ret_bool {a b : Bool} (h : a = b) : Ending.returned (.bool a) = .returned (.bool b) := by rw [h]

theorem ret_ib {k : IntKind} {a b : Int} {c d : Bool} (h : a = b) (h' : c = d) : Ending.returned (.tuple #[.int k a, .bool c]) = .returned (.tuple #[.int k b, .bool d]) := by rw [h, h']
theorem ret_iib {k l : IntKind} {a b a' b' : Int} {c d : Bool} (h : a = b) (h2 : a' = b') (h' : c = d) : Ending.returned (.tuple #[.int k a, .int l a', .bool c]) = .returned (.tuple #[.int k b, .int l b', .bool d]) := by rw [h, h2, h']

/-! words -/
theorem shl_val (x n : Nat) : IntKind.u64.wrap (((x : Nat) : Int) * 2 ^ n) = ((x * 2 ^ n % 18446744073709551616 : Nat) : Int) := by
  have e : ((x : Nat) : Int) * 2 ^ n = ((x * 2 ^ n : Nat) : Int) := by simp
  rw [e, IntKind.wrap_u64]
  exact (Int.natCast_emod _ _).symm
theorem shr_val (x n : Nat) : ((x : Nat) : Int) / 2 ^ n = ((x / 2 ^ n : Nat) : Int) := by simp
theorem wrap64_nat (n : Nat) : IntKind.u64.wrap ((n : Nat) : Int) = ((n % 18446744073709551616 : Nat) : Int) := by
  rw [IntKind.wrap_u64]; omega
theorem wrap32_nat (n : Nat) : IntKind.u32.wrap ((n : Nat) : Int) = ((n % 4294967296 : Nat) : Int) := by
  rw [IntKind.wrap_u32']; omega
theorem and_mask (n : Nat) (h : n < 18446744073709551616) : bits .and .u64 ((n : Nat) : Int) 4294967295 = ((n % 4294967296 : Nat) : Int) := by
  have := u64_and_nat n 4294967295 h (by omega)
  rw [show ((4294967295 : Nat) : Int) = 4294967295 from rfl] at this
  rw [this, show (4294967295 : Nat) = 2 ^ 32 - 1 from rfl, Nat.and_two_pow_sub_one_eq_mod]
theorem div_half (n : Nat) : ((n : Nat) : Int) / 4294967296 = ((n / 4294967296 : Nat) : Int) := by omega
theorem mul_half (n : Nat) : ((n : Nat) : Int) * 4294967296 = ((n * 4294967296 : Nat) : Int) := by omega
theorem split_half (n : Nat) : n / 4294967296 * 4294967296 + n % 4294967296 = n := by omega
theorem or_half (a b : Nat) (ha : a % 4294967296 = 0) (h : a < 18446744073709551616) (hb : b < 4294967296) : bits .or .u64 ((a : Nat) : Int) ((b : Nat) : Int) = ((a + b : Nat) : Int) := by
  rw [u64_or_nat _ _ h (by omega), nat_join 32 a b (by omega) (by omega)]
end Vic
end
section
namespace Vic
open Go
def strLen : Value → Nat
  | .string s => s.size
  | _ => 0
theorem cut_len1 (s p : List UInt8) : (Lib.cut s p).1.length ≤ s.length := by
  unfold Lib.cut; split
  · simp; omega
  · exact Nat.le_refl _
theorem cut_len2 (s p : List UInt8) : (Lib.cut s p).2.1.length ≤ s.length := by
  unfold Lib.cut; split
  · simp
  · simp
theorem pre_one (c b : UInt8) (l : List UInt8) : [c].isPrefixOf (b :: l) = (c == b) := by
  show (c == b && [].isPrefixOf l) = _
  cases l <;> simp
theorem index_none {c : UInt8} : ∀ {l : List UInt8}, c ∉ l → Lib.index l [c] = -1
  | [], _ => rfl
  | b :: l, h => by
    have hb : b ≠ c := fun e => h (by simp [e])
    have ih := index_none (l := l) (fun e => h (List.mem_cons_of_mem _ e))
    unfold Lib.index
    rw [if_neg (by simp [pre_one, Ne.symm hb]), ih]
    rfl
theorem index_app {c : UInt8} : ∀ {a : List UInt8} (b : List UInt8), c ∉ a → Lib.index (a ++ c :: b) [c] = (a.length : Nat)
  | [], b, _ => by
    show Lib.index (c :: b) [c] = _
    unfold Lib.index
    rw [if_pos (by simp [pre_one])]; rfl
  | x :: a, b, h => by
    have hx : x ≠ c := fun e => h (by simp [e])
    have ih := index_app (a := a) b (fun e => h (List.mem_cons_of_mem _ e))
    show Lib.index (x :: (a ++ c :: b)) [c] = _
    unfold Lib.index
    rw [if_neg (by simp [pre_one, Ne.symm hx]), ih, if_neg (by simp)]
    simp
theorem cut_none {c : UInt8} {l : List UInt8} (h : c ∉ l) : Lib.cut l [c] = (l, [], false) := by
  unfold Lib.cut; rw [index_none h, if_neg (by omega)]
theorem cut_app {c : UInt8} {a : List UInt8} (b : List UInt8) (h : c ∉ a) : Lib.cut (a ++ c :: b) [c] = (a, b, true) := by
  unfold Lib.cut
  rw [index_app b h, if_pos (by omega)]
  simp
theorem take_bytes (l : List UInt8) (k : Nat) : (⟨l.toArray⟩ : ByteArray).extract 0 k = ⟨(l.take k).toArray⟩ := by
  apply ByteArray.ext
  simp [ByteArray.extract, ByteArray.copySlice]
theorem str_len {l : List UInt8} (h : (⟨l.toArray⟩ : ByteArray).size ≤ maxLen) : l.length ≤ 9223372036854775807 := by
  have h2 : l.length ≤ maxLen := by simpa [ByteArray.size] using h
  unfold maxLen at h2; omega
end Vic
end
section
namespace Vic
open Go
abbrev Txt := List UInt8

def badC (c : UInt8) : Bool := c ≤ 32 || 126 < c
def nameB (s : Txt) : Bool := !s.any badC && 1 ≤ s.length && s.length ≤ 20
def blankC (c : UInt8) : Bool := c == 32 || c == 9 || c == 13
def fldsP (p : UInt8 → Bool) : Txt → Txt → List Txt
  | [], cur => if cur = [] then [] else [cur]
  | c :: t, cur => if p c then (if cur = [] then fldsP p t [] else cur :: fldsP p t []) else fldsP p t (cur ++ [c])
def fieldsB (s : Txt) : List Txt := fldsP blankC s []

/-- the lines of a text -/
def spl : Txt → List Txt
  | [] => []
  | c :: t => if c = 10 then [] :: spl t else match spl t with | [] => [[c]] | l :: ls => (c :: l) :: ls
theorem spl_app {a : Txt} (b : Txt) (h : (10 : UInt8) ∉ a) : spl (a ++ 10 :: b) = a :: spl b := by
  induction a with
  | nil => simp [spl]
  | cons c t ih =>
    have hc : c ≠ 10 := fun e => h (by simp [e])
    have ht : (10 : UInt8) ∉ t := fun e => h (by simp [e])
    rw [List.cons_append, spl, if_neg hc, ih ht]
theorem spl_one : ∀ {a : Txt}, (10 : UInt8) ∉ a → a ≠ [] → spl a = [a]
  | [], _, h => absurd rfl h
  | [c], h, _ => by
    have hc : c ≠ 10 := fun e => h (by simp [e])
    simp [spl, hc]
  | c :: d :: t, h, _ => by
    have hc : c ≠ 10 := fun e => h (by simp [e])
    rw [spl, if_neg hc, spl_one (a := d :: t) (fun e => h (List.mem_cons_of_mem _ e)) (by simp)]
theorem spl_nil {t : Txt} : spl t = [] ↔ t = [] := by
  cases t with
  | nil => simp [spl]
  | cons c t =>
    rw [spl]
    split
    · simp
    · split <;> simp
/-- what stands ahead of the first newline, what behind it -/
def cutNl (t : Txt) : Txt × Txt := ((Lib.cut t [10]).1, (Lib.cut t [10]).2.1)
theorem spl_cut {t : Txt} (h : t ≠ []) : spl t = (cutNl t).1 :: spl (cutNl t).2 ∧ (cutNl t).2.length < t.length ∧ (10 : UInt8) ∉ (cutNl t).1 := by
  unfold cutNl
  by_cases hm : (10 : UInt8) ∈ t
  · obtain ⟨a, b, rfl, ha⟩ := List.eq_append_cons_of_mem hm
    rw [cut_app b ha]
    exact ⟨spl_app b ha, by simp; omega, ha⟩
  · rw [cut_none hm]
    exact ⟨by rw [spl_one hm h]; rfl, by simpa using List.length_pos_iff.2 h, hm⟩

/-- what is wrong with a line: 6, 1; 0: nothing -/
def badL (c : UInt8) : Bool := 126 < c || (c < 32 && c != 9)
def trimCr (s : Txt) : Txt := Lib.trimSuffix s [13]
def lookB (s : Txt) : Int := if 200 < s.length then 6 else if (trimCr s).any badL then 1 else 0

structure LineM where
  no : Nat
  head : Bool
  words : List Txt
def lineOf (no : Nat) (s : Txt) : List LineM :=
  if fieldsB s = [] ∨ s.head? = some 42 then [] else [⟨no, s.head? != some 32 && s.head? != some 9, fieldsB s⟩]
/-- the text's lines from line no on: those of words; where it can't be, why -/
def getFrom : Nat → List Txt → List LineM → List LineM × Nat × Int
  | _, [], acc => (acc, 0, 0)
  | no, s :: ls, acc => if 2500 < no then ([], no, 6) else if lookB s ≠ 0 then ([], no, lookB s) else getFrom (no + 1) ls (acc ++ lineOf no s)
def wordsGet (t : Txt) : List LineM × Nat × Int := getFrom 1 (spl t) []

/-! the fields of a text of ASCII bytes -/
def blankR (r : Nat) : Bool := r == 32 || r == 9 || r == 13
theorem blankR_c (c : UInt8) : blankR c.toNat = blankC c := by
  unfold blankR blankC
  rw [Bool.eq_iff_iff]
  simp [← UInt8.toNat_inj]
theorem spans_flds (s : Txt) (ha : ∀ c ∈ s, c.toNat < 128) : ∀ (suf pre : Txt) (f : Nat) (st : Option Nat) (acc : List (Nat × Nat)), s = pre ++ suf → suf.length ≤ f → (∀ a, st = some a → a < pre.length) →
    (Lib.closeSpans ⟨s.toArray⟩ (Lib.spansFromP blankR ⟨s.toArray⟩ f pre.length st acc)).map (fun x => (⟨s.toArray⟩ : ByteArray).extract x.1 x.2) =
      acc.map (fun x => (⟨s.toArray⟩ : ByteArray).extract x.1 x.2) ++ (fldsP blankC suf (match st with | some a => pre.drop a | none => [])).map (fun l => (⟨l.toArray⟩ : ByteArray))
  | [], pre, f, st, acc, hs, hf, hst => by
    have hn : ¬ pre.length < (⟨s.toArray⟩ : ByteArray).size := by simp [ByteArray.size, hs]
    rw [Lib.spansFromP_end _ _ _ _ _ _ hn]
    subst hs
    cases st with
    | none => simp [Lib.closeSpans, fldsP]
    | some a =>
      have hl := hst a rfl
      have hne : pre.drop a ≠ [] := by
        intro e
        have := congrArg List.length e
        simp at this; omega
      simp only [Lib.closeSpans, fldsP, hne, if_false, List.map_append, List.map_cons, List.map_nil, List.append_nil]
      congr 2
      rw [Lib.extract_mk]
      simp only [ByteArray.size, List.size_toArray, List.append_nil]
      rw [List.take_of_length_le (by simp)]
  | c :: suf, pre, 0, st, acc, hs, hf, hst => by simp at hf
  | c :: suf, pre, f + 1, st, acc, hs, hf, hst => by
    have hlt : pre.length < (⟨s.toArray⟩ : ByteArray).size := by simp [ByteArray.size, hs]
    have hget : (⟨s.toArray⟩ : ByteArray)[pre.length]'hlt = c := by
      show s.toArray[pre.length]'_ = c
      simp [hs]
    have hdec := decode_ascii ⟨s.toArray⟩ pre.length hlt (by rw [hget]; exact ha c (by rw [hs]; simp))
    rw [hget] at hdec
    have hs2 : s = (pre ++ [c]) ++ suf := by rw [hs]; simp
    have hl2 : (pre ++ [c]).length = pre.length + 1 := by simp
    have hext : ∀ a, a < pre.length → (⟨s.toArray⟩ : ByteArray).extract a pre.length = ⟨(pre.drop a).toArray⟩ := fun a ha => by
      rw [Lib.extract_mk]
      congr 2
      rw [hs, List.drop_append_of_le_length (by omega), List.take_append_of_le_length (by simp), List.take_of_length_le (by simp)]
    unfold Lib.spansFromP
    rw [if_pos hlt, hdec]
    simp only [blankR_c]
    by_cases hb : blankC c = true
    · rw [if_pos hb]
      have key : ∀ acc', (Lib.closeSpans ⟨s.toArray⟩ (Lib.spansFromP blankR ⟨s.toArray⟩ f (pre.length + 1) none acc')).map (fun x => (⟨s.toArray⟩ : ByteArray).extract x.1 x.2) = acc'.map (fun x => (⟨s.toArray⟩ : ByteArray).extract x.1 x.2) ++ (fldsP blankC suf []).map (fun l => (⟨l.toArray⟩ : ByteArray)) := fun acc' => by
        have := spans_flds s ha suf (pre ++ [c]) f none acc' hs2 (by simpa using hf) (fun a h => by cases h)
        rwa [hl2] at this
      cases st with
      | none =>
        simp only [fldsP, hb, if_true]
        exact key acc
      | some a =>
        have hl := hst a rfl
        have hne : pre.drop a ≠ [] := by
          intro e
          have := congrArg List.length e
          simp at this; omega
        simp only [fldsP, hb, hne, if_true, if_false]
        rw [key, List.map_append, List.append_assoc]
        simp [hext a hl]
    · rw [if_neg hb]
      cases st with
      | none =>
        have := spans_flds s ha suf (pre ++ [c]) f (some pre.length) acc hs2 (by simpa using hf) (fun a h => by cases h; simp)
        rw [hl2] at this
        simp only [fldsP, hb]
        rw [this]
        simp
      | some a =>
        have hl := hst a rfl
        have := spans_flds s ha suf (pre ++ [c]) f (some a) acc hs2 (by simpa using hf) (fun a' h => by cases h; simp; omega)
        rw [hl2] at this
        simp only [fldsP, hb]
        rw [this]
        simp [List.drop_append_of_le_length (Nat.le_of_lt hl)]
theorem goFields_flds (s : Txt) (ha : ∀ c ∈ s, c.toNat < 128) : Lib.goFieldsP blankR ⟨s.toArray⟩ = (fieldsB s).map (fun l => (⟨l.toArray⟩ : ByteArray)) := by
  have h := spans_flds s ha s [] s.length none [] rfl (Nat.le_refl _) (fun a h => by cases h)
  simpa [Lib.goFieldsP, Lib.spansOfP, fieldsB, ByteArray.size] using h
end Vic
end
section
namespace Vic
open Go
def blank2 (c : UInt8) : Bool := c == 32 || c == 9
def wsStep (st : List Txt × Bool) (c : UInt8) : List Txt × Bool :=
  if blank2 c then (st.1, false)
  else if st.2 then (st.1.dropLast ++ [st.1.getLastD [] ++ [c]], true)
  else (st.1 ++ [[c]], true)
def wsOf (s : Txt) : List Txt := (s.foldl wsStep ([], false)).1
def crSp (s : Txt) : Txt := if s.getLast? = some 13 then s.dropLast ++ [32] else s
def refLineOf (no : Nat) (t : Txt) : List LineM :=
  if t.head? = none ∨ t.head? = some 42 then [] else if wsOf t = [] then [] else [⟨no, t.head? != some 32 && t.head? != some 9, wsOf t⟩]
def refFrom : Nat → List Txt → List LineM → List LineM × Nat × Int
  | _, [], acc => (acc, 0, 0)
  | i, s :: ls, acc => if 2500 ≤ i ∨ 200 < s.length then ([], i + 1, 6) else if (crSp s).any badL then ([], i + 1, 1) else refFrom (i + 1) ls (acc ++ refLineOf (i + 1) (crSp s))

theorem ws_flds : ∀ (s pre : List UInt8) (l : List Txt) (cur : Txt) , (s.foldl wsStep (l, false)).1 = l ++ fldsP blank2 s [] ∧ (cur ≠ [] → (s.foldl wsStep (l ++ [cur], true)).1 = l ++ fldsP blank2 s cur)
  | [], _, l, cur => ⟨by simp [fldsP], fun h => by simp [fldsP, h]⟩
  | c :: s, pre, l, cur => by
    constructor
    · rw [List.foldl_cons, wsStep, fldsP]
      by_cases hb : blank2 c = true
      · simp only [hb, if_true]
        exact (ws_flds s pre l cur).1
      · simp only [hb, if_false, Bool.false_eq_true, List.nil_append]
        exact (ws_flds s pre l [c]).2 (by simp)
    · intro hc
      rw [List.foldl_cons, wsStep, fldsP]
      by_cases hb : blank2 c = true
      · simp only [hb, hc, if_true, if_false]
        rw [(ws_flds s pre (l ++ [cur]) cur).1]
        simp
      · simp only [hb, if_false, Bool.false_eq_true, if_true]
        have e : (l ++ [cur]).dropLast ++ [(l ++ [cur]).getLastD [] ++ [c]] = l ++ [cur ++ [c]] := by simp
        rw [e]
        exact (ws_flds s pre l (cur ++ [c])).2 (by simp)
theorem wsOf_flds (s : Txt) : wsOf s = fldsP blank2 s [] := by
  have := (ws_flds s [] [] []).1
  simpa [wsOf] using this
theorem flds_same {p q : UInt8 → Bool} : ∀ (s cur : Txt), (∀ c ∈ s, p c = q c) → fldsP p s cur = fldsP q s cur
  | [], cur, _ => rfl
  | c :: s, cur, h => by
    have hc := h c (by simp)
    have ih := fun cur => flds_same (p := p) (q := q) s cur (fun d hd => h d (by simp [hd]))
    simp only [fldsP, hc, ih]
theorem flds_last {p : UInt8 → Bool} {d : UInt8} (hd : p d = true) : ∀ (s cur : Txt), fldsP p (s ++ [d]) cur = fldsP p s cur
  | [], cur => by
    by_cases h : cur = [] <;> simp [fldsP, hd, h]
  | c :: s, cur => by
    rw [List.cons_append, fldsP, fldsP]
    simp only [flds_last hd s]
theorem trimCr_eq (s : Txt) : trimCr s = if s.getLast? = some 13 then s.dropLast else s := by
  unfold trimCr Lib.trimSuffix Lib.hasSuffix
  rcases List.eq_nil_or_concat s with rfl | ⟨t, c, rfl⟩
  · simp
  · by_cases hc : c = 13
    · subst hc; simp
    · simp [hc]
      exact fun e => hc e.symm
theorem crSp_bad (s : Txt) : (crSp s).any badL = (trimCr s).any badL := by
  rw [trimCr_eq]
  unfold crSp
  split
  · simp [badL]
  · rfl
theorem line_same (s : Txt) (no : Nat) (h : (trimCr s).any badL = false) : refLineOf no (crSp s) = lineOf no s := by
  have hn : ∀ c ∈ trimCr s, c ≠ 13 := fun c hc e => by
    have := List.any_eq_false.1 h c hc
    subst e
    exact this (by decide)
  rw [trimCr_eq] at hn
  unfold refLineOf lineOf fieldsB
  rw [wsOf_flds]
  rcases List.eq_nil_or_concat s with rfl | ⟨t, c, rfl⟩
  · simp [crSp, fldsP]
  · rw [List.concat_eq_append] at hn ⊢
    by_cases hc : c = 13
    · subst hc
      simp only [List.getLast?_concat, if_true, List.dropLast_concat] at hn
      have e1 : crSp (t ++ [13]) = t ++ [32] := by simp [crSp]
      have e2 : fldsP blankC (t ++ [13]) [] = fldsP blank2 (t ++ [32]) [] := by
        rw [flds_last (by decide), flds_last (by decide)]
        exact flds_same _ _ fun c hc => by
          have := hn c hc
          simp [blankC, blank2, this]
      rw [e1, e2]
      cases t with
      | nil => simp [fldsP, blank2]
      | cons d t =>
        by_cases h1 : d = 42
        · simp [h1]
        · by_cases h2 : fldsP blank2 (d :: (t ++ [32])) [] = []
          · simp [h1, h2]
          · simp [h1, h2]
    · have e1 : crSp (t ++ [c]) = t ++ [c] := by simp [crSp, hc]
      have hg : (t ++ [c]).getLast? ≠ some 13 := by simp [hc]
      rw [if_neg hg] at hn
      have e2 : fldsP blankC (t ++ [c]) [] = fldsP blank2 (t ++ [c]) [] := flds_same _ _ fun d hd => by
        have := hn d hd
        simp [blankC, blank2, this]
      rw [e1, e2]
      have hne : (t ++ [c]).head? ≠ none := by cases t <;> simp
      by_cases hf : fldsP blank2 (t ++ [c]) [] = []
      · simp [hf]
      · simp [hf, hne]
theorem ref_same : ∀ (ls : List Txt) (i : Nat) (acc : List LineM), refFrom i ls acc = getFrom (i + 1) ls acc
  | [], i, acc => rfl
  | s :: ls, i, acc => by
    rw [refFrom, getFrom]
    by_cases h1 : 2500 < i + 1
    · rw [if_pos (Or.inl (by omega)), if_pos h1]
    · rw [if_neg h1]
      unfold lookB
      by_cases h2 : 200 < s.length
      · rw [if_pos (Or.inr h2)]; simp [h2]
      · rw [if_neg (by omega), crSp_bad]
        by_cases h3 : (trimCr s).any badL = true
        · simp [h2, h3]
        · have h3' : (trimCr s).any badL = false := by simpa using h3
          rw [ref_same ls (i + 1), line_same s (i + 1) h3']
          simp [h2, h3']
end Vic
end
section
namespace Vic
open Go
theorem flds_skip {p : UInt8 → Bool} : ∀ (b s : Txt), (∀ c ∈ b, p c = true) → fldsP p (b ++ s) [] = fldsP p s []
  | [], s, _ => rfl
  | c :: b, s, h => by
    rw [List.cons_append, fldsP, h c (by simp)]
    simpa using flds_skip b s fun d hd => h d (by simp [hd])
theorem flds_word {p : UInt8 → Bool} : ∀ (w s cur : Txt), (∀ c ∈ w, p c = false) → fldsP p (w ++ s) cur = fldsP p s (cur ++ w)
  | [], s, cur, _ => by simp
  | c :: w, s, cur, h => by
    rw [List.cons_append, fldsP, h c (by simp)]
    simp only [Bool.false_eq_true, if_false]
    rw [flds_word w s (cur ++ [c]) fun d hd => h d (by simp [hd])]
    simp
theorem flds_end {p : UInt8 → Bool} {c : UInt8} (s cur : Txt) (hc : p c = true) (h : cur ≠ []) : fldsP p (c :: s) cur = cur :: fldsP p s [] := by
  rw [fldsP, hc]; simp [h]
theorem name_c {w : Txt} (h : nameB w = true) : w ≠ [] ∧ w.length ≤ 20 ∧ ∀ c ∈ w, badC c = false := by
  unfold nameB at h
  simp only [Bool.and_eq_true, Bool.not_eq_true', decide_eq_true_eq] at h
  obtain ⟨⟨h1, h2⟩, h3⟩ := h
  refine ⟨fun e => by subst e; simp at h2, h3, fun c hc => ?_⟩
  simpa using List.any_eq_false.1 h1 c hc
theorem badC_c {c : UInt8} (h : badC c = false) : blankC c = false ∧ badL c = false ∧ c ≠ 10 ∧ c ≠ 13 := by
  unfold badC at h
  simp only [Bool.or_eq_false_iff, decide_eq_false_iff_not] at h
  obtain ⟨h1, h2⟩ := h
  have hn : ∀ d : UInt8, d ≤ 32 → c ≠ d := fun d hd e => h1 (e ▸ hd)
  refine ⟨?_, ?_, hn 10 (by decide), hn 13 (by decide)⟩
  · simp [blankC, hn 32 (by decide), hn 9 (by decide), hn 13 (by decide)]
  · unfold badL
    have h3 : ¬ c < 32 := fun h => h1 (UInt8.le_of_lt h)
    simp [h2, h3]
/-- a line's pieces -/
def leadT (k : Nat) : Txt := ([[32], [9], [32, 32], [32, 9]] : List Txt).getD (k / 2 % 4) []
def midT (k : Nat) : Txt := ([[32], [9, 9]] : List Txt).getD (k / 8) []
def endT (k : Nat) : Txt := ([[], [13]] : List Txt).getD (k / 4 % 2) []
def noteT : List Txt := [[], [42, 32, 97, 32, 99, 111, 109, 109, 101, 110, 116], [32, 9, 32]]
def mainT (k : Nat) (w : Txt) : Txt := leadT k ++ (w ++ (midT k ++ (120 :: endT k)))
def blankLines (k : Nat) (w : Txt) : List Txt := (if k % 2 = 1 then noteT else []) ++ [mainT k w]
def blankPiece (k : Nat) (w : Txt) : Txt := (blankLines k w).flatMap fun l => l ++ [10]
theorem spl_lines : ∀ (ls : List Txt) (rest : Txt), (∀ l ∈ ls, (10 : UInt8) ∉ l) → spl (ls.flatMap (fun l => l ++ [10]) ++ rest) = ls ++ spl rest
  | [], rest, _ => rfl
  | l :: ls, rest, h => by
    rw [List.flatMap_cons, List.append_assoc, List.append_assoc, List.singleton_append, spl_app _ (h l (by simp)), spl_lines ls rest fun x hx => h x (by simp [hx])]
    rfl
theorem piece_facts : ∀ k, k < 16 → (∀ c ∈ leadT k, blankC c = true ∧ badL c = false ∧ c ≠ 10 ∧ c ≠ 13) ∧ (∀ c ∈ midT k, blankC c = true ∧ badL c = false ∧ c ≠ 10 ∧ c ≠ 13) ∧ leadT k ≠ [] ∧ midT k ≠ [] ∧ (leadT k).length ≤ 2 ∧ (midT k).length ≤ 2 ∧ (endT k = [] ∨ endT k = [13]) ∧ ((leadT k).head? = some 32 ∨ (leadT k).head? = some 9) := by decide
theorem main_fields {k : Nat} {w : Txt} (hk : k < 16) (hw : nameB w = true) : fieldsB (mainT k w) = [w, [120]] := by
  obtain ⟨f1, f2, f3, f4, _, _, f7, _⟩ := piece_facts k hk
  obtain ⟨w1, w2, w3⟩ := name_c hw
  unfold fieldsB mainT
  rw [flds_skip _ _ fun c hc => (f1 c hc).1, flds_word _ _ _ fun c hc => (badC_c (w3 c hc)).1, List.nil_append]
  obtain ⟨m, ms, hm⟩ : ∃ m ms, midT k = m :: ms := by
    cases h : midT k with
    | nil => exact absurd h f4
    | cons a b => exact ⟨a, b, rfl⟩
  rw [hm] at f2 ⊢
  rw [List.cons_append, flds_end _ _ (f2 m (by simp)).1 w1, flds_skip _ _ fun c hc => (f2 c (by simp [hc])).1]
  rcases f7 with e | e
  · rw [e]; rfl
  · rw [e]; rfl
theorem main_look {k : Nat} {w : Txt} (hk : k < 16) (hw : nameB w = true) : lookB (mainT k w) = 0 ∧ (10 : UInt8) ∉ mainT k w ∧ ∀ no, lineOf no (mainT k w) = [⟨no, false, [w, [120]]⟩] := by
  obtain ⟨f1, f2, f3, f4, f5, f6, f7, f8⟩ := piece_facts k hk
  obtain ⟨w1, w2, w3⟩ := name_c hw
  have hbad : ∀ c ∈ leadT k ++ (w ++ (midT k ++ [120])), badL c = false ∧ c ≠ 10 := fun c hc => by
    simp only [List.mem_append, List.mem_singleton] at hc
    rcases hc with hc | hc | hc | hc
    · exact ⟨(f1 c hc).2.1, (f1 c hc).2.2.1⟩
    · exact ⟨(badC_c (w3 c hc)).2.1, (badC_c (w3 c hc)).2.2.1⟩
    · exact ⟨(f2 c hc).2.1, (f2 c hc).2.2.1⟩
    · subst hc; decide
  have hm : mainT k w = (leadT k ++ (w ++ (midT k ++ [120]))) ++ endT k := by simp [mainT]
  have hlen : ¬ 200 < (mainT k w).length := by
    have : (endT k).length ≤ 1 := by rcases f7 with e | e <;> simp [e]
    rw [hm]; simp only [List.length_append, List.length_singleton]; omega
  have htrim : trimCr (mainT k w) = leadT k ++ (w ++ (midT k ++ [120])) := by
    rw [hm]
    generalize leadT k ++ (w ++ (midT k ++ [120])) = x at *
    unfold trimCr Lib.trimSuffix Lib.hasSuffix
    rcases f7 with e | e
    · rw [e, List.append_nil]
      have hx : x.getLast? ≠ some 13 := fun h => by
        have := hbad 13 (List.mem_of_getLast? h)
        exact absurd this.1 (by decide)
      have : ¬ ([13] : Txt) <:+ x := fun ⟨t, ht⟩ => hx (by rw [← ht]; simp)
      simp [this]
    · rw [e]; simp
  refine ⟨?_, ?_, fun no => ?_⟩
  · unfold lookB
    rw [if_neg hlen, htrim, if_neg]
    · rw [Bool.not_eq_true, List.any_eq_false]
      exact fun c hc => by simp [(hbad c hc).1]
  · rw [hm]
    intro h
    rcases List.mem_append.1 h with h | h
    · exact (hbad 10 h).2 rfl
    · rcases f7 with e | e
      · rw [e] at h; simp at h
      · rw [e] at h; simp at h
  · have hh : (mainT k w).head? = (leadT k).head? := by
      unfold mainT
      cases h : leadT k with
      | nil => exact absurd h f3
      | cons a b => rfl
    unfold lineOf
    rw [main_fields hk hw, hh]
    rcases f8 with e | e <;> simp [e]
theorem from_piece {k : Nat} {w : Txt} (hk : k < 16) (hw : nameB w = true) (no : Nat) (hno : no + 4 ≤ 2500) (more : List Txt) (acc : List LineM) :
    ∃ n, n ≤ 4 ∧ getFrom no (blankLines k w ++ more) acc = getFrom (no + n) more (acc ++ [⟨no + n - 1, false, [w, [120]]⟩]) := by
  obtain ⟨m1, _, m3⟩ := main_look hk hw
  have main : ∀ n acc, n ≤ 2500 → getFrom n (mainT k w :: more) acc = getFrom (n + 1) more (acc ++ [⟨n, false, [w, [120]]⟩]) := fun n acc hn => by
    rw [getFrom, if_neg (by omega), m1, if_neg (by simp), m3]
  unfold blankLines
  by_cases h : k % 2 = 1
  · rw [if_pos h]
    refine ⟨4, by omega, ?_⟩
    unfold noteT
    have l1 : ∀ n acc, n ≤ 2500 → ∀ ls, getFrom n ([] :: ls) acc = getFrom (n + 1) ls acc := fun n acc hn ls => by
      rw [getFrom, if_neg (by omega), show lookB [] = 0 from by decide, if_neg (by simp), show lineOf n [] = [] from rfl, List.append_nil]
    have l2 : ∀ n acc, n ≤ 2500 → ∀ ls, getFrom n ([42, 32, 97, 32, 99, 111, 109, 109, 101, 110, 116] :: ls) acc = getFrom (n + 1) ls acc := fun n acc hn ls => by
      rw [getFrom, if_neg (by omega), show lookB [42, 32, 97, 32, 99, 111, 109, 109, 101, 110, 116] = 0 from by decide, if_neg (by simp), show lineOf n [42, 32, 97, 32, 99, 111, 109, 109, 101, 110, 116] = [] from by simp [lineOf], List.append_nil]
    have l3 : ∀ n acc, n ≤ 2500 → ∀ ls, getFrom n ([32, 9, 32] :: ls) acc = getFrom (n + 1) ls acc := fun n acc hn ls => by
      rw [getFrom, if_neg (by omega), show lookB [32, 9, 32] = 0 from by decide, if_neg (by simp), show lineOf n [32, 9, 32] = [] from by simp [lineOf, fieldsB, fldsP, blankC], List.append_nil]
    simp only [List.cons_append, List.nil_append]
    rw [l1 no acc (by omega), l2 _ acc (by omega), l3 _ acc (by omega), main _ acc (by omega)]
    congr 1
  · rw [if_neg h]
    refine ⟨1, by omega, ?_⟩
    simp only [List.cons_append, List.nil_append]
    rw [main no acc (by omega)]
    congr 1
/-- of each pair a line -/
def SameLines (ls : List LineM) (ws : List Txt) : Prop := ls.length = ws.length ∧ ∀ (i : Nat) (l : LineM) (w : Txt), ls[i]? = some l → ws[i]? = some w → l.head = false ∧ l.words = [w, [120]]
theorem blank_all : ∀ (kw : List (Nat × Txt)) (no : Nat) (acc : List LineM) (ws : List Txt), (∀ p ∈ kw, p.1 < 16 ∧ nameB p.2 = true) → no + 4 * kw.length ≤ 2500 → SameLines acc ws →
    ∃ ls, getFrom no (spl (kw.flatMap fun p => blankPiece p.1 p.2)) acc = (ls, 0, 0) ∧ SameLines ls (ws ++ kw.map (·.2))
  | [], no, acc, ws, _, _, ha => ⟨acc, rfl, by simpa using ha⟩
  | p :: kw, no, acc, ws, h, hn, ha => by
    obtain ⟨hk, hw⟩ := h p (by simp)
    rw [List.length_cons] at hn
    obtain ⟨n, hn4, e⟩ := from_piece hk hw no (by omega) (spl (kw.flatMap fun p => blankPiece p.1 p.2)) acc
    have hno : ∀ l ∈ blankLines p.1 p.2, (10 : UInt8) ∉ l := fun l hl => by
      unfold blankLines at hl
      rcases List.mem_append.1 hl with hl | hl
      · split at hl
        · unfold noteT at hl
          simp only [List.mem_cons, List.not_mem_nil, or_false] at hl
          rcases hl with rfl | rfl | rfl <;> decide
        · simp at hl
      · simp at hl; subst hl; exact (main_look hk hw).2.1
    have ha2 : SameLines (acc ++ [⟨no + n - 1, false, [p.2, [120]]⟩]) (ws ++ [p.2]) := by
      refine ⟨by simp [ha.1], fun i l w hl hw => ?_⟩
      rcases Nat.lt_or_ge i acc.length with hi | hi
      · rw [List.getElem?_append_left hi] at hl
        rw [List.getElem?_append_left (by rw [← ha.1]; exact hi)] at hw
        exact ha.2 i l w hl hw
      · rw [List.getElem?_append_right hi] at hl
        rw [List.getElem?_append_right (by rw [← ha.1]; exact hi)] at hw
        have h0 : i - acc.length = 0 := by
          have := (List.getElem?_eq_some_iff.1 hl).1
          simpa using this
        rw [h0] at hl
        rw [← ha.1, h0] at hw
        simp at hl hw
        subst hl; subst hw
        exact ⟨rfl, rfl⟩
    obtain ⟨ls, e2, h2⟩ := blank_all kw (no + n) _ _ (fun q hq => h q (by simp [hq])) (by omega) ha2
    refine ⟨ls, ?_, by simpa using h2⟩
    rw [List.flatMap_cons, blankPiece, spl_lines _ _ hno, e, e2]
end Vic
end
section
namespace Vic
open Go
def limLine (n : Nat) : Txt := [120, 10] ++ List.replicate n 97 ++ [10, 121]
def limGood (n : Nat) : Bool := if 200 < n then (wordsGet (limLine n)).2 == (2, 6) && (wordsGet (limLine n)).1.length == 0 else (wordsGet (limLine n)).2.2 == 0 && (wordsGet (limLine n)).1.length == 3
theorem limLine_all : ((List.range 10).map (· + 195)).all limGood = true := by decide +kernel
theorem limLine_is {n : Nat} (h1 : 195 ≤ n) (h2 : n < 205) : limGood n = true := by
  refine List.all_eq_true.1 limLine_all n ?_
  simp only [List.mem_map, List.mem_range]
  exact ⟨n - 195, by omega, by omega⟩
theorem spl_newlines : ∀ m : Nat, spl (List.replicate m 10) = List.replicate m []
  | 0 => rfl
  | m + 1 => by rw [List.replicate_succ, spl, if_pos rfl, spl_newlines m, List.replicate_succ]
theorem lineOf_nil (no : Nat) : lineOf no [] = [] := by
  unfold lineOf
  rw [if_pos (Or.inl (by rfl))]
theorem lookB_nil : lookB [] = 0 := by rfl
theorem getFrom_newlines : ∀ (j k : Nat), k ≤ 2500 → getFrom (k + 1) (List.replicate j []) [] = if 2500 < k + j then ([], 2501, 6) else ([], 0, 0)
  | 0, k, hk => by
    rw [if_neg (by omega)]; rfl
  | j + 1, k, hk => by
    rw [List.replicate_succ, getFrom]
    by_cases h : 2500 < k + 1
    · obtain rfl : k = 2500 := by omega
      rw [if_pos h, if_pos (by omega)]
    · rw [if_neg h, lookB_nil, if_neg (by simp), lineOf_nil, List.append_nil, getFrom_newlines j (k + 1) (by omega)]
      have e : k + 1 + j = k + (j + 1) := by omega
      rw [e]
theorem limMany (m : Nat) : wordsGet (List.replicate m 10) = if 2500 < m then ([], 2501, 6) else ([], 0, 0) := by
  unfold wordsGet
  rw [spl_newlines, getFrom_newlines m 0 (by omega), Nat.zero_add]
end Vic
end
