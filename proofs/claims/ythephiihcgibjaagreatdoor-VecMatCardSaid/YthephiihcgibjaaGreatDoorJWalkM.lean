/- Plain law: matrices brought to steps: rank, rows and columns turned, solutions, inverses. No program in sight. And: Package mat: dot: the sum of the products of two rows. Package frac: Get at the text of nought: where what it gives lies. Package mat: New at texts that are fractions, nought or not: the walk. What is stored into a block that bears no number's type, no words and no sign leaves fractions as they are. No program in sight. Package mat: Times, At, Turn: what they give of a matrix that is read. Package mat: Turn: rows as columns. -/
import Derived.Test.YthephiihcgibjaaGreatDoorJWalkG
import Derived.Deep.RegionHeld
import Derived.Test.YthephiihcgibjaaGreatDoorJWalkD
import Derived.Test.YthephiihcgibjaaGreatDoorJWalkH
set_option linter.unusedVariables false
set_option linter.unusedSimpArgs false
namespace Vic
abbrev Mtx := Nat → Nat → Rat
/-- the sum of the first n -/
def sigma (n : Nat) (f : Nat → Rat) : Rat := match n with
  | 0 => 0
  | n + 1 => sigma n f + f n
theorem sigma_succ (n : Nat) (f : Nat → Rat) : sigma (n + 1) f = sigma n f + f n := rfl
theorem sigma_congr {n : Nat} {f g : Nat → Rat} (h : ∀ i, i < n → f i = g i) : sigma n f = sigma n g := by
  induction n with
  | zero => rfl
  | succ n ih => rw [sigma_succ, sigma_succ, ih fun i hi => h i (by omega), h n (by omega)]
theorem sigma_zero {n : Nat} {f : Nat → Rat} (h : ∀ i, i < n → f i = 0) : sigma n f = 0 := by
  induction n with
  | zero => rfl
  | succ n ih => rw [sigma_succ, ih fun i hi => h i (by omega), h n (by omega)]; grind
theorem sigma_add (n : Nat) (f g : Nat → Rat) : sigma n (fun i => f i + g i) = sigma n f + sigma n g := by
  induction n with
  | zero => show (0 : Rat) = 0 + 0; grind
  | succ n ih => rw [sigma_succ, sigma_succ, sigma_succ, ih]; grind
theorem sigma_mul (n : Nat) (c : Rat) (f : Nat → Rat) : sigma n (fun i => c * f i) = c * sigma n f := by
  induction n with
  | zero => simp [sigma]
  | succ n ih => rw [sigma_succ, sigma_succ, ih]; grind
theorem sigma_mul_right (n : Nat) (c : Rat) (f : Nat → Rat) : sigma n (fun i => f i * c) = sigma n f * c := by
  rw [Rat.mul_comm, ← sigma_mul]; exact sigma_congr fun i _ => Rat.mul_comm _ _
theorem sigma_swap (n m : Nat) (f : Nat → Nat → Rat) : sigma n (fun i => sigma m (fun j => f i j)) = sigma m (fun j => sigma n (fun i => f i j)) := by
  induction n with
  | zero => simp only [sigma]; exact (sigma_zero fun _ _ => rfl).symm
  | succ n ih => simp only [sigma_succ]; rw [ih, ← sigma_add]
theorem sigma_one {n i : Nat} (hi : i < n) {f : Nat → Rat} (h : ∀ j, j < n → j ≠ i → f j = 0) : sigma n f = f i := by
  induction n with
  | zero => omega
  | succ n ih =>
    rw [sigma_succ]
    by_cases hn : i = n
    · subst hn
      rw [sigma_zero fun j hj => h j (by omega) (by omega)]; grind
    · rw [ih (by omega) fun j hj hne => h j (by omega) hne, h n (by omega) (by omega)]; grind
/-- one more, or none, behind the first ones -/
theorem sigma_drop {n i : Nat} (hi : i < n) (f : Nat → Rat) : sigma n f = f i + sigma n (fun j => if j = i then 0 else f j) := by
  have h1 : sigma n f = sigma n (fun j => (if j = i then f i else 0) + (if j = i then 0 else f j)) := sigma_congr fun j _ => by
    by_cases h : j = i
    · subst h; simp only [if_pos]; grind
    · simp only [if_neg h]; grind
  rw [h1, sigma_add, sigma_one (i := i) hi (fun j _ hne => by simp [hne])]
  simp
def delta (i j : Nat) : Rat := if i = j then 1 else 0
theorem delta_self (i : Nat) : delta i i = 1 := by simp [delta]
theorem delta_ne {i j : Nat} (h : i ≠ j) : delta i j = 0 := by simp [delta, h]
theorem sigma_delta {n i : Nat} (hi : i < n) (f : Nat → Rat) : sigma n (fun j => delta i j * f j) = f i := by
  rw [sigma_one (i := i) hi fun j _ hne => by rw [delta_ne (Ne.symm hne)]; grind]
  rw [delta_self]; grind
theorem sigma_delta' {n i : Nat} (hi : i < n) (f : Nat → Rat) : sigma n (fun j => f j * delta j i) = f i := by
  rw [sigma_one (i := i) hi fun j _ hne => by rw [delta_ne hne]; grind]
  rw [delta_self]; grind
/-- products -/
def mulM (n : Nat) (A B : Mtx) : Mtx := fun i k => sigma n fun j => A i j * B j k
theorem mulM_assoc (n m : Nat) (A B C : Mtx) (i k : Nat) : mulM m (mulM n A B) C i k = mulM n A (mulM m B C) i k := by
  unfold mulM
  have h1 : sigma m (fun j => sigma n (fun t => A i t * B t j) * C j k) = sigma m (fun j => sigma n (fun t => A i t * (B t j * C j k))) := sigma_congr fun j _ => by
    rw [← sigma_mul_right]; exact sigma_congr fun t _ => Rat.mul_assoc _ _ _
  rw [h1, sigma_swap]
  exact sigma_congr fun t _ => sigma_mul _ _ _

/-- a row is put together of rows -/
def Span (n : Nat) (N : Mtx) (v : Nat → Rat) : Prop := ∃ c : Nat → Rat, ∀ k, v k = sigma n fun i => c i * N i k
theorem Span.row {n : Nat} {N : Mtx} {i : Nat} (hi : i < n) : Span n N (N i) := ⟨fun j => delta i j, fun k => (sigma_delta hi fun j => N j k).symm⟩
theorem Span.add {n : Nat} {N : Mtx} {u v : Nat → Rat} (hu : Span n N u) (hv : Span n N v) : Span n N (fun k => u k + v k) := by
  obtain ⟨c, hc⟩ := hu
  obtain ⟨d, hd⟩ := hv
  refine ⟨fun i => c i + d i, fun k => ?_⟩
  show u k + v k = _
  rw [hc, hd, ← sigma_add]
  exact sigma_congr fun i _ => by grind
theorem Span.smul {n : Nat} {N : Mtx} {u : Nat → Rat} (hu : Span n N u) (a : Rat) : Span n N (fun k => a * u k) := by
  obtain ⟨c, hc⟩ := hu
  refine ⟨fun i => a * c i, fun k => ?_⟩
  show a * u k = _
  rw [hc, ← sigma_mul]
  exact sigma_congr fun i _ => by grind
theorem Span.congr {n : Nat} {N : Mtx} {u v : Nat → Rat} (hu : Span n N u) (h : ∀ k, v k = u k) : Span n N v := by
  obtain ⟨c, hc⟩ := hu
  exact ⟨c, fun k => by rw [h, hc]⟩
theorem Span.zero (n : Nat) (N : Mtx) : Span n N (fun _ => 0) := ⟨fun _ => 0, fun k => (sigma_zero fun i _ => by grind).symm⟩
theorem Span.trans {n m : Nat} {M N : Mtx} {v : Nat → Rat} (h : Span n M v) (hm : ∀ i, i < n → Span m N (M i)) : Span m N v := by
  obtain ⟨c, hc⟩ := h
  have : ∀ t, t ≤ n → Span m N (fun k => sigma t fun i => c i * M i k) := by
    intro t
    induction t with
    | zero => intro _; exact Span.zero m N
    | succ t ih => intro ht; exact (ih (by omega)).add ((hm t (by omega)).smul (c t))
  exact (this n (Nat.le_refl _)).congr hc

/-! one step -/
theorem clr_span {M : Mtx} {n at_ col p : Nat} (ha : at_ < n) (hp : p < n) (h0 : M p col ≠ 0) :
    (∀ i, i < n → Span n M (clr (fun k => M (swapI at_ p k)) at_ col i)) ∧ ∀ i, i < n → Span n (clr (fun k => M (swapI at_ p k)) at_ col) (M i) := by
  have hsa : swapI at_ p at_ = p := by simp [swapI]
  constructor
  · intro i hi
    by_cases h : i = at_
    · subst h
      refine ((Span.row (N := M) hp).smul (M p col)⁻¹).congr fun k => ?_
      simp only [clr, if_pos, hsa]; rw [Rat.div_def, Rat.mul_comm]
    · refine ((Span.row (N := M) (swapI_lt ha hp hi)).add ((Span.row (N := M) hp).smul (-(M (swapI at_ p i) col) * (M p col)⁻¹))).congr fun k => ?_
      simp only [clr, if_neg h, hsa, Rat.div_def]; grind
  · have hat : ∀ k, clr (fun k => M (swapI at_ p k)) at_ col at_ k = M p k / M p col := fun k => by simp only [clr, if_pos, hsa]
    have hother : ∀ i, i ≠ at_ → ∀ k, clr (fun k => M (swapI at_ p k)) at_ col i k = M (swapI at_ p i) k - M (swapI at_ p i) col * (M p k / M p col) := fun i h k => by simp only [clr, if_neg h, hsa]
    intro i hi
    by_cases h : i = p
    · subst h
      refine ((Span.row (N := clr (fun k => M (swapI at_ i k)) at_ col) ha).smul (M i col)).congr fun k => ?_
      rw [hat]; rw [Rat.div_def]; grind
    · have hj : swapI at_ p (swapI at_ p i) = i := by unfold swapI; grind
      have hne : swapI at_ p i ≠ at_ := by intro e; have := hj; rw [e, hsa] at this; exact h this.symm
      refine ((Span.row (N := clr (fun k => M (swapI at_ p k)) at_ col) (swapI_lt ha hp hi)).add ((Span.row (N := clr (fun k => M (swapI at_ p k)) at_ col) ha).smul (M i col))).congr fun k => ?_
      rw [hother _ hne, hat, hj]; grind
/-- what stands when columns have been brought to steps: the first at_ rows bear a one each, alone in its column; the others have noughts so far -/
structure Steps (rows col at_ : Nat) (M : Mtx) (c : Nat → Nat) : Prop where
  le : at_ ≤ rows
  lt : ∀ j, j < at_ → c j < col
  one : ∀ j i, j < at_ → i < rows → M i (c j) = delta i j
  zero : ∀ i k, at_ ≤ i → i < rows → k < col → M i k = 0
theorem Steps.skip {rows col at_ : Nat} {M : Mtx} {c : Nat → Nat} (h : Steps rows col at_ M c) (hz : ∀ i, at_ + i < rows → M (at_ + i) col = 0) : Steps rows (col + 1) at_ M c :=
  ⟨h.le, fun j hj => by have := h.lt j hj; omega, h.one, fun i k hi hr hk => by
    by_cases e : k = col
    · subst e
      have := hz (i - at_) (by omega)
      rwa [show at_ + (i - at_) = i by omega] at this
    · exact h.zero i k hi hr (by omega)⟩
theorem Steps.step {rows col at_ i0 : Nat} {M : Mtx} {c : Nat → Nat} (h : Steps rows col at_ M c) (hr : at_ + i0 < rows) (h0 : M (at_ + i0) col ≠ 0) :
    Steps rows (col + 1) (at_ + 1) (clr (fun k => M (swapI at_ (at_ + i0) k)) at_ col) (fun j => if j = at_ then col else c j) := by
  have hsa : swapI at_ (at_ + i0) at_ = at_ + i0 := by simp [swapI]
  have hlow : ∀ k, k < at_ → swapI at_ (at_ + i0) k = k := fun k hk => by unfold swapI; rw [if_neg (by omega), if_neg (by omega)]
  have hhigh : ∀ k, at_ ≤ k → k < rows → at_ ≤ swapI at_ (at_ + i0) k ∧ swapI at_ (at_ + i0) k < rows := fun k hk hr => by unfold swapI; grind
  have hone : M (at_ + i0) col / M (at_ + i0) col = 1 := by rw [Rat.div_def]; exact Rat.mul_inv_cancel _ h0
  have hM : ∀ j i, j < at_ → i < rows → M (swapI at_ (at_ + i0) i) (c j) = delta i j := fun j i hj hi => by
    by_cases hia : i < at_
    · rw [hlow i hia]; exact h.one j i hj hi
    · obtain ⟨e1, e2⟩ := hhigh i (by omega) hi
      rw [h.one j _ hj e2, delta_ne (by omega), delta_ne (by omega)]
  refine ⟨by omega, fun j hj => ?_, fun j i hj hi => ?_, fun i k hi hr' hk => ?_⟩
  · by_cases e : j = at_
    · simp [e]
    · have := h.lt j (by omega); simp only [e, if_false]; omega
  · by_cases e : j = at_
    · subst e
      simp only [if_pos]
      by_cases e2 : i = j
      · subst e2
        simp only [clr, if_pos, hsa, hone, delta_self]
      · simp only [clr, if_neg e2, hsa, hone, delta_ne e2]; grind
    · simp only [e, if_false]
      have hz : M (at_ + i0) (c j) = 0 := by rw [h.one j _ (by omega) hr, delta_ne (by omega)]
      by_cases e2 : i = at_
      · subst e2
        simp only [clr, if_pos, hsa, hz]
        rw [delta_ne (by omega), Rat.div_def]; grind
      · simp only [clr, if_neg e2, hsa, hz]
        rw [hM j i (by omega) hi, Rat.div_def]; grind
  · obtain ⟨e1, e2⟩ := hhigh i (by omega) hr'
    simp only [clr, if_neg (show i ≠ at_ by omega), hsa]
    by_cases e : k = col
    · subst e
      rw [hone]; grind
    · rw [h.zero _ k e1 e2 (by omega), h.zero (at_ + i0) k (by omega) hr (by omega), Rat.div_def]; grind
theorem firstRow_cases (M : Mtx) (rows col at_ : Nat) : (firstRow M rows col at_ = none ∧ ∀ i, at_ + i < rows → M (at_ + i) col = 0) ∨ ∃ i, firstRow M rows col at_ = some i ∧ at_ + i < rows ∧ M (at_ + i) col ≠ 0 := by
  cases h : firstRow M rows col at_ with
  | none =>
    refine .inl ⟨rfl, fun i hi => ?_⟩
    unfold firstRow at h
    have := List.find?_eq_none.1 h i (List.mem_range.2 (by omega))
    simpa using this
  | some i =>
    refine .inr ⟨i, rfl, ?_⟩
    unfold firstRow at h
    have h1 := List.find?_some h
    have h2 := List.mem_range.1 (List.mem_of_find?_eq_some h)
    exact ⟨by omega, by simpa using h1⟩
/-- what is brought to steps -/
structure Red (rows ncols : Nat) (M N : Mtx) (at_ : Nat) (c : Nat → Nat) : Prop where
  st : Steps rows ncols at_ N c
  to_ : ∀ i, i < rows → Span rows M (N i)
  of_ : ∀ i, i < rows → Span rows N (M i)
theorem redGo_red (rows ncols : Nat) : ∀ (r at_ : Nat) (M : Mtx) (c : Nat → Nat), r ≤ ncols → Steps rows (ncols - r) at_ M c → ∃ c', Red rows ncols M (redGo rows ncols r at_ M).2 (redGo rows ncols r at_ M).1 c' := by
  intro r
  induction r with
  | zero => intro at_ M c _ hs; exact ⟨c, hs, fun i hi => Span.row hi, fun i hi => Span.row hi⟩
  | succ r ih =>
    intro at_ M c hr hs
    have e1 : ncols - (r + 1) + 1 = ncols - r := by omega
    unfold redGo
    by_cases h : at_ < rows
    · rw [if_pos h]
      rcases firstRow_cases M rows (ncols - (r + 1)) at_ with ⟨h1, h2⟩ | ⟨i, h1, h2, h3⟩
      · rw [h1]
        have := hs.skip h2
        rw [e1] at this
        exact ih at_ M c (by omega) this
      · rw [h1]
        have := hs.step h2 h3
        rw [e1] at this
        obtain ⟨c', st, to_, of_⟩ := ih (at_ + 1) _ _ (by omega) this
        obtain ⟨k1, k2⟩ := clr_span (M := M) (col := ncols - (r + 1)) h h2 h3
        exact ⟨c', st, fun i hi => (to_ i hi).trans k1, fun i hi => (k2 i hi).trans of_⟩
    · rw [if_neg h]
      have hle := hs.le
      refine ⟨c, ⟨hs.le, fun j hj => by have := hs.lt j hj; omega, hs.one, fun i k hi hr hk => by omega⟩, fun i hi => Span.row hi, fun i hi => Span.row hi⟩
theorem steps_start (rows : Nat) (M : Mtx) (c : Nat → Nat) : Steps rows 0 0 M c := ⟨by omega, fun j hj => by omega, fun j i hj => by omega, fun i k hi hr hk => by omega⟩
theorem red_of (rows ncols : Nat) (M : Mtx) : ∃ c, Red rows ncols M (redGo rows ncols ncols 0 M).2 (redGo rows ncols ncols 0 M).1 c :=
  redGo_red rows ncols ncols 0 M (fun _ => 0) (Nat.le_refl _) (by rw [Nat.sub_self]; exact steps_start rows M _)
/-- how many rows stand alone -/
def rankM (rows ncols : Nat) (M : Mtx) : Nat := (redGo rows ncols ncols 0 M).1
def redM (rows ncols : Nat) (M : Mtx) : Mtx := (redGo rows ncols ncols 0 M).2
theorem clr_agree {M N : Mtx} {rows n at_ col p : Nat} (ha : at_ < rows) (hp : p < rows) (hc : col < n) (h : ∀ i k, i < rows → k < n → M i k = N i k) : ∀ i k, i < rows → k < n → clr (fun k => M (swapI at_ p k)) at_ col i k = clr (fun k => N (swapI at_ p k)) at_ col i k := by
  intro i k hi hk
  have h1 := h _ k (swapI_lt ha hp hi) hk
  have h2 := h _ col (swapI_lt ha hp hi) hc
  have h3 := h _ k (swapI_lt ha hp ha) hk
  have h4 := h _ col (swapI_lt ha hp ha) hc
  simp only [clr]
  rw [h1, h2, h3, h4]
/-- it hangs on the first columns alone -/
theorem redGo_agree (rows ncols : Nat) : ∀ (r at_ : Nat) (M N : Mtx), r ≤ ncols → (∀ i k, i < rows → k < ncols → M i k = N i k) → (redGo rows ncols r at_ M).1 = (redGo rows ncols r at_ N).1 := by
  intro r
  induction r with
  | zero => intro at_ M N _ _; rfl
  | succ r ih =>
    intro at_ M N hr h
    unfold redGo
    by_cases ha : at_ < rows
    · rw [if_pos ha, if_pos ha]
      have he : firstRow M rows (ncols - (r + 1)) at_ = firstRow N rows (ncols - (r + 1)) at_ := by
        rcases firstRow_cases M rows (ncols - (r + 1)) at_ with ⟨h1, h2⟩ | ⟨i, h1, h2, h3⟩
        · rw [h1, firstRow_none fun i hi => by rw [← h _ _ hi (by omega)]; exact h2 i hi]
        · rw [h1]
          unfold firstRow at h1 ⊢
          rw [List.find?_range_eq_some] at h1
          symm
          rw [List.find?_range_eq_some]
          refine ⟨?_, h1.2.1, fun j hj => ?_⟩
          · rw [← h _ _ h2 (by omega)]; exact h1.1
          · rw [← h _ _ (by omega) (by omega)]; exact h1.2.2 j hj
      rw [← he]
      rcases firstRow_cases M rows (ncols - (r + 1)) at_ with ⟨h1, h2⟩ | ⟨i, h1, h2, h3⟩
      · rw [h1]; exact ih at_ M N (by omega) h
      · rw [h1]; exact ih (at_ + 1) _ _ (by omega) (clr_agree ha h2 (by omega) h)
    · rw [if_neg ha, if_neg ha]
theorem rank_agree {rows ncols : Nat} {M N : Mtx} (h : ∀ i k, i < rows → k < ncols → M i k = N i k) : rankM rows ncols M = rankM rows ncols N := redGo_agree rows ncols ncols 0 M N (Nat.le_refl _) h

/-! dimension -/
/-- fewer equations than unknowns -/
theorem kernel : ∀ (r s : Nat) (B : Mtx), r < s → ∃ y : Nat → Rat, (∃ j, j < s ∧ y j ≠ 0) ∧ ∀ t, t < r → sigma s (fun j => B t j * y j) = 0 := by
  intro r
  induction r with
  | zero => intro s B h; exact ⟨fun _ => 1, ⟨0, h, by decide⟩, fun t ht => by omega⟩
  | succ r ih =>
    intro s B h
    by_cases hz : ∀ j, j < s → B r j = 0
    · obtain ⟨y, hy, hk⟩ := ih s B (by omega)
      refine ⟨y, hy, fun t ht => ?_⟩
      by_cases e : t = r
      · subst e; exact sigma_zero fun j hj => by rw [hz j hj]; grind
      · exact hk t (by omega)
    · have : ∃ p, p < s ∧ B r p ≠ 0 := Classical.byContradiction fun hn => hz fun j hj => Classical.byContradiction fun h0 => hn ⟨j, hj, h0⟩
      obtain ⟨p, hp, h0⟩ := this
      obtain ⟨s, rfl⟩ : ∃ q, s = q + 1 := ⟨s - 1, by omega⟩
      -- column p goes last
      let sw := swapI p s
      have hsw : ∀ j, j < s + 1 → sw j < s + 1 := fun j hj => swapI_lt hp (by omega) hj
      obtain ⟨y, ⟨j0, hj0, hy0⟩, hk⟩ := ih s (fun t j => B t (sw j) - B t p * (B r (sw j) / B r p)) (by omega)
      let z : Nat → Rat := fun j => if j = s then - sigma s (fun j => (B r (sw j) / B r p) * y j) else y j
      have hzs : z s = - sigma s (fun j => (B r (sw j) / B r p) * y j) := by simp [z]
      have hzj : ∀ j, j < s → z j = y j := fun j hj => by simp only [z]; rw [if_neg (by omega)]
      have hss : sw s = p := by simp only [sw, swapI]; grind
      have hinv : ∀ j, sw (sw j) = j := fun j => by simp only [sw, swapI]; grind
      -- sums over the swapped columns
      have hsum : ∀ f : Nat → Rat, sigma (s + 1) f = sigma (s + 1) (fun j => f (sw j)) := by
        intro f
        by_cases e : p = s
        · have : ∀ j, sw j = j := fun j => by simp only [sw, swapI]; grind
          exact sigma_congr fun j _ => by rw [this]
        · rw [sigma_succ, sigma_succ, hss, sigma_drop (i := p) (by omega) f, sigma_drop (i := p) (by omega) fun j => f (sw j)]
          have hsp : sw p = s := by simp only [sw, swapI]; grind
          have : sigma s (fun j => if j = p then 0 else f j) = sigma s (fun j => if j = p then 0 else f (sw j)) := sigma_congr fun j hj => by
            by_cases e2 : j = p
            · simp [e2]
            · have : sw j = j := by simp only [sw, swapI]; grind
              rw [this]
          rw [this, hsp]; grind
      have hrow : ∀ t, sigma (s + 1) (fun j => B t j * z (sw j)) = sigma s (fun j => B t (sw j) * y j) + B t p * z s := fun t => by
        rw [hsum, sigma_succ, hss]
        congr 1
        · exact sigma_congr fun j hj => by rw [hinv, hzj j hj]
        · have : sw p = s := by have := hinv s; rw [hss] at this; exact this
          rw [this]
      refine ⟨fun j => z (sw j), ⟨sw j0, hsw j0 (by omega), by show z (sw (sw j0)) ≠ 0; rw [hinv, hzj j0 hj0]; exact hy0⟩, fun t ht => ?_⟩
      show sigma (s + 1) (fun j => B t j * z (sw j)) = 0
      rw [hrow, hzs]
      by_cases e : t = r
      · subst e
        have : sigma s (fun j => B t (sw j) * y j) = B t p * sigma s (fun j => B t (sw j) / B t p * y j) := by
          rw [← sigma_mul]
          exact sigma_congr fun j _ => by rw [Rat.div_def]; grind
        rw [this]; grind
      · have h1 := hk t (by omega)
        have : sigma s (fun j => (B t (sw j) - B t p * (B r (sw j) / B r p)) * y j) = sigma s (fun j => B t (sw j) * y j) + (- B t p) * sigma s (fun j => B r (sw j) / B r p * y j) := by
          rw [← sigma_mul, ← sigma_add]
          exact sigma_congr fun j _ => by grind
        rw [this] at h1
        grind
/-- a product that is one -/
theorem one_le {s r : Nat} {A B : Mtx} (h : ∀ i j, i < s → j < s → sigma r (fun t => A i t * B t j) = delta i j) : s ≤ r := by
  rcases Nat.lt_or_ge r s with hlt | hge
  · obtain ⟨y, ⟨j, hj, hy⟩, hk⟩ := kernel r s B hlt
    exfalso
    apply hy
    rw [← sigma_delta hj y]
    have h1 : sigma s (fun k => delta j k * y k) = sigma s (fun k => sigma r (fun t => A j t * (B t k * y k))) := sigma_congr fun k hkk => by
      rw [← h j k hj hkk, ← sigma_mul_right]; exact sigma_congr fun t _ => by grind
    rw [h1, sigma_swap]
    exact sigma_zero fun t ht => by rw [sigma_mul, hk t ht]; grind
  · exact hge
/-- the rank is no more than a factor's breadth -/
theorem rank_le {rows ncols r : Nat} {M C R : Mtx} (h : ∀ i k, i < rows → k < ncols → M i k = sigma r fun t => C i t * R t k) : rankM rows ncols M ≤ r := by
  obtain ⟨c, hst, hto, hof⟩ := red_of rows ncols M
  have hE : ∃ E : Mtx, ∀ i, i < rows → ∀ k, (redGo rows ncols ncols 0 M).2 i k = sigma rows fun t => E i t * M t k := by
    refine ⟨fun i => if hi : i < rows then (hto i hi).choose else fun _ => 0, fun i hi k => ?_⟩
    simp only [hi, dif_pos]
    exact (hto i hi).choose_spec k
  obtain ⟨E, hE⟩ := hE
  refine one_le (A := fun i t => sigma rows fun a => E i a * C a t) (B := fun t j => R t (c j)) fun i j hi hj => ?_
  have hir : i < rows := Nat.lt_of_lt_of_le hi hst.le
  rw [← hst.one j i hj hir, hE i hir]
  have h1 : sigma rows (fun t => E i t * M t (c j)) = sigma rows (fun a => sigma r fun t => E i a * (C a t * R t (c j))) := sigma_congr fun a ha => by
    rw [h a (c j) ha (hst.lt j hj), ← sigma_mul]
  rw [h1, sigma_swap]
  exact sigma_congr fun t _ => by rw [← sigma_mul_right]; exact sigma_congr fun a _ => by grind
/-- a matrix is a product over its rank -/
theorem rank_factor (rows ncols : Nat) (M : Mtx) : ∃ C R : Mtx, ∀ i k, i < rows → k < ncols → M i k = sigma (rankM rows ncols M) fun t => C i t * R t k := by
  obtain ⟨c, hst, hto, hof⟩ := red_of rows ncols M
  refine ⟨fun i => if hi : i < rows then (hof i hi).choose else fun _ => 0, (redGo rows ncols ncols 0 M).2, fun i k hi hk => ?_⟩
  simp only [hi, dif_pos]
  rw [(hof i hi).choose_spec k]
  have key : ∀ n, (redGo rows ncols ncols 0 M).1 ≤ n → n ≤ rows → sigma n (fun t => (hof i hi).choose t * (redGo rows ncols ncols 0 M).2 t k) = sigma (redGo rows ncols ncols 0 M).1 (fun t => (hof i hi).choose t * (redGo rows ncols ncols 0 M).2 t k) := by
    intro n
    induction n with
    | zero => intro h1 _; rw [Nat.le_zero.1 h1]
    | succ n ih =>
      intro h1 h2
      by_cases e : (redGo rows ncols ncols 0 M).1 = n + 1
      · rw [e]
      · rw [sigma_succ, ih (by omega) (by omega), hst.zero n k (by omega) (by omega) hk]; grind
  exact key rows hst.le (Nat.le_refl _)
def turnM (M : Mtx) : Mtx := fun i k => M k i
theorem rank_turn_le (rows cols : Nat) (M : Mtx) : rankM cols rows (turnM M) ≤ rankM rows cols M := by
  obtain ⟨C, R, h⟩ := rank_factor rows cols M
  refine rank_le (C := fun i t => R t i) (R := fun t k => C k t) fun i k hi hk => ?_
  show M k i = _
  rw [h k i hk hi]
  exact sigma_congr fun t _ => Rat.mul_comm _ _
theorem rank_turn (rows cols : Nat) (M : Mtx) : rankM cols rows (turnM M) = rankM rows cols M :=
  Nat.le_antisymm (rank_turn_le rows cols M) (rank_turn_le cols rows (turnM M))
theorem rank_le_rows (rows cols : Nat) (M : Mtx) : rankM rows cols M ≤ rows := by
  obtain ⟨c, hst, _, _⟩ := red_of rows cols M
  exact hst.le
theorem rank_le_cols (rows cols : Nat) (M : Mtx) : rankM rows cols M ≤ cols := by
  rw [← rank_turn]; exact rank_le_rows cols rows (turnM M)

/-! full rank: the first columns are a one -/
theorem redGo_full_one (rows ncols : Nat) : ∀ (r at_ : Nat) (M : Mtx), r ≤ ncols → at_ ≤ ncols - r → (∀ j i, j < at_ → i < rows → M i j = delta i j) → (at_ ≤ rows) → (redGo rows ncols r at_ M).1 = ncols → (at_ = ncols - r ∧ ∀ j i, j < ncols → i < rows → (redGo rows ncols r at_ M).2 i j = delta i j) := by
  intro r
  induction r with
  | zero =>
    intro at_ M _ h1 h2 h4 h3
    have : at_ = ncols := h3
    subst this
    exact ⟨by omega, h2⟩
  | succ r ih =>
    intro at_ M hr hle hone hrows h
    unfold redGo at h ⊢
    by_cases ha : at_ < rows
    · rw [if_pos ha] at h ⊢
      rcases firstRow_cases M rows (ncols - (r + 1)) at_ with ⟨h1, h2⟩ | ⟨i, h1, h2, h3⟩
      · rw [h1] at h ⊢
        have := (ih at_ M (by omega) (by omega) hone hrows h).1
        omega
      · rw [h1] at h ⊢
        -- the row that goes first has noughts in the columns before
        by_cases e : at_ = ncols - (r + 1)
        · refine ⟨e, (ih (at_ + 1) _ (by omega) (by omega) ?_ (by omega) h).2⟩
          have hs : Steps rows at_ at_ M (fun j => j) := ⟨by omega, fun j hj => hj, fun j i hj hi => hone j i hj hi, fun i k hi hr hk => by rw [hone k i hk hr, delta_ne (by omega)]⟩
          have h3' : M (at_ + i) at_ ≠ 0 := by rw [e] at h3 ⊢; exact h3
          have hs2 := hs.step h2 h3'
          rw [← e]
          intro j i' hj hi'
          have := hs2.one j i' hj hi'
          by_cases ej : j = at_
          · subst ej; simpa using this
          · simpa [ej] using this
        · exfalso
          have : ∀ (r at_ : Nat) (M : Mtx), at_ + r < ncols → (redGo rows ncols r at_ M).1 < ncols := by
            intro r
            induction r with
            | zero => intro a M h; exact h
            | succ r ih2 =>
              intro a M h
              unfold redGo
              by_cases ha : a < rows
              · rw [if_pos ha]
                rcases firstRow_cases M rows (ncols - (r + 1)) a with ⟨h1, _⟩ | ⟨i, h1, _, _⟩
                · rw [h1]; exact ih2 a M (by omega)
                · rw [h1]; exact ih2 (a + 1) _ (by omega)
              · rw [if_neg ha]; show a < ncols; omega
          have := this r (at_ + 1) (clr (fun k => M (swapI at_ (at_ + i) k)) at_ (ncols - (r + 1))) (by omega)
          rw [h] at this
          omega
    · rw [if_neg ha] at h
      have : at_ = ncols := h
      omega
theorem full_one {rows ncols : Nat} {M : Mtx} (h : rankM rows ncols M = ncols) : ∀ j i, j < ncols → i < rows → redM rows ncols M i j = delta i j :=
  (redGo_full_one rows ncols ncols 0 M (Nat.le_refl _) (by omega) (fun j i hj => by omega) (Nat.zero_le _) h).2

/-! what solves -/
/-- equations go over to put-together ones -/
theorem span_sol {rows ncols t : Nat} {M : Mtx} {x : Nat → Rat} (h : ∀ i, i < rows → sigma ncols (fun k => M i k * x k) = M i t) {v : Nat → Rat} (hv : Span rows M v) : sigma ncols (fun k => v k * x k) = v t := by
  obtain ⟨c, hc⟩ := hv
  have h1 : sigma ncols (fun k => v k * x k) = sigma ncols (fun k => sigma rows fun i => c i * (M i k * x k)) := sigma_congr fun k _ => by
    rw [hc, ← sigma_mul_right]; exact sigma_congr fun i _ => by grind
  rw [h1, sigma_swap, hc]
  exact sigma_congr fun i hi => by rw [sigma_mul, h i hi]
/-- a solution is what stands in the column when the first columns are a one -/
theorem sol_unique {rows ncols t : Nat} {M : Mtx} (hr : rankM rows ncols M = ncols) {x : Nat → Rat} (h : ∀ i, i < rows → sigma ncols (fun k => M i k * x k) = M i t) :
    (∀ i, i < ncols → redM rows ncols M i t = x i) ∧ ∀ i, ncols ≤ i → i < rows → redM rows ncols M i t = 0 := by
  obtain ⟨c, hst, hto, hof⟩ := red_of rows ncols M
  have hle := rank_le_rows rows ncols M
  constructor
  · intro i hi
    have h1 := span_sol h (hto i (by omega))
    show redM rows ncols M i t = x i
    rw [show redM rows ncols M i t = (redGo rows ncols ncols 0 M).2 i t from rfl, ← h1, ← sigma_delta hi x]
    exact sigma_congr fun k hk => by rw [show (redGo rows ncols ncols 0 M).2 i k = redM rows ncols M i k from rfl, full_one hr k i hk (by omega)]
  · intro i hi hi2
    have h1 := span_sol h (hto i hi2)
    rw [show redM rows ncols M i t = (redGo rows ncols ncols 0 M).2 i t from rfl, ← h1]
    exact sigma_zero fun k hk => by rw [show (redGo rows ncols ncols 0 M).2 i k = redM rows ncols M i k from rfl, full_one hr k i hk hi2, delta_ne (by omega)]; grind
/-- what stands there solves, where there are as many rows as columns -/
theorem sol_solves {n t : Nat} {M : Mtx} (hr : rankM n n M = n) : ∀ i, i < n → sigma n (fun k => M i k * redM n n M k t) = M i t := by
  obtain ⟨c, hst, hto, hof⟩ := red_of n n M
  intro i hi
  refine span_sol (rows := n) (M := redM n n M) (x := fun k => redM n n M k t) (fun j hj => ?_) (hof i hi)
  rw [← sigma_delta hj fun k => redM n n M k t]
  exact sigma_congr fun k hk => by rw [full_one hr k j hk hj]
/-- a matrix with a right inverse has full rank -/
theorem rank_inv {n : Nat} {A B : Mtx} (h : ∀ i j, i < n → j < n → mulM n A B i j = delta i j) : rankM n n B = n := by
  refine Nat.le_antisymm (rank_le_rows n n B) ?_
  obtain ⟨C, R, hf⟩ := rank_factor n n B
  refine one_le (A := fun i t => sigma n fun a => A i a * C a t) (B := R) fun i j hi hj => ?_
  rw [← h i j hi hj]
  unfold mulM
  have h1 : sigma n (fun a => A i a * B a j) = sigma n (fun a => sigma (rankM n n B) fun t => A i a * (C a t * R t j)) := sigma_congr fun a ha => by
    rw [hf a j ha hj, ← sigma_mul]
  rw [h1, sigma_swap]
  exact sigma_congr fun t _ => by rw [← sigma_mul_right]; exact sigma_congr fun a _ => by grind
/-- the inverse, as it is reckoned -/
def invM (n : Nat) (M : Mtx) : Mtx := fun i k => redM n n (fun i k => if k < n then M i k else delta i (k - n)) i (n + k)
theorem inv_right {n : Nat} {M : Mtx} (hr : rankM n n M = n) : ∀ i j, i < n → j < n → mulM n M (invM n M) i j = delta i j := by
  intro i j hi hj
  have hr2 : rankM n n (fun i k => if k < n then M i k else delta i (k - n)) = n := by
    refine (rank_agree fun i k hi hk => ?_).trans hr
    rw [if_pos hk]
  have := sol_solves (t := n + j) hr2 i hi
  rw [if_neg (by omega), show n + j - n = j by omega] at this
  rw [← this]
  unfold mulM invM
  exact sigma_congr fun k hk => by rw [if_pos hk]
theorem inv_inv {n : Nat} {M : Mtx} (hr : rankM n n M = n) : rankM n n (invM n M) = n ∧ ∀ i j, i < n → j < n → invM n (invM n M) i j = M i j := by
  have h1 := inv_right hr
  have h2 := rank_inv h1
  refine ⟨h2, fun i j hi hj => ?_⟩
  have h3 := inv_right h2
  have e1 : mulM n (mulM n M (invM n M)) (invM n (invM n M)) i j = invM n (invM n M) i j := by
    rw [← sigma_delta hi fun k => invM n (invM n M) k j]
    exact sigma_congr fun k hk => by rw [h1 i k hi hk]
  have e2 : mulM n M (mulM n (invM n M) (invM n (invM n M))) i j = M i j := by
    rw [← sigma_delta' hj fun k => M i k]
    exact sigma_congr fun k hk => by rw [h3 k j hk hj]
  rw [← e1, mulM_assoc, e2]
end Vic
set_option linter.unusedVariables false
set_option linter.unusedSimpArgs false
namespace Vic
open Go Go.RowKit
theorem fits_sigma {L n : Nat} {a b : Nat → Rat} (ha : ∀ k, k < n → Fits L (a k)) (hb : ∀ k, k < n → Fits L (b k)) : Fits (n * (2 * L + 1) + 2) (sigma n fun k => a k * b k) := by
  induction n with
  | zero => exact (fits_of (n := 0) (by omega) (by omega)).mono (by omega)
  | succ n ih =>
    rw [sigma_succ]
    refine (fits_add (ih (fun k hk => ha k (by omega)) fun k hk => hb k (by omega)) (fits_mul (ha n (by omega)) (hb n (by omega)))).mono ?_
    have h1 := Nat.succ_mul n (2 * L + 1)
    show _ ≤ Nat.succ n * (2 * L + 1) + 2
    omega
end Vic
namespace Go.Proofs.YthephiihcgibjaaGreatDoor
open Go.RowKit Vic
abbrev vdot6_0 : Oper := { dst := some 27, op := Go.Op.move (Go.Operand.tmp 5), type := 31, pos := "mat.go:65", after := #[], guard := none }
abbrev vdot6_1 : Oper := { dst := some 28, op := Go.Op.move (Go.Operand.tmp 0), type := 54, pos := "mat.go:65", after := #[], guard := none }
abbrev vdot6_2 : Oper := { dst := some 29, op := Go.Op.move (Go.Operand.tmp 6), type := 3, pos := "mat.go:65", after := #[], guard := none }
abbrev vdot6_3 : Oper := { dst := some 30, op := Go.Op.indexAddr 54 (Go.Operand.tmp 28) (Go.Operand.tmp 29), type := 0, pos := "mat.go:65", after := #[{ on := 1, ground := Go.Ground.data }, { on := 2, ground := Go.Ground.data }], guard := none }
abbrev vdot6_4 : Oper := { dst := some 31, op := Go.Op.load 31 (Go.Operand.tmp 30), type := 31, pos := "mat.go:65", after := #[{ on := 3, ground := Go.Ground.data }], guard := none }
abbrev vdot6_5 : Oper := { dst := some 32, op := Go.Op.move (Go.Operand.tmp 1), type := 54, pos := "mat.go:65", after := #[], guard := none }
abbrev vdot6_6 : Oper := { dst := some 33, op := Go.Op.move (Go.Operand.tmp 6), type := 3, pos := "mat.go:65", after := #[], guard := none }
abbrev vdot6_7 : Oper := { dst := some 34, op := Go.Op.indexAddr 54 (Go.Operand.tmp 32) (Go.Operand.tmp 33), type := 0, pos := "mat.go:65", after := #[{ on := 5, ground := Go.Ground.data }, { on := 6, ground := Go.Ground.data }], guard := none }
abbrev vdot6_8 : Oper := { dst := some 35, op := Go.Op.load 31 (Go.Operand.tmp 34), type := 31, pos := "mat.go:65", after := #[{ on := 7, ground := Go.Ground.data }], guard := none }
abbrev vdot6_9 : Oper := { dst := some 36, op := Go.Op.call { callee := Go.Callee.value (Go.Operand.func 40), args := #[Go.Operand.tmp 31, Go.Operand.tmp 35], argTypes := #[31, 31] }, type := 31, pos := "mat.go:65", after := #[{ on := 4, ground := Go.Ground.data }, { on := 8, ground := Go.Ground.data }], guard := none }
abbrev vdot6_10 : Oper := { dst := some 37, op := Go.Op.call { callee := Go.Callee.value (Go.Operand.func 39), args := #[Go.Operand.tmp 27, Go.Operand.tmp 36], argTypes := #[31, 31] }, type := 31, pos := "mat.go:65", after := #[{ on := 0, ground := Go.Ground.data }, { on := 9, ground := Go.Ground.data }, { on := 9, ground := Go.Ground.chain }], guard := none }
abbrev vdot6_11 : Oper := { dst := some 5, op := Go.Op.assign (Go.Operand.tmp 37), type := 31, pos := "mat.go:65", after := #[{ on := 10, ground := Go.Ground.data }, { on := 10, ground := Go.Ground.chain }, { on := 0, ground := Go.Ground.phase }, { on := 1, ground := Go.Ground.phase }, { on := 2, ground := Go.Ground.phase }, { on := 3, ground := Go.Ground.phase }, { on := 4, ground := Go.Ground.phase }, { on := 5, ground := Go.Ground.phase }, { on := 6, ground := Go.Ground.phase }, { on := 7, ground := Go.Ground.phase }, { on := 8, ground := Go.Ground.phase }, { on := 9, ground := Go.Ground.phase }, { on := 10, ground := Go.Ground.phase }], guard := none }
set_option maxRecDepth 100000 in
set_option maxHeartbeats 8000000 in
theorem mat_dot (w : World) (u v : Value) (n L : Nat) (a b : Nat → Rat) (hu : FrIn w u n a) (hv : FrIn w v n b) (ha : ∀ k, k < n → Fits L (a k)) (hb : ∀ k, k < n → Fits L (b k)) (hn : n ≤ 20) (hL : L ≤ 20000000) :
    Calls Tryz.prog 84 #[u, v] w (Gives (fun x w' => FracPtr w' x (sigma n fun k => a k * b k)) w) := by
  obtain ⟨ga, oa, ca, rfl, hca, hcella⟩ := hu
  obtain ⟨gb, ob, cb, rfl, hcb, hcellb⟩ := hv
  have HA := Lib.hid hcella; have HB := Lib.hid hcellb; have FA := Lib.hid ha; have FB := Lib.hid hb
  have CO : Hid (Calls Tryz.prog 23 #[.int .i64 0] w (Gives (fun z w' => FracPtr w' z 0) w)) := Lib.hid (frac_Of w 0 (by omega) (by omega))
  clear hcella hcellb ha hb
  go_enter Tryz.func84, Tryz.ntmps84
  go_wp2_with fail
  refine CO.out.mono ?_
  rintro e w0 ⟨z0, rfl, hz0, hb0⟩
  obtain ⟨bz0, rfl⟩ := hz0.ptr
  have HZ0 := Lib.hid hz0
  clear hz0 CO
  go_wp2_with fail
  go_loopw [10, 5] (fun t s wr => ∃ (k : Nat) (bz : Option Addr), t = .int .i64 k ∧ s = .pointer bz ∧ k ≤ n ∧ Hid (FracPtr wr (.pointer bz) (sigma k fun k => a k * b k)) ∧ Below w.heap.size w wr) (fun t _ _ => n - (intOf t).toNat)
  case atStart => exact ⟨0, bz0, rfl, rfl, Nat.zero_le _, HZ0, hb0⟩
  case round =>
    obtain ⟨k, bz, rfl, rfl, hk, hsum, hbr⟩ := hrel
    by_cases hlt : k < n
    · have hlt' := Int.ofNat_lt.2 hlt
      obtain ⟨pa, hpa, hfa⟩ := HA.out k hlt
      obtain ⟨pb, hpb, hfb⟩ := HB.out k hlt
      have hpa' := cell_keep hpa hbr
      have hpb' := cell_keep hpb hbr
      have hFa := FA.out k hlt
      have hFb := FB.out k hlt
      have hFs : Fits (k * (2 * L + 1) + 2) (sigma k fun k => a k * b k) := fits_sigma (fun j hj => FA.out j (by omega)) (fun j hj => FB.out j (by omega))
      have hkL : k * (2 * L + 1) + 2 ≤ 900000000 := by
        have h1 : k * (2 * L + 1) ≤ 20 * (2 * 20000000 + 1) := Nat.mul_le_mul (by omega) (by omega)
        omega
      have CS1 := Lib.hid (frac_Sign wr (.pointer pa) (a k) (hfa.keep hbr).at_ (hFa.mono (by omega)))
      have CS2 : Hid (∀ W, Below wr.heap.size wr W → Calls Tryz.prog 78 #[.pointer pb] W (Keeps (.int .i64 (signI (b k))) W)) := Lib.hid fun W h => frac_Sign W (.pointer pb) (b k) ((hfb.keep hbr).keep h).at_ (hFb.mono (by omega))
      have KM : Hid (∀ W, Below wr.heap.size wr W → Calls Tryz.prog 40 #[.pointer pa, .pointer pb] W (Gives (fun x w' => FracPtr w' x (a k * b k)) W)) := Lib.hid fun W h => frac_Mul W _ _ (a k) (b k) ((hfa.keep hbr).keep h).at_ ((hfb.keep hbr).keep h).at_ (hFa.mono (by omega)) (hFb.mono (by omega))
      have KA : Hid (∀ W z, Below wr.heap.size wr W → FracPtr W z (a k * b k) → Calls Tryz.prog 39 #[.pointer bz, z] W (Gives (fun x w' => FracPtr w' x (sigma (k + 1) fun k => a k * b k)) W)) := Lib.hid fun W z h hz => frac_Add W _ z _ (a k * b k) (hsum.out.keep h).at_ hz.at_ (hFs.mono (by omega)) ((fits_mul hFa hFb).mono (by omega))
      have KC : Hid (∀ W, Below wr.heap.size wr W → W.cell? ⟨ga, oa + k, none⟩ = some (.pointer pa) ∧ W.cell? ⟨gb, ob + k, none⟩ = some (.pointer pb)) := Lib.hid fun W h => ⟨cell_keep hpa' h, cell_keep hpb' h⟩
      have hw1 : IntKind.i64.wrap ((k : Int) + 1) = ((k + 1 : Nat) : Int) := by rw [IntKind.wrap_i64]; omega
      have HS := Lib.hid hsum.out
      have HN := Lib.hid hn
      clear hpa hpb hfa hfb hFa hFb hFs hkL
      by_cases h1 : a k = 0
      · rw [signI_zero.2 h1] at CS1
        have HNX : Hid (sigma (k + 1) (fun k => a k * b k) = sigma k fun k => a k * b k) := Lib.hid (by rw [sigma_succ, h1, Rat.zero_mul, Rat.add_zero])
        clear h1 CS2 KM KA
        go_wp2_with fail
        go_at_call 78
        refine CS1.out.mono ?_
        rintro e w1 ⟨rfl, hb1⟩
        go_wp2_with fail
        go_roundw
        case rel => exact ⟨k + 1, bz, by go_num, rfl, by omega, Lib.hid (by rw [HNX.out]; exact HS.out.keep hb1), below_seq hbr hb1⟩
        case measure => simp [intOf]; omega
      · have hs1 : (signI (a k) != 0) = true := by
          rw [bne_iff_ne]; exact fun e => h1 (signI_zero.1 e)
        generalize signI (a k) = s1 at CS1 hs1
        by_cases h2 : b k = 0
        · rw [signI_zero.2 h2] at CS2
          have HNX : Hid (sigma (k + 1) (fun k => a k * b k) = sigma k fun k => a k * b k) := Lib.hid (by rw [sigma_succ, h2, Rat.mul_zero, Rat.add_zero])
          clear h1 h2 KM KA
          go_wp2_with fail
          go_at_call 78
          refine CS1.out.mono ?_
          rintro e w1 ⟨rfl, hb1⟩
          obtain ⟨c1, c2⟩ := KC.out _ hb1
          go_wp2_with fail
          go_at_call 78
          refine (CS2.out _ hb1).mono ?_
          rintro e w2 ⟨rfl, hb2⟩
          have hb12 := below_seq hb1 hb2
          clear c1 c2
          go_wp2_with fail
          go_roundw
          case rel => exact ⟨k + 1, bz, by go_num, rfl, by omega, Lib.hid (by rw [HNX.out]; exact HS.out.keep hb12), below_seq hbr hb12⟩
          case measure => simp [intOf]; omega
        · have hs2 : (signI (b k) != 0) = true := by
            rw [bne_iff_ne]; exact fun e => h2 (signI_zero.1 e)
          generalize signI (b k) = s2 at CS2 hs2
          clear h1 h2
          go_wp2_with fail
          go_at_call 78
          refine CS1.out.mono ?_
          rintro e w1 ⟨rfl, hb1⟩
          obtain ⟨c1, c2⟩ := KC.out _ hb1
          go_wp2_with fail
          go_at_call 78
          refine (CS2.out _ hb1).mono ?_
          rintro e w2 ⟨rfl, hb2⟩
          have hb12 := Lib.hid (below_seq hb1 hb2)
          clear c1 c2 hb1 hb2 CS1 CS2
          go_wp2_with fail
          refine wp_region_held (S := fun W => Below wr.heap.size wr W) (by kernel_rfl) ?_
          change wpAnyH _ _ _ _ _ _ _ _ (World.drew _)
          obtain ⟨W0, hW0⟩ : ∃ X, X = (w2).drew := ⟨_, rfl⟩
          rw [← hW0]
          have z0 : Below (w2).heap.size (w2) W0 := by rw [hW0]; exact Below.drewN_ (Below.refl _ _) 1
          clear hW0
          refine wpAnyH_take (i := 0) (oi := vdot6_0) (v := .pointer bz) rfl (by kernel_rfl) (by kernel_rfl) (by kernel_rfl) (fun _ _ _ h => h) (Or.inl ⟨by kernel_rfl, ?_⟩) (below_seq hb12.out z0) ?_
          · intro w hSw; go_simp <;> first | omega | (intro hh; exfalso; omega) | rfl
          try simp only [Act.put, List.setIfInBounds_toArray, List.set_cons_zero, List.set_cons_succ, vdot6_0]
          refine wpAnyH_take (i := 1) (oi := vdot6_1) (v := .slice (some ⟨ga, oa, none⟩) n ca) rfl (by kernel_rfl) (by kernel_rfl) (by kernel_rfl) (fun _ _ _ h => h) (Or.inl ⟨by kernel_rfl, ?_⟩) (below_seq hb12.out z0) ?_
          · intro w hSw; go_simp <;> first | omega | (intro hh; exfalso; omega) | rfl
          try simp only [Act.put, List.setIfInBounds_toArray, List.set_cons_zero, List.set_cons_succ, vdot6_1]
          refine wpAnyH_take (i := 2) (oi := vdot6_2) (v := .int .i64 k) rfl (by kernel_rfl) (by kernel_rfl) (by kernel_rfl) (fun _ _ _ h => h) (Or.inl ⟨by kernel_rfl, ?_⟩) (below_seq hb12.out z0) ?_
          · intro w hSw; go_simp <;> first | omega | (intro hh; exfalso; omega) | rfl
          try simp only [Act.put, List.setIfInBounds_toArray, List.set_cons_zero, List.set_cons_succ, vdot6_2]
          refine wpAnyH_take (i := 3) (oi := vdot6_3) (v := .pointer (some ⟨ga, oa + k, none⟩)) rfl (by kernel_rfl) (by kernel_rfl) (by kernel_rfl) (fun _ _ _ h => h) (Or.inl ⟨by kernel_rfl, ?_⟩) (below_seq hb12.out z0) ?_
          · intro w hSw; go_simp <;> first | omega | (intro hh; exfalso; omega) | rfl
          try simp only [Act.put, List.setIfInBounds_toArray, List.set_cons_zero, List.set_cons_succ, vdot6_3]
          refine wpAnyH_take (i := 4) (oi := vdot6_4) (v := .pointer pa) rfl (by kernel_rfl) (by kernel_rfl) (by kernel_rfl) (fun _ _ _ h => h) (Or.inl ⟨by kernel_rfl, ?_⟩) (below_seq hb12.out z0) ?_
          · intro w hSw; obtain ⟨c1, c2⟩ := KC.out w hSw; go_simp <;> first | omega | (intro hh; exfalso; omega) | rfl
          try simp only [Act.put, List.setIfInBounds_toArray, List.set_cons_zero, List.set_cons_succ, vdot6_4]
          refine wpAnyH_take (i := 5) (oi := vdot6_5) (v := .slice (some ⟨gb, ob, none⟩) n cb) rfl (by kernel_rfl) (by kernel_rfl) (by kernel_rfl) (fun _ _ _ h => h) (Or.inl ⟨by kernel_rfl, ?_⟩) (below_seq hb12.out z0) ?_
          · intro w hSw; go_simp <;> first | omega | (intro hh; exfalso; omega) | rfl
          try simp only [Act.put, List.setIfInBounds_toArray, List.set_cons_zero, List.set_cons_succ, vdot6_5]
          refine wpAnyH_take (i := 6) (oi := vdot6_6) (v := .int .i64 k) rfl (by kernel_rfl) (by kernel_rfl) (by kernel_rfl) (fun _ _ _ h => h) (Or.inl ⟨by kernel_rfl, ?_⟩) (below_seq hb12.out z0) ?_
          · intro w hSw; go_simp <;> first | omega | (intro hh; exfalso; omega) | rfl
          try simp only [Act.put, List.setIfInBounds_toArray, List.set_cons_zero, List.set_cons_succ, vdot6_6]
          refine wpAnyH_take (i := 7) (oi := vdot6_7) (v := .pointer (some ⟨gb, ob + k, none⟩)) rfl (by kernel_rfl) (by kernel_rfl) (by kernel_rfl) (fun _ _ _ h => h) (Or.inl ⟨by kernel_rfl, ?_⟩) (below_seq hb12.out z0) ?_
          · intro w hSw; go_simp <;> first | omega | (intro hh; exfalso; omega) | rfl
          try simp only [Act.put, List.setIfInBounds_toArray, List.set_cons_zero, List.set_cons_succ, vdot6_7]
          refine wpAnyH_take (i := 8) (oi := vdot6_8) (v := .pointer pb) rfl (by kernel_rfl) (by kernel_rfl) (by kernel_rfl) (fun _ _ _ h => h) (Or.inl ⟨by kernel_rfl, ?_⟩) (below_seq hb12.out z0) ?_
          · intro w hSw; obtain ⟨c1, c2⟩ := KC.out w hSw; go_simp <;> first | omega | (intro hh; exfalso; omega) | rfl
          try simp only [Act.put, List.setIfInBounds_toArray, List.set_cons_zero, List.set_cons_succ, vdot6_8]
          refine wpAnyH_ready (rs := [9]) (by kernel_rfl) (by simp) ?_
          apply AllReadyH.cons (o := vdot6_9) (by kernel_rfl)
          case hs => exact AllReadyH.nil
          intro K hK
          simp only [vdot6_9]
          go_simp
          go_at_call 40
          refine (KM.out _ (below_seq hb12.out z0)).mono ?_
          rintro e' W1 ⟨x1, rfl, hx1, b1⟩
          obtain ⟨p1, rfl⟩ := hx1.ptr
          have z1 := below_seq z0 b1
          refine hK.out _ _ (below_seq hb12.out z1) (fun hHeld => ?_)
          clear hK K hHeld
          try simp only [Act.put, List.setIfInBounds_toArray, List.set_cons_zero, List.set_cons_succ]
          refine wpAnyH_ready (rs := [10]) (by kernel_rfl) (by simp) ?_
          apply AllReadyH.cons (o := vdot6_10) (by kernel_rfl)
          case hs => exact AllReadyH.nil
          intro K hK
          simp only [vdot6_10]
          go_simp
          go_at_call 39
          refine (KA.out _ _ (below_seq hb12.out z1) hx1).mono ?_
          rintro e' W2 ⟨x2, rfl, hx2, b2⟩
          obtain ⟨p2, rfl⟩ := hx2.ptr
          have z2 := below_seq z1 b2
          have HX2 := Lib.hid hx2
          clear hx1 hx2
          refine hK.out _ _ (below_seq hb12.out z2) (fun hHeld => ?_)
          clear hK K hHeld
          try simp only [Act.put, List.setIfInBounds_toArray, List.set_cons_zero, List.set_cons_succ]
          refine wpAnyH_take (i := 11) (oi := vdot6_11) (v := .pointer p2) rfl (by kernel_rfl) (by kernel_rfl) (by kernel_rfl) (fun _ _ _ h => h) (Or.inl ⟨by kernel_rfl, ?_⟩) (below_seq hb12.out z2) ?_
          · intro w hSw; go_simp <;> first | omega | (intro hh; exfalso; omega) | rfl
          try simp only [Act.put, List.setIfInBounds_toArray, List.set_cons_zero, List.set_cons_succ, vdot6_11]
          refine wpAnyH_done (by kernel_rfl) ?_ _
          have ZZ := Lib.hid (below_seq hb12.out z2)
          go_wp2_with fail
          go_roundw
          case rel => exact ⟨k + 1, _, by go_num, rfl, by omega, HX2, below_seq hbr ZZ.out⟩
          case measure => simp [intOf]; omega
    · obtain rfl : k = n := by omega
      go_wp2_with fail
      go_ret
      exact ⟨_, rfl, hsum.out, hbr⟩
end Go.Proofs.YthephiihcgibjaaGreatDoor
set_option linter.unusedVariables false
set_option linter.unusedSimpArgs false
namespace Vic
open Go Go.RowKit
/-- a fraction's block and its numerator's lie from B on -/
def FarPtr (w : World) (v : Value) (B : Nat) : Prop := ∃ b bn, v = .pointer (some ⟨b, 0, none⟩) ∧ B ≤ b ∧ w.cell? ⟨b, 1, none⟩ = some (.pointer (some ⟨bn, 0, none⟩)) ∧ B ≤ bn
theorem FarPtr.keep {w w' : World} {v : Value} {B : Nat} (h : FarPtr w v B) (hb : Below w.heap.size w w') : FarPtr w' v B := by
  obtain ⟨b, bn, h1, h2, h3, h4⟩ := h
  exact ⟨b, bn, h1, h2, cell_keep h3 hb, h4⟩
theorem FarPtr.mono {w : World} {v : Value} {B C : Nat} (h : FarPtr w v B) (hc : C ≤ B) : FarPtr w v C := by
  obtain ⟨b, bn, h1, h2, h3, h4⟩ := h
  exact ⟨b, bn, h1, Nat.le_trans hc h2, h3, Nat.le_trans hc h4⟩
theorem quo_zero (d : Nat) : quo false 0 d = 0 := by simp [quo, sgn]
end Vic
namespace Go.Proofs.YthephiihcgibjaaGreatDoor
open Go.RowKit Vic
set_option maxRecDepth 100000 in
set_option maxHeartbeats 4000000 in
theorem frac_New_zero (w : World) (b9 : Nat) (v : Value) (hn : NatPtr w (.pointer (some ⟨b9, 0, none⟩)) 0) (hd : NatPtr w v 1) :
    Calls Tryz.prog 68 #[.bool false, .pointer (some ⟨b9, 0, none⟩), v] w (GivesOk (fun x w' => FracPtr w' x 0 ∧ ∃ b, x = .pointer (some ⟨b, 0, none⟩) ∧ w.heap.size ≤ b ∧ w'.cell? ⟨b, 1, none⟩ = some (.pointer (some ⟨b9, 0, none⟩))) w) := by
  have s0 : sz 0 ≤ 1000 := by rw [sz, show dgs 0 = [] from digs_zero _]; simp
  have s1 : sz 1 ≤ 1000 := Nat.le_trans (sz_word (a := 1) (by omega)) (by omega)
  have CZ0 := frac_zero w v 1 hd.at_ (by omega)
  rw [decide_eq_false (by omega : ¬ (1 : Nat) = 0)] at CZ0
  have CZ := Lib.hid CZ0
  have CG0 := nat_Gcd w (.pointer (some ⟨b9, 0, none⟩)) v 0 1 hn.at_ hd.at_ (Nat.le_trans s0 (by omega)) (Nat.le_trans s1 (by omega))
  rw [show Nat.gcd 0 1 = 1 from rfl] at CG0
  have CG := Lib.hid CG0
  have C1 : Hid (∀ w, Calls Tryz.prog 71 #[.int .u64 1] w (Gives (fun x w' => NatPtr w' x 1) w)) := fun w => nat_Ofp w 1 (by omega)
  have S1 := Lib.hid s1
  obtain ⟨b7, hb7⟩ : ∃ b, v = .pointer (some ⟨b, 0, none⟩) := by obtain ⟨b, A, c, h, _⟩ := hd.open_; exact ⟨b, h⟩
  subst hb7
  have HN := Lib.hid hn; have HD := Lib.hid hd
  clear CZ0 CG0 hn hd s0 s1
  go_enter Tryz.func68, Tryz.ntmps68
  go_wp2_with fail
  refine CZ.out.mono ?_
  rintro e w' ⟨rfl, rfl⟩
  go_wp2_with fail
  refine CG.out.mono ?_
  rintro e w1 ⟨x1, rfl, hx1, hb1⟩
  go_wp2_with fail
  refine (C1.out _).mono ?_
  rintro e w2 ⟨x2, rfl, hx2, hb2⟩
  have CC0 := nat_Cmp w2 x1 x2 1 1 (hx1.keep hb2) hx2.at_ (Nat.le_trans S1.out (by omega)) (Nat.le_trans S1.out (by omega))
  rw [cmpI_eq rfl] at CC0
  have CC := Lib.hid CC0
  have hb12 := below_seq hb1 hb2
  have HN2 := Lib.hid (HN.out.keep hb12); have HD2 := Lib.hid (HD.out.keep hb12)
  clear CC0 CZ CG hx1 hx2 hb1 hb2
  go_wp2_with fail
  refine CC.out.mono ?_
  rintro e w' ⟨rfl, rfl⟩
  go_wp2_with fail
  go_ret2
  exact ⟨_, rfl, ⟨frac_built w2 false _ _ _ _ HN2.out.at_ HD2.out _ rfl rfl rfl, _, rfl, hb12.size, by simp⟩, hb12.alloc hb12.size _⟩
theorem frac_sure_zero (w : World) (b9 : Nat) (v : Value) (hn : NatPtr w (.pointer (some ⟨b9, 0, none⟩)) 0) (hd : NatPtr w v 1) :
    Calls Tryz.prog 90 #[.bool false, .pointer (some ⟨b9, 0, none⟩), v] w (Gives (fun x w' => FracPtr w' x 0 ∧ ∃ b, x = .pointer (some ⟨b, 0, none⟩) ∧ w.heap.size ≤ b ∧ w'.cell? ⟨b, 1, none⟩ = some (.pointer (some ⟨b9, 0, none⟩))) w) := by
  have CN := Lib.hid (frac_New_zero w b9 v hn hd)
  clear hn hd
  go_enter Tryz.func90, Tryz.ntmps90
  go_wp2_with fail
  refine CN.out.mono ?_
  rintro e w1 ⟨x1, rfl, hx1, hb1⟩
  go_wp2_with fail
  go_ret
  exact ⟨x1, rfl, hx1, hb1⟩
theorem good48 : GoodNat [48] ∧ GoodNat [49] := by
  refine ⟨⟨⟨by simp, ?_, ?_⟩, by simp⟩, ⟨by simp, ?_, ?_⟩, by simp⟩
  · intro c hc; simp at hc; subst hc; decide
  · exact .inl rfl
  · intro c hc; simp at hc; subst hc; decide
  · exact .inl rfl
set_option maxRecDepth 100000 in
set_option maxHeartbeats 8000000 in
theorem frac_Get_zero (w : World) (ht : Tab w) : Calls Tryz.prog 51 #[.string ⟨([48] : List UInt8).toArray⟩] w (GivesOk (fun x w' => FracPtr w' x 0 ∧ FarPtr w' x w.heap.size) w) := by
  have C1 := Lib.hid (strings_CutPrefix w [48] [45])
  have C2 := Lib.hid (strings_Cut w ht [48] [47] (by simp))
  have e1 : Lib.trimPrefix [48] [45] = ([48] : List UInt8) := by decide
  have e2 : Lib.hasPrefix ([48] : List UInt8) [45] = false := by decide
  have e3 : Lib.cut ([48] : List UInt8) [47] = ([48], [], false) := by decide
  rw [e1, e2] at C1
  rw [e3] at C2
  have CT : Hid (∀ wr, Calls Tryz.prog 50 #[.string ⟨([48] : List UInt8).toArray⟩] wr (GivesOk (fun x w' => NatPtr w' x 0 ∧ NewPtr wr.heap.size x) wr)) := fun wr => nat_Get_yesN wr [48] good48.1
  have CQ : Hid (∀ wr, Calls Tryz.prog 50 #[.string ⟨#[49]⟩] wr (GivesOk (fun x w' => NatPtr w' x 1 ∧ NewPtr wr.heap.size x) wr)) := fun wr => nat_Get_yesN wr [49] good48.2
  have HT := Lib.hid ht
  clear ht e1 e2 e3
  go_enter Tryz.func51, Tryz.ntmps51
  go_wp2_with fail
  refine C1.out.mono ?_
  rintro e w' ⟨rfl, rfl⟩
  go_wp2_with fail
  refine C2.out.mono ?_
  rintro e w1 ⟨rfl, hb1⟩
  go_wp2_with fail
  refine (CT.out _).mono ?_
  rintro e w2 ⟨x2, rfl, ⟨hx2, b9, rfl, hn9⟩, hb2⟩
  go_wp2_with fail
  refine (CQ.out _).mono ?_
  rintro e w3 ⟨x3, rfl, ⟨hx3, _⟩, hb3⟩
  have hb13 := below_seq hb1 (below_seq hb2 hb3)
  have s1 : sz 1 ≤ 1000 := Nat.le_trans (sz_word (a := 1) (by omega)) (by omega)
  have CZ0 := frac_zero w3 x3 1 hx3.at_ (by omega)
  rw [decide_eq_false (by omega : ¬ (1 : Nat) = 0)] at CZ0
  have CZ := Lib.hid CZ0
  have CS := Lib.hid (frac_sure_zero w3 b9 x3 (hx2.keep hb3) hx3)
  have H9 : w.heap.size ≤ b9 := Nat.le_trans hb1.size hn9
  clear CZ0 hx2 hx3 hn9 hb1 hb2 hb3
  go_wp2_with fail
  refine CZ.out.mono ?_
  rintro e w' ⟨rfl, rfl⟩
  go_wp2_with fail
  refine CS.out.mono ?_
  rintro e w4 ⟨x4, rfl, ⟨hx4, b4, hb4e, hb4l, hc4⟩, hb4⟩
  have hb14 := below_seq hb13 hb4
  have CX0 := frac_Text w4 x4 0 hx4.at_ ⟨by rw [sz, show dgs (0 : Rat).num.natAbs = [] from digs_zero _]; simp, Nat.le_trans (sz_word (a := 1) (by omega)) (by omega)⟩ (HT.out.keep hb14)
  have eT : fracText 0 = [48] := by
    have := (dec_small (u := 0) (by omega))
    unfold fracText
    simp [this]
  rw [eT] at CX0
  have CX := Lib.hid CX0
  have HF := Lib.hid hx4
  have HFF : Hid (FarPtr w4 x4 w.heap.size) := Lib.hid ⟨b4, b9, hb4e, Nat.le_trans hb13.size hb4l, hc4, H9⟩
  clear CX0 hx4 hb4e hc4 eT
  go_wp2_with fail
  refine CX.out.mono ?_
  rintro e w5 ⟨rfl, hb5⟩
  go_wp2_with fail
  go_ret2
  exact ⟨x4, rfl, ⟨HF.out.keep hb5, HFF.out.keep hb5⟩, below_seq hb14 hb5⟩
end Go.Proofs.YthephiihcgibjaaGreatDoor
set_option linter.unusedVariables false
set_option linter.unusedSimpArgs false
namespace Vic
open Go Go.RowKit
/-- not nought, or of blocks from B on -/
def SafeZ (w : World) (B : Nat) (p : Value) (q : Rat) : Prop := q ≠ 0 ∨ FarPtr w p B
theorem SafeZ.keep {w w' : World} {B : Nat} {p : Value} {q : Rat} (h : SafeZ w B p q) (hb : Below w.heap.size w w') : SafeZ w' B p q := h.imp id fun h => h.keep hb
theorem FracPtr.stayZ {w w' : World} {v : Value} {q : Rat} {B : Nat} (h : FracPtr w v q) (hf : SafeZ w B v q) (hs : ∀ j, j < w.heap.size → (Alien w j ∧ (j < B ∨ ∃ A l c, w.cell? ⟨j, 0, none⟩ = some (.slice A l c) ∧ 0 < l)) ∨ w'.heap[j]? = w.heap[j]?) : FracPtr w' v q ∧ SafeZ w' B v q := by
  have hsA : ∀ j, j < w.heap.size → Alien w j ∨ w'.heap[j]? = w.heap[j]? := fun j hj => (hs j hj).imp And.left id
  by_cases h0 : q = 0
  · subst h0
    rcases hf with hf | ⟨b', bn, f1, f2, f3, f4⟩
    · exact absurd rfl hf
    · obtain ⟨b, pn, pd, h1, h2, h3, h4, h5, h6⟩ := h
      rw [h1] at f1
      injection f1 with f1; injection f1 with f1; injection f1 with f1
      subst f1
      rw [h3] at f3; injection f3 with f3
      subst f3
      have e1 : w'.heap[b]? = w.heap[b]? := by
        rcases hs b (block_lt h2) with ⟨h7, _⟩ | h7
        · exact absurd rfl ((h7.1 _ _ h2).1 _)
        · exact h7
      have h6' := h6.stay (by decide : (0 : Rat).den ≠ 0) hsA
      rcases h5 with ⟨h5, _⟩ | ⟨b5, s5, h5, h7, ⟨A5, c5, h8, h9, h10⟩, hbk5⟩
      · cases h5
      · injection h5 with h5; injection h5 with h5; injection h5 with h5
        subst h5
        have hl0 : (digs 4294967296 (0 : Rat).num.natAbs).length = 0 := by rw [show (0 : Rat).num.natAbs = 0 from rfl, digs_zero]; rfl
        have e2 : w'.heap[bn]? = w.heap[bn]? := by
          rcases hs bn (block_lt h7) with ⟨_, h11 | ⟨A, l, c, h11, h12⟩⟩ | h11
          · omega
          · rw [h7, h8] at h11
            injection h11 with h11; injection h11 with _ h11 _
            rw [hl0] at h11; omega
          · exact h11
        refine ⟨⟨b, _, pd, h1, by rw [cell_same e1]; exact h2, by rw [cell_same e1]; exact h3, by rw [cell_same e1]; exact h4, .inr ⟨bn, s5, rfl, by rw [cell_same e2]; exact h7, ⟨A5, c5, h8, h9, fun i hi => by omega⟩, hbk5.same e2⟩, h6'⟩, .inr ⟨b, bn, h1, f2, by rw [cell_same e1]; exact h3, f4⟩⟩
  · exact ⟨h.stay h0 hsA, .inl h0⟩
theorem RowsK.stayZ {T : TypeId} {w w' : World} {B rows cols : Nat} {g cap : Nat → Nat} {cur : Nat → Array Value} {M : Nat → Nat → Rat} (h : RowsK T w B rows cols g cap cur M) (hf : ∀ i j, i < rows → j < cols → ∀ p, (cur i)[j]? = some p → SafeZ w B p (M i j)) (hg : ∀ i, i < rows → w'.heap[g i]? = w.heap[g i]?)
    (hs : ∀ j, j < w.heap.size → (Alien w j ∧ (j < B ∨ ∃ A l c, w.cell? ⟨j, 0, none⟩ = some (.slice A l c) ∧ 0 < l)) ∨ w'.heap[j]? = w.heap[j]?) : RowsK T w' B rows cols g cap cur M ∧ ∀ i j, i < rows → j < cols → ∀ p, (cur i)[j]? = some p → SafeZ w' B p (M i j) :=
  ⟨⟨fun i hi => (hg i hi).trans (h.row i hi), h.ptr, h.base, h.inj, h.caps, fun i k hi hk => by
    obtain ⟨p, h1, h2⟩ := h.val i k hi hk
    exact ⟨p, h1, (h2.stayZ (hf i k hi hk p h1) hs).1⟩⟩, fun i k hi hk p hp => by
    obtain ⟨p1, h1, h2⟩ := h.val i k hi hk
    rw [hp] at h1; injection h1 with h1
    subst h1
    exact (h2.stayZ (hf i k hi hk p hp) hs).2⟩
/-- a round of rows that are made, the slice of them in a variable -/
theorem rows_round3 {T T1 T2 : TypeId} {B k n mb : Nat} {gn cn : Nat → Nat} {cr : Nat → Array Value} {N : Nat → Nat → Rat} {wr w4 w5 : World} {s v5 : Value} {x : Int} (hrow : Row wr mb T1 #[s, .int .i64 x]) (hmb : mb < B) (hown : OwnK sliceKind wr B T2 1 s k (rowVals k n gn cn)) (hrows : RowsK T wr B k n gn cn cr N)
    (hdis : ∀ G', s.ownBlock = some G' → 0 < k ∧ ∀ i, i < k → gn i ≠ G') (hB : B ≤ wr.heap.size) (h04 : Below wr.heap.size wr w4) {g' cap' : Nat} {cur' : Array Value} (hn : 0 < n) (hsf : ∀ i j, i < k → j < n → ∀ p, (cr i)[j]? = some p → SafeZ wr B p (N i j))
    (hr : Row w4 g' T cur') (hp : ∀ u ∈ cur', ∃ a, u = .pointer a) (hg' : wr.heap.size ≤ g') (hc' : n ≤ cap') (hv : ∀ j, j < n → ∃ p, cur'[j]? = some p ∧ FracPtr w4 p (N k j) ∧ SafeZ w4 B p (N k j))
    (hw5 : OwnK sliceKind w5 B T2 1 v5 (k + 1) (rowVals k n gn cn ++ [.slice (some ⟨g', 0, none⟩) n cap'])) (hgr : w4.grownBy w5 s.ownBlock) (hloc : v5.ownBlock = s.ownBlock ∨ v5.ownBlock = some w4.heap.size) :
    ∃ gn' cn' cr', Row (w5.setCell ⟨mb, 0, none⟩ v5) mb T1 #[v5, .int .i64 x] ∧ OwnK sliceKind (w5.setCell ⟨mb, 0, none⟩ v5) B T2 1 v5 (k + 1) (rowVals (k + 1) n gn' cn') ∧ RowsK T (w5.setCell ⟨mb, 0, none⟩ v5) B (k + 1) n gn' cn' cr' N ∧ (∀ G', v5.ownBlock = some G' → 0 < k + 1 ∧ ∀ i, i < k + 1 → gn' i ≠ G') ∧ B ≤ (w5.setCell ⟨mb, 0, none⟩ v5).heap.size ∧ Below mb wr (w5.setCell ⟨mb, 0, none⟩ v5) ∧ (∀ i j, i < k + 1 → j < n → ∀ p, (cr' i)[j]? = some p → SafeZ (w5.setCell ⟨mb, 0, none⟩ v5) B p (N i j)) := by
  have hR4 := (hrows.keep h04).push (q := N k) hr hp (Nat.le_trans hB hg') (fun i hi e => by have := (hrows.row i hi).lt; omega) hc' (fun j hj => by obtain ⟨p, h1, h2, _⟩ := hv j hj; exact ⟨p, h1, h2⟩)
  have eN : (fun i => if i = k then N k else N i) = N := by
    funext i
    by_cases e : i = k
    · rw [if_pos e, e]
    · rw [if_neg e]
  rw [eN] at hR4
  have hS4 : ∀ i j, i < k + 1 → j < n → ∀ p, ((fun i => if i = k then cur' else cr i) i)[j]? = some p → SafeZ w4 B p (N i j) := by
    intro i j hi hj p hp0
    by_cases e : i = k
    · subst e
      simp only [if_pos] at hp0
      obtain ⟨p1, h1, _, h3⟩ := hv j hj
      rw [hp0] at h1; injection h1 with h1
      subst h1; exact h3
    · simp only [e, if_false] at hp0
      exact (hsf i j (by omega) hj p hp0).keep h04
  have hrow4 := hrow.keep h04
  have hlt : ∀ i, i < k + 1 → (if i = k then g' else gn i) < w4.heap.size := fun i hi => (hR4.row i hi).lt
  have hsown : ∀ j, s.ownBlock = some j → B ≤ j ∧ j < wr.heap.size := fun j hj => hown.lt hj
  have hmbs : s.ownBlock ≠ some mb := fun e => by have := hsown mb e; omega
  have h46 : ∀ j, j < w4.heap.size → s.ownBlock ≠ some j → j ≠ mb → (w5.setCell ⟨mb, 0, none⟩ v5).heap[j]? = w4.heap[j]? := fun j hj h1 h2 => (Below.heap_setCell w5 ⟨mb, 0, none⟩ v5 j h2).trans (hgr.block j hj (fun e => h1 e.symm))
  have hsz : (w5.setCell ⟨mb, 0, none⟩ v5).heap.size = w5.heap.size := by simp [World.setCell]
  have hsl : ∃ A l c, s = .slice A l c := by
    obtain ⟨_, ⟨rfl, _⟩ | ⟨g, cap, cur, rfl, _⟩⟩ := hown
    · exact ⟨_, _, _, rfl⟩
    · exact ⟨_, _, _, rfl⟩
  have al1 : Alien w4 mb := by
    obtain ⟨A0, l0, c0, hs0⟩ := hsl
    refine ⟨fun o u hu => ?_, fun A l c b' o' z hc hl hA => ?_⟩
    · rw [hrow4.cell] at hu
      rcases o with _ | _ | o
      · simp at hu; subst hu; rw [hs0]; exact ⟨fun x => by simp, fun x => by simp⟩
      · simp at hu; subst hu; exact ⟨fun x => by simp, fun x => by simp⟩
      · simp at hu
    · rw [hrow4.cell] at hc
      simp at hc
      intro hcc
      have hk4 := hown.keep h04
      have hob : s.ownBlock = some b' := by
        obtain ⟨_, ⟨h1, _⟩ | ⟨g, cap, cur, h1, _⟩⟩ := hown
        · rw [h1] at hc; injection hc with h2; rw [hA] at h2; cases h2
        · rw [h1] at hc; injection hc with h2; rw [hA] at h2; injection h2 with h2; injection h2 with h2 h3; rw [h1, ← h2]; rfl
      obtain ⟨_, _, _, h5⟩ := hk4.kind hob hcc
      cases h5
  have al2 : ∀ b, s.ownBlock = some b → Alien w4 b ∧ ∃ A l c, w4.cell? ⟨b, 0, none⟩ = some (.slice A l c) ∧ 0 < l := fun b hb => by
    obtain ⟨hk0, hdi⟩ := hdis b hb
    have hk4 := hown.keep h04
    have hcell := hk4.own.cells hb 0 (.slice (some ⟨gn 0, 0, none⟩) n (cn 0)) (by
      unfold rowVals
      rw [List.getElem?_map, List.getElem?_range hk0]
      rfl)
    rw [show (⟨b, 0, none⟩ : Addr).add 0 = ⟨b, 0, none⟩ by simp [Addr.add]] at hcell
    refine ⟨⟨fun o u hu => ?_, fun A l c b' o' z hc hl hA => ?_⟩, _, _, _, hcell, hn⟩
    · obtain ⟨_, _, _, rfl⟩ := hk4.kind hb hu
      exact ⟨fun x => by simp, fun x => by simp⟩
    · rw [hcell] at hc
      injection hc with hc
      injection hc with h1 h2 h3
      rw [← h1] at hA
      injection hA with hA
      injection hA with h4 h5
      subst h4; subst h5
      intro hcc
      have hr0 := (hrows.keep h04).row 0 hk0
      rw [hr0.cell] at hcc
      obtain ⟨a, ha⟩ := hrows.ptr 0 hk0 _ (Array.mem_of_getElem? hcc)
      cases ha
  have hrow6 : Row (w5.setCell ⟨mb, 0, none⟩ v5) mb T1 #[v5, .int .i64 x] := by
    have h5 : Row w5 mb T1 #[s, .int .i64 x] := (hgr.block mb hrow4.lt (fun e => hmbs e.symm)).trans hrow4
    exact h5.set 0 v5
  have hZ1 : ∀ i, i < k + 1 → (w5.setCell ⟨mb, 0, none⟩ v5).heap[if i = k then g' else gn i]? = w4.heap[if i = k then g' else gn i]? := fun i hi => by
    have hl := hlt i hi
    have hb := hR4.base i hi
    refine h46 _ hl (fun e => ?_) (fun e => by omega)
    by_cases e1 : i = k
    · rw [if_pos e1] at e
      have := hsown _ e
      omega
    · rw [if_neg e1] at e
      exact (hdis _ e).2 i (by omega) rfl
  have hZ2 : ∀ j, j < w4.heap.size → (Alien w4 j ∧ (j < B ∨ ∃ A l c, w4.cell? ⟨j, 0, none⟩ = some (.slice A l c) ∧ 0 < l)) ∨ (w5.setCell ⟨mb, 0, none⟩ v5).heap[j]? = w4.heap[j]? := fun j hj => by
    by_cases h1 : s.ownBlock = some j
    · obtain ⟨a1, A, l, c, a2, a3⟩ := al2 j h1
      exact .inl ⟨a1, .inr ⟨A, l, c, a2, a3⟩⟩
    · by_cases h2 : j = mb
      · subst h2; exact .inl ⟨al1, .inl hmb⟩
      · exact .inr (h46 j hj h1 h2)
  have hZ : RowsK T (w5.setCell ⟨mb, 0, none⟩ v5) B (k + 1) n _ _ (fun i => if i = k then cur' else cr i) N ∧ _ := hR4.stayZ (w' := w5.setCell ⟨mb, 0, none⟩ v5) hS4 hZ1 hZ2
  refine ⟨_, _, fun i => if i = k then cur' else cr i, hrow6, ?_, hZ.1, fun G' hG => ⟨by omega, fun i hi e => ?_⟩, ?_, ?_, hZ.2⟩
  · rw [← rowVals_push]
    exact hw5.stay fun g hg => Below.heap_setCell w5 ⟨mb, 0, none⟩ v5 g (fun e => by have := (hw5.lt hg).1; have e' : g = mb := e; omega)
  · rcases hloc with hl | hl
    · rw [hl] at hG
      have hbl := hown.lt hG
      by_cases e1 : i = k
      · rw [if_pos e1] at e
        omega
      · rw [if_neg e1] at e
        exact (hdis G' hG).2 i (by omega) e
    · rw [hl] at hG
      injection hG with hG
      have := hlt i hi
      omega
  · rw [hsz]; have := hgr.size; have := h04.size; omega
  · refine ⟨(show (w5.setCell ⟨mb, 0, none⟩ v5).os = w5.os from rfl).trans (hgr.os.trans h04.os), (show (w5.setCell ⟨mb, 0, none⟩ v5).tape = w5.tape from rfl).trans (hgr.tape.trans h04.tape), (show (w5.setCell ⟨mb, 0, none⟩ v5).output = w5.output from rfl).trans (hgr.output.trans h04.output), ?_, fun j hj => ?_⟩
    · rw [hsz]; exact Nat.le_trans h04.size hgr.size
    · have hj4 : j < w4.heap.size := by have := h04.size; omega
      exact (h46 j hj4 (fun e => by have := hsown j e; omega) (by omega)).trans (h04.block j (by omega))
theorem fracText_zero : fracText 0 = [48] := by
  have := (dec_small (u := 0) (by omega))
  unfold fracText
  simp [this]
theorem frs_grownZ {w w' : World} {base B : Nat} {e : TypeId} {v : Value} {n : Nat} {xs : List Value} (h : OwnK ptrKind w base e 1 v n xs) (hg : w.grownBy w' v.ownBlock) {u : Value} {q : Rat} (hu : FracPtr w u q ∧ SafeZ w B u q) : FracPtr w' u q ∧ SafeZ w' B u q := by
  refine ⟨frs_grown h hg hu.1, ?_⟩
  rcases hu.2 with h0 | ⟨b, bn, f1, f2, f3, f4⟩
  · exact .inl h0
  · refine .inr ⟨b, bn, f1, f2, ?_, f4⟩
    obtain ⟨b', pn, pd, h1, h2, _⟩ := hu.1
    rw [h1] at f1
    injection f1 with f1; injection f1 with f1; injection f1 with f1
    subst f1
    have hne : v.ownBlock ≠ some b' := fun hb => by
      obtain ⟨a, ha⟩ := h.kind hb h2
      cases ha
    rw [cell_same (hg.block b' (block_lt h2) (fun e => hne e.symm))]
    exact f3
end Vic
namespace Go.Proofs.YthephiihcgibjaaGreatDoor
open Go.RowKit Vic
set_option maxRecDepth 100000 in
set_option maxHeartbeats 8000000 in
theorem mat_New_all (w : World) (sb so rows cols cs : Nat) (tb to_ tc : Nat → Nat) (tx : Nat → Nat → List UInt8) (ho : ∀ i, i < rows → w.cell? ⟨sb, so + i, none⟩ = some (.slice (some ⟨tb i, to_ i, none⟩) cols (tc i)))
    (hx : ∀ i j, i < rows → j < cols → w.cell? ⟨tb i, to_ i + j, none⟩ = some (.string ⟨(tx i j).toArray⟩)) (hg : ∀ i j, i < rows → j < cols → FracGood (tx i j) ∧ (tx i j).length ≤ 1000000) (ht : Tab w)
    (hr : rows ≤ 440) (hr0 : 0 < rows) (hcc : cols ≤ 440) (hc0 : 0 < cols) (hcs : rows ≤ cs) (htc : ∀ i, i < rows → cols ≤ tc i) :
    Calls Tryz.prog 25 #[.slice (some ⟨sb, so, none⟩) rows cs] w (MatMade 31 rows cols (fun i j => fracOf (tx i j)) w) := by
  have HO := Lib.hid ho; have HX := Lib.hid hx; have HGD := Lib.hid hg; have HT := Lib.hid ht; have HTC := Lib.hid htc
  obtain ⟨i1, hi1, hz1, hsz1, hby1⟩ := info_pf
  obtain ⟨i2, hi2, hz2, hsz2, hby2⟩ := info_lpf
  clear ho hx hg ht htc
  have hr' : ¬ ((rows : Nat) : Int) > 440 := by omega
  have hcc' : ¬ ((cols : Nat) : Int) > 440 := by omega
  go_enter Tryz.func25, Tryz.ntmps25
  go_wp2_with fail
  have hb0 : Below w.heap.size w (w.alloc (.cells #[.slice none 0 0, .int .i64 0] 122)) := (Below.refl _ _).alloc (Nat.le_refl _) _
  go_loopw [19] (fun t wr => ∃ (k : Nat) (gn cn : Nat → Nat) (cr : Nat → Array Value) (sv : Value) (x : Int), t = .int .i64 k ∧ k ≤ rows ∧ (k ≠ 0 → x = cols) ∧ Hid (Row wr w.heap.size 122 #[sv, .int .i64 x]) ∧ Hid (OwnK sliceKind wr (w.heap.size + 1) 54 1 sv k (rowVals k cols gn cn)) ∧ Hid (RowsK 31 wr (w.heap.size + 1) k cols gn cn cr (fun i j => fracOf (tx i j))) ∧ Hid (∀ G', sv.ownBlock = some G' → 0 < k ∧ ∀ i, i < k → gn i ≠ G') ∧ w.heap.size + 1 ≤ wr.heap.size ∧ Below w.heap.size w wr ∧ Hid (∀ i j, i < k → j < cols → ∀ p, (cr i)[j]? = some p → SafeZ wr (w.heap.size + 1) p (fracOf (tx i j)))) (fun t _ => rows - (intOf t).toNat)
  case atStart =>
    refine ⟨0, fun _ => 0, fun _ => 0, fun _ => #[], _, _, rfl, Nat.zero_le _, fun h => absurd rfl h, Row.new _ _ _, OwnK.nil_ _ _ _ _ _, RowsK.none_ _ _ _ _ _ _ _ _, (fun G' hG => by cases hG), ?_, hb0, Lib.hid (fun i j hi => by omega)⟩
    simp
  case round =>
    obtain ⟨k, gn, cn, cr, sv, x, rfl, hk, hxc, hrow, hown, hrows, hdis, hBw, hbr, hsafe⟩ := hrel
    by_cases hkr : k < rows
    · have ho' := cell_keep (HO.out k hkr) hbr
      have htk := HTC.out k hkr
      have hm0 : wr.cell? ⟨w.heap.size, 0, none⟩ = some sv := hrow.out.cell 0
      have hm1 : wr.cell? ⟨w.heap.size, 1, none⟩ = some (.int .i64 x) := hrow.out.cell 1
      have hfr := hrow.out.free 1
      have hw1 : IntKind.i64.wrap ((k : Int) + 1) = ((k + 1 : Nat) : Int) := by rw [IntKind.wrap_i64]; omega
      have hstart : ∃ W : World, Hid (W = if k = 0 then wr.setCell ⟨w.heap.size, 1, none⟩ (.int .i64 cols) else wr) := ⟨_, Lib.hid rfl⟩
      obtain ⟨W, hW⟩ := hstart
      have hW' : Hid (Row W w.heap.size 122 #[sv, .int .i64 cols] ∧ OwnK sliceKind W (w.heap.size + 1) 54 1 sv k (rowVals k cols gn cn) ∧ RowsK 31 W (w.heap.size + 1) k cols gn cn cr (fun i j => fracOf (tx i j)) ∧ w.heap.size + 1 ≤ W.heap.size ∧ Below w.heap.size w W ∧ (∀ i j, i < k → j < cols → ∀ p, (cr i)[j]? = some p → SafeZ W (w.heap.size + 1) p (fracOf (tx i j)))) := by
        rw [hW.out]
        by_cases h0 : k = 0
        · rw [if_pos h0]
          subst h0
          refine Lib.hid ⟨?_, ?_, RowsK.none_ _ _ _ _ _ _ _ _, ?_, hbr.setCell (p := ⟨w.heap.size, 1, none⟩) (Nat.le_refl _) _, fun i j hi => by omega⟩
          · exact hrow.out.set 1 (.int .i64 cols)
          · exact hown.out.stay fun g hg => Below.heap_setCell wr ⟨w.heap.size, 1, none⟩ _ g (fun e => by have := (hown.out.lt hg).1; have e' : g = w.heap.size := e; omega)
          · simpa [World.setCell] using hBw
        · rw [if_neg h0]
          obtain rfl : x = cols := hxc h0
          exact Lib.hid ⟨hrow.out, hown.out, hrows.out, hBw, hbr, hsafe.out⟩
      have hBW := hW'.out.2.2.2.1
      have hbW := hW'.out.2.2.2.2.1
      by_cases h0 : k = 0
      case' pos =>
        have hke : ((k : Int) == 0) = true := by simp [h0]
        have hWe : wr.setCell ⟨w.heap.size, 1, none⟩ (.int .i64 cols) = W := by rw [hW.out, if_pos h0]
      case' neg =>
        obtain rfl : x = cols := hxc h0
        have hke : ((k : Int) == 0) = false := by simp; omega
        have hWe : wr = W := by rw [hW.out, if_neg h0]
      all_goals
        have HWE := Lib.hid hWe
        clear hxc hown hrows hrow h0 hW hWe hsafe
        go_wp2_with fail
        rw [HWE.out]
        clear hm0 hm1 hfr HWE hBw hbr ho' hke
        go_loopw [45, 7] (fun t s wi => ∃ (j : Nat) (ps : List (Option Addr)), t = .int .i64 j ∧ j ≤ cols ∧ ps.length = j ∧ Hid (OwnK ptrKind wi W.heap.size 31 1 s j (ps.map Value.pointer)) ∧ Hid (∀ (i : Nat) p, ps[i]? = some p → FracPtr wi (.pointer p) (fracOf (tx k i)) ∧ SafeZ wi (w.heap.size + 1) (.pointer p) (fracOf (tx k i))) ∧ Below W.heap.size W wi) (fun t _ _ => cols - (intOf t).toNat)
        case atStart => exact ⟨0, [], rfl, Nat.zero_le _, rfl, OwnK.nil_ _ _ _ _ _, fun i p hp => by simp at hp, Below.refl _ _⟩
        case round =>
          obtain ⟨j, ps, rfl, hj, hpl, hown, hps, hbi⟩ := hrel
          have hB2 : Below w.heap.size w wr := hbW.trans (hbi.mono hbW.size)
          by_cases hjc : j < cols
          · have hcx := cell_keep (HX.out k j hkr hjc) hB2
            obtain ⟨hgd, hlx⟩ := HGD.out k j hkr hjc
            have hBwr : w.heap.size + 1 ≤ wr.heap.size := Nat.le_trans hBW hbi.size
            have CF : Hid (Calls Tryz.prog 51 #[.string ⟨(tx k j).toArray⟩] wr (fun e w' => ∃ z, e = .returned (.tuple #[z, .bool true]) ∧ (FracPtr w' z (fracOf (tx k j)) ∧ SafeZ w' (w.heap.size + 1) z (fracOf (tx k j))) ∧ Below wr.heap.size wr w')) := by
              by_cases hz0 : fracOf (tx k j) = 0
              · have h48 : tx k j = [48] := by
                  have := fracGood_iff _ hgd
                  rw [hz0, fracText_zero] at this
                  exact this
                rw [hz0, h48]
                refine (frac_Get_zero wr (HT.out.keep hB2)).mono ?_
                rintro e w' ⟨z, rfl, ⟨hz, hfar⟩, hb⟩
                exact ⟨z, rfl, ⟨hz, .inr (hfar.mono hBwr)⟩, hb⟩
              · refine (frac_Get wr (tx k j) hlx (HT.out.keep hB2)).mono ?_
                rintro e w' (⟨h, _⟩ | ⟨_, z, rfl, hz, _, hb⟩)
                · exact absurd hgd h
                · exact ⟨z, rfl, ⟨hz, .inl hz0⟩, hb⟩
            have hw2 : IntKind.i64.wrap ((j : Int) + 1) = ((j + 1 : Nat) : Int) := by rw [IntKind.wrap_i64]; omega
            have hq : ∃ q, q = fracOf (tx k j) := ⟨_, rfl⟩
            clear hgd hlx hBwr
            go_wp2_with fail
            refine CF.out.mono ?_
            rintro e w4 ⟨z, rfl, hz4, hb4⟩
            obtain ⟨z0, rfl⟩ := hz4.1.ptr
            have hal : Below w4.heap.size w4 (w4.alloc (.cells #[.pointer z0] 31)) := (Below.refl _ _).alloc (Nat.le_refl _) _
            have hB5 : Below wr.heap.size wr (w4.alloc (.cells #[.pointer z0] 31)) := hb4.alloc hb4.size _
            have hown5 := Lib.hid (hown.out.keep hB5)
            have hnew5 : Hid (∀ (j : Nat) u, [Value.pointer z0][j]? = some u → (w4.alloc (.cells #[.pointer z0] 31)).cell? ((⟨w4.heap.size, 0, none⟩ : Addr).add j) = some u) := Lib.hid fun j u hj => by
              rcases j with _ | j
              · cases hj
                exact (Row.new _ _ _).cell 0
              · simp at hj
            have hk5 : W.heap.size ≤ (w4.alloc (.cells #[.pointer z0] 31)).heap.size := Nat.le_trans hbi.size hB5.size
            have HZ4 := Lib.hid (And.intro (hz4.1.keep hal) (hz4.2.keep hal))
            clear hz4
            go_wp2_with (at_builtin; refine wpList_append_ownK (Kd := ptrKind) rfl (.tmp 56) (.tmp 58) 54 rfl W.heap.size 31 i1 _ 1 Tryz.underlying54 hi1 hz1 hsz1 rfl (by omega) _ j _ rfl hown5.out ⟨w4.heap.size, 0, none⟩ 1 1 [Value.pointer z0] rfl (by simp) hnew5.out (by simp [Value.oneCell']) (by simp [ptrKind]) (by simp [ptrKind, Value.cells]) (by omega) (by unfold maxLen; omega) (by rw [hby1]; omega) hk5 ?_; intro v6 w6 hown6 hgr6 hloc6)
            have hps6 : Hid (∀ (i : Nat) p, (ps ++ [z0])[i]? = some p → FracPtr w6 (.pointer p) (fracOf (tx k i)) ∧ SafeZ w6 (w.heap.size + 1) (.pointer p) (fracOf (tx k i))) := Lib.hid fun i p hi => by
              refine frs_grownZ hown5.out hgr6 ?_
              rcases Nat.lt_or_ge i j with h4 | h4
              · rw [List.getElem?_append_left (by omega)] at hi
                exact ⟨(hps.out i p hi).1.keep hB5, (hps.out i p hi).2.keep hB5⟩
              · rw [List.getElem?_append_right (by omega)] at hi
                rcases hjn : i - ps.length with _ | m
                · rw [hjn] at hi
                  simp only [List.getElem?_cons_zero, Option.some.injEq] at hi
                  subst hi
                  obtain rfl : i = j := by omega
                  exact HZ4.out
                · rw [hjn] at hi; simp at hi
            have hB6 : Below W.heap.size W w6 := hown.out.below hbi hB5 hgr6 hbi.size
            have HO6 : Hid (OwnK ptrKind w6 W.heap.size 31 1 v6 (j + 1) ((ps ++ [z0]).map Value.pointer)) := by
              rw [List.map_append]
              exact hown6
            have HPL : (ps ++ [z0]).length = j + 1 := by rw [List.length_append, hpl]; rfl
            clear hown6
            go_wp2_with fail
            go_roundw
            case rel => exact ⟨j + 1, ps ++ [z0], rfl, by omega, HPL, HO6, hps6, hB6⟩
            case measure => simp [intOf]; omega
          · obtain rfl : cols = j := by omega
            obtain ⟨hrW, hoW, hRW, _, _, hSW⟩ := hW'.out
            have hm0 : wr.cell? ⟨w.heap.size, 0, none⟩ = some sv := cell_keep (hrW.cell 0) hbi
            obtain ⟨g3, cap3, cur3, rfl, hg3, hrow3, hc3, hk3, hval3⟩ := hown.out.rowOf (by omega) hpl
            obtain ⟨cl, hcl⟩ : ∃ cl : World, cl = wr.alloc (.cells #[.slice (some ⟨g3, 0, none⟩) cols cap3] 54) := ⟨_, rfl⟩
            have hal : Below wr.heap.size wr cl := by rw [hcl]; exact (Below.refl _ _).alloc (Nat.le_refl _) _
            have h04 : Below W.heap.size W cl := hbi.trans (hal.mono hbi.size)
            have hown4 := Lib.hid (hoW.stay (w' := cl) (fun b hb => h04.block b (hoW.lt hb).2))
            have hnew4 : Hid (∀ (j : Nat) u, [Value.slice (some ⟨g3, 0, none⟩) cols cap3][j]? = some u → cl.cell? ((⟨wr.heap.size, 0, none⟩ : Addr).add j) = some u) := Lib.hid fun j u hj => by
              rcases j with _ | j
              · cases hj
                rw [hcl]
                exact (Row.new _ _ _).cell 0
              · simp at hj
            have hk4 : w.heap.size + 1 ≤ cl.heap.size := Nat.le_trans hBW h04.size
            have hfr3 : Hid (∀ i, i < cols → ∃ p, cur3[i]? = some p ∧ FracPtr cl p (fracOf (tx k i)) ∧ SafeZ cl (w.heap.size + 1) p (fracOf (tx k i))) := Lib.hid fun i hi => by
              have hi' : i < ps.length := by omega
              exact ⟨_, hval3 i _ (List.getElem?_eq_getElem hi'), (hps.out i _ (List.getElem?_eq_getElem hi')).1.keep hal, (hps.out i _ (List.getElem?_eq_getElem hi')).2.keep hal⟩
            have HR3 := Lib.hid (hrow3.keep hal)
            have HD3 := Lib.hid hk3
            have HCL := Lib.hid hcl
            have hfr4 : cl.frozen? ⟨w.heap.size, 0, none⟩ = false := (hrW.keep h04).free 0
            have hm4 : cl.cell? ⟨w.heap.size, 0, none⟩ = some sv := cell_keep hm0 hal
            have HOW := Lib.hid hoW; have HRW := Lib.hid hRW; have HRO := Lib.hid hrW; have HSW := Lib.hid hSW
            clear hval3 hrow3 hk3 hoW hRW hrW hcl hSW
            go_wp2_with (at_builtin; rw [← HCL.out]; refine wpList_append_ownK (Kd := sliceKind) rfl (.tmp 65) (.tmp 67) 120 rfl (w.heap.size + 1) 54 i2 _ 1 Tryz.underlying120 hi2 hz2 hsz2 rfl (by omega) _ k _ rfl hown4.out ⟨wr.heap.size, 0, none⟩ 1 1 [Value.slice (some ⟨g3, 0, none⟩) cols cap3] rfl (by simp) hnew4.out (by simp [Value.oneCell']) (by simp [sliceKind]) (by simp [sliceKind, Value.cells]) (by omega) (by unfold maxLen; omega) (by rw [hby2]; omega) hk4 ?_; intro v5 w5 hown5 hgr5 hloc5; refine Hid.out ?_)
            obtain ⟨g5, cap5, rfl⟩ := hown5.shape (by omega)
            obtain ⟨gn5, cn5, cr5, hr6, ho6, hR6, hd6, hB6, hb6, hs6⟩ := rows_round3 HRO.out (by omega) HOW.out HRW.out hdis.out hBW h04 hc0 HSW.out HR3.out HD3.out hg3 hc3 (fun i hi => hfr3.out i hi) hown5 hgr5 hloc5
            have hrow5 : Row w5 w.heap.size 122 #[sv, .int .i64 cols] := (hgr5.block _ (HRO.out.keep h04).lt (fun e => by
              have := (HOW.out.lt e.symm).1
              omega)).trans (HRO.out.keep h04)
            have hm5 : w5.cell? ⟨w.heap.size, 0, none⟩ = some sv := hrow5.cell 0
            have hfr5 := hrow5.free 0
            have HR6 := Lib.hid hr6; have HO6 := Lib.hid ho6; have HRR6 := Lib.hid hR6; have HD6 := Lib.hid hd6; have HB6 := Lib.hid hB6; have HS6 := Lib.hid hs6; have Hb6 := Lib.hid (hbW.trans hb6)
            clear hr6 ho6 hR6 hd6 hB6 hb6 hs6 hrow5 hown5
            refine Lib.hid ?_
            go_wp2_with fail
            go_roundw
            case rel =>
              exact ⟨k + 1, gn5, cn5, cr5, _, cols, rfl, by omega, fun _ => rfl, HR6, HO6, HRR6, HD6, HB6.out, Hb6.out, HS6⟩
            case measure => simp [intOf]; omega
    · have : k = rows := by omega
      subst this
      obtain rfl : x = cols := hxc (by omega)
      clear hxc
      go_wp2_with fail
      go_ret2
      obtain ⟨G, cg, c, rfl, hc1, hrow1, hk1, hg1, hBG⟩ := rows_open hown.out hrows.out hr0
      refine ⟨w.heap.size, G, c, gn, cn, cr, rfl, hrow.out.cell 0, hc1, hrow.out.cell 1, ?_, hbr⟩
      exact ⟨hg1.outer, hg1.row, hg1.ptr, fun i hi => by have := hg1.base i hi; omega, hg1.inj, hg1.caps, hg1.val⟩
end Go.Proofs.YthephiihcgibjaaGreatDoor
set_option linter.unusedVariables false
set_option linter.unusedSimpArgs false
namespace Vic
open Go Go.RowKit
/-- a block that is no part of a fraction -/
def TAlien (w : World) (b : Nat) : Prop := ¬ NatBlk w b ∧ ∀ o u, w.cell? ⟨b, o, none⟩ = some u → (∀ x, u ≠ .bool x) ∧ ∀ x, u ≠ .int .u32 x
theorem NatPtr.stayT {w w' : World} {v : Value} {n : Nat} (h : NatPtr w v n) (hs : ∀ b, b < w.heap.size → TAlien w b ∨ w'.heap[b]? = w.heap[b]?) : NatPtr w' v n := by
  obtain ⟨b, s, h1, h2, ⟨A, c, rfl, h3, h4⟩, hbk⟩ := h
  have e1 : w'.heap[b]? = w.heap[b]? := by
    rcases hs b (block_lt h2) with h5 | h5
    · exact absurd hbk h5.1
    · exact h5
  refine ⟨b, _, h1, by rw [cell_same e1]; exact h2, ⟨A, c, rfl, h3, fun i hi => ?_⟩, hbk.same e1⟩
  obtain ⟨b', o', hA', hc⟩ := h4 i hi
  have e2 : w'.heap[b']? = w.heap[b']? := by
    rcases hs b' (block_lt hc) with h5 | h5
    · exact absurd rfl ((h5.2 _ _ hc).2 _)
    · exact h5
  exact ⟨b', o', hA', by rw [cell_same e2]; exact hc⟩
theorem FracPtr.stayT {w w' : World} {v : Value} {q : Rat} (h : FracPtr w v q) (hs : ∀ b, b < w.heap.size → TAlien w b ∨ w'.heap[b]? = w.heap[b]?) : FracPtr w' v q := by
  obtain ⟨b, pn, pd, h1, h2, h3, h4, h5, h6⟩ := h
  have e1 : w'.heap[b]? = w.heap[b]? := by
    rcases hs b (block_lt h2) with h7 | h7
    · exact absurd rfl ((h7.2 _ _ h2).1 _)
    · exact h7
  refine ⟨b, pn, pd, h1, by rw [cell_same e1]; exact h2, by rw [cell_same e1]; exact h3, by rw [cell_same e1]; exact h4, ?_, NatPtr.stayT h6 hs⟩
  rcases h5 with h5 | h5
  · exact .inl h5
  · exact (NatPtr.stayT h5 hs).at_
theorem talien_row {w : World} {b : Nat} {T : TypeId} {cs : Array Value} (h : Row w b T cs) (hT : T ≠ 150) (hk : ∀ u ∈ cs, (∀ x, u ≠ .bool x) ∧ ∀ x, u ≠ .int .u32 x) : TAlien w b := by
  refine ⟨fun ⟨cs', fr, h'⟩ => ?_, fun o u hu => ?_⟩
  · unfold Row at h; rw [h] at h'; injection h' with h'; injection h' with _ h2 _; exact hT h2
  · rw [h.cell] at hu; exact hk u (Array.mem_of_getElem? hu)
theorem talien_own {Kd : Value → Prop} {w : World} {B : Nat} {T : TypeId} {size n : Nat} {v : Value} {xs : List Value} (h : OwnK Kd w B T size v n xs) (hT : T ≠ 150) (hk : ∀ u, Kd u → (∀ x, u ≠ .bool x) ∧ ∀ x, u ≠ .int .u32 x) {g : Nat} (hg : v.ownBlock = some g) : TAlien w g := by
  obtain ⟨h1, ⟨rfl, _⟩ | ⟨g', cap, cur, rfl, a2, a3, a4, a5, a6, a7, a8⟩⟩ := h
  · cases hg
  · injection hg with hg
    subst hg
    exact talien_row (T := T) a3 hT fun u hu => hk u (a8 u hu)
theorem RowsK.stayT {T : TypeId} {w w' : World} {B rows cols : Nat} {g cap : Nat → Nat} {cur : Nat → Array Value} {M : Nat → Nat → Rat} (h : RowsK T w B rows cols g cap cur M) (hg : ∀ i, i < rows → w'.heap[g i]? = w.heap[g i]?) (hs : ∀ b, b < w.heap.size → TAlien w b ∨ w'.heap[b]? = w.heap[b]?) : RowsK T w' B rows cols g cap cur M :=
  ⟨fun i hi => (hg i hi).trans (h.row i hi), h.ptr, h.base, h.inj, h.caps, fun i k hi hk => by
    obtain ⟨p, h1, h2⟩ := h.val i k hi hk
    exact ⟨p, h1, h2.stayT hs⟩⟩
/-- a round of rows that are made, the slice of them in a variable -/
theorem rows_round4 {T T1 T2 : TypeId} {B k n mb : Nat} {gn cn : Nat → Nat} {cr : Nat → Array Value} {N : Nat → Nat → Rat} {wr w4 w5 : World} {s v5 : Value} {x : Int} (hrow : Row wr mb T1 #[s, .int .i64 x]) (hmb : mb < B) (hown : OwnK sliceKind wr B T2 1 s k (rowVals k n gn cn)) (hrows : RowsK T wr B k n gn cn cr N)
    (hdis : ∀ G', s.ownBlock = some G' → 0 < k ∧ ∀ i, i < k → gn i ≠ G') (hB : B ≤ wr.heap.size) (h04 : Below wr.heap.size wr w4) {g' cap' : Nat} {cur' : Array Value} (hn : 0 < n) (hT1 : T1 ≠ 150) (hT2 : T2 ≠ 150)
    (hr : Row w4 g' T cur') (hp : ∀ u ∈ cur', ∃ a, u = .pointer a) (hg' : wr.heap.size ≤ g') (hc' : n ≤ cap') (hv : ∀ j, j < n → ∃ p, cur'[j]? = some p ∧ FracPtr w4 p (N k j))
    (hw5 : OwnK sliceKind w5 B T2 1 v5 (k + 1) (rowVals k n gn cn ++ [.slice (some ⟨g', 0, none⟩) n cap'])) (hgr : w4.grownBy w5 s.ownBlock) (hloc : v5.ownBlock = s.ownBlock ∨ v5.ownBlock = some w4.heap.size) :
    ∃ gn' cn' cr', Row (w5.setCell ⟨mb, 0, none⟩ v5) mb T1 #[v5, .int .i64 x] ∧ OwnK sliceKind (w5.setCell ⟨mb, 0, none⟩ v5) B T2 1 v5 (k + 1) (rowVals (k + 1) n gn' cn') ∧ RowsK T (w5.setCell ⟨mb, 0, none⟩ v5) B (k + 1) n gn' cn' cr' N ∧ (∀ G', v5.ownBlock = some G' → 0 < k + 1 ∧ ∀ i, i < k + 1 → gn' i ≠ G') ∧ B ≤ (w5.setCell ⟨mb, 0, none⟩ v5).heap.size ∧ Below mb wr (w5.setCell ⟨mb, 0, none⟩ v5) := by
  have hR4 := (hrows.keep h04).push (q := N k) hr hp (Nat.le_trans hB hg') (fun i hi e => by have := (hrows.row i hi).lt; omega) hc' hv
  have eN : (fun i => if i = k then N k else N i) = N := by
    funext i
    by_cases e : i = k
    · rw [if_pos e, e]
    · rw [if_neg e]
  rw [eN] at hR4
  have hrow4 := hrow.keep h04
  have hlt : ∀ i, i < k + 1 → (if i = k then g' else gn i) < w4.heap.size := fun i hi => (hR4.row i hi).lt
  have hsown : ∀ j, s.ownBlock = some j → B ≤ j ∧ j < wr.heap.size := fun j hj => hown.lt hj
  have hmbs : s.ownBlock ≠ some mb := fun e => by have := hsown mb e; omega
  have h46 : ∀ j, j < w4.heap.size → s.ownBlock ≠ some j → j ≠ mb → (w5.setCell ⟨mb, 0, none⟩ v5).heap[j]? = w4.heap[j]? := fun j hj h1 h2 => (Below.heap_setCell w5 ⟨mb, 0, none⟩ v5 j h2).trans (hgr.block j hj (fun e => h1 e.symm))
  have hsz : (w5.setCell ⟨mb, 0, none⟩ v5).heap.size = w5.heap.size := by simp [World.setCell]
  have hsl : ∃ A l c, s = .slice A l c := by
    obtain ⟨_, ⟨rfl, _⟩ | ⟨g, cap, cur, rfl, _⟩⟩ := hown
    · exact ⟨_, _, _, rfl⟩
    · exact ⟨_, _, _, rfl⟩
  have al1 : TAlien w4 mb := by
    obtain ⟨A0, l0, c0, hs0⟩ := hsl
    refine talien_row hrow4 hT1 fun u hu => ?_
    simp at hu
    rcases hu with rfl | rfl
    · rw [hs0]; exact ⟨fun x => by simp, fun x => by simp⟩
    · exact ⟨fun x => by simp, fun x => by simp⟩
  have al2 : ∀ b, s.ownBlock = some b → TAlien w4 b := fun b hb => talien_own (hown.keep h04) hT2 (fun u hu => by
    obtain ⟨A, l, c, rfl⟩ := hu
    exact ⟨fun x => by simp, fun x => by simp⟩) hb
  have hrow6 : Row (w5.setCell ⟨mb, 0, none⟩ v5) mb T1 #[v5, .int .i64 x] := by
    have h5 : Row w5 mb T1 #[s, .int .i64 x] := (hgr.block mb hrow4.lt (fun e => hmbs e.symm)).trans hrow4
    exact h5.set 0 v5
  refine ⟨_, _, fun i => if i = k then cur' else cr i, hrow6, ?_, hR4.stayT (fun i hi => ?_) (fun j hj => ?_), fun G' hG => ⟨by omega, fun i hi e => ?_⟩, ?_, ?_⟩
  · rw [← rowVals_push]
    exact hw5.stay fun g hg => Below.heap_setCell w5 ⟨mb, 0, none⟩ v5 g (fun e => by have := (hw5.lt hg).1; have e' : g = mb := e; omega)
  · have hl := hlt i hi
    have hb := hR4.base i hi
    refine h46 _ hl (fun e => ?_) (fun e => by omega)
    by_cases e1 : i = k
    · rw [if_pos e1] at e
      have := hsown _ e
      omega
    · rw [if_neg e1] at e
      exact (hdis _ e).2 i (by omega) rfl
  · by_cases h1 : s.ownBlock = some j
    · exact .inl (al2 j h1)
    · by_cases h2 : j = mb
      · subst h2; exact .inl al1
      · exact .inr (h46 j hj h1 h2)
  · rcases hloc with hl | hl
    · rw [hl] at hG
      have hbl := hown.lt hG
      by_cases e1 : i = k
      · rw [if_pos e1] at e
        omega
      · rw [if_neg e1] at e
        exact (hdis G' hG).2 i (by omega) e
    · rw [hl] at hG
      injection hG with hG
      have := hlt i hi
      omega
  · rw [hsz]; have := hgr.size; have := h04.size; omega
  · refine ⟨(show (w5.setCell ⟨mb, 0, none⟩ v5).os = w5.os from rfl).trans (hgr.os.trans h04.os), (show (w5.setCell ⟨mb, 0, none⟩ v5).tape = w5.tape from rfl).trans (hgr.tape.trans h04.tape), (show (w5.setCell ⟨mb, 0, none⟩ v5).output = w5.output from rfl).trans (hgr.output.trans h04.output), ?_, fun j hj => ?_⟩
    · rw [hsz]; exact Nat.le_trans h04.size hgr.size
    · have hj4 : j < w4.heap.size := by have := h04.size; omega
      exact (h46 j hj4 (fun e => by have := hsown j e; omega) (by omega)).trans (h04.block j (by omega))
end Vic
set_option linter.unusedVariables false
set_option linter.unusedSimpArgs false
namespace Vic
open Go Go.RowKit
/-- a matrix behind a pointer -/
def MatR (w : World) (v : Value) (rows cols : Nat) (M : Mtx) : Prop := ∃ mb G GO c, v = .pointer (some ⟨mb, 0, none⟩) ∧ w.cell? ⟨mb, 0, none⟩ = some (.slice (some ⟨G, GO, none⟩) rows c) ∧ rows ≤ c ∧ w.cell? ⟨mb, 1, none⟩ = some (.int .i64 cols) ∧ RGrid w G GO rows cols M
theorem MatR.keep {w w' : World} {v : Value} {rows cols : Nat} {M : Mtx} (h : MatR w v rows cols M) (hb : Below w.heap.size w w') : MatR w' v rows cols M := by
  obtain ⟨mb, G, GO, c, h1, h2, h3, h4, h5⟩ := h
  exact ⟨mb, G, GO, c, h1, cell_keep h2 hb, h3, cell_keep h4 hb, h5.keep hb⟩
theorem made_ptr (n : Nat) : madeCells #[.pointer none] n = Array.replicate n (.pointer none) := by
  apply Array.ext'
  rw [toList_madeCells_one]
  simp
end Vic
namespace Go.Proofs.YthephiihcgibjaaGreatDoor
open Go.RowKit Vic
theorem mk_pf (n : Nat) (N : Int) (hN : N = n) (hn : n ≤ 10000000000) (w : World) :
    (Instr.makeSlice 54 (.int .i64 N) (.int .i64 N)).run Tryz.prog w = .ok (.slice (some ⟨w.heap.size, 0, none⟩) n n) (w.alloc (.cells (Array.replicate n (.pointer none)) 31)) := by
  subst hN
  rw [run_make_row' 54 31 _ 8 Tryz.underlying54 info_pf0 rfl .i64 .i64 n (by omega) (by omega) w, made_ptr]
set_option maxRecDepth 100000 in
set_option maxHeartbeats 4000000 in
theorem mat_Times (w : World) (u v : Value) (rows cols L : Nat) (M : Mtx) (x : Nat → Rat) (h : MatR w u rows cols M) (hx : FrIn w v cols x) (hf : ∀ i k, i < rows → k < cols → Fits L (M i k)) (hfx : ∀ k, k < cols → Fits L (x k)) (hr0 : 0 < rows) (hr : rows ≤ 1000) (hcc : cols ≤ 20) (hL : L ≤ 20000000) :
    Calls Tryz.prog 28 #[u, v] w (fun e w' => ∃ y, e = .returned (.tuple #[y, .bool true]) ∧ FrIn w' y rows (fun i => sigma cols fun k => M i k * x k) ∧ Below w.heap.size w w') := by
  obtain ⟨mb, G, GO, c, rfl, hm0, hrc, hm1, hg⟩ := h
  have CS := Lib.hid (mat_Size w mb G GO rows cols c hm0 hm1)
  have HD : Hid (∀ W i rv, Below w.heap.size w W → i < rows → FrIn W rv cols (M i) → Calls Tryz.prog 84 #[rv, v] W (Gives (fun z w' => FracPtr w' z (sigma cols fun k => M i k * x k)) W)) := Lib.hid fun W i rv hb hi hrv => mat_dot W rv v cols L (M i) x hrv (hx.keep hb) (fun k hk => hf i k hi hk) hfx hcc hL
  obtain ⟨gx, ox, cx, rfl, hcx, _⟩ := hx
  have HG := Lib.hid hg
  have hmk : ∀ w, (Instr.makeSlice 54 (.int .i64 rows) (.int .i64 rows)).run Tryz.prog w = .ok (.slice (some ⟨w.heap.size, 0, none⟩) rows rows) (w.alloc (.cells (Array.replicate rows (.pointer none)) 31)) := fun w => mk_pf rows _ rfl (by omega) w
  obtain ⟨S, hS⟩ : ∃ S : Nat → Rat, S = fun i => sigma cols fun k => M i k * x k := ⟨_, rfl⟩
  rw [← hS]
  have HD2 : Hid (∀ W i rv, Below w.heap.size w W → i < rows → FrIn W rv cols (M i) → Calls Tryz.prog 84 #[rv, .slice (some ⟨gx, ox, none⟩) cols cx] W (Gives (fun z w' => FracPtr w' z (S i)) W)) := Lib.hid fun W i rv h1 h2 h3 => by rw [hS]; exact HD.out W i rv h1 h2 h3
  clear HD hS
  clear hg hf hfx
  go_enter Tryz.func28, Tryz.ntmps28
  go_wp2_with fail
  refine CS.out.mono ?_
  rintro e w0 ⟨rfl, n0, rfl⟩
  obtain ⟨wa, hwa⟩ : ∃ X, X = w.drewN n0 := ⟨_, rfl⟩
  have hba : Below w.heap.size w wa := by rw [hwa]; exact Vic.Below.drewN_ (Below.refl _ _) _
  rw [← hwa]
  clear hwa CS
  obtain ⟨wb, hwb⟩ : ∃ X, X = wa.alloc (.cells (Array.replicate rows (.pointer none)) 31) := ⟨_, rfl⟩
  have hab : Below wa.heap.size wa wb := by rw [hwb]; exact (Below.refl _ _).alloc (Nat.le_refl _) _
  have hrb : Row wb wa.heap.size 31 (Array.replicate rows (.pointer none)) := by rw [hwb]; exact Row.new _ _ _
  have hbb := below_seq hba hab
  have HWB := Lib.hid hwb
  clear hwb
  go_upto_region 5 with fail
  rw [← HWB.out]
  go_wp2_with fail
  go_loopw [23] (fun t wr => ∃ (k : Nat) (cur : Array Value), t = .int .i64 k ∧ k ≤ rows ∧ Hid (Row wr wa.heap.size 31 cur) ∧ Hid (cur.size = rows ∧ ∀ u ∈ cur, ∃ a, u = .pointer a) ∧ Hid (∀ i, i < k → ∃ p, cur[i]? = some (.pointer p) ∧ FracPtr wr (.pointer p) (S i)) ∧ Below w.heap.size w wr) (fun t _ => rows - (intOf t).toNat)
  case atStart => exact ⟨0, _, rfl, Nat.zero_le _, Lib.hid hrb, Lib.hid ⟨by simp, fun u hu => ⟨none, (Array.mem_replicate.1 hu).2⟩⟩, Lib.hid (fun i hi => by omega), hbb⟩
  case round =>
    clear hrb
    obtain ⟨k, cur, rfl, hk, hrow, hcur, hval, hbr⟩ := hrel
    by_cases hlt : k < rows
    · have hlt' := Int.ofNat_lt.2 hlt
      obtain ⟨rv, hrv, hfr⟩ := HG.out k hlt
      have hm0' := cell_keep hm0 hbr
      have hrv' := cell_keep hrv hbr
      have hfr' := hfr.keep hbr
      have CD := Lib.hid (HD2.out wr k rv hbr hlt hfr')
      obtain ⟨gr, og, cg, rfl, _, _⟩ := hfr
      clear hfr' hrv
      go_wp2_with fail
      go_at_call 84
      refine CD.out.mono ?_
      rintro e w1 ⟨z, rfl, hz, hb1⟩
      obtain ⟨pz, rfl⟩ := hz.ptr
      have hrow1 := Row.keep hrow.out hb1
      have hB1 := below_seq hbr hb1
      have hc1 : ∃ u, w1.cell? ⟨wa.heap.size, k, none⟩ = some u := by
        rw [hrow1.cell]
        exact ⟨_, Array.getElem?_eq_getElem (by rw [hcur.out.1]; exact hlt)⟩
      obtain ⟨uc, hc1⟩ := hc1
      have hf1 := hrow1.free k
      have HZ := Lib.hid hz; have HR1 := Lib.hid hrow1
      clear CD hz hrow1
      go_wp2_with fail
      have hst : ∀ b, b < w1.heap.size → PAlien w1 b ∨ (w1.setCell ⟨wa.heap.size, k, none⟩ (.pointer pz)).heap[b]? = w1.heap[b]? := setCell_stayP fun o u hu => by
        rw [HR1.out.cell] at hu
        exact hcur.out.2 u (Array.mem_of_getElem? hu)
      go_roundw
      case rel =>
        refine ⟨k + 1, cur.setIfInBounds k (.pointer pz), by go_num, by omega, Lib.hid (HR1.out.set k _), Lib.hid ⟨by simp [hcur.out.1], fun u hu => ?_⟩, Lib.hid (fun i hi => ?_), hB1.setCell (p := ⟨wa.heap.size, k, none⟩) hba.size _⟩
        · rcases Array.mem_or_eq_of_mem_setIfInBounds hu with h | h
          · exact hcur.out.2 u h
          · exact ⟨_, h⟩
        · by_cases e : i = k
          · subst e
            exact ⟨pz, by simp [hcur.out.1, hlt], HZ.out.stayP hst⟩
          · obtain ⟨p, h1, h2⟩ := hval.out i (by omega)
            exact ⟨p, by rw [Array.getElem?_setIfInBounds_ne (by omega)]; exact h1, (h2.keep hb1).stayP hst⟩
      case measure => simp [intOf]; omega
    · obtain rfl : k = rows := by omega
      go_wp2_with fail
      go_ret2
      exact ⟨_, rfl, ⟨_, _, _, rfl, Nat.le_refl _, fun i hi => by
        obtain ⟨p, h1, h2⟩ := hval.out i hi
        exact ⟨p, by rw [hrow.out.cell, Nat.zero_add]; exact h1, h2⟩⟩, hbr⟩
set_option maxRecDepth 100000 in
theorem mat_Times_no (w : World) (u v : Value) (rows cols n : Nat) (M : Mtx) (h : MatR w u rows cols M) (hv : ∃ A c, v = .slice A n c) (hn : n ≠ cols) (hr : rows ≤ 1000) (hn2 : n ≤ 1000) (hcc : cols ≤ 1000) :
    Calls Tryz.prog 28 #[u, v] w (Keeps (.tuple #[.slice none 0 0, .bool false]) w) := by
  obtain ⟨mb, G, GO, c, rfl, hm0, hrc, hm1, hg⟩ := h
  obtain ⟨A, cx, rfl⟩ := hv
  have CS := Lib.hid (mat_Size w mb G GO rows cols c hm0 hm1)
  have hne : ((n : Int) != (cols : Int)) = true := by rw [bne_iff_ne]; omega
  clear hg
  go_enter Tryz.func28, Tryz.ntmps28
  go_wp2_with fail
  refine CS.out.mono ?_
  rintro e w0 ⟨rfl, n0, rfl⟩
  obtain ⟨wa, hwa⟩ : ∃ X, X = w.drewN n0 := ⟨_, rfl⟩
  have hba : Below w.heap.size w wa := by rw [hwa]; exact Vic.Below.drewN_ (Below.refl _ _) _
  rw [← hwa]
  clear hwa CS
  go_wp2_with fail
  go_ret2
  exact ⟨rfl, hba⟩
set_option maxRecDepth 100000 in
theorem mat_At (w : World) (u : Value) (rows cols i k : Nat) (M : Mtx) (h : MatR w u rows cols M) (hi : i < rows) (hk : k < cols) (hr : rows ≤ 1000) (hcc : cols ≤ 1000) :
    Calls Tryz.prog 45 #[u, .int .i64 i, .int .i64 k] w (Gives (fun z w' => FracPtr w' z (M i k)) w) := by
  obtain ⟨mb, G, GO, c, rfl, hm0, hrc, hm1, hg⟩ := h
  have CS := Lib.hid (mat_Size w mb G GO rows cols c hm0 hm1)
  obtain ⟨sv, hsv, gr, og, cg, rfl, hcg, hfr⟩ := hg i hi
  obtain ⟨p, hp, hfp⟩ := hfr k hk
  have HF := Lib.hid hfp
  clear hg hfr hfp
  go_enter Tryz.func45, Tryz.ntmps45
  go_wp2_with fail
  refine CS.out.mono ?_
  rintro e w0 ⟨rfl, n0, rfl⟩
  obtain ⟨wa, hwa⟩ : ∃ X, X = w.drewN n0 := ⟨_, rfl⟩
  have hba : Below w.heap.size w wa := by rw [hwa]; exact Vic.Below.drewN_ (Below.refl _ _) _
  rw [← hwa]
  clear hwa CS
  have hm0' := cell_keep hm0 hba
  have hsv' := cell_keep hsv hba
  have hp' := cell_keep hp hba
  have h1 := Int.ofNat_lt.2 hi
  have h2 := Int.ofNat_lt.2 hk
  clear hm0 hsv hp
  go_wp2_with fail
  go_ret
  exact ⟨_, rfl, HF.out.keep hba, hba⟩
set_option maxRecDepth 100000 in
theorem mat_At_no (w : World) (u : Value) (rows cols : Nat) (i k : Int) (M : Mtx) (h : MatR w u rows cols M) (hik : i < 0 ∨ (rows : Int) ≤ i ∨ k < 0 ∨ (cols : Int) ≤ k) (hr : rows ≤ 1000) (hcc : cols ≤ 1000) :
    Calls Tryz.prog 45 #[u, .int .i64 i, .int .i64 k] w (Keeps (.pointer none) w) := by
  obtain ⟨mb, G, GO, c, rfl, hm0, hrc, hm1, hg⟩ := h
  have CS := Lib.hid (mat_Size w mb G GO rows cols c hm0 hm1)
  clear hg
  go_enter Tryz.func45, Tryz.ntmps45
  go_wp2_with fail
  refine CS.out.mono ?_
  rintro e w0 ⟨rfl, n0, rfl⟩
  obtain ⟨wa, hwa⟩ : ∃ X, X = w.drewN n0 := ⟨_, rfl⟩
  have hba : Below w.heap.size w wa := by rw [hwa]; exact Vic.Below.drewN_ (Below.refl _ _) _
  rw [← hwa]
  clear hwa CS hm0 hm1
  have hor : i < 0 ∨ (¬ i < 0 ∧ i ≥ (rows : Int)) ∨ (¬ i < 0 ∧ ¬ i ≥ (rows : Int) ∧ k < 0) ∨ (¬ i < 0 ∧ ¬ i ≥ (rows : Int) ∧ ¬ k < 0 ∧ k ≥ (cols : Int)) := by omega
  clear hik
  rcases hor with a1 | ⟨a1, a2⟩ | ⟨a1, a2, a3⟩ | ⟨a1, a2, a3, a4⟩
  all_goals
    go_wp2_with fail
    go_ret
    exact ⟨rfl, hba⟩
end Go.Proofs.YthephiihcgibjaaGreatDoor
set_option linter.unusedVariables false
set_option linter.unusedSimpArgs false
namespace Vic
open Go Go.RowKit
/-- a row of pointers more, the slice of the rows in a variable -/
theorem ptrs_round {T1 T2 : TypeId} {B B0 k n mb g3 cap3 : Nat} {gn cn : Nat → Nat} {Q : Nat → Nat → Option Addr → Prop} {w0 W cl w5 : World} {s v5 : Value} {x : Int} (hrow : Row W mb T1 #[s, .int .i64 x]) (hmb : mb < B) (hown : OwnK sliceKind W B T2 1 s k (rowVals k n gn cn))
    (hcel : ∀ i j, i < k → j < n → ∃ p, W.cell? ⟨gn i, j, none⟩ = some (.pointer p) ∧ Q i j p) (hcap : ∀ i, i < k → n ≤ cn i) (h04 : Below W.heap.size W cl) (hnew : ∀ j, j < n → ∃ p, cl.cell? ⟨g3, j, none⟩ = some (.pointer p) ∧ Q k j p) (hc3 : n ≤ cap3)
    (hown5 : OwnK sliceKind w5 B T2 1 v5 (k + 1) (rowVals k n gn cn ++ [.slice (some ⟨g3, 0, none⟩) n cap3])) (hgr : cl.grownBy w5 s.ownBlock) (hbr : Below B0 w0 W) (h0 : B0 ≤ mb) :
    ∃ gn' cn' : Nat → Nat, Row (w5.setCell ⟨mb, 0, none⟩ v5) mb T1 #[v5, .int .i64 x] ∧ OwnK sliceKind (w5.setCell ⟨mb, 0, none⟩ v5) B T2 1 v5 (k + 1) (rowVals (k + 1) n gn' cn') ∧ (∀ i j, i < k + 1 → j < n → ∃ p, (w5.setCell ⟨mb, 0, none⟩ v5).cell? ⟨gn' i, j, none⟩ = some (.pointer p) ∧ Q i j p) ∧
      (∀ i, i < k + 1 → n ≤ cn' i) ∧ Below B0 w0 (w5.setCell ⟨mb, 0, none⟩ v5) ∧ Row w5 mb T1 #[s, .int .i64 x] := by
  have hrow4 := hrow.keep h04
  have hsown : ∀ j, s.ownBlock = some j → B ≤ j ∧ j < W.heap.size := fun j hj => hown.lt hj
  have hmbs : s.ownBlock ≠ some mb := fun e => by have := hsown mb e; omega
  have hsl : ∃ A l c, s = .slice A l c := by
    obtain ⟨_, ⟨rfl, _⟩ | ⟨g, cap, cur, rfl, _⟩⟩ := hown
    · exact ⟨_, _, _, rfl⟩
    · exact ⟨_, _, _, rfl⟩
  have hcl : ∀ b o p, cl.cell? ⟨b, o, none⟩ = some (.pointer p) → (w5.setCell ⟨mb, 0, none⟩ v5).cell? ⟨b, o, none⟩ = some (.pointer p) := fun b o p hx => by
    have hne : s.ownBlock ≠ some b := fun e => by
      obtain ⟨_, _, _, h⟩ := (hown.keep h04).kind e hx
      cases h
    have hb : b ≠ mb := by
      rintro rfl
      rw [hrow4.cell] at hx
      obtain ⟨A, l, c, rfl⟩ := hsl
      rcases o with _ | _ | o <;> simp at hx
    rw [cell_same ((Below.heap_setCell w5 ⟨mb, 0, none⟩ v5 b hb).trans (hgr.block b (block_lt hx) (fun e => hne e.symm)))]
    exact hx
  have h5 : Row w5 mb T1 #[s, .int .i64 x] := (hgr.block mb hrow4.lt (fun e => hmbs e.symm)).trans hrow4
  refine ⟨fun i => if i = k then g3 else gn i, fun i => if i = k then cap3 else cn i, h5.set 0 v5, ?_, fun i j hi hj => ?_, fun i hi => ?_, ?_, h5⟩
  · rw [← rowVals_push]
    exact hown5.stay fun g hg => Below.heap_setCell w5 ⟨mb, 0, none⟩ v5 g (fun e => by have := (hown5.lt hg).1; have e' : g = mb := e; omega)
  · by_cases e : i = k
    · subst e
      obtain ⟨p, h1, h2⟩ := hnew j hj
      simp only [if_pos]
      exact ⟨p, hcl _ _ _ h1, h2⟩
    · obtain ⟨p, h1, h2⟩ := hcel i j (by omega) hj
      simp only [if_neg e]
      exact ⟨p, hcl _ _ _ (cell_keep h1 h04), h2⟩
  · by_cases e : i = k
    · simp only [if_pos e]; exact hc3
    · simp only [if_neg e]; exact hcap i (by omega)
  · have hs1 : B0 ≤ W.heap.size := Nat.le_trans h0 (Nat.le_of_lt hrow.lt)
    have h1 := hbr.trans (h04.mono hs1)
    have hs : B0 ≤ cl.heap.size := Nat.le_trans hs1 h04.size
    refine Below.setCell (p := ⟨mb, 0, none⟩) ⟨hgr.os.trans h1.os, hgr.tape.trans h1.tape, hgr.output.trans h1.output, Nat.le_trans h1.size hgr.size, fun j hj => (hgr.block j (by omega) (fun e => ?_)).trans (h1.block j hj)⟩ h0 _
    have := (hown.lt e.symm).1
    omega
/-- rows that have been appended are a matrix that is read -/
theorem rows_read {T2 : TypeId} {B k n : Nat} {gn cn : Nat → Nat} {W : World} {s : Value} {M : Mtx} (hown : OwnK sliceKind W B T2 1 s k (rowVals k n gn cn)) (hk : 0 < k)
    (hcel : ∀ i j, i < k → j < n → ∃ p, W.cell? ⟨gn i, j, none⟩ = some (.pointer p) ∧ FracPtr W (.pointer p) (M i j)) (hcap : ∀ i, i < k → n ≤ cn i) : ∃ G c, s = .slice (some ⟨G, 0, none⟩) k c ∧ k ≤ c ∧ RGrid W G 0 k n M := by
  have ho := hown.own
  obtain ⟨_, ⟨h1, h2⟩ | ⟨G, c, cur, rfl, _, _, h4, _⟩⟩ := hown
  · omega
  · refine ⟨G, c, rfl, h4, fun i hi => ⟨.slice (some ⟨gn i, 0, none⟩) n (cn i), ?_, gn i, 0, cn i, rfl, hcap i hi, fun j hj => ?_⟩⟩
    · have := ho.cells (g := G) rfl i (.slice (some ⟨gn i, 0, none⟩) n (cn i)) (by
        unfold rowVals
        rw [List.getElem?_map, List.getElem?_range hi]
        rfl)
      rwa [show (⟨G, 0, none⟩ : Addr).add i = ⟨G, 0 + i, none⟩ by simp [Addr.add]; omega] at this
    · rw [Nat.zero_add]; exact hcel i j hi hj
end Vic
namespace Go.Proofs.YthephiihcgibjaaGreatDoor
open Go.RowKit Vic
set_option maxRecDepth 100000 in
set_option maxHeartbeats 8000000 in
theorem mat_Turn (w : World) (u : Value) (rows cols : Nat) (M : Mtx) (h : MatR w u rows cols M) (hr0 : 0 < rows) (hc0 : 0 < cols) (hr : rows ≤ 1000) (hcc : cols ≤ 1000) :
    Calls Tryz.prog 46 #[u] w (Gives (fun z w' => MatR w' z cols rows (turnM M)) w) := by
  obtain ⟨mb, G, GO, c, rfl, hm0, hrc, hm1, hg⟩ := h
  have CS := Lib.hid (mat_Size w mb G GO rows cols c hm0 hm1)
  have HG := Lib.hid hg
  have hmk : ∀ w, (Instr.makeSlice 54 (.int .i64 rows) (.int .i64 rows)).run Tryz.prog w = .ok (.slice (some ⟨w.heap.size, 0, none⟩) rows rows) (w.alloc (.cells (Array.replicate rows (.pointer none)) 31)) := fun w => mk_pf rows _ rfl (by omega) w
  obtain ⟨i2, hi2, hz2, hsz2, hby2⟩ := info_lpf
  clear hg
  go_enter Tryz.func46, Tryz.ntmps46
  go_wp2_with fail
  refine CS.out.mono ?_
  rintro e w0 ⟨rfl, n0, rfl⟩
  obtain ⟨wa, hwa⟩ : ∃ X, X = w.drewN n0 := ⟨_, rfl⟩
  have hba : Below w.heap.size w wa := by rw [hwa]; exact Vic.Below.drewN_ (Below.refl _ _) _
  rw [← hwa]
  clear hwa CS
  obtain ⟨wb, hwb⟩ : ∃ X, X = wa.alloc (.cells #[.slice none 0 0, .int .i64 rows] 122) := ⟨_, rfl⟩
  have hab : Below wa.heap.size wa wb := by rw [hwb]; exact (Below.refl _ _).alloc (Nat.le_refl _) _
  have hrb : Row wb wa.heap.size 122 #[.slice none 0 0, .int .i64 rows] := by rw [hwb]; exact Row.new _ _ _
  have hszb : wb.heap.size = wa.heap.size + 1 := by rw [hwb]; simp
  have hbb := below_seq hba hab
  have HWB := Lib.hid hwb
  clear hwb
  go_upto_region 3 with fail
  rw [← HWB.out]
  go_wp2_with fail
  go_loopw [18] (fun t wr => ∃ (k : Nat) (gn cn : Nat → Nat) (s : Value), t = .int .i64 k ∧ k ≤ cols ∧ Hid (Row wr wa.heap.size 122 #[s, .int .i64 rows]) ∧ Hid (OwnK sliceKind wr (wa.heap.size + 1) 54 1 s k (rowVals k rows gn cn)) ∧ Hid (∀ i j, i < k → j < rows → ∃ p, wr.cell? ⟨gn i, j, none⟩ = some (.pointer p) ∧ FracPtr w (.pointer p) (M j i)) ∧ Hid (∀ i, i < k → rows ≤ cn i) ∧ wa.heap.size + 1 ≤ wr.heap.size ∧ Below w.heap.size w wr) (fun t _ => cols - (intOf t).toNat)
  case atStart => exact ⟨0, fun _ => 0, fun _ => 0, _, rfl, Nat.zero_le _, Lib.hid hrb, Lib.hid (OwnK.nil_ _ _ _ _ _), Lib.hid (fun i j hi => by omega), Lib.hid (fun i hi => by omega), by omega, hbb⟩
  case round =>
    clear hrb hszb hbb hab HWB
    obtain ⟨k, gn, cn, s, rfl, hk, hrow, hown, hcel, hcap, hszr, hbr⟩ := hrel
    obtain ⟨W, hW⟩ : ∃ X, X = wr := ⟨_, rfl⟩
    subst wr
    by_cases hkc : k < cols
    · have hkc' := Int.ofNat_lt.2 hkc
      obtain ⟨w1, hw1⟩ : ∃ X, X = W.alloc (.cells (Array.replicate rows (.pointer none)) 31) := ⟨_, rfl⟩
      have h01 : Below W.heap.size W w1 := by rw [hw1]; exact (Below.refl _ _).alloc (Nat.le_refl _) _
      have hr1 : Row w1 W.heap.size 31 (Array.replicate rows (.pointer none)) := by rw [hw1]; exact Row.new _ _ _
      have HW1 := Lib.hid hw1
      clear hw1
      go_upto_region 7 with fail
      rw [← HW1.out]
      go_wp2_with fail
      go_loopw [25] (fun t wi => ∃ (j : Nat) (cur : Array Value), t = .int .i64 j ∧ j ≤ rows ∧ Hid (Row wi W.heap.size 31 cur) ∧ cur.size = rows ∧ Hid (∀ i, i < j → ∃ p, cur[i]? = some (.pointer p) ∧ FracPtr w (.pointer p) (M i k)) ∧ Below W.heap.size W wi) (fun t _ => rows - (intOf t).toNat)
      case atStart => exact ⟨0, _, rfl, Nat.zero_le _, Lib.hid hr1, by simp, Lib.hid (fun i hi => by omega), h01⟩
      case round =>
        clear h01 hr1 HW1
        obtain ⟨j, cur, rfl, hj, hrowl, hcs, hval, hbi⟩ := hrel
        have hB := hbr.trans (hbi.mono hbr.size)
        by_cases hjr : j < rows
        · have hjr' := Int.ofNat_lt.2 hjr
          obtain ⟨sv, hsv, gr, og, cg, rfl, hcg, hfr⟩ := HG.out j hjr
          obtain ⟨p, hp, hfp⟩ := hfr k hkc
          have HF := Lib.hid hfp
          have hm0' := cell_keep hm0 hB
          have hsv' := cell_keep hsv hB
          have hp' := cell_keep hp hB
          have hc1 : ∃ u, wr.cell? ⟨W.heap.size, j, none⟩ = some u := by
            rw [hrowl.out.cell]
            exact ⟨_, Array.getElem?_eq_getElem (by omega)⟩
          obtain ⟨uc, hc1⟩ := hc1
          have hf1 := hrowl.out.free j
          clear hfr hfp hsv hp
          go_wp2_with fail
          go_roundw
          case rel =>
            refine ⟨j + 1, cur.setIfInBounds j (.pointer p), by go_num, by omega, Lib.hid (hrowl.out.set j _), by simp [hcs], Lib.hid (fun i hi => ?_), hbi.setCell (p := ⟨W.heap.size, j, none⟩) (Nat.le_refl _) _⟩
            by_cases e : i = j
            · subst e
              exact ⟨p, by simp [hcs, hjr], HF.out⟩
            · obtain ⟨p', h1, h2⟩ := hval.out i (by omega)
              exact ⟨p', by rw [Array.getElem?_setIfInBounds_ne (by omega)]; exact h1, h2⟩
          case measure => simp [intOf]; omega
        · obtain rfl : j = rows := by omega
          obtain ⟨cl, hcl⟩ : ∃ cl : World, cl = wr.alloc (.cells #[.slice (some ⟨W.heap.size, 0, none⟩) j j] 54) := ⟨_, rfl⟩
          have hal : Below wr.heap.size wr cl := by rw [hcl]; exact (Below.refl _ _).alloc (Nat.le_refl _) _
          have h04 : Below W.heap.size W cl := hbi.trans (hal.mono hbi.size)
          have hown4 := Lib.hid (hown.out.keep h04)
          have hnew4 : Hid (∀ (i : Nat) u, [Value.slice (some ⟨W.heap.size, 0, none⟩) j j][i]? = some u → cl.cell? ((⟨wr.heap.size, 0, none⟩ : Addr).add i) = some u) := Lib.hid fun i u hj => by
            rcases i with _ | i
            · cases hj
              rw [hcl]
              exact (Row.new _ _ _).cell 0
            · simp at hj
          have hk4 : wa.heap.size + 1 ≤ cl.heap.size := Nat.le_trans hszr h04.size
          have hrow4 := hrow.out.keep h04
          have hm4 : cl.cell? ⟨wa.heap.size, 0, none⟩ = some s := hrow4.cell 0
          have hm4' : wr.cell? ⟨wa.heap.size, 0, none⟩ = some s := (hrow.out.keep hbi).cell 0
          have hrl4 := hrowl.out.keep hal
          have hnewc : Hid (∀ i, i < j → ∃ p, cl.cell? ⟨W.heap.size, i, none⟩ = some (.pointer p) ∧ FracPtr w (.pointer p) (M i k)) := Lib.hid fun i hi => by
            obtain ⟨p, h1, h2⟩ := hval.out i hi
            exact ⟨p, by rw [hrl4.cell]; exact h1, h2⟩
          have HCL := Lib.hid hcl
          clear hcl hrow4 hrl4
          go_wp2_with (at_builtin; rw [← HCL.out]; refine wpList_append_ownK (Kd := sliceKind) rfl (.tmp 46) (.tmp 48) 120 rfl (wa.heap.size + 1) 54 i2 _ 1 Tryz.underlying120 hi2 hz2 hsz2 rfl (by omega) _ k _ rfl hown4.out ⟨wr.heap.size, 0, none⟩ 1 1 [Value.slice (some ⟨W.heap.size, 0, none⟩) j j] rfl (by simp) hnew4.out (by simp [Value.oneCell']) (by simp [sliceKind]) (by simp [sliceKind, Value.cells]) (by omega) (by unfold maxLen; omega) (by rw [hby2]; omega) hk4 ?_; intro v5 w5 hown5 hgr5 hloc5; refine Hid.out ?_)
          obtain ⟨g5, cap5, rfl⟩ := hown5.shape (by omega)
          obtain ⟨gn5, cn5, q1, q2, q3, q4, q5, q6⟩ := ptrs_round (Q := fun i j p => FracPtr w (.pointer p) (M j i)) hrow.out (by omega) hown.out hcel.out hcap.out h04 hnewc.out (Nat.le_refl _) hown5 hgr5 hbr hba.size
          have hm5 : w5.cell? ⟨wa.heap.size, 0, none⟩ = some s := q6.cell 0
          have hfr5 := q6.free 0
          have hsz5 : wa.heap.size + 1 ≤ (w5.setCell ⟨wa.heap.size, 0, none⟩ (.slice (some ⟨g5, 0, none⟩) (k + 1) cap5)).heap.size := q1.lt
          have Q1 := Lib.hid q1; have Q2 := Lib.hid q2; have Q3 := Lib.hid q3; have Q4 := Lib.hid q4; have Q5 := Lib.hid q5
          clear hown5 q1 q2 q3 q4 q5 q6
          refine Lib.hid ?_
          go_wp2_with fail
          go_roundw
          case rel => exact ⟨k + 1, gn5, cn5, _, by go_num, by omega, Q1, Q2, Q3, Q4, hsz5, Q5.out⟩
          case measure => simp [intOf]; omega
    · obtain rfl : k = cols := by omega
      go_wp2_with fail
      go_ret
      obtain ⟨G', c', rfl, hc', hg'⟩ := rows_read (M := turnM M) hown.out hc0 (fun i j hi hj => by
        obtain ⟨p, h1, h2⟩ := hcel.out i j hi hj
        exact ⟨p, h1, h2.keep hbr⟩) hcap.out
      exact ⟨_, rfl, ⟨_, G', 0, c', rfl, hrow.out.cell 0, hc', hrow.out.cell 1, hg'⟩, hbr⟩
end Go.Proofs.YthephiihcgibjaaGreatDoor
