/- Plain law: one number in many forms, as it is read digit by digit. -/
import Derived.Test.YthephiihcgibjaaGreatDoorJGoodRef
import Derived.Test.YthephiihcgibjaaGreatDoorJWalkD
set_option linter.unusedVariables false
set_option linter.unusedSimpArgs false
namespace Vic
open Go
/-- number, digits, points, digits behind the point -/
abbrev LitS := Nat × Nat × Nat × Nat
def litStep (s : LitS) (c : UInt8) : LitS := if c = 46 then (s.1, s.2.1, s.2.2.1 + 1, s.2.2.2) else (s.1 * 10 + (c.toNat - 48), s.2.1 + 1, s.2.2.1, s.2.2.2 + s.2.2.1)
def litSt (l : List UInt8) : LitS := l.foldl litStep (0, 0, 0, 0)
theorem litSt_nil : litSt [] = (0, 0, 0, 0) := rfl
theorem litSt_snoc (l : List UInt8) (c : UInt8) : litSt (l ++ [c]) = litStep (litSt l) c := by unfold litSt; rw [List.foldl_append]; rfl
theorem litSt_digs (l : List UInt8) (h : ∀ c ∈ l, isDig c = true) : ∀ (n d p b : Nat), l.foldl litStep (n, d, p, b) = (numOf n l, d + l.length, p, b + p * l.length) := by
  induction l with
  | nil => intro n d p b; simp [numOf_nil]
  | cons c r ih =>
    intro n d p b
    have hc : c ≠ 46 := fun e => by have := h c List.mem_cons_self; rw [e] at this; revert this; decide
    rw [List.foldl_cons, litStep, if_neg hc, ih (fun x hx => h x (List.mem_cons_of_mem _ hx)), numOf_cons]
    simp only [List.length_cons, Nat.mul_add, Nat.mul_one]
    congr 2
    · omega
    · congr 1; omega
theorem litSt_form (a b : List UInt8) (dot : Bool) (hdot : dot = false → b = []) (ha : ∀ c ∈ a, isDig c = true) (hb : ∀ c ∈ b, isDig c = true) :
    litSt (a ++ (if dot then 46 :: b else [])) = (numOf 0 (a ++ b), (a ++ b).length, (if dot then 1 else 0), b.length) := by
  unfold litSt
  rw [List.foldl_append, litSt_digs a ha]
  cases dot
  · rw [hdot rfl]; simp
  · show (46 :: b).foldl litStep (numOf 0 a, 0 + a.length, 0, 0 + 0 * a.length) = _
    rw [List.foldl_cons, litStep, if_pos rfl, litSt_digs b hb, numOf_append]
    simp
theorem litSt_bound (l : List UInt8) (h : ∀ c ∈ l, isDig c = true ∨ c = 46) : ∀ k, k ≤ l.length → (litSt (l.take k)).1 < 10 ^ k ∧ (litSt (l.take k)).2.1 ≤ k ∧ (litSt (l.take k)).2.2.1 ≤ k ∧ (litSt (l.take k)).2.2.2 ≤ k * l.length := by
  intro k
  induction k with
  | zero => intro _; simp [litSt_nil]
  | succ k ih =>
    intro hk
    obtain ⟨i1, i2, i3, i4⟩ := ih (by omega)
    have hkl : k < l.length := by omega
    rw [List.take_succ_eq_append_getElem hkl, litSt_snoc]
    have hc := h l[k] (List.getElem_mem hkl)
    generalize l[k] = c at *
    generalize litSt (l.take k) = s at *
    unfold litStep
    by_cases e : c = 46
    · rw [if_pos e]
      refine ⟨?_, by dsimp only; omega, by dsimp only; omega, ?_⟩
      · dsimp only; rw [Nat.pow_succ]; omega
      · dsimp only; rw [Nat.add_mul]; omega
    · rw [if_neg e]
      have hd := isDig_iff.1 (hc.resolve_right e)
      refine ⟨?_, by dsimp only; omega, by dsimp only; omega, ?_⟩
      · dsimp only; rw [Nat.pow_succ]; omega
      · dsimp only; rw [Nat.add_mul]; omega
theorem litSt_step {l : List UInt8} {k : Nat} {c : UInt8} (h : l[k]? = some c) : litSt (l.take (k + 1)) = litStep (litSt (l.take k)) c := by
  have hk : k < l.length := by
    rcases Nat.lt_or_ge k l.length with h1 | h1
    · exact h1
    · rw [List.getElem?_eq_none h1] at h; cases h
  rw [List.take_succ_eq_append_getElem hk, litSt_snoc]
  rw [List.getElem?_eq_getElem hk] at h
  rw [Option.some.inj h]
theorem fracText_int (x : Int) : fracText (x : Rat) = sgnT (decide (x < 0)) (Lib.decDigits x.natAbs) := by
  rw [fracText_sgnT]
  simp
  rfl
theorem quo_zero_sgn (ng : Bool) (n d : Nat) : quo (ng && decide (n ≠ 0)) n d = quo ng n d := by
  by_cases h : n = 0
  · subst h; cases ng <;> rfl
  · rw [decide_eq_true h, Bool.and_true]
/-- the number of digits, moved by places of ten -/
def qv (neg : Bool) (n : Nat) (p : Int) : Rat := if 0 ≤ p then quo neg (n * 10 ^ p.toNat) 1 else quo neg n (10 ^ (-p).toNat)
theorem qv_quo (neg : Bool) (n : Nat) (p : Int) : qv neg n p = quo neg (n * 10 ^ p.toNat) (10 ^ (-p).toNat) := by
  unfold qv
  split
  · rw [show (-p).toNat = 0 by omega, Nat.pow_zero]
  · rw [show p.toNat = 0 by omega, Nat.pow_zero, Nat.mul_one]
theorem pow10_len {p : Nat} (h : p ≤ 200) : sz (10 ^ p) ≤ 21 := digs_length_le (B := 4294967296) (by omega) (Nat.lt_of_le_of_lt (Nat.pow_le_pow_right (by omega) h) (by decide +kernel))
theorem num12_len {n : Nat} (h : n < 10 ^ 12) : sz n ≤ 2 := digs_length_le (B := 4294967296) (by omega) (Nat.lt_trans h (by decide +kernel))
theorem qv_fits {neg : Bool} {n : Nat} {p : Int} (hn : n < 10 ^ 12) (h1 : -200 ≤ p) (h2 : p ≤ 200) : Fits 23 (qv neg n p) := by
  rw [qv_quo]
  refine fits_quo (Nat.ne_of_gt (Nat.pow_pos (by omega))) (Nat.le_trans (sz_mul _ _) ?_) (Nat.le_trans (pow10_len (by omega)) (by omega))
  have e1 := num12_len hn
  have e2 := pow10_len (p := p.toNat) (by omega)
  omega
end Vic
