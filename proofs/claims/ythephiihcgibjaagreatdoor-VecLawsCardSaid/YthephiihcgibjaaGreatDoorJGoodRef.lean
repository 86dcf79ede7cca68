/- Plain law: which texts are fractions, as the document reads them. -/
import Derived.Test.YthephiihcgibjaaGreatDoorJWalkD
set_option linter.unusedVariables false
set_option linter.unusedSimpArgs false
namespace Vic
open Go
def sgnT (neg : Bool) (body : List UInt8) : List UInt8 := (if neg then [45] else []) ++ body
theorem sgnT_parts (neg : Bool) (body : List UInt8) (h : neg = false → body.head? ≠ some 45) : fracNeg (sgnT neg body) = neg ∧ Lib.trimPrefix (sgnT neg body) [45] = body := by
  cases neg
  · have h1 := h rfl
    show Lib.hasPrefix body [45] = false ∧ Lib.trimPrefix body [45] = body
    match body, h1 with
    | [], _ => exact ⟨rfl, rfl⟩
    | c :: r, h1 =>
      have hc : c ≠ 45 := fun e => h1 (by simp [e])
      obtain ⟨t1, t2⟩ := trim_pos r hc
      exact ⟨t2, t1⟩
  · obtain ⟨t1, t2⟩ := trim_neg body
    exact ⟨t2, t1⟩
theorem cut_inj {a b c d : List UInt8} {x : UInt8} (ha : x ∉ a) (hc : x ∉ c) (h : a ++ x :: b = c ++ x :: d) : a = c ∧ b = d := by
  have h1 := cut_app (c := x) b ha
  rw [h, cut_app d hc] at h1
  injection h1 with h1 h2
  injection h2 with h2 h3
  exact ⟨h1.symm, h2.symm⟩
theorem sgn_neg {neg : Bool} {n : Nat} (h : sgn neg n < 0) : neg = true := by
  cases neg
  · simp [sgn] at h; omega
  · rfl
theorem dec_head45 (n : Nat) (r : List UInt8) : (Lib.decDigits n ++ r).head? ≠ some 45 := by
  rcases hx : Lib.decDigits n with _ | ⟨c, s⟩
  · exact absurd hx (dec_ne _)
  · have hc : c ≠ 45 := dig_ne (dec_isDig n c (by rw [hx]; simp)) (by decide)
    simp [hc]
theorem fracText_sgnT (q : Rat) : fracText q = sgnT (decide (q.num < 0)) (Lib.decDigits q.num.natAbs ++ (if q.den = 1 then [] else 47 :: Lib.decDigits q.den)) := by
  unfold fracText sgnT
  by_cases h : q.num < 0
  · rw [if_pos h, decide_eq_true h]; simp
  · rw [if_neg h, decide_eq_false h]; simp
theorem sgnT_inj {p q : Bool} {a b : List UInt8} (ha : a.head? ≠ some 45) (hb : q = false → b.head? ≠ some 45) (h : sgnT p a = sgnT q b) : p = q ∧ a = b := by
  obtain ⟨h1, h2⟩ := sgnT_parts p a (fun _ => ha)
  obtain ⟨h3, h4⟩ := sgnT_parts q b hb
  rw [h] at h1 h2
  exact ⟨h1.symm.trans h3, h2.symm.trans h4⟩
/-- a text with a stroke -/
theorem good_found {neg : Bool} {a b : List UInt8} (ha : (47 : UInt8) ∉ a) (hh : neg = false → (a ++ 47 :: b).head? ≠ some 45) :
    (FracGood (sgnT neg (a ++ 47 :: b)) ↔ GoodNat a ∧ GoodNat b ∧ numOf 0 b ≠ 0 ∧ numOf 0 b ≠ 1 ∧ (neg = true → numOf 0 a ≠ 0) ∧ Nat.gcd (numOf 0 a) (numOf 0 b) = 1) ∧
    fracOf (sgnT neg (a ++ 47 :: b)) = quo neg (numOf 0 a) (numOf 0 b) := by
  obtain ⟨k1, k2⟩ := sgnT_parts neg (a ++ 47 :: b) hh
  have k3 : fracTop (sgnT neg (a ++ 47 :: b)) = a := by unfold fracTop; rw [k2, cut_app b ha]
  have k4 : fracBelow (sgnT neg (a ++ 47 :: b)) = b := by unfold fracBelow; rw [k2, cut_app b ha]; rfl
  have hof : fracOf (sgnT neg (a ++ 47 :: b)) = quo neg (numOf 0 a) (numOf 0 b) := by unfold fracOf; rw [k1, k3, k4]
  refine ⟨⟨fun h => ?_, fun h => ?_⟩, hof⟩
  · obtain ⟨g1, g2, g3, g4⟩ := h
    rw [k3] at g1
    rw [k4] at g2 g3
    rw [hof] at g4
    have hnum := quo_num (neg := neg) (n := numOf 0 a) g3
    have hden := quo_den (neg := neg) (n := numOf 0 a) g3
    have habs := quo_natAbs (neg := neg) (n := numOf 0 a) g3
    rw [fracText_sgnT] at g4
    obtain ⟨e1, e2⟩ := sgnT_inj (dec_head45 _ _) hh g4
    by_cases hd1 : (quo neg (numOf 0 a) (numOf 0 b)).den = 1
    · exfalso
      rw [if_pos hd1, List.append_nil] at e2
      have : (47 : UInt8) ∈ Lib.decDigits (quo neg (numOf 0 a) (numOf 0 b)).num.natAbs := by rw [e2]; simp
      exact dec_no _ (by decide) this
    · rw [if_neg hd1] at e2
      obtain ⟨e3, e4⟩ := cut_inj (dec_no _ (by decide)) ha e2
      have e5 := congrArg (numOf 0) e3
      have e6 := congrArg (numOf 0) e4
      rw [numOf_dec] at e5 e6
      have hg0 : 0 < Nat.gcd (numOf 0 a) (numOf 0 b) := Nat.gcd_pos_of_pos_right _ (by omega)
      have hg1 : Nat.gcd (numOf 0 a) (numOf 0 b) = 1 := by
        rw [hden] at e6
        have h7 := Nat.div_mul_cancel (Nat.gcd_dvd_right (numOf 0 a) (numOf 0 b))
        rw [e6] at h7
        have h8 : numOf 0 b * Nat.gcd (numOf 0 a) (numOf 0 b) = numOf 0 b * 1 := by rw [h7, Nat.mul_one]
        exact Nat.eq_of_mul_eq_mul_left (by omega) h8
      refine ⟨g1, g2, g3, fun h1 => hd1 (by rw [hden, hg1, h1]), fun hn h0 => ?_, hg1⟩
      rw [hn] at e1
      have h9 := of_decide_eq_true e1
      have h10 := quo_num (neg := true) (n := numOf 0 a) g3
      rw [h10, h0] at h9
      simp [sgn] at h9
  · obtain ⟨g1, g2, g3, g4, g5, g6⟩ := h
    refine ⟨by rw [k3]; exact g1, by rw [k4]; exact g2, by rw [k4]; exact g3, ?_⟩
    rw [hof, fracText_eq neg (numOf 0 a) (numOf 0 b) (by rw [quo_num g3, g6, Nat.div_one]) g5 (by rw [quo_den g3, g6, Nat.div_one]), dec_numOf g1.1, dec_numOf g2.1, if_neg g4]
    unfold sgnT; simp
/-- a text without one -/
theorem good_whole {neg : Bool} {a : List UInt8} (ha : (47 : UInt8) ∉ a) (hh : neg = false → a.head? ≠ some 45) :
    (FracGood (sgnT neg a) ↔ GoodNat a ∧ (neg = true → numOf 0 a ≠ 0)) ∧ fracOf (sgnT neg a) = quo neg (numOf 0 a) 1 := by
  obtain ⟨k1, k2⟩ := sgnT_parts neg a hh
  have k3 : fracTop (sgnT neg a) = a := by unfold fracTop; rw [k2, cut_none ha]
  have k4 : fracBelow (sgnT neg a) = [49] := by unfold fracBelow; rw [k2, cut_none ha]; rfl
  have h49 : numOf 0 [49] = 1 := by rw [← dec_one, numOf_dec]
  have hof : fracOf (sgnT neg a) = quo neg (numOf 0 a) 1 := by unfold fracOf; rw [k1, k3, k4, h49]
  have hden : (quo neg (numOf 0 a) 1).den = 1 := by rw [quo_den (by omega), Nat.gcd_one_right]
  have hnum : (quo neg (numOf 0 a) 1).num = sgn neg (numOf 0 a) := by rw [quo_num (by omega), Nat.gcd_one_right, Nat.div_one]
  refine ⟨⟨fun h => ?_, fun h => ?_⟩, hof⟩
  · obtain ⟨g1, g2, g3, g4⟩ := h
    rw [k3] at g1
    refine ⟨g1, fun hn h0 => ?_⟩
    rw [hof, fracText_sgnT] at g4
    obtain ⟨e1, e2⟩ := sgnT_inj (dec_head45 _ _) hh g4
    rw [hn] at e1
    have h9 := of_decide_eq_true e1
    rw [hn] at hnum
    rw [hnum, h0] at h9
    simp [sgn] at h9
  · obtain ⟨g1, g5⟩ := h
    refine ⟨by rw [k3]; exact g1, by rw [k4]; exact ⟨by rw [← dec_one]; exact dec_canon _, by decide⟩, by rw [k4, h49]; decide, ?_⟩
    rw [hof, fracText_eq neg (numOf 0 a) 1 hnum g5 hden, dec_numOf g1.1, if_pos rfl, List.append_nil]
    rfl
end Vic
