/- Plain: words again: a quotient by its divisor, sums with a carry, numbers of so many bits. And: Plain: words bit by bit. Package victuallerref1: words bit by bit. -/
import Derived.Test.YtohjljbhfopffaaGreatDoorJPlainA
import Derived.Test.YtohjljbhfopffaaGreatDoorJMemA
import Derived.Test.YtohjljbhfopffaaGreatDoorProg
import Derived.WalkSpells
import Derived.WalkLawsBesides
import Derived.Laws.Rows
import Derived.Laws.Tables
import Derived.Test.YtohjljbhfopffaaGreatDoorJRoom
set_option linter.unusedVariables false
set_option linter.unusedSimpArgs false
namespace Vic
open Go Go.RowKit
theorem div_small {h l y : Nat} (hh : h < y) (hl : l < 18446744073709551616) (hy : y < 18446744073709551616) : (h * 18446744073709551616 + l) / y < 18446744073709551616 := by
  rw [Nat.div_lt_iff_lt_mul (by omega)]
  have : (h + 1) * 18446744073709551616 ≤ y * 18446744073709551616 := Nat.mul_le_mul_right _ hh
  rw [Nat.mul_comm 18446744073709551616 y]
  omega
theorem div_again {h l y q r : Nat} (hh : h < y) (hl : l < 18446744073709551616) (hy : y < 18446744073709551616) (hq : q = (h * 18446744073709551616 + l) / y) (hr : r = (h * 18446744073709551616 + l) % y) :
    r < y ∧ (q * y % 18446744073709551616 + r + false.toNat) % 18446744073709551616 = l ∧
    (q * y / 18446744073709551616 + 0 + (decide (18446744073709551616 ≤ q * y % 18446744073709551616 + r + false.toNat)).toNat) % 18446744073709551616 = h := by
  have h1 := Nat.div_add_mod (h * 18446744073709551616 + l) y
  rw [← hq, ← hr, Nat.mul_comm] at h1
  have h2 : r < y := by rw [hr]; exact Nat.mod_lt _ (by omega)
  clear hq hr
  have h3 : false.toNat = 0 := rfl
  rw [h3]
  generalize q * y = P at *
  refine ⟨h2, by omega, ?_⟩
  by_cases hc : 18446744073709551616 ≤ P % 18446744073709551616 + r + 0
  · rw [decide_eq_true hc, show true.toNat = 1 from rfl]; omega
  · rw [decide_eq_false hc, show false.toNat = 0 from rfl]; omega
theorem wrap64_add (n t : Int) : wrap64 (n + 18446744073709551616 * t) = wrap64 n := by
  unfold wrap64
  rw [show n + 18446744073709551616 * t + 9223372036854775808 = n + 9223372036854775808 + 18446744073709551616 * t by omega, Int.add_mul_emod_self_left]
theorem wrap64_in {n : Int} (h1 : -9223372036854775808 ≤ n) (h2 : n ≤ 9223372036854775807) : wrap64 n = n := by unfold wrap64; omega
theorem pow_split {k s : Nat} (h : k + s = 64) : ((2 ^ k : Nat) : Int) * ((2 ^ s : Nat) : Int) = 18446744073709551616 := by
  have : 2 ^ k * 2 ^ s = 18446744073709551616 := by rw [← Nat.pow_add, h]
  rw [← Int.natCast_mul, this]; rfl
/-- the k lowest bits as a number with a sign: the rest by 2^k that lies about 0 -/
theorem narrow_bmod (x : Int) (k : Nat) (h1 : 1 ≤ k) (h2 : k ≤ 64) : wrap64 (x * 2 ^ (64 - k)) / 2 ^ (64 - k) = x.bmod (2 ^ k) := by
  obtain ⟨s, hs⟩ : ∃ s, s = 64 - k := ⟨_, rfl⟩
  rw [← hs]
  have hp0 := pow_split (k := k) (s := s) (by omega)
  obtain ⟨j, rfl⟩ : ∃ j, k = j + 1 := ⟨k - 1, by omega⟩
  have hm0 : 0 < 2 ^ j := Nat.pow_pos (by omega)
  have hs0 : 0 < 2 ^ s := Nat.pow_pos (by omega)
  have hm : 2 ^ (j + 1) = 2 * 2 ^ j := by rw [Nat.pow_succ, Nat.mul_comm]
  have e2 : ((2 : Int) ^ s) = ((2 ^ s : Nat) : Int) := by simp
  rw [hm] at hp0 ⊢
  rw [e2]
  clear hm e2
  generalize 2 ^ s = p at *
  generalize 2 ^ j = m at *
  obtain ⟨n, hn⟩ : ∃ n, n = x.bmod (2 * m) := ⟨_, rfl⟩
  have hb1 : -(m : Int) ≤ n := by
    have := Int.le_bmod (x := x) (m := 2 * m) (by omega)
    rw [← hn] at this; omega
  have hb2 : n < m := by
    have := Int.bmod_lt (x := x) (m := 2 * m) (by omega)
    rw [← hn] at this; omega
  obtain ⟨t, ht⟩ : ∃ t, x = n + ((2 * m : Nat) : Int) * t := by
    have h7 := Int.emod_add_mul_ediv x ((2 * m : Nat) : Int)
    have h8 : n = x % ((2 * m : Nat) : Int) ∨ n = x % ((2 * m : Nat) : Int) - ((2 * m : Nat) : Int) := by
      rw [hn, Int.bmod_def]; split
      · exact .inl rfl
      · exact .inr rfl
    rcases h8 with h8 | h8
    · exact ⟨x / ((2 * m : Nat) : Int), by rw [h8]; exact h7.symm⟩
    · refine ⟨x / ((2 * m : Nat) : Int) + 1, ?_⟩
      rw [Int.mul_add, Int.mul_one, h8]; omega
  rw [← hn]
  have hp : ((2 * m : Nat) : Int) * (p : Int) = 18446744073709551616 := hp0
  have e3 : x * (p : Int) = n * p + 18446744073709551616 * t := by
    rw [ht, Int.add_mul, ← hp, Int.mul_assoc, Int.mul_assoc, Int.mul_comm t]
  have hpm : (2 * (m : Int)) * p = 18446744073709551616 := by simpa using hp
  have hlo : -9223372036854775808 ≤ n * p := by
    have := Int.mul_le_mul_of_nonneg_right hb1 (show (0 : Int) ≤ (p : Int) by omega)
    have h5 : -(m : Int) * p = -(m * p) := Int.neg_mul _ _
    have h6 : 2 * (m : Int) * p = 2 * (m * p) := Int.mul_assoc _ _ _
    omega
  have hhi : n * p ≤ 9223372036854775807 := by
    have := Int.mul_le_mul_of_nonneg_right (show n ≤ (m : Int) - 1 by omega) (show (0 : Int) ≤ (p : Int) by omega)
    have h5 : ((m : Int) - 1) * p = m * p - p := by rw [Int.sub_mul, Int.one_mul]
    have h6 : 2 * (m : Int) * p = 2 * (m * p) := Int.mul_assoc _ _ _
    omega
  rw [e3, wrap64_add, wrap64_in hlo hhi, Int.mul_ediv_cancel _ (by omega)]
theorem bmod_in {x : Int} {k : Nat} (h1 : 1 ≤ k) (h2 : k ≤ 64) : -9223372036854775808 ≤ x.bmod (2 ^ k) ∧ x.bmod (2 ^ k) ≤ 9223372036854775807 := by
  have hp : 0 < 2 ^ k := Nat.pow_pos (by omega)
  have h3 : 2 ^ k ≤ 18446744073709551616 := (show 2 ^ k ≤ 2 ^ 64 from Nat.pow_le_pow_right (by omega) h2)
  have h4 := Int.le_bmod (x := x) (m := 2 ^ k) hp
  have h5 := Int.bmod_lt (x := x) (m := 2 ^ k) hp
  generalize 2 ^ k = m at *
  omega
theorem bmod_64 {x : Int} (h1 : -9223372036854775808 ≤ x) (h2 : x ≤ 9223372036854775807) : x.bmod (2 ^ 64) = x := by
  rw [show (2 : Nat) ^ 64 = 18446744073709551616 from rfl]
  rw [Int.bmod_def]
  split <;> omega
theorem bmod_twice (x : Int) (k : Nat) : (x.bmod (2 ^ k)).bmod (2 ^ k) = x.bmod (2 ^ k) := Int.bmod_bmod
/-- a number as a word, shifted up, as a number with a sign -/
theorem up_signed (x : Int) (s : Nat) : wrap64 (((x % 18446744073709551616).toNat * 2 ^ s % 18446744073709551616 : Nat) : Int) = wrap64 (x * 2 ^ s) := by
  have h0 : (((x % 18446744073709551616).toNat : Nat) : Int) = x % 18446744073709551616 := by omega
  have e : (((x % 18446744073709551616).toNat * 2 ^ s : Nat) : Int) = (x % 18446744073709551616) * 2 ^ s := by
    rw [Int.natCast_mul, h0]; simp
  rw [Int.natCast_emod, e]
  obtain ⟨t, ht⟩ : ∃ t, x = x % 18446744073709551616 + 18446744073709551616 * t := ⟨x / 18446744073709551616, by omega⟩
  generalize x % 18446744073709551616 = y at *
  rw [ht]
  have e2 : (y + 18446744073709551616 * t) * 2 ^ s = y * 2 ^ s + 18446744073709551616 * (t * 2 ^ s) := by rw [Int.add_mul, Int.mul_assoc]
  rw [e2, wrap64_add]
  generalize y * 2 ^ s = z
  show wrap64 (z % 18446744073709551616) = wrap64 z
  unfold wrap64; omega
end Vic
set_option linter.unusedVariables false
set_option linter.unusedSimpArgs false
namespace Vic
open Go Go.RowKit
/-- the number of a list of bits, the lowest first -/
def bv : List Bool → Nat
  | [] => 0
  | b :: l => b.toNat + 2 * bv l
theorem bool_le (b : Bool) : b.toNat ≤ 1 := by cases b <;> decide
theorem bv_lt : ∀ L : List Bool, bv L < 2 ^ L.length
  | [] => by simp [bv]
  | b :: l => by
    have := bv_lt l
    have := bool_le b
    simp only [bv, List.length_cons, Nat.pow_succ]
    omega
theorem bv_test : ∀ (L : List Bool) (i : Nat), (bv L).testBit i = L.getD i false
  | [], i => by simp [bv]
  | b :: l, 0 => by
    have := bool_le b
    rw [Nat.testBit_zero, List.getD_cons_zero]
    cases b <;> simp [bv]
  | b :: l, i + 1 => by
    have := bool_le b
    rw [Nat.testBit_succ, List.getD_cons_succ, ← bv_test l i]
    congr 1
    simp only [bv]; omega
theorem bv_drop (L : List Bool) (i : Nat) (h : i < L.length) : bv (L.drop i) = (L.getD i false).toNat + 2 * bv (L.drop (i + 1)) := by
  rw [List.drop_eq_getElem_cons h, bv]
  simp [List.getD_eq_getElem?_getD, h]
theorem bv_eq {L : List Bool} {n : Nat} (h : ∀ i, L.getD i false = n.testBit i) : bv L = n := Nat.eq_of_testBit_eq fun i => by rw [bv_test, h]
theorem bv_append : ∀ (a b : List Bool), bv (a ++ b) = bv a + 2 ^ a.length * bv b
  | [], b => by simp [bv]
  | x :: a, b => by
    simp only [List.cons_append, bv, bv_append a b, List.length_cons, Nat.pow_succ]
    rw [Nat.mul_add, ← Nat.mul_assoc, Nat.mul_comm 2 (2 ^ a.length)]
    omega
theorem bv_rep (f : Bool) : ∀ n : Nat, bv (List.replicate n f) = f.toNat * (2 ^ n - 1)
  | 0 => by simp [bv]
  | n + 1 => by
    have h := Nat.pow_pos (n := n) (show 0 < 2 by omega)
    rw [List.replicate_succ, bv, bv_rep f n, Nat.pow_succ]
    cases f
    · simp
    · simp; omega
/-- the bits of a word -/
def bitsOf (x : Nat) : List Bool := (List.range 64).map x.testBit
theorem map_range_getD (f : Nat → Bool) (n i : Nat) : ((List.range n).map f).getD i false = if i < n then f i else false := by
  by_cases h : i < n
  · rw [if_pos h]; simp [List.getD_eq_getElem?_getD, h]
  · rw [if_neg h, List.getD_eq_getElem?_getD, List.getElem?_eq_none (by simp; omega)]; rfl
theorem test_above {x i : Nat} (hx : x < 18446744073709551616) (h : 64 ≤ i) : x.testBit i = false := by
  apply Nat.testBit_lt_two_pow
  exact Nat.lt_of_lt_of_le (show x < 2 ^ 64 from hx) (Nat.pow_le_pow_right (by omega) h)
theorem bv_bits {x : Nat} (hx : x < 18446744073709551616) : bv (bitsOf x) = x := bv_eq fun i => by
  unfold bitsOf
  rw [map_range_getD]
  split
  · rfl
  · exact (test_above hx (by omega)).symm
/-- a bit of a word that was moved c places up -/
def moveBit (x : Nat) (c : Int) (fill : Bool) (i : Nat) : Bool :=
  if 0 ≤ (i : Int) - c ∧ (i : Int) - c < 64 then x.testBit ((i : Int) - c).toNat else if 64 ≤ (i : Int) - c then fill else false
def moved (x : Nat) (c : Int) (fill : Bool) : List Bool := (List.range 64).map (moveBit x c fill)
def clampI (n : Int) : Int := max (-100) (min n 100)
theorem moved_far {x : Nat} {c : Int} (h : 64 ≤ c ∨ c ≤ -64) : bv (moved x c false) = 0 := bv_eq fun i => by
  unfold moved
  rw [map_range_getD, Nat.zero_testBit]
  split
  · unfold moveBit
    rw [if_neg (by omega)]
    split <;> rfl
  · rfl
theorem moved_up {x n : Nat} (hx : x < 18446744073709551616) (h : n < 64) : bv (moved x (n : Int) false) = x * 2 ^ n % 18446744073709551616 := bv_eq fun i => by
  unfold moved
  rw [map_range_getD, show (18446744073709551616 : Nat) = 2 ^ 64 from rfl, Nat.testBit_mod_two_pow, Nat.testBit_mul_two_pow]
  by_cases hi : i < 64
  · rw [if_pos hi, decide_eq_true hi, Bool.true_and]
    unfold moveBit
    by_cases h1 : n ≤ i
    · rw [if_pos (by omega), decide_eq_true h1, Bool.true_and]; congr 1; omega
    · rw [if_neg (by omega), if_neg (by omega), decide_eq_false h1, Bool.false_and]
  · rw [if_neg hi, decide_eq_false hi, Bool.false_and]
theorem moved_down {x n : Nat} (hx : x < 18446744073709551616) : bv (moved x (-(n : Int)) false) = x / 2 ^ n := bv_eq fun i => by
  unfold moved
  rw [map_range_getD, Nat.testBit_div_two_pow]
  by_cases hi : i < 64
  · rw [if_pos hi]
    unfold moveBit
    by_cases h1 : i + n < 64
    · rw [if_pos (by omega)]; congr 1; omega
    · rw [if_neg (by omega), if_pos (by omega), test_above hx (by omega)]
  · rw [if_neg hi, test_above hx (by omega)]
theorem moved_shl {x : Nat} {c n : Int} (hx : x < 18446744073709551616) (h : c = n ∨ 64 ≤ c ∧ 64 ≤ n ∨ c ≤ -64 ∧ n ≤ -64) : bv (moved x c false) = shlN x n := by
  unfold shlN
  by_cases hf : 64 ≤ n ∨ n ≤ -64
  · rw [if_pos hf]; exact moved_far (by omega)
  · rw [if_neg hf]
    obtain rfl : c = n := by omega
    by_cases h0 : c < 0
    · rw [if_pos h0]
      obtain ⟨k, rfl⟩ : ∃ k : Nat, c = -(k : Int) := ⟨(-c).toNat, by omega⟩
      rw [show (- -(k : Int)).toNat = k by omega]
      exact moved_down hx
    · rw [if_neg h0]
      obtain ⟨k, rfl⟩ : ∃ k : Nat, c = (k : Int) := ⟨c.toNat, by omega⟩
      rw [Int.toNat_natCast]
      exact moved_up hx (by omega)
theorem shl_neg {x : Nat} {n : Int} (hx : x < 18446744073709551616) : shlN x (-n) = shrN x n := by
  unfold shlN shrN
  by_cases hf : 64 ≤ n ∨ n ≤ -64
  · rw [if_pos (by omega), if_pos hf]
  · rw [if_neg (by omega), if_neg hf]
    by_cases h0 : n < 0
    · rw [if_neg (by omega), if_pos h0]
    · rw [if_neg h0]
      by_cases h1 : n = 0
      · subst h1
        rw [if_neg (by omega)]
        show x * 2 ^ 0 % _ = x / 2 ^ 0
        rw [Nat.pow_zero, Nat.mul_one, Nat.div_one, Nat.mod_eq_of_lt hx]
      · rw [if_pos (by omega)]; congr 2; omega
theorem moved_fill {x n : Nat} {f : Bool} (hx : x < 18446744073709551616) (h : n ≤ 64) : bv (moved x (-(n : Int)) f) = x / 2 ^ n + f.toNat * (18446744073709551616 - 2 ^ (64 - n)) := by
  have e : moved x (-(n : Int)) f = (List.range (64 - n)).map (x / 2 ^ n).testBit ++ List.replicate n f := by
    apply List.ext_getElem
    · simp [moved]; omega
    · intro i h1 h2
      have hi : i < 64 := by simpa [moved] using h1
      simp only [moved, List.getElem_map, List.getElem_range]
      unfold moveBit
      by_cases h3 : i < 64 - n
      · rw [List.getElem_append_left (by simpa using h3), if_pos (by omega)]
        simp only [List.getElem_map, List.getElem_range, Nat.testBit_div_two_pow]
        congr 1; omega
      · rw [List.getElem_append_right (by simpa using h3), if_neg (by omega), if_pos (by omega)]
        simp
  have hA : bv ((List.range (64 - n)).map (x / 2 ^ n).testBit) = x / 2 ^ n := bv_eq fun i => by
    rw [map_range_getD]
    split
    · rfl
    · rw [Nat.testBit_div_two_pow, test_above hx (by omega)]
  rw [e, bv_append, hA, bv_rep, List.length_map, List.length_range]
  congr 1
  have h2 : 2 ^ (64 - n) * 2 ^ n = 18446744073709551616 := by rw [← Nat.pow_add, show 64 - n + n = 64 by omega]
  cases f
  · simp
  · simp only [Bool.toNat_true, Nat.one_mul]
    rw [Nat.mul_sub, h2, Nat.mul_one]
/-- a shift to the right with the sign, by no less than 0 -/
def sarJ (x n : Int) : Int := if n ≤ 63 then x / 2 ^ n.toNat else x / 2 ^ 63
/-- a word as a number with a sign, shifted down with the sign, as a word -/
theorem sar_down {x n : Nat} (hx : x < 18446744073709551616) (h : n < 64) : (wrap64 (x : Int) / 2 ^ n) % 18446744073709551616 = ((x / 2 ^ n + (decide (wrap64 (x : Int) < 0)).toNat * (18446744073709551616 - 2 ^ (64 - n)) : Nat) : Int) := by
  have h2 : 2 ^ (64 - n) * 2 ^ n = 18446744073709551616 := by rw [← Nat.pow_add, show 64 - n + n = 64 by omega]
  have hp : 0 < 2 ^ n := Nat.pow_pos (by omega)
  have e2 : ((2 : Int) ^ n) = ((2 ^ n : Nat) : Int) := by simp
  have hq0 : 0 < 2 ^ (64 - n) := Nat.pow_pos (by omega)
  have hd : x / 2 ^ n < 2 ^ (64 - n) := by rw [Nat.div_lt_iff_lt_mul hp, h2]; exact hx
  have hq : 2 ^ (64 - n) ≤ 18446744073709551616 := by rw [← h2]; exact Nat.le_mul_of_pos_right _ hp
  rw [e2]
  have h2' : ((2 ^ (64 - n) : Nat) : Int) * ((2 ^ n : Nat) : Int) = 18446744073709551616 := by rw [← Int.natCast_mul, h2]; rfl
  have e3 : ((x : Int) - 18446744073709551616) / ((2 ^ n : Nat) : Int) = ((x / 2 ^ n : Nat) : Int) - ((2 ^ (64 - n) : Nat) : Int) := by
    rw [← h2', Int.natCast_ediv]
    have : (x : Int) - ((2 ^ (64 - n) : Nat) : Int) * ((2 ^ n : Nat) : Int) = (x : Int) + (-((2 ^ (64 - n) : Nat) : Int)) * ((2 ^ n : Nat) : Int) := by rw [Int.neg_mul]; omega
    rw [this, Int.add_mul_ediv_right _ _ (by omega)]
    omega
  by_cases hs : x < 9223372036854775808
  · have hw : wrap64 (x : Int) = (x : Int) := by unfold wrap64; omega
    rw [hw, decide_eq_false (by omega), ← Int.natCast_ediv]
    simp only [Bool.toNat_false, Nat.zero_mul, Nat.add_zero]
    generalize x / 2 ^ n = d at *
    omega
  · have hw : wrap64 (x : Int) = (x : Int) - 18446744073709551616 := by unfold wrap64; omega
    rw [hw, decide_eq_true (by omega), e3]
    simp only [Bool.toNat_true, Nat.one_mul]
    generalize x / 2 ^ n = d at *
    generalize 2 ^ (64 - n) = p at *
    omega
theorem sar_word {x : Nat} {n c : Int} (hx : x < 18446744073709551616) (h0 : 0 ≤ n) (h : c = -n ∨ c ≤ -64 ∧ 64 ≤ n) (s : Int) (hs : s = wrap64 (x : Int)) :
    IntKind.u64.wrap (sarJ s n) = ((bv (moved x c (decide (s < 0))) : Nat) : Int) := by
  subst hs
  rw [IntKind.wrap_u64]
  unfold sarJ
  by_cases h63 : n ≤ 63
  · rw [if_pos h63]
    obtain ⟨k, rfl⟩ : ∃ k : Nat, n = (k : Int) := ⟨n.toNat, by omega⟩
    obtain rfl : c = -(k : Int) := by omega
    rw [Int.toNat_natCast, sar_down hx (by omega), moved_fill hx (by omega)]
  · rw [if_neg h63]
    have e : moved x c (decide (wrap64 (x : Int) < 0)) = moved x (-((64 : Nat) : Int)) (decide (wrap64 (x : Int) < 0)) := by
      unfold moved
      apply List.map_congr_left
      intro i hi
      rw [List.mem_range] at hi
      unfold moveBit
      rw [if_neg (by omega), if_pos (by omega), if_neg (by omega), if_pos (by omega)]
    rw [e, moved_fill hx (by omega)]
    have hx64 : x / 2 ^ 64 = 0 := Nat.div_eq_of_lt hx
    rw [hx64]
    by_cases hs : x < 9223372036854775808
    · have hw : wrap64 (x : Int) = (x : Int) := by unfold wrap64; omega
      rw [hw, decide_eq_false (by omega)]
      simp only [Bool.toNat_false]
      omega
    · have hw : wrap64 (x : Int) = (x : Int) - 18446744073709551616 := by unfold wrap64; omega
      rw [hw, decide_eq_true (by omega)]
      simp only [Bool.toNat_true]
      omega
theorem sar_up {x : Nat} {k : Nat} (hx : x < 18446744073709551616) : IntKind.u64.wrap (wrap64 (wrap64 (x : Int) * 2 ^ k)) = ((x * 2 ^ k % 18446744073709551616 : Nat) : Int) := by
  obtain ⟨t, ht⟩ : ∃ t, wrap64 (x : Int) = (x : Int) + 18446744073709551616 * t := ⟨-(((x : Int) + 9223372036854775808) / 18446744073709551616), by unfold wrap64; omega⟩
  rw [IntKind.wrap_u64, ht, Int.add_mul, Int.mul_assoc, wrap64_add]
  have e : (x : Int) * 2 ^ k = ((x * 2 ^ k : Nat) : Int) := by simp
  rw [e]
  generalize x * 2 ^ k = z
  unfold wrap64; omega
/-- the k lowest bits, and the highest of them in all places above -/
theorem narrow_word {x : Int} {k X : Nat} (h1 : 1 ≤ k) (h2 : k ≤ 64) (hX : X = (x % 18446744073709551616).toNat) :
    IntKind.u64.wrap (x.bmod (2 ^ k)) = ((bv ((bitsOf X).take k ++ List.replicate (64 - k) ((bitsOf X).getD (k - 1) false)) : Nat) : Int) := by
  have hXb : X < 18446744073709551616 := by omega
  obtain ⟨t, ht⟩ : ∃ t : Int, x = (X : Int) + 18446744073709551616 * t := ⟨x / 18446744073709551616, by omega⟩
  clear hX
  obtain ⟨j, rfl⟩ : ∃ j, k = j + 1 := ⟨k - 1, by omega⟩
  have hlow : bv ((bitsOf X).take (j + 1)) = X % 2 ^ (j + 1) := bv_eq fun i => by
    rw [Nat.testBit_mod_two_pow]
    by_cases hi : i < j + 1
    · rw [decide_eq_true hi, Bool.true_and]
      simp only [List.getD_eq_getElem?_getD, List.getElem?_take, if_pos hi]
      rw [← List.getD_eq_getElem?_getD]
      unfold bitsOf
      rw [map_range_getD, if_pos (by omega)]
    · rw [decide_eq_false hi, Bool.false_and]
      simp only [List.getD_eq_getElem?_getD, List.getElem?_take, if_neg hi, Option.getD_none]
  have hlen : ((bitsOf X).take (j + 1)).length = j + 1 := by simp [bitsOf]; omega
  have hf : (bitsOf X).getD j false = decide (2 ^ j ≤ X % 2 ^ (j + 1)) := by
    have e1 : (bitsOf X).getD j false = X.testBit j := by unfold bitsOf; rw [map_range_getD, if_pos (by omega)]
    have e2 : X.testBit j = (X % 2 ^ (j + 1)).testBit j := by rw [Nat.testBit_mod_two_pow, decide_eq_true (by omega), Bool.true_and]
    rw [e1, e2, Nat.testBit_eq_decide_div_mod_eq]
    have hp : 0 < 2 ^ j := Nat.pow_pos (by omega)
    have h3 : X % 2 ^ (j + 1) < 2 ^ j * 2 := by rw [← Nat.pow_succ]; exact Nat.mod_lt _ (Nat.pow_pos (by omega))
    generalize X % 2 ^ (j + 1) = y at *
    have h4 := Nat.div_lt_of_lt_mul h3
    have h5 : 2 ^ j ≤ y ↔ 1 ≤ y / 2 ^ j := by rw [Nat.le_div_iff_mul_le hp, Nat.one_mul]
    generalize y / 2 ^ j = z at *
    rw [Bool.eq_iff_iff, decide_eq_true_eq, decide_eq_true_eq, h5]
    omega
  have h2k : 2 ^ (j + 1) * 2 ^ (64 - (j + 1)) = 18446744073709551616 := by rw [← Nat.pow_add, show j + 1 + (64 - (j + 1)) = 64 by omega]
  have hmod : x % ((2 ^ (j + 1) : Nat) : Int) = ((X % 2 ^ (j + 1) : Nat) : Int) := by
    have e : (18446744073709551616 : Int) = ((2 ^ (j + 1) : Nat) : Int) * ((2 ^ (64 - (j + 1)) : Nat) : Int) := by rw [← Int.natCast_mul, h2k]; rfl
    rw [ht, e, Int.mul_assoc, Int.add_mul_emod_self_left, Int.natCast_emod]
  rw [bv_append, hlow, hlen, bv_rep, Nat.add_sub_cancel, hf]
  have hm : 2 ^ (j + 1) = 2 * 2 ^ j := by rw [Nat.pow_succ, Nat.mul_comm]
  have hlt : X % 2 ^ (j + 1) < 2 ^ (j + 1) := Nat.mod_lt _ (Nat.pow_pos (by omega))
  have hq : 0 < 2 ^ (64 - (j + 1)) := Nat.pow_pos (by omega)
  have hle : 2 ^ (j + 1) ≤ 18446744073709551616 := by rw [← h2k]; exact Nat.le_mul_of_pos_right _ hq
  rw [IntKind.wrap_u64]
  unfold Int.bmod
  simp only [hmod]
  generalize X % 2 ^ (j + 1) = y at *
  by_cases hy : 2 ^ j ≤ y
  · rw [decide_eq_true hy, if_neg (by rw [hm]; omega)]
    simp only [Bool.toNat_true, Nat.one_mul]
    rw [Nat.mul_sub, h2k, Nat.mul_one]
    generalize 2 ^ (j + 1) = m at *
    omega
  · rw [decide_eq_false hy, if_pos (by rw [hm]; omega)]
    simp only [Bool.toNat_false, Nat.zero_mul, Nat.mul_zero, Nat.add_zero]
    omega
/-- how many bits -/
theorem blen_half {x : Nat} (h : x ≠ 0) : blen x = blen (x / 2) + 1 := by
  unfold blen
  rw [if_neg h]
  by_cases h2 : x / 2 = 0
  · rw [if_pos h2]
    have : x = 1 := by omega
    subst this; rfl
  · rw [if_neg h2]
    rw [Nat.log2_def, if_pos (by omega)]
/-- noughts at the low end, counted one by one -/
structure ZInv (x0 x n : Nat) : Prop where
  zero : x0 = 0 → x = 0
  some_ : x0 ≠ 0 → x ≠ 0 ∧ tz x0 = n + tz x
theorem ZInv.start (x : Nat) : ZInv x x 0 := ⟨id, fun h => ⟨h, by omega⟩⟩
theorem ZInv.step {x0 x n : Nat} (h : ZInv x0 x n) (he : x % 2 = 0) : ZInv x0 (x / 2) (n + 1) := by
  refine ⟨fun h0 => by rw [h.zero h0], fun h0 => ?_⟩
  obtain ⟨h1, h2⟩ := h.some_ h0
  exact ⟨by omega, by rw [h2, tz_even h1 he]; omega⟩
theorem ZInv.done {x0 x n : Nat} (h : ZInv x0 x n) (hx : x0 < 18446744073709551616) (hn : n ≤ 64) (he : n = 64 ∨ x % 2 = 1) : n = if x0 = 0 then 64 else tz x0 := by
  by_cases h0 : x0 = 0
  · rw [if_pos h0]
    have := h.zero h0
    omega
  · rw [if_neg h0]
    obtain ⟨h1, h2⟩ := h.some_ h0
    have h3 := tz_lt h0 (show x0 < 2 ^ 64 from hx)
    rcases he with he | he
    · omega
    · rw [tz_odd he] at h2; omega
end Vic
set_option linter.unusedVariables false
set_option linter.unusedSimpArgs false
namespace Vic
open Go Go.RowKit
/-- a row of bools -/
def bools (L : List Bool) : Array Value := (L.map Value.bool).toArray
theorem bools_size (L : List Bool) : (bools L).size = L.length := by simp [bools]
theorem bools_get (L : List Bool) (i : Nat) (h : i < L.length) : (bools L)[i]? = some (.bool (L.getD i false)) := by
  simp [bools, h, List.getD_eq_getElem?_getD]
theorem bools_set (L : List Bool) (i : Nat) (b : Bool) : (bools L).setIfInBounds i (.bool b) = bools (L.set i b) := by simp [bools, List.map_set]
theorem bools_one (L : List Bool) : (bools L).all (·.oneCell') = true := by
  rw [Array.all_eq_true_iff_forall_mem]
  intro v hv
  have hv2 : v ∈ L.map Value.bool := by simpa only [bools, List.mem_toArray] using hv
  obtain ⟨b, _, rfl⟩ := List.mem_map.1 hv2
  rfl
theorem bools_rep (n : Nat) : Array.replicate n (Value.bool false) = bools (List.replicate n false) := by simp [bools]
theorem bools_64 : bools (List.replicate 64 false) = #[.bool false, .bool false, .bool false, .bool false, .bool false, .bool false, .bool false, .bool false, .bool false, .bool false, .bool false, .bool false, .bool false, .bool false, .bool false, .bool false, .bool false, .bool false, .bool false, .bool false, .bool false, .bool false, .bool false, .bool false, .bool false, .bool false, .bool false, .bool false, .bool false, .bool false, .bool false, .bool false, .bool false, .bool false, .bool false, .bool false, .bool false, .bool false, .bool false, .bool false, .bool false, .bool false, .bool false, .bool false, .bool false, .bool false, .bool false, .bool false, .bool false, .bool false, .bool false, .bool false, .bool false, .bool false, .bool false, .bool false, .bool false, .bool false, .bool false, .bool false, .bool false, .bool false, .bool false, .bool false] := rfl
theorem rep_getD (n j : Nat) : (List.replicate n false).getD j false = false := by
  rw [List.getD_eq_getElem?_getD, List.getElem?_replicate]; split <;> rfl
theorem moved_done {L : List Bool} {x : Nat} {c : Int} {f : Bool} (hl : L.length = 64) (h : ∀ j, j < 64 → L.getD j false = moveBit x c f j) : L = moved x c f := by
  apply List.ext_getElem
  · rw [hl]; simp [moved]
  · intro i h1 h2
    have := h i (by omega)
    rw [List.getD_eq_getElem?_getD, List.getElem?_eq_getElem h1, Option.getD_some] at this
    rw [this]
    simp [moved]
theorem bits_done {L : List Bool} {x : Nat} (hl : L.length = 64) (h : ∀ j, j < 64 → L.getD j false = x.testBit j) : L = bitsOf x := by
  apply List.ext_getElem
  · rw [hl]; simp [bitsOf]
  · intro i h1 h2
    have := h i (by omega)
    rw [List.getD_eq_getElem?_getD, List.getElem?_eq_getElem h1, Option.getD_some] at this
    rw [this]
    simp [bitsOf]
end Vic
namespace Go.Proofs.YtohjljbhfopffaaGreatDoor
open Go.RowKit Vic

set_option maxRecDepth 100000 in
set_option maxHeartbeats 4000000 in
theorem ref_Bits (w : World) (x : Nat) (hx : x < 18446744073709551616) : Calls Tryz.prog 24 #[.int .u64 x] w (Keeps (.agg (bools (bitsOf x))) w) := by
  go_enter Tryz.func24, Tryz.ntmps24
  go_wp2_with fail
  obtain ⟨w2, hw2⟩ : ∃ w2, w2 = (w.alloc (.cells (bools (List.replicate 64 false)) 47)).alloc (.cells (bools (List.replicate 64 false)) 47) := ⟨_, rfl⟩
  have hr0 : Row w2 w.heap.size 47 (bools (List.replicate 64 false)) := by rw [hw2]; exact (Row.new _ _ _).alloc _
  have hr1 : Row w2 (w.heap.size + 1) 47 (bools (List.replicate 64 false)) := by
    rw [hw2]
    have := Row.new (w.alloc (.cells (bools (List.replicate 64 false)) 47)) 47 (bools (List.replicate 64 false))
    simpa using this
  have hb2 : Below w.heap.size w w2 := by rw [hw2]; exact ((Below.refl _ _).alloc (Nat.le_refl _) _).alloc (by simp) _
  have HX := Lib.hid hx
  have HR0 := Lib.hid hr0; have HR1 := Lib.hid hr1
  rw [bools_64] at hw2
  rw [← hw2]
  clear hw2 hr0 hr1 hx
  go_loopw [4, 0] (fun t s wr => ∃ (k y : Nat) (L : List Bool), t = .int .i64 k ∧ k ≤ 64 ∧ s = .int .u64 y ∧ L.length = 64 ∧ Hid (y < 18446744073709551616) ∧ Hid (y = x / 2 ^ k) ∧ Hid (∀ j, j < k → L.getD j false = x.testBit j) ∧ Hid (Row wr (w.heap.size + 1) 47 (bools L)) ∧ Hid (Row wr w.heap.size 47 (bools (List.replicate 64 false))) ∧ Below w.heap.size w wr) (fun t _ _ => 64 - (intOf t).toNat)
  case atStart => exact ⟨0, x, _, rfl, by omega, rfl, by simp, HX, by show _ = _; simp, fun j h => by omega, HR1, HR0, hb2⟩
  case round =>
    clear HX HR0 HR1 hb2
    obtain ⟨k, y, L, rfl, hk, rfl, hL, hyb, hyx, hok, hrow, hrow0, hbr⟩ := hrel
    by_cases hlt : k < 64
    · have hcell := hrow.out.cell k
      rw [bools_get L k (by omega)] at hcell
      have hfree := hrow.out.free k
      have hbit : Hid (((((y : Nat) : Int) % 2) == 1) = x.testBit k) := Lib.hid (by
        have e : x.testBit k = decide (y % 2 = 1) := by rw [hyx.out, Nat.testBit_eq_decide_div_mod_eq]
        rw [e]
        by_cases h : y % 2 = 1
        · rw [decide_eq_true h, beq_iff_eq]; omega
        · rw [decide_eq_false h, beq_eq_false_iff_ne]; omega)
      obtain ⟨b, hb⟩ : ∃ b, b = x.testBit k := ⟨_, rfl⟩
      rw [← hb] at hbit
      have hbo := hbit.out
      have hr2 := Lib.hid (Row.set hrow.out k (.bool b))
      rw [bools_set] at hr2
      have hr3 := Lib.hid (Row.far hrow0.out (p := ⟨w.heap.size + 1, k, none⟩) (by show w.heap.size ≠ w.heap.size + 1; omega) (.bool b))
      have hok2 : Hid (∀ j, j < k + 1 → (L.set k b).getD j false = x.testBit j) := Lib.hid fun j hj => by
        by_cases e : j = k
        · subst e; rw [← hb]; simp [List.getD_eq_getElem?_getD, hL, hlt]
        · rw [show (L.set k b).getD j false = L.getD j false by simp [List.getD_eq_getElem?_getD, List.getElem?_set_ne (Ne.symm e)]]
          exact hok.out j (by omega)
      obtain ⟨z, hz⟩ : ∃ z, z = y / 2 := ⟨_, rfl⟩
      have ez : IntKind.u64.wrap ((y : Int) / 2) = (z : Int) := by have := hyb.out; rw [IntKind.wrap_u64, hz]; omega
      have hzb : Hid (z < 18446744073709551616) := Lib.hid (by have := hyb.out; omega)
      have hzx : Hid (z = x / 2 ^ (k + 1)) := Lib.hid (by rw [hz, hyx.out, Nat.div_div_eq_div_mul, Nat.pow_succ])
      clear hbit hb hz hyx hyb hok
      go_wp2_with fail
      go_roundw
      case rel => exact ⟨k + 1, z, L.set k b, by go_num, by omega, rfl, by simp [hL], hzb, hzx, hok2, hr2, hr3, hbr.setCell (p := ⟨w.heap.size + 1, k, none⟩) (by show w.heap.size ≤ w.heap.size + 1; omega) _⟩
      case measure => simp [intOf]; omega
    · obtain rfl : k = 64 := by omega
      have hLx := Lib.hid (bits_done hL hok.out)
      have hsz : (Tryz.prog.info? 47).map (·.size) = some (bools L).size := by rw [bools_size, hL]; kernel_rfl
      have hr4 : Hid ((wr.setRow w.heap.size (bools L)).heap[w.heap.size]? = some (.cells (bools L) 47 (0, 0))) := Lib.hid (setRow_heap wr w.heap.size _ (bools L) 47 (0, 0) hrow0.out)
      have hb4 : Below w.heap.size w (wr.setRow w.heap.size (bools L)) := hbr.trans ((setRow_only _ _ _).below (Nat.le_refl _) |>.mono (by have := hbr.size; omega))
      clear hok hyx hyb
      go_wp2_with (first | (refine wpList_load_row rfl 47 _ rfl (w.heap.size + 1) rfl 47 (bools L) (0, 0) _ hrow.out Tryz.underlying47 rfl hsz ?_) | (refine wpList_store_row rfl 47 _ _ rfl w.heap.size (bools L) rfl rfl 47 _ hrow0.out hsz (by rw [bools_size, bools_size, hL]; simp) (bools_one L) ?_))
      exact bodyPost_ret (v := .agg (bools L)) (results_cell_row (p := 2) (ty := 47) Tryz.results24 _ _ w.heap.size 47 (bools L) (0, 0) _ (by simp [go_sem]) hr4.out Tryz.underlying47 rfl hsz) rfl ⟨by rw [hLx.out], hb4⟩

set_option maxRecDepth 100000 in
set_option maxHeartbeats 4000000 in
theorem ref_Word (w : World) (L : List Bool) (hL : L.length = 64) : Calls Tryz.prog 25 #[.agg (bools L)] w (Keeps (.int .u64 (bv L : Nat)) w) := by
  obtain ⟨B, hB⟩ : ∃ B, B = bv L := ⟨_, rfl⟩
  rw [← hB]
  have HB := Lib.hid hB
  clear hB
  have HL := Lib.hid hL
  go_enter Tryz.func25, Tryz.ntmps25
  go_wp2_with fail
  have hr0 := Lib.hid (Row.new w 47 (bools L))
  have hb0 : Below w.heap.size w (w.alloc (.cells (bools L) 47)) := (Below.refl _ _).alloc (Nat.le_refl _) _
  obtain ⟨w2, hw2⟩ : ∃ w2, w2 = w.alloc (.cells (bools L) 47) := ⟨_, rfl⟩
  rw [← hw2] at hr0 hb0 ⊢
  clear hw2 hL
  go_loopw [4, 3] (fun t s wr => ∃ (m y : Nat), t = .int .i64 ((m : Int) - 1) ∧ m ≤ 64 ∧ s = .int .u64 y ∧ Hid (y = bv (L.drop m)) ∧ wr = w2) (fun t _ _ => (intOf t + 1).toNat)
  case atStart => exact ⟨64, 0, rfl, by omega, rfl, by show _ = _; rw [List.drop_of_length_le (by have := HL.out; omega)]; rfl, rfl⟩
  case round =>
    obtain ⟨m, y, rfl, hm, rfl, hy, rfl⟩ := hrel
    rcases Nat.eq_zero_or_pos m with h0 | h0
    · subst h0
      have hyB : y = B := by rw [hy.out, HB.out]; rfl
      subst hyB
      clear hy
      go_wp2_with fail
      go_ret
      exact ⟨rfl, hb0⟩
    · obtain ⟨m, rfl⟩ : ∃ k, m = k + 1 := ⟨m - 1, by omega⟩
      have hcell := hr0.out.cell m
      rw [bools_get L m (by have := HL.out; omega)] at hcell
      have hstep := bv_drop L m (by have := HL.out; omega)
      rw [← hy.out] at hstep
      have hlt := bv_lt (L.drop m)
      have hlt2 : bv (L.drop m) < 18446744073709551616 := Nat.lt_of_lt_of_le hlt (by
        rw [List.length_drop, HL.out]
        exact Nat.pow_le_pow_right (n := 2) (by omega) (show 64 - m ≤ 64 by omega))
      obtain ⟨z, hz⟩ : ∃ z, z = bv (L.drop m) := ⟨_, rfl⟩
      rw [← hz] at hstep hlt2
      cases hb : L.getD m false
      case' true =>
        rw [hb] at hstep hcell
        have hs2 : z = 1 + 2 * y := hstep
        obtain ⟨y2, hy2⟩ : ∃ y2, y2 = 2 * y := ⟨_, rfl⟩
        have e1 : IntKind.u64.wrap ((y : Int) * 2) = (y2 : Int) := by rw [IntKind.wrap_u64]; omega
        have e2 : IntKind.u64.wrap ((y2 : Int) + 1) = (z : Int) := by rw [IntKind.wrap_u64]; omega
      case' false =>
        rw [hb] at hstep hcell
        have hs2 : z = 0 + 2 * y := hstep
        have e1 : IntKind.u64.wrap ((y : Int) * 2) = (z : Int) := by rw [IntKind.wrap_u64]; omega
      all_goals
        have HZ := Lib.hid hz
        clear hs2 hstep hlt hlt2 hy hz hb
        try clear hy2
        go_wp2_with fail
        go_roundw
        case rel => exact ⟨m, z, by go_num, by omega, rfl, HZ, trivial⟩
        case measure => simp [intOf]

end Go.Proofs.YtohjljbhfopffaaGreatDoor
