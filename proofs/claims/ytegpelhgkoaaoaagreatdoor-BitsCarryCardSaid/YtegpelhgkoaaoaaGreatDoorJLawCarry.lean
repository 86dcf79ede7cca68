/- The law BitsCarry: sums and differences with a carry, in and out. -/
import Derived.Test.YtegpelhgkoaaoaaGreatDoorJWalkH
import Derived.Test.YtegpelhgkoaaoaaGreatDoorJWalkJ
import Derived.Test.YtegpelhgkoaaoaaGreatDoorJWalkA
set_option linter.unusedVariables false
set_option linter.unusedSimpArgs false
namespace Vic
open Go Go.RowKit
theorem carry_back {x y : Nat} {c : Bool} (hx : x < 18446744073709551616) (hy : y < 18446744073709551616) :
    ((x + y + c.toNat) % 18446744073709551616 + 18446744073709551616 + 18446744073709551616 - y - c.toNat) % 18446744073709551616 = x ∧
    decide ((x + y + c.toNat) % 18446744073709551616 < y + c.toNat) = decide (18446744073709551616 ≤ x + y + c.toNat) ∧
    (18446744073709551616 ≤ x + y + c.toNat → (x + y + c.toNat) % 18446744073709551616 + 2 ^ 64 = x + y + c.toNat) ∧
    (¬ 18446744073709551616 ≤ x + y + c.toNat → (x + y + c.toNat) % 18446744073709551616 = x + y + c.toNat) := by
  have hc : c.toNat ≤ 1 := by cases c <;> decide
  rw [show (2 : Nat) ^ 64 = 18446744073709551616 from rfl]
  generalize c.toNat = k at *
  refine ⟨by omega, ?_, by omega, by omega⟩
  rw [Bool.eq_iff_iff]; simp; omega
theorem tdg3 {n : Nat} (h : n < 18446744073709551616 * 4) : (tdg n).length ≤ 10 := tdg_len (Nat.lt_of_lt_of_le h (by decide))
end Vic
namespace Go.Proofs.YtegpelhgkoaaoaaGreatDoor
open Go.RowKit Vic

theorem cmp_same {w : World} {u v : Value} {n : Nat} (ha : RefN w u n) (hb : RefN w v n) (hl : (tdg n).length ≤ 1000000) : Calls Tryz.prog 50 #[u, v] w (Rets (.int .i64 0) w) := by
  have := ref_Cmp w u v n n ha hb (by omega) (by omega)
  rwa [cmpI_eq rfl] at this

set_option maxRecDepth 100000 in
set_option maxHeartbeats 8000000 in
theorem law_BitsCarry (w : World) (ht : Tab w) (x y : Nat) (c : Bool) (hx : x < 18446744073709551616) (hy : y < 18446744073709551616) :
    Calls Tryz.prog 10 #[.int .u64 x, .int .u64 y, .bool c] w (Keeps (.bool true) w) := by
  have CB := Lib.hid (law_begun w ht)
  have CA0 := fun wr => bits_Add x y c wr hx hy
  obtain ⟨d1, d2, d3, d4⟩ := carry_back (c := c) hx hy
  have hsb : (x + y + c.toNat) % 18446744073709551616 < 18446744073709551616 := Nat.mod_lt _ (by omega)
  have CS0 := fun wr => bits_Sub ((x + y + c.toNat) % 18446744073709551616) y c wr hsb hy
  rw [d1, d2] at CS0
  have hc : c.toNat ≤ 1 := by cases c <;> decide
  have hK : ∃ K, K = x + y + c.toNat := ⟨_, rfl⟩
  obtain ⟨K, hK⟩ := hK
  have hKb : K < 18446744073709551616 * 3 := by omega
  rw [← hK] at CA0 CS0 d3 d4 hsb
  obtain ⟨s, hs⟩ : ∃ s, s = K % 18446744073709551616 := ⟨_, rfl⟩
  rw [← hs] at CA0 CS0 d3 d4 hsb
  have OX := Lib.hid (fun wr => ref_OfU wr x hx); have OY := Lib.hid (fun wr => ref_OfU wr y hy); have OS := Lib.hid (fun wr => ref_OfU wr s hsb)
  have T : Hid (∀ wr, Calls Tryz.prog 48 #[.int .i64 64] wr (Gives (fun v w' => RefN w' v (2 ^ 64)) wr)) := fun wr => ref_Two wr 64 (by omega)
  have LX := Lib.hid (tdg3 (n := x) (by omega)); have LY := Lib.hid (tdg3 (n := y) (by omega)); have LS := Lib.hid (tdg3 (n := s) (by omega)); have LXY := Lib.hid (tdg3 (n := x + y) (by omega)); have LK := Lib.hid (tdg3 (n := K) (by omega))
  have L64 : Hid ((tdg (2 ^ 64)).length ≤ 10) := Lib.hid (tdg3 (by decide))
  have HK := Lib.hid hK
  have CA := Lib.hid CA0; have CS := Lib.hid CS0
  obtain ⟨o, ho⟩ : ∃ o, o = decide (18446744073709551616 ≤ K) := ⟨_, rfl⟩
  rw [← ho] at CA CS
  have HM : Hid (if o then s + 2 ^ 64 = K else s = K) := Lib.hid (by
    cases o
    · simp only [Bool.false_eq_true, if_false]; exact d4 (by simpa using ho.symm)
    · simp only [if_true]; exact d3 (by simpa using ho.symm))
  clear CA0 CS0 d1 d2 d3 d4 hs hsb ho hx hy hc hK hKb ht
  cases c
  case' true =>
    have hK1 : Hid (x + y + 1 = K) := HK.out.symm
    clear HK
    go_enter Tryz.func10, Tryz.ntmps10
    go_wp2_with fail
    refine CB.out.mono ?_
    rintro e w1 ⟨rfl, hb1⟩
    go_wp2_with fail
    refine (CA.out _).mono ?_
    rintro e w' ⟨rfl, rfl⟩
    go_wp2_with fail
    refine (OX.out _).mono ?_
    rintro e w2 ⟨x2, rfl, hx2, hb2⟩
    go_wp2_with fail
    refine (OY.out _).mono ?_
    rintro e w3 ⟨x3, rfl, hx3, hb3⟩
    have C3 := Lib.hid (ref_Add w3 x2 x3 x y (hx2.keep hb3) hx3 (by have := LX.out; omega) (by have := LY.out; omega))
    have B3 := below_seq hb1 (below_seq hb2 hb3)
    clear hx2 hx3
    go_wp2_with fail
    refine C3.out.mono ?_
    rintro e w4 ⟨x4, rfl, hx4, hb4⟩
    have B4 := below_seq B3 hb4
    obtain ⟨w5, hw5⟩ : ∃ w5, w5 = w4.alloc (.cells #[.int .i64 1] 3) := ⟨_, rfl⟩
    have h45 : Below w4.heap.size w4 w5 := by rw [hw5]; exact (Below.refl _ _).alloc (Nat.le_refl _) _
    have hone : RefN w5 (.slice (some ⟨w4.heap.size, 0, none⟩) 1 1) 1 := ref_one (d := 1) (by rw [hw5]; exact Row.new _ _ _) (by omega) (by omega)
    have C5 := Lib.hid (ref_Add w5 x4 _ (x + y) 1 (hx4.keep h45) hone (by have := LXY.out; omega) (by rw [tdg_small (by omega) (by omega)]; simp))
    have HW5 := Lib.hid hw5
    have B5 := below_seq B4 h45
    clear C3 hb2 hb3 hb4 B3 B4 hw5 hone hx4 h45
    go_wp2_with fail
    rw [← HW5.out]
    refine C5.out.mono ?_
    rintro e w6 ⟨x6, rfl, hx6, hb6⟩
    have B6 := below_seq B5 hb6
    rw [hK1.out] at hx6
    have HN := Lib.hid hx6
    clear C5 HW5 hx6 hb6 B5 hb1
    go_wp2_with fail
  case' false =>
    have hK1 : Hid (x + y = K) := HK.out.symm
    clear HK
    go_enter Tryz.func10, Tryz.ntmps10
    go_wp2_with fail
    refine CB.out.mono ?_
    rintro e w1 ⟨rfl, hb1⟩
    go_wp2_with fail
    refine (CA.out _).mono ?_
    rintro e w' ⟨rfl, rfl⟩
    go_wp2_with fail
    refine (OX.out _).mono ?_
    rintro e w2 ⟨x2, rfl, hx2, hb2⟩
    go_wp2_with fail
    refine (OY.out _).mono ?_
    rintro e w3 ⟨x3, rfl, hx3, hb3⟩
    have C3 := Lib.hid (ref_Add w3 x2 x3 x y (hx2.keep hb3) hx3 (by have := LX.out; omega) (by have := LY.out; omega))
    have B3 := below_seq hb1 (below_seq hb2 hb3)
    clear hx2 hx3
    go_wp2_with fail
    refine C3.out.mono ?_
    rintro e w6 ⟨x6, rfl, hx6, hb6⟩
    have B6 := below_seq B3 hb6
    rw [hK1.out] at hx6
    have HN := Lib.hid hx6
    clear C3 hb2 hb3 hx6 hb6 B3 hb1
    go_wp2_with fail
  all_goals
    refine (OS.out _).mono ?_
    rintro e w7 ⟨x7, rfl, hx7, hb7⟩
    cases o
    case' true =>
      simp only [if_true] at HM
      go_wp2_with fail
      refine (T.out _).mono ?_
      rintro e w8 ⟨x8, rfl, hx8, hb8⟩
      have C8 := Lib.hid (ref_Add w8 x7 x8 s (2 ^ 64) (hx7.keep hb8) hx8 (by have := LS.out; omega) (by have := L64.out; omega))
      clear hx8
      go_wp2_with fail
      refine C8.out.mono ?_
      rintro e w9 ⟨x9, rfl, hx9, hb9⟩
      rw [HM.out] at hx9
      have h69 := below_seq hb7 (below_seq hb8 hb9)
      clear C8 hb8 hb9 hx7 hb7
    case' false =>
      simp only [Bool.false_eq_true, if_false] at HM
      obtain ⟨w9, hw9⟩ : ∃ w9, w7 = w9 := ⟨_, rfl⟩
      obtain ⟨x9, hx9'⟩ : ∃ x9, x7 = x9 := ⟨_, rfl⟩
      subst hw9; subst hx9'
      have hx9 := hx7
      have h69 := hb7
      rw [HM.out] at hx9
      clear hx7 hb7
    all_goals
      have B9 := below_seq B6 h69
      have C9 := Lib.hid (cmp_same (HN.out.keep h69) hx9 (by have := LK.out; omega))
      clear hx9 h69
      go_wp2_with fail
      refine (CS.out _).mono ?_
      rintro e w' ⟨rfl, rfl⟩
      go_wp2_with fail
      refine C9.out.mono ?_
      rintro e w' ⟨rfl, rfl⟩
      go_wp2_with fail
      go_ret
      exact ⟨rfl, B9⟩
end Go.Proofs.YtegpelhgkoaaoaaGreatDoor
