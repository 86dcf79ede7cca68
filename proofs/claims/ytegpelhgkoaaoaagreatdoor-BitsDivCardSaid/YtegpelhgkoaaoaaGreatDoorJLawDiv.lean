/- The law BitsDiv: a quotient by its divisor and the rest is the number, in two words. -/
import Derived.Test.YtegpelhgkoaaoaaGreatDoorJWalkH
import Derived.Test.YtegpelhgkoaaoaaGreatDoorJWalkA
import Derived.Test.YtegpelhgkoaaoaaGreatDoorJWalkK
import Derived.Deep.QuietTactic
import Derived.BigQuiet
set_option linter.unusedVariables false
set_option linter.unusedSimpArgs false
namespace Go.Proofs.YtegpelhgkoaaoaaGreatDoor
open Go.RowKit Vic

set_option maxRecDepth 100000 in
set_option maxHeartbeats 4000000 in
theorem law_BitsDiv (w : World) (ht : Tab w) (h l y : Nat) (hh : h < 18446744073709551616) (hl : l < 18446744073709551616) (hy : y < 18446744073709551616) :
    Calls Tryz.prog 7 #[.int .u64 h, .int .u64 l, .int .u64 y] w (Keeps (.bool true) w) := by
  have CB := Lib.hid (law_begun w ht)
  clear ht
  by_cases h0 : y = 0
  · subst h0
    have CD : Hid (∀ wr, Calls Tryz.prog 39 #[.int .u64 h, .int .u64 l, .int .u64 0] wr (Rets (.tuple #[.int .u64 0, .int .u64 0, .bool false]) wr)) := Lib.hid fun wr => bits_Div_no h l 0 wr (Nat.zero_le _)
    clear hh hl hy
    go_enter Tryz.func7, Tryz.ntmps7
    go_wp2_with fail
    refine CB.out.mono ?_
    rintro e w1 ⟨rfl, hb1⟩
    go_wp2_with fail
    refine (CD.out _).mono ?_
    rintro e w' ⟨rfl, rfl⟩
    go_wp2_with fail
    go_ret
    exact ⟨rfl, hb1⟩
  · obtain ⟨H, hH⟩ : ∃ H, H = h % y := ⟨_, rfl⟩
    have hHy : H < y := by rw [hH]; exact Nat.mod_lt _ (by omega)
    have e1 : ((h : Nat) : Int) % ((y : Nat) : Int) = (H : Int) := by rw [hH]; exact (Int.natCast_emod _ _).symm
    have hy1 : (1 : Int) ≤ (y : Int) := by omega
    have hyf : (((y : Nat) : Int) == 0) = false := by rw [beq_eq_false_iff_ne]; omega
    obtain ⟨q, hq⟩ : ∃ q, q = (H * 18446744073709551616 + l) / y := ⟨_, rfl⟩
    obtain ⟨r, hr⟩ : ∃ r, r = (H * 18446744073709551616 + l) % y := ⟨_, rfl⟩
    obtain ⟨d1, d2, d3⟩ := div_again hHy hl hy hq hr
    have hqb : q < 18446744073709551616 := by rw [hq]; exact div_small hHy hl hy
    have CD0 := fun wr => bits_Div_yes H l y wr hHy hl hy
    rw [← hq, ← hr] at CD0
    have CM0 := fun wr => bits_Mul q y wr hqb hy
    have hqy : q * y < 18446744073709551616 * 18446744073709551616 := Nat.mul_lt_mul'' hqb hy
    have ha : q * y / 18446744073709551616 < 18446744073709551616 := (Nat.div_lt_iff_lt_mul (by omega)).2 hqy
    have hb : q * y % 18446744073709551616 < 18446744073709551616 := Nat.mod_lt _ (by omega)
    have CA0 := fun wr => bits_Add (q * y % 18446744073709551616) r false wr hb (by omega)
    have CC0 := fun wr => bits_Add (q * y / 18446744073709551616) 0 (decide (18446744073709551616 ≤ q * y % 18446744073709551616 + r + false.toNat)) wr ha (by omega)
    rw [d2] at CA0
    rw [d3] at CC0
    generalize decide (18446744073709551616 ≤ q * y % 18446744073709551616 + r + false.toNat) = ca at *
    generalize q * y / 18446744073709551616 = a at *
    generalize q * y % 18446744073709551616 = b at *
    obtain ⟨cb, hcb⟩ : ∃ cb, cb = decide (18446744073709551616 ≤ a + 0 + ca.toNat) := ⟨_, rfl⟩
    rw [← hcb] at CC0
    have CC : Hid (∀ wr, Calls Tryz.prog 41 #[.int .u64 a, .int .u64 0, .bool ca] wr (Rets (.tuple #[.int .u64 (H : Int), .bool cb]) wr)) := CC0
    have CD := Lib.hid CD0; have CM := Lib.hid CM0; have CA := Lib.hid CA0
    have hry : (r : Int) < (y : Int) := by omega
    clear CC0 CD0 CM0 CA0 hcb d1 d2 d3 hqy ha hb hq hr hqb hH hHy hh hl hy h0
    go_enter Tryz.func7, Tryz.ntmps7
    go_wp2_with fail
    refine CB.out.mono ?_
    rintro e w1 ⟨rfl, hb1⟩
    go_wp2_with fail
    refine (CD.out _).mono ?_
    rintro e w2 ⟨rfl, hb2⟩
    go_wp2_with fail
    refine (CM.out _).mono ?_
    rintro e w' ⟨rfl, rfl⟩
    go_wp2_with fail
    refine (CA.out _).mono ?_
    rintro e w' ⟨rfl, rfl⟩
    go_wp2_with fail
    refine (CC.out _).mono ?_
    rintro e w' ⟨rfl, rfl⟩
    go_wp2_with fail
    go_ret
    exact ⟨rfl, below_seq hb1 hb2⟩
end Go.Proofs.YtegpelhgkoaaoaaGreatDoor
