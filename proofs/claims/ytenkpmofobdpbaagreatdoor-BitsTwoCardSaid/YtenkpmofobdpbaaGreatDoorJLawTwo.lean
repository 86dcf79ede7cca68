/- The law BitsTwo: shifted up and down again; the lowest bit that is set. -/
import Derived.Test.YtenkpmofobdpbaaGreatDoorJWalkH
import Derived.Test.YtenkpmofobdpbaaGreatDoorJWalkA
import Derived.Deep.QuietTactic
import Derived.BigQuiet
set_option linter.unusedVariables false
set_option linter.unusedSimpArgs false
namespace Vic
open Go Go.RowKit
theorem up_down (x m k : Nat) (hm : m < 64) (hk : k = 64 - m) : x * 2 ^ m % 18446744073709551616 / 2 ^ m = x % 2 ^ k := by
  have e : (18446744073709551616 : Nat) = 2 ^ k * 2 ^ m := by
    rw [← Nat.pow_add, show k + m = 64 by omega]
  rw [e, Nat.mul_mod_mul_right, Nat.mul_div_cancel _ (Nat.pow_pos (by omega))]
theorem pow_mask (k : Nat) (hk : k ≤ 64) : IntKind.u64.wrap (IntKind.u64.wrap ((2 : Int) ^ k) - 1) = ((2 ^ k - 1 : Nat) : Int) := by
  have h1 : 1 ≤ 2 ^ k := Nat.pow_pos (by omega)
  have h2 : 2 ^ k ≤ 2 ^ 64 := Nat.pow_le_pow_right (by omega) hk
  have e : ((2 : Int) ^ k) = ((2 ^ k : Nat) : Int) := by simp
  rw [e]
  generalize 2 ^ k = p at *
  have h3 : p ≤ 18446744073709551616 := h2
  simp only [IntKind.wrap_u64]
  omega
theorem two_mask (x k m : Nat) (hx : x < 18446744073709551616) (hm : m < 64) (hk : k = 64 - m) : bits .and .u64 (x : Int) (IntKind.u64.wrap (IntKind.u64.wrap ((2 : Int) ^ k) - 1)) = ((x * 2 ^ m % 18446744073709551616 / 2 ^ m : Nat) : Int) := by
  have h1 : 1 ≤ 2 ^ k := Nat.pow_pos (by omega)
  have h2 : 2 ^ k ≤ 2 ^ 64 := Nat.pow_le_pow_right (by omega) (by omega)
  have h3 : 2 ^ k - 1 < 18446744073709551616 := by
    have : (2 : Nat) ^ 64 = 18446744073709551616 := by decide
    omega
  rw [pow_mask k (by omega), u64_and_nat _ _ hx h3, Nat.and_two_pow_sub_one_eq_mod, up_down x m k hm hk]
theorem tz_parts {x : Nat} (h : x ≠ 0) (hx : x < 18446744073709551616) : tz x < 64 ∧ x / 2 ^ tz x * 2 ^ tz x % 18446744073709551616 = x ∧ x / 2 ^ tz x % 2 = 1 ∧ x / 2 ^ tz x < 18446744073709551616 := by
  obtain ⟨m, h1, h2⟩ := tz_spec h
  have hp : 0 < 2 ^ tz x := Nat.pow_pos (by omega)
  have e : x / 2 ^ tz x = m := by
    have := Nat.mul_div_cancel_left m hp
    rwa [← h1] at this
  refine ⟨tz_lt h (show x < 2 ^ 64 from hx), ?_, by rw [e]; exact h2, Nat.lt_of_le_of_lt (Nat.div_le_self _ _) hx⟩
  rw [e, Nat.mul_comm, ← h1, Nat.mod_eq_of_lt hx]
theorem blen_parts {x : Nat} (h : x ≠ 0) (hx : x < 18446744073709551616) : blen x ≤ 64 ∧ 0 < blen x ∧ shrN x (blen x : Nat) = 0 ∧ x / 2 ^ (blen x - 1) = 1 := by
  have h1 := lt_two_blen x
  have h2 := two_le_blen h
  have h3 := blen_pos h
  refine ⟨blen_le (show x < 2 ^ 64 from hx), h3, ?_, ?_⟩
  · unfold shrN
    split
    · rfl
    · rw [if_neg (by omega)]
      exact Nat.div_eq_of_lt (by simpa using h1)
  · have hp : 0 < 2 ^ (blen x - 1) := Nat.pow_pos (by omega)
    have h4 : 2 ^ blen x = 2 ^ (blen x - 1) * 2 := by rw [← Nat.pow_succ]; congr 1; omega
    have h5 := Nat.div_lt_of_lt_mul (m := x) (n := 2 ^ (blen x - 1)) (k := 2) (by omega)
    have h6 := Nat.div_pos h2 hp
    omega
end Vic
namespace Go.Proofs.YtenkpmofobdpbaaGreatDoor
open Go.RowKit Vic

set_option maxRecDepth 100000 in
set_option maxHeartbeats 4000000 in
theorem law_BitsTwo (w : World) (ht : Tab w) (x : Nat) (n : Int) (hx : x < 18446744073709551616) (h1 : -9223372036854775808 ≤ n) (h2 : n ≤ 9223372036854775807) :
    Calls Tryz.prog 6 #[.int .u64 x, .int .i64 n] w (Keeps (.bool true) w) := by
  have CB := Lib.hid (law_begun w ht)
  have HX := Lib.hid hx
  obtain ⟨m, hm⟩ : ∃ m : Nat, (m : Int) = n % 64 := ⟨(n % 64).toNat, by omega⟩
  have hm64 : m < 64 := by omega
  have e1 : ((wrap64 (n.tmod 64 + 64)).tmod 64) = (m : Int) := by
    have h5 : -64 < n.tmod 64 ∧ n.tmod 64 < 64 := ⟨Int.lt_tmod_of_pos n (by omega), Int.tmod_lt_of_pos n (by omega)⟩
    rw [show wrap64 (n.tmod 64 + 64) = n.tmod 64 + 64 by unfold wrap64; omega, Int.tmod_eq_emod_of_nonneg (by omega), hm, Int.tmod_eq_emod]
    split <;> omega
  have CL := Lib.hid (fun wr => bits_Shl_pos x m wr hx hm64)
  obtain ⟨a, ha⟩ : ∃ a, a = x * 2 ^ m % 18446744073709551616 := ⟨_, rfl⟩
  have ha2 : a < 18446744073709551616 := by rw [ha]; exact Nat.mod_lt _ (by omega)
  rw [← ha] at CL
  have CR := Lib.hid (fun wr => bits_Shr_pos a m wr ha2 hm64)
  obtain ⟨q, hq⟩ : ∃ q, q = a / 2 ^ m := ⟨_, rfl⟩
  rw [← hq] at CR
  obtain ⟨k, hk⟩ : ∃ k, k = 64 - m := ⟨_, rfl⟩
  have e6 : IntKind.i64.wrap (64 - (m : Int)) = ((k : Nat) : Int) := by rw [IntKind.wrap_i64]; omega
  have HK := Lib.hid hk
  have hk64 : k ≤ 64 := by omega
  clear hk
  have e7 := two_mask x k m hx hm64 HK.out
  rw [← ha, ← hq] at e7
  have E7 := Lib.hid e7
  have H01 : x ≠ 0 → tz x < 64 ∧ x / 2 ^ tz x * 2 ^ tz x % 18446744073709551616 = x ∧ x / 2 ^ tz x % 2 = 1 ∧ x / 2 ^ tz x < 18446744073709551616 := fun h => tz_parts h hx
  have H02 : x ≠ 0 → blen x ≤ 64 ∧ 0 < blen x ∧ shrN x (blen x : Nat) = 0 ∧ x / 2 ^ (blen x - 1) = 1 := fun h => blen_parts h hx
  have H1 := Lib.hid H01; have H2 := Lib.hid H02
  clear e7 H01 H02
  clear hx ht ha hq ha2 hm
  go_enter Tryz.func6, Tryz.ntmps6
  go_wp2_with fail
  refine CB.out.mono ?_
  rintro e w1 ⟨rfl, hb1⟩
  go_wp2_with fail
  have e7 := E7.out
  go_quiet (first
    | (go_at_call 33; exact Calls.quiet_of_same ((CL.out _).mono fun _ _ h => ⟨h.1, h.2.symm⟩))
    | (go_at_call 32; exact Calls.quiet_of_same ((CR.out _).mono fun _ _ h => ⟨h.1, h.2.symm⟩)))
  clear e7 E7 CL CR CB
  have hbq : Below w.heap.size w (w1.drewN nq) := Vic.Below.drewN_ hb1 nq
  have CZ : Hid (∀ wr, Calls Tryz.prog 34 #[.int .u64 x] wr (Rets (.int .i64 (zeros64 x : Nat)) wr)) := fun wr => bits_Zeros x wr HX.out
  have CN : Hid (∀ wr, Calls Tryz.prog 35 #[.int .u64 x] wr (Rets (.int .i64 (blen x : Nat)) wr)) := fun wr => bits_Len x wr HX.out
  by_cases h0 : x = 0
  · have hz : zeros64 x = 64 := by rw [h0]; rfl
    have hl : blen x = 0 := by rw [h0]; rfl
    rw [hz] at CZ
    rw [hl] at CN
    subst h0
    clear hz hl H1 H2
    go_wp2_with fail
    refine (CZ.out _).mono ?_
    rintro e w' ⟨rfl, rfl⟩
    go_wp2_with fail
    refine (CN.out _).mono ?_
    rintro e w' ⟨rfl, rfl⟩
    go_wp2_with fail
    go_ret
    exact ⟨rfl, hbq⟩
  · obtain ⟨z1, z2, z3, z4⟩ := H1.out h0
    obtain ⟨l1, l2, l3, l4⟩ := H2.out h0
    have hz : zeros64 x = tz x := by unfold zeros64; rw [if_neg h0]
    rw [hz] at CZ
    have CA := Lib.hid (fun wr => bits_Shr_pos x (tz x) wr HX.out z1)
    have CB := Lib.hid (fun wr => bits_Shl_pos (x / 2 ^ tz x) (tz x) wr z4 z1)
    have CD := Lib.hid (fun wr => bits_Shr x (blen x : Nat) wr HX.out (by omega) (by omega))
    have CE := Lib.hid (fun wr => bits_Shr_pos x (blen x - 1) wr HX.out (by omega))
    rw [z2] at CB
    rw [l3] at CD
    rw [l4] at CE
    have hand : bits .and .u64 ((x / 2 ^ tz x : Nat) : Int) 1 = 1 := by
      have := u64_and_nat (x / 2 ^ tz x) 1 z4 (by omega)
      rw [show ((1 : Nat) : Int) = 1 from rfl] at this
      rw [this, show (1 : Nat) = 2 ^ 1 - 1 from rfl, Nat.and_two_pow_sub_one_eq_mod, show (2 : Nat) ^ 1 = 2 from rfl, z3]
      rfl
    obtain ⟨y, hy⟩ : ∃ y, y = x / 2 ^ tz x := ⟨_, rfl⟩
    rw [← hy] at CA CB hand
    obtain ⟨z, hz⟩ : ∃ z, z = tz x := ⟨_, rfl⟩
    rw [← hz] at CZ CA CB
    obtain ⟨l, hl⟩ : ∃ l, l = blen x := ⟨_, rfl⟩
    rw [← hl] at CN CD CE l1 l2
    obtain ⟨l', hl'⟩ : ∃ l', l' = l - 1 := ⟨_, rfl⟩
    rw [← hl'] at CE
    have hx0 : ((x : Int) == 0) = false := by simp; omega
    have HAND := Lib.hid hand
    have el : IntKind.i64.wrap ((l : Int) - 1) = ((l' : Nat) : Int) := by rw [IntKind.wrap_i64]; omega
    clear hy hz hl z1 z2 z3 z4 l1 l2 l3 l4 hand
    have hl'' := hl'.symm
    clear hl' hl'' H1 H2
    go_wp2_with fail
    refine (CZ.out _).mono ?_
    rintro e w' ⟨rfl, rfl⟩
    go_wp2_with fail
    refine (CN.out _).mono ?_
    rintro e w' ⟨rfl, rfl⟩
    go_wp2_with fail
    refine (CA.out _).mono ?_
    rintro e w' ⟨rfl, rfl⟩
    go_wp2_with fail
    refine (CB.out _).mono ?_
    rintro e w' ⟨rfl, rfl⟩
    go_wp2_with fail
    refine (CA.out _).mono ?_
    rintro e w' ⟨rfl, rfl⟩
    have hand := HAND.out
    go_wp2_with fail
    refine (CD.out _).mono ?_
    rintro e w' ⟨rfl, rfl⟩
    go_wp2_with fail
    refine (CE.out _).mono ?_
    rintro e w' ⟨rfl, rfl⟩
    go_wp2_with fail
    go_ret
    exact ⟨rfl, hbq⟩
end Go.Proofs.YtenkpmofobdpbaaGreatDoor
