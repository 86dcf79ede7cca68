/- The law NatFar: shifts beyond a hundred thousand bits are nought. -/
import Derived.Test.YtohjljbhfopffaaGreatDoorJWalkH
import Derived.Test.YtohjljbhfopffaaGreatDoorJLawGcd
set_option linter.unusedVariables false
set_option linter.unusedSimpArgs false
namespace Vic
open Go Go.RowKit
theorem far_two (K k : Nat) (h : K < 32 * k) : sz (2 ^ K) ≤ k := by
  have e : ∀ B : Nat, B = 2 ^ 32 → 2 ^ K < B ^ k := fun B hB => by
    subst hB
    rw [← Nat.pow_mul]
    exact Nat.pow_lt_pow_right (by omega) h
  exact digs_length_le (B := 4294967296) (by omega) (e 4294967296 rfl)
theorem far_num : ∃ K : Nat, (K : Int) = 99000 ∧ sz (2 ^ K) ≤ 3094 ∧ K ≤ 100000 := by
  obtain ⟨K, hK⟩ : ∃ K : Nat, K = 99000 := ⟨_, rfl⟩
  exact ⟨K, by omega, far_two K 3094 (by omega), by omega⟩
end Vic
namespace Go.Proofs.YtohjljbhfopffaaGreatDoor
open Go.RowKit Vic

set_option maxRecDepth 100000 in
set_option maxHeartbeats 8000000 in
theorem law_NatFar (w : World) (ht : Tab w) (l1 : List UInt8) (kk : Int) (hl1 : l1.length ≤ 9223372036854775807) (h1 : -9223372036854775808 ≤ kk) (h2 : kk ≤ 9223372036854775807) :
    Calls Tryz.prog 8 #[.string ⟨l1.toArray⟩, .int .i64 kk] w (Keeps (.bool true) w) := by
  have CB := Lib.hid (law_begun w ht)
  have CN1 := Lib.hid (fun wr => law_N wr l1 hl1)
  obtain ⟨k, hk⟩ : ∃ k : Nat, (k : Int) = 100001 + kk % 1000 := ⟨(100001 + kk % 1000).toNat, by omega⟩
  have hk1 : 100001 ≤ k := by omega
  have hk2 : k ≤ 101000 := by omega
  have e1 : wrap64 (100001 + ((wrap64 (kk.tmod 1000 + 1000)).tmod 1000)) = (k : Int) := by
    have h5 : -1000 < kk.tmod 1000 ∧ kk.tmod 1000 < 1000 := ⟨Int.lt_tmod_of_pos kk (by omega), Int.tmod_lt_of_pos kk (by omega)⟩
    rw [show wrap64 (kk.tmod 1000 + 1000) = kk.tmod 1000 + 1000 by unfold wrap64; omega, Int.tmod_eq_emod_of_nonneg (by omega), hk, Int.tmod_eq_emod]
    unfold wrap64
    split <;> omega
  have HT := Lib.hid ht
  clear ht hl1 hk
  go_enter Tryz.func8, Tryz.ntmps8
  go_wp2_with fail
  refine CB.out.mono ?_
  rintro e w1 ⟨rfl, hb1⟩
  go_wp2_with fail
  refine (CN1.out _).mono ?_
  rintro e w2 ⟨a, ra, n, rfl, ha, _, hn, hb2⟩
  have B2 := below_seq hb1 hb2
  have SN : Hid ((dgs n).length ≤ 13) := Lib.hid (sz_120 hn)
  have HA : Hid (∀ W, Below w2.heap.size w2 W → NatAt W a n) := Lib.hid fun W h => (ha.keep h).at_
  have TZ : Hid (∀ W v, Below w2.heap.size w2 W → NatAt W v 0 → Calls Tryz.prog 20 #[v] W (Keeps (.string ⟨#[48]⟩) W)) := Lib.hid fun W v h hv => by
    have := nat_Text W v 0 hv (by rw [show dgs 0 = [] from digs_zero _]; simp) (HT.out.keep (below_seq B2 h))
    rwa [dec_small (u := 0) (by omega)] at this
  have CP := Lib.hid (fun W v => nat_Shl_far W v (k : Int) (by omega) (by omega) (by omega))
  have CM := Lib.hid (fun W v => nat_Shl_far W v (-(k : Int)) (by omega) (by omega) (by omega))
  have DP := Lib.hid (fun W v => nat_Shr_far W v (k : Int) (by omega) (by omega) (by omega))
  have DM := Lib.hid (fun W v => nat_Shr_far W v (-(k : Int)) (by omega) (by omega) (by omega))
  obtain ⟨K, hKi, hKs, hKl⟩ := far_num
  have CU : Hid (∀ W, Below w2.heap.size w2 W → Calls Tryz.prog 31 #[a, .int .i64 99000] W (Gives (fun x w' => NatAt w' x (n * 2 ^ K)) W)) := Lib.hid fun W h => by
    have := nat_Shl_pos W a n K (HA.out W h) (by have := SN.out; omega) hKl
    rwa [hKi] at this
  have SU : Hid ((dgs (n * 2 ^ K)).length ≤ 4000) := Lib.hid (Nat.le_trans (sz_mul n (2 ^ K)) (Nat.le_trans (Nat.add_le_add SN.out hKs) (by omega)))
  have hback : n * 2 ^ K / 2 ^ K = n := Nat.mul_div_cancel _ (Nat.pow_pos (by omega))
  obtain ⟨N, hN⟩ : ∃ N, N = n * 2 ^ K := ⟨_, rfl⟩
  rw [← hN] at SU hback
  rw [← hN] at CU
  have CD : Hid (∀ W v, NatAt W v N → Calls Tryz.prog 32 #[v, .int .i64 99000] W (Gives (fun x w' => NatAt w' x n) W)) := Lib.hid fun W v h => by
    have := nat_Shr_pos W v N K h (by have := SU.out; omega) hKl
    rwa [hback, hKi] at this
  clear ha hn hb1 hb2 hN hback hKi hKs hKl
  have Z := Below.refl w2.heap.size w2
  go_wp2_with fail
  refine (CP.out _ _).mono ?_
  rintro e w3 ⟨v3, rfl, h3, z3⟩
  have C3 := Lib.hid (TZ.out _ _ z3 h3)
  clear h3
  go_wp2_with fail
  refine C3.out.mono ?_
  rintro e w4 ⟨rfl, hb4⟩
  have z4 := below_seq z3 hb4
  clear C3
  go_wp2_with fail
  refine (DP.out _ _).mono ?_
  rintro e w5 ⟨v5, rfl, h5, hb5⟩
  have z5 := below_seq z4 hb5
  have C5 := Lib.hid (TZ.out _ _ z5 h5)
  clear h5
  go_wp2_with fail
  refine C5.out.mono ?_
  rintro e w6 ⟨rfl, hb6⟩
  have z6 := below_seq z5 hb6
  clear C5
  go_wp2_with fail
  refine (CM.out _ _).mono ?_
  rintro e w7 ⟨v7, rfl, h7, hb7⟩
  have z7 := below_seq z6 hb7
  have C7 := Lib.hid (TZ.out _ _ z7 h7)
  clear h7
  go_wp2_with fail
  refine C7.out.mono ?_
  rintro e w8 ⟨rfl, hb8⟩
  have z8 := below_seq z7 hb8
  clear C7
  go_wp2_with fail
  refine (DM.out _ _).mono ?_
  rintro e w9 ⟨v9, rfl, h9, hb9⟩
  have z9 := below_seq z8 hb9
  have C9 := Lib.hid (TZ.out _ _ z9 h9)
  clear h9
  go_wp2_with fail
  refine C9.out.mono ?_
  rintro e w10 ⟨rfl, hb10⟩
  have z10 := below_seq z9 hb10
  clear C9
  go_wp2_with fail
  refine (CU.out _ z10).mono ?_
  rintro e w11 ⟨v11, rfl, h11, hb11⟩
  have z11 := below_seq z10 hb11
  have C11 := Lib.hid (CD.out _ _ h11)
  clear h11
  go_wp2_with fail
  refine C11.out.mono ?_
  rintro e w12 ⟨v12, rfl, h12, hb12⟩
  have z12 := below_seq z11 hb12
  have C12 := Lib.hid (nat_Cmp_same h12 (HA.out _ z12) (by have := SN.out; omega))
  clear h12
  go_wp2_with fail
  refine C12.out.mono ?_
  rintro e w' ⟨rfl, rfl⟩
  go_wp2_with fail
  go_ret
  exact ⟨rfl, below_seq B2 z12⟩
end Go.Proofs.YtohjljbhfopffaaGreatDoor
