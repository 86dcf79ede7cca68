/- The law BitsNarrow: a number as so many bits, and back by shifts. -/
import Derived.Test.YtegpelhgkoaaoaaGreatDoorJWalkH
import Derived.Test.YtegpelhgkoaaoaaGreatDoorJWalkK
import Derived.Test.YtegpelhgkoaaoaaGreatDoorJWalkA
import Derived.Deep.QuietTactic
import Derived.BigQuiet
set_option linter.unusedVariables false
set_option linter.unusedSimpArgs false
namespace Go.Proofs.YtegpelhgkoaaoaaGreatDoor
open Go.RowKit Vic

set_option maxRecDepth 100000 in
set_option maxHeartbeats 4000000 in
theorem law_BitsNarrow (w : World) (ht : Tab w) (x n : Int) (h1 : -9223372036854775808 ≤ x) (h2 : x ≤ 9223372036854775807) (h3 : -9223372036854775808 ≤ n) (h4 : n ≤ 9223372036854775807) :
    Calls Tryz.prog 9 #[.int .i64 x, .int .i64 n] w (Keeps (.bool true) w) := by
  have CB := Lib.hid (law_begun w ht)
  obtain ⟨k, hk⟩ : ∃ k : Nat, (k : Int) = 1 + n % 64 := ⟨(1 + n % 64).toNat, by omega⟩
  have hk1 : 1 ≤ k := by omega
  have hk2 : k ≤ 64 := by omega
  have e1 : wrap64 (1 + ((wrap64 (n.tmod 64 + 64)).tmod 64)) = (k : Int) := by
    have h5 : -64 < n.tmod 64 ∧ n.tmod 64 < 64 := ⟨Int.lt_tmod_of_pos n (by omega), Int.tmod_lt_of_pos n (by omega)⟩
    rw [show wrap64 (n.tmod 64 + 64) = n.tmod 64 + 64 by unfold wrap64; omega, Int.tmod_eq_emod_of_nonneg (by omega), hk, Int.tmod_eq_emod]
    unfold wrap64
    split <;> omega
  obtain ⟨s, hs⟩ : ∃ s, s = 64 - k := ⟨_, rfl⟩
  have hs63 : s < 64 := by omega
  have e6 : IntKind.i64.wrap (64 - (k : Int)) = ((s : Nat) : Int) := by rw [IntKind.wrap_i64]; omega
  have hnb := narrow_bmod x k hk1 hk2
  have hin := bmod_in (x := x) hk1 hk2
  have htw := narrow_bmod (x.bmod (2 ^ k)) k hk1 hk2
  rw [bmod_twice] at htw
  have h64 : ¬ k < 64 → x.bmod (2 ^ k) = x := fun h => by
    obtain rfl : k = 64 := by omega
    exact bmod_64 h1 h2
  have CN0 := fun wr => bits_Narrow x k wr h1 h2 hk1 hk2
  unfold narrowI at CN0
  rw [hnb] at CN0
  have CM0 := fun wr => bits_Narrow (x.bmod (2 ^ k)) k wr hin.1 hin.2 hk1 hk2
  unfold narrowI at CM0
  rw [htw] at CM0
  obtain ⟨X, hX⟩ : ∃ X, X = (x % 18446744073709551616).toNat := ⟨_, rfl⟩
  have hXb : X < 18446744073709551616 := by omega
  have eX : IntKind.u64.wrap x = (X : Int) := by rw [IntKind.wrap_u64, hX]; omega
  have CL0 := fun wr => bits_Shl_pos X s wr hXb hs63
  have hup := up_signed x s
  rw [← hX] at hup
  rw [← hs] at hnb
  obtain ⟨z, hz⟩ : ∃ z, z = wrap64 (x * 2 ^ s) := ⟨_, rfl⟩
  rw [← hz] at hup hnb
  have hzb : -9223372036854775808 ≤ z ∧ z ≤ 9223372036854775807 := by rw [hz]; unfold wrap64; omega
  have CS0 := fun wr => bits_Sar_mid z s wr hzb.1 hzb.2 (by omega)
  rw [hnb] at CS0
  obtain ⟨V, hV⟩ : ∃ V, V = X * 2 ^ s % 18446744073709551616 := ⟨_, rfl⟩
  rw [← hV] at CL0 hup
  obtain ⟨m, hm⟩ : ∃ m, m = x.bmod (2 ^ k) := ⟨_, rfl⟩
  rw [← hm] at CN0 CM0 CS0 h64 hin
  rw [beq_self_eq_true] at CM0
  have CN := Lib.hid CN0; have CM := Lib.hid CM0; have CL := Lib.hid CL0; have CS := Lib.hid CS0; have H64 := Lib.hid h64
  clear CN0 CM0 CL0 CS0 h64 hnb htw hm hz hV hX hXb hs hk ht
  have hki : k < 64 ∨ ¬ k < 64 := Nat.lt_or_ge k 64 |>.imp id (by omega)
  go_enter Tryz.func9, Tryz.ntmps9
  go_wp2_with fail
  refine CB.out.mono ?_
  rintro e w1 ⟨rfl, hb1⟩
  go_wp2_with fail
  refine (CN.out _).mono ?_
  rintro e w' ⟨rfl, rfl⟩
  go_wp2_with fail
  refine (CM.out _).mono ?_
  rintro e w' ⟨rfl, rfl⟩
  go_wp2_with fail
  refine (CL.out _).mono ?_
  rintro e w' ⟨rfl, rfl⟩
  go_wp2_with fail
  refine (CS.out _).mono ?_
  rintro e w' ⟨rfl, rfl⟩
  rcases hki with hk64 | hk64
  · have hki : (k : Int) < 64 := by omega
    go_wp2_with fail
    go_ret
    exact ⟨rfl, hb1⟩
  · have hki : ¬ (k : Int) < 64 := by omega
    have e9 := H64.out hk64
    subst e9
    have hbe : (m == m) = true := beq_self_eq_true m
    go_wp2_with fail
    go_ret
    exact ⟨rfl, hb1⟩
end Go.Proofs.YtegpelhgkoaaoaaGreatDoor
