/- The law BitsShift: shifts of any width, either way, with and without a sign. -/
import Derived.Test.YtegpelhgkoaaoaaGreatDoorJWalkH
import Derived.Test.YtegpelhgkoaaoaaGreatDoorJWalkK
import Derived.Test.YtegpelhgkoaaoaaGreatDoorJWalkA
import Derived.Deep.QuietTactic
import Derived.BigQuiet
set_option linter.unusedVariables false
set_option linter.unusedSimpArgs false
namespace Go.Proofs.YtegpelhgkoaaoaaGreatDoor
open Go.RowKit Vic
theorem sarI_neg {x : Nat} {n : Int} (hx : x < 18446744073709551616) (h : n < 0) : IntKind.u64.wrap (sarI (wrap64 (x : Int)) n) = ((shrN x n : Nat) : Int) := by
  unfold sarI shrN
  by_cases hf : n ≤ -64
  · rw [if_pos hf, if_pos (by omega)]; rfl
  · rw [if_neg hf, if_pos h, if_neg (by omega), if_pos h]
    exact sar_up hx
theorem sarI_pos {n : Int} (s : Int) (h : 0 ≤ n) : sarI s n = sarJ s n := by
  unfold sarI sarJ
  rw [if_neg (by omega), if_neg (by omega)]

set_option maxRecDepth 100000 in
set_option maxHeartbeats 8000000 in
theorem law_BitsShift (w : World) (ht : Tab w) (x : Nat) (n : Int) (hx : x < 18446744073709551616) (h1 : -9223372036854775808 ≤ n) (h2 : n ≤ 9223372036854775807) :
    Calls Tryz.prog 6 #[.int .u64 x, .int .i64 n] w (Keeps (.bool true) w) := by
  have CB := Lib.hid (law_begun w ht)
  obtain ⟨s, hs⟩ : ∃ s, s = wrap64 (x : Int) := ⟨_, rfl⟩
  have hs1 : -9223372036854775808 ≤ s ∧ s ≤ 9223372036854775807 := by rw [hs]; unfold wrap64; omega
  obtain ⟨fl, hfl⟩ : ∃ fl, fl = decide (s < 0) := ⟨_, rfl⟩
  have CM1 := fun wr => ref_Move wr x n false hx h1 h2
  rw [moved_shl hx (show clampI n = n ∨ 64 ≤ clampI n ∧ 64 ≤ n ∨ clampI n ≤ -64 ∧ n ≤ -64 by unfold clampI; omega)] at CM1
  have CL0 := fun wr => bits_Shl x n wr hx h1 h2
  have CR0 := fun wr => bits_Shr x n wr hx h1 h2
  have CS0 := fun wr => bits_Sar s n wr hs1.1 hs1.2 h1 h2
  have CN := Lib.hid (fun wr => bits_Len x wr hx); have CNR := Lib.hid (fun wr => ref_Len wr x hx)
  have CZ := Lib.hid (fun wr => bits_Zeros x wr hx); have CZR := Lib.hid (fun wr => ref_Zeros wr x hx)
  unfold zeros64 at CZ
  obtain ⟨L, hL⟩ : ∃ L, L = shlN x n := ⟨_, rfl⟩
  obtain ⟨R, hR⟩ : ∃ R, R = shrN x n := ⟨_, rfl⟩
  obtain ⟨bl, hbl⟩ : ∃ bl, bl = blen x := ⟨_, rfl⟩
  obtain ⟨zl, hzl⟩ : ∃ zl, zl = if x = 0 then 64 else tz x := ⟨_, rfl⟩
  rw [← hbl] at CN CNR; rw [← hzl] at CZ CZR
  rw [← hL] at CM1 CL0; rw [← hR] at CR0
  obtain ⟨z, hz⟩ : ∃ z, z = sarI s n := ⟨_, rfl⟩
  rw [← hz] at CS0
  have CM1 := Lib.hid CM1; have CL := Lib.hid CL0; have CR := Lib.hid CR0; have CS := Lib.hid CS0
  clear CL0 CR0 CS0 hbl hzl
  rename_i CM10
  clear CM10
  have CM2 : Hid (∀ wr f, Calls Tryz.prog 31 #[.int .u64 x, .int .i64 (-max n (-100)), .bool f] wr (Keeps (.int .u64 (bv (moved x (clampI (-max n (-100))) f) : Nat)) wr)) := Lib.hid fun wr f => ref_Move wr x (-max n (-100)) f hx (by omega) (by omega)
  have e2 : bv (moved x (clampI (-max n (-100))) false) = R := by
    rw [hR, ← shl_neg hx]
    exact moved_shl (n := -n) hx (by unfold clampI; omega)
  obtain ⟨S, hS⟩ : ∃ S, S = bv (moved x (clampI (-max n (-100))) fl) := ⟨_, rfl⟩
  have CM3 : Hid (∀ wr, Calls Tryz.prog 31 #[.int .u64 x, .int .i64 (-max n (-100)), .bool fl] wr (Keeps (.int .u64 (S : Nat)) wr)) := Lib.hid fun wr => by rw [hS]; exact CM2.out wr fl
  rcases Int.lt_or_le n 0 with hn | hn
  case' inl =>
    have eS : IntKind.u64.wrap z = (R : Int) := by rw [hz, hR, hs]; exact sarI_neg hx (by omega)
  case' inr =>
    have eS : IntKind.u64.wrap z = (S : Int) := by
      rw [hz, sarI_pos s hn, sar_word hx hn (show clampI (-max n (-100)) = -n ∨ clampI (-max n (-100)) ≤ -64 ∧ 64 ≤ n by unfold clampI; omega) s hs, hS, hfl]
    have hn0 : ¬ n < 0 := by omega
  all_goals
    have CM4 := Lib.hid (fun wr => CM2.out wr false)
    rw [e2] at CM4
    rw [hs] at CS hfl
    have hfl' := hfl.symm
    clear e2 hL hR hz hfl hs hs1 hx ht
    clear hS
  · go_enter Tryz.func6, Tryz.ntmps6
    go_wp2_with fail
    refine CB.out.mono ?_
    rintro e w1 ⟨rfl, hb1⟩
    go_wp2_with fail
    refine (CM1.out _).mono ?_
    rintro e w2 ⟨rfl, hb2⟩
    go_wp2_with fail
    refine (CM3.out _).mono ?_
    rintro e w3 ⟨rfl, hb3⟩
    go_wp2_with fail
    refine (CL.out _).mono ?_
    rintro e w' ⟨rfl, rfl⟩
    go_wp2_with fail
    refine (CR.out _).mono ?_
    rintro e w' ⟨rfl, rfl⟩
    go_wp2_with fail
    refine (CM4.out _).mono ?_
    rintro e w5 ⟨rfl, hb5⟩
    go_wp2_with fail
    refine (CS.out _).mono ?_
    rintro e w' ⟨rfl, rfl⟩
    go_wp2_with fail
    refine (CN.out _).mono ?_
    rintro e w' ⟨rfl, rfl⟩
    go_wp2_with fail
    refine (CNR.out _).mono ?_
    rintro e w6 ⟨rfl, hb6⟩
    go_wp2_with fail
    refine (CZ.out _).mono ?_
    rintro e w' ⟨rfl, rfl⟩
    go_wp2_with fail
    refine (CZR.out _).mono ?_
    rintro e w7 ⟨rfl, hb7⟩
    go_wp2_with fail
    go_ret
    exact ⟨rfl, below_seq hb1 (below_seq hb2 (below_seq hb3 (below_seq hb5 (below_seq hb6 hb7))))⟩
  · go_enter Tryz.func6, Tryz.ntmps6
    go_wp2_with fail
    refine CB.out.mono ?_
    rintro e w1 ⟨rfl, hb1⟩
    go_wp2_with fail
    refine (CM1.out _).mono ?_
    rintro e w2 ⟨rfl, hb2⟩
    go_wp2_with fail
    refine (CM3.out _).mono ?_
    rintro e w3 ⟨rfl, hb3⟩
    go_wp2_with fail
    refine (CM4.out _).mono ?_
    rintro e w4 ⟨rfl, hb4⟩
    go_wp2_with fail
    refine (CL.out _).mono ?_
    rintro e w' ⟨rfl, rfl⟩
    go_wp2_with fail
    refine (CR.out _).mono ?_
    rintro e w' ⟨rfl, rfl⟩
    go_wp2_with fail
    refine (CM4.out _).mono ?_
    rintro e w5 ⟨rfl, hb5⟩
    go_wp2_with fail
    refine (CS.out _).mono ?_
    rintro e w' ⟨rfl, rfl⟩
    go_wp2_with fail
    refine (CN.out _).mono ?_
    rintro e w' ⟨rfl, rfl⟩
    go_wp2_with fail
    refine (CNR.out _).mono ?_
    rintro e w6 ⟨rfl, hb6⟩
    go_wp2_with fail
    refine (CZ.out _).mono ?_
    rintro e w' ⟨rfl, rfl⟩
    go_wp2_with fail
    refine (CZR.out _).mono ?_
    rintro e w7 ⟨rfl, hb7⟩
    go_wp2_with fail
    go_ret
    exact ⟨rfl, below_seq hb1 (below_seq hb2 (below_seq hb3 (below_seq hb4 (below_seq hb5 (below_seq hb6 hb7)))))⟩
end Go.Proofs.YtegpelhgkoaaoaaGreatDoor
