/- Package lit: a fraction's text is a literal; a long one is none. Two fractions that are one. -/
import Derived.Test.YthephiihcgibjaaGreatDoorJWalkE
set_option linter.unusedVariables false
set_option linter.unusedSimpArgs false
namespace Go.Proofs.YthephiihcgibjaaGreatDoor
open Go.RowKit Vic

set_option maxRecDepth 100000 in
set_option maxHeartbeats 4000000 in
theorem frac_Cmp_same (w : World) (u v : Value) (x : Rat) (hu : FracAt w u x) (hv : FracAt w v x) (hf : Fits 1000000000 x) : Calls Tryz.prog 30 #[u, v] w (Keeps (.int .i64 0) w) := by
  have hS := frac_Sub w u v x x hu hv hf hf
  rw [show x - x = 0 by rw [Rat.sub_eq_add_neg, Rat.add_neg_cancel]] at hS
  have HS := Lib.hid hS
  have CG : Hid (∀ wr z, FracPtr wr z 0 → Calls Tryz.prog 78 #[z] wr (Keeps (.int .i64 0) wr)) := Lib.hid fun wr z hz => by
    have h := frac_Sign wr z 0 hz.at_ ((fits_of (n := 0) (by omega) (by omega)).mono (by omega))
    rwa [show signI 0 = 0 by decide] at h
  clear hu hv hf hS
  go_enter Tryz.func30, Tryz.ntmps30
  go_wp2_with fail
  refine HS.out.mono ?_
  rintro e w1 ⟨z, rfl, hz, hb1⟩
  have C2 := Lib.hid (CG.out _ _ hz)
  clear hz HS CG
  go_wp2_with fail
  refine C2.out.mono ?_
  rintro e w2 ⟨rfl, hb2⟩
  go_wp2_with fail
  go_ret
  exact ⟨rfl, below_seq hb1 hb2⟩
set_option maxRecDepth 100000 in
set_option maxHeartbeats 4000000 in
theorem lit_Get_long (w : World) (l : List UInt8) (hl : 40 < l.length) (hl2 : l.length ≤ 1000000000) : Calls Tryz.prog 16 #[.string ⟨l.toArray⟩] w (GivesNo w) := by
  have h1 : (40 : Int) < (l.length : Int) := by omega
  go_enter Tryz.func16, Tryz.ntmps16
  go_wp2_with fail
  go_ret2
  exact ⟨rfl, Below.refl _ _⟩
set_option maxRecDepth 100000 in
set_option maxHeartbeats 4000000 in
theorem lit_Get_frac (w : World) (ht : Tab w) (l : List UInt8) (hl : l.length ≤ 40) (hg : FracGood l) : Calls Tryz.prog 16 #[.string ⟨l.toArray⟩] w (GivesOk (fun x w' => FracPtr w' x (fracOf l)) w) := by
  have CF : Hid (Calls Tryz.prog 51 #[.string ⟨l.toArray⟩] w (fun e w' => ∃ z, e = .returned (.tuple #[z, .bool true]) ∧ FracPtr w' z (fracOf l) ∧ Below w.heap.size w w')) := by
    refine (frac_Get w l (by omega) ht).mono ?_
    rintro e w' (⟨h, _⟩ | ⟨_, z, rfl, hz, _, hb⟩)
    · exact absurd hg h
    · exact ⟨z, rfl, hz, hb⟩
  clear ht hg
  go_enter Tryz.func16, Tryz.ntmps16
  go_wp2_with fail
  refine CF.out.mono ?_
  rintro e w1 ⟨z, rfl, hz, hb1⟩
  obtain ⟨z0, rfl⟩ : ∃ z0, z = .pointer z0 := by
    obtain ⟨bz, _, _, h, _⟩ := hz
    exact ⟨_, h⟩
  have HZ := Lib.hid hz
  clear hz CF
  go_wp2_with fail
  go_ret2
  exact ⟨_, rfl, HZ.out, hb1⟩
end Go.Proofs.YthephiihcgibjaaGreatDoor
