/- Package lit: no text is no literal. -/
import Derived.Test.YtohjljbhfopffaaGreatDoorJWalkE
set_option linter.unusedVariables false
set_option linter.unusedSimpArgs false
namespace Go.Proofs.YtohjljbhfopffaaGreatDoor
open Go.RowKit Vic

set_option maxRecDepth 100000 in
set_option maxHeartbeats 2000000 in
theorem lit_Get_empty (w : World) (ht : Tab w) : Calls Tryz.prog 27 #[.string ⟨#[]⟩] w (GivesNo w) := by
  have hno : ¬ FracGood [] := fun h => absurd h.1 (by decide)
  have C1 : Hid (Calls Tryz.prog 13 #[.string ⟨#[]⟩] w (GivesNo w)) := by
    refine (frac_Get w [] (by simp) ht).mono ?_
    rintro e w' (⟨_, h⟩ | ⟨h, _⟩)
    · exact h
    · exact absurd h hno
  have C2 : Hid (∀ wr, Calls Tryz.prog 77 #[.string ⟨#[]⟩, .string ⟨#[45]⟩] wr (Rets (.bool false) wr)) := fun wr => strings_HasPrefix wr [] [45]
  have C3 : Hid (∀ wr, Calls Tryz.prog 78 #[.string ⟨#[]⟩, .string ⟨#[45]⟩] wr (Rets (.string ⟨#[]⟩) wr)) := fun wr => strings_TrimPrefix wr [] [45]
  have C33 : Hid (∀ wr, Calls Tryz.prog 78 #[.string ⟨#[]⟩, .string ⟨#[43]⟩] wr (Rets (.string ⟨#[]⟩) wr)) := fun wr => strings_TrimPrefix wr [] [43]
  have C4 : Hid (∀ wr, Calls Tryz.prog 79 #[.string ⟨#[]⟩, .string ⟨#[101, 69]⟩] wr (Keeps (.int .i64 (-1)) wr)) := fun wr =>
    Go.Proofs.Tryz.strings_IndexAny_laid ⟨#[]⟩ ⟨#[101, 69]⟩ wr (by decide) (by decide) (ascii_of_all (by decide)) (ascii_of_all (by decide))
  have C5 : Hid (∀ wr, Tab wr → Calls Tryz.prog 57 #[.string ⟨#[]⟩, .string ⟨#[46]⟩] wr (Keeps (.tuple #[.string ⟨#[]⟩, .string ⟨#[]⟩, .bool false]) wr)) := fun wr h => strings_Cut wr h [] [46] (by simp)
  have HT := Lib.hid ht
  have ea : (⟨#[]⟩ ++ ⟨#[]⟩ : ByteArray) = ⟨#[]⟩ := rfl
  clear hno ht
  go_enter Tryz.func27, Tryz.ntmps27
  go_wp2_with fail
  refine C1.out.mono ?_
  rintro e w1 ⟨rfl, hb1⟩
  go_wp2_with fail
  refine (C2.out _).mono ?_
  rintro e w' ⟨rfl, rfl⟩
  go_wp2_with fail
  refine (C3.out _).mono ?_
  rintro e w' ⟨rfl, rfl⟩
  go_wp2_with fail
  refine (C33.out _).mono ?_
  rintro e w' ⟨rfl, rfl⟩
  go_wp2_with fail
  refine (C4.out _).mono ?_
  rintro e w2 ⟨rfl, hb2⟩
  have hb12 := below_seq hb1 hb2
  go_wp2_with fail
  refine (C5.out _ (HT.out.keep hb12)).mono ?_
  rintro e w4 ⟨rfl, hb4⟩
  go_wp2_with fail
  go_ret2
  exact ⟨rfl, below_seq hb12 hb4⟩
end Go.Proofs.YtohjljbhfopffaaGreatDoor
