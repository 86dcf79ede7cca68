/- Slices of numbers and of texts that a law is given. No program in sight. -/
import Derived.Test.YtfnhdiibkogekaaGreatDoorGwA
set_option linter.unusedVariables false
set_option linter.unusedSimpArgs false
namespace Vic
open Go Go.RowKit
def IntsArg (w : World) (v : Value) (xs : List Int) : Prop := ∃ A c, v = .slice A xs.length c ∧ ∀ (i : Nat) x, xs[i]? = some x → ∃ g o, A = some ⟨g, o, none⟩ ∧ w.cell? ⟨g, o + i, none⟩ = some (.int .i64 x)
def StrsArg (w : World) (v : Value) (ys : List (List UInt8)) : Prop := ∃ A c, v = .slice A ys.length c ∧ ∀ (i : Nat) y, ys[i]? = some y → ∃ g o, A = some ⟨g, o, none⟩ ∧ w.cell? ⟨g, o + i, none⟩ = some (.string ⟨y.toArray⟩)
theorem IntsArg.keep {w w' : World} {v : Value} {xs : List Int} (h : IntsArg w v xs) (hb : Below w.heap.size w w') : IntsArg w' v xs := by
  obtain ⟨A, c, h1, h2⟩ := h
  exact ⟨A, c, h1, fun i x hx => by obtain ⟨g, o, h3, h4⟩ := h2 i x hx; exact ⟨g, o, h3, cell_keep h4 hb⟩⟩
theorem StrsArg.keep {w w' : World} {v : Value} {ys : List (List UInt8)} (h : StrsArg w v ys) (hb : Below w.heap.size w w') : StrsArg w' v ys := by
  obtain ⟨A, c, h1, h2⟩ := h
  exact ⟨A, c, h1, fun i x hx => by obtain ⟨g, o, h3, h4⟩ := h2 i x hx; exact ⟨g, o, h3, cell_keep h4 hb⟩⟩
end Vic
