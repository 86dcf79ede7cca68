/- The walk of Names: the two lists are alike, place by place. -/
import Derived.Test.YtjbgimfcmcpkiaaRows
import Derived.WalkKit
import Derived.WalkSpells
import Derived.WalkLawsBesides
import Derived.Lib.Hide
import Derived.Deep.QuietTactic
import Derived.BigQuiet
namespace Go.Proofs.Ytjbgimfcmcpkiaa.names
open Go.RowKit
set_option linter.unusedVariables false
def nums : List Int := [0, 1, 2, 3, 4, 5, 6, 7, 8, 9, 10, 2000, 20, 20, 2500, 20, 64, 60, 100, 440, 400, 2000, 300, 1, 2, 3, 1, 2, 3, 4, 1, 2, 3]
def cs : Array Value := (nums.map (Value.int .i64)).toArray
theorem cs_get (k : Nat) (h : k < 33) : cs[k]? = some (.int .i64 (nums.getD k 0)) := by
  have hl : nums.length = 33 := rfl
  simp [cs, List.getD_eq_getElem?_getD, List.getElem?_eq_getElem (show k < nums.length by omega)]
theorem cells1 (w : World) (t u : TypeId) (c : Array Value) (k : Nat) (h : k < 33) : ((w.alloc (.cells cs t)).alloc (.cells c u)).cell? ⟨w.heap.size, k, none⟩ = some (.int .i64 (nums.getD k 0)) := by
  rw [World.cell?_alloc_past _ _ _ (by simp), World.cell?_alloc_at _ _ _ _ rfl, cs_get k h]
theorem cells2 (w : World) (o : Obj) (u : TypeId) (k : Nat) (h : k < 33) : ((w.alloc o).alloc (.cells cs u)).cell? ⟨w.heap.size + 1, k, none⟩ = some (.int .i64 (nums.getD k 0)) := by
  rw [World.cell?_alloc_at _ _ _ _ (by simp), cs_get k h]
set_option maxHeartbeats 1000000 in
theorem walk (w : World) : Calls Try.prog 3 #[] w fun e w' => e = .returned (.bool true) ∧ Grown w w' := by
  go_enter Try.func3, Try.ntmps3
  go_wp2
  go_loopw [3] (fun t wr => ∃ k : Nat, k ≤ 33 ∧ t = .int .i64 k ∧ Grown w wr ∧ Hid (∀ j, j < 33 → wr.cell? ⟨w.heap.size, j, none⟩ = some (.int .i64 (nums.getD j 0))) ∧ Hid (∀ j, j < 33 → wr.cell? ⟨w.heap.size + 1, j, none⟩ = some (.int .i64 (nums.getD j 0)))) (fun t _ => 33 - (intOf t).toNat)
  case atStart => exact ⟨0, by omega, rfl, by repeat (first | exact Grown.refl _ | apply Grown.alloc), fun j hj => cells1 w _ _ _ j hj, fun j hj => cells2 w _ _ j hj⟩
  case round =>
    obtain ⟨k, hk, rfl, hg, h1, h2⟩ := hrel
    by_cases hlt : k < 33
    · have g1 := h1.out k hlt
      have g2 := h2.out k hlt
      generalize nums.getD k 0 = d at g1 g2
      go_wp2
      go_quiet (fail)
      go_wp2
      go_roundw
      case rel => exact ⟨k + 1, by omega, by go_num, hg, h1.out, h2.out⟩
      case measure => simp [intOf]; omega
    · go_wp2
      go_ret
      exact ⟨rfl, hg⟩
end Go.Proofs.Ytjbgimfcmcpkiaa.names
