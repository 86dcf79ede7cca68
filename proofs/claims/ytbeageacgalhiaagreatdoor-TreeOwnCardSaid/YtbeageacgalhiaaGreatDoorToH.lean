/- The last parts of TreeOwn's run; it returns true at every text, and all that was there is as it was. -/
import Derived.Test.YtbeageacgalhiaaGreatDoorToD
import Derived.Test.YtbeageacgalhiaaGreatDoorToE
import Derived.ProofKit
set_option linter.unusedVariables false
set_option linter.unusedSimpArgs false
set_option maxRecDepth 100000
namespace Go.Proofs.YtbeageacgalhiaaGreatDoor
open Go Am Go.RowKit
noncomputable section toF
theorem runtoF (s : ByteArray) : outV (runE (runS Tryz.prog K9 (adraw Tryz.prog K9) h9 (nt7 4) (chkX eo9 bo9 no9) 1 (dropS 8 (body7 4))) (litX (litE eo8) [(0, vto s)]) (litS bo8 no8)) [0] = some [some (vto s)] := by kernel_rfl
end toF
open Go Am Go.RowKit
noncomputable section toG
theorem runtoG (s : ByteArray) : isOut (runE (fun n t S => h9 (dropS 9 (body7 4)) (nt7 4) (chkR 2 (.b true)) (chkR 2 (.b true)) n t S) (litX (litE eo9) [(0, vto s)]) (litS bo9 no9)) = true := by kernel_rfl
end toG
open Go Am Go.RowKit
noncomputable section toH

theorem fnto_body : Tryz.f4.body = some (body7 4) := by kernel_rfl
theorem fnto_nt : Tryz.f4.ntmps = nt7 4 := by kernel_rfl
theorem fnto_res : Tryz.f4.results.toList = [.tmp 2] := by kernel_rfl
theorem fnto_len : 1 ≤ Tryz.f4.ntmps := of_decide_eq_true (by kernel_rfl)
theorem treeOwn {w : World} (s : ByteArray) (h : T7 w) : Calls Tryz.prog 4 #[.string s] w fun e w' => e = .returned (.bool true) ∧ Below w.heap.size w w' := by
  have h1 := part_okX (fuel := 200) (lx := [(0, vto s)]) known9 (runtoD s)
  have h2 := part_okX (fuel := 200) (lx := [(0, vto s)]) known9 (runtoE s)
  have h3 := part_okX (fuel := 200) (lx := [(0, vto s)]) known9 (runtoF s)
  rw [dropS_add] at h1 h2 h3
  obtain ⟨o, env', S', ho, hs, hv⟩ := last_ok (fuel := 199) known9 (runtoG s)
  have hs := ((h1.trans h2).trans h3) _ _ _ hs
  rw [← fnto_nt] at hs
  exact calls_args (args := [.string s]) (v := .b true) Tryz.func4 fnto_body fnto_res fnto_len (rfl : litX enew [(0, vto s)] = litX enew [(0, vto s)]) (fun p hp => by
    obtain rfl := List.mem_singleton.1 hp
    exact ⟨.string s, rfl, fun m => rfl⟩) hs ho hv (fun m => rfl) (r7 h) (fre7 _) gl9 hold9
end toH
end Go.Proofs.YtbeageacgalhiaaGreatDoor
