/- SplitBad returns true at every number, and all that was there is as it was. -/
import Derived.Test.YtbeageacgalhiaaGreatDoorSbB
import Derived.Test.YtbeageacgalhiaaGreatDoorSbC
import Derived.ProofKit
set_option linter.unusedVariables false
set_option linter.unusedSimpArgs false
set_option maxRecDepth 100000
namespace Go.Proofs.YtbeageacgalhiaaGreatDoor
open Go Am Go.RowKit
noncomputable section

theorem fnsb_body : Tryz.f3.body = some (body7 3) := by kernel_rfl
theorem fnsb_nt : Tryz.f3.ntmps = nt7 3 := by kernel_rfl
theorem fnsb_res : Tryz.f3.results.toList = [.tmp 2] := by kernel_rfl
theorem fnsb_len : 1 ≤ Tryz.f3.ntmps := of_decide_eq_true (by kernel_rfl)
theorem allsb {c : Nat} (h : c < 6) : isOut (runE (two Tryz.prog K8 200 (nt7 3) xsb ysb (chkR 2 (.b true))) (litE (esbT c)) (litS bsb nsb)) = true := by
  have : c = 0 ∨ c = 1 ∨ c = 2 ∨ c = 3 ∨ c = 4 ∨ c = 5 := by omega
  rcases this with rfl | rfl | rfl | rfl | rfl | rfl
  · exact casesb0
  · exact casesb1
  · exact casesb2
  · exact casesb3
  · exact casesb4
  · exact casesb5
theorem splitBad {w : World} (v : Int) (h : T7 w) : Calls Tryz.prog 3 #[.int .i64 v] w fun e w' => e = .returned (.bool true) ∧ Below w.heap.size w w' := by
  have hreach := part_okX (fuel := 200) (lx := [(0, vsb v)]) known8 (runsb v)
  obtain ⟨c, hc, hreg⟩ := tagsb v
  obtain ⟨o, env', S', ho, hs, hv⟩ := two_ok (id := hdId psb) known8 hreg (allsb hc)
  have hs : SoundAt Tryz.prog K8 c7sb (nt7 3) (env0sb v) (litS bsb nsb) o env' S' := by rw [shapesb]; exact hs
  have hs := hreach _ _ _ hs
  rw [← fnsb_nt] at hs
  exact calls_args (args := [.int .i64 v]) (v := .b true) Tryz.func3 fnsb_body fnsb_res fnsb_len (rfl : litX enew [(0, vsb v)] = litX enew [(0, vsb v)]) (fun p hp => by
    obtain rfl := List.mem_singleton.1 hp
    exact ⟨.int .i64 v, rfl, fun m => rfl⟩) hs ho hv (fun m => rfl) (r7 h) (fre7 _) gl8 hold8
end
end Go.Proofs.YtbeageacgalhiaaGreatDoor
