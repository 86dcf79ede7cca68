/- SplitBad: behind its switch, case by case. -/
import Derived.Test.YtbeageacgalhiaaGreatDoorSbA
import Derived.ProofKit
set_option linter.unusedVariables false
set_option linter.unusedSimpArgs false
set_option maxRecDepth 100000
namespace Go.Proofs.YtbeageacgalhiaaGreatDoor
open Go Am Go.RowKit
noncomputable section
theorem casesb0 : isOut (runE (two Tryz.prog K8 200 (nt7 3) xsb ysb (chkR 2 (.b true))) (litE (esbT 0)) (litS bsb nsb)) = true := by kernel_rfl
theorem casesb1 : isOut (runE (two Tryz.prog K8 200 (nt7 3) xsb ysb (chkR 2 (.b true))) (litE (esbT 1)) (litS bsb nsb)) = true := by kernel_rfl
theorem casesb2 : isOut (runE (two Tryz.prog K8 200 (nt7 3) xsb ysb (chkR 2 (.b true))) (litE (esbT 2)) (litS bsb nsb)) = true := by kernel_rfl
theorem casesb3 : isOut (runE (two Tryz.prog K8 200 (nt7 3) xsb ysb (chkR 2 (.b true))) (litE (esbT 3)) (litS bsb nsb)) = true := by kernel_rfl
theorem casesb4 : isOut (runE (two Tryz.prog K8 200 (nt7 3) xsb ysb (chkR 2 (.b true))) (litE (esbT 4)) (litS bsb nsb)) = true := by kernel_rfl
theorem casesb5 : isOut (runE (two Tryz.prog K8 200 (nt7 3) xsb ysb (chkR 2 (.b true))) (litE (esbT 5)) (litS bsb nsb)) = true := by kernel_rfl
end
end Go.Proofs.YtbeageacgalhiaaGreatDoor
