/- A part of begun7's run. -/
import Derived.Test.YtbdfhnelmojbpaaGreatDoorWaj
import Derived.ProofKit
set_option linter.unusedVariables false
set_option linter.unusedSimpArgs false
set_option maxRecDepth 100000
namespace Go.Proofs.YtbdfhnelmojbpaaGreatDoor
open Go Am
noncomputable section
theorem run7e:isOut (runE (fun n t S=>h7 (dropS 12 (body7 6)) (nt7 6) (chkR 0 (.b true)) (chkR 0 (.b true)) n t S) (litE e12) (litS b12 n12))=true:=by kernel_rfl
end
end Go.Proofs.YtbdfhnelmojbpaaGreatDoor
