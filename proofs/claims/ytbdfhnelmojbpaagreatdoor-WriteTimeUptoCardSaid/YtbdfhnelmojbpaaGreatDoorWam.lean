/- A part of begun7's run. -/
import Derived.Test.YtbdfhnelmojbpaaGreatDoorWaj
import Derived.ProofKit
set_option linter.unusedVariables false
set_option linter.unusedSimpArgs false
set_option maxRecDepth 100000
namespace Go.Proofs.YtbdfhnelmojbpaaGreatDoor
open Go Am
noncomputable section
theorem run7d:isOut (runE (runS Tryz.prog K7 (adraw Tryz.prog K7) h7 (nt7 6) (chk e12 b12 n12) 5 (dropS 7 (body7 6))) (litE e7) (litS b7 n7))=true:=by kernel_rfl
end
end Go.Proofs.YtbdfhnelmojbpaaGreatDoor
