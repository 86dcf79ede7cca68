/- A part of begun7's run. -/
import Derived.Test.YtbdfhnelmojbpaaGreatDoorWaj
import Derived.ProofKit
set_option linter.unusedVariables false
set_option linter.unusedSimpArgs false
set_option maxRecDepth 100000
namespace Go.Proofs.YtbdfhnelmojbpaaGreatDoor
open Go Am
noncomputable section
theorem run7c:isOut (runE (runS Tryz.prog K7 (adraw Tryz.prog K7) h7 (nt7 6) (chk e7 b7 n7) 2 (dropS 5 (body7 6))) (litE e5) (litS b5 n5))=true:=by kernel_rfl
end
end Go.Proofs.YtbdfhnelmojbpaaGreatDoor
