/- A part of TreeOwn's run. -/
import Derived.Test.YtbeageacgalhiaaGreatDoorToC
import Derived.ProofKit
set_option linter.unusedVariables false
set_option linter.unusedSimpArgs false
set_option maxRecDepth 100000
namespace Go.Proofs.YtbeageacgalhiaaGreatDoor
open Go Am Go.RowKit
noncomputable section
theorem runtoD (s : ByteArray) : outV (runE (runS Tryz.prog K9 (adraw Tryz.prog K9) h9 (nt7 4) (chkX eo7 bo7 no7) 7 (dropS 0 (body7 4))) (litX enew [(0, vto s)]) (S7)) [0] = some [some (vto s)] := by kernel_rfl
end
end Go.Proofs.YtbeageacgalhiaaGreatDoor
