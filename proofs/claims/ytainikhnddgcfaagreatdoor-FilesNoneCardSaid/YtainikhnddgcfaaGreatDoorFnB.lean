/- FilesNone: what is asked of all that, behind begun7. -/
import Derived.Test.YtainikhnddgcfaaGreatDoorFnA
import Derived.Test.YtainikhnddgcfaaGreatDoorAmKp
set_option linter.unusedVariables false
set_option maxRecDepth 100000
namespace Go.Proofs.YtainikhnddgcfaaGreatDoor
open Go Am
noncomputable section
def lastFn : Code := dropS 9 (body7 3)
def opsFn : Array Oper := hdOps lastFn
def restFn : List Oper := opsFn.toList.drop 1
def dFn : Nat := (opsFn.toList.head?.bind (·.dst)).getD 0
theorem runfn2 : isOut (runE (fun n t S => unB (cops Tryz.prog K7 (nt7 3) opsFn.toList restFn) fun q => q h7 (chkR 0 (.b true)) n t S) (eput (litE ef9) dFn (.b true)) (litS bf9 nf9)) = true := by kernel_rfl
end
end Go.Proofs.YtainikhnddgcfaaGreatDoor
