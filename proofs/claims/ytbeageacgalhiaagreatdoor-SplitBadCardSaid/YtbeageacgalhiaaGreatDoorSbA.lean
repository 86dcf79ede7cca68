/- SplitBad: what is kept ahead of its switch; the parts of its code. -/
import Derived.Test.YtbeageacgalhiaaGreatDoorAmKq
import Derived.Test.YtbeageacgalhiaaGreatDoorAmKx
import Derived.ProofKit
set_option linter.unusedVariables false
set_option linter.unusedSimpArgs false
set_option maxRecDepth 100000
namespace Go.Proofs.YtbeageacgalhiaaGreatDoor
open Go Am Go.RowKit
noncomputable section
def esb : List (Nat × AV) := [(2, .b false),
  (5, .p 576 0),
  (9, .sl 644 0 2 none 3 0),
  (12, .i .i64 (.ofNat 0))]
def bsb : List (Nat × Blk) := [(644, .cells 44 [.s 1 120, .s 3 7364963, .s 3 6647407, .s 1 121, .s 4 1684366702, .s 3 7305076] 0 false),
  (576, .cells 29 [.s 1 84, .s 4 1953722211, .sl 202 0 2 none 5 0, .sl 350 0 2 none 5 0] 0 true),
  (350, .cells 42 [.s 1 120, .s 1 48, .s 1 56, .s 1 50, .b false, .s 1 121, .s 1 48, .s 0 0, .s 1 53, .b false] 0 false),
  (202, .cells 38 [.s 3 7364963, .i .i64 (.ofNat 1), .sl 296 0 1 none 2 0, .s 2 12337, .s 0 0, .s 4 1684366702, .i .i64 (.ofNat 3), .sl 434 0 2 none 2 0, .s 1 52, .s 0 0] 0 false),
  (434, .cells 40 [.i .i64 (.ofNat 0), .s 1 49, .i .i64 (.ofNat 1), .s 1 49] 0 false),
  (296, .cells 40 [.i .i64 (.ofNat 0), .s 1 49] 0 false),
  (3, .cells 356 pow10L 20 true)]
def nsb : Nat := 647

def esbT (c : Nat) : List (Nat × AV) := (37, .i .i64 (.ofNat c)) :: esb
def vsb (v : Int) : AV := .v (.int .i64 v)
def c7sb : Code := dropS 7 (body7 3)
def psb : Code := partS 0 c7sb
def xsb : Code := dropS 1 psb
def ysb : Code := dropS 1 c7sb
def opsb : Array Oper := hdOps psb
def osb (i : Nat) : Oper := (nth opsb.toList i).getD ⟨none, .ready 0, 0, "", #[], none⟩
theorem shapesb : c7sb = .seq (.seq (.region (hdId psb) opsb false) xsb) ysb := by kernel_rfl
theorem listsb : opsb.toList = [osb 0, osb 1, osb 2, osb 3] := by kernel_rfl
def env0sb (v : Int) : Env := litX (litE esb) [(0, vsb v)]
def env1sb (v : Int) : Env := eputB (env0sb v) 34 (vsb v)
theorem runsb (v : Int) : outV (runE (runS Tryz.prog K8 (adraw Tryz.prog K8) h8 (nt7 3) (chkX esb bsb nsb) 7 (body7 3)) (litX enew [(0, vsb v)]) S7) [0] = some [some (vsb v)] := by kernel_rfl
end
end Go.Proofs.YtbeageacgalhiaaGreatDoor
