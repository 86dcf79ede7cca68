/- FilesNone: its first nine parts are reckoned; what is kept behind them. -/
import Derived.Test.YtainikhnddgcfaaGreatDoorAmKn
import Derived.ProofKit
set_option linter.unusedVariables false
set_option maxRecDepth 100000
namespace Go.Proofs.YtainikhnddgcfaaGreatDoor
open Go Am
noncomputable section
def ef9 : List (Nat × AV) := [(0, .b false),
  (1, .nsl),
  (3, .i .i64 (.ofNat 0)),
  (5, .i .i64 (.ofNat 0)),
  (6, .i .i64 (.ofNat 5)),
  (9, .i .i64 (.ofNat 0)),
  (10, .i .i64 (.ofNat 5)),
  (13, .i .i64 (.ofNat 0)),
  (14, .i .i64 (.ofNat 5)),
  (16, .i .i64 (.ofNat 4)),
  (19, .i .i64 (.ofNat 4)),
  (20, .s 0 0),
  (21, .b false),
  (22, .i .i64 (.ofNat 1)),
  (23, .b true)]
def bf9 : List (Nat × Blk) := [(1, .cells 346 pow10L 20 true)]
def nf9 : Nat := 67
theorem runfn : isOut (runE (runS Tryz.prog K7 (adraw Tryz.prog K7) h7 (nt7 3) (chk ef9 bf9 nf9) 9 (body7 3)) enew S7) = true := by kernel_rfl
end
end Go.Proofs.YtainikhnddgcfaaGreatDoor
