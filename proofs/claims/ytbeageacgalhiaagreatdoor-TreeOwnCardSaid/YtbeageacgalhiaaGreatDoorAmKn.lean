/- What the machine for closed runs knows of this program: its functions, three that are none of Go's text, its table of powers of ten. -/
import Derived.Test.YtbeageacgalhiaaGreatDoorAmCk
import Derived.Test.YtbeageacgalhiaaGreatDoorProg
import Derived.Laws.Externs
set_option linter.unusedVariables false
set_option linter.unusedSimpArgs false
namespace Go.Proofs.YtbeageacgalhiaaGreatDoor
open Go Am
noncomputable section

def hasBody (f : FuncId) : Bool := match fnc Tryz.prog f with
  | some fn => fn.body.isSome
  | none => false
def extK (f : FuncId) : Nat := bif Nat.beq f 260 then 1 else bif Nat.beq f 226 then 2 else bif Nat.beq f 262 then 3 else 0
def K7 : Known := { g := 16, enter := hasBody, ext := extK, mz := 128, con := fun _ _ _ => none }
def pow10L : List AV := [1,10,100,1000,10000,100000,1000000,10000000,100000000,1000000000,10000000000,100000000000,1000000000000,10000000000000,100000000000000,1000000000000000,10000000000000000,100000000000000000,1000000000000000000,10000000000000000000].map (fun (x : Nat) => AV.i .u64 (.ofNat x))
def S7 : St := ⟨(full Blk 7).put (some (.cells 356 pow10L 20 true)) 3, 16⟩
/-- bodies, two hundred calls deep -/
def h7 : H := hN Tryz.prog K7 (adraw Tryz.prog K7) 200
def body7 (f : FuncId) : Code := match fnc Tryz.prog f with
  | some fn => match fn.body with
    | some c => c
    | none => .skip
  | none => .skip
def nt7 (f : FuncId) : Nat := match fnc Tryz.prog f with
  | some fn => fn.ntmps
  | none => 0
end
end Go.Proofs.YtbeageacgalhiaaGreatDoor
