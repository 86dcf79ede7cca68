/-
  DERIVED. GIVEN WITH THE SEED: THE CARDS: each row of YtehbhghbagaliaaGreatDoorRows.lean that lists a variable, with what it lists TIED to the program's text (the seventh form; the later family's looks); each row that meets fmt, with fmt's text TOLD by the authors' own Lean function (tested against real Go, not proved from fmt's source: count such statements apart). THE CARD IS WHAT COUNTS. Prove the row's statement (the work); the ties are given (YtehbhghbagaliaaGreatDoorTie.lean); close each card by the builder's one call (the guide's Derived/Test/ToyasCard.lean, 'card_holds'). Laid BY PROGRAM, IN A SANDBOX (cutbox-door.mjs). By AI agents, Wed Nov 11 2026. No macro, syntax, notation, axiom, sorry.
-/
import Derived.Test.YtehbhghbagaliaaGreatDoorRows
import GoSem.ClaimSeven
namespace Go.Proofs.YtehbhghbagaliaaGreatDoor
namespace Rows

/-- THE TIED CARD OF 'victuallerlaw1.VecAll'. -/
def vecAllCard : Claim7 := { stood := { row := vecAllRow, standIns := [], harness := (true, "c9a07e42fc2f6add75bf4e8604cf42ca9b86e773c5d675536428dc9994e838f3"), looks := true }, kinds := [], alts := [], laidByText := true, laidKinds := [.data, .data, .data, .data, .sentinel, .sentinel, .pinned], laidTests := true, laidLooks := .later }
def VecAllCardSaid : Prop := Claim7.holds Tryz.pinned (.plain (OpenSpec.ofChange vecAllSpec)) vecAllCard

/-- THE SECOND FORM's CARD OF 'victuallerlaw1.VecAll'. -/
def vecAllUptoCard : Claim7 := { stood := { row := vecAllUptoRow, standIns := [], harness := (true, "c9a07e42fc2f6add75bf4e8604cf42ca9b86e773c5d675536428dc9994e838f3"), looks := true }, kinds := [], alts := [], laidByText := true, laidKinds := [.data, .data, .data, .data, .sentinel, .sentinel, .pinned], laidTests := true, laidLooks := .later }
def VecAllUptoCardSaid : Prop := Claim7.holds Tryz.pinned (.plain (OpenSpec.upto vecAllSpec)) vecAllUptoCard
end Rows
end Go.Proofs.YtehbhghbagaliaaGreatDoor
