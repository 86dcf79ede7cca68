/-
  DERIVED. GIVEN WITH THE SEED: THE CARDS: each row of YthephiihcgibjaaGreatDoorRows.lean that lists a variable, with what it lists TIED to the program's text (the seventh form; the later family's looks); each row that meets fmt, with fmt's text TOLD by the authors' own Lean function (tested against real Go, not proved from fmt's source: count such statements apart). THE CARD IS WHAT COUNTS. Prove the row's statement (the work); the ties are given (YthephiihcgibjaaGreatDoorTie.lean); close each card by the builder's one call (the guide's Derived/Test/ToyasCard.lean, 'card_holds'). Laid BY PROGRAM, IN A SANDBOX (cutbox-door.mjs). By AI agents, Wed Nov 11 2026. No macro, syntax, notation, axiom, sorry.
-/
import Derived.Test.YthephiihcgibjaaGreatDoorRows
import GoSem.ClaimSeven
namespace Go.Proofs.YthephiihcgibjaaGreatDoor
namespace Rows

/-- THE TIED CARD OF 'victuallerlaw1.LitTurn'. -/
def litTurnCard : Claim7 := { stood := { row := litTurnRow, standIns := [], harness := (true, "af286916b4ba4330c052274c61834371da6589502b51c23bbac089f678b6547a"), looks := true }, kinds := [], alts := [], laidByText := true, laidKinds := [.data, .data, .data, .data, .sentinel, .sentinel, .pinned], laidTests := true, laidLooks := .later }
def LitTurnCardSaid : Prop := Claim7.holds Tryz.pinned (.plain (OpenSpec.ofChange litTurnSpec)) litTurnCard

/-- THE TIED CARD OF 'victuallerlaw1.VecOwn'. -/
def vecOwnCard : Claim7 := { stood := { row := vecOwnRow, standIns := [], harness := (true, "af286916b4ba4330c052274c61834371da6589502b51c23bbac089f678b6547a"), looks := true }, kinds := [], alts := [], laidByText := true, laidKinds := [.data, .data, .data, .data, .sentinel, .sentinel, .pinned], laidTests := true, laidLooks := .later }
def VecOwnCardSaid : Prop := Claim7.holds Tryz.pinned (.plain (OpenSpec.ofChange vecOwnSpec)) vecOwnCard

/-- THE TIED CARD OF 'victuallerlaw1.VecMat'. -/
def vecMatCard : Claim7 := { stood := { row := vecMatRow, standIns := [], harness := (true, "af286916b4ba4330c052274c61834371da6589502b51c23bbac089f678b6547a"), looks := true }, kinds := [], alts := [], laidByText := true, laidKinds := [.data, .data, .data, .data, .sentinel, .sentinel, .pinned], laidTests := true, laidLooks := .later }
def VecMatCardSaid : Prop := Claim7.holds Tryz.pinned (.plain (OpenSpec.ofChange vecMatSpec)) vecMatCard

/-- THE TIED CARD OF 'victuallerlaw1.VecAll'. -/
def vecAllCard : Claim7 := { stood := { row := vecAllRow, standIns := [], harness := (true, "af286916b4ba4330c052274c61834371da6589502b51c23bbac089f678b6547a"), looks := true }, kinds := [], alts := [], laidByText := true, laidKinds := [.data, .data, .data, .data, .sentinel, .sentinel, .pinned], laidTests := true, laidLooks := .later }
def VecAllCardSaid : Prop := Claim7.holds Tryz.pinned (.plain (OpenSpec.ofChange vecAllSpec)) vecAllCard

/-- THE TIED CARD OF 'victuallerlaw1.VecLaws'. -/
def vecLawsCard : Claim7 := { stood := { row := vecLawsRow, standIns := [], harness := (true, "af286916b4ba4330c052274c61834371da6589502b51c23bbac089f678b6547a"), looks := true }, kinds := [], alts := [], laidByText := true, laidKinds := [.data, .data, .data, .data, .sentinel, .sentinel, .pinned], laidTests := true, laidLooks := .later }
def VecLawsCardSaid : Prop := Claim7.holds Tryz.pinned (.plain (OpenSpec.ofChange vecLawsSpec)) vecLawsCard

/-- THE TIED CARD OF 'victuallerlaw1.MatTall'. -/
def matTallCard : Claim7 := { stood := { row := matTallRow, standIns := [], harness := (true, "af286916b4ba4330c052274c61834371da6589502b51c23bbac089f678b6547a"), looks := true }, kinds := [], alts := [], laidByText := true, laidKinds := [.data, .data, .data, .data, .sentinel, .sentinel, .pinned], laidTests := true, laidLooks := .later }
def MatTallCardSaid : Prop := Claim7.holds Tryz.pinned (.plain (OpenSpec.ofChange matTallSpec)) matTallCard

/-- THE TIED CARD OF 'victuallerlaw1.MatMul'. -/
def matMulCard : Claim7 := { stood := { row := matMulRow, standIns := [], harness := (true, "af286916b4ba4330c052274c61834371da6589502b51c23bbac089f678b6547a"), looks := true }, kinds := [], alts := [], laidByText := true, laidKinds := [.data, .data, .data, .data, .sentinel, .sentinel, .pinned], laidTests := true, laidLooks := .later }
def MatMulCardSaid : Prop := Claim7.holds Tryz.pinned (.plain (OpenSpec.ofChange matMulSpec)) matMulCard

/-- THE TIED CARD OF 'victuallerlaw1.MatLaws'. -/
def matLawsCard : Claim7 := { stood := { row := matLawsRow, standIns := [], harness := (true, "af286916b4ba4330c052274c61834371da6589502b51c23bbac089f678b6547a"), looks := true }, kinds := [], alts := [], laidByText := true, laidKinds := [.data, .data, .data, .data, .sentinel, .sentinel, .pinned], laidTests := true, laidLooks := .later }
def MatLawsCardSaid : Prop := Claim7.holds Tryz.pinned (.plain (OpenSpec.ofChange matLawsSpec)) matLawsCard

/-- THE TIED CARD OF 'victuallerlaw1.MatSolve'. -/
def matSolveCard : Claim7 := { stood := { row := matSolveRow, standIns := [], harness := (true, "af286916b4ba4330c052274c61834371da6589502b51c23bbac089f678b6547a"), looks := true }, kinds := [], alts := [], laidByText := true, laidKinds := [.data, .data, .data, .data, .sentinel, .sentinel, .pinned], laidTests := true, laidLooks := .later }
def MatSolveCardSaid : Prop := Claim7.holds Tryz.pinned (.plain (OpenSpec.ofChange matSolveSpec)) matSolveCard

/-- THE SECOND FORM's CARD OF 'victuallerlaw1.LitTurn'. -/
def litTurnUptoCard : Claim7 := { stood := { row := litTurnUptoRow, standIns := [], harness := (true, "af286916b4ba4330c052274c61834371da6589502b51c23bbac089f678b6547a"), looks := true }, kinds := [], alts := [], laidByText := true, laidKinds := [.data, .data, .data, .data, .sentinel, .sentinel, .pinned], laidTests := true, laidLooks := .later }
def LitTurnUptoCardSaid : Prop := Claim7.holds Tryz.pinned (.plain (OpenSpec.upto litTurnSpec)) litTurnUptoCard

/-- THE SECOND FORM's CARD OF 'victuallerlaw1.VecOwn'. -/
def vecOwnUptoCard : Claim7 := { stood := { row := vecOwnUptoRow, standIns := [], harness := (true, "af286916b4ba4330c052274c61834371da6589502b51c23bbac089f678b6547a"), looks := true }, kinds := [], alts := [], laidByText := true, laidKinds := [.data, .data, .data, .data, .sentinel, .sentinel, .pinned], laidTests := true, laidLooks := .later }
def VecOwnUptoCardSaid : Prop := Claim7.holds Tryz.pinned (.plain (OpenSpec.upto vecOwnSpec)) vecOwnUptoCard

/-- THE SECOND FORM's CARD OF 'victuallerlaw1.VecMat'. -/
def vecMatUptoCard : Claim7 := { stood := { row := vecMatUptoRow, standIns := [], harness := (true, "af286916b4ba4330c052274c61834371da6589502b51c23bbac089f678b6547a"), looks := true }, kinds := [], alts := [], laidByText := true, laidKinds := [.data, .data, .data, .data, .sentinel, .sentinel, .pinned], laidTests := true, laidLooks := .later }
def VecMatUptoCardSaid : Prop := Claim7.holds Tryz.pinned (.plain (OpenSpec.upto vecMatSpec)) vecMatUptoCard

/-- THE SECOND FORM's CARD OF 'victuallerlaw1.VecAll'. -/
def vecAllUptoCard : Claim7 := { stood := { row := vecAllUptoRow, standIns := [], harness := (true, "af286916b4ba4330c052274c61834371da6589502b51c23bbac089f678b6547a"), looks := true }, kinds := [], alts := [], laidByText := true, laidKinds := [.data, .data, .data, .data, .sentinel, .sentinel, .pinned], laidTests := true, laidLooks := .later }
def VecAllUptoCardSaid : Prop := Claim7.holds Tryz.pinned (.plain (OpenSpec.upto vecAllSpec)) vecAllUptoCard

/-- THE SECOND FORM's CARD OF 'victuallerlaw1.VecLaws'. -/
def vecLawsUptoCard : Claim7 := { stood := { row := vecLawsUptoRow, standIns := [], harness := (true, "af286916b4ba4330c052274c61834371da6589502b51c23bbac089f678b6547a"), looks := true }, kinds := [], alts := [], laidByText := true, laidKinds := [.data, .data, .data, .data, .sentinel, .sentinel, .pinned], laidTests := true, laidLooks := .later }
def VecLawsUptoCardSaid : Prop := Claim7.holds Tryz.pinned (.plain (OpenSpec.upto vecLawsSpec)) vecLawsUptoCard

/-- THE SECOND FORM's CARD OF 'victuallerlaw1.MatTall'. -/
def matTallUptoCard : Claim7 := { stood := { row := matTallUptoRow, standIns := [], harness := (true, "af286916b4ba4330c052274c61834371da6589502b51c23bbac089f678b6547a"), looks := true }, kinds := [], alts := [], laidByText := true, laidKinds := [.data, .data, .data, .data, .sentinel, .sentinel, .pinned], laidTests := true, laidLooks := .later }
def MatTallUptoCardSaid : Prop := Claim7.holds Tryz.pinned (.plain (OpenSpec.upto matTallSpec)) matTallUptoCard

/-- THE SECOND FORM's CARD OF 'victuallerlaw1.MatMul'. -/
def matMulUptoCard : Claim7 := { stood := { row := matMulUptoRow, standIns := [], harness := (true, "af286916b4ba4330c052274c61834371da6589502b51c23bbac089f678b6547a"), looks := true }, kinds := [], alts := [], laidByText := true, laidKinds := [.data, .data, .data, .data, .sentinel, .sentinel, .pinned], laidTests := true, laidLooks := .later }
def MatMulUptoCardSaid : Prop := Claim7.holds Tryz.pinned (.plain (OpenSpec.upto matMulSpec)) matMulUptoCard

/-- THE SECOND FORM's CARD OF 'victuallerlaw1.MatLaws'. -/
def matLawsUptoCard : Claim7 := { stood := { row := matLawsUptoRow, standIns := [], harness := (true, "af286916b4ba4330c052274c61834371da6589502b51c23bbac089f678b6547a"), looks := true }, kinds := [], alts := [], laidByText := true, laidKinds := [.data, .data, .data, .data, .sentinel, .sentinel, .pinned], laidTests := true, laidLooks := .later }
def MatLawsUptoCardSaid : Prop := Claim7.holds Tryz.pinned (.plain (OpenSpec.upto matLawsSpec)) matLawsUptoCard

/-- THE SECOND FORM's CARD OF 'victuallerlaw1.MatSolve'. -/
def matSolveUptoCard : Claim7 := { stood := { row := matSolveUptoRow, standIns := [], harness := (true, "af286916b4ba4330c052274c61834371da6589502b51c23bbac089f678b6547a"), looks := true }, kinds := [], alts := [], laidByText := true, laidKinds := [.data, .data, .data, .data, .sentinel, .sentinel, .pinned], laidTests := true, laidLooks := .later }
def MatSolveUptoCardSaid : Prop := Claim7.holds Tryz.pinned (.plain (OpenSpec.upto matSolveSpec)) matSolveUptoCard
end Rows
end Go.Proofs.YthephiihcgibjaaGreatDoor
