/-
  DERIVED. GIVEN WITH THE SEED: THE CARDS: each row of YtbdfhnelmojbpaaGreatDoorRows.lean that lists a variable, with what it lists TIED to the program's text (the seventh form; the later family's looks); each row that meets fmt, with fmt's text TOLD by the authors' own Lean function (tested against real Go, not proved from fmt's source: count such statements apart). THE CARD IS WHAT COUNTS. Prove the row's statement (the work); the ties are given (YtbdfhnelmojbpaaGreatDoorTie.lean); close each card by the builder's one call (the guide's Derived/Test/ToyasCard.lean, 'card_holds'). Laid BY PROGRAM, IN A SANDBOX (cutbox-door.mjs). By AI agents, Wed Nov 11 2026. No macro, syntax, notation, axiom, sorry.
-/
import Derived.Test.YtbdfhnelmojbpaaGreatDoorRows
import GoSem.ClaimSeven
namespace Go.Proofs.YtbdfhnelmojbpaaGreatDoor
namespace Rows

/-- THE TIED CARD OF 'victuallerlaw7.SplitRange'. -/
def splitRangeCard : Claim7 := { stood := { row := splitRangeRow, standIns := [], harness := (true, "01d3f29dbdb9290be1cd01149f1ab53d6cb27fed8df91134cba9406a372dbaa5"), looks := true }, kinds := [], alts := [], laidByText := true, laidKinds := [.data, .data, .data, .data, .sentinel, .sentinel, .pinned, .pinned], laidTests := true, laidLooks := .later }
def SplitRangeCardSaid : Prop := Claim7.holds Tryz.pinned (.plain (OpenSpec.ofChange splitRangeSpec)) splitRangeCard

/-- THE TIED CARD OF 'victuallerlaw7.TimeShape'. -/
def timeShapeCard : Claim7 := { stood := { row := timeShapeRow, standIns := [], harness := (true, "01d3f29dbdb9290be1cd01149f1ab53d6cb27fed8df91134cba9406a372dbaa5"), looks := true }, kinds := [], alts := [], laidByText := true, laidKinds := [.data, .data, .data, .data, .sentinel, .sentinel, .pinned, .pinned], laidTests := true, laidLooks := .later }
def TimeShapeCardSaid : Prop := Claim7.holds Tryz.pinned (.plain (OpenSpec.ofChange timeShapeSpec)) timeShapeCard

/-- THE TIED CARD OF 'victuallerlaw7.WriteTime'. -/
def writeTimeCard : Claim7 := { stood := { row := writeTimeRow, standIns := [], harness := (true, "01d3f29dbdb9290be1cd01149f1ab53d6cb27fed8df91134cba9406a372dbaa5"), looks := true }, kinds := [], alts := [], laidByText := true, laidKinds := [.data, .data, .data, .data, .sentinel, .sentinel, .pinned, .pinned], laidTests := true, laidLooks := .later }
def WriteTimeCardSaid : Prop := Claim7.holds Tryz.pinned (.plain (OpenSpec.ofChange writeTimeSpec)) writeTimeCard

/-- THE SECOND FORM's CARD OF 'victuallerlaw7.SplitRange'. -/
def splitRangeUptoCard : Claim7 := { stood := { row := splitRangeUptoRow, standIns := [], harness := (true, "01d3f29dbdb9290be1cd01149f1ab53d6cb27fed8df91134cba9406a372dbaa5"), looks := true }, kinds := [], alts := [], laidByText := true, laidKinds := [.data, .data, .data, .data, .sentinel, .sentinel, .pinned, .pinned], laidTests := true, laidLooks := .later }
def SplitRangeUptoCardSaid : Prop := Claim7.holds Tryz.pinned (.plain (OpenSpec.upto splitRangeSpec)) splitRangeUptoCard

/-- THE SECOND FORM's CARD OF 'victuallerlaw7.TimeShape'. -/
def timeShapeUptoCard : Claim7 := { stood := { row := timeShapeUptoRow, standIns := [], harness := (true, "01d3f29dbdb9290be1cd01149f1ab53d6cb27fed8df91134cba9406a372dbaa5"), looks := true }, kinds := [], alts := [], laidByText := true, laidKinds := [.data, .data, .data, .data, .sentinel, .sentinel, .pinned, .pinned], laidTests := true, laidLooks := .later }
def TimeShapeUptoCardSaid : Prop := Claim7.holds Tryz.pinned (.plain (OpenSpec.upto timeShapeSpec)) timeShapeUptoCard

/-- THE SECOND FORM's CARD OF 'victuallerlaw7.WriteTime'. -/
def writeTimeUptoCard : Claim7 := { stood := { row := writeTimeUptoRow, standIns := [], harness := (true, "01d3f29dbdb9290be1cd01149f1ab53d6cb27fed8df91134cba9406a372dbaa5"), looks := true }, kinds := [], alts := [], laidByText := true, laidKinds := [.data, .data, .data, .data, .sentinel, .sentinel, .pinned, .pinned], laidTests := true, laidLooks := .later }
def WriteTimeUptoCardSaid : Prop := Claim7.holds Tryz.pinned (.plain (OpenSpec.upto writeTimeSpec)) writeTimeUptoCard
end Rows
end Go.Proofs.YtbdfhnelmojbpaaGreatDoor
