/-
  DERIVED. GIVEN WITH THE SEED: THE CARDS: each row of YtfnhdiibkogekaaGreatDoorRows.lean that lists a variable, with what it lists TIED to the program's text (the seventh form; the later family's looks); each row that meets fmt, with fmt's text TOLD by the authors' own Lean function (tested against real Go, not proved from fmt's source: count such statements apart). THE CARD IS WHAT COUNTS. Prove the row's statement (the work); the ties are given (YtfnhdiibkogekaaGreatDoorTie.lean); close each card by the builder's one call (the guide's Derived/Test/ToyasCard.lean, 'card_holds'). Laid BY PROGRAM, IN A SANDBOX (cutbox-door.mjs). By AI agents, Wed Nov 11 2026. No macro, syntax, notation, axiom, sorry.
-/
import Derived.Test.YtfnhdiibkogekaaGreatDoorRows
import GoSem.ClaimSeven
namespace Go.Proofs.YtfnhdiibkogekaaGreatDoor
namespace Rows

/-- THE TIED CARD OF 'victuallerlaw7.WordsAll'. -/
def wordsAllCard : Claim7 := { stood := { row := wordsAllRow, standIns := [], harness := (true, "2da47565933ba96ba0e2f057e5ddaff1433cd7eb3df8e81098b348e2de1ccf93"), looks := true }, kinds := [], alts := [], laidByText := true, laidKinds := [.data, .data, .data, .data, .sentinel, .sentinel, .pinned, .pinned], laidTests := true, laidLooks := .later }
def WordsAllCardSaid : Prop := Claim7.holds Tryz.pinned (.plain (OpenSpec.ofChange wordsAllSpec)) wordsAllCard

/-- THE TIED CARD OF 'victuallerlaw7.WordsBlank'. -/
def wordsBlankCard : Claim7 := { stood := { row := wordsBlankRow, standIns := [], harness := (true, "2da47565933ba96ba0e2f057e5ddaff1433cd7eb3df8e81098b348e2de1ccf93"), looks := true }, kinds := [], alts := [], laidByText := true, laidKinds := [.data, .data, .data, .data, .sentinel, .sentinel, .pinned, .pinned], laidTests := true, laidLooks := .later }
def WordsBlankCardSaid : Prop := Claim7.holds Tryz.pinned (.plain (OpenSpec.ofChange wordsBlankSpec)) wordsBlankCard

/-- THE TIED CARD OF 'victuallerlaw7.WordsLimit'. -/
def wordsLimitCard : Claim7 := { stood := { row := wordsLimitRow, standIns := [], harness := (true, "2da47565933ba96ba0e2f057e5ddaff1433cd7eb3df8e81098b348e2de1ccf93"), looks := true }, kinds := [], alts := [], laidByText := true, laidKinds := [.data, .data, .data, .data, .sentinel, .sentinel, .pinned, .pinned], laidTests := true, laidLooks := .later }
def WordsLimitCardSaid : Prop := Claim7.holds Tryz.pinned (.plain (OpenSpec.ofChange wordsLimitSpec)) wordsLimitCard

/-- THE TIED CARD OF 'victuallerlaw7.TimeShape'. -/
def timeShapeCard : Claim7 := { stood := { row := timeShapeRow, standIns := [], harness := (true, "2da47565933ba96ba0e2f057e5ddaff1433cd7eb3df8e81098b348e2de1ccf93"), looks := true }, kinds := [], alts := [], laidByText := true, laidKinds := [.data, .data, .data, .data, .sentinel, .sentinel, .pinned, .pinned], laidTests := true, laidLooks := .later }
def TimeShapeCardSaid : Prop := Claim7.holds Tryz.pinned (.plain (OpenSpec.ofChange timeShapeSpec)) timeShapeCard

/-- THE SECOND FORM's CARD OF 'victuallerlaw7.WordsAll'. -/
def wordsAllUptoCard : Claim7 := { stood := { row := wordsAllUptoRow, standIns := [], harness := (true, "2da47565933ba96ba0e2f057e5ddaff1433cd7eb3df8e81098b348e2de1ccf93"), looks := true }, kinds := [], alts := [], laidByText := true, laidKinds := [.data, .data, .data, .data, .sentinel, .sentinel, .pinned, .pinned], laidTests := true, laidLooks := .later }
def WordsAllUptoCardSaid : Prop := Claim7.holds Tryz.pinned (.plain (OpenSpec.upto wordsAllSpec)) wordsAllUptoCard

/-- THE SECOND FORM's CARD OF 'victuallerlaw7.WordsBlank'. -/
def wordsBlankUptoCard : Claim7 := { stood := { row := wordsBlankUptoRow, standIns := [], harness := (true, "2da47565933ba96ba0e2f057e5ddaff1433cd7eb3df8e81098b348e2de1ccf93"), looks := true }, kinds := [], alts := [], laidByText := true, laidKinds := [.data, .data, .data, .data, .sentinel, .sentinel, .pinned, .pinned], laidTests := true, laidLooks := .later }
def WordsBlankUptoCardSaid : Prop := Claim7.holds Tryz.pinned (.plain (OpenSpec.upto wordsBlankSpec)) wordsBlankUptoCard

/-- THE SECOND FORM's CARD OF 'victuallerlaw7.WordsLimit'. -/
def wordsLimitUptoCard : Claim7 := { stood := { row := wordsLimitUptoRow, standIns := [], harness := (true, "2da47565933ba96ba0e2f057e5ddaff1433cd7eb3df8e81098b348e2de1ccf93"), looks := true }, kinds := [], alts := [], laidByText := true, laidKinds := [.data, .data, .data, .data, .sentinel, .sentinel, .pinned, .pinned], laidTests := true, laidLooks := .later }
def WordsLimitUptoCardSaid : Prop := Claim7.holds Tryz.pinned (.plain (OpenSpec.upto wordsLimitSpec)) wordsLimitUptoCard

/-- THE SECOND FORM's CARD OF 'victuallerlaw7.TimeShape'. -/
def timeShapeUptoCard : Claim7 := { stood := { row := timeShapeUptoRow, standIns := [], harness := (true, "2da47565933ba96ba0e2f057e5ddaff1433cd7eb3df8e81098b348e2de1ccf93"), looks := true }, kinds := [], alts := [], laidByText := true, laidKinds := [.data, .data, .data, .data, .sentinel, .sentinel, .pinned, .pinned], laidTests := true, laidLooks := .later }
def TimeShapeUptoCardSaid : Prop := Claim7.holds Tryz.pinned (.plain (OpenSpec.upto timeShapeSpec)) timeShapeUptoCard
end Rows
end Go.Proofs.YtfnhdiibkogekaaGreatDoor
