/-
  DERIVED. GIVEN WITH THE SEED: THE CARDS: each row of YtjipjfoambbofaaGreatDoorRows.lean that lists a variable, with what it lists TIED to the program's text (the seventh form; the later family's looks); each row that meets fmt, with fmt's text TOLD by the authors' own Lean function (tested against real Go, not proved from fmt's source: count such statements apart). THE CARD IS WHAT COUNTS. Prove the row's statement (the work); the ties are given (YtjipjfoambbofaaGreatDoorTie.lean); close each card by the builder's one call (the guide's Derived/Test/ToyasCard.lean, 'card_holds'). Laid BY PROGRAM, IN A SANDBOX (cutbox-door.mjs). By AI agents, Wed Nov 11 2026. No macro, syntax, notation, axiom, sorry.
-/
import Derived.Test.YtjipjfoambbofaaGreatDoorRows
import GoSem.ClaimSeven
namespace Go.Proofs.YtjipjfoambbofaaGreatDoor
namespace Rows

/-- THE TIED CARD OF 'victuallerlaw7.CoreMark'. -/
def coreMarkCard : Claim7 := { stood := { row := coreMarkRow, standIns := [], harness := (true, "1ff0f70063aad04fbf967f6e707048ec34ebf36836aa3234452f3d07602d6bb5"), looks := true }, kinds := [], alts := [], laidByText := true, laidKinds := [.data, .data, .data, .data, .sentinel, .sentinel, .pinned, .pinned], laidTests := true, laidLooks := .later }
def CoreMarkCardSaid : Prop := Claim7.holds Tryz.pinned (.plain (OpenSpec.ofChange coreMarkSpec)) coreMarkCard

/-- THE TIED CARD OF 'victuallerlaw7.CoreBounds'. -/
def coreBoundsCard : Claim7 := { stood := { row := coreBoundsRow, standIns := [], harness := (true, "1ff0f70063aad04fbf967f6e707048ec34ebf36836aa3234452f3d07602d6bb5"), looks := true }, kinds := [], alts := [], laidByText := true, laidKinds := [.data, .data, .data, .data, .sentinel, .sentinel, .pinned, .pinned], laidTests := true, laidLooks := .later }
def CoreBoundsCardSaid : Prop := Claim7.holds Tryz.pinned (.plain (OpenSpec.ofChange coreBoundsSpec)) coreBoundsCard

/-- THE TIED CARD OF 'victuallerlaw7.CoreLimit'. -/
def coreLimitCard : Claim7 := { stood := { row := coreLimitRow, standIns := [], harness := (true, "1ff0f70063aad04fbf967f6e707048ec34ebf36836aa3234452f3d07602d6bb5"), looks := true }, kinds := [], alts := [], laidByText := true, laidKinds := [.data, .data, .data, .data, .sentinel, .sentinel, .pinned, .pinned], laidTests := true, laidLooks := .later }
def CoreLimitCardSaid : Prop := Claim7.holds Tryz.pinned (.plain (OpenSpec.ofChange coreLimitSpec)) coreLimitCard

/-- THE SECOND FORM's CARD OF 'victuallerlaw7.CoreMark'. -/
def coreMarkUptoCard : Claim7 := { stood := { row := coreMarkUptoRow, standIns := [], harness := (true, "1ff0f70063aad04fbf967f6e707048ec34ebf36836aa3234452f3d07602d6bb5"), looks := true }, kinds := [], alts := [], laidByText := true, laidKinds := [.data, .data, .data, .data, .sentinel, .sentinel, .pinned, .pinned], laidTests := true, laidLooks := .later }
def CoreMarkUptoCardSaid : Prop := Claim7.holds Tryz.pinned (.plain (OpenSpec.upto coreMarkSpec)) coreMarkUptoCard

/-- THE SECOND FORM's CARD OF 'victuallerlaw7.CoreBounds'. -/
def coreBoundsUptoCard : Claim7 := { stood := { row := coreBoundsUptoRow, standIns := [], harness := (true, "1ff0f70063aad04fbf967f6e707048ec34ebf36836aa3234452f3d07602d6bb5"), looks := true }, kinds := [], alts := [], laidByText := true, laidKinds := [.data, .data, .data, .data, .sentinel, .sentinel, .pinned, .pinned], laidTests := true, laidLooks := .later }
def CoreBoundsUptoCardSaid : Prop := Claim7.holds Tryz.pinned (.plain (OpenSpec.upto coreBoundsSpec)) coreBoundsUptoCard

/-- THE SECOND FORM's CARD OF 'victuallerlaw7.CoreLimit'. -/
def coreLimitUptoCard : Claim7 := { stood := { row := coreLimitUptoRow, standIns := [], harness := (true, "1ff0f70063aad04fbf967f6e707048ec34ebf36836aa3234452f3d07602d6bb5"), looks := true }, kinds := [], alts := [], laidByText := true, laidKinds := [.data, .data, .data, .data, .sentinel, .sentinel, .pinned, .pinned], laidTests := true, laidLooks := .later }
def CoreLimitUptoCardSaid : Prop := Claim7.holds Tryz.pinned (.plain (OpenSpec.upto coreLimitSpec)) coreLimitUptoCard
end Rows
end Go.Proofs.YtjipjfoambbofaaGreatDoor
