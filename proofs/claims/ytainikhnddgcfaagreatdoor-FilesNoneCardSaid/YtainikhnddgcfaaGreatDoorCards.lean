/-
  DERIVED. GIVEN WITH THE SEED: THE CARDS: each row of YtainikhnddgcfaaGreatDoorRows.lean that lists a variable, with what it lists TIED to the program's text (the seventh form; the later family's looks); each row that meets fmt, with fmt's text TOLD by the authors' own Lean function (tested against real Go, not proved from fmt's source: count such statements apart). THE CARD IS WHAT COUNTS. Prove the row's statement (the work); the ties are given (YtainikhnddgcfaaGreatDoorTie.lean); close each card by the builder's one call (the guide's Derived/Test/ToyasCard.lean, 'card_holds'). Laid BY PROGRAM, IN A SANDBOX (cutbox-door.mjs). By AI agents, Wed Nov 11 2026. No macro, syntax, notation, axiom, sorry.
-/
import Derived.Test.YtainikhnddgcfaaGreatDoorRows
import GoSem.ClaimSeven
namespace Go.Proofs.YtainikhnddgcfaaGreatDoor
namespace Rows

/-- THE TIED CARD OF 'victuallerlaw7.FilesNone'. -/
def filesNoneCard : Claim7 := { stood := { row := filesNoneRow, standIns := [], harness := (true, "7898c2481dc56ef7cd831b11afd3254b0fb9333ecfa9ac7b808e6907ae388539"), looks := true }, kinds := [], alts := [], laidByText := true, laidKinds := [.data, .data, .data, .data, .sentinel, .sentinel, .pinned, .pinned], laidTests := true, laidLooks := .later }
def FilesNoneCardSaid : Prop := Claim7.holds Tryz.pinned (.plain (OpenSpec.ofChange filesNoneSpec)) filesNoneCard

/-- THE SECOND FORM's CARD OF 'victuallerlaw7.FilesNone'. -/
def filesNoneUptoCard : Claim7 := { stood := { row := filesNoneUptoRow, standIns := [], harness := (true, "7898c2481dc56ef7cd831b11afd3254b0fb9333ecfa9ac7b808e6907ae388539"), looks := true }, kinds := [], alts := [], laidByText := true, laidKinds := [.data, .data, .data, .data, .sentinel, .sentinel, .pinned, .pinned], laidTests := true, laidLooks := .later }
def FilesNoneUptoCardSaid : Prop := Claim7.holds Tryz.pinned (.plain (OpenSpec.upto filesNoneSpec)) filesNoneUptoCard
end Rows
end Go.Proofs.YtainikhnddgcfaaGreatDoor
