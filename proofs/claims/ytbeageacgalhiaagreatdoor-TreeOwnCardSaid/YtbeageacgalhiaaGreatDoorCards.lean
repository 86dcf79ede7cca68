/-
  DERIVED. GIVEN WITH THE SEED: THE CARDS: each row of YtbeageacgalhiaaGreatDoorRows.lean that lists a variable, with what it lists TIED to the program's text (the seventh form; the later family's looks); each row that meets fmt, with fmt's text TOLD by the authors' own Lean function (tested against real Go, not proved from fmt's source: count such statements apart). THE CARD IS WHAT COUNTS. Prove the row's statement (the work); the ties are given (YtbeageacgalhiaaGreatDoorTie.lean); close each card by the builder's one call (the guide's Derived/Test/ToyasCard.lean, 'card_holds'). Laid BY PROGRAM, IN A SANDBOX (cutbox-door.mjs). By AI agents, Wed Nov 11 2026. No macro, syntax, notation, axiom, sorry.
-/
import Derived.Test.YtbeageacgalhiaaGreatDoorRows
import GoSem.ClaimSeven
namespace Go.Proofs.YtbeageacgalhiaaGreatDoor
namespace Rows

/-- THE TIED CARD OF 'victuallerlaw7.SplitBad'. -/
def splitBadCard : Claim7 := { stood := { row := splitBadRow, standIns := [], harness := (true, "8665e7d45d120bf5d1d7c15e050f1e147c046d598330dcc5eccd8f321c2c3301"), looks := true }, kinds := [], alts := [], laidByText := true, laidKinds := [.data, .data, .data, .data, .sentinel, .sentinel, .pinned, .pinned], laidTests := true, laidLooks := .later }
def SplitBadCardSaid : Prop := Claim7.holds Tryz.pinned (.plain (OpenSpec.ofChange splitBadSpec)) splitBadCard

/-- THE TIED CARD OF 'victuallerlaw7.TreeOwn'. -/
def treeOwnCard : Claim7 := { stood := { row := treeOwnRow, standIns := [], harness := (true, "8665e7d45d120bf5d1d7c15e050f1e147c046d598330dcc5eccd8f321c2c3301"), looks := true }, kinds := [], alts := [], laidByText := true, laidKinds := [.data, .data, .data, .data, .sentinel, .sentinel, .pinned, .pinned], laidTests := true, laidLooks := .later }
def TreeOwnCardSaid : Prop := Claim7.holds Tryz.pinned (.plain (OpenSpec.ofChange treeOwnSpec)) treeOwnCard

/-- THE SECOND FORM's CARD OF 'victuallerlaw7.SplitBad'. -/
def splitBadUptoCard : Claim7 := { stood := { row := splitBadUptoRow, standIns := [], harness := (true, "8665e7d45d120bf5d1d7c15e050f1e147c046d598330dcc5eccd8f321c2c3301"), looks := true }, kinds := [], alts := [], laidByText := true, laidKinds := [.data, .data, .data, .data, .sentinel, .sentinel, .pinned, .pinned], laidTests := true, laidLooks := .later }
def SplitBadUptoCardSaid : Prop := Claim7.holds Tryz.pinned (.plain (OpenSpec.upto splitBadSpec)) splitBadUptoCard

/-- THE SECOND FORM's CARD OF 'victuallerlaw7.TreeOwn'. -/
def treeOwnUptoCard : Claim7 := { stood := { row := treeOwnUptoRow, standIns := [], harness := (true, "8665e7d45d120bf5d1d7c15e050f1e147c046d598330dcc5eccd8f321c2c3301"), looks := true }, kinds := [], alts := [], laidByText := true, laidKinds := [.data, .data, .data, .data, .sentinel, .sentinel, .pinned, .pinned], laidTests := true, laidLooks := .later }
def TreeOwnUptoCardSaid : Prop := Claim7.holds Tryz.pinned (.plain (OpenSpec.upto treeOwnSpec)) treeOwnUptoCard
end Rows
end Go.Proofs.YtbeageacgalhiaaGreatDoor
