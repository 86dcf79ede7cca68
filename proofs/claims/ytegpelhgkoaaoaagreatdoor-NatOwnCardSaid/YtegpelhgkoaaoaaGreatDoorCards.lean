/-
  DERIVED. GIVEN WITH THE SEED: THE CARDS: each row of YtegpelhgkoaaoaaGreatDoorRows.lean that lists a variable, with what it lists TIED to the program's text (the seventh form; the later family's looks); each row that meets fmt, with fmt's text TOLD by the authors' own Lean function (tested against real Go, not proved from fmt's source: count such statements apart). THE CARD IS WHAT COUNTS. Prove the row's statement (the work); the ties are given (YtegpelhgkoaaoaaGreatDoorTie.lean); close each card by the builder's one call (the guide's Derived/Test/ToyasCard.lean, 'card_holds'). Laid BY PROGRAM, IN A SANDBOX (cutbox-door.mjs). By AI agents, Wed Nov 11 2026. No macro, syntax, notation, axiom, sorry.
-/
import Derived.Test.YtegpelhgkoaaoaaGreatDoorRows
import GoSem.ClaimSeven
namespace Go.Proofs.YtegpelhgkoaaoaaGreatDoor
namespace Rows

/-- THE TIED CARD OF 'victuallerlaw1.NatText'. -/
def natTextCard : Claim7 := { stood := { row := natTextRow, standIns := [], harness := (true, "0619553e1eb1513236e22f2c49bf27d3bb72a336258600023bf4eacb64f867e5"), looks := true }, kinds := [], alts := [], laidByText := true, laidKinds := [.data, .data, .data, .data, .sentinel, .sentinel, .pinned], laidTests := true, laidLooks := .later }
def NatTextCardSaid : Prop := Claim7.holds Tryz.pinned (.plain (OpenSpec.ofChange natTextSpec)) natTextCard

/-- THE TIED CARD OF 'victuallerlaw1.FracText'. -/
def fracTextCard : Claim7 := { stood := { row := fracTextRow, standIns := [], harness := (true, "0619553e1eb1513236e22f2c49bf27d3bb72a336258600023bf4eacb64f867e5"), looks := true }, kinds := [], alts := [], laidByText := true, laidKinds := [.data, .data, .data, .data, .sentinel, .sentinel, .pinned], laidTests := true, laidLooks := .later }
def FracTextCardSaid : Prop := Claim7.holds Tryz.pinned (.plain (OpenSpec.ofChange fracTextSpec)) fracTextCard

/-- THE TIED CARD OF 'victuallerlaw1.NatLong'. -/
def natLongCard : Claim7 := { stood := { row := natLongRow, standIns := [], harness := (true, "0619553e1eb1513236e22f2c49bf27d3bb72a336258600023bf4eacb64f867e5"), looks := true }, kinds := [], alts := [], laidByText := true, laidKinds := [.data, .data, .data, .data, .sentinel, .sentinel, .pinned], laidTests := true, laidLooks := .later }
def NatLongCardSaid : Prop := Claim7.holds Tryz.pinned (.plain (OpenSpec.ofChange natLongSpec)) natLongCard

/-- THE TIED CARD OF 'victuallerlaw1.BitsShift'. -/
def bitsShiftCard : Claim7 := { stood := { row := bitsShiftRow, standIns := [], harness := (true, "0619553e1eb1513236e22f2c49bf27d3bb72a336258600023bf4eacb64f867e5"), looks := true }, kinds := [], alts := [], laidByText := true, laidKinds := [.data, .data, .data, .data, .sentinel, .sentinel, .pinned], laidTests := true, laidLooks := .later }
def BitsShiftCardSaid : Prop := Claim7.holds Tryz.pinned (.plain (OpenSpec.ofChange bitsShiftSpec)) bitsShiftCard

/-- THE TIED CARD OF 'victuallerlaw1.BitsDiv'. -/
def bitsDivCard : Claim7 := { stood := { row := bitsDivRow, standIns := [], harness := (true, "0619553e1eb1513236e22f2c49bf27d3bb72a336258600023bf4eacb64f867e5"), looks := true }, kinds := [], alts := [], laidByText := true, laidKinds := [.data, .data, .data, .data, .sentinel, .sentinel, .pinned], laidTests := true, laidLooks := .later }
def BitsDivCardSaid : Prop := Claim7.holds Tryz.pinned (.plain (OpenSpec.ofChange bitsDivSpec)) bitsDivCard

/-- THE TIED CARD OF 'victuallerlaw1.BitsSigned'. -/
def bitsSignedCard : Claim7 := { stood := { row := bitsSignedRow, standIns := [], harness := (true, "0619553e1eb1513236e22f2c49bf27d3bb72a336258600023bf4eacb64f867e5"), looks := true }, kinds := [], alts := [], laidByText := true, laidKinds := [.data, .data, .data, .data, .sentinel, .sentinel, .pinned], laidTests := true, laidLooks := .later }
def BitsSignedCardSaid : Prop := Claim7.holds Tryz.pinned (.plain (OpenSpec.ofChange bitsSignedSpec)) bitsSignedCard

/-- THE TIED CARD OF 'victuallerlaw1.BitsNarrow'. -/
def bitsNarrowCard : Claim7 := { stood := { row := bitsNarrowRow, standIns := [], harness := (true, "0619553e1eb1513236e22f2c49bf27d3bb72a336258600023bf4eacb64f867e5"), looks := true }, kinds := [], alts := [], laidByText := true, laidKinds := [.data, .data, .data, .data, .sentinel, .sentinel, .pinned], laidTests := true, laidLooks := .later }
def BitsNarrowCardSaid : Prop := Claim7.holds Tryz.pinned (.plain (OpenSpec.ofChange bitsNarrowSpec)) bitsNarrowCard

/-- THE TIED CARD OF 'victuallerlaw1.BitsCarry'. -/
def bitsCarryCard : Claim7 := { stood := { row := bitsCarryRow, standIns := [], harness := (true, "0619553e1eb1513236e22f2c49bf27d3bb72a336258600023bf4eacb64f867e5"), looks := true }, kinds := [], alts := [], laidByText := true, laidKinds := [.data, .data, .data, .data, .sentinel, .sentinel, .pinned], laidTests := true, laidLooks := .later }
def BitsCarryCardSaid : Prop := Claim7.holds Tryz.pinned (.plain (OpenSpec.ofChange bitsCarrySpec)) bitsCarryCard

/-- THE TIED CARD OF 'victuallerlaw1.NatDiv'. -/
def natDivCard : Claim7 := { stood := { row := natDivRow, standIns := [], harness := (true, "0619553e1eb1513236e22f2c49bf27d3bb72a336258600023bf4eacb64f867e5"), looks := true }, kinds := [], alts := [], laidByText := true, laidKinds := [.data, .data, .data, .data, .sentinel, .sentinel, .pinned], laidTests := true, laidLooks := .later }
def NatDivCardSaid : Prop := Claim7.holds Tryz.pinned (.plain (OpenSpec.ofChange natDivSpec)) natDivCard

/-- THE TIED CARD OF 'victuallerlaw1.NatGcd'. -/
def natGcdCard : Claim7 := { stood := { row := natGcdRow, standIns := [], harness := (true, "0619553e1eb1513236e22f2c49bf27d3bb72a336258600023bf4eacb64f867e5"), looks := true }, kinds := [], alts := [], laidByText := true, laidKinds := [.data, .data, .data, .data, .sentinel, .sentinel, .pinned], laidTests := true, laidLooks := .later }
def NatGcdCardSaid : Prop := Claim7.holds Tryz.pinned (.plain (OpenSpec.ofChange natGcdSpec)) natGcdCard

/-- THE TIED CARD OF 'victuallerlaw1.NatOwn'. -/
def natOwnCard : Claim7 := { stood := { row := natOwnRow, standIns := [], harness := (true, "0619553e1eb1513236e22f2c49bf27d3bb72a336258600023bf4eacb64f867e5"), looks := true }, kinds := [], alts := [], laidByText := true, laidKinds := [.data, .data, .data, .data, .sentinel, .sentinel, .pinned], laidTests := true, laidLooks := .later }
def NatOwnCardSaid : Prop := Claim7.holds Tryz.pinned (.plain (OpenSpec.ofChange natOwnSpec)) natOwnCard

/-- THE TIED CARD OF 'victuallerlaw1.FracOwn'. -/
def fracOwnCard : Claim7 := { stood := { row := fracOwnRow, standIns := [], harness := (true, "0619553e1eb1513236e22f2c49bf27d3bb72a336258600023bf4eacb64f867e5"), looks := true }, kinds := [], alts := [], laidByText := true, laidKinds := [.data, .data, .data, .data, .sentinel, .sentinel, .pinned], laidTests := true, laidLooks := .later }
def FracOwnCardSaid : Prop := Claim7.holds Tryz.pinned (.plain (OpenSpec.ofChange fracOwnSpec)) fracOwnCard

/-- THE SECOND FORM's CARD OF 'victuallerlaw1.NatText'. -/
def natTextUptoCard : Claim7 := { stood := { row := natTextUptoRow, standIns := [], harness := (true, "0619553e1eb1513236e22f2c49bf27d3bb72a336258600023bf4eacb64f867e5"), looks := true }, kinds := [], alts := [], laidByText := true, laidKinds := [.data, .data, .data, .data, .sentinel, .sentinel, .pinned], laidTests := true, laidLooks := .later }
def NatTextUptoCardSaid : Prop := Claim7.holds Tryz.pinned (.plain (OpenSpec.upto natTextSpec)) natTextUptoCard

/-- THE SECOND FORM's CARD OF 'victuallerlaw1.FracText'. -/
def fracTextUptoCard : Claim7 := { stood := { row := fracTextUptoRow, standIns := [], harness := (true, "0619553e1eb1513236e22f2c49bf27d3bb72a336258600023bf4eacb64f867e5"), looks := true }, kinds := [], alts := [], laidByText := true, laidKinds := [.data, .data, .data, .data, .sentinel, .sentinel, .pinned], laidTests := true, laidLooks := .later }
def FracTextUptoCardSaid : Prop := Claim7.holds Tryz.pinned (.plain (OpenSpec.upto fracTextSpec)) fracTextUptoCard

/-- THE SECOND FORM's CARD OF 'victuallerlaw1.NatLong'. -/
def natLongUptoCard : Claim7 := { stood := { row := natLongUptoRow, standIns := [], harness := (true, "0619553e1eb1513236e22f2c49bf27d3bb72a336258600023bf4eacb64f867e5"), looks := true }, kinds := [], alts := [], laidByText := true, laidKinds := [.data, .data, .data, .data, .sentinel, .sentinel, .pinned], laidTests := true, laidLooks := .later }
def NatLongUptoCardSaid : Prop := Claim7.holds Tryz.pinned (.plain (OpenSpec.upto natLongSpec)) natLongUptoCard

/-- THE SECOND FORM's CARD OF 'victuallerlaw1.BitsShift'. -/
def bitsShiftUptoCard : Claim7 := { stood := { row := bitsShiftUptoRow, standIns := [], harness := (true, "0619553e1eb1513236e22f2c49bf27d3bb72a336258600023bf4eacb64f867e5"), looks := true }, kinds := [], alts := [], laidByText := true, laidKinds := [.data, .data, .data, .data, .sentinel, .sentinel, .pinned], laidTests := true, laidLooks := .later }
def BitsShiftUptoCardSaid : Prop := Claim7.holds Tryz.pinned (.plain (OpenSpec.upto bitsShiftSpec)) bitsShiftUptoCard

/-- THE SECOND FORM's CARD OF 'victuallerlaw1.BitsDiv'. -/
def bitsDivUptoCard : Claim7 := { stood := { row := bitsDivUptoRow, standIns := [], harness := (true, "0619553e1eb1513236e22f2c49bf27d3bb72a336258600023bf4eacb64f867e5"), looks := true }, kinds := [], alts := [], laidByText := true, laidKinds := [.data, .data, .data, .data, .sentinel, .sentinel, .pinned], laidTests := true, laidLooks := .later }
def BitsDivUptoCardSaid : Prop := Claim7.holds Tryz.pinned (.plain (OpenSpec.upto bitsDivSpec)) bitsDivUptoCard

/-- THE SECOND FORM's CARD OF 'victuallerlaw1.BitsSigned'. -/
def bitsSignedUptoCard : Claim7 := { stood := { row := bitsSignedUptoRow, standIns := [], harness := (true, "0619553e1eb1513236e22f2c49bf27d3bb72a336258600023bf4eacb64f867e5"), looks := true }, kinds := [], alts := [], laidByText := true, laidKinds := [.data, .data, .data, .data, .sentinel, .sentinel, .pinned], laidTests := true, laidLooks := .later }
def BitsSignedUptoCardSaid : Prop := Claim7.holds Tryz.pinned (.plain (OpenSpec.upto bitsSignedSpec)) bitsSignedUptoCard

/-- THE SECOND FORM's CARD OF 'victuallerlaw1.BitsNarrow'. -/
def bitsNarrowUptoCard : Claim7 := { stood := { row := bitsNarrowUptoRow, standIns := [], harness := (true, "0619553e1eb1513236e22f2c49bf27d3bb72a336258600023bf4eacb64f867e5"), looks := true }, kinds := [], alts := [], laidByText := true, laidKinds := [.data, .data, .data, .data, .sentinel, .sentinel, .pinned], laidTests := true, laidLooks := .later }
def BitsNarrowUptoCardSaid : Prop := Claim7.holds Tryz.pinned (.plain (OpenSpec.upto bitsNarrowSpec)) bitsNarrowUptoCard

/-- THE SECOND FORM's CARD OF 'victuallerlaw1.BitsCarry'. -/
def bitsCarryUptoCard : Claim7 := { stood := { row := bitsCarryUptoRow, standIns := [], harness := (true, "0619553e1eb1513236e22f2c49bf27d3bb72a336258600023bf4eacb64f867e5"), looks := true }, kinds := [], alts := [], laidByText := true, laidKinds := [.data, .data, .data, .data, .sentinel, .sentinel, .pinned], laidTests := true, laidLooks := .later }
def BitsCarryUptoCardSaid : Prop := Claim7.holds Tryz.pinned (.plain (OpenSpec.upto bitsCarrySpec)) bitsCarryUptoCard

/-- THE SECOND FORM's CARD OF 'victuallerlaw1.NatDiv'. -/
def natDivUptoCard : Claim7 := { stood := { row := natDivUptoRow, standIns := [], harness := (true, "0619553e1eb1513236e22f2c49bf27d3bb72a336258600023bf4eacb64f867e5"), looks := true }, kinds := [], alts := [], laidByText := true, laidKinds := [.data, .data, .data, .data, .sentinel, .sentinel, .pinned], laidTests := true, laidLooks := .later }
def NatDivUptoCardSaid : Prop := Claim7.holds Tryz.pinned (.plain (OpenSpec.upto natDivSpec)) natDivUptoCard

/-- THE SECOND FORM's CARD OF 'victuallerlaw1.NatGcd'. -/
def natGcdUptoCard : Claim7 := { stood := { row := natGcdUptoRow, standIns := [], harness := (true, "0619553e1eb1513236e22f2c49bf27d3bb72a336258600023bf4eacb64f867e5"), looks := true }, kinds := [], alts := [], laidByText := true, laidKinds := [.data, .data, .data, .data, .sentinel, .sentinel, .pinned], laidTests := true, laidLooks := .later }
def NatGcdUptoCardSaid : Prop := Claim7.holds Tryz.pinned (.plain (OpenSpec.upto natGcdSpec)) natGcdUptoCard

/-- THE SECOND FORM's CARD OF 'victuallerlaw1.NatOwn'. -/
def natOwnUptoCard : Claim7 := { stood := { row := natOwnUptoRow, standIns := [], harness := (true, "0619553e1eb1513236e22f2c49bf27d3bb72a336258600023bf4eacb64f867e5"), looks := true }, kinds := [], alts := [], laidByText := true, laidKinds := [.data, .data, .data, .data, .sentinel, .sentinel, .pinned], laidTests := true, laidLooks := .later }
def NatOwnUptoCardSaid : Prop := Claim7.holds Tryz.pinned (.plain (OpenSpec.upto natOwnSpec)) natOwnUptoCard

/-- THE SECOND FORM's CARD OF 'victuallerlaw1.FracOwn'. -/
def fracOwnUptoCard : Claim7 := { stood := { row := fracOwnUptoRow, standIns := [], harness := (true, "0619553e1eb1513236e22f2c49bf27d3bb72a336258600023bf4eacb64f867e5"), looks := true }, kinds := [], alts := [], laidByText := true, laidKinds := [.data, .data, .data, .data, .sentinel, .sentinel, .pinned], laidTests := true, laidLooks := .later }
def FracOwnUptoCardSaid : Prop := Claim7.holds Tryz.pinned (.plain (OpenSpec.upto fracOwnSpec)) fracOwnUptoCard
end Rows
end Go.Proofs.YtegpelhgkoaaoaaGreatDoor
