/-
  DERIVED. GIVEN WITH THE SEED: THE CARDS: each row of YtohjljbhfopffaaGreatDoorRows.lean that lists a variable, with what it lists TIED to the program's text (the seventh form; the later family's looks); each row that meets fmt, with fmt's text TOLD by the authors' own Lean function (tested against real Go, not proved from fmt's source: count such statements apart). THE CARD IS WHAT COUNTS. Prove the row's statement (the work); the ties are given (YtohjljbhfopffaaGreatDoorTie.lean); close each card by the builder's one call (the guide's Derived/Test/ToyasCard.lean, 'card_holds'). Laid BY PROGRAM, IN A SANDBOX (cutbox-door.mjs). By AI agents, Wed Nov 11 2026. No macro, syntax, notation, axiom, sorry.
-/
import Derived.Test.YtohjljbhfopffaaGreatDoorRows
import GoSem.ClaimSeven
namespace Go.Proofs.YtohjljbhfopffaaGreatDoor
namespace Rows

/-- THE TIED CARD OF 'victuallerlaw1.FracText'. -/
def fracTextCard : Claim7 := { stood := { row := fracTextRow, standIns := [], harness := (true, "5311745b30fd4ab793c94450f94553b4194d6ddaaa19f661c4ab2f27b72fed18"), looks := true }, kinds := [], alts := [], laidByText := true, laidKinds := [.data, .data, .data, .data, .sentinel, .sentinel, .pinned], laidTests := true, laidLooks := .later }
def FracTextCardSaid : Prop := Claim7.holds Tryz.pinned (.plain (OpenSpec.ofChange fracTextSpec)) fracTextCard

/-- THE TIED CARD OF 'victuallerlaw1.NatLong'. -/
def natLongCard : Claim7 := { stood := { row := natLongRow, standIns := [], harness := (true, "5311745b30fd4ab793c94450f94553b4194d6ddaaa19f661c4ab2f27b72fed18"), looks := true }, kinds := [], alts := [], laidByText := true, laidKinds := [.data, .data, .data, .data, .sentinel, .sentinel, .pinned], laidTests := true, laidLooks := .later }
def NatLongCardSaid : Prop := Claim7.holds Tryz.pinned (.plain (OpenSpec.ofChange natLongSpec)) natLongCard

/-- THE TIED CARD OF 'victuallerlaw1.BitsSigned'. -/
def bitsSignedCard : Claim7 := { stood := { row := bitsSignedRow, standIns := [], harness := (true, "5311745b30fd4ab793c94450f94553b4194d6ddaaa19f661c4ab2f27b72fed18"), looks := true }, kinds := [], alts := [], laidByText := true, laidKinds := [.data, .data, .data, .data, .sentinel, .sentinel, .pinned], laidTests := true, laidLooks := .later }
def BitsSignedCardSaid : Prop := Claim7.holds Tryz.pinned (.plain (OpenSpec.ofChange bitsSignedSpec)) bitsSignedCard

/-- THE TIED CARD OF 'victuallerlaw1.LitTurn'. -/
def litTurnCard : Claim7 := { stood := { row := litTurnRow, standIns := [], harness := (true, "5311745b30fd4ab793c94450f94553b4194d6ddaaa19f661c4ab2f27b72fed18"), looks := true }, kinds := [], alts := [], laidByText := true, laidKinds := [.data, .data, .data, .data, .sentinel, .sentinel, .pinned], laidTests := true, laidLooks := .later }
def LitTurnCardSaid : Prop := Claim7.holds Tryz.pinned (.plain (OpenSpec.ofChange litTurnSpec)) litTurnCard

/-- THE TIED CARD OF 'victuallerlaw1.LitForms'. -/
def litFormsCard : Claim7 := { stood := { row := litFormsRow, standIns := [], harness := (true, "5311745b30fd4ab793c94450f94553b4194d6ddaaa19f661c4ab2f27b72fed18"), looks := true }, kinds := [], alts := [], laidByText := true, laidKinds := [.data, .data, .data, .data, .sentinel, .sentinel, .pinned], laidTests := true, laidLooks := .later }
def LitFormsCardSaid : Prop := Claim7.holds Tryz.pinned (.plain (OpenSpec.ofChange litFormsSpec)) litFormsCard

/-- THE TIED CARD OF 'victuallerlaw1.NatFar'. -/
def natFarCard : Claim7 := { stood := { row := natFarRow, standIns := [], harness := (true, "5311745b30fd4ab793c94450f94553b4194d6ddaaa19f661c4ab2f27b72fed18"), looks := true }, kinds := [], alts := [], laidByText := true, laidKinds := [.data, .data, .data, .data, .sentinel, .sentinel, .pinned], laidTests := true, laidLooks := .later }
def NatFarCardSaid : Prop := Claim7.holds Tryz.pinned (.plain (OpenSpec.ofChange natFarSpec)) natFarCard

/-- THE TIED CARD OF 'victuallerlaw1.MatNone'. -/
def matNoneCard : Claim7 := { stood := { row := matNoneRow, standIns := [], harness := (true, "5311745b30fd4ab793c94450f94553b4194d6ddaaa19f661c4ab2f27b72fed18"), looks := true }, kinds := [], alts := [], laidByText := true, laidKinds := [.data, .data, .data, .data, .sentinel, .sentinel, .pinned], laidTests := true, laidLooks := .later }
def MatNoneCardSaid : Prop := Claim7.holds Tryz.pinned (.plain (OpenSpec.ofChange matNoneSpec)) matNoneCard

/-- THE TIED CARD OF 'victuallerlaw1.BitsEdges'. -/
def bitsEdgesCard : Claim7 := { stood := { row := bitsEdgesRow, standIns := [], harness := (true, "5311745b30fd4ab793c94450f94553b4194d6ddaaa19f661c4ab2f27b72fed18"), looks := true }, kinds := [], alts := [], laidByText := true, laidKinds := [.data, .data, .data, .data, .sentinel, .sentinel, .pinned], laidTests := true, laidLooks := .later }
def BitsEdgesCardSaid : Prop := Claim7.holds Tryz.pinned (.plain (OpenSpec.ofChange bitsEdgesSpec)) bitsEdgesCard

/-- THE SECOND FORM's CARD OF 'victuallerlaw1.FracText'. -/
def fracTextUptoCard : Claim7 := { stood := { row := fracTextUptoRow, standIns := [], harness := (true, "5311745b30fd4ab793c94450f94553b4194d6ddaaa19f661c4ab2f27b72fed18"), looks := true }, kinds := [], alts := [], laidByText := true, laidKinds := [.data, .data, .data, .data, .sentinel, .sentinel, .pinned], laidTests := true, laidLooks := .later }
def FracTextUptoCardSaid : Prop := Claim7.holds Tryz.pinned (.plain (OpenSpec.upto fracTextSpec)) fracTextUptoCard

/-- THE SECOND FORM's CARD OF 'victuallerlaw1.NatLong'. -/
def natLongUptoCard : Claim7 := { stood := { row := natLongUptoRow, standIns := [], harness := (true, "5311745b30fd4ab793c94450f94553b4194d6ddaaa19f661c4ab2f27b72fed18"), looks := true }, kinds := [], alts := [], laidByText := true, laidKinds := [.data, .data, .data, .data, .sentinel, .sentinel, .pinned], laidTests := true, laidLooks := .later }
def NatLongUptoCardSaid : Prop := Claim7.holds Tryz.pinned (.plain (OpenSpec.upto natLongSpec)) natLongUptoCard

/-- THE SECOND FORM's CARD OF 'victuallerlaw1.BitsSigned'. -/
def bitsSignedUptoCard : Claim7 := { stood := { row := bitsSignedUptoRow, standIns := [], harness := (true, "5311745b30fd4ab793c94450f94553b4194d6ddaaa19f661c4ab2f27b72fed18"), looks := true }, kinds := [], alts := [], laidByText := true, laidKinds := [.data, .data, .data, .data, .sentinel, .sentinel, .pinned], laidTests := true, laidLooks := .later }
def BitsSignedUptoCardSaid : Prop := Claim7.holds Tryz.pinned (.plain (OpenSpec.upto bitsSignedSpec)) bitsSignedUptoCard

/-- THE SECOND FORM's CARD OF 'victuallerlaw1.LitTurn'. -/
def litTurnUptoCard : Claim7 := { stood := { row := litTurnUptoRow, standIns := [], harness := (true, "5311745b30fd4ab793c94450f94553b4194d6ddaaa19f661c4ab2f27b72fed18"), looks := true }, kinds := [], alts := [], laidByText := true, laidKinds := [.data, .data, .data, .data, .sentinel, .sentinel, .pinned], laidTests := true, laidLooks := .later }
def LitTurnUptoCardSaid : Prop := Claim7.holds Tryz.pinned (.plain (OpenSpec.upto litTurnSpec)) litTurnUptoCard

/-- THE SECOND FORM's CARD OF 'victuallerlaw1.LitForms'. -/
def litFormsUptoCard : Claim7 := { stood := { row := litFormsUptoRow, standIns := [], harness := (true, "5311745b30fd4ab793c94450f94553b4194d6ddaaa19f661c4ab2f27b72fed18"), looks := true }, kinds := [], alts := [], laidByText := true, laidKinds := [.data, .data, .data, .data, .sentinel, .sentinel, .pinned], laidTests := true, laidLooks := .later }
def LitFormsUptoCardSaid : Prop := Claim7.holds Tryz.pinned (.plain (OpenSpec.upto litFormsSpec)) litFormsUptoCard

/-- THE SECOND FORM's CARD OF 'victuallerlaw1.NatFar'. -/
def natFarUptoCard : Claim7 := { stood := { row := natFarUptoRow, standIns := [], harness := (true, "5311745b30fd4ab793c94450f94553b4194d6ddaaa19f661c4ab2f27b72fed18"), looks := true }, kinds := [], alts := [], laidByText := true, laidKinds := [.data, .data, .data, .data, .sentinel, .sentinel, .pinned], laidTests := true, laidLooks := .later }
def NatFarUptoCardSaid : Prop := Claim7.holds Tryz.pinned (.plain (OpenSpec.upto natFarSpec)) natFarUptoCard

/-- THE SECOND FORM's CARD OF 'victuallerlaw1.MatNone'. -/
def matNoneUptoCard : Claim7 := { stood := { row := matNoneUptoRow, standIns := [], harness := (true, "5311745b30fd4ab793c94450f94553b4194d6ddaaa19f661c4ab2f27b72fed18"), looks := true }, kinds := [], alts := [], laidByText := true, laidKinds := [.data, .data, .data, .data, .sentinel, .sentinel, .pinned], laidTests := true, laidLooks := .later }
def MatNoneUptoCardSaid : Prop := Claim7.holds Tryz.pinned (.plain (OpenSpec.upto matNoneSpec)) matNoneUptoCard

/-- THE SECOND FORM's CARD OF 'victuallerlaw1.BitsEdges'. -/
def bitsEdgesUptoCard : Claim7 := { stood := { row := bitsEdgesUptoRow, standIns := [], harness := (true, "5311745b30fd4ab793c94450f94553b4194d6ddaaa19f661c4ab2f27b72fed18"), looks := true }, kinds := [], alts := [], laidByText := true, laidKinds := [.data, .data, .data, .data, .sentinel, .sentinel, .pinned], laidTests := true, laidLooks := .later }
def BitsEdgesUptoCardSaid : Prop := Claim7.holds Tryz.pinned (.plain (OpenSpec.upto bitsEdgesSpec)) bitsEdgesUptoCard
end Rows
end Go.Proofs.YtohjljbhfopffaaGreatDoor
