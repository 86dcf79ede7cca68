/-
  DERIVED. GIVEN WITH THE SEED: THE CARDS: each row of YtenkpmofobdpbaaGreatDoorRows.lean that lists a variable, with what it lists TIED to the program's text (the seventh form; the later family's looks); each row that meets fmt, with fmt's text TOLD by the authors' own Lean function (tested against real Go, not proved from fmt's source: count such statements apart). THE CARD IS WHAT COUNTS. Prove the row's statement (the work); the ties are given (YtenkpmofobdpbaaGreatDoorTie.lean); close each card by the builder's one call (the guide's Derived/Test/ToyasCard.lean, 'card_holds'). Laid BY PROGRAM, IN A SANDBOX (cutbox-door.mjs). By AI agents, Wed Nov 11 2026. No macro, syntax, notation, axiom, sorry.
-/
import Derived.Test.YtenkpmofobdpbaaGreatDoorRows
import GoSem.ClaimSeven
namespace Go.Proofs.YtenkpmofobdpbaaGreatDoor
namespace Rows

/-- THE TIED CARD OF 'victuallerlaw1.BitsMul'. -/
def bitsMulCard : Claim7 := { stood := { row := bitsMulRow, standIns := [], harness := (true, "253b57eadd3dac175a9b983a8404b854ad147346068da183cc0ff4d60f08c2f4"), looks := true }, kinds := [], alts := [], laidByText := true, laidKinds := [.data, .data, .data, .data, .sentinel, .sentinel, .pinned], laidTests := true, laidLooks := .later }
def BitsMulCardSaid : Prop := Claim7.holds Tryz.pinned (.plain (OpenSpec.ofChange bitsMulSpec)) bitsMulCard

/-- THE TIED CARD OF 'victuallerlaw1.NatText'. -/
def natTextCard : Claim7 := { stood := { row := natTextRow, standIns := [], harness := (true, "253b57eadd3dac175a9b983a8404b854ad147346068da183cc0ff4d60f08c2f4"), looks := true }, kinds := [], alts := [], laidByText := true, laidKinds := [.data, .data, .data, .data, .sentinel, .sentinel, .pinned], laidTests := true, laidLooks := .later }
def NatTextCardSaid : Prop := Claim7.holds Tryz.pinned (.plain (OpenSpec.ofChange natTextSpec)) natTextCard

/-- THE TIED CARD OF 'victuallerlaw1.FracText'. -/
def fracTextCard : Claim7 := { stood := { row := fracTextRow, standIns := [], harness := (true, "253b57eadd3dac175a9b983a8404b854ad147346068da183cc0ff4d60f08c2f4"), looks := true }, kinds := [], alts := [], laidByText := true, laidKinds := [.data, .data, .data, .data, .sentinel, .sentinel, .pinned], laidTests := true, laidLooks := .later }
def FracTextCardSaid : Prop := Claim7.holds Tryz.pinned (.plain (OpenSpec.ofChange fracTextSpec)) fracTextCard

/-- THE TIED CARD OF 'victuallerlaw1.BitsTwo'. -/
def bitsTwoCard : Claim7 := { stood := { row := bitsTwoRow, standIns := [], harness := (true, "253b57eadd3dac175a9b983a8404b854ad147346068da183cc0ff4d60f08c2f4"), looks := true }, kinds := [], alts := [], laidByText := true, laidKinds := [.data, .data, .data, .data, .sentinel, .sentinel, .pinned], laidTests := true, laidLooks := .later }
def BitsTwoCardSaid : Prop := Claim7.holds Tryz.pinned (.plain (OpenSpec.ofChange bitsTwoSpec)) bitsTwoCard

/-- THE TIED CARD OF 'victuallerlaw1.NatLong'. -/
def natLongCard : Claim7 := { stood := { row := natLongRow, standIns := [], harness := (true, "253b57eadd3dac175a9b983a8404b854ad147346068da183cc0ff4d60f08c2f4"), looks := true }, kinds := [], alts := [], laidByText := true, laidKinds := [.data, .data, .data, .data, .sentinel, .sentinel, .pinned], laidTests := true, laidLooks := .later }
def NatLongCardSaid : Prop := Claim7.holds Tryz.pinned (.plain (OpenSpec.ofChange natLongSpec)) natLongCard

/-- THE TIED CARD OF 'victuallerlaw1.LitTurn'. -/
def litTurnCard : Claim7 := { stood := { row := litTurnRow, standIns := [], harness := (true, "253b57eadd3dac175a9b983a8404b854ad147346068da183cc0ff4d60f08c2f4"), looks := true }, kinds := [], alts := [], laidByText := true, laidKinds := [.data, .data, .data, .data, .sentinel, .sentinel, .pinned], laidTests := true, laidLooks := .later }
def LitTurnCardSaid : Prop := Claim7.holds Tryz.pinned (.plain (OpenSpec.ofChange litTurnSpec)) litTurnCard

/-- THE SECOND FORM's CARD OF 'victuallerlaw1.BitsMul'. -/
def bitsMulUptoCard : Claim7 := { stood := { row := bitsMulUptoRow, standIns := [], harness := (true, "253b57eadd3dac175a9b983a8404b854ad147346068da183cc0ff4d60f08c2f4"), looks := true }, kinds := [], alts := [], laidByText := true, laidKinds := [.data, .data, .data, .data, .sentinel, .sentinel, .pinned], laidTests := true, laidLooks := .later }
def BitsMulUptoCardSaid : Prop := Claim7.holds Tryz.pinned (.plain (OpenSpec.upto bitsMulSpec)) bitsMulUptoCard

/-- THE SECOND FORM's CARD OF 'victuallerlaw1.NatText'. -/
def natTextUptoCard : Claim7 := { stood := { row := natTextUptoRow, standIns := [], harness := (true, "253b57eadd3dac175a9b983a8404b854ad147346068da183cc0ff4d60f08c2f4"), looks := true }, kinds := [], alts := [], laidByText := true, laidKinds := [.data, .data, .data, .data, .sentinel, .sentinel, .pinned], laidTests := true, laidLooks := .later }
def NatTextUptoCardSaid : Prop := Claim7.holds Tryz.pinned (.plain (OpenSpec.upto natTextSpec)) natTextUptoCard

/-- THE SECOND FORM's CARD OF 'victuallerlaw1.FracText'. -/
def fracTextUptoCard : Claim7 := { stood := { row := fracTextUptoRow, standIns := [], harness := (true, "253b57eadd3dac175a9b983a8404b854ad147346068da183cc0ff4d60f08c2f4"), looks := true }, kinds := [], alts := [], laidByText := true, laidKinds := [.data, .data, .data, .data, .sentinel, .sentinel, .pinned], laidTests := true, laidLooks := .later }
def FracTextUptoCardSaid : Prop := Claim7.holds Tryz.pinned (.plain (OpenSpec.upto fracTextSpec)) fracTextUptoCard

/-- THE SECOND FORM's CARD OF 'victuallerlaw1.BitsTwo'. -/
def bitsTwoUptoCard : Claim7 := { stood := { row := bitsTwoUptoRow, standIns := [], harness := (true, "253b57eadd3dac175a9b983a8404b854ad147346068da183cc0ff4d60f08c2f4"), looks := true }, kinds := [], alts := [], laidByText := true, laidKinds := [.data, .data, .data, .data, .sentinel, .sentinel, .pinned], laidTests := true, laidLooks := .later }
def BitsTwoUptoCardSaid : Prop := Claim7.holds Tryz.pinned (.plain (OpenSpec.upto bitsTwoSpec)) bitsTwoUptoCard

/-- THE SECOND FORM's CARD OF 'victuallerlaw1.NatLong'. -/
def natLongUptoCard : Claim7 := { stood := { row := natLongUptoRow, standIns := [], harness := (true, "253b57eadd3dac175a9b983a8404b854ad147346068da183cc0ff4d60f08c2f4"), looks := true }, kinds := [], alts := [], laidByText := true, laidKinds := [.data, .data, .data, .data, .sentinel, .sentinel, .pinned], laidTests := true, laidLooks := .later }
def NatLongUptoCardSaid : Prop := Claim7.holds Tryz.pinned (.plain (OpenSpec.upto natLongSpec)) natLongUptoCard

/-- THE SECOND FORM's CARD OF 'victuallerlaw1.LitTurn'. -/
def litTurnUptoCard : Claim7 := { stood := { row := litTurnUptoRow, standIns := [], harness := (true, "253b57eadd3dac175a9b983a8404b854ad147346068da183cc0ff4d60f08c2f4"), looks := true }, kinds := [], alts := [], laidByText := true, laidKinds := [.data, .data, .data, .data, .sentinel, .sentinel, .pinned], laidTests := true, laidLooks := .later }
def LitTurnUptoCardSaid : Prop := Claim7.holds Tryz.pinned (.plain (OpenSpec.upto litTurnSpec)) litTurnUptoCard
end Rows
end Go.Proofs.YtenkpmofobdpbaaGreatDoor
