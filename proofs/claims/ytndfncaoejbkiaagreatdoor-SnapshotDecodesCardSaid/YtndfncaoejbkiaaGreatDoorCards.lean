/-
  DERIVED. GIVEN WITH THE SEED: THE CARDS: each row of YtndfncaoejbkiaaGreatDoorRows.lean that lists a variable, with what it lists TIED to the program's text (the seventh form; the later family's looks); each row that meets fmt, with fmt's text TOLD by the authors' own Lean function (tested against real Go, not proved from fmt's source: count such statements apart). THE CARD IS WHAT COUNTS. Prove the row's statement (the work); the ties are given (YtndfncaoejbkiaaGreatDoorTie.lean); close each card by the builder's one call (the guide's Derived/Test/ToyasCard.lean, 'card_holds'). Laid BY PROGRAM, IN A SANDBOX (cutbox-door.mjs). By AI agents, Wed Nov 11 2026. No macro, syntax, notation, axiom, sorry.
-/
import Derived.Test.YtndfncaoejbkiaaGreatDoorRows
import GoSem.ClaimSeven
namespace Go.Proofs.YtndfncaoejbkiaaGreatDoor
namespace Rows

/-- THE TIED CARD OF 'saturatelaw22.SnapshotEncodes'. -/
def snapshotEncodesCard : Claim7 := { stood := { row := snapshotEncodesRow, standIns := [], harness := (true, "063bd0f494c557f9c657e57c605b8f47591fe89b47b0db5d466242c36a7f5051"), looks := true }, kinds := [], alts := [], laidByText := true, laidKinds := [.data, .data, .data], laidTests := true, laidLooks := .later }
def SnapshotEncodesCardSaid : Prop := Claim7.holds Tryz.pinned (.plain (OpenSpec.ofChange snapshotEncodesSpec)) snapshotEncodesCard

/-- THE TIED CARD OF 'saturatelaw22.SnapshotDecodes'. -/
def snapshotDecodesCard : Claim7 := { stood := { row := snapshotDecodesRow, standIns := [], harness := (true, "063bd0f494c557f9c657e57c605b8f47591fe89b47b0db5d466242c36a7f5051"), looks := true }, kinds := [], alts := [], laidByText := true, laidKinds := [.data, .data, .data], laidTests := true, laidLooks := .later }
def SnapshotDecodesCardSaid : Prop := Claim7.holds Tryz.pinned (.plain (OpenSpec.ofChange snapshotDecodesSpec)) snapshotDecodesCard

/-- THE TIED CARD OF 'saturatelaw22.SnapshotBack'. -/
def snapshotBackCard : Claim7 := { stood := { row := snapshotBackRow, standIns := [], harness := (true, "063bd0f494c557f9c657e57c605b8f47591fe89b47b0db5d466242c36a7f5051"), looks := true }, kinds := [], alts := [], laidByText := true, laidKinds := [.data, .data, .data], laidTests := true, laidLooks := .later }
def SnapshotBackCardSaid : Prop := Claim7.holds Tryz.pinned (.plain (OpenSpec.ofChange snapshotBackSpec)) snapshotBackCard

/-- THE TIED CARD OF 'saturatelaw22.SnapshotChanges'. -/
def snapshotChangesCard : Claim7 := { stood := { row := snapshotChangesRow, standIns := [], harness := (true, "063bd0f494c557f9c657e57c605b8f47591fe89b47b0db5d466242c36a7f5051"), looks := true }, kinds := [], alts := [], laidByText := true, laidKinds := [.data, .data, .data], laidTests := true, laidLooks := .later }
def SnapshotChangesCardSaid : Prop := Claim7.holds Tryz.pinned (.plain (OpenSpec.ofChange snapshotChangesSpec)) snapshotChangesCard

/-- THE SECOND FORM's CARD OF 'saturatelaw22.SnapshotEncodes'. -/
def snapshotEncodesUptoCard : Claim7 := { stood := { row := snapshotEncodesUptoRow, standIns := [], harness := (true, "063bd0f494c557f9c657e57c605b8f47591fe89b47b0db5d466242c36a7f5051"), looks := true }, kinds := [], alts := [], laidByText := true, laidKinds := [.data, .data, .data], laidTests := true, laidLooks := .later }
def SnapshotEncodesUptoCardSaid : Prop := Claim7.holds Tryz.pinned (.plain (OpenSpec.upto snapshotEncodesSpec)) snapshotEncodesUptoCard

/-- THE SECOND FORM's CARD OF 'saturatelaw22.SnapshotDecodes'. -/
def snapshotDecodesUptoCard : Claim7 := { stood := { row := snapshotDecodesUptoRow, standIns := [], harness := (true, "063bd0f494c557f9c657e57c605b8f47591fe89b47b0db5d466242c36a7f5051"), looks := true }, kinds := [], alts := [], laidByText := true, laidKinds := [.data, .data, .data], laidTests := true, laidLooks := .later }
def SnapshotDecodesUptoCardSaid : Prop := Claim7.holds Tryz.pinned (.plain (OpenSpec.upto snapshotDecodesSpec)) snapshotDecodesUptoCard

/-- THE SECOND FORM's CARD OF 'saturatelaw22.SnapshotBack'. -/
def snapshotBackUptoCard : Claim7 := { stood := { row := snapshotBackUptoRow, standIns := [], harness := (true, "063bd0f494c557f9c657e57c605b8f47591fe89b47b0db5d466242c36a7f5051"), looks := true }, kinds := [], alts := [], laidByText := true, laidKinds := [.data, .data, .data], laidTests := true, laidLooks := .later }
def SnapshotBackUptoCardSaid : Prop := Claim7.holds Tryz.pinned (.plain (OpenSpec.upto snapshotBackSpec)) snapshotBackUptoCard

/-- THE SECOND FORM's CARD OF 'saturatelaw22.SnapshotChanges'. -/
def snapshotChangesUptoCard : Claim7 := { stood := { row := snapshotChangesUptoRow, standIns := [], harness := (true, "063bd0f494c557f9c657e57c605b8f47591fe89b47b0db5d466242c36a7f5051"), looks := true }, kinds := [], alts := [], laidByText := true, laidKinds := [.data, .data, .data], laidTests := true, laidLooks := .later }
def SnapshotChangesUptoCardSaid : Prop := Claim7.holds Tryz.pinned (.plain (OpenSpec.upto snapshotChangesSpec)) snapshotChangesUptoCard
end Rows
end Go.Proofs.YtndfncaoejbkiaaGreatDoor
