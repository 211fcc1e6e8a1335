/-
  DERIVED. GIVEN WITH THE SEED: THE CARDS: each row of YtlekoceindepnaaGreatDoorRows.lean that lists a variable, with what it lists TIED to the program's text (the seventh form; the later family's looks); each row that meets fmt, with fmt's text TOLD by the authors' own Lean function (tested against real Go, not proved from fmt's source: count such statements apart). THE CARD IS WHAT COUNTS. Prove the row's statement (the work); the ties are given (YtlekoceindepnaaGreatDoorTie.lean); close each card by the builder's one call (the guide's Derived/Test/ToyasCard.lean, 'card_holds'). Laid BY PROGRAM, IN A SANDBOX (cutbox-door.mjs). By AI agents, Wed Nov 11 2026. No macro, syntax, notation, axiom, sorry.
-/
import Derived.Test.YtlekoceindepnaaGreatDoorRows
import GoSem.ClaimSeven
namespace Go.Proofs.YtlekoceindepnaaGreatDoor
namespace Rows

/-- THE TIED CARD OF 'saturatelaw18.EgraphNone'. -/
def egraphNoneCard : Claim7 := { stood := { row := egraphNoneRow, standIns := [], harness := (true, "425868dce5aadf994edf7b478edc893ed561e70a76cd97aa41c2bf35b5274a6c"), looks := false }, kinds := [], alts := [], laidByText := true, laidKinds := [.data, .data, .data], laidTests := true, laidLooks := .later }
def EgraphNoneCardSaid : Prop := Claim7.holds Tryz.pinned (.plain (OpenSpec.ofChange egraphNoneSpec)) egraphNoneCard

/-- THE SECOND FORM's CARD OF 'saturatelaw18.EgraphNone'. -/
def egraphNoneUptoCard : Claim7 := { stood := { row := egraphNoneUptoRow, standIns := [], harness := (true, "425868dce5aadf994edf7b478edc893ed561e70a76cd97aa41c2bf35b5274a6c"), looks := false }, kinds := [], alts := [], laidByText := true, laidKinds := [.data, .data, .data], laidTests := true, laidLooks := .later }
def EgraphNoneUptoCardSaid : Prop := Claim7.holds Tryz.pinned (.plain (OpenSpec.upto egraphNoneSpec)) egraphNoneUptoCard
end Rows
end Go.Proofs.YtlekoceindepnaaGreatDoor
