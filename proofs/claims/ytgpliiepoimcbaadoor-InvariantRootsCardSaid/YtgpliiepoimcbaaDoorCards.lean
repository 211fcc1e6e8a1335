/-
  DERIVED. GIVEN WITH THE SEED: THE CARDS: each row of YtgpliiepoimcbaaDoorRows.lean that lists a variable, with what it lists TIED to the program's text (the seventh form; the later family's looks); each row that meets fmt, with fmt's text TOLD by the authors' own Lean function (tested against real Go, not proved from fmt's source: count such statements apart). THE CARD IS WHAT COUNTS. Prove the row's statement (the work); the ties are given (YtgpliiepoimcbaaDoorTie.lean); close each card by the builder's one call (the guide's Derived/Test/ToyasCard.lean, 'card_holds'). Laid BY PROGRAM, IN A SANDBOX (cutbox-door.mjs). By AI agents, Wed Nov 11 2026. No macro, syntax, notation, axiom, sorry.
-/
import Derived.Test.YtgpliiepoimcbaaDoorRows
import GoSem.ClaimSeven
namespace Go.Proofs.YtgpliiepoimcbaaDoor
namespace Rows

/-- THE TIED CARD OF 'saturatelaw21.InvariantLooks'. -/
def invariantLooksCard : Claim7 := { stood := { row := invariantLooksRow, standIns := [], harness := (true, "27b0080283dea4b3c5c79ddb3acc722ea603d0c11e4b17423f36c3067c9c6f99"), looks := false }, kinds := [], alts := [], laidByText := true, laidKinds := [.data, .data, .data], laidTests := true, laidLooks := .later }
def InvariantLooksCardSaid : Prop := Claim7.holds Tryd.pinned (.plain (OpenSpec.ofChange invariantLooksSpec)) invariantLooksCard

/-- THE TIED CARD OF 'saturatelaw21.InvariantRoots'. -/
def invariantRootsCard : Claim7 := { stood := { row := invariantRootsRow, standIns := [], harness := (true, "27b0080283dea4b3c5c79ddb3acc722ea603d0c11e4b17423f36c3067c9c6f99"), looks := false }, kinds := [], alts := [], laidByText := true, laidKinds := [.data, .data, .data], laidTests := true, laidLooks := .later }
def InvariantRootsCardSaid : Prop := Claim7.holds Tryd.pinned (.plain (OpenSpec.ofChange invariantRootsSpec)) invariantRootsCard

/-- THE TIED CARD OF 'saturatelaw21.InvariantNames'. -/
def invariantNamesCard : Claim7 := { stood := { row := invariantNamesRow, standIns := [], harness := (true, "27b0080283dea4b3c5c79ddb3acc722ea603d0c11e4b17423f36c3067c9c6f99"), looks := false }, kinds := [], alts := [], laidByText := true, laidKinds := [.data, .data, .data], laidTests := true, laidLooks := .later }
def InvariantNamesCardSaid : Prop := Claim7.holds Tryd.pinned (.plain (OpenSpec.ofChange invariantNamesSpec)) invariantNamesCard

/-- THE SECOND FORM's CARD OF 'saturatelaw21.InvariantLooks'. -/
def invariantLooksUptoCard : Claim7 := { stood := { row := invariantLooksUptoRow, standIns := [], harness := (true, "27b0080283dea4b3c5c79ddb3acc722ea603d0c11e4b17423f36c3067c9c6f99"), looks := false }, kinds := [], alts := [], laidByText := true, laidKinds := [.data, .data, .data], laidTests := true, laidLooks := .later }
def InvariantLooksUptoCardSaid : Prop := Claim7.holds Tryd.pinned (.plain (OpenSpec.upto invariantLooksSpec)) invariantLooksUptoCard

/-- THE SECOND FORM's CARD OF 'saturatelaw21.InvariantRoots'. -/
def invariantRootsUptoCard : Claim7 := { stood := { row := invariantRootsUptoRow, standIns := [], harness := (true, "27b0080283dea4b3c5c79ddb3acc722ea603d0c11e4b17423f36c3067c9c6f99"), looks := false }, kinds := [], alts := [], laidByText := true, laidKinds := [.data, .data, .data], laidTests := true, laidLooks := .later }
def InvariantRootsUptoCardSaid : Prop := Claim7.holds Tryd.pinned (.plain (OpenSpec.upto invariantRootsSpec)) invariantRootsUptoCard

/-- THE SECOND FORM's CARD OF 'saturatelaw21.InvariantNames'. -/
def invariantNamesUptoCard : Claim7 := { stood := { row := invariantNamesUptoRow, standIns := [], harness := (true, "27b0080283dea4b3c5c79ddb3acc722ea603d0c11e4b17423f36c3067c9c6f99"), looks := false }, kinds := [], alts := [], laidByText := true, laidKinds := [.data, .data, .data], laidTests := true, laidLooks := .later }
def InvariantNamesUptoCardSaid : Prop := Claim7.holds Tryd.pinned (.plain (OpenSpec.upto invariantNamesSpec)) invariantNamesUptoCard
end Rows
end Go.Proofs.YtgpliiepoimcbaaDoor
