/-
  DERIVED. GIVEN WITH THE SEED: THE CARDS: each row of YtkifedleajacpaaDoorRows.lean that lists a variable, with what it lists TIED to the program's text (the seventh form; the later family's looks); each row that meets fmt, with fmt's text TOLD by the authors' own Lean function (tested against real Go, not proved from fmt's source: count such statements apart). THE CARD IS WHAT COUNTS. Prove the row's statement (the work); the ties are given (YtkifedleajacpaaDoorTie.lean); close each card by the builder's one call (the guide's Derived/Test/ToyasCard.lean, 'card_holds'). Laid BY PROGRAM, IN A SANDBOX (cutbox-door.mjs). By AI agents, Wed Nov 11 2026. No macro, syntax, notation, axiom, sorry.
-/
import Derived.Test.YtkifedleajacpaaDoorRows
import GoSem.ClaimSeven
namespace Go.Proofs.YtkifedleajacpaaDoor
namespace Rows

/-- THE TIED CARD OF 'saturatelaw16.HashconsKeys'. -/
def hashconsKeysCard : Claim7 := { stood := { row := hashconsKeysRow, standIns := [], harness := (true, "5fa2bae06bd64c169923faa58b61ab78d3e94aa1e20157bd0ccea3960820e97a"), looks := false }, kinds := [], alts := [], laidByText := true, laidKinds := [.data, .data, .data], laidTests := true, laidLooks := .later }
def HashconsKeysCardSaid : Prop := Claim7.holds Tryd.pinned (.plain (OpenSpec.ofChange hashconsKeysSpec)) hashconsKeysCard

/-- THE TIED CARD OF 'saturatelaw16.HashconsCanons'. -/
def hashconsCanonsCard : Claim7 := { stood := { row := hashconsCanonsRow, standIns := [], harness := (true, "5fa2bae06bd64c169923faa58b61ab78d3e94aa1e20157bd0ccea3960820e97a"), looks := false }, kinds := [], alts := [], laidByText := true, laidKinds := [.data, .data, .data], laidTests := true, laidLooks := .later }
def HashconsCanonsCardSaid : Prop := Claim7.holds Tryd.pinned (.plain (OpenSpec.ofChange hashconsCanonsSpec)) hashconsCanonsCard

/-- THE TIED CARD OF 'saturatelaw16.HashconsCopies'. -/
def hashconsCopiesCard : Claim7 := { stood := { row := hashconsCopiesRow, standIns := [], harness := (true, "5fa2bae06bd64c169923faa58b61ab78d3e94aa1e20157bd0ccea3960820e97a"), looks := false }, kinds := [], alts := [], laidByText := true, laidKinds := [.data, .data, .data], laidTests := true, laidLooks := .later }
def HashconsCopiesCardSaid : Prop := Claim7.holds Tryd.pinned (.plain (OpenSpec.ofChange hashconsCopiesSpec)) hashconsCopiesCard

/-- THE TIED CARD OF 'saturatelaw16.HashconsCompares'. -/
def hashconsComparesCard : Claim7 := { stood := { row := hashconsComparesRow, standIns := [], harness := (true, "5fa2bae06bd64c169923faa58b61ab78d3e94aa1e20157bd0ccea3960820e97a"), looks := false }, kinds := [], alts := [], laidByText := true, laidKinds := [.data, .data, .data], laidTests := true, laidLooks := .later }
def HashconsComparesCardSaid : Prop := Claim7.holds Tryd.pinned (.plain (OpenSpec.ofChange hashconsComparesSpec)) hashconsComparesCard

/-- THE TIED CARD OF 'saturatelaw16.HashconsOrders'. -/
def hashconsOrdersCard : Claim7 := { stood := { row := hashconsOrdersRow, standIns := [], harness := (true, "5fa2bae06bd64c169923faa58b61ab78d3e94aa1e20157bd0ccea3960820e97a"), looks := false }, kinds := [], alts := [], laidByText := true, laidKinds := [.data, .data, .data], laidTests := true, laidLooks := .later }
def HashconsOrdersCardSaid : Prop := Claim7.holds Tryd.pinned (.plain (OpenSpec.ofChange hashconsOrdersSpec)) hashconsOrdersCard

/-- THE TIED CARD OF 'saturatelaw16.HashconsPlays'. -/
def hashconsPlaysCard : Claim7 := { stood := { row := hashconsPlaysRow, standIns := [], harness := (true, "5fa2bae06bd64c169923faa58b61ab78d3e94aa1e20157bd0ccea3960820e97a"), looks := false }, kinds := [], alts := [], laidByText := true, laidKinds := [.data, .data, .data], laidTests := true, laidLooks := .later }
def HashconsPlaysCardSaid : Prop := Claim7.holds Tryd.pinned (.plain (OpenSpec.ofChange hashconsPlaysSpec)) hashconsPlaysCard

/-- THE TIED CARD OF 'saturatelaw16.HashconsOwns'. -/
def hashconsOwnsCard : Claim7 := { stood := { row := hashconsOwnsRow, standIns := [], harness := (true, "5fa2bae06bd64c169923faa58b61ab78d3e94aa1e20157bd0ccea3960820e97a"), looks := false }, kinds := [], alts := [], laidByText := true, laidKinds := [.data, .data, .data], laidTests := true, laidLooks := .later }
def HashconsOwnsCardSaid : Prop := Claim7.holds Tryd.pinned (.plain (OpenSpec.ofChange hashconsOwnsSpec)) hashconsOwnsCard

/-- THE TIED CARD OF 'saturatelaw16.HashconsNil'. -/
def hashconsNilCard : Claim7 := { stood := { row := hashconsNilRow, standIns := [], harness := (true, "5fa2bae06bd64c169923faa58b61ab78d3e94aa1e20157bd0ccea3960820e97a"), looks := false }, kinds := [], alts := [], laidByText := true, laidKinds := [.data, .data, .data], laidTests := true, laidLooks := .later }
def HashconsNilCardSaid : Prop := Claim7.holds Tryd.pinned (.plain (OpenSpec.ofChange hashconsNilSpec)) hashconsNilCard

/-- THE SECOND FORM's CARD OF 'saturatelaw16.HashconsKeys'. -/
def hashconsKeysUptoCard : Claim7 := { stood := { row := hashconsKeysUptoRow, standIns := [], harness := (true, "5fa2bae06bd64c169923faa58b61ab78d3e94aa1e20157bd0ccea3960820e97a"), looks := false }, kinds := [], alts := [], laidByText := true, laidKinds := [.data, .data, .data], laidTests := true, laidLooks := .later }
def HashconsKeysUptoCardSaid : Prop := Claim7.holds Tryd.pinned (.plain (OpenSpec.upto hashconsKeysSpec)) hashconsKeysUptoCard

/-- THE SECOND FORM's CARD OF 'saturatelaw16.HashconsCanons'. -/
def hashconsCanonsUptoCard : Claim7 := { stood := { row := hashconsCanonsUptoRow, standIns := [], harness := (true, "5fa2bae06bd64c169923faa58b61ab78d3e94aa1e20157bd0ccea3960820e97a"), looks := false }, kinds := [], alts := [], laidByText := true, laidKinds := [.data, .data, .data], laidTests := true, laidLooks := .later }
def HashconsCanonsUptoCardSaid : Prop := Claim7.holds Tryd.pinned (.plain (OpenSpec.upto hashconsCanonsSpec)) hashconsCanonsUptoCard

/-- THE SECOND FORM's CARD OF 'saturatelaw16.HashconsCopies'. -/
def hashconsCopiesUptoCard : Claim7 := { stood := { row := hashconsCopiesUptoRow, standIns := [], harness := (true, "5fa2bae06bd64c169923faa58b61ab78d3e94aa1e20157bd0ccea3960820e97a"), looks := false }, kinds := [], alts := [], laidByText := true, laidKinds := [.data, .data, .data], laidTests := true, laidLooks := .later }
def HashconsCopiesUptoCardSaid : Prop := Claim7.holds Tryd.pinned (.plain (OpenSpec.upto hashconsCopiesSpec)) hashconsCopiesUptoCard

/-- THE SECOND FORM's CARD OF 'saturatelaw16.HashconsCompares'. -/
def hashconsComparesUptoCard : Claim7 := { stood := { row := hashconsComparesUptoRow, standIns := [], harness := (true, "5fa2bae06bd64c169923faa58b61ab78d3e94aa1e20157bd0ccea3960820e97a"), looks := false }, kinds := [], alts := [], laidByText := true, laidKinds := [.data, .data, .data], laidTests := true, laidLooks := .later }
def HashconsComparesUptoCardSaid : Prop := Claim7.holds Tryd.pinned (.plain (OpenSpec.upto hashconsComparesSpec)) hashconsComparesUptoCard

/-- THE SECOND FORM's CARD OF 'saturatelaw16.HashconsOrders'. -/
def hashconsOrdersUptoCard : Claim7 := { stood := { row := hashconsOrdersUptoRow, standIns := [], harness := (true, "5fa2bae06bd64c169923faa58b61ab78d3e94aa1e20157bd0ccea3960820e97a"), looks := false }, kinds := [], alts := [], laidByText := true, laidKinds := [.data, .data, .data], laidTests := true, laidLooks := .later }
def HashconsOrdersUptoCardSaid : Prop := Claim7.holds Tryd.pinned (.plain (OpenSpec.upto hashconsOrdersSpec)) hashconsOrdersUptoCard

/-- THE SECOND FORM's CARD OF 'saturatelaw16.HashconsPlays'. -/
def hashconsPlaysUptoCard : Claim7 := { stood := { row := hashconsPlaysUptoRow, standIns := [], harness := (true, "5fa2bae06bd64c169923faa58b61ab78d3e94aa1e20157bd0ccea3960820e97a"), looks := false }, kinds := [], alts := [], laidByText := true, laidKinds := [.data, .data, .data], laidTests := true, laidLooks := .later }
def HashconsPlaysUptoCardSaid : Prop := Claim7.holds Tryd.pinned (.plain (OpenSpec.upto hashconsPlaysSpec)) hashconsPlaysUptoCard

/-- THE SECOND FORM's CARD OF 'saturatelaw16.HashconsOwns'. -/
def hashconsOwnsUptoCard : Claim7 := { stood := { row := hashconsOwnsUptoRow, standIns := [], harness := (true, "5fa2bae06bd64c169923faa58b61ab78d3e94aa1e20157bd0ccea3960820e97a"), looks := false }, kinds := [], alts := [], laidByText := true, laidKinds := [.data, .data, .data], laidTests := true, laidLooks := .later }
def HashconsOwnsUptoCardSaid : Prop := Claim7.holds Tryd.pinned (.plain (OpenSpec.upto hashconsOwnsSpec)) hashconsOwnsUptoCard

/-- THE SECOND FORM's CARD OF 'saturatelaw16.HashconsNil'. -/
def hashconsNilUptoCard : Claim7 := { stood := { row := hashconsNilUptoRow, standIns := [], harness := (true, "5fa2bae06bd64c169923faa58b61ab78d3e94aa1e20157bd0ccea3960820e97a"), looks := false }, kinds := [], alts := [], laidByText := true, laidKinds := [.data, .data, .data], laidTests := true, laidLooks := .later }
def HashconsNilUptoCardSaid : Prop := Claim7.holds Tryd.pinned (.plain (OpenSpec.upto hashconsNilSpec)) hashconsNilUptoCard
end Rows
end Go.Proofs.YtkifedleajacpaaDoor
