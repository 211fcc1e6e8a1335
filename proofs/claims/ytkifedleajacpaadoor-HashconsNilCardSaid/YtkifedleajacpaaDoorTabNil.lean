/- The walks of hashcons.Table's methods for a table that New did not make. -/
import Derived.Test.YtkifedleajacpaaDoorTable
namespace Go.Proofs.YtkifedleajacpaaDoor
open Go.RowKit
set_option maxRecDepth 100000

/-- A nil pointer, or a pointer to a table without a map. -/
def Unmade (w : World) (p : Option Addr) : Prop := p = none ∨ ∃ bt, p = some ⟨bt, 0, none⟩ ∧ w.heap[bt]? = some (.cells #[.map none] 58 (0, 0))
theorem Unmade.fr {w w' : World} {p : Option Addr} (h : Unmade w p) (hf : Fr NoB w w') : Unmade w' p := by
  rcases h with h | ⟨bt, h, hb⟩
  · exact .inl h
  · exact .inr ⟨bt, h, hf.at (fun h => h) hb⟩

theorem made_un (w : World) (p : Option Addr) (h : Unmade w p) : Calls Tryd.prog 45 #[.pointer p] w fun e w' => e = .returned (.bool false) ∧ w' = w := by
  rcases h with rfl | ⟨bt, rfl, hb⟩
  · exact made_nil w
  · exact made_zero w bt (by simp [World.cell?, hb])

theorem get_un (w : World) (p : Option Addr) (h : Unmade w p) (n : Node) (s : Value) : Calls Tryd.prog 29 #[.pointer p, nodeV n s] w fun e w' => e = .returned (.tuple #[.int .i64 0, .bool false]) ∧ Fr NoB w w' := by
  have HP := hid (h.fr ((Fr.refl NoB w).alloc (.cells (nodeCells n s) 26)))
  clear h
  go_enter Tryd.func29, Tryd.ntmps29
  go_wp2_with (go_at_call 45; refine (made_un _ p HP.out).mono ?_; rintro e w' ⟨rfl, rfl⟩)
  go_ret2
  exact ⟨rfl, (Fr.refl NoB w).alloc _⟩
theorem put_un (w : World) (p : Option Addr) (h : Unmade w p) (n : Node) (s : Value) (x : Value) : Calls Tryd.prog 25 #[.pointer p, nodeV n s, x] w fun e w' => e = .returned (.bool false) ∧ Fr NoB w w' := by
  have HP := hid (h.fr ((Fr.refl NoB w).alloc (.cells (nodeCells n s) 26)))
  clear h
  go_enter Tryd.func25, Tryd.ntmps25
  go_wp2_with (go_at_call 45; refine (made_un _ p HP.out).mono ?_; rintro e w' ⟨rfl, rfl⟩)
  go_ret
  exact ⟨rfl, (Fr.refl NoB w).alloc _⟩
theorem del_un (w : World) (p : Option Addr) (h : Unmade w p) (n : Node) (s : Value) : Calls Tryd.prog 27 #[.pointer p, nodeV n s] w fun e w' => e = .returned (.bool false) ∧ Fr NoB w w' := by
  have HP := hid (h.fr ((Fr.refl NoB w).alloc (.cells (nodeCells n s) 26)))
  clear h
  go_enter Tryd.func27, Tryd.ntmps27
  go_wp2_with (go_at_call 45; refine (made_un _ p HP.out).mono ?_; rintro e w' ⟨rfl, rfl⟩)
  go_ret
  exact ⟨rfl, (Fr.refl NoB w).alloc _⟩
theorem len_un (w : World) (p : Option Addr) (h : Unmade w p) : Calls Tryd.prog 31 #[.pointer p] w fun e w' => e = .returned (.int .i64 0) ∧ w' = w := by
  have HP := hid h
  clear h
  go_enter Tryd.func31, Tryd.ntmps31
  go_wp2_with (go_at_call 45; refine (made_un _ p HP.out).mono ?_; rintro e w' ⟨rfl, rfl⟩)
  go_ret
  exact ⟨rfl, rfl⟩
theorem nodes_un (w : World) (p : Option Addr) (h : Unmade w p) : Calls Tryd.prog 33 #[.pointer p] w fun e w' => e = .returned (.slice none 0 0) ∧ w' = w := by
  have HP := hid h
  clear h
  go_enter Tryd.func33, Tryd.ntmps33
  go_wp2_with (go_at_call 45; refine (made_un _ p HP.out).mono ?_; rintro e w' ⟨rfl, rfl⟩)
  go_ret
  exact ⟨rfl, rfl⟩

end Go.Proofs.YtkifedleajacpaaDoor
