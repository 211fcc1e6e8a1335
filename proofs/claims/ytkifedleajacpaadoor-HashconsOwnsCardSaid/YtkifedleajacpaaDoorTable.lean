/- hashcons.Table: what it holds, and the walks of New, made, Len, Get. -/
import Derived.Test.YtkifedleajacpaaDoorMap
import Derived.Test.YtkifedleajacpaaDoorKeyL
import Derived.Test.YtkifedleajacpaaDoorCanon
import Derived.Deep.RegionHeld3
import Derived.Maps.OwnOps
namespace Go.Proofs.YtkifedleajacpaaDoor
open Go.RowKit
set_option maxRecDepth 100000

/-- An entry of a table: a node, the slice that holds its args, an id. -/
structure TEnt where
  node : Node
  sl : Value
  id : Int

def entV (x : TEnt) : Value := .agg #[.int .i64 x.node.op, .int .i64 x.node.width, .int .u64 x.node.val, .string x.node.name, x.sl, .int .i64 x.id]
def entP (x : TEnt) : ByteArray × Value := (keyB x.node, entV x)

/-- Block bt is a table whose map is block bm, with the entries l; their args lie outside M. -/
structure TableAt (M : Nat → Prop) (w : World) (bt bm : Nat) (l : List TEnt) : Prop where
  head : w.heap[bt]? = some (.cells #[.map (some bm)] 58 (0, 0))
  map : MapIs .string Value.string w bm (l.map entP)
  ents : ∀ x ∈ l, RdI M w x.sl x.node.args ∧ NodeOk x.node ∧ NodeSm x.node

theorem TableAt.fr {M N : Nat → Prop} {w w' : World} {bt bm : Nat} {l : List TEnt} (h : TableAt M w bt bm l) (hf : Fr N w w') (h1 : ¬ N bt) (h2 : ¬ N bm) (hm : ∀ k, k < w.heap.size → N k → M k) : TableAt M w' bt bm l :=
  ⟨hf.at h1 h.head, h.map.fr hf h2, fun x hx => ⟨(h.ents x hx).1.fr hf hm, (h.ents x hx).2⟩⟩
theorem TableAt.cell {M : Nat → Prop} {w : World} {bt bm : Nat} {l : List TEnt} (h : TableAt M w bt bm l) : w.cell? ⟨bt, 0, none⟩ = some (.map (some bm)) := by simp [World.cell?, h.head]
theorem TableAt.lt {M : Nat → Prop} {w : World} {bt bm : Nat} {l : List TEnt} (h : TableAt M w bt bm l) : bt < w.heap.size := (Array.getElem?_eq_some_iff.1 h.head).1

/-- The id of a node. -/
def tget (l : List TEnt) (n : Node) : Option TEnt := l.find? (fun x => decide (nodeCmp x.node n = 0))

theorem mget_ent (n : Node) (hn : NodeOk n) : ∀ (l : List TEnt), (∀ x ∈ l, NodeOk x.node) → mget (l.map entP) (keyB n) = (tget l n).map entV
  | [], _ => rfl
  | x :: l, h => by
    have ih := mget_ent n hn l (fun y hy => h y (by simp [hy]))
    unfold mget tget at *
    by_cases e : x.node = n
    · have e1 : nodeCmp x.node n = 0 := nodeCmp_zero.2 e
      have e2 : (entP x).1 = keyB n := by rw [entP, e]
      simp only [List.map_cons, List.find?_cons, e1, e2, decide_true]
      rfl
    · have e1 : ¬ nodeCmp x.node n = 0 := fun h => e (nodeCmp_zero.1 h)
      have e2 : ¬ (entP x).1 = keyB n := fun h2 => e ((keyB_inj (h x (by simp)) hn).1 h2)
      simp only [List.map_cons, List.find?_cons, e1, e2, decide_false]
      exact ih

theorem new_any (w : World) : Calls Tryd.prog 24 #[] w fun e w' => ∃ bm bt, e = .returned (.pointer (some ⟨bt, 0, none⟩)) ∧ w.heap.size ≤ bm ∧ w.heap.size ≤ bt ∧ bm ≠ bt ∧ (∀ M, TableAt M w' bt bm []) ∧ Fr NoB w w' := by
  have hmm := @run_makeMap Tryd.prog
  go_enter Tryd.func24, Tryd.ntmps24
  go_wp2
  go_ret
  refine ⟨w.heap.size, w.heap.size + 1, rfl, Nat.le_refl _, by omega, by omega, fun M => ⟨at_new' (by simp), (MapIs.new .string Value.string w).fr ((Fr.refl NoB _).alloc _) (fun h => h), fun x hx => by cases hx⟩, ((Fr.refl NoB w).alloc _).alloc _⟩

theorem neqMapNil (w : World) (r : Option Nat) : (binOp .neq 56 (.map r) (.map none)).run Tryd.prog w = .ok (.bool (!r.isNone)) w :=
  run_neq_map_nil w 56 9 71 r Tryd.underlying56
theorem neqPtrNil (w : World) (r : Option Addr) : (binOp .neq 40 (.pointer r) (.pointer none)).run Tryd.prog w = .ok (.bool (!r.isNone)) w := by
  cases r <;> kernel_rfl

theorem made_any (M : Nat → Prop) (w : World) (bt bm : Nat) (l : List TEnt) (h : TableAt M w bt bm l) : Calls Tryd.prog 45 #[.pointer (some ⟨bt, 0, none⟩)] w fun e w' => e = .returned (.bool true) ∧ w' = w := by
  have hc := h.cell
  clear h
  have qm := neqMapNil
  have qp := neqPtrNil
  go_enter Tryd.func45, Tryd.ntmps45
  go_wp2
  go_ret
  exact ⟨rfl, rfl⟩

theorem made_nil (w : World) : Calls Tryd.prog 45 #[.pointer none] w fun e w' => e = .returned (.bool false) ∧ w' = w := by
  have qm := neqMapNil
  have qp := neqPtrNil
  go_enter Tryd.func45, Tryd.ntmps45
  go_wp2
  go_ret
  exact ⟨rfl, rfl⟩

theorem made_zero (w : World) (bt : Nat) (hc : w.cell? ⟨bt, 0, none⟩ = some (.map none)) : Calls Tryd.prog 45 #[.pointer (some ⟨bt, 0, none⟩)] w fun e w' => e = .returned (.bool false) ∧ w' = w := by
  have qm := neqMapNil
  have qp := neqPtrNil
  go_enter Tryd.func45, Tryd.ntmps45
  go_wp2
  go_ret
  exact ⟨rfl, rfl⟩

theorem MapIs.len {κ : Type} [DecidableEq κ] {d : TypeDesc} {mk : κ → Value} {w : World} {b : Nat} {m : List (κ × Value)} (h : MapIs d mk w b m) {P : Program} {t kt e : TypeId} (ht : P.underlying t = some (.map kt e)) (ty : TypeId) :
    (Builtin.len_ #[t] ty #[.map (some b)]).run P w = .ok (.int .i64 m.length) w := by
  obtain ⟨es, clock, hb, hm, _⟩ := h
  have hs : es.size = m.length := by have := congrArg List.length hm; simpa using this
  simp [Builtin.len_, run_underlying ht, MapKept.run_getObj_map hb, Result.andThen, goInt, hs]

theorem len_any (M : Nat → Prop) (w : World) (bt bm : Nat) (l : List TEnt) (h : TableAt M w bt bm l) : Calls Tryd.prog 31 #[.pointer (some ⟨bt, 0, none⟩)] w fun e w' => e = .returned (.int .i64 l.length) ∧ w' = w := by
  have hc := h.cell
  have hl := fun ty => h.map.len (P := Tryd.prog) (t := 56) Tryd.underlying56 ty
  rw [List.length_map] at hl
  have HT := hid h
  clear h
  go_enter Tryd.func31, Tryd.ntmps31
  go_wp2_with (go_at_call 45; refine (made_any M w bt bm l HT.out).mono ?_; rintro e w' ⟨rfl, rfl⟩)
  go_ret
  exact ⟨rfl, rfl⟩

end Go.Proofs.YtkifedleajacpaaDoor
