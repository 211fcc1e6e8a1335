/- Rows of nodes (five cells each): how they read, the call's own ones, and the law of append for them. -/
import Derived.Test.YtkifedleajacpaaDoorRefN
import Derived.Test.YtkifedleajacpaaDoorRows5
namespace Go.Proofs.YtkifedleajacpaaDoor
open Go.RowKit
set_option maxRecDepth 100000

/-- A node with the slice that holds its args: its five cells. -/
def nsCells (x : Node × Value) : List Value := [.int .i64 x.1.op, .int .i64 x.1.width, .int .u64 x.1.val, .string x.1.name, x.2]
theorem nsLen (x : Node × Value) : (nsCells x).length = 5 := rfl

/-- The slice v reads as the nodes l, their args too; none of their blocks is among M. -/
structure RdN (M : Nat → Prop) (w : World) (v : Value) (l : List (Node × Value)) : Prop where
  row : RdE nsCells M w v l
  args : ∀ x ∈ l, RdI M w x.2 x.1.args
theorem RdN.fr {N M : Nat → Prop} {w w' : World} {v : Value} {l : List (Node × Value)} (h : RdN N w v l) (hf : Fr M w w') (hm : ∀ k, k < w.heap.size → M k → N k) : RdN N w' v l := ⟨h.row.fr hf hm, fun x hx => (h.args x hx).fr hf hm⟩
theorem RdN.step {N : Nat → Prop} {w w' : World} {v : Value} {l : List (Node × Value)} (h : RdN N w v l) (hf : Fr NoB w w') : RdN N w' v l := h.fr hf (fun _ _ h => h.elim)
theorem RdN.weaken {N M : Nat → Prop} {w : World} {v : Value} {l : List (Node × Value)} (h : RdN N w v l) (hm : ∀ k, k < w.heap.size → M k → N k) : RdN M w v l := ⟨h.row.weaken hm, fun x hx => (h.args x hx).weaken hm⟩
theorem RdN.form {M : Nat → Prop} {w : World} {v : Value} {l : List (Node × Value)} (h : RdN M w v l) : ∃ a cap, v = .slice a l.length cap := h.row.form
theorem RdN.drew {M : Nat → Prop} {w : World} {v : Value} {l : List (Node × Value)} (h : RdN M w v l) : RdN M w.drew v l := ⟨h.row, h.args⟩
theorem RdN.more {M : Nat → Prop} {w : World} {v : Value} {l : List (Node × Value)} (h : RdN M w v l) : RdN (fun k => M k ∨ w.heap.size ≤ k) w v l := ⟨h.row.more, fun x hx => (h.args x hx).more⟩

/-- The five cells of element i. -/
theorem CellsAt.five {w : World} {b off : Nat} {l : List (Node × Value)} (h : CellsAt w b off (flatE nsCells l)) {i : Nat} (hi : i < l.length) :
    w.cell? ⟨b, off + i * 5, none⟩ = some (.int .i64 l[i].1.op) ∧ w.cell? ⟨b, off + i * 5 + 1, none⟩ = some (.int .i64 l[i].1.width) ∧ w.cell? ⟨b, off + i * 5 + 2, none⟩ = some (.int .u64 l[i].1.val) ∧ w.cell? ⟨b, off + i * 5 + 3, none⟩ = some (.string l[i].1.name) ∧ w.cell? ⟨b, off + i * 5 + 4, none⟩ = some l[i].2 := by
  have e := fun j (hj : j < 5) => flatE_get nsCells nsLen l i hi j hj
  refine ⟨?_, ?_, ?_, ?_, ?_⟩
  · exact h _ _ (e 0 (by decide))
  · have := h _ _ (e 1 (by decide)); rwa [← Nat.add_assoc] at this
  · have := h _ _ (e 2 (by decide)); rwa [← Nat.add_assoc] at this
  · have := h _ _ (e 3 (by decide)); rwa [← Nat.add_assoc] at this
  · have := h _ _ (e 4 (by decide)); rwa [← Nat.add_assoc] at this

abbrev OwnN (B : Nat) (w : World) (v : Value) (l : List (Node × Value)) : Prop := OwnE nsCells 5 26 B w v l
theorem infoNode : (Tryd.prog.info? 26).map (fun i => (i.zero, i.size, i.bytes)) = some (some (.agg #[.int .i64 0, .int .i64 0, .int .u64 0, .string ⟨#[]⟩, .slice none 0 0]), 5, 64) := by kernel_rfl
theorem OwnE.rdN {B : Nat} {M : Nat → Prop} {w : World} {v : Value} {l : List (Node × Value)} (h : OwnN B w v l) (hM : ∀ k, v.ownBlock = some k → ¬ M k) (ha : ∀ x ∈ l, RdI M w x.2 x.1.args) : RdN M w v l := ⟨h.rd hM, ha⟩

/-- append(s, t...) on nodes: s is the call's own, t reads as m. -/
theorem ap_nodes (w : World) {ops : Array Oper} {rest : List Oper} {o : Oper} {a : Act} {Q : Exit → Act → World → Prop} (hg : o.guard = none) (s x : Operand)
    (ho : o.op = .call { callee := .builtin .append, args := #[s, x], argTypes := #[43, 43] }) (base : Nat) (v : Value) (l : List (Node × Value)) (hs : a.eval s = v) (hown : OwnN base w v l)
    (M : Nat → Prop) (u : Value) (m : List (Node × Value)) (hx : a.eval x = u) (hrd : RdN M w u m) (hlen : l.length + m.length ≤ 2199023255552) (hbase : base ≤ w.heap.size)
    (h : ∀ v' w', OwnN base w' v' (l ++ m) → w.grownBy w' v.ownBlock → (v'.ownBlock = v.ownBlock ∨ v'.ownBlock = some w.heap.size) → wpList Tryd.prog ops Q rest (a.put o.dst v') w') : wpList Tryd.prog ops Q (o :: rest) a w :=
  ap_rows w nsLen (by decide) Tryd.underlying43 infoNode rfl hg s x ho base v l hs hown M u m hx hrd.row (fun y hy u hu => by
    obtain ⟨_, _, e⟩ := (hrd.args y hy).form
    simp only [nsCells, List.mem_cons, List.not_mem_nil, or_false] at hu
    rcases hu with rfl | rfl | rfl | rfl | rfl <;> first | rfl | (rw [e]; rfl)) (by omega) (by omega) hbase h

end Go.Proofs.YtkifedleajacpaaDoor
