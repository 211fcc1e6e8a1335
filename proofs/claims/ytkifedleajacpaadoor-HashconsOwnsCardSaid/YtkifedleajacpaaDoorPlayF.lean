/- Both tables side by side, with further blocks forbidden to their entries. -/
import Derived.Test.YtkifedleajacpaaDoorPlayS
namespace Go.Proofs.YtkifedleajacpaaDoor
open Go.RowKit
set_option maxRecDepth 100000

/-- Both tables, with the same nodes and ids. -/
structure PlayF (F : Nat → Prop) (w : World) (bt bm rt B : Nat) (l r : List TEnt) (vn vi : Value) (W : World) : Prop where
  fr : Fr NoB w W
  tb : Tab W
  th : TableAt (fun j => j = bm ∨ j = rt ∨ F j) W bt bm l
  tr : RefAt (fun j => j = bm ∨ F j) B W rt vn vi r
  perm : (keysOf l).Perm (keysOf r)
  small : ∀ x ∈ l, x.node.args.length ≤ 1000000
  nums : w.heap.size ≤ bt ∧ w.heap.size ≤ bm ∧ w.heap.size ≤ rt ∧ bm ≠ bt ∧ rt ≠ bt ∧ rt ≠ bm ∧ bt < B ∧ bm < B ∧ TB < w.heap.size
  hB : B ≤ W.heap.size
section
variable {F : Nat → Prop} {w : World} {bt bm rt B : Nat} {l l' r : List TEnt} {vn vi : Value} {W W' : World}
theorem PlayF.step (h : PlayF F w bt bm rt B l r vn vi W) (hf : Fr NoB W W') : PlayF F w bt bm rt B l r vn vi W' :=
  ⟨h.fr.step hf, h.tb.fr hf (fun h => h), h.th.fr hf (fun h => h) (fun h => h) (fun _ _ h => h.elim), h.tr.step hf, h.perm, h.small, h.nums, Nat.le_trans h.hB hf.size⟩
theorem PlayF.drew (h : PlayF F w bt bm rt B l r vn vi W) : PlayF F w bt bm rt B l r vn vi W.drew := h.step (Fr.refl _ _).drew
theorem PlayF.nodup (h : PlayF F w bt bm rt B l r vn vi W) : KNod (keysOf l) := h.tr.rises.nod.perm h.perm.symm
theorem PlayF.kget (h : PlayF F w bt bm rt B l r vn vi W) (n : Node) : (tget l n).map (·.id) = (tget r n).map (·.id) := by
  rw [← kget_keys, ← kget_keys]; exact kget_perm h.nodup h.perm n
theorem PlayF.gets (h : PlayF F w bt bm rt B l r vn vi W) (n : Node) : ((tget r n).elim 0 (·.id) : Int) = (tget l n).elim 0 (·.id) ∧ (tget r n).isSome = (tget l n).isSome := by
  have := h.kget n
  constructor
  · rw [elim_map, elim_map (tget l n), this]
  · rw [← Option.isSome_map (f := (·.id)), ← this, Option.isSome_map]
theorem PlayF.len (h : PlayF F w bt bm rt B l r vn vi W) : l.length = r.length := by have := h.perm.length_eq; simpa [keysOf] using this
theorem PlayF.nodes (h : PlayF F w bt bm rt B l r vn vi W) : (l.map (·.node)).Perm (r.map (·.node)) := by
  have := h.perm.map (·.1)
  unfold keysOf at this
  rw [List.map_map, List.map_map] at this
  exact this
theorem PlayF.smallR (h : PlayF F w bt bm rt B l r vn vi W) : ∀ x ∈ r, x.node.args.length ≤ 1000000 := h.tr.small
/-- The rows of both tables' nodes are one. -/
theorem PlayF.same (h : PlayF F w bt bm rt B l r vn vi W) {L : List (Node × Value)} (hp : (L.map (·.1)).Perm (l.map (·.node))) (hw : L.Pairwise (fun x y => ¬ nodeCmp y.1 x.1 < 0)) : L.map (·.1) = (r.map fun x => (x.node, x.sl)).map (·.1) := by
  have e : (r.map fun x => (x.node, x.sl)).map (·.1) = r.map (·.node) := by rw [List.map_map]; rfl
  rw [e]
  have hr : (r.map (·.node)).Pairwise (fun x y => nodeCmp x y < 0) := List.pairwise_map.2 h.tr.rises
  have hp2 := hp.trans h.nodes
  refine rises_eq ?_ hr hp2
  have hnd : (L.map (·.1)).Pairwise (fun x y => x ≠ y) := (hp2.symm.pairwise_iff (fun h => h.symm)).1 (hr.imp fun {a b} hab e => by rw [e, nodeCmp_zero.2 rfl] at hab; omega)
  rw [List.pairwise_map] at hnd ⊢
  refine (hnd.and hw).imp fun {a b} ⟨h1, h2⟩ => ?_
  have h3 : nodeCmp a.1 b.1 ≠ 0 := fun e => h1 (nodeCmp_zero.1 e)
  have := nodeCmp_neg a.1 b.1
  omega

/-- Between the two Puts: the first table has the node. -/
structure MidF (F : Nat → Prop) (w : World) (bt bm rt B : Nat) (l l' r : List TEnt) (vn vi : Value) (W : World) : Prop where
  old : ∃ W0, PlayF F w bt bm rt B l r vn vi W0 ∧ Fr (fun k => k = bm) W0 W
  th : TableAt (fun j => j = bm ∨ j = rt ∨ F j) W bt bm l'
theorem MidF.fr (h : MidF F w bt bm rt B l l' r vn vi W) : Fr NoB w W := by
  obtain ⟨W0, h0, hf⟩ := h.old
  have hn := h0.nums
  exact h0.fr.trans' hf (fun k hk e => by have e : k = bm := e; omega)
theorem MidF.tb (h : MidF F w bt bm rt B l l' r vn vi W) : Tab W := by
  obtain ⟨W0, h0, hf⟩ := h.old
  have hn := h0.nums
  exact h0.tb.fr hf (fun e => by have e : TB = bm := e; omega)
theorem MidF.tr (h : MidF F w bt bm rt B l l' r vn vi W) : RefAt (fun j => j = bm ∨ F j) B W rt vn vi r := by
  obtain ⟨W0, h0, hf⟩ := h.old
  exact h0.tr.fr hf (fun _ _ h => .inl h)
theorem MidF.nums (h : MidF F w bt bm rt B l l' r vn vi W) : w.heap.size ≤ bt ∧ w.heap.size ≤ bm ∧ w.heap.size ≤ rt ∧ bm ≠ bt ∧ rt ≠ bt ∧ rt ≠ bm ∧ bt < B ∧ bm < B ∧ TB < w.heap.size := by
  obtain ⟨W0, h0, hf⟩ := h.old
  exact h0.nums
theorem MidF.hB (h : MidF F w bt bm rt B l l' r vn vi W) : B ≤ W.heap.size := by
  obtain ⟨W0, h0, hf⟩ := h.old
  exact Nat.le_trans h0.hB hf.size
theorem MidF.step (h : MidF F w bt bm rt B l l' r vn vi W) (hf : Fr NoB W W') : MidF F w bt bm rt B l l' r vn vi W' := by
  obtain ⟨W0, h0, hf0⟩ := h.old
  exact ⟨⟨W0, h0, hf0.step hf⟩, h.th.fr hf (fun h => h) (fun h => h) (fun _ _ h => h.elim)⟩
/-- The second table follows. -/
theorem MidF.done (h : MidF F w bt bm rt B l l' r vn vi W) {vn' vi' : Value} {r' : List TEnt} (ht : RefAt (fun j => j = bm ∨ F j) B W' rt vn' vi' r') (hf : Fr (fun k => k = rt) W W') (hp : (keysOf l').Perm (keysOf r')) (hs : ∀ x ∈ l', x.node.args.length ≤ 1000000) : PlayF F w bt bm rt B l' r' vn' vi' W' := by
  have hn := h.nums
  refine ⟨h.fr.trans' hf (fun k hk e => by have e : k = rt := e; omega), h.tb.fr hf (fun e => by have e : TB = rt := e; omega), h.th.fr hf (fun e => by have e : bt = rt := e; omega) (fun e => by have e : bm = rt := e; omega) (fun _ _ e => .inr (.inl e)), ht, hp, hs, hn, Nat.le_trans h.hB hf.size⟩
end


section
variable {F F' : Nat → Prop} {w : World} {bt bm rt B : Nat} {l l' r : List TEnt} {vn vi : Value} {W W' : World}
theorem TableAt.weaken {M N : Nat → Prop} {w : World} {bt bm : Nat} {l : List TEnt} (h : TableAt N w bt bm l) (hm : ∀ k, k < w.heap.size → M k → N k) : TableAt M w bt bm l := ⟨h.head, h.map, fun x hx => ⟨(h.ents x hx).1.weaken hm, (h.ents x hx).2⟩⟩
theorem RefAt.weak {M N : Nat → Prop} {B : Nat} {w : World} {bt : Nat} {vn vi : Value} {r : List TEnt} (h : RefAt N B w bt vn vi r) (hm : ∀ k, k < w.heap.size → M k → N k) : RefAt M B w bt vn vi r :=
  ⟨h.head, h.nodes, h.ids, fun x hx => (h.args x hx).weaken (fun k hk h => h.imp (hm k hk) id), h.small, h.rises, fun k hk h2 => h.out1 k hk (hm k (h.nodes.lt hk).2 h2), fun k hk h2 => h.out2 k hk (hm k (World.ownsRow.lt h.ids k hk).2 h2), fun h2 => h.out3 (hm _ (Array.getElem?_eq_some_iff.1 h.head).1 h2), h.below⟩
theorem PlayF.toS (h : PlayF F w bt bm rt B l r vn vi W) : PlayS w bt bm rt B l r vn vi W :=
  ⟨h.fr, h.tb, h.th.weaken (fun _ _ h => h.elim .inl (fun h => .inr (.inl h))), h.tr.weak (fun _ _ h => .inl h), h.perm, h.small, h.nums, h.hB⟩
theorem PlayF.sub (h : PlayF F w bt bm rt B l r vn vi W) (hF : ∀ j, F' j → F j) : PlayF F' w bt bm rt B l r vn vi W :=
  ⟨h.fr, h.tb, h.th.weaken (fun _ _ h => h.elim .inl (fun h => .inr (h.imp id (hF _)))), h.tr.weak (fun _ _ h => h.imp id (hF _)), h.perm, h.small, h.nums, h.hB⟩
/-- All later blocks may be forbidden. -/
theorem PlayF.more (h : PlayS w bt bm rt B l r vn vi W) : PlayF (fun j => W.heap.size ≤ j) w bt bm rt B l r vn vi W :=
  ⟨h.fr, h.tb, h.th.more.weaken (fun _ _ h => by rcases h with h | h | h; exact .inl (.inl h); exact .inl (.inr h); exact .inr h), h.tr.more, h.perm, h.small, h.nums, h.hB⟩
/-- .. moved by what writes forbidden blocks alone. -/
theorem PlayF.mv (h : PlayF F w bt bm rt B l r vn vi W) {N : Nat → Prop} (hf : Fr N W W') (hN : ∀ j, N j → F j) (hlow : ∀ j, N j → B ≤ j) : PlayF F w bt bm rt B l r vn vi W' := by
  have hn := h.nums
  have hr := h.tr.below
  exact ⟨h.fr.trans' hf (fun k hk e => by have := hlow k e; omega), h.tb.fr hf (fun e => by have := hlow _ e; omega), h.th.fr hf (fun e => by have := hlow _ e; omega) (fun e => by have := hlow _ e; omega) (fun k _ e => .inr (.inr (hN k e))), h.tr.fr hf (fun k _ e => .inr (hN k e)), h.perm, h.small, hn, Nat.le_trans h.hB hf.size⟩
theorem PlayF.hM1 (h : PlayF F w bt bm rt B l r vn vi W) (hF : ∀ j, F j → j < W.heap.size) : ∀ k, k = bm ∨ k = rt ∨ F k → k < W.heap.size := fun k e => by
  have := h.nums
  have := h.hB
  have := h.tr.below
  rcases e with e | e | e
  · omega
  · omega
  · exact hF k e
theorem MidF.hM1 (h : MidF F w bt bm rt B l l' r vn vi W) (hF : ∀ j, F j → j < W.heap.size) : ∀ k, k = bm ∨ F k → k < W.heap.size := fun k e => by
  have := h.nums
  have := h.hB
  rcases e with e | e
  · omega
  · exact hF k e
/-- What a node of the second table has in the first. -/
theorem PlayS.entry (h : PlayS w bt bm rt B l r vn vi W) {i : Nat} (hi : i < r.length) : ∃ x, tget l r[i].node = some x ∧ x.id = r[i].id ∧ NodeOk r[i].node ∧ NodeSm r[i].node := by
  have hm : (r[i].node, r[i].id) ∈ keysOf r := List.mem_map_of_mem (f := fun x : TEnt => (x.node, x.id)) (List.getElem_mem hi)
  have hml := h.perm.symm.subset hm
  have hk := (kget_some h.nodup r[i].node r[i].id).2 hml
  rw [kget_keys] at hk
  cases hg : tget l r[i].node with
  | none => rw [hg] at hk; cases hk
  | some x =>
    rw [hg] at hk
    obtain ⟨hx1, hx2⟩ := tget_mem hg
    have he := h.th.ents x hx1
    rw [hx2] at he
    exact ⟨x, rfl, Option.some.inj hk, he.2⟩
/-- An own row of integers, after a store of an integer anywhere. -/
theorem OwnI.poke {B : Nat} {w : World} {v : Value} {l : List Int} (h : OwnI B w v l) (g k : Nat) (x : Int) : ∃ l', l'.length = l.length ∧ OwnI B (w.setCell ⟨g, k, none⟩ (.int .i64 x)) v l' := by
  by_cases e : v.ownBlock = some g
  · rcases h.form' with ⟨rfl, _⟩ | ⟨g', cap, rfl, _⟩
    · cases e
    · cases e
      exact ⟨l.set k x, by simp, OwnI.stored h k x⟩
  · exact ⟨l, rfl, OwnI.fr h ((Fr.refl (fun j => j = g) w).setCell (p := ⟨g, k, none⟩) (fun _ => rfl) _) (fun j hj e2 => e (by rw [hj, show j = g from e2]))⟩
end

end Go.Proofs.YtkifedleajacpaaDoor
