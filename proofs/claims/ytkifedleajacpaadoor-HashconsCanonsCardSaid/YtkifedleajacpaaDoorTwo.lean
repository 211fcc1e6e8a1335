/- What two boxed nodes, their args and the tables are, from world to world. -/
import Derived.Test.YtkifedleajacpaaDoorLive
import Derived.Test.YtkifedleajacpaaDoorRefN
namespace Go.Proofs.YtkifedleajacpaaDoor
open Go.RowKit

/-- Two nodes and the tables, as the law's calls find them. -/
structure Two (w : World) (a b : Node) (v u : Value) (W : World) : Prop where
  fr : Fr NoB w W
  ra : RdI (fun k => w.heap.size ≤ k) W v a.args
  rb : RdI (fun k => w.heap.size ≤ k) W u b.args
  tab : Tab W
  boxA : W.heap[w.heap.size]? = some (.cells (nodeCells a v) 26 (0, 0))
  boxB : W.heap[w.heap.size + 1]? = some (.cells (nodeCells b u) 26 (0, 0))
theorem Two.step {w : World} {a b : Node} {v u : Value} {W W' : World} (h : Two w a b v u W) (hf : Fr NoB W W') : Two w a b v u W' :=
  ⟨h.fr.step hf, h.ra.fr hf (fun _ _ h => h.elim), h.rb.fr hf (fun _ _ h => h.elim), h.tab.fr hf (fun h => h), hf.at (fun h => h) h.boxA, hf.at (fun h => h) h.boxB⟩
theorem Two.drew {w : World} {a b : Node} {v u : Value} {W : World} (h : Two w a b v u W) : Two w a b v u W.drew := h.step (Fr.refl _ _).drew
theorem Two.start {w : World} {a b : Node} {v u : Value} (ra : RdI (fun k => w.heap.size ≤ k) w v a.args) (rb : RdI (fun k => w.heap.size ≤ k) w u b.args) (ht : Tab w) : Two w a b v u ((w.alloc (.cells (nodeCells a v) 26)).alloc (.cells (nodeCells b u) 26)) :=
  have hf := ((Fr.refl NoB w).alloc (.cells (nodeCells a v) 26)).alloc (.cells (nodeCells b u) 26)
  ⟨hf, ra.fr hf (fun _ _ h => h.elim), rb.fr hf (fun _ _ h => h.elim), ht.fr hf (fun h => h), at_old (at_new w _) _, at_new' (by simp)⟩


/-- One boxed node. -/
structure One (w : World) (a : Node) (v : Value) (W : World) : Prop where
  fr : Fr NoB w W
  ra : RdI (fun k => w.heap.size ≤ k) W v a.args
  tab : Tab W
  boxA : W.heap[w.heap.size]? = some (.cells (nodeCells a v) 26 (0, 0))
theorem One.step {w : World} {a : Node} {v : Value} {W W' : World} (h : One w a v W) (hf : Fr NoB W W') : One w a v W' :=
  ⟨h.fr.step hf, h.ra.fr hf (fun _ _ h => h.elim), h.tab.fr hf (fun h => h), hf.at (fun h => h) h.boxA⟩
theorem One.drew {w : World} {a : Node} {v : Value} {W : World} (h : One w a v W) : One w a v W.drew := h.step (Fr.refl _ _).drew
theorem One.start {w : World} {a : Node} {v : Value} (ra : RdI (fun k => w.heap.size ≤ k) w v a.args) (ht : Tab w) : One w a v (w.alloc (.cells (nodeCells a v) 26)) :=
  have hf := (Fr.refl NoB w).alloc (.cells (nodeCells a v) 26)
  ⟨hf, ra.fr hf (fun _ _ h => h.elim), ht.fr hf (fun h => h), at_new w _⟩
/-- .. moved by what writes only blocks from a bound on. -/
theorem One.move {w : World} {a : Node} {v : Value} {W W' : World} {M : Nat → Prop} (h : One w a v W) (hf : Fr M W W') (hM : ∀ k, M k → w.heap.size + 1 ≤ k) (ht : TB < w.heap.size) : One w a v W' where
  fr := h.fr.trans' hf (fun k hk hm => by have := hM k hm; omega)
  ra := h.ra.fr hf (fun k _ hm => by have := hM k hm; show w.heap.size ≤ k; omega)
  tab := h.tab.fr hf (fun hm => by have := hM _ hm; omega)
  boxA := hf.at (fun hm => by have := hM _ hm; omega) h.boxA

/-- Three boxed nodes. -/
structure Three (w : World) (a b c : Node) (v u t : Value) (W : World) : Prop where
  fr : Fr NoB w W
  ra : RdI (fun k => w.heap.size ≤ k) W v a.args
  rb : RdI (fun k => w.heap.size ≤ k) W u b.args
  rc : RdI (fun k => w.heap.size ≤ k) W t c.args
  tab : Tab W
  boxA : W.heap[w.heap.size]? = some (.cells (nodeCells a v) 26 (0, 0))
  boxB : W.heap[w.heap.size + 1]? = some (.cells (nodeCells b u) 26 (0, 0))
  boxC : W.heap[w.heap.size + 2]? = some (.cells (nodeCells c t) 26 (0, 0))
theorem Three.step {w : World} {a b c : Node} {v u t : Value} {W W' : World} (h : Three w a b c v u t W) (hf : Fr NoB W W') : Three w a b c v u t W' :=
  ⟨h.fr.step hf, h.ra.fr hf (fun _ _ h => h.elim), h.rb.fr hf (fun _ _ h => h.elim), h.rc.fr hf (fun _ _ h => h.elim), h.tab.fr hf (fun h => h), hf.at (fun h => h) h.boxA, hf.at (fun h => h) h.boxB, hf.at (fun h => h) h.boxC⟩
theorem Three.start {w : World} {a b c : Node} {v u t : Value} (ra : RdI (fun k => w.heap.size ≤ k) w v a.args) (rb : RdI (fun k => w.heap.size ≤ k) w u b.args) (rc : RdI (fun k => w.heap.size ≤ k) w t c.args) (ht : Tab w) : Three w a b c v u t (((w.alloc (.cells (nodeCells a v) 26)).alloc (.cells (nodeCells b u) 26)).alloc (.cells (nodeCells c t) 26)) :=
  have hf := (((Fr.refl NoB w).alloc (.cells (nodeCells a v) 26)).alloc (.cells (nodeCells b u) 26)).alloc (.cells (nodeCells c t) 26)
  ⟨hf, ra.fr hf (fun _ _ h => h.elim), rb.fr hf (fun _ _ h => h.elim), rc.fr hf (fun _ _ h => h.elim), ht.fr hf (fun h => h), at_old (at_old (at_new w _) _) _, at_old (at_new' (by simp)) _, at_new' (by simp)⟩

/-- A node of the call's own, its box at block b. -/
structure Held (n : Node) (B b : Nat) (v : Value) (W : World) : Prop where
  own : OwnI B W v n.args
  low : ∀ k, v.ownBlock = some k → k < b
  box : W.heap[b]? = some (.cells (nodeCells n v) 26 (0, 0))
theorem Held.step {n : Node} {B b : Nat} {v : Value} {W W' : World} (h : Held n B b v W) (hf : Fr NoB W W') : Held n B b v W' :=
  ⟨h.own.fr hf (fun _ _ h => h), h.low, hf.at (fun h => h) h.box⟩
theorem Held.start {n : Node} {B : Nat} {v : Value} {W : World} (h : OwnI B W v n.args) : Held n B W.heap.size v (W.alloc (.cells (nodeCells n v) 26)) :=
  ⟨h.fr ((Fr.refl NoB W).alloc _) (fun _ _ h => h), fun k hk => (World.ownsRow.lt h k hk).2, at_new W _⟩

end Go.Proofs.YtkifedleajacpaaDoor
