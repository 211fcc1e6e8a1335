/- Both tables side by side: hashcons.Table and the reference's; a row of operations. -/
import Derived.Test.YtkifedleajacpaaDoorRefDel
import Derived.Test.YtkifedleajacpaaDoorTabNodes
import Derived.Test.YtkifedleajacpaaDoorLive
namespace Go.Proofs.YtkifedleajacpaaDoor
open Go.RowKit
set_option maxRecDepth 100000

/-- An operation: its kind, its node (with the slice that holds the args), its id. -/
structure ActE where
  kind : Int
  node : Node
  sl : Value
  id : Int
def acCells (x : ActE) : List Value := [.int .i64 x.kind, .int .i64 x.node.op, .int .i64 x.node.width, .int .u64 x.node.val, .string x.node.name, x.sl, .int .i64 x.id]
theorem acLen (x : ActE) : (acCells x).length = 7 := rfl
structure RdA (M : Nat → Prop) (w : World) (v : Value) (l : List ActE) : Prop where
  row : RdE acCells M w v l
  args : ∀ x ∈ l, RdI M w x.sl x.node.args
theorem RdA.fr {N M : Nat → Prop} {w w' : World} {v : Value} {l : List ActE} (h : RdA N w v l) (hf : Fr M w w') (hm : ∀ k, k < w.heap.size → M k → N k) : RdA N w' v l := ⟨h.row.fr hf hm, fun x hx => (h.args x hx).fr hf hm⟩
theorem CellsAt.seven {w : World} {b off : Nat} {l : List ActE} (h : CellsAt w b off (flatE acCells l)) {i : Nat} (hi : i < l.length) :
    w.cell? ⟨b, off + i * 7, none⟩ = some (.int .i64 l[i].kind) ∧ w.cell? ⟨b, off + i * 7 + 1, none⟩ = some (.int .i64 l[i].node.op) ∧ w.cell? ⟨b, off + i * 7 + 2, none⟩ = some (.int .i64 l[i].node.width) ∧ w.cell? ⟨b, off + i * 7 + 3, none⟩ = some (.int .u64 l[i].node.val) ∧ w.cell? ⟨b, off + i * 7 + 4, none⟩ = some (.string l[i].node.name) ∧ w.cell? ⟨b, off + i * 7 + 5, none⟩ = some l[i].sl ∧ w.cell? ⟨b, off + i * 7 + 6, none⟩ = some (.int .i64 l[i].id) := by
  have e := fun j (hj : j < 7) => flatE_get acCells acLen l i hi j hj
  refine ⟨?_, ?_, ?_, ?_, ?_, ?_, ?_⟩
  · exact h _ _ (e 0 (by decide))
  · have := h _ _ (e 1 (by decide)); rwa [← Nat.add_assoc] at this
  · have := h _ _ (e 2 (by decide)); rwa [← Nat.add_assoc] at this
  · have := h _ _ (e 3 (by decide)); rwa [← Nat.add_assoc] at this
  · have := h _ _ (e 4 (by decide)); rwa [← Nat.add_assoc] at this
  · have := h _ _ (e 5 (by decide)); rwa [← Nat.add_assoc] at this
  · have := h _ _ (e 6 (by decide)); rwa [← Nat.add_assoc] at this

/-- Both tables, with the same nodes and ids. -/
structure PlayS (w : World) (bt bm rt B : Nat) (l r : List TEnt) (vn vi : Value) (W : World) : Prop where
  fr : Fr NoB w W
  tb : Tab W
  th : TableAt (fun j => j = bm ∨ j = rt) W bt bm l
  tr : RefAt (fun j => j = bm) B W rt vn vi r
  perm : (keysOf l).Perm (keysOf r)
  small : ∀ x ∈ l, x.node.args.length ≤ 1000000
  nums : w.heap.size ≤ bt ∧ w.heap.size ≤ bm ∧ w.heap.size ≤ rt ∧ bm ≠ bt ∧ rt ≠ bt ∧ rt ≠ bm ∧ bt < B ∧ bm < B ∧ TB < w.heap.size
  hB : B ≤ W.heap.size
section
variable {w : World} {bt bm rt B : Nat} {l l' r : List TEnt} {vn vi : Value} {W W' : World}
theorem PlayS.step (h : PlayS w bt bm rt B l r vn vi W) (hf : Fr NoB W W') : PlayS w bt bm rt B l r vn vi W' :=
  ⟨h.fr.step hf, h.tb.fr hf (fun h => h), h.th.fr hf (fun h => h) (fun h => h) (fun _ _ h => h.elim), h.tr.step hf, h.perm, h.small, h.nums, Nat.le_trans h.hB hf.size⟩
theorem PlayS.drew (h : PlayS w bt bm rt B l r vn vi W) : PlayS w bt bm rt B l r vn vi W.drew := h.step (Fr.refl _ _).drew
theorem PlayS.nodup (h : PlayS w bt bm rt B l r vn vi W) : KNod (keysOf l) := h.tr.rises.nod.perm h.perm.symm
theorem PlayS.kget (h : PlayS w bt bm rt B l r vn vi W) (n : Node) : (tget l n).map (·.id) = (tget r n).map (·.id) := by
  rw [← kget_keys, ← kget_keys]; exact kget_perm h.nodup h.perm n
theorem elim_map {α : Type} (o : Option α) (f : α → Int) : o.elim 0 f = (o.map f).elim 0 id := by cases o <;> rfl
theorem PlayS.gets (h : PlayS w bt bm rt B l r vn vi W) (n : Node) : ((tget r n).elim 0 (·.id) : Int) = (tget l n).elim 0 (·.id) ∧ (tget r n).isSome = (tget l n).isSome := by
  have := h.kget n
  constructor
  · rw [elim_map, elim_map (tget l n), this]
  · rw [← Option.isSome_map (f := (·.id)), ← this, Option.isSome_map]
theorem PlayS.len (h : PlayS w bt bm rt B l r vn vi W) : l.length = r.length := by have := h.perm.length_eq; simpa [keysOf] using this
theorem PlayS.nodes (h : PlayS w bt bm rt B l r vn vi W) : (l.map (·.node)).Perm (r.map (·.node)) := by
  have := h.perm.map (·.1)
  unfold keysOf at this
  rw [List.map_map, List.map_map] at this
  exact this
theorem PlayS.smallR (h : PlayS w bt bm rt B l r vn vi W) : ∀ x ∈ r, x.node.args.length ≤ 1000000 := h.tr.small
/-- The rows of both tables' nodes are one. -/
theorem PlayS.same (h : PlayS w bt bm rt B l r vn vi W) {L : List (Node × Value)} (hp : (L.map (·.1)).Perm (l.map (·.node))) (hw : L.Pairwise (fun x y => ¬ nodeCmp y.1 x.1 < 0)) : L.map (·.1) = (r.map fun x => (x.node, x.sl)).map (·.1) := by
  have e : (r.map fun x => (x.node, x.sl)).map (·.1) = r.map (·.node) := by rw [List.map_map]; rfl
  rw [e]
  have hr : (r.map (·.node)).Pairwise (fun x y => nodeCmp x y < 0) := List.pairwise_map.2 h.tr.rises
  have hp2 := hp.trans h.nodes
  refine rises_eq ?_ hr hp2
  have hnd : (L.map (·.1)).Pairwise (fun x y => x ≠ y) := (hp2.symm.pairwise_iff (fun h => h.symm)).1 (hr.imp fun {a b} hab e => by rw [e, nodeCmp_zero.2 rfl] at hab; omega)
  rw [List.pairwise_map] at hnd ⊢
  refine (hnd.and hw).imp fun {a b} ⟨h1, h2⟩ => ?_
  have h3 : nodeCmp a.1 b.1 ≠ 0 := fun e => h1 (nodeCmp_zero.1 e)
  have := nodeCmp_neg a.1 b.1
  omega

/-- Between the two Puts: the first table has the node. -/
structure MidP (w : World) (bt bm rt B : Nat) (l l' r : List TEnt) (vn vi : Value) (W : World) : Prop where
  old : ∃ W0, PlayS w bt bm rt B l r vn vi W0 ∧ Fr (fun k => k = bm) W0 W
  th : TableAt (fun j => j = bm ∨ j = rt) W bt bm l'
theorem MidP.fr (h : MidP w bt bm rt B l l' r vn vi W) : Fr NoB w W := by
  obtain ⟨W0, h0, hf⟩ := h.old
  have hn := h0.nums
  exact h0.fr.trans' hf (fun k hk e => by have e : k = bm := e; omega)
theorem MidP.tb (h : MidP w bt bm rt B l l' r vn vi W) : Tab W := by
  obtain ⟨W0, h0, hf⟩ := h.old
  have hn := h0.nums
  exact h0.tb.fr hf (fun e => by have e : TB = bm := e; omega)
theorem MidP.tr (h : MidP w bt bm rt B l l' r vn vi W) : RefAt (fun j => j = bm) B W rt vn vi r := by
  obtain ⟨W0, h0, hf⟩ := h.old
  exact h0.tr.fr hf (fun _ _ h => h)
theorem MidP.nums (h : MidP w bt bm rt B l l' r vn vi W) : w.heap.size ≤ bt ∧ w.heap.size ≤ bm ∧ w.heap.size ≤ rt ∧ bm ≠ bt ∧ rt ≠ bt ∧ rt ≠ bm ∧ bt < B ∧ bm < B ∧ TB < w.heap.size := by
  obtain ⟨W0, h0, hf⟩ := h.old
  exact h0.nums
theorem MidP.hB (h : MidP w bt bm rt B l l' r vn vi W) : B ≤ W.heap.size := by
  obtain ⟨W0, h0, hf⟩ := h.old
  exact Nat.le_trans h0.hB hf.size
theorem MidP.hM (h : MidP w bt bm rt B l l' r vn vi W) : ∀ k, k = bm → k < W.heap.size := fun k e => by
  have := h.nums
  have := h.hB
  omega
theorem PlayS.hM (h : PlayS w bt bm rt B l r vn vi W) : ∀ k, k = bm ∨ k = rt → k < W.heap.size := fun k e => by
  have := h.nums
  have := h.hB
  have := h.tr.below
  omega
theorem MidP.step (h : MidP w bt bm rt B l l' r vn vi W) (hf : Fr NoB W W') : MidP w bt bm rt B l l' r vn vi W' := by
  obtain ⟨W0, h0, hf0⟩ := h.old
  exact ⟨⟨W0, h0, hf0.step hf⟩, h.th.fr hf (fun h => h) (fun h => h) (fun _ _ h => h.elim)⟩
/-- The second table follows. -/
theorem MidP.done (h : MidP w bt bm rt B l l' r vn vi W) {vn' vi' : Value} {r' : List TEnt} (ht : RefAt (fun j => j = bm) B W' rt vn' vi' r') (hf : Fr (fun k => k = rt) W W') (hp : (keysOf l').Perm (keysOf r')) (hs : ∀ x ∈ l', x.node.args.length ≤ 1000000) : PlayS w bt bm rt B l' r' vn' vi' W' := by
  have hn := h.nums
  refine ⟨h.fr.trans' hf (fun k hk e => by have e : k = rt := e; omega), h.tb.fr hf (fun e => by have e : TB = rt := e; omega), h.th.fr hf (fun e => by have e : bt = rt := e; omega) (fun e => by have e : bm = rt := e; omega) (fun _ _ e => .inr e), ht, hp, hs, hn, Nat.le_trans h.hB hf.size⟩
theorem perm_tdel {n : Node} (h : (keysOf l).Perm (keysOf r)) : (keysOf (tdel l n)).Perm (keysOf (tdel r n)) := by
  rw [keys_tdel, keys_tdel]; exact h.filter _
theorem perm_snoc {n : Node} {sl sl' : Value} {id : Int} {r' : List TEnt} (h : (keysOf l).Perm (keysOf r)) (h2 : (keysOf r').Perm (keysOf (r ++ [⟨n, sl', id⟩]))) : (keysOf (l ++ [⟨n, sl, id⟩])).Perm (keysOf r') := by
  refine List.Perm.trans ?_ h2.symm
  rw [keysOf_append, keysOf_append]
  exact h.append_right _
end

theorem smallSnoc {l : List TEnt} {n : Node} {sl : Value} {id : Int} (h : ∀ x ∈ l, x.node.args.length ≤ 1000000) (hn : n.args.length ≤ 1000000) : ∀ x ∈ l ++ [⟨n, sl, id⟩], x.node.args.length ≤ 1000000 := fun x hx => by
  rw [List.mem_append, List.mem_singleton] at hx
  rcases hx with hx | rfl
  · exact h x hx
  · exact hn
theorem smallDel {l : List TEnt} {n : Node} (h : ∀ x ∈ l, x.node.args.length ≤ 1000000) : ∀ x ∈ tdel l n, x.node.args.length ≤ 1000000 := fun x hx => h x (List.mem_filter.1 hx).1
theorem PlayS.rdN {w : World} {bt bm rt B : Nat} {l r : List TEnt} {vn vi : Value} {W : World} (h : PlayS w bt bm rt B l r vn vi W) : RdN NoB W vn (r.map fun x => (x.node, x.sl)) := h.tr.rdN.weaken (fun _ _ h => h.elim)
theorem PlayS.smallL {w : World} {bt bm rt B : Nat} {l r : List TEnt} {vn vi : Value} {W : World} (h : PlayS w bt bm rt B l r vn vi W) {L : List (Node × Value)} (hp : (L.map (·.1)).Perm (l.map (·.node))) : ∀ x ∈ L, x.1.args.length ≤ 1000000 := fun x hx => by
  obtain ⟨y, hy, e⟩ := List.mem_map.1 (hp.subset (List.mem_map_of_mem (f := (·.1)) hx))
  rw [← e]; exact h.small y hy
theorem OutN.rdN {B : Nat} {w : World} {v : Value} {l : List (Node × Value)} (h : OutN B w v l) : RdN NoB w v l := by
  obtain ⟨g, cap, e, h1, h2, h3, h4, _, _⟩ := h.row
  exact ⟨.inr ⟨g, 0, cap, e, h2, fun h => h, h3, h4⟩, fun x hx => (h.args x hx).rd (fun _ _ h => h)⟩

set_option maxHeartbeats 1000000 in
theorem refPut_old (M N : Nat → Prop) (B : Nat) (w : World) (bt : Nat) (vn vi : Value) (r : List TEnt) (h : RefAt M B w bt vn vi r) (n : Node) (s : Value) (id : Int) (hr : RdI N w s n.args) (hl : n.args.length ≤ 1000000) (hlen : r.length ≤ 1000000) {x : TEnt} (hg : tget r n = some x) :
    Calls Tryd.prog 26 #[.pointer (some ⟨bt, 0, none⟩), nodeV n s, .int .i64 id] w fun e w' => e = .returned (.bool false) ∧ Fr NoB w w' := by
  obtain ⟨a, cap, rfl⟩ := hr.form
  have S0 : Hid (AtS M N B w bt vn vi r n (.slice a n.args.length cap) (w.alloc (.cells (nodeCells n (.slice a n.args.length cap)) 26))) :=
    ⟨(Fr.refl NoB w).alloc _, h.step ((Fr.refl NoB w).alloc _), hr.fr ((Fr.refl NoB w).alloc _) (fun _ _ h => h.elim), at_new w _⟩
  have HG := hid hg
  clear h hr hg
  unfold nodeV
  go_enter Tryd.func26, Tryd.ntmps26
  go_wp2_with fail
  refine (at_any M N B _ bt vn vi r S0.out.tab n _ S0.out.rd hl hlen).mono ?_
  rintro e w1 ⟨hf, i, hi, hlow, ⟨rfl, hlt, hn⟩ | ⟨rfl, hhi⟩⟩
  · have S1 := hid (S0.out.step hf)
    clear hf hlow hn
    go_wp2
    go_ret
    exact ⟨rfl, S1.out.fr⟩
  · have := tget_not hlow hhi
    rw [HG.out] at this; cases this

end Go.Proofs.YtkifedleajacpaaDoor
