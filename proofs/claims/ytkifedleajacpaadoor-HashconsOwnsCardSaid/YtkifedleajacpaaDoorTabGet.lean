/- The walk of hashcons.Table.Get. -/
import Derived.Test.YtkifedleajacpaaDoorTable
namespace Go.Proofs.YtkifedleajacpaaDoor
open Go.RowKit
set_option maxRecDepth 100000

theorem zeroEnt (w : World) : (zeroValue 71).run Tryd.prog w = .ok (.agg #[.int .i64 0, .int .i64 0, .int .u64 0, .string ⟨#[]⟩, .slice none 0 0, .int .i64 0]) w := by kernel_rfl

theorem TableAt.lookNone {M : Nat → Prop} {w : World} {bt bm : Nat} {l : List TEnt} (h : TableAt M w bt bm l) (n : Node) (hn : NodeOk n) (ht : tget l n = none) :
    (Instr.lookup 56 (.map (some bm)) (.string (keyB n)) true).run Tryd.prog w = .ok (.tuple #[.agg #[.int .i64 0, .int .i64 0, .int .u64 0, .string ⟨#[]⟩, .slice none 0 0, .int .i64 0], .bool false]) w := by
  have hg := mget_ent n hn l (fun x hx => (h.ents x hx).2.1)
  rw [ht] at hg
  exact h.map.lookNone (P := Tryd.prog) kkString Tryd.underlying56 Tryd.underlying9 (keyB n) hg (zeroEnt w) true
theorem TableAt.look {M : Nat → Prop} {w : World} {bt bm : Nat} {l : List TEnt} (h : TableAt M w bt bm l) (n : Node) (hn : NodeOk n) {x : TEnt} (ht : tget l n = some x) :
    (Instr.lookup 56 (.map (some bm)) (.string (keyB n)) true).run Tryd.prog w = .ok (.tuple #[.agg #[.int .i64 x.node.op, .int .i64 x.node.width, .int .u64 x.node.val, .string x.node.name, x.sl, .int .i64 x.id], .bool true]) w := by
  have hg := mget_ent n hn l (fun x hx => (h.ents x hx).2.1)
  rw [ht] at hg
  exact h.map.look (P := Tryd.prog) kkString Tryd.underlying56 Tryd.underlying9 (keyB n) hg true
theorem tget_mem {l : List TEnt} {n : Node} {x : TEnt} (h : tget l n = some x) : x ∈ l ∧ x.node = n := by
  refine ⟨List.mem_of_find?_eq_some h, ?_⟩
  have := List.find?_some h
  exact nodeCmp_zero.1 (by simpa using this)

set_option maxHeartbeats 1000000 in
theorem get_none (M N : Nat → Prop) (w : World) (bt bm : Nat) (l : List TEnt) (h : TableAt M w bt bm l) (n : Node) (s : Value) (hr : RdI N w s n.args) (hok : NodeOk n) (hsm : NodeSm n) (ht : Tab w) (hg : tget l n = none) :
    Calls Tryd.prog 29 #[.pointer (some ⟨bt, 0, none⟩), nodeV n s] w fun e w' => e = .returned (.tuple #[.int .i64 0, .bool false]) ∧ Fr NoB w w' := by
  obtain ⟨a, cap, rfl⟩ := hr.form
  have hne : w.heap.size ≠ bt := by have := h.lt; omega
  have hne' : bt ≠ w.heap.size := by have := h.lt; omega
  have hne2 : w.heap.size + 1 ≠ bt := by have := h.lt; omega
  have hne3 : bt ≠ w.heap.size + 1 := by have := h.lt; omega
  have HK : Hid (∀ W, Fr NoB (w.alloc (.cells (nodeCells n (.slice a n.args.length cap)) 26)) W → Calls Tryd.prog 13 #[nodeV n (.slice a n.args.length cap)] W fun e w' => e = .returned (.string (keyB n)) ∧ Fr NoB W w' ∧ Fr NoB (w.alloc (.cells (nodeCells n (.slice a n.args.length cap)) 26)) w') := fun W hW =>
    (key_any N n _ W (hr.fr (((Fr.refl NoB w).alloc _).step hW) (fun _ _ h => h.elim)) hok hsm (ht.fr (((Fr.refl NoB w).alloc _).step hW) (fun h => h))).mono (fun e w' ⟨h1, h2⟩ => ⟨h1, h2, hW.step h2⟩)
  have HT : Hid (∀ W, Fr NoB (w.alloc (.cells (nodeCells n (.slice a n.args.length cap)) 26)) W → TableAt M W bt bm l ∧ W.heap[w.heap.size]? = some (.cells (nodeCells n (.slice a n.args.length cap)) 26 (0, 0)) ∧ Fr NoB w W) := fun W hW =>
    ⟨h.fr (((Fr.refl NoB w).alloc _).step hW) (fun h => h) (fun h => h) (fun _ _ h => h.elim), hW.at (fun h => h) (at_new w _), ((Fr.refl NoB w).alloc _).step hW⟩
  have HOK := hid hok
  have HG := hid hg
  have H0 := (HT.out _ (Fr.refl NoB _)).1.cell
  clear h hr hok hsm ht hg
  unfold nodeV
  go_enter Tryd.func29, Tryd.ntmps29
  go_wp2_with (go_at_call 45; refine (made_any M _ bt bm l (HT.out _ (Fr.refl _ _)).1).mono ?_; rintro e w' ⟨rfl, rfl⟩)
  go_region_held3 (fun w' => w'.cell? ⟨bt, 0, none⟩ = some (.map (some bm)) ∧ w'.cell? ⟨w.heap.size, 0, none⟩ = some (.int .i64 n.op) ∧ w'.cell? ⟨w.heap.size, 1, none⟩ = some (.int .i64 n.width) ∧ w'.cell? ⟨w.heap.size, 2, none⟩ = some (.int .u64 n.val) ∧ w'.cell? ⟨w.heap.size, 3, none⟩ = some (.string n.name) ∧ w'.cell? ⟨w.heap.size, 4, none⟩ = some (.slice a n.args.length cap)) (go_keep)
    (first | (go_at_call 13; have X := HK.out; (with_reducible refine Calls.mono (X _ ?_) ?_); (focus (repeat (first | exact Fr.refl _ _ | refine Fr.drew ?_ | refine Fr.alloc ?_ _))); clear X; rintro e w2 ⟨rfl, hfW, hf2⟩; (try obtain ⟨z0, z1, z2, z3, z4, z5, zf, zl⟩ := six_of (hfW.at (b := w.heap.size + 1) (fun h => h) (at_new_d (by simp)))); have Y := HT.out _ hf2; obtain ⟨c0, c1, c2, c3, c4, cf, cl⟩ := five_of Y.2.1; have ct := Y.1.cell; have hn2 : bt ≠ w2.heap.size := (by have := Y.1.lt; omega); have hn3 := hn2.symm; have hn4 : w.heap.size ≠ w2.heap.size := (by omega); have hn5 := hn4.symm; have lk := Y.1.lookNone n HOK.out HG.out; have lk2 := fun o => (HT.out _ (hf2.alloc o)).1.lookNone n HOK.out HG.out))
  all_goals
    go_wp2
    go_ret2
    refine ⟨rfl, ?_⟩
    repeat (first | (with_reducible exact Y.2.2) | refine Fr.setCell ?_ (fun h => by simp only at h; omega) _ | refine Fr.alloc ?_ _)

set_option maxHeartbeats 1000000 in
theorem get_some (M N : Nat → Prop) (w : World) (bt bm : Nat) (l : List TEnt) (h : TableAt M w bt bm l) (n : Node) (s : Value) (hr : RdI N w s n.args) (hok : NodeOk n) (hsm : NodeSm n) (ht : Tab w) (x : TEnt) (hg : tget l n = some x) :
    Calls Tryd.prog 29 #[.pointer (some ⟨bt, 0, none⟩), nodeV n s] w fun e w' => e = .returned (.tuple #[.int .i64 x.id, .bool true]) ∧ Fr NoB w w' := by
  obtain ⟨xn, xs, xi⟩ := x
  obtain ⟨a2, cap2, hx⟩ := (h.ents _ (tget_mem hg).1).1.form
  simp only at hx
  subst hx
  obtain ⟨a, cap, rfl⟩ := hr.form
  have hne : w.heap.size ≠ bt := by have := h.lt; omega
  have hne' : bt ≠ w.heap.size := by have := h.lt; omega
  have hne2 : w.heap.size + 1 ≠ bt := by have := h.lt; omega
  have hne3 : bt ≠ w.heap.size + 1 := by have := h.lt; omega
  have HK : Hid (∀ W, Fr NoB (w.alloc (.cells (nodeCells n (.slice a n.args.length cap)) 26)) W → Calls Tryd.prog 13 #[nodeV n (.slice a n.args.length cap)] W fun e w' => e = .returned (.string (keyB n)) ∧ Fr NoB W w' ∧ Fr NoB (w.alloc (.cells (nodeCells n (.slice a n.args.length cap)) 26)) w') := fun W hW =>
    (key_any N n _ W (hr.fr (((Fr.refl NoB w).alloc _).step hW) (fun _ _ h => h.elim)) hok hsm (ht.fr (((Fr.refl NoB w).alloc _).step hW) (fun h => h))).mono (fun e w' ⟨h1, h2⟩ => ⟨h1, h2, hW.step h2⟩)
  have HT : Hid (∀ W, Fr NoB (w.alloc (.cells (nodeCells n (.slice a n.args.length cap)) 26)) W → TableAt M W bt bm l ∧ W.heap[w.heap.size]? = some (.cells (nodeCells n (.slice a n.args.length cap)) 26 (0, 0)) ∧ Fr NoB w W) := fun W hW =>
    ⟨h.fr (((Fr.refl NoB w).alloc _).step hW) (fun h => h) (fun h => h) (fun _ _ h => h.elim), hW.at (fun h => h) (at_new w _), ((Fr.refl NoB w).alloc _).step hW⟩
  have HOK := hid hok
  have HG := hid hg
  have H0 := (HT.out _ (Fr.refl NoB _)).1.cell
  clear h hr hok hsm ht hg
  unfold nodeV
  go_enter Tryd.func29, Tryd.ntmps29
  go_wp2_with (go_at_call 45; refine (made_any M _ bt bm l (HT.out _ (Fr.refl _ _)).1).mono ?_; rintro e w' ⟨rfl, rfl⟩)
  go_region_held3 (fun w' => w'.cell? ⟨bt, 0, none⟩ = some (.map (some bm)) ∧ w'.cell? ⟨w.heap.size, 0, none⟩ = some (.int .i64 n.op) ∧ w'.cell? ⟨w.heap.size, 1, none⟩ = some (.int .i64 n.width) ∧ w'.cell? ⟨w.heap.size, 2, none⟩ = some (.int .u64 n.val) ∧ w'.cell? ⟨w.heap.size, 3, none⟩ = some (.string n.name) ∧ w'.cell? ⟨w.heap.size, 4, none⟩ = some (.slice a n.args.length cap)) (go_keep)
    (first | (go_at_call 13; have X := HK.out; (with_reducible refine Calls.mono (X _ ?_) ?_); (focus (repeat (first | exact Fr.refl _ _ | refine Fr.drew ?_ | refine Fr.alloc ?_ _))); clear X; rintro e w2 ⟨rfl, hfW, hf2⟩; (try obtain ⟨z0, z1, z2, z3, z4, z5, zf, zl⟩ := six_of (hfW.at (b := w.heap.size + 1) (fun h => h) (at_new_d (by simp)))); have Y := HT.out _ hf2; obtain ⟨c0, c1, c2, c3, c4, cf, cl⟩ := five_of Y.2.1; have ct := Y.1.cell; have hn2 : bt ≠ w2.heap.size := (by have := Y.1.lt; omega); have hn3 := hn2.symm; have hn4 : w.heap.size ≠ w2.heap.size := (by omega); have hn5 := hn4.symm; have lk := Y.1.look n HOK.out HG.out; have lk2 := fun o => (HT.out _ (hf2.alloc o)).1.look n HOK.out HG.out))
  all_goals
    go_wp2
    go_ret2
    refine ⟨rfl, ?_⟩
    repeat (first | (with_reducible exact Y.2.2) | refine Fr.setCell ?_ (fun h => by simp only at h; omega) _ | refine Fr.alloc ?_ _)

theorem get_any (M N : Nat → Prop) (w : World) (bt bm : Nat) (l : List TEnt) (h : TableAt M w bt bm l) (n : Node) (s : Value) (hr : RdI N w s n.args) (hok : NodeOk n) (hsm : NodeSm n) (ht : Tab w) :
    Calls Tryd.prog 29 #[.pointer (some ⟨bt, 0, none⟩), nodeV n s] w fun e w' => e = .returned (.tuple #[.int .i64 ((tget l n).elim 0 (·.id)), .bool (tget l n).isSome]) ∧ Fr NoB w w' := by
  cases hg : tget l n with
  | none => exact get_none M N w bt bm l h n s hr hok hsm ht hg
  | some x => exact get_some M N w bt bm l h n s hr hok hsm ht x hg

end Go.Proofs.YtkifedleajacpaaDoor
