/- The walks of hashcons.Copy, and of hashcons.Table.Put and Del. -/
import Derived.Test.YtkifedleajacpaaDoorTabGet
namespace Go.Proofs.YtkifedleajacpaaDoor
open Go.RowKit
set_option maxRecDepth 100000

theorem hcCopy_any (M : Nat → Prop) (n : Node) (v : Value) (w : World) (h : RdI M w v n.args) (hl : n.args.length ≤ 17592186044416) :
    Calls Tryd.prog 20 #[nodeV n v] w fun e w' => ∃ a' c', e = .returned (nodeV n (.slice a' n.args.length c')) ∧ OwnI w.heap.size w' (.slice a' n.args.length c') n.args ∧ Fr NoB w w' := by
  obtain ⟨a, cap, rfl⟩ := h.form
  have HC : Hid (∀ W, Fr NoB w W → Calls Tryd.prog 16 #[nodeV n (.slice a n.args.length cap), .nilFunc] W fun e w' => ∃ a' c', e = .returned (nodeV n (.slice a' n.args.length c')) ∧ OwnI W.heap.size w' (.slice a' n.args.length c') n.args ∧ Fr NoB W w') := fun W hW => canonNil_any M n _ W (h.fr hW (fun _ _ h => h.elim)) hl
  clear h
  unfold nodeV
  go_enter Tryd.func20, Tryd.ntmps20
  go_wp2_with (go_at_call 16; have X := HC.out; (with_reducible refine Calls.mono (X _ ?_) ?_); (focus (repeat (first | exact Fr.refl _ _ | refine Fr.alloc ?_ _))); clear X; rintro e w1 ⟨a', c', rfl, ho, hf⟩; obtain ⟨r0, r1, r2, r3, r4, rf, rl⟩ := hf.five (b := w.heap.size + 1) (fun h => h) (at_new' (by simp)); have HF := hid hf; have HO := hid ho; clear hf ho)
  refine bodyPost_ret (v := nodeV n (.slice a' n.args.length c')) (by simp [results, Tryd.results20, go_sem, r0, r1, r2, r3, r4, nodeV]) rfl ?_
  refine ⟨a', c', rfl, OwnI.keep HO.out ?_ ?_, ?_⟩
  · simp only [World.size_alloc]; omega
  · repeat (refine Fr.setCell ?_ (fun _ => by simp <;> omega) _)
    exact Fr.refl _ _
  · repeat (refine Fr.setCell ?_ (fun h => absurd h (by simp)) _)
    exact (((Fr.refl NoB w).alloc _).alloc _).step HF.out

theorem TableAt.insert {M : Nat → Prop} {w : World} {bt bm : Nat} {l : List TEnt} (h : TableAt M w bt bm l) (x : TEnt) (hx : RdI M w x.sl x.node.args ∧ NodeOk x.node ∧ NodeSm x.node) (hg : tget l x.node = none) (hM : M bm) (hbm : bm ≠ bt) :
    ∃ w', (Instr.mapUpdate 56 (.map (some bm)) (.string (keyB x.node)) (entV x)).run Tryd.prog w = .ok () w' ∧ TableAt M w' bt bm (l ++ [x]) ∧ Fr (fun k => k = bm) w w' := by
  obtain ⟨w', h1, h2, h3⟩ := h.map.put (P := Tryd.prog) kkString Tryd.underlying56 Tryd.underlying9 (keyB x.node) (entV x)
  have hg' := mget_ent x.node hx.2.1 l (fun y hy => (h.ents y hy).2.1)
  rw [hg] at hg'
  refine ⟨w', h1, ⟨h3.at (fun h => hbm h.symm) h.head, ?_, fun y hy => ?_⟩, h3⟩
  · rw [mput, hg'] at h2
    simpa [entP] using h2
  · rw [List.mem_append, List.mem_singleton] at hy
    rcases hy with hy | rfl
    · exact ⟨(h.ents y hy).1.fr h3 (fun k _ hk => by rw [show k = bm from hk]; exact hM), (h.ents y hy).2⟩
    · exact ⟨hx.1.fr h3 (fun k _ hk => by rw [show k = bm from hk]; exact hM), hx.2⟩

set_option maxHeartbeats 2000000 in
theorem put_some (M N : Nat → Prop) (w : World) (bt bm : Nat) (l : List TEnt) (h : TableAt M w bt bm l) (n : Node) (s : Value) (id : Int) (hr : RdI N w s n.args) (hok : NodeOk n) (hsm : NodeSm n) (ht : Tab w) (x : TEnt) (hg : tget l n = some x) :
    Calls Tryd.prog 25 #[.pointer (some ⟨bt, 0, none⟩), nodeV n s, .int .i64 id] w fun e w' => e = .returned (.bool false) ∧ Fr NoB w w' := by
  obtain ⟨xn, xs, xi⟩ := x
  obtain ⟨a2, cap2, hx⟩ := (h.ents _ (tget_mem hg).1).1.form
  simp only at hx
  subst hx
  obtain ⟨a, cap, rfl⟩ := hr.form
  have HK : Hid (∀ W, Fr NoB (w.alloc (.cells (nodeCells n (.slice a n.args.length cap)) 26)) W → Calls Tryd.prog 13 #[nodeV n (.slice a n.args.length cap)] W fun e w' => e = .returned (.string (keyB n)) ∧ Fr NoB W w' ∧ Fr NoB (w.alloc (.cells (nodeCells n (.slice a n.args.length cap)) 26)) w') := fun W hW =>
    (key_any N n _ W (hr.fr (((Fr.refl NoB w).alloc _).step hW) (fun _ _ h => h.elim)) hok hsm (ht.fr (((Fr.refl NoB w).alloc _).step hW) (fun h => h))).mono (fun e w' ⟨h1, h2⟩ => ⟨h1, h2, hW.step h2⟩)
  have HT : Hid (∀ W, Fr NoB (w.alloc (.cells (nodeCells n (.slice a n.args.length cap)) 26)) W → TableAt M W bt bm l ∧ W.heap[w.heap.size]? = some (.cells (nodeCells n (.slice a n.args.length cap)) 26 (0, 0)) ∧ Fr NoB w W) := fun W hW =>
    ⟨h.fr (((Fr.refl NoB w).alloc _).step hW) (fun h => h) (fun h => h) (fun _ _ h => h.elim), hW.at (fun h => h) (at_new w _), ((Fr.refl NoB w).alloc _).step hW⟩
  have HOK := hid hok
  have HG := hid hg
  have H0 := (HT.out _ (Fr.refl NoB _)).1.cell
  clear h hr hok hsm ht hg
  unfold nodeV
  go_enter Tryd.func25, Tryd.ntmps25
  go_wp2_with (first
    | (go_at_call 45; refine (made_any M _ bt bm l (HT.out _ (Fr.refl _ _)).1).mono ?_; rintro e w' ⟨rfl, rfl⟩)
    | (go_at_call 13; have X := HK.out; (with_reducible refine Calls.mono (X _ ?_) ?_); (focus (repeat (first | exact Fr.refl _ _ | refine Fr.drew ?_ | refine Fr.alloc ?_ _))); clear X; rintro e w2 ⟨rfl, hfW, hf2⟩; have Y := HT.out _ hf2; obtain ⟨c0, c1, c2, c3, c4, cf, cl⟩ := five_of Y.2.1; have ct := Y.1.cell; have lk := Y.1.look n HOK.out HG.out))
  go_ret
  refine ⟨rfl, ?_⟩
  repeat (first | (with_reducible exact Y.2.2) | refine Fr.setCell ?_ (fun h => by simp only at h; omega) _ | refine Fr.alloc ?_ _)

set_option maxHeartbeats 2000000 in
theorem put_none (M N : Nat → Prop) (w : World) (bt bm : Nat) (l : List TEnt) (h : TableAt M w bt bm l) (n : Node) (s : Value) (id : Int) (hr : RdI N w s n.args) (hok : NodeOk n) (hsm : NodeSm n) (ht : Tab w) (hg : tget l n = none)
    (hM : M bm) (hbm : bm ≠ bt) (hMw : ∀ k, M k → k < w.heap.size) :
    Calls Tryd.prog 25 #[.pointer (some ⟨bt, 0, none⟩), nodeV n s, .int .i64 id] w fun e w' => e = .returned (.bool true) ∧ (∃ sl, TableAt M w' bt bm (l ++ [⟨n, sl, id⟩])) ∧ Fr (fun k => k = bm) w w' := by
  obtain ⟨a, cap, rfl⟩ := hr.form
  have hbl : bm < w.heap.size := h.map.lt
  have hbl2 := h.lt
  have HK : Hid (∀ W, Fr NoB (w.alloc (.cells (nodeCells n (.slice a n.args.length cap)) 26)) W → Calls Tryd.prog 13 #[nodeV n (.slice a n.args.length cap)] W fun e w' => e = .returned (.string (keyB n)) ∧ Fr NoB W w' ∧ Fr NoB (w.alloc (.cells (nodeCells n (.slice a n.args.length cap)) 26)) w') := fun W hW =>
    (key_any N n _ W (hr.fr (((Fr.refl NoB w).alloc _).step hW) (fun _ _ h => h.elim)) hok hsm (ht.fr (((Fr.refl NoB w).alloc _).step hW) (fun h => h))).mono (fun e w' ⟨h1, h2⟩ => ⟨h1, h2, hW.step h2⟩)
  have HC : Hid (∀ W, Fr NoB (w.alloc (.cells (nodeCells n (.slice a n.args.length cap)) 26)) W → Calls Tryd.prog 20 #[nodeV n (.slice a n.args.length cap)] W fun e w' => ∃ a' c', e = .returned (nodeV n (.slice a' n.args.length c')) ∧ RdI M w' (.slice a' n.args.length c') n.args ∧ Fr NoB (w.alloc (.cells (nodeCells n (.slice a n.args.length cap)) 26)) w') := fun W hW =>
    (hcCopy_any N n _ W (hr.fr (((Fr.refl NoB w).alloc _).step hW) (fun _ _ h => h.elim)) (by have := hsm.args; omega)).mono (fun e w' ⟨a', c', h1, h2, h3⟩ => ⟨a', c', h1, h2.rd (fun k hk hm => by have := hMw k hm; have := (((Fr.refl NoB w).alloc (.cells (nodeCells n (.slice a n.args.length cap)) 26)).step hW).size; omega), hW.step h3⟩)
  have HT : Hid (∀ W, Fr NoB (w.alloc (.cells (nodeCells n (.slice a n.args.length cap)) 26)) W → TableAt M W bt bm l ∧ W.heap[w.heap.size]? = some (.cells (nodeCells n (.slice a n.args.length cap)) 26 (0, 0)) ∧ Fr NoB w W) := fun W hW =>
    ⟨h.fr (((Fr.refl NoB w).alloc _).step hW) (fun h => h) (fun h => h) (fun _ _ h => h.elim), hW.at (fun h => h) (at_new w _), ((Fr.refl NoB w).alloc _).step hW⟩
  have HOK := hid hok
  have HSM := hid hsm
  have HG := hid hg
  have HM := hid hM
  have HB := hid hbm
  have H0 := (HT.out _ (Fr.refl NoB _)).1.cell
  clear h hr hok hsm ht hg hM hbm hMw
  unfold nodeV
  go_enter Tryd.func25, Tryd.ntmps25
  go_wp2_with (first
    | (go_at_call 45; refine (made_any M _ bt bm l (HT.out _ (Fr.refl _ _)).1).mono ?_; rintro e w' ⟨rfl, rfl⟩)
    | (go_at_call 13; have X := HK.out; (with_reducible refine Calls.mono (X _ ?_) ?_); (focus (repeat (first | exact Fr.refl _ _ | refine Fr.drew ?_ | refine Fr.alloc ?_ _))); clear X; rintro e w2 ⟨rfl, hfW, hf2⟩; have Y := HT.out _ hf2; obtain ⟨c0, c1, c2, c3, c4, cf, cl⟩ := five_of Y.2.1; have ct := Y.1.cell; have lk := Y.1.lookNone n HOK.out HG.out))
  have hn2 : bt ≠ w2.heap.size := by have := Y.1.lt; omega
  have hn3 := hn2.symm
  have hn4 : w.heap.size ≠ w2.heap.size := by omega
  have hn5 := hn4.symm
  go_region_held3 (fun w' => w'.cell? ⟨bt, 0, none⟩ = some (.map (some bm)) ∧ w'.cell? ⟨w.heap.size, 0, none⟩ = some (.int .i64 n.op) ∧ w'.cell? ⟨w.heap.size, 1, none⟩ = some (.int .i64 n.width) ∧ w'.cell? ⟨w.heap.size, 2, none⟩ = some (.int .u64 n.val) ∧ w'.cell? ⟨w.heap.size, 3, none⟩ = some (.string n.name) ∧ w'.cell? ⟨w.heap.size, 4, none⟩ = some (.slice a n.args.length cap)) (go_keep)
    (first | (go_at_call 20; have X := HC.out; (with_reducible refine Calls.mono (X _ ?_) ?_); (focus (repeat (first | (with_reducible exact hf2) | refine Fr.drew ?_ | refine Fr.alloc ?_ _))); clear X; rintro e w3 ⟨a', c', rfl, hrd3, hf3⟩; have Y3 := HT.out _ hf3; obtain ⟨w4, hrun, ht4, hf4⟩ := Y3.1.insert ⟨n, .slice a' n.args.length c', id⟩ ⟨hrd3, HOK.out, HSM.out⟩ HG.out HM.out HB.out; obtain ⟨d0, d1, d2, d3, d4, df, dl⟩ := five_of Y3.2.1; have dt := Y3.1.cell; obtain ⟨g0, g1, g2, g3, g4, gf, gl⟩ := five_of (hf4.at (b := w.heap.size) (by intro h; omega) Y3.2.1); have gt := ht4.cell; simp only [entV] at hrun))
  go_wp2
  go_ret
  exact ⟨rfl, ⟨_, ht4⟩, (Y3.2.2.mono (fun _ _ h => h.elim)).trans' hf4 (fun _ _ h => h)⟩

theorem mdel_ent (n : Node) (hn : NodeOk n) : ∀ (l : List TEnt), (∀ x ∈ l, NodeOk x.node) → mdel (l.map entP) (keyB n) = (l.filter (fun x => decide (nodeCmp x.node n ≠ 0))).map entP
  | [], _ => rfl
  | x :: l, h => by
    have ih := mdel_ent n hn l (fun y hy => h y (by simp [hy]))
    unfold mdel at *
    by_cases e : x.node = n
    · have e1 : nodeCmp x.node n = 0 := nodeCmp_zero.2 e
      have e2 : (entP x).1 = keyB n := by rw [entP, e]
      rw [List.map_cons, List.filter_cons_of_neg (by simp [e2]), List.filter_cons_of_neg (by simp [e1]), ih]
    · have e1 : ¬ nodeCmp x.node n = 0 := fun h => e (nodeCmp_zero.1 h)
      have e2 : ¬ (entP x).1 = keyB n := fun h2 => e ((keyB_inj (h x (by simp)) hn).1 h2)
      rw [List.map_cons, List.filter_cons_of_pos (by simp [e2]), List.filter_cons_of_pos (by simp [e1]), ih, List.map_cons]

def tdel (l : List TEnt) (n : Node) : List TEnt := l.filter (fun x => decide (nodeCmp x.node n ≠ 0))

theorem TableAt.remove {M : Nat → Prop} {w : World} {bt bm : Nat} {l : List TEnt} (h : TableAt M w bt bm l) (n : Node) (hn : NodeOk n) (hM : M bm) (hbm : bm ≠ bt) (ty : TypeId) :
    ∃ w', (Builtin.delete_ #[56, 9] ty #[.map (some bm), .string (keyB n)]).run Tryd.prog w = .ok (.tuple #[]) w' ∧ TableAt M w' bt bm (tdel l n) ∧ Fr (fun k => k = bm) w w' := by
  obtain ⟨w', h1, h2, h3⟩ := h.map.del (P := Tryd.prog) kkString Tryd.underlying56 Tryd.underlying9 (keyB n) ty 9
  rw [mdel_ent n hn l (fun x hx => (h.ents x hx).2.1)] at h2
  refine ⟨w', h1, ⟨h3.at (fun h => hbm h.symm) h.head, h2, fun y hy => ?_⟩, h3⟩
  have hy' := (List.mem_filter.1 hy).1
  exact ⟨(h.ents y hy').1.fr h3 (fun k _ hk => by rw [show k = bm from hk]; exact hM), (h.ents y hy').2⟩

set_option maxHeartbeats 2000000 in
theorem del_none (M N : Nat → Prop) (w : World) (bt bm : Nat) (l : List TEnt) (h : TableAt M w bt bm l) (n : Node) (s : Value) (hr : RdI N w s n.args) (hok : NodeOk n) (hsm : NodeSm n) (ht : Tab w) (hg : tget l n = none) :
    Calls Tryd.prog 27 #[.pointer (some ⟨bt, 0, none⟩), nodeV n s] w fun e w' => e = .returned (.bool false) ∧ Fr NoB w w' := by
  obtain ⟨a, cap, rfl⟩ := hr.form
  have HK : Hid (∀ W, Fr NoB (w.alloc (.cells (nodeCells n (.slice a n.args.length cap)) 26)) W → Calls Tryd.prog 13 #[nodeV n (.slice a n.args.length cap)] W fun e w' => e = .returned (.string (keyB n)) ∧ Fr NoB W w' ∧ Fr NoB (w.alloc (.cells (nodeCells n (.slice a n.args.length cap)) 26)) w') := fun W hW =>
    (key_any N n _ W (hr.fr (((Fr.refl NoB w).alloc _).step hW) (fun _ _ h => h.elim)) hok hsm (ht.fr (((Fr.refl NoB w).alloc _).step hW) (fun h => h))).mono (fun e w' ⟨h1, h2⟩ => ⟨h1, h2, hW.step h2⟩)
  have HT : Hid (∀ W, Fr NoB (w.alloc (.cells (nodeCells n (.slice a n.args.length cap)) 26)) W → TableAt M W bt bm l ∧ W.heap[w.heap.size]? = some (.cells (nodeCells n (.slice a n.args.length cap)) 26 (0, 0)) ∧ Fr NoB w W) := fun W hW =>
    ⟨h.fr (((Fr.refl NoB w).alloc _).step hW) (fun h => h) (fun h => h) (fun _ _ h => h.elim), hW.at (fun h => h) (at_new w _), ((Fr.refl NoB w).alloc _).step hW⟩
  have HOK := hid hok
  have HG := hid hg
  have H0 := (HT.out _ (Fr.refl NoB _)).1.cell
  clear h hr hok hsm ht hg
  unfold nodeV
  go_enter Tryd.func27, Tryd.ntmps27
  go_wp2_with (first
    | (go_at_call 45; refine (made_any M _ bt bm l (HT.out _ (Fr.refl _ _)).1).mono ?_; rintro e w' ⟨rfl, rfl⟩)
    | (go_at_call 13; have X := HK.out; (with_reducible refine Calls.mono (X _ ?_) ?_); (focus (repeat (first | exact Fr.refl _ _ | refine Fr.drew ?_ | refine Fr.alloc ?_ _))); clear X; rintro e w2 ⟨rfl, hfW, hf2⟩; have Y := HT.out _ hf2; obtain ⟨c0, c1, c2, c3, c4, cf, cl⟩ := five_of Y.2.1; have ct := Y.1.cell; have lk := Y.1.lookNone n HOK.out HG.out))
  go_ret
  refine ⟨rfl, ?_⟩
  repeat (first | (with_reducible exact Y.2.2) | refine Fr.setCell ?_ (fun h => by simp only at h; omega) _ | refine Fr.alloc ?_ _)

set_option maxHeartbeats 2000000 in
theorem del_some (M N : Nat → Prop) (w : World) (bt bm : Nat) (l : List TEnt) (h : TableAt M w bt bm l) (n : Node) (s : Value) (hr : RdI N w s n.args) (hok : NodeOk n) (hsm : NodeSm n) (ht : Tab w) (x : TEnt) (hg : tget l n = some x)
    (hM : M bm) (hbm : bm ≠ bt) :
    Calls Tryd.prog 27 #[.pointer (some ⟨bt, 0, none⟩), nodeV n s] w fun e w' => e = .returned (.bool true) ∧ TableAt M w' bt bm (tdel l n) ∧ Fr (fun k => k = bm) w w' := by
  obtain ⟨xn, xs, xi⟩ := x
  obtain ⟨a2, cap2, hx⟩ := (h.ents _ (tget_mem hg).1).1.form
  simp only at hx
  subst hx
  obtain ⟨a, cap, rfl⟩ := hr.form
  have HK : Hid (∀ W, Fr NoB (w.alloc (.cells (nodeCells n (.slice a n.args.length cap)) 26)) W → Calls Tryd.prog 13 #[nodeV n (.slice a n.args.length cap)] W fun e w' => e = .returned (.string (keyB n)) ∧ Fr NoB W w' ∧ Fr NoB (w.alloc (.cells (nodeCells n (.slice a n.args.length cap)) 26)) w') := fun W hW =>
    (key_any N n _ W (hr.fr (((Fr.refl NoB w).alloc _).step hW) (fun _ _ h => h.elim)) hok hsm (ht.fr (((Fr.refl NoB w).alloc _).step hW) (fun h => h))).mono (fun e w' ⟨h1, h2⟩ => ⟨h1, h2, hW.step h2⟩)
  have HT : Hid (∀ W, Fr NoB (w.alloc (.cells (nodeCells n (.slice a n.args.length cap)) 26)) W → TableAt M W bt bm l ∧ W.heap[w.heap.size]? = some (.cells (nodeCells n (.slice a n.args.length cap)) 26 (0, 0)) ∧ Fr NoB w W) := fun W hW =>
    ⟨h.fr (((Fr.refl NoB w).alloc _).step hW) (fun h => h) (fun h => h) (fun _ _ h => h.elim), hW.at (fun h => h) (at_new w _), ((Fr.refl NoB w).alloc _).step hW⟩
  have HOK := hid hok
  have HG := hid hg
  have H0 := (HT.out _ (Fr.refl NoB _)).1.cell
  have HM := hid hM
  have HB := hid hbm
  clear h hr hok hsm ht hg hM hbm
  unfold nodeV
  go_enter Tryd.func27, Tryd.ntmps27
  go_wp2_with (first
    | (go_at_call 45; refine (made_any M _ bt bm l (HT.out _ (Fr.refl _ _)).1).mono ?_; rintro e w' ⟨rfl, rfl⟩)
    | (go_at_call 13; have X := HK.out; (with_reducible refine Calls.mono (X _ ?_) ?_); (focus (repeat (first | exact Fr.refl _ _ | refine Fr.drew ?_ | refine Fr.alloc ?_ _))); clear X; rintro e w2 ⟨rfl, hfW, hf2⟩; have Y := HT.out _ hf2; obtain ⟨c0, c1, c2, c3, c4, cf, cl⟩ := five_of Y.2.1; have ct := Y.1.cell; have lk := Y.1.look n HOK.out HG.out; have hn2 : bt ≠ w2.heap.size := (by have := Y.1.lt; omega); have hn3 := hn2.symm; have ct2 := fun o => (HT.out _ (hf2.alloc o)).1.cell; obtain ⟨w4, hrun, ht4, hf4⟩ := (HT.out _ (hf2.alloc (.cells #[.int .i64 xn.op, .int .i64 xn.width, .int .u64 xn.val, .string xn.name, .slice a2 xn.args.length cap2, .int .i64 xi] 71))).1.remove n HOK.out HM.out HB.out 0))
  go_ret
  refine ⟨rfl, ht4, ?_⟩
  have h5 := (Y.2.2.alloc (.cells #[.int .i64 xn.op, .int .i64 xn.width, .int .u64 xn.val, .string xn.name, .slice a2 xn.args.length cap2, .int .i64 xi] 71))
  exact (h5.mono (fun _ _ h => h.elim)).trans' hf4 (fun _ _ h => h)

end Go.Proofs.YtkifedleajacpaaDoor
