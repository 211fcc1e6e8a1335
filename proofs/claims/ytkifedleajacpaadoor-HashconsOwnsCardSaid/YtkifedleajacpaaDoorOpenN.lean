/- Opening a slice of nodes that came in. -/
import Derived.Test.YtkifedleajacpaaDoorOpen
import Derived.Test.YtkifedleajacpaaDoorNodes
namespace Go.Proofs.YtkifedleajacpaaDoor
open Go.ChangeShapes Go.WideShapes Go.ChangeAt Go.RowKit Go.Joins Go.Deep
set_option maxRecDepth 100000

theorem choose_list {α : Type} (p : Nat → α → Prop) : ∀ n, (∀ i, i < n → ∃ a, p i a) → ∃ l : List α, l.length = n ∧ ∀ i (h : i < l.length), p i l[i]
  | 0, _ => ⟨[], rfl, fun i h => absurd h (by simp)⟩
  | n + 1, h => by
    obtain ⟨l, hl, hp⟩ := choose_list p n (fun i hi => h i (by omega))
    obtain ⟨a, ha⟩ := h n (by omega)
    refine ⟨l ++ [a], by simp [hl], fun i hi => ?_⟩
    by_cases e : i < l.length
    · rw [List.getElem_append_left e]; exact hp i e
    · have e2 : i = l.length := by simp at hi; omega
      subst e2
      rw [List.getElem_append_right (Nat.le_refl _)]
      simpa [hl] using ha

section
variable {H : Type} {enc : TypeId × Value → H} {P : Program} {w : World} {base : Nat} {spare : Nat → Bool} {held : Bool}
theorem open_slice_fields {t e : TypeId} {fs : Array Field} {fuel : Nat} {cs : List Value} {x : DataW H × List MemPlace} (ht : P.underlying t = some (.slice e)) (he : P.underlying e = some (.struct fs))
    (hone : oneCellFields P fs = true) (hC : P.cellsOf e = fs.size) (h : DataW.trod enc P w base spare held fuel t cs = some x) :
    (cs = [.slice none 0 0] ∧ x = (.nil, [])) ∨
    ∃ (a : Addr) (len cap m : Nat) (D : Nat → DataW H) (Pl : Nat → List MemPlace), cs = [.slice (some a) len cap] ∧ base ≤ a.block ∧ len ≤ cap ∧ cap ≤ maxLen ∧ m = (if spare a.block then cap else len) ∧
      x = (.slice ((List.range len).map D) ((List.range (m - len)).map fun j => D (len + j)), MemPlace.row a (m * fs.size) ++ (List.range m).flatMap Pl) ∧
      ∀ i, i < m → ∃ (ys : List (DataW H × List MemPlace)) (n : Nat), D i = .agg (ys.map (·.1)) ∧ Pl i = ys.flatMap (·.2) ∧ ys.length = fs.size ∧
        ∀ (j : Nat) (f : Field), fs[j]? = some f → ∃ (v : Value) (y : DataW H × List MemPlace), w.cell? (a.add (i * fs.size + j)) = some v ∧ ys[j]? = some y ∧ DataW.trod enc P w base spare held n f.type [v] = some y := by
  rcases open_slice ht h with h0 | ⟨a, len, cap, m, n, D, Pl, hcs, hb, hl, hm, hmm, hx, hi⟩
  · exact .inl h0
  · refine .inr ⟨a, len, cap, m, D, Pl, hcs, hb, hl, hm, hmm, by rw [hC] at hx; exact hx, fun i him => ?_⟩
    obtain ⟨cs', hc, ht'⟩ := hi i him
    rw [hC] at hc
    obtain ⟨ys, n', hn', hy, hlen, hyl, hf⟩ := DataW.trod_struct he ht'
    obtain ⟨_, hcl, hat⟩ := World.cells?_some hc
    simp only [Prod.mk.injEq] at hy
    refine ⟨ys, n', hy.1, hy.2, hyl, fun j f hj => ?_⟩
    obtain ⟨ho, hk⟩ := hone_of hone j f hj
    have hjl : j < fs.size := (Array.getElem?_eq_some_iff.1 hj).1
    have hcell := hat j hjl
    have hv : cs'[j]? = some (cs'[j]'(by omega)) := List.getElem?_eq_getElem (by omega)
    have h1 := hf j f hj
    rw [ho, hk] at h1
    have hone' : (cs'.drop j).take 1 = [cs'[j]'(by omega)] := by
      rw [List.drop_eq_getElem_cons (by omega)]
      rfl
    rw [hone'] at h1
    have hys : ys[j]? = some (ys[j]'(by omega)) := List.getElem?_eq_getElem (by omega)
    refine ⟨_, _, ?_, hys, h1.trans hys⟩
    rw [← Go.Deep.add_add, hcell, hv]
end

theorem cellsAt_five {w : World} {b off : Nat} {l : List (Node × Value)} (h : ∀ i (hi : i < l.length), ∀ j u, (nsCells l[i])[j]? = some u → w.cell? ⟨b, off + (i * 5 + j), none⟩ = some u) : CellsAt w b off (flatE nsCells l) := by
  intro j u hj
  have hjl : j < l.length * 5 := by have := (List.getElem?_eq_some_iff.1 hj).1; rwa [flatE_length nsCells nsLen] at this
  have hi : j / 5 < l.length := by omega
  have e := flatE_get nsCells nsLen l (j / 5) hi (j % 5) (Nat.mod_lt _ (by decide))
  have ej : j / 5 * 5 + j % 5 = j := by omega
  rw [ej, hj] at e
  have := h (j / 5) hi (j % 5) u e.symm
  rwa [ej] at this

section
variable {H : Type} {enc : TypeId × Value → H} {w : World} {base : Nat} {spare : Nat → Bool} {held : Bool}
/-- A slice of nodes, out of its reading. -/
theorem open_nodes {fuel : Nat} {v : Value} {x : DataW H × List MemPlace} (h : DataW.trod enc Tryd.prog w base spare held fuel 43 [v] = some x) (M : Nat → Prop) (hM : ∀ k, k < w.heap.size → ¬ M k) :
    ∃ l : List (Node × Value), RdN M w v l ∧ l.length ≤ 9223372036854775807 ∧ ∀ y ∈ l, NodeOk y.1 ∧ y.1.args.length ≤ 9223372036854775807 ∧ y.1.name.size ≤ 9223372036854775807 := by
  rcases open_slice_fields Tryd.underlying43 Tryd.underlying26 (by kernel_rfl) cellsNode h with ⟨hcs, _⟩ | ⟨a, len, cap, m, D, Pl, hcs, _, hl, hm, hmm, _, hi⟩
  · simp at hcs
    exact ⟨[], ⟨.inl ⟨⟨none, 0, hcs, fun _ => rfl⟩, rfl⟩, fun x hx => by cases hx⟩, by simp, fun x hx => by cases hx⟩
  · simp at hcs
    subst hcs
    unfold maxLen at hm
    have hlm : len ≤ m := by rw [hmm]; split <;> omega
    obtain ⟨l, hll, hp⟩ := choose_list (fun i (y : Node × Value) => (∀ j u, (nsCells y)[j]? = some u → w.cell? (a.add (i * 5 + j)) = some u) ∧ RdI M w y.2 y.1.args ∧ NodeOk y.1 ∧ y.1.args.length ≤ 9223372036854775807 ∧ y.1.name.size ≤ 9223372036854775807) len (fun i hil => by
      obtain ⟨ys, n, _, _, _, hf⟩ := hi i (by omega)
      obtain ⟨v0, y0, c0, _, t0⟩ := hf 0 _ rfl
      obtain ⟨v1, y1, c1, _, t1⟩ := hf 1 _ rfl
      obtain ⟨v2, y2, c2, _, t2⟩ := hf 2 _ rfl
      obtain ⟨v3, y3, c3, _, t3⟩ := hf 3 _ rfl
      obtain ⟨v4, y4, c4, _, t4⟩ := hf 4 _ rfl
      obtain ⟨n0, e0, _, q0⟩ := DataW.trod_int Tryd.underlying22 t0
      obtain ⟨n1, e1, _, q1⟩ := DataW.trod_int Tryd.underlying3 t1
      obtain ⟨n2, e2, _, q2⟩ := DataW.trod_int Tryd.underlying23 t2
      obtain ⟨n3, e3, _, q3⟩ := DataW.trod_string Tryd.underlying9 t3
      obtain ⟨k, hk, hlen, hok⟩ := rdI_of_trod t4 M hM
      simp at e0 e1 e2 e3
      subst e0 e1 e2 e3
      refine ⟨(⟨n0, n1, n2, n3, k⟩, v4), fun j u hj => ?_, hk, ⟨i64ok_of_wf q0, i64ok_of_wf q1, u64b q2, hok⟩, hlen, strlen q3⟩
      match j, hj with
      | 0, hj => simp [nsCells] at hj; subst hj; exact c0
      | 1, hj => simp [nsCells] at hj; subst hj; exact c1
      | 2, hj => simp [nsCells] at hj; subst hj; exact c2
      | 3, hj => simp [nsCells] at hj; subst hj; exact c3
      | 4, hj => simp [nsCells] at hj; subst hj; exact c4
      | j + 5, hj => simp [nsCells] at hj)
    refine ⟨l, ⟨?_, fun x hx => ?_⟩, by omega, fun y hy => ?_⟩
    · by_cases h0 : len = 0
      · subst h0
        obtain rfl : l = [] := List.eq_nil_of_length_eq_zero hll
        exact .inl ⟨⟨some a, cap, rfl, fun h => by cases h⟩, rfl⟩
      · have hc0 := (hp 0 (by omega)).1 0 _ rfl
        obtain ⟨b, off, spot⟩ := a
        have hsp : spot = none := by simpa [Addr.add] using World.cell?_spot hc0
        subst hsp
        have hlt : b < w.heap.size := by simpa [Addr.add] using World.block_lt_of_cell? w _ hc0
        refine .inr ⟨b, off, cap, by rw [hll], hlt, hM b hlt, by omega, cellsAt_five fun i hil j u hu => ?_⟩
        have := (hp i hil).1 j u hu
        have e : (⟨b, off, none⟩ : Addr).add (i * 5 + j) = ⟨b, off + (i * 5 + j), none⟩ := by unfold Addr.add; split <;> simp_all
        rw [← e]; exact this
    · obtain ⟨i, hil, rfl⟩ := List.mem_iff_getElem.1 hx
      exact (hp i hil).2.1
    · obtain ⟨i, hil, rfl⟩ := List.mem_iff_getElem.1 hy
      exact (hp i hil).2.2
end

end Go.Proofs.YtkifedleajacpaaDoor
