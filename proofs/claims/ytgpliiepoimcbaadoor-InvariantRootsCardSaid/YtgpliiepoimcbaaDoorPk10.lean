import Derived.Test.YtgpliiepoimcbaaDoorPk1
import Derived.Test.YtgpliiepoimcbaaDoorPk6
import Derived.Test.YtgpliiepoimcbaaDoorPk9
import Derived.ChangeSame
import Derived.Deep.DeepHandedRow
import Derived.Deep.Fields
import Derived.Deep.Slices
import Derived.Lib.LaidTab
import Derived.Lib.SmallJoins
import Derived.OpenShut
import Derived.ProofKit
import Derived.Test.YtgpliiepoimcbaaDoorRows
set_option linter.all false
section
/- What all rows of this seat share: opening a node that came in, the table off the row's list, a world for the witness. -/
set_option maxRecDepth 100000
namespace Go.Proofs.YtgpliiepoimcbaaDoor
open Go.ChangeShapes Go.WideShapes Go.ChangeAt Go.RowKit Go.Joins Go.Deep
open Go.ChangeMaps (open_string shut_string)

theorem own : ownKnob Tryd.prog.godebug = none := by kernel_rfl
theorem laidOut : laidOutB Tryd.prog = true := by kernel_rfl

section
variable {H : Type} {enc : TypeId × Value → H} {P : Program} {w : World} {base : Nat} {spare : Nat → Bool} {held : Bool}
theorem open_agg5 {r : Reach} {b0 : Nat} {t : TypeId} {f0 f1 f2 f3 f4 : Field} {v : Value} {d : DataW H} {p : List MemPlace} (hs : P.underlying t = some (.struct #[f0, f1, f2, f3, f4])) (hone : oneCellFields P #[f0, f1, f2, f3, f4] = true) (hC : P.cellsOf t = 5)
    (hv : Value.okWide P w r b0 t v) (h : DataW.Trod enc P w base spare held t v d p) :
    ∃ (v0 v1 v2 v3 v4 : Value) (y0 y1 y2 y3 y4 : DataW H × List MemPlace) (n : Nat), v = .agg #[v0, v1, v2, v3, v4] ∧ d = .agg [y0.1, y1.1, y2.1, y3.1, y4.1] ∧ p = y0.2 ++ (y1.2 ++ (y2.2 ++ (y3.2 ++ y4.2))) ∧
      DataW.trod enc P w base spare held n f0.type [v0] = some y0 ∧ DataW.trod enc P w base spare held n f1.type [v1] = some y1 ∧ DataW.trod enc P w base spare held n f2.type [v2] = some y2 ∧ DataW.trod enc P w base spare held n f3.type [v3] = some y3 ∧ DataW.trod enc P w base spare held n f4.type [v4] = some y4 := by
  obtain ⟨cs, rfl, hsz⟩ := okWide_struct hs hv
  obtain ⟨l⟩ := cs
  match l, hsz.trans hC with
  | [c0, c1, c2, c3, c4], _ =>
    obtain ⟨fuel, hf⟩ := h
    obtain ⟨xs, n, _, hx, _, hlen, hg⟩ := DataW.trod_struct hs hf
    obtain ⟨o0, k0⟩ := hone_of hone 0 f0 rfl
    obtain ⟨o1, k1⟩ := hone_of hone 1 f1 rfl
    obtain ⟨o2, k2⟩ := hone_of hone 2 f2 rfl
    obtain ⟨o3, k3⟩ := hone_of hone 3 f3 rfl
    obtain ⟨o4, k4⟩ := hone_of hone 4 f4 rfl
    match xs, hlen with
    | [y0, y1, y2, y3, y4], _ =>
      simp only [Prod.mk.injEq] at hx
      exact ⟨c0, c1, c2, c3, c4, y0, y1, y2, y3, y4, n, rfl, by simpa using hx.1, by simpa using hx.2, by simpa [Value.cells, o0, k0] using hg 0 f0 rfl, by simpa [Value.cells, o1, k1] using hg 1 f1 rfl, by simpa [Value.cells, o2, k2] using hg 2 f2 rfl, by simpa [Value.cells, o3, k3] using hg 3 f3 rfl, by simpa [Value.cells, o4, k4] using hg 4 f4 rfl⟩
end

theorem cellsInt : Tryd.prog.cellsOf 3 = 1 := by kernel_rfl
theorem cellsNode : Tryd.prog.cellsOf 40 = 5 := by kernel_rfl

theorem i64ok_of_wf {x : Int} (h : (Lit.int .i64 x).wf = true) : i64ok x := by
  have := bounds_i64 h; omega

section
variable {H : Type} {enc : TypeId × Value → H} {w : World} {base : Nat} {spare : Nat → Bool} {held : Bool}
/-- A slice of integers, out of its reading. -/
theorem rdI_of_trod {fuel : Nat} {v : Value} {x : DataW H × List MemPlace} (h : DataW.trod enc Tryd.prog w base spare held fuel 24 [v] = some x) (M : Nat → Prop) (hM : ∀ k, k < w.heap.size → ¬ M k) :
    ∃ l : List Int, RdI M w v l ∧ l.length ≤ 9223372036854775807 ∧ ∀ i, i < l.length → i64ok (l.getD i 0) := by
  rcases open_ints Tryd.underlying24 Tryd.underlying3 cellsInt h with ⟨hcs, _⟩ | ⟨a, len, cap, zs, hcs, _, hl, hm, hz, hx, hcell, hwz⟩
  · simp at hcs
    exact ⟨[], .inl ⟨⟨none, 0, hcs, fun _ => rfl⟩, rfl⟩, by simp, fun i hi => by simp at hi⟩
  · simp at hcs
    subst hcs
    unfold maxLen at hm
    have hzl : len ≤ zs.length := by rw [hz]; split <;> omega
    have hzt : (zs.take len).length = len := by simp; omega
    have hget : ∀ i, i < len → (zs.take len).getD i 0 = zs.getD i 0 := fun i hi => by
      rw [List.getD_eq_getElem?_getD, List.getElem?_take, if_pos hi, ← List.getD_eq_getElem?_getD]
    have hok : ∀ i, i < (zs.take len).length → i64ok ((zs.take len).getD i 0) := fun i hi => by
      rw [hzt] at hi
      rw [hget i hi, getD_eq (by omega)]
      exact i64ok_of_wf (hwz _ (List.getElem_mem _))
    by_cases h0 : len = 0
    · subst h0
      exact ⟨[], .inl ⟨⟨some a, cap, rfl, fun h => by cases h⟩, rfl⟩, by simp, fun i hi => by simp at hi⟩
    · obtain ⟨b, off, spot⟩ := a
      have hc0 := hcell 0 (by omega)
      have hsp : spot = none := by simpa [Addr.add] using World.cell?_spot hc0
      subst hsp
      have hlt : b < w.heap.size := by simpa [Addr.add] using World.block_lt_of_cell? w _ hc0
      refine ⟨zs.take len, .inr ⟨b, off, cap, by rw [hzt], hlt, hM b hlt, by rw [hzt]; exact hl, fun i hi => ?_⟩, by omega, hok⟩
      rw [hzt] at hi
      have := hcell i (by omega)
      rw [hget i hi]
      have e : (⟨b, off, none⟩ : Addr).add i = ⟨b, off + i, none⟩ := by unfold Addr.add; split <;> simp_all
      rw [← e]; exact this

theorem u64b {x : Int} (h : (Lit.int .u64 x).wf = true) : 0 ≤ x ∧ x < 18446744073709551616 := by have := bounds_u64 h; omega
theorem strlen {n : Nat} (h : n ≤ maxLen) : n ≤ 9223372036854775807 := by unfold maxLen at h; omega

/-- A node that came in. -/
theorem open_node {r : Reach} {b0 : Nat} {v : Value} {d : DataW H} {p : List MemPlace} (hv : Value.okWide Tryd.prog w r b0 40 v) (h : DataW.Trod enc Tryd.prog w base spare held 40 v d p) (M : Nat → Prop) (hM : ∀ k, k < w.heap.size → ¬ M k) :
    ∃ (n : Node) (s : Value), v = nodeV n s ∧ RdI M w s n.args ∧ NodeOk n ∧ n.args.length ≤ 9223372036854775807 ∧ n.name.size ≤ 9223372036854775807 := by
  obtain ⟨v0, v1, v2, v3, v4, y0, y1, y2, y3, y4, m, rfl, rfl, rfl, h0, h1, h2, h3, h4⟩ := open_agg5 Tryd.underlying40 (by kernel_rfl) cellsNode hv h
  obtain ⟨n0, e0, _, q0⟩ := DataW.trod_int Tryd.underlying37 h0
  obtain ⟨n1, e1, _, q1⟩ := DataW.trod_int Tryd.underlying3 h1
  obtain ⟨n2, e2, _, q2⟩ := DataW.trod_int Tryd.underlying38 h2
  obtain ⟨n3, e3, _, q3⟩ := DataW.trod_string Tryd.underlying9 h3
  obtain ⟨l, hl, hlen, hok⟩ := rdI_of_trod h4 M hM
  simp at e0 e1 e2 e3
  subst e0 e1 e2 e3
  have q4 := strlen q3
  exact ⟨⟨n0, n1, n2, n3, l⟩, v4, rfl, hl, ⟨i64ok_of_wf q0, i64ok_of_wf q1, u64b q2, hok⟩, hlen, q4⟩
end

theorem laidMet_tail' {P : Program} {x : String × DataW Unit} {rest : List (String × DataW Unit)} {W : World} (h : laidMet P (x :: rest) W) : laidMet P rest W := by
  obtain ⟨ps, ⟨g, t, cs, fuel, p, q, h1, h2, h3, h4, h5, h6⟩, hn, hr⟩ := h
  subst h6
  exact ⟨q, h5, (List.nodup_append.1 hn).2.1, fun b off hb => hr b off (List.mem_append.2 (.inr hb))⟩

theorem gTabType : (Tryd.prog.globals[0]?).map (·.type) = some 111 := by kernel_rfl
theorem gTabAt : Tryd.prog.globalNamed "internal/strconv.uint64pow10" = some 0 := by kernel_rfl
theorem cellsTab : Tryd.prog.cellsOf 111 = 20 := by kernel_rfl
theorem cellsU64 : Tryd.prog.cellsOf 38 = 1 := by kernel_rfl

/-- The three tables that every row of this seat lists. -/
def tables : List (String × DataW Unit) := [("math/bits.deBruijn32tab", Rows.laid_math_bits_deBruijn32tab), ("math/bits.deBruijn64tab", Rows.laid_math_bits_deBruijn64tab), ("internal/strconv.uint64pow10", Rows.laid_internal_strconv_uint64pow10)]
theorem tab_of_laid {W : World} (h : laidMetH Tryd.prog tables W) : Tab W :=
  Lib.tabIs_of_head (rest := []) (zs := Lib.pow10Tab) gTabAt gTabType Tryd.underlying111 Tryd.underlying38 cellsU64 cellsTab (laidMet_tail' (laidMet_tail' h))

/-- A world in which block g holds the cells cs. -/
def setTab (w : World) (g : Nat) (cs : Array Value) : World := { w with heap := w.heap.modify g fun o => match o with
  | .cells _ t frozen => .cells cs t frozen
  | o => o }
/-- A world for the witness: the settled one, its tables holding what their initialisers lay. -/
noncomputable def laidWorld (os : Os) : World :=
  setTab (setTab (setTab (World.holding Tryd.prog os ⟨#[], #[], []⟩) 0 (Lib.pow10Tab.map (Value.int .u64)).toArray)
    1 #[.int .u8 0, .int .u8 1, .int .u8 28, .int .u8 2, .int .u8 29, .int .u8 14, .int .u8 24, .int .u8 3, .int .u8 30, .int .u8 22, .int .u8 20, .int .u8 15, .int .u8 25, .int .u8 17, .int .u8 4, .int .u8 8, .int .u8 31, .int .u8 27, .int .u8 13, .int .u8 23, .int .u8 21, .int .u8 19, .int .u8 16, .int .u8 7, .int .u8 26, .int .u8 12, .int .u8 18, .int .u8 6, .int .u8 11, .int .u8 5, .int .u8 10, .int .u8 9])
    2 #[.int .u8 0, .int .u8 1, .int .u8 56, .int .u8 2, .int .u8 57, .int .u8 49, .int .u8 28, .int .u8 3, .int .u8 61, .int .u8 58, .int .u8 42, .int .u8 50, .int .u8 38, .int .u8 29, .int .u8 17, .int .u8 4, .int .u8 62, .int .u8 47, .int .u8 59, .int .u8 36, .int .u8 45, .int .u8 43, .int .u8 51, .int .u8 22, .int .u8 53, .int .u8 39, .int .u8 33, .int .u8 30, .int .u8 24, .int .u8 18, .int .u8 12, .int .u8 5, .int .u8 63, .int .u8 55, .int .u8 48, .int .u8 27, .int .u8 60, .int .u8 41, .int .u8 37, .int .u8 16, .int .u8 46, .int .u8 35, .int .u8 44, .int .u8 21, .int .u8 52, .int .u8 32, .int .u8 23, .int .u8 11, .int .u8 54, .int .u8 26, .int .u8 40, .int .u8 15, .int .u8 34, .int .u8 20, .int .u8 31, .int .u8 10, .int .u8 25, .int .u8 14, .int .u8 19, .int .u8 9, .int .u8 13, .int .u8 8, .int .u8 7, .int .u8 6]

end Go.Proofs.YtgpliiepoimcbaaDoor
end
section
/- Opening a slice of nodes that came in. -/
namespace Go.Proofs.YtgpliiepoimcbaaDoor
open Go.ChangeShapes Go.WideShapes Go.ChangeAt Go.RowKit Go.Joins Go.Deep
set_option maxRecDepth 100000

theorem choose_list {α : Type} (p : Nat → α → Prop) : ∀ n, (∀ i, i < n → ∃ a, p i a) → ∃ l : List α, l.length = n ∧ ∀ i (h : i < l.length), p i l[i]
  | 0, _ => ⟨[], rfl, fun i h => absurd h (by simp)⟩
  | n + 1, h => by
    obtain ⟨l, hl, hp⟩ := choose_list p n (fun i hi => h i (by omega))
    obtain ⟨a, ha⟩ := h n (by omega)
    refine ⟨l ++ [a], by simp [hl], fun i hi => ?_⟩
    by_cases e : i < l.length
    · rw [List.getElem_append_left e]; exact hp i e
    · have e2 : i = l.length := by simp at hi; omega
      subst e2
      rw [List.getElem_append_right (Nat.le_refl _)]
      simpa [hl] using ha

section
variable {H : Type} {enc : TypeId × Value → H} {P : Program} {w : World} {base : Nat} {spare : Nat → Bool} {held : Bool}
theorem open_slice_fields {t e : TypeId} {fs : Array Field} {fuel : Nat} {cs : List Value} {x : DataW H × List MemPlace} (ht : P.underlying t = some (.slice e)) (he : P.underlying e = some (.struct fs))
    (hone : oneCellFields P fs = true) (hC : P.cellsOf e = fs.size) (h : DataW.trod enc P w base spare held fuel t cs = some x) :
    (cs = [.slice none 0 0] ∧ x = (.nil, [])) ∨
    ∃ (a : Addr) (len cap m : Nat) (D : Nat → DataW H) (Pl : Nat → List MemPlace), cs = [.slice (some a) len cap] ∧ base ≤ a.block ∧ len ≤ cap ∧ cap ≤ maxLen ∧ m = (if spare a.block then cap else len) ∧
      x = (.slice ((List.range len).map D) ((List.range (m - len)).map fun j => D (len + j)), MemPlace.row a (m * fs.size) ++ (List.range m).flatMap Pl) ∧
      ∀ i, i < m → ∃ (ys : List (DataW H × List MemPlace)) (n : Nat), D i = .agg (ys.map (·.1)) ∧ Pl i = ys.flatMap (·.2) ∧ ys.length = fs.size ∧
        ∀ (j : Nat) (f : Field), fs[j]? = some f → ∃ (v : Value) (y : DataW H × List MemPlace), w.cell? (a.add (i * fs.size + j)) = some v ∧ ys[j]? = some y ∧ DataW.trod enc P w base spare held n f.type [v] = some y := by
  rcases open_slice ht h with h0 | ⟨a, len, cap, m, n, D, Pl, hcs, hb, hl, hm, hmm, hx, hi⟩
  · exact .inl h0
  · refine .inr ⟨a, len, cap, m, D, Pl, hcs, hb, hl, hm, hmm, by rw [hC] at hx; exact hx, fun i him => ?_⟩
    obtain ⟨cs', hc, ht'⟩ := hi i him
    rw [hC] at hc
    obtain ⟨ys, n', hn', hy, hlen, hyl, hf⟩ := DataW.trod_struct he ht'
    obtain ⟨_, hcl, hat⟩ := World.cells?_some hc
    simp only [Prod.mk.injEq] at hy
    refine ⟨ys, n', hy.1, hy.2, hyl, fun j f hj => ?_⟩
    obtain ⟨ho, hk⟩ := hone_of hone j f hj
    have hjl : j < fs.size := (Array.getElem?_eq_some_iff.1 hj).1
    have hcell := hat j hjl
    have hv : cs'[j]? = some (cs'[j]'(by omega)) := List.getElem?_eq_getElem (by omega)
    have h1 := hf j f hj
    rw [ho, hk] at h1
    have hone' : (cs'.drop j).take 1 = [cs'[j]'(by omega)] := by
      rw [List.drop_eq_getElem_cons (by omega)]
      rfl
    rw [hone'] at h1
    have hys : ys[j]? = some (ys[j]'(by omega)) := List.getElem?_eq_getElem (by omega)
    refine ⟨_, _, ?_, hys, h1.trans hys⟩
    rw [← Go.Deep.add_add, hcell, hv]
end

theorem cellsAt_five {w : World} {b off : Nat} {l : List (Node × Value)} (h : ∀ i (hi : i < l.length), ∀ j u, (nsCells l[i])[j]? = some u → w.cell? ⟨b, off + (i * 5 + j), none⟩ = some u) : CellsAt w b off (flatE nsCells l) := by
  intro j u hj
  have hjl : j < l.length * 5 := by have := (List.getElem?_eq_some_iff.1 hj).1; rwa [flatE_length nsCells nsLen] at this
  have hi : j / 5 < l.length := by omega
  have e := flatE_get nsCells nsLen l (j / 5) hi (j % 5) (Nat.mod_lt _ (by decide))
  have ej : j / 5 * 5 + j % 5 = j := by omega
  rw [ej, hj] at e
  have := h (j / 5) hi (j % 5) u e.symm
  rwa [ej] at this

section
variable {H : Type} {enc : TypeId × Value → H} {w : World} {base : Nat} {spare : Nat → Bool} {held : Bool}
/-- A slice of nodes, out of its reading. -/
theorem open_nodes {fuel : Nat} {v : Value} {x : DataW H × List MemPlace} (h : DataW.trod enc Tryd.prog w base spare held fuel 22 [v] = some x) (M : Nat → Prop) (hM : ∀ k, k < w.heap.size → ¬ M k) :
    ∃ l : List (Node × Value), RdN M w v l ∧ l.length ≤ 9223372036854775807 ∧ ∀ y ∈ l, NodeOk y.1 ∧ y.1.args.length ≤ 9223372036854775807 ∧ y.1.name.size ≤ 9223372036854775807 := by
  rcases open_slice_fields Tryd.underlying22 Tryd.underlying40 (by kernel_rfl) cellsNode h with ⟨hcs, _⟩ | ⟨a, len, cap, m, D, Pl, hcs, _, hl, hm, hmm, _, hi⟩
  · simp at hcs
    exact ⟨[], ⟨.inl ⟨⟨none, 0, hcs, fun _ => rfl⟩, rfl⟩, fun x hx => by cases hx⟩, by simp, fun x hx => by cases hx⟩
  · simp at hcs
    subst hcs
    unfold maxLen at hm
    have hlm : len ≤ m := by rw [hmm]; split <;> omega
    obtain ⟨l, hll, hp⟩ := choose_list (fun i (y : Node × Value) => (∀ j u, (nsCells y)[j]? = some u → w.cell? (a.add (i * 5 + j)) = some u) ∧ RdI M w y.2 y.1.args ∧ NodeOk y.1 ∧ y.1.args.length ≤ 9223372036854775807 ∧ y.1.name.size ≤ 9223372036854775807) len (fun i hil => by
      obtain ⟨ys, n, _, _, _, hf⟩ := hi i (by omega)
      obtain ⟨v0, y0, c0, _, t0⟩ := hf 0 _ rfl
      obtain ⟨v1, y1, c1, _, t1⟩ := hf 1 _ rfl
      obtain ⟨v2, y2, c2, _, t2⟩ := hf 2 _ rfl
      obtain ⟨v3, y3, c3, _, t3⟩ := hf 3 _ rfl
      obtain ⟨v4, y4, c4, _, t4⟩ := hf 4 _ rfl
      obtain ⟨n0, e0, _, q0⟩ := DataW.trod_int Tryd.underlying37 t0
      obtain ⟨n1, e1, _, q1⟩ := DataW.trod_int Tryd.underlying3 t1
      obtain ⟨n2, e2, _, q2⟩ := DataW.trod_int Tryd.underlying38 t2
      obtain ⟨n3, e3, _, q3⟩ := DataW.trod_string Tryd.underlying9 t3
      obtain ⟨k, hk, hlen, hok⟩ := rdI_of_trod t4 M hM
      simp at e0 e1 e2 e3
      subst e0 e1 e2 e3
      refine ⟨(⟨n0, n1, n2, n3, k⟩, v4), fun j u hj => ?_, hk, ⟨i64ok_of_wf q0, i64ok_of_wf q1, u64b q2, hok⟩, hlen, strlen q3⟩
      match j, hj with
      | 0, hj => simp [nsCells] at hj; subst hj; exact c0
      | 1, hj => simp [nsCells] at hj; subst hj; exact c1
      | 2, hj => simp [nsCells] at hj; subst hj; exact c2
      | 3, hj => simp [nsCells] at hj; subst hj; exact c3
      | 4, hj => simp [nsCells] at hj; subst hj; exact c4
      | j + 5, hj => simp [nsCells] at hj)
    refine ⟨l, ⟨?_, fun x hx => ?_⟩, by omega, fun y hy => ?_⟩
    · by_cases h0 : len = 0
      · subst h0
        obtain rfl : l = [] := List.eq_nil_of_length_eq_zero hll
        exact .inl ⟨⟨some a, cap, rfl, fun h => by cases h⟩, rfl⟩
      · have hc0 := (hp 0 (by omega)).1 0 _ rfl
        obtain ⟨b, off, spot⟩ := a
        have hsp : spot = none := by simpa [Addr.add] using World.cell?_spot hc0
        subst hsp
        have hlt : b < w.heap.size := by simpa [Addr.add] using World.block_lt_of_cell? w _ hc0
        refine .inr ⟨b, off, cap, by rw [hll], hlt, hM b hlt, by omega, cellsAt_five fun i hil j u hu => ?_⟩
        have := (hp i hil).1 j u hu
        have e : (⟨b, off, none⟩ : Addr).add (i * 5 + j) = ⟨b, off + (i * 5 + j), none⟩ := by unfold Addr.add; split <;> simp_all
        rw [← e]; exact this
    · obtain ⟨i, hil, rfl⟩ := List.mem_iff_getElem.1 hx
      exact (hp i hil).2.1
    · obtain ⟨i, hil, rfl⟩ := List.mem_iff_getElem.1 hy
      exact (hp i hil).2.2
end

end Go.Proofs.YtgpliiepoimcbaaDoor
end
section
/- Opening a dump that came in. -/
namespace Go.Proofs.YtgpliiepoimcbaaDoor
open Go.ChangeShapes Go.WideShapes Go.ChangeAt Go.RowKit Go.Joins Go.Deep
set_option maxRecDepth 100000

section
variable {H : Type} {enc : TypeId × Value → H} {P : Program} {w : World} {base : Nat} {spare : Nat → Bool} {held : Bool}
theorem open_agg3 {r : Reach} {b0 : Nat} {t : TypeId} {f0 f1 f2 : Field} {v : Value} {d : DataW H} {p : List MemPlace} (hs : P.underlying t = some (.struct #[f0, f1, f2])) (hone : oneCellFields P #[f0, f1, f2] = true) (hC : P.cellsOf t = 3)
    (hv : Value.okWide P w r b0 t v) (h : DataW.Trod enc P w base spare held t v d p) :
    ∃ (v0 v1 v2 : Value) (y0 y1 y2 : DataW H × List MemPlace) (n : Nat), v = .agg #[v0, v1, v2] ∧
      DataW.trod enc P w base spare held n f0.type [v0] = some y0 ∧ DataW.trod enc P w base spare held n f1.type [v1] = some y1 ∧ DataW.trod enc P w base spare held n f2.type [v2] = some y2 := by
  obtain ⟨cs, rfl, hsz⟩ := okWide_struct hs hv
  obtain ⟨l⟩ := cs
  match l, hsz.trans hC with
  | [c0, c1, c2], _ =>
    obtain ⟨fuel, hf⟩ := h
    obtain ⟨xs, n, _, hx, _, hlen, hg⟩ := DataW.trod_struct hs hf
    obtain ⟨o0, k0⟩ := hone_of hone 0 f0 rfl
    obtain ⟨o1, k1⟩ := hone_of hone 1 f1 rfl
    obtain ⟨o2, k2⟩ := hone_of hone 2 f2 rfl
    match xs, hlen with
    | [y0, y1, y2], _ =>
      exact ⟨c0, c1, c2, y0, y1, y2, n, rfl, by simpa [Value.cells, o0, k0] using hg 0 f0 rfl, by simpa [Value.cells, o1, k1] using hg 1 f1 rfl, by simpa [Value.cells, o2, k2] using hg 2 f2 rfl⟩
end
theorem cellsLink : Tryd.prog.cellsOf 50 = 3 := by kernel_rfl
theorem cellsDump : Tryd.prog.cellsOf 26 = 3 := by kernel_rfl
theorem cellsAt_three {w : World} {b off : Nat} {l : List Lnk} (h : ∀ i (hi : i < l.length), ∀ j u, (lkCells l[i])[j]? = some u → w.cell? ⟨b, off + (i * 3 + j), none⟩ = some u) : CellsAt w b off (flatE lkCells l) := by
  intro j u hj
  have hjl : j < l.length * 3 := by have := (List.getElem?_eq_some_iff.1 hj).1; rwa [flatE_length lkCells lkLen] at this
  have hi : j / 3 < l.length := by omega
  have e := flatE_get lkCells lkLen l (j / 3) hi (j % 3) (Nat.mod_lt _ (by decide))
  have ej : j / 3 * 3 + j % 3 = j := by omega
  rw [ej, hj] at e
  have := h (j / 3) hi (j % 3) u e.symm
  rwa [ej] at this

section
variable {H : Type} {enc : TypeId × Value → H} {w : World} {base : Nat} {spare : Nat → Bool} {held : Bool}
/-- A slice of links, out of its reading. -/
theorem open_links {fuel : Nat} {v : Value} {x : DataW H × List MemPlace} (h : DataW.trod enc Tryd.prog w base spare held fuel 23 [v] = some x) (M : Nat → Prop) (hM : ∀ k, k < w.heap.size → ¬ M k) :
    ∃ l : List Lnk, RdE lkCells M w v l := by
  rcases open_slice_fields Tryd.underlying23 Tryd.underlying50 (by kernel_rfl) cellsLink h with ⟨hcs, _⟩ | ⟨a, len, cap, m, D, Pl, hcs, _, hl, hm, hmm, _, hi⟩
  · simp at hcs
    exact ⟨[], .inl ⟨⟨none, 0, hcs, fun _ => rfl⟩, rfl⟩⟩
  · simp at hcs
    subst hcs
    unfold maxLen at hm
    have hlm : len ≤ m := by rw [hmm]; split <;> omega
    obtain ⟨l, hll, hp⟩ := choose_list (fun i (y : Lnk) => ∀ j u, (lkCells y)[j]? = some u → w.cell? (a.add (i * 3 + j)) = some u) len (fun i hil => by
      obtain ⟨ys, n, _, _, _, hf⟩ := hi i (by omega)
      obtain ⟨v0, y0, c0, _, t0⟩ := hf 0 _ rfl
      obtain ⟨v1, y1, c1, _, t1⟩ := hf 1 _ rfl
      obtain ⟨v2, y2, c2, _, t2⟩ := hf 2 _ rfl
      obtain ⟨n0, e0, _, q0⟩ := DataW.trod_int Tryd.underlying3 t0
      obtain ⟨n1, e1, _, q1⟩ := DataW.trod_int Tryd.underlying3 t1
      obtain ⟨n2, e2, _, q2⟩ := DataW.trod_int Tryd.underlying3 t2
      simp at e0 e1 e2
      subst e0 e1 e2
      refine ⟨⟨n0, n1, n2⟩, fun j u hj => ?_⟩
      match j, hj with
      | 0, hj => simp [lkCells] at hj; subst hj; exact c0
      | 1, hj => simp [lkCells] at hj; subst hj; exact c1
      | 2, hj => simp [lkCells] at hj; subst hj; exact c2
      | j + 3, hj => simp [lkCells] at hj)
    refine ⟨l, ?_⟩
    by_cases h0 : len = 0
    · subst h0
      obtain rfl : l = [] := List.eq_nil_of_length_eq_zero hll
      exact .inl ⟨⟨some a, cap, rfl, fun h => by cases h⟩, rfl⟩
    · have hc0 := (hp 0 (by omega)) 0 _ rfl
      obtain ⟨b, off, spot⟩ := a
      have hsp : spot = none := by simpa [Addr.add] using World.cell?_spot hc0
      subst hsp
      have hlt : b < w.heap.size := by simpa [Addr.add] using World.block_lt_of_cell? w _ hc0
      refine .inr ⟨b, off, cap, by rw [hll], hlt, hM b hlt, by omega, cellsAt_three fun i hil j u hu => ?_⟩
      have := (hp i hil) j u hu
      have e : (⟨b, off, none⟩ : Addr).add (i * 3 + j) = ⟨b, off + (i * 3 + j), none⟩ := by unfold Addr.add; split <;> simp_all
      rw [← e]; exact this
/-- A dump that came in. -/
theorem open_dump {r : Reach} {b0 : Nat} {v : Value} {d : DataW H} {p : List MemPlace} (hv : Value.okWide Tryd.prog w r b0 26 v) (h : DataW.Trod enc Tryd.prog w base spare held 26 v d p) :
    ∃ (sN sL sR : Value) (D : Dmp), v = dumpV sN sL sR ∧ RdD NoB w sN sL sR D ∧ ∀ x ∈ D.nodes, NodeOk x.1 := by
  obtain ⟨v0, v1, v2, y0, y1, y2, m, rfl, h0, h1, h2⟩ := open_agg3 Tryd.underlying26 (by kernel_rfl) cellsDump hv h
  obtain ⟨ln, hn, _, hok⟩ := open_nodes h0 NoB (fun _ _ h => h)
  obtain ⟨ll, hl⟩ := open_links h1 NoB (fun _ _ h => h)
  obtain ⟨lr, hr, _, _⟩ := rdI_of_trod h2 NoB (fun _ _ h => h)
  exact ⟨v0, v1, v2, ⟨ln, ll, lr⟩, rfl, ⟨hn, hl, hr⟩, fun x hx => (hok x hx).1⟩
end
end Go.Proofs.YtgpliiepoimcbaaDoor
end
section
/- The texts that the laws of saturatelaw21 share. -/
namespace Go.Proofs.YtgpliiepoimcbaaDoor
end Go.Proofs.YtgpliiepoimcbaaDoor
end
