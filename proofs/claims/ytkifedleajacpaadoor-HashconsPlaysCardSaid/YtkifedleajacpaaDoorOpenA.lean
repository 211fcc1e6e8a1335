/- Opening a row of operations that came in. -/
import Derived.Test.YtkifedleajacpaaDoorPlayS
import Derived.Test.YtkifedleajacpaaDoorOpenN
namespace Go.Proofs.YtkifedleajacpaaDoor
open Go.ChangeShapes Go.WideShapes Go.ChangeAt Go.RowKit Go.Joins Go.Deep
set_option maxRecDepth 100000

theorem cellsAct : Tryd.prog.cellsOf 47 = 7 := by kernel_rfl
theorem cellsOp : Tryd.prog.cellsOf 22 = 1 := by kernel_rfl
theorem cellsStr : Tryd.prog.cellsOf 9 = 1 := by kernel_rfl
theorem cellsInts : Tryd.prog.cellsOf 24 = 1 := by kernel_rfl
theorem cellsU : Tryd.prog.cellsOf 23 = 1 := by kernel_rfl

theorem cellsAt_seven {w : World} {b off : Nat} {l : List ActE} (h : ∀ i (hi : i < l.length), ∀ j u, (acCells l[i])[j]? = some u → w.cell? ⟨b, off + (i * 7 + j), none⟩ = some u) : CellsAt w b off (flatE acCells l) := by
  intro j u hj
  have hjl : j < l.length * 7 := by have := (List.getElem?_eq_some_iff.1 hj).1; rwa [flatE_length acCells acLen] at this
  have hi : j / 7 < l.length := by omega
  have e := flatE_get acCells acLen l (j / 7) hi (j % 7) (Nat.mod_lt _ (by decide))
  have ej : j / 7 * 7 + j % 7 = j := by omega
  rw [ej, hj] at e
  have := h (j / 7) hi (j % 7) u e.symm
  rwa [ej] at this

section
variable {H : Type} {enc : TypeId × Value → H} {w : World} {base : Nat} {spare : Nat → Bool} {held : Bool}
/-- One operation, out of its seven cells. -/
theorem open_act {fuel : Nat} {a0 a1 a2 a3 a4 a5 a6 : Value} {x : DataW H × List MemPlace} (h : DataW.trod enc Tryd.prog w base spare held fuel 47 [a0, a1, a2, a3, a4, a5, a6] = some x) (M : Nat → Prop) (hM : ∀ k, k < w.heap.size → ¬ M k) :
    ∃ y : ActE, [a0, a1, a2, a3, a4, a5, a6] = acCells y ∧ RdI M w y.sl y.node.args ∧ NodeOk y.node ∧ y.node.args.length ≤ 9223372036854775807 ∧ y.node.name.size ≤ 9223372036854775807 := by
  obtain ⟨xs, n, _, _, _, hlen, hg⟩ := DataW.trod_struct Tryd.underlying47 h
  match xs, hlen with
  | [y0, y1, y2], _ =>
  have g0 : DataW.trod enc Tryd.prog w base spare held n 3 (List.take (Tryd.prog.cellsOf 3) [a0, a1, a2, a3, a4, a5, a6]) = some y0 := hg 0 _ rfl
  have g1 : DataW.trod enc Tryd.prog w base spare held n 26 (List.take (Tryd.prog.cellsOf 26) [a1, a2, a3, a4, a5, a6]) = some y1 := hg 1 _ rfl
  have g2 : DataW.trod enc Tryd.prog w base spare held n 3 (List.take (Tryd.prog.cellsOf 3) [a6]) = some y2 := hg 2 _ rfl
  rw [cellsInt] at g0 g2
  rw [cellsNode] at g1
  obtain ⟨zs, m, _, _, _, hlen2, hk⟩ := DataW.trod_struct Tryd.underlying26 g1
  match zs, hlen2 with
  | [z0, z1, z2, z3, z4], _ =>
  have k0 : DataW.trod enc Tryd.prog w base spare held m 22 (List.take (Tryd.prog.cellsOf 22) [a1, a2, a3, a4, a5]) = some z0 := hk 0 _ rfl
  have k1 : DataW.trod enc Tryd.prog w base spare held m 3 (List.take (Tryd.prog.cellsOf 3) [a2, a3, a4, a5]) = some z1 := hk 1 _ rfl
  have k2 : DataW.trod enc Tryd.prog w base spare held m 23 (List.take (Tryd.prog.cellsOf 23) [a3, a4, a5]) = some z2 := hk 2 _ rfl
  have k3 : DataW.trod enc Tryd.prog w base spare held m 9 (List.take (Tryd.prog.cellsOf 9) [a4, a5]) = some z3 := hk 3 _ rfl
  have k4 : DataW.trod enc Tryd.prog w base spare held m 24 (List.take (Tryd.prog.cellsOf 24) [a5]) = some z4 := hk 4 _ rfl
  rw [cellsOp] at k0
  rw [cellsInt] at k1
  rw [cellsU] at k2
  rw [cellsStr] at k3
  rw [cellsInts] at k4
  obtain ⟨i0, e0, _, _⟩ := DataW.trod_int Tryd.underlying3 g0
  obtain ⟨i6, e6, _, _⟩ := DataW.trod_int Tryd.underlying3 g2
  obtain ⟨n0, e1, _, q0⟩ := DataW.trod_int Tryd.underlying22 k0
  obtain ⟨n1, e2, _, q1⟩ := DataW.trod_int Tryd.underlying3 k1
  obtain ⟨n2, e3, _, q2⟩ := DataW.trod_int Tryd.underlying23 k2
  obtain ⟨n3, e4, _, q3⟩ := DataW.trod_string Tryd.underlying9 k3
  obtain ⟨kk, hkk, hlenk, hok⟩ := rdI_of_trod k4 M hM
  simp at e0 e1 e2 e3 e4 e6
  subst e0 e1 e2 e3 e4 e6
  exact ⟨⟨i0, ⟨n0, n1, n2, n3, kk⟩, a5, i6⟩, rfl, hkk, ⟨i64ok_of_wf q0, i64ok_of_wf q1, u64b q2, hok⟩, hlenk, strlen q3⟩

/-- A slice of operations, out of its reading. -/
theorem open_acts {fuel : Nat} {v : Value} {x : DataW H × List MemPlace} (h : DataW.trod enc Tryd.prog w base spare held fuel 39 [v] = some x) (M : Nat → Prop) (hM : ∀ k, k < w.heap.size → ¬ M k) :
    ∃ l : List ActE, RdA M w v l ∧ l.length ≤ 9223372036854775807 ∧ ∀ y ∈ l, NodeOk y.node ∧ y.node.name.size ≤ 9223372036854775807 := by
  rcases open_slice Tryd.underlying39 h with ⟨hcs, _⟩ | ⟨a, len, cap, m, n, D, Pl, hcs, _, hl, hm, hmm, _, hi⟩
  · simp at hcs
    exact ⟨[], ⟨.inl ⟨⟨none, 0, hcs, fun _ => rfl⟩, rfl⟩, fun x hx => by cases hx⟩, by simp, fun x hx => by cases hx⟩
  · simp at hcs
    subst hcs
    unfold maxLen at hm
    have hlm : len ≤ m := by rw [hmm]; split <;> omega
    obtain ⟨l, hll, hp⟩ := choose_list (fun i (y : ActE) => (∀ j u, (acCells y)[j]? = some u → w.cell? (a.add (i * 7 + j)) = some u) ∧ RdI M w y.sl y.node.args ∧ NodeOk y.node ∧ y.node.name.size ≤ 9223372036854775807) len (fun i hil => by
      obtain ⟨cs', hc, ht'⟩ := hi i (by omega)
      rw [cellsAct] at hc
      obtain ⟨_, hcl, hat⟩ := World.cells?_some hc
      match cs', hcl with
      | [a0, a1, a2, a3, a4, a5, a6], _ =>
      obtain ⟨y, hy, hr, ho, _, hn⟩ := open_act ht' M hM
      refine ⟨y, fun j u hj => ?_, hr, ho, hn⟩
      have hj7 : j < 7 := by have := (List.getElem?_eq_some_iff.1 hj).1; rwa [acLen] at this
      have h1 := hat j hj7
      rw [Go.Deep.add_add] at h1
      rw [h1]
      rw [← hj, ← hy])
    refine ⟨l, ⟨?_, fun x hx => ?_⟩, by omega, fun y hy => ?_⟩
    · by_cases h0 : len = 0
      · subst h0
        obtain rfl : l = [] := List.eq_nil_of_length_eq_zero hll
        exact .inl ⟨⟨some a, cap, rfl, fun h => by cases h⟩, rfl⟩
      · have hc0 := (hp 0 (by omega)).1 0 _ rfl
        obtain ⟨b, off, spot⟩ := a
        have hsp : spot = none := by simpa [Addr.add] using World.cell?_spot hc0
        subst hsp
        have hlt : b < w.heap.size := by simpa [Addr.add] using World.block_lt_of_cell? w _ hc0
        refine .inr ⟨b, off, cap, by rw [hll], hlt, hM b hlt, by omega, cellsAt_seven fun i hil j u hu => ?_⟩
        have := (hp i hil).1 j u hu
        have e : (⟨b, off, none⟩ : Addr).add (i * 7 + j) = ⟨b, off + (i * 7 + j), none⟩ := by unfold Addr.add; split <;> simp_all
        rw [← e]; exact this
    · obtain ⟨i, hil, rfl⟩ := List.mem_iff_getElem.1 hx
      exact (hp i hil).2.1
    · obtain ⟨i, hil, rfl⟩ := List.mem_iff_getElem.1 hy
      exact (hp i hil).2.2
end

end Go.Proofs.YtkifedleajacpaaDoor
