import Derived.Test.YtndfncaoejbkiaaGreatDoorPk2
import Derived.Test.YtndfncaoejbkiaaGreatDoorPk11
set_option linter.all false
section
/- Opening a dump that came in, with the ranges of its numbers; opening a row of bytes. -/
namespace Go.Proofs.YtndfncaoejbkiaaGreatDoor
open Go.ChangeShapes Go.WideShapes Go.ChangeAt Go.RowKit Go.Joins Go.Deep
set_option maxRecDepth 100000

section
variable {H : Type} {enc : TypeId × Value → H} {P : Program} {w : World} {base : Nat} {spare : Nat → Bool} {held : Bool}
theorem open_agg3 {r : Reach} {b0 : Nat} {t : TypeId} {f0 f1 f2 : Field} {v : Value} {d : DataW H} {p : List MemPlace} (hs : P.underlying t = some (.struct #[f0, f1, f2])) (hone : oneCellFields P #[f0, f1, f2] = true) (hC : P.cellsOf t = 3)
    (hv : Value.okWide P w r b0 t v) (h : DataW.Trod enc P w base spare held t v d p) :
    ∃ (v0 v1 v2 : Value) (y0 y1 y2 : DataW H × List MemPlace) (n : Nat), v = .agg #[v0, v1, v2] ∧
      DataW.trod enc P w base spare held n f0.type [v0] = some y0 ∧ DataW.trod enc P w base spare held n f1.type [v1] = some y1 ∧ DataW.trod enc P w base spare held n f2.type [v2] = some y2 := by
  obtain ⟨cs, rfl, hsz⟩ := okWide_struct hs hv
  obtain ⟨l⟩ := cs
  match l, hsz.trans hC with
  | [c0, c1, c2], _ =>
    obtain ⟨fuel, hf⟩ := h
    obtain ⟨xs, n, _, hx, _, hlen, hg⟩ := DataW.trod_struct hs hf
    obtain ⟨o0, k0⟩ := hone_of hone 0 f0 rfl
    obtain ⟨o1, k1⟩ := hone_of hone 1 f1 rfl
    obtain ⟨o2, k2⟩ := hone_of hone 2 f2 rfl
    match xs, hlen with
    | [y0, y1, y2], _ =>
      exact ⟨c0, c1, c2, y0, y1, y2, n, rfl, by simpa [Value.cells, o0, k0] using hg 0 f0 rfl, by simpa [Value.cells, o1, k1] using hg 1 f1 rfl, by simpa [Value.cells, o2, k2] using hg 2 f2 rfl⟩
end
theorem cellsLink : Tryz.prog.cellsOf 57 = 3 := by kernel_rfl
theorem cellsDump : Tryz.prog.cellsOf 26 = 3 := by kernel_rfl
theorem cellsAt_three {w : World} {b off : Nat} {l : List Lnk} (h : ∀ i (hi : i < l.length), ∀ j u, (lkCells l[i])[j]? = some u → w.cell? ⟨b, off + (i * 3 + j), none⟩ = some u) : CellsAt w b off (flatE lkCells l) := by
  intro j u hj
  have hjl : j < l.length * 3 := by have := (List.getElem?_eq_some_iff.1 hj).1; rwa [flatE_length lkCells lkLen] at this
  have hi : j / 3 < l.length := by omega
  have e := flatE_get lkCells lkLen l (j / 3) hi (j % 3) (Nat.mod_lt _ (by decide))
  have ej : j / 3 * 3 + j % 3 = j := by omega
  rw [ej, hj] at e
  have := h (j / 3) hi (j % 3) u e.symm
  rwa [ej] at this

section
variable {H : Type} {enc : TypeId × Value → H} {w : World} {base : Nat} {spare : Nat → Bool} {held : Bool}
/-- A slice of links, out of its reading. -/
theorem open_links {fuel : Nat} {v : Value} {x : DataW H × List MemPlace} (h : DataW.trod enc Tryz.prog w base spare held fuel 23 [v] = some x) (M : Nat → Prop) (hM : ∀ k, k < w.heap.size → ¬ M k) :
    ∃ l : List Lnk, RdE lkCells M w v l ∧ ∀ x ∈ l, i64ok x.a ∧ i64ok x.b ∧ i64ok x.why := by
  rcases open_slice_fields Tryz.underlying23 Tryz.underlying57 (by kernel_rfl) cellsLink h with ⟨hcs, _⟩ | ⟨a, len, cap, m, D, Pl, hcs, _, hl, hm, hmm, _, hi⟩
  · simp at hcs
    exact ⟨[], .inl ⟨⟨none, 0, hcs, fun _ => rfl⟩, rfl⟩, fun _ h => by cases h⟩
  · simp at hcs
    subst hcs
    unfold maxLen at hm
    have hlm : len ≤ m := by rw [hmm]; split <;> omega
    obtain ⟨l, hll, hp⟩ := choose_list (fun i (y : Lnk) => (∀ j u, (lkCells y)[j]? = some u → w.cell? (a.add (i * 3 + j)) = some u) ∧ i64ok y.a ∧ i64ok y.b ∧ i64ok y.why) len (fun i hil => by
      obtain ⟨ys, n, _, _, _, hf⟩ := hi i (by omega)
      obtain ⟨v0, y0, c0, _, t0⟩ := hf 0 _ rfl
      obtain ⟨v1, y1, c1, _, t1⟩ := hf 1 _ rfl
      obtain ⟨v2, y2, c2, _, t2⟩ := hf 2 _ rfl
      obtain ⟨n0, e0, _, q0⟩ := DataW.trod_int Tryz.underlying3 t0
      obtain ⟨n1, e1, _, q1⟩ := DataW.trod_int Tryz.underlying3 t1
      obtain ⟨n2, e2, _, q2⟩ := DataW.trod_int Tryz.underlying3 t2
      simp at e0 e1 e2
      subst e0 e1 e2
      refine ⟨⟨n0, n1, n2⟩, fun j u hj => ?_, i64ok_of_wf q0, i64ok_of_wf q1, i64ok_of_wf q2⟩
      match j, hj with
      | 0, hj => simp [lkCells] at hj; subst hj; exact c0
      | 1, hj => simp [lkCells] at hj; subst hj; exact c1
      | 2, hj => simp [lkCells] at hj; subst hj; exact c2
      | j + 3, hj => simp [lkCells] at hj)
    refine ⟨l, ?_, fun x hx => by
      obtain ⟨i, hi, rfl⟩ := List.mem_iff_getElem.1 hx
      exact (hp i hi).2⟩
    by_cases h0 : len = 0
    · subst h0
      obtain rfl : l = [] := List.eq_nil_of_length_eq_zero hll
      exact .inl ⟨⟨some a, cap, rfl, fun h => by cases h⟩, rfl⟩
    · have hc0 := (hp 0 (by omega)).1 0 _ rfl
      obtain ⟨b, off, spot⟩ := a
      have hsp : spot = none := by simpa [Addr.add] using World.cell?_spot hc0
      subst hsp
      have hlt : b < w.heap.size := by simpa [Addr.add] using World.block_lt_of_cell? w _ hc0
      refine .inr ⟨b, off, cap, by rw [hll], hlt, hM b hlt, by omega, cellsAt_three fun i hil j u hu => ?_⟩
      have := (hp i hil).1 j u hu
      have e : (⟨b, off, none⟩ : Addr).add (i * 3 + j) = ⟨b, off + (i * 3 + j), none⟩ := by unfold Addr.add; split <;> simp_all
      rw [← e]; exact this
/-- Bytes that came in. -/
theorem rdY_of_trod {fuel : Nat} {v : Value} {x : DataW H × List MemPlace} (h : DataW.trod enc Tryz.prog w base spare held fuel 27 [v] = some x) (M : Nat → Prop) (hM : ∀ k, k < w.heap.size → ¬ M k) :
    ∃ l : List UInt8, RdY M w v l := by
  rcases open_ints Tryz.underlying27 Tryz.underlying5 (by kernel_rfl) h with ⟨hcs, _⟩ | ⟨a, len, cap, zs, hcs, _, hl, hm, hz, hx, hcell, hwz⟩
  · simp at hcs
    exact ⟨[], .inl ⟨⟨none, 0, hcs, fun _ => rfl⟩, rfl⟩⟩
  · simp at hcs
    subst hcs
    unfold maxLen at hm
    have hzl : len ≤ zs.length := by rw [hz]; split <;> omega
    by_cases h0 : len = 0
    · subst h0
      exact ⟨[], .inl ⟨⟨some a, cap, rfl, fun h => by cases h⟩, rfl⟩⟩
    · obtain ⟨b, off, spot⟩ := a
      have hc0 := hcell 0 (by omega)
      have hsp : spot = none := by simpa [Addr.add] using World.cell?_spot hc0
      subst hsp
      have hlt : b < w.heap.size := by simpa [Addr.add] using World.block_lt_of_cell? w _ hc0
      have hll : ((zs.take len).map (fun z => UInt8.ofNat z.toNat)).length = len := by simp; omega
      refine ⟨(zs.take len).map (fun z => UInt8.ofNat z.toNat), .inr ⟨b, off, cap, by rw [hll], hlt, hM b hlt, by rw [hll]; exact hl, fun j u hj => ?_⟩⟩
      have hjl : j < len := by
        have := (List.getElem?_eq_some_iff.1 hj).1
        rw [flatE_by, List.length_map, hll] at this; exact this
      have hcj := hcell j (by omega)
      rw [add_off] at hcj
      rw [hcj]
      rw [flatE_by, List.getElem?_map, List.getElem?_map, List.getElem?_take, if_pos hjl, List.getElem?_eq_getElem (by omega)] at hj
      simp only [Option.map_some, Option.some.injEq] at hj
      rw [← hj]
      have hw := bounds_u8 (hwz _ (List.getElem_mem (show j < zs.length by omega)))
      rw [getD_eq (show j < zs.length by omega)]
      congr 2
      simp only [UInt8.toNat_ofNat']
      omega
/-- The numbers of a dump are of their kinds. -/
structure DmpOk (d : Dmp) : Prop where
  nodes : ∀ x ∈ d.nodes, NodeOk x.1
  links : ∀ x ∈ d.links, i64ok x.a ∧ i64ok x.b ∧ i64ok x.why
  roots : ∀ i, i < d.roots.length → i64ok (d.roots.getD i 0)
/-- A dump that came in. -/
theorem open_dump2 {r : Reach} {b0 : Nat} {v : Value} {d : DataW H} {p : List MemPlace} (hv : Value.okWide Tryz.prog w r b0 26 v) (h : DataW.Trod enc Tryz.prog w base spare held 26 v d p) :
    ∃ (sN sL sR : Value) (D : Dmp), v = dumpV sN sL sR ∧ RdD NoB w sN sL sR D ∧ DmpOk D := by
  obtain ⟨v0, v1, v2, y0, y1, y2, m, rfl, h0, h1, h2⟩ := open_agg3 Tryz.underlying26 (by kernel_rfl) cellsDump hv h
  obtain ⟨ln, hn, _, hok⟩ := open_nodes h0 NoB (fun _ _ h => h)
  obtain ⟨ll, hl, hlk⟩ := open_links h1 NoB (fun _ _ h => h)
  obtain ⟨lr, hr, _, hro⟩ := rdI_of_trod h2 NoB (fun _ _ h => h)
  exact ⟨v0, v1, v2, ⟨ln, ll, lr⟩, rfl, ⟨hn, hl, hr⟩, ⟨fun x hx => (hok x hx).1, hlk, hro⟩⟩
end
end Go.Proofs.YtndfncaoejbkiaaGreatDoor
end
section
/- Drawn regions that write, as Eff, but what is known of the worlds that are reached may grow with each operation that turns the world: an operation that reads what an earlier call has made may come up later. -/
namespace Go.Proofs.YtndfncaoejbkiaaGreatDoor
open Go.RowKit
set_option maxRecDepth 100000

section
variable {P : Program} {ops : Array Oper} {S : World → Prop} {Q : Exit → Act → World → Prop} {md : Region.Mode} {brk : Nat}

theorem wpAnyT_weak {S1 : World → Prop} (h1 : ∀ w, S1 w → S w) : ∀ (fuel : Nat) (listed : Array Bool) (a : Act) (w : World), wpAnyT P md ops Q S1 brk fuel listed a w → wpAnyT P md ops Q S brk fuel listed a w
  | 0, _, _, _, h => h
  | fuel + 1, _, _, _, h => ⟨h.1, fun i hi => wpOp_mono (fun a' w' h' => ⟨h'.1.imp_right (h1 w'), wpAnyT_weak h1 fuel _ a' w' h'.2⟩) (h.2 i hi)⟩
def effG (P : Program) (ops : Array Oper) (brk : Nat) (R : Act → World → Prop) : List (Nat × Nat) → (World → Prop) → Act → World → Prop
  | [], _, a, W => R a W
  | (i, 0) :: s, S, a, W => ∃ o v, ops[i]? = some o ∧ YieldsIf P ops S o v a ∧ effG P ops brk R s S (a.put o.dst v) W
  | (i, 1) :: s, S, a, W => ∃ o v, ops[i]? = some o ∧ YieldsIf P ops AnyW o v a ∧ effG P ops brk R s S (a.put o.dst v) W
  | (i, _ + 2) :: s, S, a, W => ∃ o, ops[i]? = some o ∧ wpList P ops (fun x a' W' => x = .normal ∧ ∃ S1 : World → Prop, (∀ w, S1 w → S w) ∧ (i ≠ brk → S1 W') ∧ effG P ops brk R s S1 a' W') [o] a W
theorem effG_any {R : Act → World → Prop} (hs : Region.noSelect ops = true) (hR : ∀ a w, R a w → Q .normal a w) (hQ : ∀ c a w, ¬ Q (.panic c) a w) :
    ∀ (s : List (Nat × Nat)) (S : World → Prop) (listed : Array Bool) (a : Act) (w : World), effB md ops brk s listed = true → TT S brk listed w → effG P ops brk R s S a w → wpAnyT P md ops Q S brk s.length listed a w
  | [], S, listed, a, w, hB, _, h => ⟨by simpa [effB] using hB, hR _ _ h⟩
  | (i, 0) :: s, S, listed, a, w, hB, hT, h => by
    simp only [effB, Bool.and_eq_true, bne_iff_ne, ne_eq, Bool.not_eq_true'] at hB
    obtain ⟨⟨⟨⟨⟨h1, h2⟩, h3⟩, h4⟩, h5⟩, h6⟩ := hB
    obtain ⟨o, v, hi, hy, hk⟩ := h
    cases hb : ops[brk]? with
    | none =>
      have hn : ∀ listed : Array Bool, listed.getD i true = false → brk ∉ Region.ready md ops listed := fun listed _ hr => by
        obtain ⟨_, o, ho, _⟩ := mem_ready.1 hr
        rw [hb] at ho; cases ho
      exact wpAnyT_first (S' := S) hi (Region.noSelect_spec hs) (fun c a w h => absurd h (hQ c _ _)) h3 (.inr ⟨hn, fun w h => h⟩) s.length listed a w (Region.free_spec hi h1) (by simpa using h2) hy hT (.inr h4)
        (effG_any hs hR hQ s S _ _ _ h6 (by unfold TT; rw [getD_set_ne' h3]; exact hT) hk)
    | some ob =>
      exact wpAnyT_first (S' := S) hi (Region.noSelect_spec hs) (fun c a w h => absurd h (hQ c _ _)) h3 (.inr ⟨anch_spec hb h5, fun w h => h⟩) s.length listed a w (Region.free_spec hi h1) (by simpa using h2) hy hT (.inr h4)
        (effG_any hs hR hQ s S _ _ _ h6 (by unfold TT; rw [getD_set_ne' h3]; exact hT) hk)
  | (i, 1) :: s, S, listed, a, w, hB, hT, h => by
    simp only [effB, Bool.and_eq_true, bne_iff_ne, ne_eq] at hB
    obtain ⟨⟨⟨h1, h2⟩, h3⟩, h6⟩ := hB
    obtain ⟨o, v, hi, hy, hk⟩ := h
    exact wpAnyT_first (S' := AnyW) hi (Region.noSelect_spec hs) (fun c a w h => absurd h (hQ c _ _)) h3 (.inl (fun _ => trivial)) s.length listed a w (Region.free_spec hi h1) (by simpa using h2) hy hT (.inl (fun _ => trivial))
      (effG_any hs hR hQ s S _ _ _ h6 (by unfold TT; rw [getD_set_ne' h3]; exact hT) hk)
  | (i, n + 2) :: s, S, listed, a, w, hB, hT, h => by
    simp only [effB, Bool.and_eq_true, beq_iff_eq, decide_eq_true_eq, Bool.not_eq_true'] at hB
    obtain ⟨⟨⟨h1, h2⟩, h4⟩, h6⟩ := hB
    obtain ⟨o, hi, hk⟩ := h
    refine ⟨fun h0 => (by rw [h1] at h0; cases h0), fun j hj => ?_⟩
    rw [h1] at hj
    obtain rfl : j = i := by simpa using hj
    refine wpOp_mono (fun a' w' hh => ?_) (effL_one hi hk)
    obtain ⟨S1, g1, g2, g3⟩ := hh
    have hT' : TT S1 brk (listed.setIfInBounds j true) w' := by
      by_cases e : j = brk
      · subst e; exact .inl (by simp [h2])
      · exact .inr (g2 e)
    exact ⟨hT'.imp_right (g1 w'), wpAnyT_weak g1 _ _ _ _ (effG_any hs hR hQ s S1 _ _ _ h6 hT' g3)⟩

theorem region_effG (S : World → Prop) (brk : Nat) (s : List (Nat × Nat)) {id : Nat} {a : Act} {w : World} {l : List Oper} (hm : P.follows .mixedOrders = true)
    (hB : (Region.noSelect l.toArray && (s.length == l.length) && effB .any l.toArray brk s (Array.replicate l.length false)) = true) (hS : S w.drew) (h : effG P l.toArray brk (fun a' W' => Q .normal a' W') s S a w.drew) : (Code.region id l.toArray true).wp P Q a w := by
  simp only [Bool.and_eq_true, beq_iff_eq] at hB
  obtain ⟨⟨h1, h2⟩, h3⟩ := hB
  refine wp_mono (Q := fun x a w => x = .normal ∧ Q .normal a w) (wp_region_any hm (wpAny_of_T (S := S) (brk := brk) _ _ _ _ ?_)) (fun e a w hh => by obtain ⟨rfl, hh⟩ := hh; exact hh)
  have := effG_any (md := .any) (Q := fun x a w => x = .normal ∧ Q .normal a w) h1 (fun a w hh => ⟨rfl, hh⟩) (fun c a w hh => by simp at hh) s S _ a w.drew h3 (.inr hS) h
  rw [h2] at this
  simpa using this
variable {R : Act → World → Prop} {a : Act} {W W' : World} {i : Nat} {s : List (Nat × Nat)} {o : Oper} {l : List Oper}
theorem effg_nil (h : R a W) : effG P l.toArray brk R [] S a W := h
theorem effg_off (hi : l[i]? = some o) (hw : Region.wanted o (yielded l.toArray a.tmps) = false) (h : effG P l.toArray brk R s S (a.put o.dst undef) W) : effG P l.toArray brk R ((i, 1) :: s) S a W :=
  ⟨o, undef, at_l hi, .inr ⟨hw, rfl⟩, h⟩
theorem effg_rd (v : Value) (hi : l[i]? = some o) (hw : Region.wanted o (yielded l.toArray a.tmps) = true) (hy : ∀ w', S w' → (execOp a.eval o).run P w' = .ok (.value v) w') (h : effG P l.toArray brk R s S (a.put o.dst v) W) :
    effG P l.toArray brk R ((i, 0) :: s) S a W := ⟨o, v, at_l hi, .inl ⟨hw, hy⟩, h⟩
theorem effg_pu (v : Value) (hi : l[i]? = some o) (hw : Region.wanted o (yielded l.toArray a.tmps) = true) (hy : ∀ w', (execOp a.eval o).run P w' = .ok (.value v) w') (h : effG P l.toArray brk R s S (a.put o.dst v) W) :
    effG P l.toArray brk R ((i, 1) :: s) S a W := ⟨o, v, at_l hi, .inl ⟨hw, fun w _ => hy w⟩, h⟩
/-- A call, that goes through as its contract says. -/
theorem effg_call (f : FuncId) (args : Array Value) (hi : l[i]? = some o) (hw : Region.wanted o (yielded l.toArray a.tmps) = true) (hy : ∀ w', (execOp a.eval o).run P w' = .ok (.enter f args) w')
    (hc : Calls P f args W (fun e W' => ∃ v, e = .returned v ∧ ∃ S1 : World → Prop, (∀ w, S1 w → S w) ∧ (i ≠ brk → S1 W') ∧ effG P l.toArray brk R s S1 (a.put o.dst v) W')) : effG P l.toArray brk R ((i, 2) :: s) S a W := by
  refine ⟨o, at_l hi, ?_⟩
  unfold wpList
  rw [if_pos hw]
  refine .inl ?_
  unfold Oper.wp
  rw [hy W]
  simp only [Oper.upon, wpList]
  refine Calls.mono hc fun e w' he => ?_
  obtain ⟨v, rfl, h1⟩ := he
  exact ⟨trivial, h1⟩
end
/-- What the worlds are known by: nothing of W has turned, and T. -/
def KnW (W : World) (T : World → Prop) (w : World) : Prop := Hid (Fr NoB W w) ∧ T w
end Go.Proofs.YtndfncaoejbkiaaGreatDoor
end
section
/- The texts that the laws of saturatelaw22 share. -/
namespace Go.Proofs.YtndfncaoejbkiaaGreatDoor
open Go.RowKit
set_option maxRecDepth 100000

theorem i64r {x : Int} (h : i64ok x) : -9223372036854775808 ≤ x ∧ x < 9223372036854775808 := by unfold i64ok at h; omega
theorem dmpsz {d : Dmp} (hf : FewP d) (hk : DmpOk d) : DmpSz d := by
  have h1 := hf.nn
  have h2 := hf.nl
  have h3 := hf.nr
  refine ⟨by omega, by omega, by omega, fun x hx => ?_, fun x hx => ⟨i64r (hk.links x hx).1, i64r (hk.links x hx).2.1, i64r (hk.links x hx).2.2⟩, fun x hx => ?_⟩
  · have ok := hk.nodes x hx
    obtain ⟨i, hi, rfl⟩ := List.mem_iff_getElem.1 hx
    have hz := hf.nodes i hi
    refine ⟨⟨i64r ok.op, i64r ok.width, ok.val, by omega, by omega, fun y hy => ?_⟩, by omega, by omega⟩
    obtain ⟨j, hj, rfl⟩ := List.mem_iff_getElem.1 hy
    have := ok.args j hj
    rw [getD_eq hj] at this
    exact i64r this
  · obtain ⟨j, hj, rfl⟩ := List.mem_iff_getElem.1 hx
    have := hk.roots j hj
    rw [getD_eq hj] at this
    exact i64r this
theorem dmfit {d : Dmp} (h : DmpSz d) : DmFit (dmOf d) :=
  ⟨fun n hn => by obtain ⟨x, hx, rfl⟩ := List.mem_map.1 hn; exact (h.nodes x hx).fit, h.links, h.roots, by have := h.nn; simp only [List.length_map]; omega, by have := h.nl; show d.links.length < _; omega, by have := h.nr; show d.roots.length < _; omega⟩
theorem head_len {d : Dmp} (h : DmpSz d) : (bN (headE (dmOf d))).length ≤ 40000000 := by
  have h1 := numE_le d.nodes.length (by have := h.nn; omega)
  have h2 := numE_le d.links.length (by have := h.nl; omega)
  have h3 := numE_le d.roots.length (by have := h.nr; omega)
  have h4 := flat_le d.nodes (e := fun x : Node × Value => nodeE x.1) (c := 30000) (fun x hx => nodeE_le (h.nodes x hx))
  have h5 := flat_le d.links (e := lnkE) (c := 60) (fun x hx => lnkE_le (h.links x hx))
  have h6 := flat_le d.roots (e := sgnE) (c := 20) (fun x hx => sgnE_le x (h.roots x hx))
  have := h.nn
  have := h.nl
  have := h.nr
  unfold headE bodyE dmOf
  simp only [bN_app, List.length_append, List.length_map, List.flatMap_map]
  have : (bN [69, 71, 1]).length = 3 := rfl
  omega
/-- With the bounds of few. -/
theorem head_few {d : Dmp} (hf : FewP d) (hz : DmpSz d) : (bN (encE (dmOf d))).length ≤ 1000000 := by
  have hn : ∀ x ∈ d.nodes, (bN (nodeE x.1)).length ≤ 700 := fun x hx => by
    have h0 := hz.nodes x hx
    obtain ⟨i, hi, rfl⟩ := List.mem_iff_getElem.1 hx
    have hb := hf.nodes i hi
    have h1 := sgnE_le _ h0.fit.op
    have h2 := sgnE_le _ h0.fit.width
    have h3 := numE_le d.nodes[i].1.val.toNat (by have := h0.fit.val; omega)
    have h4 := numE_le d.nodes[i].1.name.size h0.fit.name
    have h5 := numE_le d.nodes[i].1.args.length h0.fit.len
    have h6 := flat_le d.nodes[i].1.args (e := sgnE) (c := 20) (fun x hx => sgnE_le x (h0.fit.args x hx))
    rw [nodeE_bN]
    simp only [List.length_append]
    have : d.nodes[i].1.name.data.toList.length = d.nodes[i].1.name.size := by simp
    omega
  have h1 := numE_le d.nodes.length (by have := hf.nn; omega)
  have h2 := numE_le d.links.length (by have := hf.nl; omega)
  have h3 := numE_le d.roots.length (by have := hf.nr; omega)
  have h4 := flat_le d.nodes (e := fun x : Node × Value => nodeE x.1) (c := 700) hn
  have h5 := flat_le d.links (e := lnkE) (c := 60) (fun x hx => lnkE_le (hz.links x hx))
  have h6 := flat_le d.roots (e := sgnE) (c := 20) (fun x hx => sgnE_le x (hz.roots x hx))
  have := hf.nn
  have := hf.nl
  have := hf.nr
  unfold encE headE bodyE dmOf
  simp only [bN_app, List.length_append, List.length_map, List.flatMap_map]
  have : (bN [69, 71, 1]).length = 3 := rfl
  have : ∀ x, (bN (bigE x)).length = 4 := fun x => rfl
  rw [this]
  omega
theorem conv_ownY {B : Nat} {w : World} {p : Option Addr} {c : Nat} {l : List UInt8} (h : OwnY B w (.slice p l.length c) l) : (convert 27 9 (.slice p l.length c)).run Tryz.prog w = .ok (.string ⟨l.toArray⟩) w := by
  cases p with
  | none =>
    have hl : l = [] := by
      rcases OwnE.form' h with ⟨_, h2⟩ | ⟨g, cap, h1, _⟩
      · exact h2
      · cases h1
    subst hl
    exact run_convert_bytes_nil (P := Tryz.prog) (w := w) 27 5 Tryz.underlying27 Tryz.underlying5 0 c 9 Tryz.underlying9
  | some a =>
    have h1 := conv_take (c' := c) (OwnE.rd h (M := NoB) (fun _ _ h => h)) (k := l.length) (Nat.le_refl _)
    rw [List.take_length] at h1
    exact h1
theorem nats_enc (d : Dm) : nats (bN (encE d)) = encE d := bN_toNat (encE_byte d)
theorem args_of {d c : Dmp} (h : dmOf d = dmOf c) (hz : DmpSz c) : ∀ x ∈ d.nodes, x.1.args.length ≤ 1000000 := fun x hx => by
  have h1 : x.1 ∈ d.nodes.map (·.1) := List.mem_map_of_mem hx
  have h2 : d.nodes.map (·.1) = c.nodes.map (·.1) := by
    have := congrArg Dm.nodes h
    exact this
  rw [h2] at h1
  obtain ⟨y, hy, e⟩ := List.mem_map.1 h1
  rw [← e]
  have := (hz.nodes y hy).args
  omega
theorem args_sz {c : Dmp} (hz : DmpSz c) : ∀ x ∈ c.nodes, x.1.args.length ≤ 1000000 := args_of rfl hz
end Go.Proofs.YtndfncaoejbkiaaGreatDoor
end
