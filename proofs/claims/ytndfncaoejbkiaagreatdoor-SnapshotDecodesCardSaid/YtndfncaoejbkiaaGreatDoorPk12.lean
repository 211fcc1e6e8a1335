import Derived.Test.YtndfncaoejbkiaaGreatDoorPk2
import Derived.Test.YtndfncaoejbkiaaGreatDoorPk11
set_option linter.all false
section
/- Opening a dump that came in, with the ranges of its numbers; opening a row of bytes. -/
namespace Go.Proofs.YtndfncaoejbkiaaGreatDoor
open Go.ChangeShapes Go.WideShapes Go.ChangeAt Go.RowKit Go.Joins Go.Deep
set_option maxRecDepth 100000

section
variable {H : Type} {enc : TypeId × Value → H} {P : Program} {w : World} {base : Nat} {spare : Nat → Bool} {held : Bool}
theorem open_agg3 {r : Reach} {b0 : Nat} {t : TypeId} {f0 f1 f2 : Field} {v : Value} {d : DataW H} {p : List MemPlace} (hs : P.underlying t = some (.struct #[f0, f1, f2])) (hone : oneCellFields P #[f0, f1, f2] = true) (hC : P.cellsOf t = 3)
    (hv : Value.okWide P w r b0 t v) (h : DataW.Trod enc P w base spare held t v d p) :
    ∃ (v0 v1 v2 : Value) (y0 y1 y2 : DataW H × List MemPlace) (n : Nat), v = .agg #[v0, v1, v2] ∧
      DataW.trod enc P w base spare held n f0.type [v0] = some y0 ∧ DataW.trod enc P w base spare held n f1.type [v1] = some y1 ∧ DataW.trod enc P w base spare held n f2.type [v2] = some y2 := by
  obtain ⟨cs, rfl, hsz⟩ := okWide_struct hs hv
  obtain ⟨l⟩ := cs
  match l, hsz.trans hC with
  | [c0, c1, c2], _ =>
    obtain ⟨fuel, hf⟩ := h
    obtain ⟨xs, n, _, hx, _, hlen, hg⟩ := DataW.trod_struct hs hf
    obtain ⟨o0, k0⟩ := hone_of hone 0 f0 rfl
    obtain ⟨o1, k1⟩ := hone_of hone 1 f1 rfl
    obtain ⟨o2, k2⟩ := hone_of hone 2 f2 rfl
    match xs, hlen with
    | [y0, y1, y2], _ =>
      exact ⟨c0, c1, c2, y0, y1, y2, n, rfl, by simpa [Value.cells, o0, k0] using hg 0 f0 rfl, by simpa [Value.cells, o1, k1] using hg 1 f1 rfl, by simpa [Value.cells, o2, k2] using hg 2 f2 rfl⟩
end
theorem cellsLink : Tryz.prog.cellsOf 57 = 3 := by kernel_rfl
theorem cellsDump : Tryz.prog.cellsOf 26 = 3 := by kernel_rfl
theorem cellsAt_three {w : World} {b off : Nat} {l : List Lnk} (h : ∀ i (hi : i < l.length), ∀ j u, (lkCells l[i])[j]? = some u → w.cell? ⟨b, off + (i * 3 + j), none⟩ = some u) : CellsAt w b off (flatE lkCells l) := by
  intro j u hj
  have hjl : j < l.length * 3 := by have := (List.getElem?_eq_some_iff.1 hj).1; rwa [flatE_length lkCells lkLen] at this
  have hi : j / 3 < l.length := by omega
  have e := flatE_get lkCells lkLen l (j / 3) hi (j % 3) (Nat.mod_lt _ (by decide))
  have ej : j / 3 * 3 + j % 3 = j := by omega
  rw [ej, hj] at e
  have := h (j / 3) hi (j % 3) u e.symm
  rwa [ej] at this

section
variable {H : Type} {enc : TypeId × Value → H} {w : World} {base : Nat} {spare : Nat → Bool} {held : Bool}
/-- A slice of links, out of its reading. -/
theorem open_links {fuel : Nat} {v : Value} {x : DataW H × List MemPlace} (h : DataW.trod enc Tryz.prog w base spare held fuel 23 [v] = some x) (M : Nat → Prop) (hM : ∀ k, k < w.heap.size → ¬ M k) :
    ∃ l : List Lnk, RdE lkCells M w v l ∧ ∀ x ∈ l, i64ok x.a ∧ i64ok x.b ∧ i64ok x.why := by
  rcases open_slice_fields Tryz.underlying23 Tryz.underlying57 (by kernel_rfl) cellsLink h with ⟨hcs, _⟩ | ⟨a, len, cap, m, D, Pl, hcs, _, hl, hm, hmm, _, hi⟩
  · simp at hcs
    exact ⟨[], .inl ⟨⟨none, 0, hcs, fun _ => rfl⟩, rfl⟩, fun _ h => by cases h⟩
  · simp at hcs
    subst hcs
    unfold maxLen at hm
    have hlm : len ≤ m := by rw [hmm]; split <;> omega
    obtain ⟨l, hll, hp⟩ := choose_list (fun i (y : Lnk) => (∀ j u, (lkCells y)[j]? = some u → w.cell? (a.add (i * 3 + j)) = some u) ∧ i64ok y.a ∧ i64ok y.b ∧ i64ok y.why) len (fun i hil => by
      obtain ⟨ys, n, _, _, _, hf⟩ := hi i (by omega)
      obtain ⟨v0, y0, c0, _, t0⟩ := hf 0 _ rfl
      obtain ⟨v1, y1, c1, _, t1⟩ := hf 1 _ rfl
      obtain ⟨v2, y2, c2, _, t2⟩ := hf 2 _ rfl
      obtain ⟨n0, e0, _, q0⟩ := DataW.trod_int Tryz.underlying3 t0
      obtain ⟨n1, e1, _, q1⟩ := DataW.trod_int Tryz.underlying3 t1
      obtain ⟨n2, e2, _, q2⟩ := DataW.trod_int Tryz.underlying3 t2
      simp at e0 e1 e2
      subst e0 e1 e2
      refine ⟨⟨n0, n1, n2⟩, fun j u hj => ?_, i64ok_of_wf q0, i64ok_of_wf q1, i64ok_of_wf q2⟩
      match j, hj with
      | 0, hj => simp [lkCells] at hj; subst hj; exact c0
      | 1, hj => simp [lkCells] at hj; subst hj; exact c1
      | 2, hj => simp [lkCells] at hj; subst hj; exact c2
      | j + 3, hj => simp [lkCells] at hj)
    refine ⟨l, ?_, fun x hx => by
      obtain ⟨i, hi, rfl⟩ := List.mem_iff_getElem.1 hx
      exact (hp i hi).2⟩
    by_cases h0 : len = 0
    · subst h0
      obtain rfl : l = [] := List.eq_nil_of_length_eq_zero hll
      exact .inl ⟨⟨some a, cap, rfl, fun h => by cases h⟩, rfl⟩
    · have hc0 := (hp 0 (by omega)).1 0 _ rfl
      obtain ⟨b, off, spot⟩ := a
      have hsp : spot = none := by simpa [Addr.add] using World.cell?_spot hc0
      subst hsp
      have hlt : b < w.heap.size := by simpa [Addr.add] using World.block_lt_of_cell? w _ hc0
      refine .inr ⟨b, off, cap, by rw [hll], hlt, hM b hlt, by omega, cellsAt_three fun i hil j u hu => ?_⟩
      have := (hp i hil).1 j u hu
      have e : (⟨b, off, none⟩ : Addr).add (i * 3 + j) = ⟨b, off + (i * 3 + j), none⟩ := by unfold Addr.add; split <;> simp_all
      rw [← e]; exact this
/-- Bytes that came in. -/
theorem rdY_of_trod {fuel : Nat} {v : Value} {x : DataW H × List MemPlace} (h : DataW.trod enc Tryz.prog w base spare held fuel 27 [v] = some x) (M : Nat → Prop) (hM : ∀ k, k < w.heap.size → ¬ M k) :
    ∃ l : List UInt8, RdY M w v l := by
  rcases open_ints Tryz.underlying27 Tryz.underlying5 (by kernel_rfl) h with ⟨hcs, _⟩ | ⟨a, len, cap, zs, hcs, _, hl, hm, hz, hx, hcell, hwz⟩
  · simp at hcs
    exact ⟨[], .inl ⟨⟨none, 0, hcs, fun _ => rfl⟩, rfl⟩⟩
  · simp at hcs
    subst hcs
    unfold maxLen at hm
    have hzl : len ≤ zs.length := by rw [hz]; split <;> omega
    by_cases h0 : len = 0
    · subst h0
      exact ⟨[], .inl ⟨⟨some a, cap, rfl, fun h => by cases h⟩, rfl⟩⟩
    · obtain ⟨b, off, spot⟩ := a
      have hc0 := hcell 0 (by omega)
      have hsp : spot = none := by simpa [Addr.add] using World.cell?_spot hc0
      subst hsp
      have hlt : b < w.heap.size := by simpa [Addr.add] using World.block_lt_of_cell? w _ hc0
      have hll : ((zs.take len).map (fun z => UInt8.ofNat z.toNat)).length = len := by simp; omega
      refine ⟨(zs.take len).map (fun z => UInt8.ofNat z.toNat), .inr ⟨b, off, cap, by rw [hll], hlt, hM b hlt, by rw [hll]; exact hl, fun j u hj => ?_⟩⟩
      have hjl : j < len := by
        have := (List.getElem?_eq_some_iff.1 hj).1
        rw [flatE_by, List.length_map, hll] at this; exact this
      have hcj := hcell j (by omega)
      rw [add_off] at hcj
      rw [hcj]
      rw [flatE_by, List.getElem?_map, List.getElem?_map, List.getElem?_take, if_pos hjl, List.getElem?_eq_getElem (by omega)] at hj
      simp only [Option.map_some, Option.some.injEq] at hj
      rw [← hj]
      have hw := bounds_u8 (hwz _ (List.getElem_mem (show j < zs.length by omega)))
      rw [getD_eq (show j < zs.length by omega)]
      congr 2
      simp only [UInt8.toNat_ofNat']
      omega
/-- The numbers of a dump are of their kinds. -/
structure DmpOk (d : Dmp) : Prop where
  nodes : ∀ x ∈ d.nodes, NodeOk x.1
  links : ∀ x ∈ d.links, i64ok x.a ∧ i64ok x.b ∧ i64ok x.why
  roots : ∀ i, i < d.roots.length → i64ok (d.roots.getD i 0)
/-- A dump that came in. -/
theorem open_dump2 {r : Reach} {b0 : Nat} {v : Value} {d : DataW H} {p : List MemPlace} (hv : Value.okWide Tryz.prog w r b0 26 v) (h : DataW.Trod enc Tryz.prog w base spare held 26 v d p) :
    ∃ (sN sL sR : Value) (D : Dmp), v = dumpV sN sL sR ∧ RdD NoB w sN sL sR D ∧ DmpOk D := by
  obtain ⟨v0, v1, v2, y0, y1, y2, m, rfl, h0, h1, h2⟩ := open_agg3 Tryz.underlying26 (by kernel_rfl) cellsDump hv h
  obtain ⟨ln, hn, _, hok⟩ := open_nodes h0 NoB (fun _ _ h => h)
  obtain ⟨ll, hl, hlk⟩ := open_links h1 NoB (fun _ _ h => h)
  obtain ⟨lr, hr, _, hro⟩ := rdI_of_trod h2 NoB (fun _ _ h => h)
  exact ⟨v0, v1, v2, ⟨ln, ll, lr⟩, rfl, ⟨hn, hl, hr⟩, ⟨fun x hx => (hok x hx).1, hlk, hro⟩⟩
end
end Go.Proofs.YtndfncaoejbkiaaGreatDoor
end
section
/- Drawn regions that write, as Eff, but what is known of the worlds that are reached may grow with each operation that turns the world: an operation that reads what an earlier call has made may come up later. -/
namespace Go.Proofs.YtndfncaoejbkiaaGreatDoor
open Go.RowKit
set_option maxRecDepth 100000

section
variable {P : Program} {ops : Array Oper} {S : World → Prop} {Q : Exit → Act → World → Prop} {md : Region.Mode} {brk : Nat}

theorem wpAnyT_weak {S1 : World → Prop} (h1 : ∀ w, S1 w → S w) : ∀ (fuel : Nat) (listed : Array Bool) (a : Act) (w : World), wpAnyT P md ops Q S1 brk fuel listed a w → wpAnyT P md ops Q S brk fuel listed a w
  | 0, _, _, _, h => h
  | fuel + 1, _, _, _, h => ⟨h.1, fun i hi => wpOp_mono (fun a' w' h' => ⟨h'.1.imp_right (h1 w'), wpAnyT_weak h1 fuel _ a' w' h'.2⟩) (h.2 i hi)⟩
def effG (P : Program) (ops : Array Oper) (brk : Nat) (R : Act → World → Prop) : List (Nat × Nat) → (World → Prop) → Act → World → Prop
  | [], _, a, W => R a W
  | (i, 0) :: s, S, a, W => ∃ o v, ops[i]? = some o ∧ YieldsIf P ops S o v a ∧ effG P ops brk R s S (a.put o.dst v) W
  | (i, 1) :: s, S, a, W => ∃ o v, ops[i]? = some o ∧ YieldsIf P ops AnyW o v a ∧ effG P ops brk R s S (a.put o.dst v) W
  | (i, _ + 2) :: s, S, a, W => ∃ o, ops[i]? = some o ∧ wpList P ops (fun x a' W' => x = .normal ∧ ∃ S1 : World → Prop, (∀ w, S1 w → S w) ∧ (i ≠ brk → S1 W') ∧ effG P ops brk R s S1 a' W') [o] a W
theorem effG_any {R : Act → World → Prop} (hs : Region.noSelect ops = true) (hR : ∀ a w, R a w → Q .normal a w) (hQ : ∀ c a w, ¬ Q (.panic c) a w) :
    ∀ (s : List (Nat × Nat)) (S : World → Prop) (listed : Array Bool) (a : Act) (w : World), effB md ops brk s listed = true → TT S brk listed w → effG P ops brk R s S a w → wpAnyT P md ops Q S brk s.length listed a w
  | [], S, listed, a, w, hB, _, h => ⟨by simpa [effB] using hB, hR _ _ h⟩
  | (i, 0) :: s, S, listed, a, w, hB, hT, h => by
    simp only [effB, Bool.and_eq_true, bne_iff_ne, ne_eq, Bool.not_eq_true'] at hB
    obtain ⟨⟨⟨⟨⟨h1, h2⟩, h3⟩, h4⟩, h5⟩, h6⟩ := hB
    obtain ⟨o, v, hi, hy, hk⟩ := h
    cases hb : ops[brk]? with
    | none =>
      have hn : ∀ listed : Array Bool, listed.getD i true = false → brk ∉ Region.ready md ops listed := fun listed _ hr => by
        obtain ⟨_, o, ho, _⟩ := mem_ready.1 hr
        rw [hb] at ho; cases ho
      exact wpAnyT_first (S' := S) hi (Region.noSelect_spec hs) (fun c a w h => absurd h (hQ c _ _)) h3 (.inr ⟨hn, fun w h => h⟩) s.length listed a w (Region.free_spec hi h1) (by simpa using h2) hy hT (.inr h4)
        (effG_any hs hR hQ s S _ _ _ h6 (by unfold TT; rw [getD_set_ne' h3]; exact hT) hk)
    | some ob =>
      exact wpAnyT_first (S' := S) hi (Region.noSelect_spec hs) (fun c a w h => absurd h (hQ c _ _)) h3 (.inr ⟨anch_spec hb h5, fun w h => h⟩) s.length listed a w (Region.free_spec hi h1) (by simpa using h2) hy hT (.inr h4)
        (effG_any hs hR hQ s S _ _ _ h6 (by unfold TT; rw [getD_set_ne' h3]; exact hT) hk)
  | (i, 1) :: s, S, listed, a, w, hB, hT, h => by
    simp only [effB, Bool.and_eq_true, bne_iff_ne, ne_eq] at hB
    obtain ⟨⟨⟨h1, h2⟩, h3⟩, h6⟩ := hB
    obtain ⟨o, v, hi, hy, hk⟩ := h
    exact wpAnyT_first (S' := AnyW) hi (Region.noSelect_spec hs) (fun c a w h => absurd h (hQ c _ _)) h3 (.inl (fun _ => trivial)) s.length listed a w (Region.free_spec hi h1) (by simpa using h2) hy hT (.inl (fun _ => trivial))
      (effG_any hs hR hQ s S _ _ _ h6 (by unfold TT; rw [getD_set_ne' h3]; exact hT) hk)
  | (i, n + 2) :: s, S, listed, a, w, hB, hT, h => by
    simp only [effB, Bool.and_eq_true, beq_iff_eq, decide_eq_true_eq, Bool.not_eq_true'] at hB
    obtain ⟨⟨⟨h1, h2⟩, h4⟩, h6⟩ := hB
    obtain ⟨o, hi, hk⟩ := h
    refine ⟨fun h0 => (by rw [h1] at h0; cases h0), fun j hj => ?_⟩
    rw [h1] at hj
    obtain rfl : j = i := by simpa using hj
    refine wpOp_mono (fun a' w' hh => ?_) (effL_one hi hk)
    obtain ⟨S1, g1, g2, g3⟩ := hh
    have hT' : TT S1 brk (listed.setIfInBounds j true) w' := by
      by_cases e : j = brk
      · subst e; exact .inl (by simp [h2])
      · exact .inr (g2 e)
    exact ⟨hT'.imp_right (g1 w'), wpAnyT_weak g1 _ _ _ _ (effG_any hs hR hQ s S1 _ _ _ h6 hT' g3)⟩

theorem region_effG (S : World → Prop) (brk : Nat) (s : List (Nat × Nat)) {id : Nat} {a : Act} {w : World} {l : List Oper} (hm : P.follows .mixedOrders = true)
    (hB : (Region.noSelect l.toArray && (s.length == l.length) && effB .any l.toArray brk s (Array.replicate l.length false)) = true) (hS : S w.drew) (h : effG P l.toArray brk (fun a' W' => Q .normal a' W') s S a w.drew) : (Code.region id l.toArray true).wp P Q a w := by
  simp only [Bool.and_eq_true, beq_iff_eq] at hB
  obtain ⟨⟨h1, h2⟩, h3⟩ := hB
  refine wp_mono (Q := fun x a w => x = .normal ∧ Q .normal a w) (wp_region_any hm (wpAny_of_T (S := S) (brk := brk) _ _ _ _ ?_)) (fun e a w hh => by obtain ⟨rfl, hh⟩ := hh; exact hh)
  have := effG_any (md := .any) (Q := fun x a w => x = .normal ∧ Q .normal a w) h1 (fun a w hh => ⟨rfl, hh⟩) (fun c a w hh => by simp at hh) s S _ a w.drew h3 (.inr hS) h
  rw [h2] at this
  simpa using this
variable {R : Act → World → Prop} {a : Act} {W W' : World} {i : Nat} {s : List (Nat × Nat)} {o : Oper} {l : List Oper}
theorem effg_nil (h : R a W) : effG P l.toArray brk R [] S a W := h
theorem effg_off (hi : l[i]? = some o) (hw : Region.wanted o (yielded l.toArray a.tmps) = false) (h : effG P l.toArray brk R s S (a.put o.dst undef) W) : effG P l.toArray brk R ((i, 1) :: s) S a W :=
  ⟨o, undef, at_l hi, .inr ⟨hw, rfl⟩, h⟩
theorem effg_rd (v : Value) (hi : l[i]? = some o) (hw : Region.wanted o (yielded l.toArray a.tmps) = true) (hy : ∀ w', S w' → (execOp a.eval o).run P w' = .ok (.value v) w') (h : effG P l.toArray brk R s S (a.put o.dst v) W) :
    effG P l.toArray brk R ((i, 0) :: s) S a W := ⟨o, v, at_l hi, .inl ⟨hw, hy⟩, h⟩
theorem effg_pu (v : Value) (hi : l[i]? = some o) (hw : Region.wanted o (yielded l.toArray a.tmps) = true) (hy : ∀ w', (execOp a.eval o).run P w' = .ok (.value v) w') (h : effG P l.toArray brk R s S (a.put o.dst v) W) :
    effG P l.toArray brk R ((i, 1) :: s) S a W := ⟨o, v, at_l hi, .inl ⟨hw, fun w _ => hy w⟩, h⟩
/-- A call, that goes through as its contract says. -/
theorem effg_call (f : FuncId) (args : Array Value) (hi : l[i]? = some o) (hw : Region.wanted o (yielded l.toArray a.tmps) = true) (hy : ∀ w', (execOp a.eval o).run P w' = .ok (.enter f args) w')
    (hc : Calls P f args W (fun e W' => ∃ v, e = .returned v ∧ ∃ S1 : World → Prop, (∀ w, S1 w → S w) ∧ (i ≠ brk → S1 W') ∧ effG P l.toArray brk R s S1 (a.put o.dst v) W')) : effG P l.toArray brk R ((i, 2) :: s) S a W := by
  refine ⟨o, at_l hi, ?_⟩
  unfold wpList
  rw [if_pos hw]
  refine .inl ?_
  unfold Oper.wp
  rw [hy W]
  simp only [Oper.upon, wpList]
  refine Calls.mono hc fun e w' he => ?_
  obtain ⟨v, rfl, h1⟩ := he
  exact ⟨trivial, h1⟩
end
/-- What the worlds are known by: nothing of W has turned, and T. -/
def KnW (W : World) (T : World → Prop) (w : World) : Prop := Hid (Fr NoB W w) ∧ T w
end Go.Proofs.YtndfncaoejbkiaaGreatDoor
end
section
/- The texts that the laws of saturatelaw22 share. -/
namespace Go.Proofs.YtndfncaoejbkiaaGreatDoor
open Go.RowKit
set_option maxRecDepth 100000

theorem i64r {x : Int} (h : i64ok x) : -9223372036854775808 ≤ x ∧ x < 9223372036854775808 := by unfold i64ok at h; omega
theorem dmpsz {d : Dmp} (hf : FewP d) (hk : DmpOk d) : DmpSz d := by
  have h1 := hf.nn
  have h2 := hf.nl
  have h3 := hf.nr
  refine ⟨by omega, by omega, by omega, fun x hx => ?_, fun x hx => ⟨i64r (hk.links x hx).1, i64r (hk.links x hx).2.1, i64r (hk.links x hx).2.2⟩, fun x hx => ?_⟩
  · have ok := hk.nodes x hx
    obtain ⟨i, hi, rfl⟩ := List.mem_iff_getElem.1 hx
    have hz := hf.nodes i hi
    refine ⟨⟨i64r ok.op, i64r ok.width, ok.val, by omega, by omega, fun y hy => ?_⟩, by omega, by omega⟩
    obtain ⟨j, hj, rfl⟩ := List.mem_iff_getElem.1 hy
    have := ok.args j hj
    rw [getD_eq hj] at this
    exact i64r this
  · obtain ⟨j, hj, rfl⟩ := List.mem_iff_getElem.1 hx
    have := hk.roots j hj
    rw [getD_eq hj] at this
    exact i64r this
theorem dmfit {d : Dmp} (h : DmpSz d) : DmFit (dmOf d) :=
  ⟨fun n hn => by obtain ⟨x, hx, rfl⟩ := List.mem_map.1 hn; exact (h.nodes x hx).fit, h.links, h.roots, by have := h.nn; simp only [List.length_map]; omega, by have := h.nl; show d.links.length < _; omega, by have := h.nr; show d.roots.length < _; omega⟩
theorem head_len {d : Dmp} (h : DmpSz d) : (bN (headE (dmOf d))).length ≤ 40000000 := by
  have h1 := numE_le d.nodes.length (by have := h.nn; omega)
  have h2 := numE_le d.links.length (by have := h.nl; omega)
  have h3 := numE_le d.roots.length (by have := h.nr; omega)
  have h4 := flat_le d.nodes (e := fun x : Node × Value => nodeE x.1) (c := 30000) (fun x hx => nodeE_le (h.nodes x hx))
  have h5 := flat_le d.links (e := lnkE) (c := 60) (fun x hx => lnkE_le (h.links x hx))
  have h6 := flat_le d.roots (e := sgnE) (c := 20) (fun x hx => sgnE_le x (h.roots x hx))
  have := h.nn
  have := h.nl
  have := h.nr
  unfold headE bodyE dmOf
  simp only [bN_app, List.length_append, List.length_map, List.flatMap_map]
  have : (bN [69, 71, 1]).length = 3 := rfl
  omega
/-- With the bounds of few. -/
theorem head_few {d : Dmp} (hf : FewP d) (hz : DmpSz d) : (bN (encE (dmOf d))).length ≤ 1000000 := by
  have hn : ∀ x ∈ d.nodes, (bN (nodeE x.1)).length ≤ 700 := fun x hx => by
    have h0 := hz.nodes x hx
    obtain ⟨i, hi, rfl⟩ := List.mem_iff_getElem.1 hx
    have hb := hf.nodes i hi
    have h1 := sgnE_le _ h0.fit.op
    have h2 := sgnE_le _ h0.fit.width
    have h3 := numE_le d.nodes[i].1.val.toNat (by have := h0.fit.val; omega)
    have h4 := numE_le d.nodes[i].1.name.size h0.fit.name
    have h5 := numE_le d.nodes[i].1.args.length h0.fit.len
    have h6 := flat_le d.nodes[i].1.args (e := sgnE) (c := 20) (fun x hx => sgnE_le x (h0.fit.args x hx))
    rw [nodeE_bN]
    simp only [List.length_append]
    have : d.nodes[i].1.name.data.toList.length = d.nodes[i].1.name.size := by simp
    omega
  have h1 := numE_le d.nodes.length (by have := hf.nn; omega)
  have h2 := numE_le d.links.length (by have := hf.nl; omega)
  have h3 := numE_le d.roots.length (by have := hf.nr; omega)
  have h4 := flat_le d.nodes (e := fun x : Node × Value => nodeE x.1) (c := 700) hn
  have h5 := flat_le d.links (e := lnkE) (c := 60) (fun x hx => lnkE_le (hz.links x hx))
  have h6 := flat_le d.roots (e := sgnE) (c := 20) (fun x hx => sgnE_le x (hz.roots x hx))
  have := hf.nn
  have := hf.nl
  have := hf.nr
  unfold encE headE bodyE dmOf
  simp only [bN_app, List.length_append, List.length_map, List.flatMap_map]
  have : (bN [69, 71, 1]).length = 3 := rfl
  have : ∀ x, (bN (bigE x)).length = 4 := fun x => rfl
  rw [this]
  omega
theorem conv_ownY {B : Nat} {w : World} {p : Option Addr} {c : Nat} {l : List UInt8} (h : OwnY B w (.slice p l.length c) l) : (convert 27 9 (.slice p l.length c)).run Tryz.prog w = .ok (.string ⟨l.toArray⟩) w := by
  cases p with
  | none =>
    have hl : l = [] := by
      rcases OwnE.form' h with ⟨_, h2⟩ | ⟨g, cap, h1, _⟩
      · exact h2
      · cases h1
    subst hl
    exact run_convert_bytes_nil (P := Tryz.prog) (w := w) 27 5 Tryz.underlying27 Tryz.underlying5 0 c 9 Tryz.underlying9
  | some a =>
    have h1 := conv_take (c' := c) (OwnE.rd h (M := NoB) (fun _ _ h => h)) (k := l.length) (Nat.le_refl _)
    rw [List.take_length] at h1
    exact h1
theorem nats_enc (d : Dm) : nats (bN (encE d)) = encE d := bN_toNat (encE_byte d)
theorem args_of {d c : Dmp} (h : dmOf d = dmOf c) (hz : DmpSz c) : ∀ x ∈ d.nodes, x.1.args.length ≤ 1000000 := fun x hx => by
  have h1 : x.1 ∈ d.nodes.map (·.1) := List.mem_map_of_mem hx
  have h2 : d.nodes.map (·.1) = c.nodes.map (·.1) := by
    have := congrArg Dm.nodes h
    exact this
  rw [h2] at h1
  obtain ⟨y, hy, e⟩ := List.mem_map.1 h1
  rw [← e]
  have := (hz.nodes y hy).args
  omega
theorem args_sz {c : Dmp} (hz : DmpSz c) : ∀ x ∈ c.nodes, x.1.args.length ≤ 1000000 := args_of rfl hz
end Go.Proofs.YtndfncaoejbkiaaGreatDoor
end
section
/- The walk of the reference's read. -/
namespace Go.Proofs.YtndfncaoejbkiaaGreatDoor
open Go.RowKit
set_option maxRecDepth 100000

abbrev rdrCells (v : Value) (p : Nat) (b : Bool) : Array Value := #[v, .int .i64 p, .bool b]
/-- The reference's reader: where it stands, or that it is bad. -/
def rV (v : Value) : Option Nat → Value
  | some p => .agg #[v, .int .i64 p, .bool false]
  | none => .agg #[.slice none 0 0, .int .i64 0, .bool true]
/-- One number. -/
def pN (l : List UInt8) (s : Option Nat) : Option Nat × Nat :=
  match s.bind (fun p => rdN ((nats l).drop p)) with
  | none => (none, 0)
  | some q => (some (l.length - q.2.length), q.1)
theorem pN_none {l : List UInt8} {p : Nat} (h : rdN ((nats l).drop p) = none) : pN l (some p) = (none, 0) := by unfold pN; rw [Option.bind_some, h]
theorem pN_some {l : List UInt8} {p : Nat} {q : Nat × List Nat} (h : rdN ((nats l).drop p) = some q) : pN l (some p) = (some (l.length - q.2.length), q.1) := by unfold pN; rw [Option.bind_some, h]
theorem rd_add {acc q k : Nat} {P : Int} (hP : P = ((2 ^ (7 * k) : Nat) : Int)) (ha : acc < 2 ^ (7 * k)) (hk : k ≤ 9) (h9 : k = 9 → q ≤ 1) :
    IntKind.u64.wrap ((acc : Int) + IntKind.u64.wrap ((q : Int) % 128 * P)) = ((acc + q % 128 * 2 ^ (7 * k) : Nat) : Int) := by
  have h1 : q % 128 < 128 := Nat.mod_lt _ (by decide)
  have hlt : acc + q % 128 * 2 ^ (7 * k) < 18446744073709551616 := by
    by_cases e : k = 9
    · subst e
      have := h9 rfl
      have h2 : q % 128 ≤ 1 := by omega
      have h3 : q % 128 * 2 ^ (7 * 9) ≤ 1 * 2 ^ (7 * 9) := Nat.mul_le_mul_right _ h2
      have h4 : acc < 9223372036854775808 := ha
      have h5 : (1 : Nat) * 2 ^ (7 * 9) = 9223372036854775808 := by decide
      omega
    · have h2 := acc_lt (c := q) ha
      have h3 : 2 ^ (7 * (k + 1)) ≤ 2 ^ 63 := Nat.pow_le_pow_right (by decide) (by omega)
      have h4 : (2 : Nat) ^ 63 < 18446744073709551616 := by decide
      omega
  rw [hP]
  have e2 : ((q : Int) % 128 * ((2 ^ (7 * k) : Nat) : Int)) = ((q % 128 * 2 ^ (7 * k) : Nat) : Int) := by push_cast; rfl
  rw [e2]
  have e3 : IntKind.u64.wrap ((q % 128 * 2 ^ (7 * k) : Nat) : Int) = ((q % 128 * 2 ^ (7 * k) : Nat) : Int) := by
    rw [IntKind.wrap_u64]
    generalize q % 128 * 2 ^ (7 * k) = z at hlt
    omega
  rw [e3, ← Int.natCast_add, IntKind.wrap_u64]
  generalize acc + q % 128 * 2 ^ (7 * k) = z at hlt
  omega
/-- The bad reader is laid into the result. -/
theorem bad_out {w W : World} {R : Nat} {a b c : Value} (hR : W.heap[R]? = some (.cells #[a, b, c] 72 (0, 0))) (hf : Fr NoB w W) (hw : w.heap.size ≤ R) :
    let WF := ((W.setCell ⟨R, 0, none⟩ (.slice none 0 0)).setCell ⟨R, 1, none⟩ (.int .i64 0)).setCell ⟨R, 2, none⟩ (.bool true)
    WF.heap[R]? = some (.cells #[.slice none 0 0, .int .i64 0, .bool true] 72 (0, 0)) ∧ Fr NoB w WF := by
  intro WF
  have f1 : Fr (fun k => k = R) W WF :=
    (((Fr.refl (fun k => k = R) W).setCell (p := ⟨R, 0, none⟩) (fun _ => rfl) _).setCell (p := ⟨R, 1, none⟩) (fun _ => rfl) _).setCell (p := ⟨R, 2, none⟩) (fun _ => rfl) _
  exact ⟨set_at (set_at (set_at hR 0 _) 1 _) 2 _, hf.trans' f1 (fun k hk e => by have e2 : k = R := e; omega)⟩
theorem good_out {w W : World} {R : Nat} {a b c v : Value} {z : Int} (hR : W.heap[R]? = some (.cells #[a, b, c] 72 (0, 0))) (hf : Fr NoB w W) (hw : w.heap.size ≤ R) :
    let WF := ((W.setCell ⟨R, 0, none⟩ v).setCell ⟨R, 1, none⟩ (.int .i64 z)).setCell ⟨R, 2, none⟩ (.bool false)
    WF.heap[R]? = some (.cells #[v, .int .i64 z, .bool false] 72 (0, 0)) ∧ Fr NoB w WF := by
  intro WF
  have f1 : Fr (fun k => k = R) W WF :=
    (((Fr.refl (fun k => k = R) W).setCell (p := ⟨R, 0, none⟩) (fun _ => rfl) _).setCell (p := ⟨R, 1, none⟩) (fun _ => rfl) _).setCell (p := ⟨R, 2, none⟩) (fun _ => rfl) _
  exact ⟨set_at (set_at (set_at hR 0 _) 1 _) 2 _, hf.trans' f1 (fun k hk e => by have e2 : k = R := e; omega)⟩
set_option maxHeartbeats 4000000 in
theorem read_bad (v : Value) (w : World) : Calls Tryz.prog 49 #[rV v none] w fun e w' => e = .returned (.tuple #[rV v none, .int .u64 0]) ∧ Fr NoB w w' := by
  unfold rV
  go_enter Tryz.func49, Tryz.ntmps49
  go_wp2
  refine wp_loop_rounds 1 ?_
  rw [rounds_succ]
  go_wp2
  have R := at_new' (w := w.alloc (.cells #[.slice none 0 0, .int .i64 0, .bool true] 72)) (o := .cells #[.slice none 0 0, .int .i64 0, .bool true] 72) (b := w.heap.size + 1) (by simp)
  obtain ⟨r0, r1, r2, rf, rl⟩ := three_of R
  refine bodyPost_ret (v := .tuple #[.agg #[.slice none 0 0, .int .i64 0, .bool true], .int .u64 0]) (by simp [results, Tryz.results49, go_sem, r0, r1, r2]) rfl ?_
  exact ⟨rfl, ((Fr.refl NoB w).alloc _).alloc _⟩
set_option maxHeartbeats 8000000 in
theorem read_good (v : Value) (l : List UInt8) (p : Nat) (w : World) (h : RdY NoB w v l) (hp : p ≤ l.length) (hl : l.length ≤ 1000000) :
    Calls Tryz.prog 49 #[rV v (some p)] w fun e w' => e = .returned (.tuple #[rV v (pN l (some p)).1, .int .u64 (pN l (some p)).2]) ∧ Fr NoB w w' := by
  obtain ⟨pa, c, hv⟩ := RdY.form h
  subst hv
  have H := hid h
  have HA0 : Hid (((w.alloc (.cells (rdrCells (.slice pa l.length c) p false) 72)).alloc (.cells #[.slice none 0 0, .int .i64 0, .bool false] 72)).heap[w.heap.size]? = some (.cells (rdrCells (.slice pa l.length c) p false) 72 (0, 0))) := at_old (at_new w _) _
  have HR0 : Hid (((w.alloc (.cells (rdrCells (.slice pa l.length c) p false) 72)).alloc (.cells #[.slice none 0 0, .int .i64 0, .bool false] 72)).heap[w.heap.size + 1]? = some (.cells #[.slice none 0 0, .int .i64 0, .bool false] 72 (0, 0))) := at_new' (by simp)
  have F0 : Hid (Fr NoB w ((w.alloc (.cells (rdrCells (.slice pa l.length c) p false) 72)).alloc (.cells #[.slice none 0 0, .int .i64 0, .bool false] 72))) := ((Fr.refl NoB w).alloc _).alloc _
  have HBAD : Hid (rdN ((nats l).drop p) = none → rV (.slice pa l.length c) (pN l (some p)).1 = rV (.slice pa l.length c) none ∧ (pN l (some p)).2 = 0) := fun h => by
    rw [pN_none h]; exact ⟨rfl, rfl⟩
  clear h
  have hrv : rV (.slice pa l.length c) (some p) = .agg (rdrCells (.slice pa l.length c) p false) := rfl
  rw [hrv]
  obtain ⟨ANS, hANS⟩ : ∃ A, Hid (rV (.slice pa l.length c) (pN l (some p)).1 = A) := ⟨_, hid rfl⟩
  obtain ⟨XN, hXN⟩ : ∃ A, Hid ((pN l (some p)).2 = A) := ⟨_, hid rfl⟩
  rw [hANS.out, hXN.out]
  go_enter Tryz.func49, Tryz.ntmps49
  go_wp2
  go_loopw [4, 5] (fun x i wr => ∃ (k acc : Nat), k ≤ 9 ∧ p + k ≤ l.length ∧ acc < 2 ^ (7 * k) ∧ i = .int .i64 k ∧ x = .int .u64 acc ∧ Hid (rdN ((nats l).drop p) = rdAt ((nats l).drop p) k acc) ∧ Hid (wr.heap[w.heap.size]? = some (.cells (rdrCells (.slice pa l.length c) (p + k : Nat) false) 72 (0, 0))) ∧ Hid (wr.heap[w.heap.size + 1]? = some (.cells #[.slice none 0 0, .int .i64 0, .bool false] 72 (0, 0))) ∧ Hid (Fr NoB w wr)) (fun _ i _ => 20 - (intOf i).toNat)
  case atStart => exact ⟨0, 0, by omega, by omega, by decide, rfl, rfl, rdAt_start _, HA0.out, HR0.out, F0.out⟩
  case round =>
    obtain ⟨k, acc, hk9, hpk, hacc, rfl, rfl, HN, HA, HR, F⟩ := hrel
    obtain ⟨a0, a1, a2, af, al⟩ := three_of HA.out
    obtain ⟨r0, r1, r2, rf, rl⟩ := three_of HR.out
    have HBO := hid (bad_out HR.out F.out (Nat.le_succ _))
    by_cases hlt : p + k < l.length
    · obtain ⟨b, off, hpp, e0⟩ := RdY.cell (RdE.step H.out F.out) hlt
      subst hpp
      have h7k : (7 * (k : Int)) < 64 := by omega
      have hcl := l[p + k].toNat_lt
      have hkd : k < ((nats l).drop p).length := by rw [List.length_drop, List.length_map]; omega
      have hcons := rdAt_cons (l := (nats l).drop p) (i := k) (acc := acc) hkd
      have hgk : ((nats l).drop p)[k]'hkd = l[p + k].toNat := by simp
      rw [hgk] at hcons
      obtain ⟨q, hq⟩ : ∃ q, l[p + k].toNat = q := ⟨_, rfl⟩
      rw [hq] at hcons hcl e0
      have HC := hid hcons
      clear hcons hgk hq hrv
      have e0' : wr.cell? ⟨b, off + p + k, none⟩ = some (.int .u8 (q : Int)) := by rw [Nat.add_assoc]; exact e0
      have hne : b ≠ w.heap.size := fun e => by
        rcases H.out with ⟨_, h⟩ | ⟨b', off', cap, e1, h2, _⟩
        · rw [h] at hlt; simp at hlt
        · simp only [Value.slice.injEq, Option.some.injEq, Addr.mk.injEq, and_true] at e1
          omega
      have G1 : Hid (Fr (fun x => x = w.heap.size) wr (wr.setCell ⟨w.heap.size, 1, none⟩ (.int .i64 ((p : Int) + k + 1)))) := (Fr.refl (fun x => x = w.heap.size) wr).setCell (p := ⟨w.heap.size, 1, none⟩) (fun _ => rfl) _
      have HA1 := hid (set_at HA.out 1 (.int .i64 ((p : Int) + k + 1)))
      have HR1 := hid (G1.out.at (fun e => by have e2 : w.heap.size + 1 = w.heap.size := e; omega) HR.out)
      have F1 : Hid (Fr NoB w (wr.setCell ⟨w.heap.size, 1, none⟩ (.int .i64 ((p : Int) + k + 1)))) := F.out.trans' G1.out (fun x hx e => by have e2 : x = w.heap.size := e; omega)
      have HB1 := hid (bad_out HR1.out F1.out (Nat.le_succ _))
      obtain ⟨b0, b1, b2, bf, bl⟩ := three_of HA1.out
      obtain ⟨s0, s1, s2, sf, sl⟩ := three_of HR1.out
      by_cases hbad : k = 9 ∧ 1 < q
      · have h1' : ((k : Int) == 9) = true := by simp; omega
        have h2' : (1 : Int) < (q : Int) := by omega
        have hn : Hid (rdN ((nats l).drop p) = none) := by show _ = _; rw [HN.out, HC.out, if_pos (.inl hbad)]
        clear hbad
        go_wp2
        obtain ⟨q1, q2⟩ := HB1.out
        obtain ⟨t0, t1, t2, tf, tl⟩ := three_of q1
        obtain ⟨hA, hX⟩ := HBAD.out hn.out
        refine bodyPost_ret (v := .tuple #[.agg #[.slice none 0 0, .int .i64 0, .bool true], .int .u64 0]) (by simp [results, Tryz.results49, go_sem, t0, t1, t2]) rfl ?_
        refine ⟨?_, q2⟩
        rw [← hANS.out, ← hXN.out, hA, hX]
        rfl
      by_cases hq : q < 128
      · have hq' : (q : Int) < 128 := by omega
        by_cases hb2 : 0 < k ∧ q = 0
        · have hn : Hid (rdN ((nats l).drop p) = none) := by show _ = _; rw [HN.out, HC.out, if_pos (.inr hb2)]
          obtain ⟨h3, h4⟩ := hb2
          have h3' : (0 : Int) < (k : Int) := by omega
          have h4' : ((q : Int) == 0) = true := by simp; omega
          have h5' : ¬ (1 : Int) < (q : Int) := by omega
          clear h4 hbad
          by_cases h9 : k = 9
          · have h1' : ((k : Int) == 9) = true := by simp; omega
            clear h9
            go_wp2
            obtain ⟨q1, q2⟩ := HB1.out
            obtain ⟨t0, t1, t2, tf, tl⟩ := three_of q1
            obtain ⟨hA, hX⟩ := HBAD.out hn.out
            refine bodyPost_ret (v := .tuple #[.agg #[.slice none 0 0, .int .i64 0, .bool true], .int .u64 0]) (by simp [results, Tryz.results49, go_sem, t0, t1, t2]) rfl ?_
            refine ⟨?_, q2⟩
            rw [← hANS.out, ← hXN.out, hA, hX]
            rfl
          · have h1' : ((k : Int) == 9) = false := by simp; omega
            clear h9
            go_wp2
            obtain ⟨q1, q2⟩ := HB1.out
            obtain ⟨t0, t1, t2, tf, tl⟩ := three_of q1
            obtain ⟨hA, hX⟩ := HBAD.out hn.out
            refine bodyPost_ret (v := .tuple #[.agg #[.slice none 0 0, .int .i64 0, .bool true], .int .u64 0]) (by simp [results, Tryz.results49, go_sem, t0, t1, t2]) rfl ?_
            refine ⟨?_, q2⟩
            rw [← hANS.out, ← hXN.out, hA, hX]
            rfl
        · have hg : Hid (rdN ((nats l).drop p) = some (acc + q % 128 * 2 ^ (7 * k), ((nats l).drop p).drop (k + 1))) := by
            show _ = _
            rw [HN.out, HC.out, if_neg (by omega), if_pos hq]
          have HO := hid (rd_add (acc := acc) (q := q) (k := k) (P := 2 ^ (7 * k)) (by simp) hacc hk9 (by omega))
          have HPN : Hid (pN l (some p) = (some (p + k + 1), acc + q % 128 * 2 ^ (7 * k))) := by
            show _ = _
            rw [pN_some hg.out]
            simp only [List.length_drop, List.length_map, Prod.mk.injEq, Option.some.injEq, and_true]
            omega
          have hcs : (k = 0) ∨ (0 < k ∧ 0 < q) := by omega
          have HKQ := hid (show k = 9 → q ≤ 1 by omega)
          clear hbad hb2
          have HG1 := hid (good_out (v := .slice (some ⟨b, off, none⟩) l.length c) (z := (p : Int) + k + 1) HR1.out F1.out (Nat.le_succ _))
          rcases hcs with h0 | ⟨h0, h0q⟩
          · have h1' : ((k : Int) == 9) = false := by simp; omega
            have h3' : ¬ (0 : Int) < (k : Int) := by omega
            clear h0
            by_cases hq0 : q = 0
            · have h4' : ((q : Int) == 0) = true := by simp; omega
              clear hq0
              go_wp2
              obtain ⟨q1, q2⟩ := HG1.out
              obtain ⟨t0, t1, t2, tf, tl⟩ := three_of q1
              refine bodyPost_ret (v := .tuple #[.agg #[.slice (some ⟨b, off, none⟩) l.length c, .int .i64 ((p : Int) + k + 1), .bool false], .int .u64 (IntKind.u64.wrap ((acc : Int) + IntKind.u64.wrap ((q : Int) % 128 * 2 ^ (7 * k))))]) (by simp [results, Tryz.results49, go_sem, t0, t1, t2]) rfl ?_
              refine ⟨?_, q2⟩
              rw [HO.out, ← hANS.out, ← hXN.out, HPN.out]
              simp only [rV]
              rfl
            · have h4' : ((q : Int) == 0) = false := by simp; omega
              clear hq0
              go_wp2
              obtain ⟨q1, q2⟩ := HG1.out
              obtain ⟨t0, t1, t2, tf, tl⟩ := three_of q1
              refine bodyPost_ret (v := .tuple #[.agg #[.slice (some ⟨b, off, none⟩) l.length c, .int .i64 ((p : Int) + k + 1), .bool false], .int .u64 (IntKind.u64.wrap ((acc : Int) + IntKind.u64.wrap ((q : Int) % 128 * 2 ^ (7 * k))))]) (by simp [results, Tryz.results49, go_sem, t0, t1, t2]) rfl ?_
              refine ⟨?_, q2⟩
              rw [HO.out, ← hANS.out, ← hXN.out, HPN.out]
              simp only [rV]
              rfl
          · have h3' : (0 : Int) < (k : Int) := by omega
            have h4' : ((q : Int) == 0) = false := by simp; omega
            by_cases h9 : k = 9
            · have h1' : ((k : Int) == 9) = true := by simp; omega
              have h5' : ¬ (1 : Int) < (q : Int) := by have := HKQ.out h9; omega
              clear h9
              go_wp2
              obtain ⟨q1, q2⟩ := HG1.out
              obtain ⟨t0, t1, t2, tf, tl⟩ := three_of q1
              refine bodyPost_ret (v := .tuple #[.agg #[.slice (some ⟨b, off, none⟩) l.length c, .int .i64 ((p : Int) + k + 1), .bool false], .int .u64 (IntKind.u64.wrap ((acc : Int) + IntKind.u64.wrap ((q : Int) % 128 * 2 ^ (7 * k))))]) (by simp [results, Tryz.results49, go_sem, t0, t1, t2]) rfl ?_
              refine ⟨?_, q2⟩
              rw [HO.out, ← hANS.out, ← hXN.out, HPN.out]
              simp only [rV]
              rfl
            · have h1' : ((k : Int) == 9) = false := by simp; omega
              clear h9
              go_wp2
              obtain ⟨q1, q2⟩ := HG1.out
              obtain ⟨t0, t1, t2, tf, tl⟩ := three_of q1
              refine bodyPost_ret (v := .tuple #[.agg #[.slice (some ⟨b, off, none⟩) l.length c, .int .i64 ((p : Int) + k + 1), .bool false], .int .u64 (IntKind.u64.wrap ((acc : Int) + IntKind.u64.wrap ((q : Int) % 128 * 2 ^ (7 * k))))]) (by simp [results, Tryz.results49, go_sem, t0, t1, t2]) rfl ?_
              refine ⟨?_, q2⟩
              rw [HO.out, ← hANS.out, ← hXN.out, HPN.out]
              simp only [rV]
              rfl
      · have hge : ¬ (q : Int) < 128 := by omega
        have h1' : ((k : Int) == 9) = false := by simp; omega
        have HO := hid (rd_add (acc := acc) (q := q) (k := k) (P := 2 ^ (7 * k)) (by simp) hacc hk9 (by omega))
        have hk8 : k ≤ 8 := by omega
        have HNB : Hid (¬ ((k = 9 ∧ 1 < q) ∨ (0 < k ∧ q = 0))) := by show ¬ _; omega
        have HQ := hid hq
        have hlt2 : p + (k + 1) ≤ l.length := by omega
        clear hbad hq hlt
        go_wp2
        go_roundw
        case rel => exact ⟨k + 1, acc + q % 128 * 2 ^ (7 * k), by omega, hlt2, acc_lt (c := q) hacc, by go_num, by rw [HO.out], by
          show _ = _
          rw [HN.out, HC.out, if_neg HNB.out, if_neg HQ.out], by
          have h := HA1.out
          rw [show ((p : Int) + k + 1) = ((p + (k + 1) : Nat) : Int) by omega] at h ⊢
          exact h, by
          have h := HR1.out
          rw [show ((p : Int) + k + 1) = ((p + (k + 1) : Nat) : Int) by omega] at h ⊢
          exact h, by
          have h := F1.out
          rw [show ((p : Int) + k + 1) = ((p + (k + 1) : Nat) : Int) by omega] at h ⊢
          exact h⟩
        case measure => simp [intOf]; omega
    · have hge : ¬ ((p : Int) + (k : Int)) < (l.length : Int) := by omega
      go_wp2
      obtain ⟨q1, q2⟩ := HBO.out
      obtain ⟨s0, s1, s2, sf, sl⟩ := three_of q1
      have hn : rdN ((nats l).drop p) = none := by
        rw [HN.out, rdAt_end]
        rw [List.length_drop, List.length_map]
        omega
      obtain ⟨hA, hX⟩ := HBAD.out hn
      refine bodyPost_ret (v := .tuple #[.agg #[.slice none 0 0, .int .i64 0, .bool true], .int .u64 0]) (by simp [results, Tryz.results49, go_sem, s0, s1, s2]) rfl ?_
      refine ⟨?_, q2⟩
      rw [← hANS.out, ← hXN.out, hA, hX]
      rfl
/-- A number, from wherever the reader stands. -/
theorem read_any (v : Value) (l : List UInt8) (s : Option Nat) (w : World) (h : RdY NoB w v l) (hs : ∀ p, s = some p → p ≤ l.length) (hl : l.length ≤ 1000000) :
    Calls Tryz.prog 49 #[rV v s] w fun e w' => e = .returned (.tuple #[rV v (pN l s).1, .int .u64 (pN l s).2]) ∧ Fr NoB w w' := by
  cases s with
  | none => exact read_bad v w
  | some p => exact read_good v l p w h (hs p rfl) hl
theorem pN_ok {l : List UInt8} {s : Option Nat} : ∀ p, (pN l s).1 = some p → p ≤ l.length := fun p hp => by
  unfold pN at hp
  split at hp
  · cases hp
  · cases hp
    omega
end Go.Proofs.YtndfncaoejbkiaaGreatDoor
end
section
/- The walks of the reference's integer and count. -/
namespace Go.Proofs.YtndfncaoejbkiaaGreatDoor
open Go.RowKit
set_option maxRecDepth 100000

theorem st3 {W : World} {R : Nat} {a b c x y z : Value} {e : TypeId} (hR : W.heap[R]? = some (.cells #[a, b, c] e (0, 0))) :
    let WF := ((W.setCell ⟨R, 0, none⟩ x).setCell ⟨R, 1, none⟩ y).setCell ⟨R, 2, none⟩ z
    WF.heap[R]? = some (.cells #[x, y, z] e (0, 0)) ∧ Fr (fun k => k = R) W WF := by
  intro WF
  exact ⟨set_at (set_at (set_at hR 0 _) 1 _) 2 _, (((Fr.refl (fun k => k = R) W).setCell (p := ⟨R, 0, none⟩) (fun _ => rfl) _).setCell (p := ⟨R, 1, none⟩) (fun _ => rfl) _).setCell (p := ⟨R, 2, none⟩) (fun _ => rfl) _⟩
theorem rV_form (pa : Option Addr) (n c : Nat) (s : Option Nat) : ∃ a m d z b, rV (.slice pa n c) s = .agg #[.slice a m d, .int .i64 z, .bool b] ∧ (b = s.isNone) ∧ (∀ p, s = some p → z = (p : Int) ∧ m = n) := by
  cases s with
  | none => exact ⟨none, 0, 0, 0, true, rfl, rfl, fun p h => by cases h⟩
  | some p => exact ⟨pa, n, c, p, false, rfl, rfl, fun q h => by cases h; exact ⟨rfl, rfl⟩⟩
theorem nats_byte (l : List UInt8) (p : Nat) : ∀ c ∈ (nats l).drop p, c < 256 := fun c hc => by
  have h1 := List.mem_of_mem_drop hc
  obtain ⟨x, _, rfl⟩ := List.mem_map.1 h1
  exact x.toNat_lt
theorem pN_lt (l : List UInt8) (s : Option Nat) : (pN l s).2 < 18446744073709551616 := by
  unfold pN
  split
  · decide
  · rename_i q hq
    cases s with
    | none => cases hq
    | some p => exact rdN_val (nats_byte l p) hq
/-- A signed number. -/
def pS (l : List UInt8) (s : Option Nat) : Option Nat × Int := ((pN l s).1, sgnD (pN l s).2)
/-- A count. -/
def pC (l : List UInt8) (s : Option Nat) : Option Nat × Nat :=
  match (pN l s).1 with
  | none => (none, 0)
  | some p => if (pN l s).2 ≤ l.length - p then (some p, (pN l s).2) else (none, 0)
theorem pC_ok {l : List UInt8} {s : Option Nat} : ∀ p, (pC l s).1 = some p → p ≤ l.length := fun p hp => by
  unfold pC at hp
  split at hp
  · cases hp
  · rename_i q hq
    split at hp
    · cases hp; exact pN_ok _ hq
    · cases hp
set_option maxHeartbeats 8000000 in
theorem integer_any (v : Value) (l : List UInt8) (s : Option Nat) (w : World) (h : RdY NoB w v l) (hs : ∀ p, s = some p → p ≤ l.length) (hl : l.length ≤ 1000000) :
    Calls Tryz.prog 37 #[rV v s] w fun e w' => e = .returned (.tuple #[rV v (pS l s).1, .int .i64 (pS l s).2]) ∧ Fr NoB w w' := by
  obtain ⟨pa, c, hv⟩ := RdY.form h
  subst hv
  obtain ⟨a1, m1, d1, z1, b1, hr1, hq1, hq2⟩ := rV_form pa l.length c s
  obtain ⟨a2, m2, d2, z2, b2, hr2, hq3, hq4⟩ := rV_form pa l.length c (pN l s).1
  clear hq1 hq2 hq3 hq4
  have H := hid h
  have HS := hid hs
  have HR1 := hid hr1
  have HR2 := hid hr2
  have hx := pN_lt l s
  obtain ⟨x, hxx⟩ : ∃ x, (pN l s).2 = x := ⟨_, rfl⟩
  have HX := hid hxx
  rw [hxx] at hx
  have HPS : Hid (pS l s = ((pN l s).1, sgnD x)) := by show _ = _; unfold pS; rw [hxx]
  rw [hr1]
  have F0 : Hid (Fr NoB w ((w.alloc (.cells #[.slice a1 m1 d1, .int .i64 z1, .bool b1] 72)).alloc (.cells #[.slice none 0 0, .int .i64 0, .bool false] 72))) := ((Fr.refl NoB w).alloc _).alloc _
  have A0 : Hid (((w.alloc (.cells #[.slice a1 m1 d1, .int .i64 z1, .bool b1] 72)).alloc (.cells #[.slice none 0 0, .int .i64 0, .bool false] 72)).heap[w.heap.size]? = some (.cells #[.slice a1 m1 d1, .int .i64 z1, .bool b1] 72 (0, 0))) := at_old (at_new w _) _
  have R0 : Hid (((w.alloc (.cells #[.slice a1 m1 d1, .int .i64 z1, .bool b1] 72)).alloc (.cells #[.slice none 0 0, .int .i64 0, .bool false] 72)).heap[w.heap.size + 1]? = some (.cells #[.slice none 0 0, .int .i64 0, .bool false] 72 (0, 0))) := at_new' (by simp)
  clear h hs hr1 hr2 hxx
  go_enter Tryz.func37, Tryz.ntmps37
  go_wp2_with fail
  have hc := read_any _ l s _ (RdE.step H.out F0.out) HS.out hl
  rw [HR1.out, HR2.out, HX.out] at hc
  refine hc.mono ?_
  clear hc
  rintro e w1 ⟨rfl, hf⟩
  have F1 := hid (F0.out.step hf)
  have A1 := hid (hf.at (fun h => h) A0.out)
  have R1 := hid (hf.at (fun h => h) R0.out)
  obtain ⟨g0, g1, g2, gf, gl⟩ := three_of A1.out
  have X1 := st3 (x := .slice a2 m2 d2) (y := .int .i64 z2) (z := .bool b2) A1.out
  have A2 := hid X1.1
  have F2 := hid (F1.out.trans' X1.2 (fun k hk e => by have e2 : k = w.heap.size := e; omega))
  have R2 := hid (X1.2.at (fun e => by have e2 : w.heap.size + 1 = w.heap.size := e; omega) R1.out)
  clear hf X1 F0 A0 R0
  by_cases hp : x % 2 = 0
  · have hp' : ((x : Int) % 2 == 0) = true := by simp; omega
    obtain ⟨k0, k1, k2, kf, kl⟩ := three_of A2.out
    obtain ⟨r0, r1, r2, rf, rl⟩ := three_of R2.out
    have X3 := st3 (x := .slice a2 m2 d2) (y := .int .i64 z2) (z := .bool b2) R2.out
    have R3 := hid X3.1
    have F3 := hid (F2.out.trans' X3.2 (fun k hk e => by have e2 : k = w.heap.size + 1 := e; omega))
    clear X3
    go_wp2
    obtain ⟨t0, t1, t2, tf, tl⟩ := three_of R3.out
    refine bodyPost_ret (v := .tuple #[.agg #[.slice a2 m2 d2, .int .i64 z2, .bool b2], .int .i64 ((x : Int) / 2)]) (by simp [results, Tryz.results37, go_sem, t0, t1, t2]) rfl ?_
    refine ⟨?_, F3.out⟩
    rw [HPS.out]
    dsimp only
    have HSG : sgnD x = (x : Int) / 2 := by
      unfold sgnD
      rw [if_pos hp]
      push_cast
      rfl
    rw [HR2.out, HSG]
  · have hp' : ((x : Int) % 2 == 0) = false := by simp; omega
    obtain ⟨k0, k1, k2, kf, kl⟩ := three_of A2.out
    obtain ⟨r0, r1, r2, rf, rl⟩ := three_of R2.out
    have X3 := st3 (x := .slice a2 m2 d2) (y := .int .i64 z2) (z := .bool b2) R2.out
    have R3 := hid X3.1
    have F3 := hid (F2.out.trans' X3.2 (fun k hk e => by have e2 : k = w.heap.size + 1 := e; omega))
    clear X3
    go_wp2
    obtain ⟨t0, t1, t2, tf, tl⟩ := three_of R3.out
    refine bodyPost_ret (v := .tuple #[.agg #[.slice a2 m2 d2, .int .i64 z2, .bool b2], .int .i64 (-((x : Int) / 2) - 1)]) (by simp [results, Tryz.results37, go_sem, t0, t1, t2]) rfl ?_
    refine ⟨?_, F3.out⟩
    rw [HPS.out]
    dsimp only
    have HSG : sgnD x = -((x : Int) / 2) - 1 := by
      unfold sgnD
      rw [if_neg hp]
      push_cast
      rfl
    rw [HR2.out, HSG]
theorem pC_of_none {l : List UInt8} {s : Option Nat} (h : (pN l s).1 = none) : pC l s = (none, 0) := by unfold pC; rw [h]
theorem pC_of_some {l : List UInt8} {s : Option Nat} {p : Nat} (h : (pN l s).1 = some p) : pC l s = if (pN l s).2 ≤ l.length - p then (some p, (pN l s).2) else (none, 0) := by unfold pC; rw [h]
set_option maxHeartbeats 800000 in
theorem count_any (v : Value) (l : List UInt8) (s : Option Nat) (w : World) (h : RdY NoB w v l) (hs : ∀ p, s = some p → p ≤ l.length) (hl : l.length ≤ 1000000) :
    Calls Tryz.prog 35 #[rV v s] w fun e w' => e = .returned (.tuple #[rV v (pC l s).1, .int .i64 (pC l s).2]) ∧ Fr NoB w w' := by
  obtain ⟨pa, c, hv⟩ := RdY.form h
  subst hv
  obtain ⟨a1, m1, d1, z1, b1, hr1, hq1, hq2⟩ := rV_form pa l.length c s
  clear hq1 hq2
  have H := hid h
  have HS := hid hs
  have HR1 := hid hr1
  have hx := pN_lt l s
  obtain ⟨x, hxx⟩ : ∃ x, (pN l s).2 = x := ⟨_, rfl⟩
  have HX := hid hxx
  rw [hxx] at hx
  rw [hr1]
  have F0 : Hid (Fr NoB w ((w.alloc (.cells #[.slice a1 m1 d1, .int .i64 z1, .bool b1] 72)).alloc (.cells #[.slice none 0 0, .int .i64 0, .bool false] 72))) := ((Fr.refl NoB w).alloc _).alloc _
  have A0 : Hid (((w.alloc (.cells #[.slice a1 m1 d1, .int .i64 z1, .bool b1] 72)).alloc (.cells #[.slice none 0 0, .int .i64 0, .bool false] 72)).heap[w.heap.size]? = some (.cells #[.slice a1 m1 d1, .int .i64 z1, .bool b1] 72 (0, 0))) := at_old (at_new w _) _
  have R0 : Hid (((w.alloc (.cells #[.slice a1 m1 d1, .int .i64 z1, .bool b1] 72)).alloc (.cells #[.slice none 0 0, .int .i64 0, .bool false] 72)).heap[w.heap.size + 1]? = some (.cells #[.slice none 0 0, .int .i64 0, .bool false] 72 (0, 0))) := at_new' (by simp)
  clear h hs hr1 hxx
  obtain ⟨PC, hPC⟩ : ∃ P, Hid (pC l s = P) := ⟨_, hid rfl⟩
  rw [hPC.out]
  obtain ⟨ANS, hANS⟩ : ∃ A, Hid (rV (.slice pa l.length c) PC.1 = A) := ⟨_, hid rfl⟩
  obtain ⟨XN, hXN⟩ : ∃ A, Hid (PC.2 = A) := ⟨_, hid rfl⟩
  rw [hANS.out, hXN.out]
  go_enter Tryz.func35, Tryz.ntmps35
  go_wp2_with fail
  have hc := read_any _ l s _ (RdE.step H.out F0.out) HS.out hl
  rw [HR1.out, HX.out] at hc
  refine hc.mono ?_
  clear hc
  rintro e w1 ⟨rfl, hf⟩
  have F1 := hid (F0.out.step hf)
  have A1 := hid (hf.at (fun h => h) A0.out)
  have R1 := hid (hf.at (fun h => h) R0.out)
  obtain ⟨g0, g1, g2, gf, gl⟩ := three_of A1.out
  clear hf F0 A0 R0
  cases hq : (pN l s).1 with
  | none =>
    have HPS : Hid (PC = (none, 0)) := hid (hPC.out.symm.trans (pC_of_none hq))
    have X1 := st3 (x := .slice none 0 0) (y := .int .i64 0) (z := .bool true) A1.out
    have A2 := hid X1.1
    have F2 := hid (F1.out.trans' X1.2 (fun k hk e => by have e2 : k = w.heap.size := e; omega))
    have R2 := hid (X1.2.at (fun e => by have e2 : w.heap.size + 1 = w.heap.size := e; omega) R1.out)
    clear X1
    obtain ⟨k0, k1, k2, kf, kl⟩ := three_of A2.out
    obtain ⟨r0, r1, r2, rf, rl⟩ := three_of R2.out
    have X3 := st3 (x := .slice none 0 0) (y := .int .i64 0) (z := .bool true) R2.out
    have R3 := hid X3.1
    have F3 := hid (F2.out.trans' X3.2 (fun k hk e => by have e2 : k = w.heap.size + 1 := e; omega))
    clear X3
    unfold rV
    go_wp2
    obtain ⟨t0, t1, t2, tf, tl⟩ := three_of R3.out
    refine bodyPost_ret (v := .tuple #[.agg #[.slice none 0 0, .int .i64 0, .bool true], .int .i64 0]) (by simp [results, Tryz.results35, go_sem, t0, t1, t2]) rfl ?_
    refine ⟨?_, F3.out⟩
    rw [← hANS.out, ← hXN.out, HPS.out]
    rfl
  | some p =>
    have hp := pN_ok p hq
    have X1 := st3 (x := .slice pa l.length c) (y := .int .i64 p) (z := .bool false) A1.out
    have A2 := hid X1.1
    have F2 := hid (F1.out.trans' X1.2 (fun k hk e => by have e2 : k = w.heap.size := e; omega))
    have R2 := hid (X1.2.at (fun e => by have e2 : w.heap.size + 1 = w.heap.size := e; omega) R1.out)
    clear X1
    obtain ⟨k0, k1, k2, kf, kl⟩ := three_of A2.out
    obtain ⟨r0, r1, r2, rf, rl⟩ := three_of R2.out
    have H2 := pC_of_some hq
    rw [HX.out] at H2
    by_cases hc : x ≤ l.length - p
    · have HPS : Hid (PC = (some p, x)) := hid (hPC.out.symm.trans (H2.trans (if_pos hc)))
      clear H2
      have hc' : ¬ ((l.length : Int) - (p : Int)) < (x : Int) := by omega
      have hx2 : x ≤ 1000000 := by omega
      clear hc hx
      have X3 := st3 (x := .slice pa l.length c) (y := .int .i64 p) (z := .bool false) R2.out
      have R3 := hid X3.1
      have F3 := hid (F2.out.trans' X3.2 (fun k hk e => by have e2 : k = w.heap.size + 1 := e; omega))
      clear X3 hq
      rw [show rV (.slice pa l.length c) (some p) = .agg #[.slice pa l.length c, .int .i64 p, .bool false] from rfl]
      dsimp only
      repeat (first | go_values | go_skip | go_guarded | go_step | go_upon)
      go_simp
      repeat (first | go_values | go_skip | go_guarded | go_step | go_upon)
      go_simp
      repeat (first | go_values | go_skip | go_guarded | go_step | go_upon)
      obtain ⟨t0, t1, t2, tf, tl⟩ := three_of R3.out
      refine bodyPost_ret (v := .tuple #[.agg #[.slice pa l.length c, .int .i64 p, .bool false], .int .i64 x]) (by simp [results, Tryz.results35, go_sem, t0, t1, t2]) rfl ?_
      refine ⟨?_, F3.out⟩
      rw [← hANS.out, ← hXN.out, HPS.out]
      rfl
    · have HPS : Hid (PC = (none, 0)) := hid (hPC.out.symm.trans (H2.trans (if_neg hc)))
      clear H2
      have hc' : ((l.length : Int) - (p : Int)) < (x : Int) := by omega
      clear hc
      have X3 := st3 (x := .slice none 0 0) (y := .int .i64 0) (z := .bool true) R2.out
      have R3 := hid X3.1
      have F3 := hid (F2.out.trans' X3.2 (fun k hk e => by have e2 : k = w.heap.size + 1 := e; omega))
      clear X3 hq
      rw [show rV (.slice pa l.length c) (some p) = .agg #[.slice pa l.length c, .int .i64 p, .bool false] from rfl]
      dsimp only
      repeat (first | go_values | go_skip | go_guarded | go_step | go_upon)
      go_simp
      repeat (first | go_values | go_skip | go_guarded | go_step | go_upon)
      go_simp
      repeat (first | go_values | go_skip | go_guarded | go_step | go_upon)
      obtain ⟨t0, t1, t2, tf, tl⟩ := three_of R3.out
      refine bodyPost_ret (v := .tuple #[.agg #[.slice none 0 0, .int .i64 0, .bool true], .int .i64 0]) (by simp [results, Tryz.results35, go_sem, t0, t1, t2]) rfl ?_
      refine ⟨?_, F3.out⟩
      rw [← hANS.out, ← hXN.out, HPS.out]
      rfl
end Go.Proofs.YtndfncaoejbkiaaGreatDoor
end
section
/- The walk of the reference's integers. -/
namespace Go.Proofs.YtndfncaoejbkiaaGreatDoor
open Go.RowKit
set_option maxRecDepth 100000

/-- A block that holds the reader. -/
def RCell (w : World) (R : Nat) (v : Value) (s : Option Nat) : Prop := ∃ a m d z b, rV v s = .agg #[.slice a m d, .int .i64 z, .bool b] ∧ w.heap[R]? = some (.cells #[.slice a m d, .int .i64 z, .bool b] 72 (0, 0))
theorem RCell.good {w : World} {R : Nat} {pa : Option Addr} {n c p : Nat} (h : RCell w R (.slice pa n c) (some p)) : w.heap[R]? = some (.cells #[.slice pa n c, .int .i64 p, .bool false] 72 (0, 0)) := by
  obtain ⟨a, m, d, z, b, h1, h2⟩ := h
  simp only [rV, Value.agg.injEq, Array.mk.injEq, List.cons.injEq, Value.slice.injEq, Value.int.injEq, true_and, Value.bool.injEq, and_true] at h1
  obtain ⟨⟨rfl, rfl, rfl⟩, rfl, rfl⟩ := h1
  exact h2
theorem RCell.bad {w : World} {R : Nat} {v : Value} (h : RCell w R v none) : w.heap[R]? = some (.cells #[.slice none 0 0, .int .i64 0, .bool true] 72 (0, 0)) := by
  obtain ⟨a, m, d, z, b, h1, h2⟩ := h
  simp only [rV, Value.agg.injEq, Array.mk.injEq, List.cons.injEq, Value.slice.injEq, Value.int.injEq, true_and, Value.bool.injEq, and_true] at h1
  obtain ⟨⟨rfl, rfl, rfl⟩, rfl, rfl⟩ := h1
  exact h2
theorem RCell.fr {M : Nat → Prop} {w w' : World} {R : Nat} {v : Value} {s : Option Nat} (h : RCell w R v s) (hf : Fr M w w') (hR : ¬ M R) : RCell w' R v s := by
  obtain ⟨a, m, d, z, b, h1, h2⟩ := h
  exact ⟨a, m, d, z, b, h1, hf.at hR h2⟩
/-- k integers. -/
def pGo (l : List UInt8) : Nat → Option Nat → List Int → Option Nat × List Int
  | 0, s, xs => (s, xs)
  | _ + 1, none, xs => (none, xs)
  | k + 1, some p, xs => pGo l k (pS l (some p)).1 (xs ++ [(pS l (some p)).2])
theorem pGo_none (l : List UInt8) (k : Nat) (xs : List Int) : pGo l k none xs = (none, xs) := by cases k <;> rfl
theorem pGo_step {l : List UInt8} {n k p : Nat} {xs : List Int} (h : k < n) : pGo l (n - k) (some p) xs = pGo l (n - (k + 1)) (pS l (some p)).1 (xs ++ [(pS l (some p)).2]) := by
  rw [show n - k = (n - (k + 1)) + 1 by omega, pGo]
theorem pGo_ok {l : List UInt8} : ∀ (k : Nat) (s : Option Nat) (xs : List Int), (∀ p, s = some p → p ≤ l.length) → ∀ p, (pGo l k s xs).1 = some p → p ≤ l.length
  | 0, s, xs, h, p, hp => h p hp
  | k + 1, none, xs, h, p, hp => by cases hp
  | k + 1, some q, xs, h, p, hp => pGo_ok k _ _ (fun p hp => pN_ok p hp) p hp
def pIs (l : List UInt8) (s : Option Nat) : Option Nat × List Int := pGo l (pC l s).2 (pC l s).1 []
theorem pC_le (l : List UInt8) (s : Option Nat) : (pC l s).2 ≤ l.length := by
  unfold pC
  split
  · exact Nat.zero_le _
  · split
    · simp only; omega
    · exact Nat.zero_le _
theorem pIs_ok {l : List UInt8} {s : Option Nat} : ∀ p, (pIs l s).1 = some p → p ≤ l.length := fun p hp => pGo_ok _ _ _ (fun p hp => pC_ok p hp) p hp
/-- What the reference's integers answers. -/
def RefIsOut (w : World) (v : Value) (r : Option Nat × List Int) (e : Ending) (w' : World) : Prop :=
  ∃ a c, e = .returned (.tuple #[rV v r.1, .slice a r.2.length c]) ∧ RdI (fun k => k < w.heap.size) w' (.slice a r.2.length c) r.2 ∧ Fr NoB w w'
set_option maxHeartbeats 8000000 in
theorem integers_any (v : Value) (l : List UInt8) (s : Option Nat) (w : World) (h : RdY NoB w v l) (hs : ∀ p, s = some p → p ≤ l.length) (hl : l.length ≤ 1000000) :
    Calls Tryz.prog 38 #[rV v s] w (RefIsOut w v (pIs l s)) := by
  obtain ⟨pa, c, hv⟩ := RdY.form h
  subst hv
  obtain ⟨a1, m1, d1, z1, b1, hr1, hq1, hq2⟩ := rV_form pa l.length c s
  clear hq1 hq2
  have H := hid h
  have HS := hid hs
  have HR1 := hid hr1
  rw [hr1]
  have F0 : Hid (Fr NoB w ((w.alloc (.cells #[.slice a1 m1 d1, .int .i64 z1, .bool b1] 72)).alloc (.cells #[.slice none 0 0, .int .i64 0, .bool false] 72))) := ((Fr.refl NoB w).alloc _).alloc _
  have A0 : Hid (((w.alloc (.cells #[.slice a1 m1 d1, .int .i64 z1, .bool b1] 72)).alloc (.cells #[.slice none 0 0, .int .i64 0, .bool false] 72)).heap[w.heap.size]? = some (.cells #[.slice a1 m1 d1, .int .i64 z1, .bool b1] 72 (0, 0))) := at_old (at_new w _) _
  have R0 : Hid (((w.alloc (.cells #[.slice a1 m1 d1, .int .i64 z1, .bool b1] 72)).alloc (.cells #[.slice none 0 0, .int .i64 0, .bool false] 72)).heap[w.heap.size + 1]? = some (.cells #[.slice none 0 0, .int .i64 0, .bool false] 72 (0, 0))) := at_new' (by simp)
  clear h hs hr1
  obtain ⟨n, hn⟩ : ∃ n, (pC l s).2 = n := ⟨_, rfl⟩
  have hnl : n ≤ l.length := by rw [← hn]; exact pC_le l s
  obtain ⟨s0, hs0⟩ : ∃ s0, (pC l s).1 = s0 := ⟨_, rfl⟩
  have HS0 : Hid (∀ p, s0 = some p → p ≤ l.length) := fun p hp => pC_ok p (hs0.trans hp)
  obtain ⟨AN, hAN⟩ : ∃ A, A = pIs l s := ⟨_, rfl⟩
  have HAN : Hid (AN = pGo l n s0 []) := by show _ = _; rw [hAN, ← hn, ← hs0]; rfl
  rw [← hAN]
  have HN := hid hn
  have HS0E := hid hs0
  clear hAN hn hs0
  obtain ⟨a2, m2, d2, z2, b2, hr2, hq3, hq4⟩ := rV_form pa l.length c s0
  clear hq3 hq4
  have HR2 := hid hr2
  clear hr2
  go_enter Tryz.func38, Tryz.ntmps38
  go_wp2_with fail
  have hc := count_any _ l s _ (RdE.step H.out F0.out) HS.out hl
  rw [HR1.out, HS0E.out, HR2.out, HN.out] at hc
  refine hc.mono ?_
  clear hc
  rintro e w1 ⟨rfl, hf⟩
  have F1 := hid (F0.out.step hf)
  have A1 := hid (hf.at (fun h => h) A0.out)
  have R1 := hid (hf.at (fun h => h) R0.out)
  obtain ⟨g0, g1, g2, gf, gl⟩ := three_of A1.out
  have X1 := st3 (x := .slice a2 m2 d2) (y := .int .i64 z2) (z := .bool b2) A1.out
  have F2 := hid (F1.out.trans' X1.2 (fun k hk e => by have e2 : k = w.heap.size := e; omega))
  have R2 := hid (X1.2.at (fun e => by have e2 : w.heap.size + 1 = w.heap.size := e; omega) R1.out)
  have A2 : Hid (RCell _ w.heap.size (.slice pa l.length c) s0) := ⟨a2, m2, d2, z2, b2, HR2.out, X1.1⟩
  clear hf X1 F0 A0 R0
  go_wp2
  clear g0 g1 g2 gf gl
  go_loopw [5, 6] (fun v i wr => ∃ (k : Nat) (s' : Option Nat) (xs : List Int), k ≤ n ∧ i = .int .i64 k ∧ Hid (xs.length = k) ∧ Hid (∀ p, s' = some p → p ≤ l.length) ∧ Hid (OwnI w.heap.size wr v xs) ∧ Hid (RCell wr w.heap.size (.slice pa l.length c) s') ∧ Hid (wr.heap[w.heap.size + 1]? = some (.cells #[.slice none 0 0, .int .i64 0, .bool false] 72 (0, 0))) ∧ Hid (Fr NoB w wr) ∧ Hid (AN = pGo l (n - k) s' xs)) (fun _ i _ => n - (intOf i).toNat)
  case atStart => exact ⟨0, s0, [], Nat.zero_le _, rfl, rfl, HS0, OwnI.nil _ _, A2, R2, F2, HAN⟩
  case round =>
    obtain ⟨k, s', xs, hk, rfl, HXL, HOK, O, HA, HR, F, HAN⟩ := hrel
    obtain ⟨vp, vc, hvv⟩ := OwnI.form O.out
    subst hvv
    by_cases hlt : k < n
    · cases s' with
      | none =>
        have AE : Hid (AN = (none, xs)) := hid (HAN.out.trans (pGo_none _ _ _))
        obtain ⟨a0, a1', a2', af, al⟩ := three_of HA.out.bad
        obtain ⟨r0, r1, r2, rf, rl⟩ := three_of HR.out
        have X3 := st3 (x := .slice none 0 0) (y := .int .i64 0) (z := .bool true) HR.out
        have R3 := hid X3.1
        have F3 := hid (F.out.trans' X3.2 (fun q hq e => by have e2 : q = w.heap.size + 1 := e; omega))
        have I3 : Hid (RdI (fun q => q < w.heap.size) _ (.slice vp xs.length vc) xs) := hid ((OwnI.fr O.out X3.2 (fun q hq e => by
          have e2 : q = w.heap.size + 1 := e
          obtain ⟨cur, hcc⟩ := OwnI.head' O.out hq
          exact ne_of_types hcc HR.out (by decide) e2)).rd (fun q hq hq2 => by omega))
        clear X3 O F
        go_wp2
        obtain ⟨t0, t1, t2, tf, tl⟩ := three_of R3.out
        refine bodyPost_ret (v := .tuple #[.agg #[.slice none 0 0, .int .i64 0, .bool true], .slice vp xs.length vc]) (by simp [results, Tryz.results38, go_sem, t0, t1, t2]) rfl ?_
        exact ⟨vp, vc, by rw [AE.out]; rfl, by rw [AE.out]; exact I3.out, F3.out⟩
      | some p =>
        have HI := hid (integer_any (.slice pa l.length c) l (some p) wr (RdE.step H.out F.out) HOK.out hl)
        obtain ⟨a3, m3, d3, z3, b3, hr3, hq3, hq4⟩ := rV_form pa l.length c (pS l (some p)).1
        clear hq3 hq4
        obtain ⟨x, hx⟩ : ∃ x, (pS l (some p)).2 = x := ⟨_, rfl⟩
        have HR3 := hid hr3
        have HX := hid hx
        clear hr3 hx
        obtain ⟨a0, a1', a2', af, al⟩ := three_of HA.out.good
        go_wp2_with fail
        have hc := HI.out
        rw [HR3.out, HX.out, show rV (.slice pa l.length c) (some p) = .agg #[.slice pa l.length c, .int .i64 p, .bool false] from rfl] at hc
        refine hc.mono ?_
        clear hc
        rintro e w4 ⟨rfl, hf⟩
        have F4 := hid (F.out.step hf)
        have A4 := hid (hf.at (fun h => h) HA.out.good)
        have R4 := hid (hf.at (fun h => h) HR.out)
        have O4 := hid (O.out.fr hf (fun _ _ h => h))
        clear hf HI HA HR O F a0 a1' a2' af al
        have L4 : Hid (w.heap.size + 1 < w4.heap.size) := (Array.getElem?_eq_some_iff.1 R4.out).1
        have N5 := at_new w4 (.cells #[.slice a3 m3 d3, .int .i64 z3, .bool b3] 72)
        have F5 := hid (F4.out.alloc (.cells #[.slice a3 m3 d3, .int .i64 z3, .bool b3] 72))
        have A5 := hid (at_old A4.out (.cells #[.slice a3 m3 d3, .int .i64 z3, .bool b3] 72))
        have R5 := hid (at_old R4.out (.cells #[.slice a3 m3 d3, .int .i64 z3, .bool b3] 72))
        have O5 := hid (O4.out.fr ((Fr.refl NoB w4).alloc (.cells #[.slice a3 m3 d3, .int .i64 z3, .bool b3] 72)) (fun _ _ h => h))
        clear A4 R4 O4 F4
        obtain ⟨n0, n1, n2, nf, nl⟩ := three_of N5
        clear N5
        obtain ⟨a0, a1', a2', af, al⟩ := three_of A5.out
        obtain ⟨A6, G6⟩ := st3 (x := .slice a3 m3 d3) (y := .int .i64 z3) (z := .bool b3) A5.out
        have F6 := hid (F5.out.trans' G6 (fun q hq e => by have e2 : q = w.heap.size := e; omega))
        have C6 : Hid (RCell _ w.heap.size (.slice pa l.length c) (pS l (some p)).1) := ⟨a3, m3, d3, z3, b3, HR3.out, A6⟩
        have R6 := hid (G6.at (fun e => by have e2 : w.heap.size + 1 = w.heap.size := e; omega) R5.out)
        have O6 := hid (O5.out.fr G6 (fun q hq e => by
          have e2 : q = w.heap.size := e
          obtain ⟨cur, hcc⟩ := OwnI.head' O5.out hq
          exact ne_of_types hcc A5.out (by decide) e2))
        have HNE : Hid (∀ q, (Value.slice vp xs.length vc).ownBlock = some q → ¬ q = w.heap.size ∧ ¬ q = w.heap.size + 1) := fun q hq => by
          obtain ⟨cur, hcc⟩ := OwnI.head' O5.out hq
          exact ⟨ne_of_types hcc A5.out (by decide), ne_of_types hcc R5.out (by decide)⟩
        have HST := hid (fun (ys : List Int) => pGo_step (l := l) (n := n) (k := k) (p := p) (xs := ys) hlt)
        clear G6 A6 R5 O5 F5 A5
        go_wp2_with (at_builtin; go_loud (refine ap_ints_at _ rfl _ _ rfl w.heap.size (.slice vp xs.length vc) xs rfl (O6.out.fr ((Fr.refl NoB _).alloc (.cells #[.int .i64 x] 3)) (fun _ _ h => h)) NoB _ [x] rfl (rdI_lit' (l := [x]) rfl rfl (by simp) (fun h => h)) ?_ ?_ ?_; (have := HXL.out; simp only [List.length_singleton]; omega); (have := F6.out.size; simp only [World.size_alloc]; omega); intro v6 w6 ho6 hg6 hb6; obtain ⟨ax, HAX⟩ : ∃ ax, Hid (ax = xs ++ [x]) := ⟨_, hid rfl⟩; rw [← HAX.out] at ho6; obtain ⟨p6, q6, hv6⟩ := OwnI.form ho6; subst hv6; have f6 := Fr.grown ((Fr.refl (fun b => (Value.slice vp xs.length vc).ownBlock = some b) _).alloc _) hg6 (fun k hk _ => hk); have C7 := hid (C6.out.fr f6 (fun e => (HNE.out _ e).1 rfl)); have R7 := hid (f6.at (fun e => (HNE.out _ e).2 rfl) R6.out); have O7 := hid ho6; have F7 := hid (F6.out.trans' f6 (fun q hq e => by have := (World.ownsRow.lt O6.out q e).1; omega)); clear ho6 hg6 hb6 f6 C6 R6 O6 F6))
        go_roundw
        case rel => exact ⟨k + 1, (pS l (some p)).1, ax, by omega, by go_num, by show _ = _; rw [HAX.out, List.length_append, HXL.out]; rfl, fun q hq => pN_ok q hq, O7.out, C7.out, R7.out, F7.out, by show _ = _; rw [HAN.out, HST.out, HAX.out, HX.out]⟩
        case measure => simp [intOf]; omega
    · obtain rfl : k = n := by omega
      have AE : Hid (AN = (s', xs)) := hid (by have h9 := HAN.out; rw [Nat.sub_self] at h9; exact h9)
      obtain ⟨a, m, d, z, b, hv2, hcell⟩ := HA.out
      have HV2 := hid hv2
      have HC := hid hcell
      clear hv2 hcell HAN
      obtain ⟨a0, a1', a2', af, al⟩ := three_of HC.out
      obtain ⟨r0, r1, r2, rf, rl⟩ := three_of HR.out
      have X3 := st3 (x := .slice a m d) (y := .int .i64 z) (z := .bool b) HR.out
      have R3 := hid X3.1
      have F3 := hid (F.out.trans' X3.2 (fun q hq e => by have e2 : q = w.heap.size + 1 := e; omega))
      have I3 : Hid (RdI (fun q => q < w.heap.size) _ (.slice vp xs.length vc) xs) := hid ((OwnI.fr O.out X3.2 (fun q hq e => by
        have e2 : q = w.heap.size + 1 := e
        obtain ⟨cur, hcc⟩ := OwnI.head' O.out hq
        exact ne_of_types hcc HR.out (by decide) e2)).rd (fun q hq hq2 => by omega))
      clear X3 O F
      go_wp2
      obtain ⟨t0, t1, t2, tf, tl⟩ := three_of R3.out
      refine bodyPost_ret (v := .tuple #[.agg #[.slice a m d, .int .i64 z, .bool b], .slice vp xs.length vc]) (by simp [results, Tryz.results38, go_sem, t0, t1, t2]) rfl ?_
      exact ⟨vp, vc, by rw [AE.out]; dsimp only; rw [HV2.out], by rw [AE.out]; exact I3.out, F3.out⟩
end Go.Proofs.YtndfncaoejbkiaaGreatDoor
end
