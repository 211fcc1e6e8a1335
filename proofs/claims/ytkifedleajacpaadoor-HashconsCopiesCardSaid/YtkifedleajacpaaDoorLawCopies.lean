/- HashconsCopies: for every node the results of hashcons.Copy and of Canon without a function equal the reference's Copy, and a change of their Args leaves the argument as it was (where the node is too large for the law's guard it checks the chapter's example alone). Condition: the three listed tables of Go's library hold what the program's text lays in them (the card ties this). -/
import Derived.Test.YtkifedleajacpaaDoorCards
import Derived.Test.YtkifedleajacpaaDoorTie
import Derived.Test.YtkifedleajacpaaDoorOpen
import Derived.Test.YtkifedleajacpaaDoorTwo
import Derived.SevenTiedAt
namespace Go.Proofs.YtkifedleajacpaaDoor.LawCopies
open Go.ChangeShapes Go.WideShapes Go.ChangeAt Go.RowKit
set_option maxRecDepth 100000

/-- A node of the call's own, its box at block b. -/
structure Held (n : Node) (B b : Nat) (v : Value) (W : World) : Prop where
  own : OwnI B W v n.args
  low : ∀ k, v.ownBlock = some k → k < b
  box : W.heap[b]? = some (.cells (nodeCells n v) 26 (0, 0))
theorem Held.step {n : Node} {B b : Nat} {v : Value} {W W' : World} (h : Held n B b v W) (hf : Fr NoB W W') : Held n B b v W' :=
  ⟨h.own.fr hf (fun _ _ h => h), h.low, hf.at (fun h => h) h.box⟩
theorem Held.start {n : Node} {B : Nat} {v : Value} {W : World} (h : OwnI B W v n.args) : Held n B W.heap.size v (W.alloc (.cells (nodeCells n v) 26)) :=
  ⟨h.fr ((Fr.refl NoB W).alloc _) (fun _ _ h => h), fun k hk => (World.ownsRow.lt h k hk).2, at_new W _⟩

set_option maxHeartbeats 2000000 in
theorem walk (n : Node) (v : Value) (i : Int) (w : World) (hn : RdI (fun k => w.heap.size ≤ k) w v n.args) (ht : Tab w) (nn : n.name.size ≤ 9223372036854775807) :
    Calls Tryd.prog 5 #[nodeV n v, .int .i64 i] w fun e w' => e = .returned (.bool true) ∧ Fr NoB w w' := by
  have T0 := hid (One.start hn ht)
  have tb := hid ht.lt
  obtain ⟨a1, cap, rfl⟩ := hn.form
  clear hn ht
  unfold nodeV
  by_cases g1 : (n.args.length : Int) ≤ 200 ∧ (n.name.size / 100 : Int) ≤ 200
  · have d1 := hid (show decide ((n.args.length : Int) ≤ 200 ∧ (n.name.size / 100 : Int) ≤ 200) = true from decide_eq_true g1)
    have s1 := hid (show (nodeCmp n n == 0) = true by rw [nodeCmp_zero.2 rfl]; rfl)
    have i3 : i < 0 ∨ (n.args.length : Int) ≤ i ∨ ∃ k : Nat, i = k ∧ k < n.args.length := by
      by_cases h1 : i < 0
      · exact .inl h1
      · by_cases h2 : (n.args.length : Int) ≤ i
        · exact .inr (.inl h2)
        · exact .inr (.inr ⟨i.toNat, by omega, by omega⟩)
    have l1 := hid (show n.args.length ≤ 1000000 by omega)
    clear g1
    go_enter Tryd.func5, Tryd.ntmps5
    go_wp2_with fail
    refine (few_any n _ 200 _ _ T0.out.ra nn).mono ?_
    rintro e w1 ⟨rfl, hf1⟩
    rw [d1.out]
    have T1 := hid (T0.out.step hf1)
    clear hf1
    obtain ⟨a0, a1', a2', a3', a4, af, al⟩ := five_of T1.out.boxA
    go_wp2_with fail
    refine (refCopy_any _ n _ _ T1.out.ra (by have := l1.out; omega)).mono ?_
    rintro e w2 ⟨p1, q1, rfl, ho1, hf⟩
    have T2 := hid (T1.out.step hf)
    have O2 := hid (OwnI.base (B' := w.heap.size + 1) ho1 al)
    have X2 := hid (Held.start O2.out)
    have T3 := hid (T2.out.step ((Fr.refl NoB w2).alloc (.cells (nodeCells n (.slice p1 n.args.length q1)) 26)))
    have z2 : w.heap.size < w2.heap.size := Nat.lt_of_lt_of_le al hf.size
    clear hf a0 a1' a2' a3' a4 af al ho1
    obtain ⟨a0, a1', a2', a3', a4, af, al⟩ := five_of T2.out.boxA
    unfold nodeV
    go_wp2_with fail
    refine (hcCopy_any _ n _ _ T3.out.ra (by have := l1.out; omega)).mono ?_
    rintro e w4 ⟨p2, q2, rfl, ho2, hf⟩
    have T4 := hid (T3.out.step hf)
    have O4 := hid (OwnI.base (B' := w2.heap.size + 1) ho2 (by simp))
    have X4 := hid (X2.out.step hf)
    have Y4 := hid (Held.start O4.out)
    have T5 := hid (T4.out.step ((Fr.refl NoB w4).alloc (.cells (nodeCells n (.slice p2 n.args.length q2)) 26)))
    have X5 := hid (X4.out.step ((Fr.refl NoB w4).alloc (.cells (nodeCells n (.slice p2 n.args.length q2)) 26)))
    have z4 : w2.heap.size < w4.heap.size := by have := hf.size; simp at this; omega
    clear hf a0 a1' a2' a3' a4 af al ho2
    obtain ⟨a0, a1', a2', a3', a4, af, al⟩ := five_of T4.out.boxA
    unfold nodeV
    go_wp2_with fail
    refine (canonNil_any _ n _ _ T5.out.ra (by have := l1.out; omega)).mono ?_
    rintro e w6 ⟨p3, q3, rfl, ho3, hf⟩
    have T6 := hid (T5.out.step hf)
    have O6 := hid (OwnI.base (B' := w4.heap.size + 1) ho3 (by simp))
    have X6 := hid (X5.out.step hf)
    have Y6 := hid (Y4.out.step hf)
    have Z6 := hid (Held.start O6.out)
    have T7 := hid (T6.out.step ((Fr.refl NoB w6).alloc (.cells (nodeCells n (.slice p3 n.args.length q3)) 26)))
    have X7 := hid (X6.out.step ((Fr.refl NoB w6).alloc (.cells (nodeCells n (.slice p3 n.args.length q3)) 26)))
    have Y7 := hid (Y6.out.step ((Fr.refl NoB w6).alloc (.cells (nodeCells n (.slice p3 n.args.length q3)) 26)))
    have z6 : w4.heap.size < w6.heap.size := by have := hf.size; simp at this; omega
    clear hf a0 a1' a2' a3' a4 af al ho3
    obtain ⟨x0, x1', x2', x3', x4, xf, xl⟩ := five_of X6.out.box
    obtain ⟨y0, y1', y2', y3', y4, yf, yl⟩ := five_of Y6.out.box
    have Z7 := Z6
    unfold nodeV
    go_wp2_with fail
    refine (refSame_any NoB n n _ _ _ (Y7.out.own.rd (fun _ _ h => h)) (X7.out.own.rd (fun _ _ h => h)) l1.out l1.out).mono ?_
    rintro e w8 ⟨rfl, hf⟩
    rw [s1.out]
    have T8 := hid (T7.out.step hf)
    have X8 := hid (X7.out.step hf)
    have Y8 := hid (Y7.out.step hf)
    have Z8 := hid (Z7.out.step hf)
    clear hf x0 x1' x2' x3' x4 xf xl y0 y1' y2' y3' y4 yf yl
    obtain ⟨x0, x1', x2', x3', x4, xf, xl⟩ := five_of X8.out.box
    obtain ⟨y0, y1', y2', y3', y4, yf, yl⟩ := five_of Y8.out.box
    obtain ⟨c0, c1', c2', c3', c4, cf, cl⟩ := five_of Z8.out.box
    go_wp2_with fail
    refine (refSame_any NoB n n _ _ _ (Z8.out.own.rd (fun _ _ h => h)) (X8.out.own.rd (fun _ _ h => h)) l1.out l1.out).mono ?_
    rintro e w9 ⟨rfl, hf⟩
    rw [s1.out]
    have T9 := hid (T8.out.step hf)
    have X9 := hid (X8.out.step hf)
    have Y9 := hid (Y8.out.step hf)
    have Z9 := hid (Z8.out.step hf)
    clear c0 c1' c2' c3' c4 cf cl
    clear hf x0 x1' x2' x3' x4 xf xl y0 y1' y2' y3' y4 yf yl
    obtain ⟨x0, x1', x2', x3', x4, xf, xl⟩ := five_of X9.out.box
    obtain ⟨y0, y1', y2', y3', y4, yf, yl⟩ := five_of Y9.out.box
    obtain ⟨c0, c1', c2', c3', c4, cf, cl⟩ := five_of Z9.out.box
    rcases i3 with i1 | i1 | ⟨k, i1, i2⟩
    · obtain ⟨a0, a1', a2', a3', a4, af, al⟩ := five_of T9.out.boxA
      go_wp2_with fail
      refine (refSame_any NoB n n _ _ _ (T9.out.ra.weaken (fun _ _ h => h.elim)) (X9.out.own.rd (fun _ _ h => h)) l1.out l1.out).mono ?_
      rintro e w10 ⟨rfl, hf⟩
      rw [s1.out]
      have T10 := hid (T9.out.step hf)
      clear hf
      go_wp2_with fail
      refine (live_any _ T10.out.tab).mono ?_
      rintro e w11 ⟨rfl, hf⟩
      go_wp2
      go_ret
      exact ⟨rfl, T10.out.fr.step hf⟩
    · obtain ⟨a0, a1', a2', a3', a4, af, al⟩ := five_of T9.out.boxA
      go_wp2_with fail
      refine (refSame_any NoB n n _ _ _ (T9.out.ra.weaken (fun _ _ h => h.elim)) (X9.out.own.rd (fun _ _ h => h)) l1.out l1.out).mono ?_
      rintro e w10 ⟨rfl, hf⟩
      rw [s1.out]
      have T10 := hid (T9.out.step hf)
      clear hf
      go_wp2_with fail
      refine (live_any _ T10.out.tab).mono ?_
      rintro e w11 ⟨rfl, hf⟩
      go_wp2
      go_ret
      exact ⟨rfl, T10.out.fr.step hf⟩
    · obtain ⟨a0, a1', a2', a3', a4, af, al⟩ := five_of T9.out.boxA
      subst i1
      rcases OwnI.form' Y9.out.own with ⟨_, h2⟩ | ⟨g2, cap2, h1, hg1, hg2, hcap⟩
      · rw [h2] at i2; simp at i2
      simp only [Value.slice.injEq] at h1
      obtain ⟨rfl, h1, rfl⟩ := h1
      clear h1
      rcases OwnI.form' Z9.out.own with ⟨_, h2⟩ | ⟨g3, cap3, h1, hg3, hg4, hcap'⟩
      · rw [h2] at i2; simp at i2
      simp only [Value.slice.injEq] at h1
      obtain ⟨rfl, h1, rfl⟩ := h1
      clear h1
      have hy := OwnI.cell Y9.out.own (i := k) i2
      have hz := OwnI.cell Z9.out.own (i := k) i2
      have hy2 := OwnI.frozen Y9.out.own k
      have hz2 := OwnI.frozen Z9.out.own k
      have hl2 := Y9.out.low g2 rfl
      have hl3 := Z9.out.low g3 rfl
      have n1 : g2 ≠ w.heap.size := by omega
      have n2 : g2 ≠ w2.heap.size := by omega
      have n3 : g2 ≠ w4.heap.size := by omega
      have n4 : g2 ≠ w6.heap.size := by omega
      have n5 : g3 ≠ w.heap.size := by omega
      have n6 : g3 ≠ w2.heap.size := by omega
      have n7 : g3 ≠ w4.heap.size := by omega
      have n8 : g3 ≠ w6.heap.size := by omega
      have n9 : g2 ≠ g3 := by omega
      generalize hx : n.args.getD k 0 = x at hy hz
      clear hx
      have hs : Fr (fun b => w2.heap.size + 1 ≤ b) w9 ((w9.setCell ⟨g2, k, none⟩ (.int .i64 (wrap64 (x + 1)))).setCell ⟨g3, k, none⟩ (.int .i64 (wrap64 (x - 1)))) :=
        Fr.setCell (Fr.setCell (Fr.refl _ w9) (p := ⟨g2, k, none⟩) (fun _ => hg1) _) (p := ⟨g3, k, none⟩) (fun _ => by show w2.heap.size + 1 ≤ g3; omega) _
      have T9' := hid (T9.out.move hs (fun b hb => by omega) tb.out)
      have X9' := hid (X9.out.own.fr hs (fun b hb => by have := X9.out.low b hb; omega))
      clear hs
      go_wp2_with fail
      refine (refSame_any NoB n n _ _ _ (T9'.out.ra.weaken (fun _ _ h => h.elim)) (X9'.out.rd (fun _ _ h => h)) l1.out l1.out).mono ?_
      rintro e w10 ⟨rfl, hf⟩
      rw [s1.out]
      have T10 := hid (T9'.out.step hf)
      clear hf
      go_wp2_with fail
      refine (live_any _ T10.out.tab).mono ?_
      rintro e w11 ⟨rfl, hf⟩
      go_wp2
      go_ret
      exact ⟨rfl, T10.out.fr.step hf⟩
  · have d1 := hid (show decide ((n.args.length : Int) ≤ 200 ∧ (n.name.size / 100 : Int) ≤ 200) = false from decide_eq_false g1)
    clear g1
    go_enter Tryd.func5, Tryd.ntmps5
    go_wp2_with fail
    refine (few_any n _ 200 _ _ T0.out.ra nn).mono ?_
    rintro e w1 ⟨rfl, hf1⟩
    rw [d1.out]
    have T1 := hid (T0.out.step hf1)
    clear hf1 T0
    go_wp2_with fail
    refine (live_any _ T1.out.tab).mono ?_
    rintro e w3 ⟨rfl, hf3⟩
    go_wp2
    go_ret
    exact ⟨rfl, T1.out.fr.step hf3⟩

-- ROW
/-- What the walk gives, for every argument and every world that holds the tables. -/
theorem contract (H : Type) (enc : TypeId × Value → H) (W : World) (base : Nat) (args : Array Value) (ds gs : List (DataW H)) (before : List MemPlace)
    (hval : ∀ (j : Nat) t v, Tryd.f5.params[j]? = some t → args[j]? = some v → Value.okWide Tryd.prog W .any base t v)
    (hW : DataW.Whole enc Tryd.prog Tryd.f5.params.toList Rows.hashconsCopiesSpec.vars false W args.toList ds gs before) (hL : laidMetH Tryd.prog Rows.hashconsCopiesRow.laid W) :
    Calls Tryd.prog 5 args W fun e W' => ∃ v, e = .returned v ∧ Rows.hashconsCopiesSpec.post enc Tryd.prog Tryd.f5 false true false false W args v W' := by
  have hW' := hW
  obtain ⟨p, q, hA0, hV, rfl, hfz, hnd⟩ := hW
  have hA : DataW.TrodAll enc Tryd.prog W 0 (fun _ => true) true Tryd.f5.params.toList args.toList ds p := hA0
  rw [Tryd.params5] at hA hval
  obtain ⟨v0, vs0, d0, ds0, p0, q0, hargs, rfl, rfl, h0, r0⟩ := trodAll_cons hA
  obtain ⟨v1, vs1, d1, ds1, p1, q1, rfl, rfl, rfl, h1, r1⟩ := trodAll_cons r0
  obtain ⟨rfl, rfl, rfl⟩ := trodAll_nil r1
  obtain rfl : args = #[v0, v1] := by cases args; simp_all
  obtain ⟨rfl, rfl⟩ := trodVars_none hV
  have lt0 : ∀ x ∈ p0, x.block < W.heap.size := by obtain ⟨m, hm⟩ := h0; exact DataW.trod_lt m _ _ _ hm
  have lt1 : ∀ x ∈ p1, x.block < W.heap.size := by obtain ⟨m, hm⟩ := h1; exact DataW.trod_lt m _ _ _ hm
  have k0 := h0
  have hv0 := hval 0 26 v0 rfl rfl
  have k1 := h1
  have hv1 := hval 1 3 v1 rfl rfl
  obtain ⟨n0, s0, rfl, r0n, ok0, _, nm0⟩ := open_node hv0 h0 (fun k => W.heap.size ≤ k) (fun k hk => by omega)
  obtain ⟨z1, rfl, _, _, wz1⟩ := open_int Tryd.underlying3 hv1 h1
  clear hA0
  have htab := tab_of_laid hL
  refine (walk n0 s0 z1 W r0n htab nm0).mono fun e W' ⟨he, hf⟩ => ?_
  subst he
  have bel := hf.below
  exact ⟨_, rfl, _, _, _, [], _, [], hW', trodAll_mk1 (shut_bool Tryd.underlying4 _), (trodAll_cons_mk (Below.trod laidOut (by kernel_rfl) (of_decide_eq_true (by kernel_rfl)) k0 bel lt0) (trodAll_cons_mk (Below.trod laidOut (by kernel_rfl) (of_decide_eq_true (by kernel_rfl)) k1 bel lt1) trodAll_mk0)), rfl, bel.frame _, fun h => by cases h⟩

theorem laid_met (os : Os) : laidMet Tryd.prog Rows.hashconsCopiesRow.laid ((laidWorld os).forCall (fun _ _ => 0) ⟨#[], #[.agg #[.int .i64 0, .int .i64 0, .int .u64 0, .string ⟨#[]⟩, .slice none 0 0], .int .i64 0], []⟩).memory :=
  laidMet_of_run' 8 (by kernel_rfl) (by kernel_rfl)
theorem reads (os : Os) {H : Type} (enc : TypeId × Value → H) : ∃ places, DataW.whole enc Tryd.prog ((laidWorld os).forCall (fun _ _ => 0) ⟨#[], #[.agg #[.int .i64 0, .int .i64 0, .int .u64 0, .string ⟨#[]⟩, .slice none 0 0], .int .i64 0], []⟩).memory Tryd.f5.params.toList Rows.hashconsCopiesSpec.vars false #[.agg #[.int .i64 0, .int .i64 0, .int .u64 0, .string ⟨#[]⟩, .slice none 0 0], .int .i64 0].toList 8 = some ([.agg [.lit (.int .i64 0), .lit (.int .i64 0), .lit (.int .u64 0), .lit (.string []), .nil], .lit (.int .i64 0)], [], places) :=
  ⟨[], by kernel_rfl⟩

set_option maxRecDepth 100000 in
theorem lifted (os : Os) (started : os.Started) (H : Type) (enc : TypeId × Value → H) (F : Stop.Interp) :
    ReturnsInHanded {} Tryd.checked os 5 .any ((OpenSpec.ofChange Rows.hashconsCopiesSpec).preRow enc Tryd.prog Tryd.f5 Rows.hashconsCopiesRow.domain false Rows.hashconsCopiesRow.laid) (((OpenSpec.ofChange Rows.hashconsCopiesSpec).at F).post enc Tryd.prog Tryd.f5 false true false false) := by
  obtain ⟨places, hx⟩ := reads os enc
  refine returnsInHanded_of_row (C := Tryd.checked) (s := OpenSpec.ofChange Rows.hashconsCopiesSpec) own started (by kernel_rfl) Tryd.func5
    (witness_row_at (enc := enc) (C := Tryd.checked) false (laidWorld os) #[.agg #[.int .i64 0, .int .i64 0, .int .u64 0, .string ⟨#[]⟩, .slice none 0 0], .int .i64 0] rfl (by kernel_rfl) (by kernel_rfl) (by kernel_rfl)
      (OpenSpec.preRow_of_cond 8 hx (by kernel_rfl) (fun k hk => by cases hk) (by kernel_rfl) (laid_met os))) ?_
  intro W base args ds gs before hval hW _ hcond _ hL _ _
  exact contract H enc W base args ds gs before hval hW hL

theorem said : Rows.HashconsCopiesSaid :=
  OpenClaim.holds_of_cond 5 Tryd.f5 rfl rfl rfl rfl rfl rfl rfl ⟨rfl, rfl, rfl, rfl, rfl⟩ rfl rfl rfl rfl rfl (by kernel_rfl) Tryd.func5 (by kernel_rfl)
    (of_decide_eq_true (by kernel_rfl)) (by unfold Func.isWrapper; first | (rw [if_pos (by decide +kernel)]; kernel_rfl) | (rw [if_neg (by decide +kernel)]; exact ⟨rfl, rfl⟩))
    (fun os started H enc _ F => by rw [OpenClaim.pre_eq_preRow]; exact lifted os started H enc F)

theorem plain (f : FuncId) (fn : Func) (hf : Tryd.pinned.checked.prog.funcNamed "saturate/saturatelaw16.HashconsCopies" = some f) (hfn : Tryd.pinned.checked.prog.funcs[f]? = some fn) :
    false = Tryd.pinned.checked.prog.looks [] ∧ ∀ (j : Nat) t, fn.params[j]? = some t → Tryd.pinned.checked.prog.wantsStandIn t = false := by
  obtain rfl : f = 5 := Option.some.inj ((show Tryd.prog.funcNamed "saturate/saturatelaw16.HashconsCopies" = some 5 by kernel_rfl).symm.trans hf) |>.symm
  obtain rfl : fn = Tryd.f5 := (Option.some.inj (Tryd.func5.symm.trans hfn)).symm
  refine ⟨by kernel_rfl, fun j t ht => ?_⟩
  rw [Tryd.params5] at ht
  have hm : t ∈ [26, 3] := by have := Array.mem_of_getElem? ht; simpa using this
  have q0 : Tryd.prog.wantsStandIn 26 = false := by kernel_rfl
  have q1 : Tryd.prog.wantsStandIn 3 = false := by kernel_rfl
  simp only [List.mem_cons, List.not_mem_nil, or_false] at hm
  rcases hm with rfl | rfl
  · exact q0
  · exact q1

theorem card : Rows.HashconsCopiesCardSaid :=
  Claim7.holds_tied_plain_at .later [] _ _ _ _ said (fun _ h => by cases h) (by kernel_rfl) (fun _ h => by cases h) hashconsCopies_row_tie rfl ⟨rfl, rfl⟩ (by kernel_rfl) rfl plain (by kernel_rfl)
#print axioms card

end Go.Proofs.YtkifedleajacpaaDoor.LawCopies
