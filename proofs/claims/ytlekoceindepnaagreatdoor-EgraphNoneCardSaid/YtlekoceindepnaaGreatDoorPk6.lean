import Derived.Test.YtlekoceindepnaaGreatDoorPk0
import Derived.Test.YtlekoceindepnaaGreatDoorPk5
set_option linter.all false
section
/- Drawn regions that write, as Eff, where two operations that turn the world may come up in either order: the schedule is a tree. -/
namespace Go.Proofs.YtlekoceindepnaaGreatDoor
open Go.RowKit
set_option maxRecDepth 100000

/-- A schedule: done; an operation of a kind, and what follows; a choice between operations that turn the world (alt .. (alt .. fin)). -/
inductive Sch where
  | nil : Sch
  | fin : Sch
  | st (i k : Nat) (s : Sch) : Sch
  | br (t : Sch) : Sch
  | alt (i : Nat) (s r : Sch) : Sch
def Sch.top : Sch → Bool
  | .fin => false
  | .alt _ _ _ => false
  | _ => true
def Sch.alts : Sch → List Nat
  | .alt i _ r => i :: r.alts
  | _ => []
section
variable {P : Program} {ops : Array Oper} {S : World → Prop} {Q : Exit → Act → World → Prop} {md : Region.Mode} {brk : Nat}
def effTr (P : Program) (ops : Array Oper) (S : World → Prop) (brk : Nat) (R : Act → World → Prop) : Sch → Act → World → Prop
  | .nil, a, W => R a W
  | .fin, _, _ => True
  | .st i 0 s, a, W => ∃ o v, ops[i]? = some o ∧ YieldsIf P ops S o v a ∧ effTr P ops S brk R s (a.put o.dst v) W
  | .st i 1 s, a, W => ∃ o v, ops[i]? = some o ∧ YieldsIf P ops AnyW o v a ∧ effTr P ops S brk R s (a.put o.dst v) W
  | .st i (_ + 2) s, a, W => ∃ o, ops[i]? = some o ∧ wpList P ops (fun x a' W' => x = .normal ∧ (i ≠ brk → S W') ∧ effTr P ops S brk R s a' W') [o] a W
  | .br t, a, W => effTr P ops S brk R t a W
  | .alt i s r, a, W => (∃ o, ops[i]? = some o ∧ wpList P ops (fun x a' W' => x = .normal ∧ (i ≠ brk → S W') ∧ effTr P ops S brk R s a' W') [o] a W) ∧ effTr P ops S brk R r a W
def effTrB (md : Region.Mode) (ops : Array Oper) (brk : Nat) : Sch → Nat → Array Bool → Bool
  | .nil, n, listed => n == 0 && Region.ready md ops listed == []
  | .fin, _, _ => true
  | .st i 0 s, n + 1, listed => s.top && Region.free md ops listed i && (Region.ready md ops listed).contains i && (i != brk) && !listed.getD brk false && anch md ops brk i && effTrB md ops brk s n (listed.setIfInBounds i true)
  | .st i 1 s, n + 1, listed => s.top && Region.free md ops listed i && (Region.ready md ops listed).contains i && (i != brk) && effTrB md ops brk s n (listed.setIfInBounds i true)
  | .st i (_ + 2) s, n + 1, listed => s.top && (Region.ready md ops listed == [i]) && (decide (i < listed.size)) && (!listed.getD brk false) && effTrB md ops brk s n (listed.setIfInBounds i true)
  | .br t, n + 1, listed => (Region.ready md ops listed != []) && (Region.ready md ops listed).all (t.alts.contains ·) && effTrB md ops brk t (n + 1) listed
  | .alt i s r, n + 1, listed => s.top && (decide (i < listed.size)) && (!listed.getD brk false) && effTrB md ops brk s n (listed.setIfInBounds i true) && effTrB md ops brk r (n + 1) listed
  | _, 0, _ => false

theorem anch_any {i : Nat} (h : anch md ops brk i = true) (listed : Array Bool) (hl : listed.getD i true = false) : brk ∉ Region.ready md ops listed := by
  cases hb : ops[brk]? with
  | none =>
    intro hr
    obtain ⟨_, o, ho, _⟩ := mem_ready.1 hr
    rw [hb] at ho; cases ho
  | some ob => exact anch_spec hb h listed hl
theorem effTr_any {R : Act → World → Prop} (hs : Region.noSelect ops = true) (hR : ∀ a w, R a w → Q .normal a w) (hQ : ∀ c a w, ¬ Q (.panic c) a w) :
    ∀ (s : Sch), (s.top = true → ∀ (n : Nat) (listed : Array Bool) (a : Act) (w : World), effTrB md ops brk s n listed = true → TT S brk listed w → effTr P ops S brk R s a w → wpAnyT P md ops Q S brk n listed a w) ∧
      (∀ (n : Nat) (listed : Array Bool) (a : Act) (w : World), effTrB md ops brk s (n + 1) listed = true → effTr P ops S brk R s a w → ∀ j ∈ s.alts, Go.wpOp P ops Q j (fun a' w' => TT S brk (listed.setIfInBounds j true) w' ∧ wpAnyT P md ops Q S brk n (listed.setIfInBounds j true) a' w') a w)
  | .nil => ⟨fun _ n listed a w hB _ h => by
      simp only [effTrB, Bool.and_eq_true, beq_iff_eq] at hB
      obtain ⟨rfl, h2⟩ := hB
      exact ⟨h2, hR _ _ h⟩, fun _ _ _ _ _ _ j hj => (by cases hj)⟩
  | .fin => ⟨fun h => (by cases h), fun _ _ _ _ _ _ j hj => (by cases hj)⟩
  | .st i 0 s => ⟨fun _ n listed a w hB hT h => by
      have IH := (effTr_any hs hR hQ s).1
      cases n with
      | zero => simp [effTrB] at hB
      | succ n =>
      simp only [effTrB, Bool.and_eq_true, bne_iff_ne, ne_eq, Bool.not_eq_true'] at hB
      obtain ⟨⟨⟨⟨⟨⟨h0, h1⟩, h2⟩, h3⟩, h4⟩, h5⟩, h6⟩ := hB
      obtain ⟨o, v, hi, hy, hk⟩ := h
      have hn := anch_any h5
      exact wpAnyT_first (S' := S) hi (Region.noSelect_spec hs) (fun c a w h => absurd h (hQ c _ _)) h3 (.inr ⟨hn, fun w h => h⟩) n listed a w (Region.free_spec hi h1) (by simpa using h2) hy hT (.inr h4)
        (IH h0 n _ _ _ h6 (by unfold TT; rw [getD_set_ne' h3]; exact hT) hk), fun _ _ _ _ _ _ j hj => (by cases hj)⟩
  | .st i 1 s => ⟨fun _ n listed a w hB hT h => by
      have IH := (effTr_any hs hR hQ s).1
      cases n with
      | zero => simp [effTrB] at hB
      | succ n =>
      simp only [effTrB, Bool.and_eq_true, bne_iff_ne, ne_eq] at hB
      obtain ⟨⟨⟨⟨h0, h1⟩, h2⟩, h3⟩, h6⟩ := hB
      obtain ⟨o, v, hi, hy, hk⟩ := h
      exact wpAnyT_first (S' := AnyW) hi (Region.noSelect_spec hs) (fun c a w h => absurd h (hQ c _ _)) h3 (.inl (fun _ => trivial)) n listed a w (Region.free_spec hi h1) (by simpa using h2) hy hT (.inl (fun _ => trivial))
        (IH h0 n _ _ _ h6 (by unfold TT; rw [getD_set_ne' h3]; exact hT) hk), fun _ _ _ _ _ _ j hj => (by cases hj)⟩
  | .st i (k + 2) s => ⟨fun _ n listed a w hB hT h => by
      have IH := (effTr_any hs hR hQ s).1
      cases n with
      | zero => simp [effTrB] at hB
      | succ n =>
      simp only [effTrB, Bool.and_eq_true, beq_iff_eq, decide_eq_true_eq, Bool.not_eq_true'] at hB
      obtain ⟨⟨⟨⟨h0, h1⟩, h2⟩, h4⟩, h6⟩ := hB
      obtain ⟨o, hi, hk⟩ := h
      refine ⟨fun h0 => (by rw [h1] at h0; cases h0), fun j hj => ?_⟩
      rw [h1] at hj
      obtain rfl : j = i := by simpa using hj
      refine wpOp_mono (fun a' w' hh => ?_) (effL_one hi hk)
      have hT' : TT S brk (listed.setIfInBounds j true) w' := by
        by_cases e : j = brk
        · subst e; exact .inl (by simp [h2])
        · exact .inr (hh.1 e)
      exact ⟨hT', IH h0 n _ _ _ h6 hT' hh.2⟩, fun _ _ _ _ _ _ j hj => (by cases hj)⟩
  | .br t => ⟨fun _ n listed a w hB hT h => by
      have IH := (effTr_any hs hR hQ t).2
      cases n with
      | zero => simp [effTrB] at hB
      | succ n =>
      simp only [effTrB, Bool.and_eq_true, bne_iff_ne, ne_eq, List.all_eq_true] at hB
      obtain ⟨⟨h0, h1⟩, h2⟩ := hB
      exact ⟨fun e => absurd e h0, fun j hj => IH n listed a w h2 h j (by simpa using h1 j hj)⟩, fun _ _ _ _ _ _ j hj => (by cases hj)⟩
  | .alt i s r => ⟨fun h => (by cases h), fun n listed a w hB h j hj => by
      have IH := (effTr_any hs hR hQ s).1
      have IH2 := (effTr_any hs hR hQ r).2
      simp only [effTrB, Bool.and_eq_true, decide_eq_true_eq, Bool.not_eq_true'] at hB
      obtain ⟨⟨⟨⟨h0, h1⟩, h2⟩, h3⟩, h4⟩ := hB
      obtain ⟨⟨o, hi, hk⟩, hr⟩ := h
      rcases List.mem_cons.1 hj with rfl | hj
      · refine wpOp_mono (fun a' w' hh => ?_) (effL_one hi hk)
        have hT' : TT S brk (listed.setIfInBounds j true) w' := by
          by_cases e : j = brk
          · subst e; exact .inl (by simp [h1])
          · exact .inr (hh.1 e)
        exact ⟨hT', IH h0 n _ _ _ h3 hT' hh.2⟩
      · exact IH2 n listed a w h4 hr j hj⟩

/-- The region, by the tree s. -/
theorem region_effTr (S : World → Prop) (brk : Nat) (s : Sch) {id : Nat} {a : Act} {w : World} {l : List Oper} (hm : P.follows .mixedOrders = true)
    (hB : (Region.noSelect l.toArray && s.top && effTrB .any l.toArray brk s l.length (Array.replicate l.length false)) = true) (hS : S w.drew) (h : effTr P l.toArray S brk (fun a' W' => Q .normal a' W') s a w.drew) : (Code.region id l.toArray true).wp P Q a w := by
  simp only [Bool.and_eq_true] at hB
  obtain ⟨⟨h1, h2⟩, h3⟩ := hB
  refine wp_mono (Q := fun x a w => x = .normal ∧ Q .normal a w) (wp_region_any hm (wpAny_of_T (S := S) (brk := brk) _ _ _ _ ?_)) (fun e a w hh => by obtain ⟨rfl, hh⟩ := hh; exact hh)
  have := (effTr_any (md := .any) (P := P) (S := S) (Q := fun x a w => x = .normal ∧ Q .normal a w) h1 (fun a w hh => ⟨rfl, hh⟩) (fun c a w hh => by simp at hh) s).1 h2 _ _ a w.drew h3 (.inr hS) h
  simpa using this
variable {R : Act → World → Prop} {a : Act} {W W' : World} {i : Nat} {s r : Sch} {o : Oper} {l : List Oper}
theorem efft_nil (h : R a W) : effTr P l.toArray S brk R .nil a W := h
theorem efft_off (hi : l[i]? = some o) (hw : Region.wanted o (yielded l.toArray a.tmps) = false) (h : effTr P l.toArray S brk R s (a.put o.dst undef) W) : effTr P l.toArray S brk R (.st i 1 s) a W :=
  ⟨o, undef, at_l hi, .inr ⟨hw, rfl⟩, h⟩
theorem efft_rd (v : Value) (hi : l[i]? = some o) (hw : Region.wanted o (yielded l.toArray a.tmps) = true) (hy : ∀ w', S w' → (execOp a.eval o).run P w' = .ok (.value v) w') (h : effTr P l.toArray S brk R s (a.put o.dst v) W) :
    effTr P l.toArray S brk R (.st i 0 s) a W := ⟨o, v, at_l hi, .inl ⟨hw, hy⟩, h⟩
theorem efft_pu (v : Value) (hi : l[i]? = some o) (hw : Region.wanted o (yielded l.toArray a.tmps) = true) (hy : ∀ w', (execOp a.eval o).run P w' = .ok (.value v) w') (h : effTr P l.toArray S brk R s (a.put o.dst v) W) :
    effTr P l.toArray S brk R (.st i 1 s) a W := ⟨o, v, at_l hi, .inl ⟨hw, fun w _ => hy w⟩, h⟩
theorem efft_br {t : Sch} (h : effTr P l.toArray S brk R t a W) : effTr P l.toArray S brk R (.br t) a W := h
/-- One operation that turns the world: alone, or as an arm. -/
def effTr1 (P : Program) (ops : Array Oper) (S : World → Prop) (brk : Nat) (R : Act → World → Prop) (i : Nat) (s : Sch) (a : Act) (W : World) : Prop :=
  ∃ o, ops[i]? = some o ∧ wpList P ops (fun x a' W' => x = .normal ∧ (i ≠ brk → S W') ∧ effTr P ops S brk R s a' W') [o] a W
theorem efft_st (h : effTr1 P l.toArray S brk R i s a W) : effTr P l.toArray S brk R (.st i 2 s) a W := h
theorem efft_alt (h : effTr1 P l.toArray S brk R i s a W) (h' : effTr P l.toArray S brk R r a W) : effTr P l.toArray S brk R (.alt i s r) a W := ⟨h, h'⟩
theorem efft_fin : effTr P l.toArray S brk R .fin a W := trivial
theorem efft_do (hi : l[i]? = some o) (h : wpList P l.toArray (fun x a' W' => x = .normal ∧ (i ≠ brk → S W') ∧ effTr P l.toArray S brk R s a' W') [o] a W) : effTr1 P l.toArray S brk R i s a W := ⟨o, at_l hi, h⟩
/-- A call, that goes through as its contract says. -/
theorem efft_call (f : FuncId) (args : Array Value) (hi : l[i]? = some o) (hw : Region.wanted o (yielded l.toArray a.tmps) = true) (hy : ∀ w', (execOp a.eval o).run P w' = .ok (.enter f args) w')
    (hc : Calls P f args W (fun e W' => ∃ v, e = .returned v ∧ (i ≠ brk → S W') ∧ effTr P l.toArray S brk R s (a.put o.dst v) W')) : effTr1 P l.toArray S brk R i s a W := by
  refine ⟨o, at_l hi, ?_⟩
  unfold wpList
  rw [if_pos hw]
  refine .inl ?_
  unfold Oper.wp
  rw [hy W]
  simp only [Oper.upon, wpList]
  refine Calls.mono hc fun e w' he => ?_
  obtain ⟨v, rfl, h1, h2⟩ := he
  exact ⟨trivial, h1, h2⟩
/-- An operation with a value, that turns the world. -/
theorem efft_run {v : Value} (hi : l[i]? = some o) (hw : Region.wanted o (yielded l.toArray a.tmps) = true) (hy : (execOp a.eval o).run P W = .ok (.value v) W') (hS : i ≠ brk → S W') (h : effTr P l.toArray S brk R s (a.put o.dst v) W') : effTr1 P l.toArray S brk R i s a W := by
  refine ⟨o, at_l hi, ?_⟩
  unfold wpList
  rw [if_pos hw]
  refine .inl ?_
  unfold Oper.wp
  rw [hy]
  simp only [Oper.upon, wpList]
  exact ⟨trivial, hS, h⟩
theorem efft_skip (hi : l[i]? = some o) (hw : Region.wanted o (yielded l.toArray a.tmps) = true) (hy : (execOp a.eval o).run P W = .ok .skip W') (hS : i ≠ brk → S W') (h : effTr P l.toArray S brk R s (a.put o.dst undef) W') : effTr1 P l.toArray S brk R i s a W := by
  refine ⟨o, at_l hi, ?_⟩
  unfold wpList
  rw [if_pos hw]
  refine .inl ?_
  unfold Oper.wp
  rw [hy]
  simp only [Oper.upon, wpList]
  exact ⟨trivial, hS, h⟩
end
end Go.Proofs.YtlekoceindepnaaGreatDoor
end
section
/- The walk of egraph's Mark. -/
namespace Go.Proofs.YtlekoceindepnaaGreatDoor
open Go.RowKit
set_option maxRecDepth 100000

def schMark4 : Sch := .st 26 2 (.st 31 2 (.st 36 1 (.st 37 2 (.st 38 2 (.st 39 1 (.st 40 1 (.st 41 2 (.nil))))))))
def schMark5 : Sch := .st 25 2 (.st 31 2 (.st 36 1 (.st 37 2 (.st 38 2 (.st 39 1 (.st 40 1 (.st 41 2 (.nil))))))))
def schMark3 : Sch := .br (.alt 25 (schMark4) (.alt 26 (schMark5) (.fin)))
def schMark6 : Sch := .st 20 2 (.st 25 2 (.st 31 2 (.st 36 1 (.st 37 2 (.st 38 2 (.st 39 1 (.st 40 1 (.st 41 2 (.nil)))))))))
def schMark2 : Sch := .br (.alt 20 (schMark3) (.alt 26 (schMark6) (.fin)))
def schMark8 : Sch := .st 19 2 (.st 25 2 (.st 31 2 (.st 36 1 (.st 37 2 (.st 38 2 (.st 39 1 (.st 40 1 (.st 41 2 (.nil)))))))))
def schMark7 : Sch := .br (.alt 19 (schMark3) (.alt 26 (schMark8) (.fin)))
def schMark9 : Sch := .br (.alt 19 (schMark6) (.alt 20 (schMark8) (.fin)))
def schMark1 : Sch := .br (.alt 19 (schMark2) (.alt 20 (schMark7) (.alt 26 (schMark9) (.fin))))
def schMark11 : Sch := .st 14 2 (.st 19 2 (.st 25 2 (.st 31 2 (.st 36 1 (.st 37 2 (.st 38 2 (.st 39 1 (.st 40 1 (.st 41 2 (.nil))))))))))
def schMark10 : Sch := .br (.alt 14 (schMark7) (.alt 26 (schMark11) (.fin)))
def schMark12 : Sch := .br (.alt 14 (schMark9) (.alt 20 (schMark11) (.fin)))
def schMark0 : Sch := .st 0 1 (.st 1 1 (.st 2 1 (.st 3 1 (.st 4 0 (.st 5 1 (.st 6 1 (.st 7 1 (.st 8 0 (.st 9 1 (.st 10 1 (.st 11 1 (.st 12 1 (.st 13 0 (.st 15 1 (.st 16 1 (.st 17 1 (.st 18 0 (.st 21 1 (.st 22 1 (.st 23 1 (.st 24 0 (.st 27 1 (.st 28 1 (.st 29 1 (.st 30 0 (.st 32 1 (.st 33 1 (.st 34 1 (.st 35 0 (.br (.alt 14 (schMark1) (.alt 20 (schMark10) (.alt 26 (schMark12) (.fin))))))))))))))))))))))))))))))))))
theorem own_noneI (w : World) (B : Nat) (hB : B ≤ w.heap.size) : OwnI B (w.alloc (.cells #[] 3)) (.slice (some ⟨w.heap.size, 0, none⟩) 0 0) [] := OwnI.lit B w [] hB (by simp)
theorem row_carry {B B' k k' n n' : Nat} {e e' : TypeId} {xs xs' : List Value} {W w' : World} {v v' : Value} (h : W.ownsRow B e k v n xs) (h' : W.ownsRow B' e' k' v' n' xs') (hne : e' ≠ e) (hg : W.grownBy w' v.ownBlock) : w'.ownsRow B' e' k' v' n' xs' := by
  refine ⟨h'.1, ?_⟩
  rcases h'.2 with h2 | ⟨g, cap, cur, h3, hb, hh, r⟩
  · exact .inl h2
  · refine .inr ⟨g, cap, cur, h3, hb, ?_, r⟩
    rw [hg.block g (Array.getElem?_eq_some_iff.1 hh).1 (fun e9 => ?_)]
    · exact hh
    rcases h.2 with ⟨h4, _⟩ | ⟨g', cap', cur', h4, _, hh', _⟩
    · rw [h4] at e9; cases e9
    · rw [h4] at e9
      have e10 : g = g' := Option.some.inj e9
      subst e10
      rw [hh] at hh'
      injection hh' with hh'
      injection hh' with _ e11
      exact hne e11
/-- A row of one element in a block of its own. -/
theorem rdE_one {α : Type} {enc : α → List Value} {w : World} {x : α} {cs : List Value} {e : TypeId} (hx : enc x = cs) : RdE enc NoB (w.alloc (.cells cs.toArray e)) (.slice (some ⟨w.heap.size, 0, none⟩) 1 1) [x] := by
  refine .inr ⟨w.heap.size, 0, 1, rfl, by simp, fun h => h, Nat.le_refl _, ?_⟩
  have hb := at_new w (.cells cs.toArray e)
  intro j u hj
  rw [Nat.zero_add]
  unfold World.cell?
  simp only [hb]
  have e9 : flatE enc [x] = cs := by rw [← hx]; simp [flatE]
  rw [e9] at hj
  simpa using hj
theorem infoState : (Tryz.prog.info? 76).map (fun i => (i.zero, i.size, i.bytes)) = some (some (.agg #[.int .i64 0, .int .i64 0, .int .i64 0, .slice none 0 0, .slice none 0 0, .bool false]), 6, 80) := by kernel_rfl
theorem stLen (x : St × Value × Value) : (stC x).length = 6 := rfl
def St.now (s : GS) : St := ⟨s.nodes.length, s.links.length, s.uf.tr.length, s.keys, s.todo, s.dirty⟩
def markS (s : GS) : GS := { s with marks := s.marks ++ [St.now s] }
section
variable {c c0 c' : Col} {w W W6 : World} {bc bg : Nat} {h : GH} {s : GS} {v v6 : Value}
theorem GIs.setMarks (g : GIs c W bc h s) {d' : List (St × Value × Value)} {ms' : List St} (hf : Fr (fun b => h.vm.ownBlock = some b) W W6) (ho : OwnE stC 6 76 0 W6 v6 d') (hb : v6.ownBlock = h.vm.ownBlock ∨ ∃ q, v6.ownBlock = some q ∧ W.heap.size ≤ q)
    (hd : d'.map (·.1) = ms') (ha : ∀ x ∈ d', (∃ dk : List (Node × Value), dk.map (·.1) = x.1.keys ∧ RdN (fun k => c k ≠ 12) W x.2.1 dk) ∧ RdI (fun k => c k ≠ 12) W x.2.2 x.1.todo) :
    RowK c W W6 bc 10 10 h.vm v6 (coreC h s.dirty) ∧ GIs (paint c W W6 10) (W6.setCell ⟨bc, 10, none⟩ v6) bc { h with vm := v6 } { s with marks := ms' } := by
  obtain ⟨d, e1, e2, e3, e4⟩ := g.marks
  have K := g.rowK v6 10 (by decide) (by decide) (by decide) e3 hf
  have k1 := K.keep 1 (by decide) (by decide)
  refine ⟨K, K.head', g.sets.keep k1, g.nodes.keep (K.keep 9 (by decide) (by decide)), g.keys.keep (K.keep 8 (by decide) (by decide)), g.users.keep (K.keep 3 (by decide) (by decide)), g.exact.keep (K.keep 5 (by decide) (by decide)), g.table.keep (K.keep 6 (by decide) (by decide)), g.proofs.keep (K.keep 2 (by decide) (by decide)) K.lt, g.vars.keep (K.keep 7 (by decide) (by decide)), g.todo.keep (K.keep 4 (by decide) (by decide)),
    ⟨d', hd, own_bc ho K.head (by decide), fun b hb9 => own_grow (W7 := W6) (B := 0) (World.ownsRow.lt ho b hb9).2 e3 (fun b hb => (World.ownsRow.lt e2 b hb).2) hb hb9, fun x hx => ?_⟩, K.own, K.lt⟩
  obtain ⟨⟨dk, h5, h6⟩, h7⟩ := ha x hx
  exact ⟨⟨dk, h5, keep_rdN h6 k1.fr K.ext (fun b hb hm => (k1.out b hb hm).2)⟩, keep_rd h7 k1.fr K.ext (fun b hb hm => (k1.out b hb hm).2)⟩
theorem AdW.pushMark (a : AdW c0 w bg bc c W h s) {st : St} {vk vt : Value} {d : List (St × Value × Value)} (e1 : d.map (·.1) = s.marks) (e4 : ∀ x ∈ d, (∃ dk : List (Node × Value), dk.map (·.1) = x.1.keys ∧ RdN (fun k => c k ≠ 12) W x.2.1 dk) ∧ RdI (fun k => c k ≠ 12) W x.2.2 x.1.todo)
    (hk : ∃ dk : List (Node × Value), dk.map (·.1) = st.keys ∧ RdN (fun k => c k ≠ 12) W vk dk) (ht : RdI (fun k => c k ≠ 12) W vt st.todo)
    (hf : Fr (fun b => h.vm.ownBlock = some b) W W6) (ho : OwnE stC 6 76 0 W6 v6 (d ++ [(st, vk, vt)])) (hb : v6.ownBlock = h.vm.ownBlock ∨ ∃ q, v6.ownBlock = some q ∧ W.heap.size ≤ q) :
    AdW c0 w bg bc (paint c W W6 10) (W6.setCell ⟨bc, 10, none⟩ v6) { h with vm := v6 } { s with marks := s.marks ++ [st] } := by
  obtain ⟨K, g'⟩ := a.g.setMarks (ms' := s.marks ++ [st]) hf ho hb (by rw [List.map_append, e1]; rfl) (fun x hx => by
    rcases List.mem_append.1 hx with hx | hx
    · exact e4 x hx
    · rw [List.mem_singleton.1 hx]; exact ⟨hk, ht⟩)
  exact a.turn g' K.fr K.ext
set_option maxHeartbeats 16000000 in
theorem emark_any (h0 : GrAt c0 w bg s) (ht : Tab w) (htb : c0 TB = 0) (hk : s.keys.length ≤ 1000000) (hT : s.todo.length ≤ 1000000000) (hm : s.marks.length ≤ 1000000) :
    Calls Tryz.prog 22 #[.pointer (some ⟨bg, 0, none⟩)] w fun e w' => e = .returned (.int .i64 s.marks.length) ∧ (∃ c', GrAt c' w' bg (markS s) ∧ Ext c0 c' w) ∧ Fr (Mut c0) w w' := by
  obtain ⟨bc, h, a0⟩ := AdW.start h0 ht htb
  have A1 := hid a0
  obtain ⟨dk, hd1, hd2, hd3, hd4⟩ := A1.out.g.keys
  have hdl : dk.length = s.keys.length := by rw [← hd1, List.length_map]
  have HB : Hid (dk.length ≤ 1000000 ∧ s.todo.length ≤ 1000000000) := ⟨by rw [hdl]; exact hk, hT⟩
  have HML := hid hm
  have HDK := hid hd1
  have KD : Hid (∀ W', Fr NoB w W' → RdN NoB W' h.vk dk) := fun W' hf => OwnE.rdN (OwnE.step hd2 hf) (fun _ _ h => h) (fun x hx => ((hd4 x hx).fr hf (fun _ _ h => h.elim)).weaken (fun _ _ h => h.elim))
  have TD : Hid (∀ W', Fr NoB w W' → RdI NoB W' h.vt s.todo) := fun W' hf => (A1.out.g.todo.1.fr hf (fun _ _ h => h)).rd (fun _ _ h => h)
  have KA : Hid (∀ x ∈ dk, RdI (fun k => c0 k ≠ 12) w x.2 x.1.args) := hd4
  obtain ⟨dm, he1, he2, he3, he4⟩ := A1.out.g.marks
  have MD := hid (And.intro he1 (And.intro he2 he4))
  have HDM : Hid (dm.length = s.marks.length) := by show _ = _; rw [← he1, List.length_map]
  obtain ⟨mp, mq, hvm⟩ := OwnE.form he2
  rw [HDM.out] at hvm
  have HVM := hid hvm
  obtain ⟨dn, hn1, hn2, _, _⟩ := A1.out.g.nodes
  have hnl : dn.length = s.nodes.length := by rw [← hn1, List.length_map]
  obtain ⟨np, nq, hvn⟩ := OwnE.form hn2
  rw [hnl] at hvn
  have HS : Hid (∀ W', Fr (fun b => h.vm.ownBlock = some b) w W' → W'.cell? ⟨bc, 0, none⟩ = some (.pointer (some ⟨h.bs, 0, none⟩)) ∧ W'.cell? ⟨bc, 1, none⟩ = some (.slice np s.nodes.length nq) ∧ W'.cell? ⟨bc, 2, none⟩ = some h.vk ∧ W'.cell? ⟨bc, 6, none⟩ = some (.pointer (some ⟨h.bf, 0, none⟩)) ∧ W'.cell? ⟨bc, 8, none⟩ = some h.vt ∧ W'.cell? ⟨bc, 9, none⟩ = some (.bool s.dirty) ∧ W'.cell? ⟨bc, 10, none⟩ = some (.slice mp s.marks.length mq) ∧ (∀ o, W'.frozen? ⟨bc, o, none⟩ = false) ∧ bc < W'.heap.size) := fun W' hf => by
    have hh := A1.out.g.see hf (fun b hb => by rw [he3 b hb]; decide)
    unfold coreC at hh
    rw [hvm, hvn] at hh
    exact ⟨by simp [World.cell?, hh], by simp [World.cell?, hh], by simp [World.cell?, hh], by simp [World.cell?, hh], by simp [World.cell?, hh], by simp [World.cell?, hh], by simp [World.cell?, hh], fun o => by simp [World.frozen?, hh], (Array.getElem?_eq_some_iff.1 hh).1⟩
  clear h0 ht htb a0 hk hT hm hd1 hd2 hd3 hd4 hdl he1 he2 he3 he4 hvm hn1 hn2 hnl hvn
  go_enter Tryz.func22, Tryz.ntmps22
  go_wp2_with fail
  refine (emade_any A1.out.done).mono ?_
  rintro e w' ⟨rfl, h9⟩
  subst h9
  have g0 := cells_at A1.out.gr 0
  have gl := (Array.getElem?_eq_some_iff.1 A1.out.gr).1
  simp only [List.getElem?_toArray, List.getElem?_cons_zero] at g0
  go_upto_region 4 with fail
  clear g0 gl
  go_cut [] (fun wx => ∃ c7 h7, Hid (AdW c0 w' bg bc c7 wx h7 (markS s)))
  case first =>
    refine region_effTr (fun W' => W'.cell? ⟨bc, 0, none⟩ = some (.pointer (some ⟨h.bs, 0, none⟩)) ∧ W'.cell? ⟨bc, 1, none⟩ = some (.slice np s.nodes.length nq) ∧ W'.cell? ⟨bc, 2, none⟩ = some h.vk ∧ W'.cell? ⟨bc, 6, none⟩ = some (.pointer (some ⟨h.bf, 0, none⟩)) ∧ W'.cell? ⟨bc, 8, none⟩ = some h.vt ∧ W'.cell? ⟨bc, 9, none⟩ = some (.bool s.dirty) ∧ W'.cell? ⟨bc, 10, none⟩ = some (.slice mp s.marks.length mq) ∧ (∀ o, W'.frozen? ⟨bc, o, none⟩ = false) ∧ bc < W'.heap.size) 41 schMark0 (by kernel_rfl) (by kernel_rfl) ?_ ?_
    · exact HS.out _ (Fr.refl _ _).drew
    repeat (first | (refine efft_off (by rfl) (by rfl) ?_; (try simp only [Act.put, List.setIfInBounds_toArray, List.set_cons_zero, List.set_cons_succ])) | (refine efft_pu ?_ (by rfl) (by rfl) ?_ ?_; rotate_left; (focus (intro w'; go_simp; (try with_reducible rfl); done)); (try simp only [Act.put, List.setIfInBounds_toArray, List.set_cons_zero, List.set_cons_succ])) | (refine efft_rd ?_ (by rfl) (by rfl) ?_ ?_; rotate_left; (focus (intro w' hS; (try obtain ⟨hq1, hS⟩ := hS); (try obtain ⟨hq2, hS⟩ := hS); (try obtain ⟨hq3, hS⟩ := hS); (try obtain ⟨hq4, hS⟩ := hS); (try obtain ⟨hq5, hS⟩ := hS); (try obtain ⟨hq6, hS⟩ := hS); (try obtain ⟨hq7, hS⟩ := hS); (try obtain ⟨hq8, hS⟩ := hS); (try obtain ⟨hq9, hS⟩ := hS); (try obtain ⟨hq10, hS⟩ := hS); (try obtain ⟨hq11, hS⟩ := hS); (try obtain ⟨hq12, hS⟩ := hS); (try obtain ⟨hq13, hS⟩ := hS); (try obtain ⟨hq14, hS⟩ := hS); (try obtain ⟨hq15, hS⟩ := hS); (try obtain ⟨hq16, hS⟩ := hS); (try obtain ⟨hq17, hS⟩ := hS); (try obtain ⟨hq18, hS⟩ := hS); (try obtain ⟨hq19, hS⟩ := hS); (try dsimp only at hS); go_simp; (try with_reducible rfl); done)); (try simp only [Act.put, List.setIfInBounds_toArray, List.set_cons_zero, List.set_cons_succ])))
    obtain ⟨W0, h9⟩ : ∃ q, w'.drew = q := ⟨_, rfl⟩
    have F0 : Hid (Fr NoB w' W0) := by rw [← h9]; exact (Fr.refl _ _).drew
    rw [h9]
    clear h9
    refine efft_br ?_
    refine efft_alt ?x1 ?y1
    case' x1 =>
      refine efft_call 45 #[.pointer (some ⟨h.bf, 0, none⟩)] (by rfl) (by rfl) (by intro w9; go_simp) ?_
      refine (flen_any (A1.out.quiet F0.out).g.proofs).mono ?_
      rintro e q9 ⟨rfl, h9⟩
      rw [h9]
      clear h9
      refine ⟨_, rfl, fun _ => HS.out _ (F0.out.mono (fun _ _ e => e.elim)), ?_⟩
      (try simp only [Act.put, List.setIfInBounds_toArray, List.set_cons_zero, List.set_cons_succ])
      refine efft_br ?_
      refine efft_alt ?x3 ?y3
      case' x3 =>
        refine efft_call 46 #[.pointer (some ⟨h.bs, 0, none⟩)] (by rfl) (by rfl) (by intro w9; go_simp) ?_
        refine (ufmark_any (A1.out.quiet F0.out).g.sets).mono ?_
        rintro e q9 ⟨rfl, h9⟩
        rw [h9]
        clear h9
        refine ⟨_, rfl, fun _ => HS.out _ (F0.out.mono (fun _ _ e => e.elim)), ?_⟩
        (try simp only [Act.put, List.setIfInBounds_toArray, List.set_cons_zero, List.set_cons_succ])
        refine efft_br ?_
        refine efft_alt ?x5 ?y5
        case' x5 =>
          refine efft_run (v := .slice (some ⟨W0.heap.size, 0, none⟩) 0 0) (W' := W0.alloc (.cells #[] 30)) (by rfl) (by rfl) (by go_simp) (fun _ => HS.out _ ((F0.out.alloc _).mono (fun _ _ e => e.elim))) ?_
          (try simp only [Act.put, List.setIfInBounds_toArray, List.set_cons_zero, List.set_cons_succ])
          have F6 : Hid (Fr NoB w' (W0.alloc (.cells #[] 30))) := F0.out.alloc _
          have EK6 : Hid (OwnE nsCells 5 30 w'.heap.size (W0.alloc (.cells #[] 30)) (.slice (some ⟨W0.heap.size, 0, none⟩) 0 0) []) := own_none _ _ F0.out.size
          obtain ⟨W6, h9⟩ : ∃ q, W0.alloc (.cells #[] 30) = q := ⟨_, rfl⟩
          rw [h9] at F6 EK6 ⊢
          clear h9
          obtain ⟨g6, h9⟩ : ∃ q, W0.heap.size = q := ⟨_, rfl⟩
          rw [h9] at EK6 ⊢
          clear h9
          refine efft_br ?_
          refine efft_alt ?x7 ?y7
          case' x7 =>
            refine efft_do (by rfl) ?_
            refine ap_nodes _ rfl _ _ rfl w'.heap.size (.slice (some ⟨g6, 0, none⟩) 0 0) [] rfl EK6.out NoB _ dk rfl (KD.out W6 F6.out) (by have := HB.out.1; simp only [List.length_nil]; omega) F6.out.size ?_
            intro v9 W8 ho9 hg9 hb9
            rw [List.nil_append] at ho9
            have hg8 : w'.heap.size ≤ g6 := (World.ownsRow.lt EK6.out g6 rfl).1
            have F8 : Hid (Fr NoB w' W8) := Fr.grown F6.out hg9 (fun k e hk => by have e2 : g6 = k := Option.some.inj e; omega)
            obtain ⟨p8, q8, hv9⟩ := OwnE.form ho9
            subst hv9
            have VK8 := hid ho9
            clear ho9 hg9 hb9 hg8
            refine wpList_nil ⟨rfl, fun _ => HS.out _ (F8.out.mono (fun _ _ e => e.elim)), ?_⟩
            (try simp only [Act.put, List.setIfInBounds_toArray, List.set_cons_zero, List.set_cons_succ])
            refine efft_st ?_
            refine efft_run (v := .slice (some ⟨W8.heap.size, 0, none⟩) 0 0) (W' := W8.alloc (.cells #[] 3)) (by rfl) (by rfl) (by go_simp) (fun _ => HS.out _ ((F8.out.alloc _).mono (fun _ _ e => e.elim))) ?_
            (try simp only [Act.put, List.setIfInBounds_toArray, List.set_cons_zero, List.set_cons_succ])
            have F9 : Hid (Fr NoB w' (W8.alloc (.cells #[] 3))) := F8.out.alloc _
            have ET9 : Hid (OwnI w'.heap.size (W8.alloc (.cells #[] 3)) (.slice (some ⟨W8.heap.size, 0, none⟩) 0 0) []) := own_noneI _ _ F8.out.size
            have VK_9 := hid (OwnE.step VK8.out ((Fr.refl NoB W8).alloc (.cells #[] 3)))
            obtain ⟨W9, h9⟩ : ∃ q, W8.alloc (.cells #[] 3) = q := ⟨_, rfl⟩
            rw [h9] at F9 ET9 VK_9 ⊢
            clear h9
            obtain ⟨g9, h9⟩ : ∃ q, W8.heap.size = q := ⟨_, rfl⟩
            rw [h9] at ET9 ⊢
            clear h9
            refine efft_st ?_
            refine efft_do (by rfl) ?_
            refine ap_ints_at _ rfl _ _ rfl w'.heap.size (.slice (some ⟨g9, 0, none⟩) 0 0) [] rfl ET9.out NoB _ s.todo rfl (TD.out W9 F9.out) (by have := HB.out.2; simp only [List.length_nil]; omega) F9.out.size ?_
            intro v9 W10 ho9 hg9 hb9
            rw [List.nil_append] at ho9
            have hg8 : w'.heap.size ≤ g9 := (World.ownsRow.lt ET9.out g9 rfl).1
            have F10 : Hid (Fr NoB w' W10) := Fr.grown F9.out hg9 (fun k e hk => by have e2 : g9 = k := Option.some.inj e; omega)
            obtain ⟨p10, q10, hv9⟩ := OwnI.form ho9
            subst hv9
            have VT10 := hid ho9
            have VK_10 : Hid (OwnN w'.heap.size W10 (.slice p8 dk.length q8) dk) := row_carry ET9.out VK_9.out (by decide) hg9
            clear ho9 hg9 hb9 hg8
            refine wpList_nil ⟨rfl, fun _ => HS.out _ (F10.out.mono (fun _ _ e => e.elim)), ?_⟩
            (try simp only [Act.put, List.setIfInBounds_toArray, List.set_cons_zero, List.set_cons_succ])
            obtain ⟨WL, h9⟩ : ∃ q, W10 = q := ⟨_, rfl⟩
            have FL : Hid (Fr NoB w' WL) := by rw [← h9]; exact F10
            have VKL : Hid (OwnN w'.heap.size WL (.slice p8 dk.length q8) dk) := by rw [← h9]; exact VK_10
            have VTL : Hid (OwnI w'.heap.size WL (.slice p10 s.todo.length q10) s.todo) := by rw [← h9]; exact VT10
            rw [h9]
            clear h9
            obtain ⟨pk, h9⟩ : ∃ q, p8 = q := ⟨_, rfl⟩
            rw [h9] at VKL ⊢
            clear h9
            obtain ⟨qk, h9⟩ : ∃ q, q8 = q := ⟨_, rfl⟩
            rw [h9] at VKL ⊢
            clear h9
            obtain ⟨pt, h9⟩ : ∃ q, p10 = q := ⟨_, rfl⟩
            rw [h9] at VTL ⊢
            clear h9
            obtain ⟨qt, h9⟩ : ∃ q, q10 = q := ⟨_, rfl⟩
            rw [h9] at VTL ⊢
            clear h9
          case' y7 =>
            refine efft_alt ?x11 ?y11
            case' x11 =>
              refine efft_run (v := .slice (some ⟨W6.heap.size, 0, none⟩) 0 0) (W' := W6.alloc (.cells #[] 3)) (by rfl) (by rfl) (by go_simp) (fun _ => HS.out _ ((F6.out.alloc _).mono (fun _ _ e => e.elim))) ?_
              (try simp only [Act.put, List.setIfInBounds_toArray, List.set_cons_zero, List.set_cons_succ])
              have F12 : Hid (Fr NoB w' (W6.alloc (.cells #[] 3))) := F6.out.alloc _
              have ET12 : Hid (OwnI w'.heap.size (W6.alloc (.cells #[] 3)) (.slice (some ⟨W6.heap.size, 0, none⟩) 0 0) []) := own_noneI _ _ F6.out.size
              have EK_12 := hid (OwnE.step EK6.out ((Fr.refl NoB W6).alloc (.cells #[] 3)))
              obtain ⟨W12, h9⟩ : ∃ q, W6.alloc (.cells #[] 3) = q := ⟨_, rfl⟩
              rw [h9] at F12 ET12 EK_12 ⊢
              clear h9
              obtain ⟨g12, h9⟩ : ∃ q, W6.heap.size = q := ⟨_, rfl⟩
              rw [h9] at ET12 ⊢
              clear h9
              refine efft_st ?_
              refine efft_do (by rfl) ?_
              refine ap_nodes _ rfl _ _ rfl w'.heap.size (.slice (some ⟨g6, 0, none⟩) 0 0) [] rfl EK_12.out NoB _ dk rfl (KD.out W12 F12.out) (by have := HB.out.1; simp only [List.length_nil]; omega) F12.out.size ?_
              intro v9 W13 ho9 hg9 hb9
              rw [List.nil_append] at ho9
              have hg8 : w'.heap.size ≤ g6 := (World.ownsRow.lt EK_12.out g6 rfl).1
              have F13 : Hid (Fr NoB w' W13) := Fr.grown F12.out hg9 (fun k e hk => by have e2 : g6 = k := Option.some.inj e; omega)
              obtain ⟨p13, q13, hv9⟩ := OwnE.form ho9
              subst hv9
              have VK13 := hid ho9
              have ET_13 : Hid (OwnI w'.heap.size W13 (.slice (some ⟨g12, 0, none⟩) 0 0) []) := row_carry EK_12.out ET12.out (by decide) hg9
              clear ho9 hg9 hb9 hg8
              refine wpList_nil ⟨rfl, fun _ => HS.out _ (F13.out.mono (fun _ _ e => e.elim)), ?_⟩
              (try simp only [Act.put, List.setIfInBounds_toArray, List.set_cons_zero, List.set_cons_succ])
              refine efft_st ?_
              refine efft_do (by rfl) ?_
              refine ap_ints_at _ rfl _ _ rfl w'.heap.size (.slice (some ⟨g12, 0, none⟩) 0 0) [] rfl ET_13.out NoB _ s.todo rfl (TD.out W13 F13.out) (by have := HB.out.2; simp only [List.length_nil]; omega) F13.out.size ?_
              intro v9 W14 ho9 hg9 hb9
              rw [List.nil_append] at ho9
              have hg8 : w'.heap.size ≤ g12 := (World.ownsRow.lt ET_13.out g12 rfl).1
              have F14 : Hid (Fr NoB w' W14) := Fr.grown F13.out hg9 (fun k e hk => by have e2 : g12 = k := Option.some.inj e; omega)
              obtain ⟨p14, q14, hv9⟩ := OwnI.form ho9
              subst hv9
              have VT14 := hid ho9
              have VK_14 : Hid (OwnN w'.heap.size W14 (.slice p13 dk.length q13) dk) := row_carry ET_13.out VK13.out (by decide) hg9
              clear ho9 hg9 hb9 hg8
              refine wpList_nil ⟨rfl, fun _ => HS.out _ (F14.out.mono (fun _ _ e => e.elim)), ?_⟩
              (try simp only [Act.put, List.setIfInBounds_toArray, List.set_cons_zero, List.set_cons_succ])
              obtain ⟨WL, h9⟩ : ∃ q, W14 = q := ⟨_, rfl⟩
              have FL : Hid (Fr NoB w' WL) := by rw [← h9]; exact F14
              have VKL : Hid (OwnN w'.heap.size WL (.slice p13 dk.length q13) dk) := by rw [← h9]; exact VK_14
              have VTL : Hid (OwnI w'.heap.size WL (.slice p14 s.todo.length q14) s.todo) := by rw [← h9]; exact VT14
              rw [h9]
              clear h9
              obtain ⟨pk, h9⟩ : ∃ q, p13 = q := ⟨_, rfl⟩
              rw [h9] at VKL ⊢
              clear h9
              obtain ⟨qk, h9⟩ : ∃ q, q13 = q := ⟨_, rfl⟩
              rw [h9] at VKL ⊢
              clear h9
              obtain ⟨pt, h9⟩ : ∃ q, p14 = q := ⟨_, rfl⟩
              rw [h9] at VTL ⊢
              clear h9
              obtain ⟨qt, h9⟩ : ∃ q, q14 = q := ⟨_, rfl⟩
              rw [h9] at VTL ⊢
              clear h9
            case' y11 =>
              exact efft_fin
        case' y5 =>
          refine efft_alt ?x15 ?y15
          case' x15 =>
            refine efft_run (v := .slice (some ⟨W0.heap.size, 0, none⟩) 0 0) (W' := W0.alloc (.cells #[] 3)) (by rfl) (by rfl) (by go_simp) (fun _ => HS.out _ ((F0.out.alloc _).mono (fun _ _ e => e.elim))) ?_
            (try simp only [Act.put, List.setIfInBounds_toArray, List.set_cons_zero, List.set_cons_succ])
            have F16 : Hid (Fr NoB w' (W0.alloc (.cells #[] 3))) := F0.out.alloc _
            have ET16 : Hid (OwnI w'.heap.size (W0.alloc (.cells #[] 3)) (.slice (some ⟨W0.heap.size, 0, none⟩) 0 0) []) := own_noneI _ _ F0.out.size
            obtain ⟨W16, h9⟩ : ∃ q, W0.alloc (.cells #[] 3) = q := ⟨_, rfl⟩
            rw [h9] at F16 ET16 ⊢
            clear h9
            obtain ⟨g16, h9⟩ : ∃ q, W0.heap.size = q := ⟨_, rfl⟩
            rw [h9] at ET16 ⊢
            clear h9
            refine efft_st ?_
            refine efft_run (v := .slice (some ⟨W16.heap.size, 0, none⟩) 0 0) (W' := W16.alloc (.cells #[] 30)) (by rfl) (by rfl) (by go_simp) (fun _ => HS.out _ ((F16.out.alloc _).mono (fun _ _ e => e.elim))) ?_
            (try simp only [Act.put, List.setIfInBounds_toArray, List.set_cons_zero, List.set_cons_succ])
            have F17 : Hid (Fr NoB w' (W16.alloc (.cells #[] 30))) := F16.out.alloc _
            have EK17 : Hid (OwnE nsCells 5 30 w'.heap.size (W16.alloc (.cells #[] 30)) (.slice (some ⟨W16.heap.size, 0, none⟩) 0 0) []) := own_none _ _ F16.out.size
            have ET_17 := hid (OwnI.fr ET16.out ((Fr.refl NoB W16).alloc (.cells #[] 30)) (fun _ _ e => e))
            obtain ⟨W17, h9⟩ : ∃ q, W16.alloc (.cells #[] 30) = q := ⟨_, rfl⟩
            rw [h9] at F17 EK17 ET_17 ⊢
            clear h9
            obtain ⟨g17, h9⟩ : ∃ q, W16.heap.size = q := ⟨_, rfl⟩
            rw [h9] at EK17 ⊢
            clear h9
            refine efft_st ?_
            refine efft_do (by rfl) ?_
            refine ap_nodes _ rfl _ _ rfl w'.heap.size (.slice (some ⟨g17, 0, none⟩) 0 0) [] rfl EK17.out NoB _ dk rfl (KD.out W17 F17.out) (by have := HB.out.1; simp only [List.length_nil]; omega) F17.out.size ?_
            intro v9 W18 ho9 hg9 hb9
            rw [List.nil_append] at ho9
            have hg8 : w'.heap.size ≤ g17 := (World.ownsRow.lt EK17.out g17 rfl).1
            have F18 : Hid (Fr NoB w' W18) := Fr.grown F17.out hg9 (fun k e hk => by have e2 : g17 = k := Option.some.inj e; omega)
            obtain ⟨p18, q18, hv9⟩ := OwnE.form ho9
            subst hv9
            have VK18 := hid ho9
            have ET_18 : Hid (OwnI w'.heap.size W18 (.slice (some ⟨g16, 0, none⟩) 0 0) []) := row_carry EK17.out ET_17.out (by decide) hg9
            clear ho9 hg9 hb9 hg8
            refine wpList_nil ⟨rfl, fun _ => HS.out _ (F18.out.mono (fun _ _ e => e.elim)), ?_⟩
            (try simp only [Act.put, List.setIfInBounds_toArray, List.set_cons_zero, List.set_cons_succ])
            refine efft_st ?_
            refine efft_do (by rfl) ?_
            refine ap_ints_at _ rfl _ _ rfl w'.heap.size (.slice (some ⟨g16, 0, none⟩) 0 0) [] rfl ET_18.out NoB _ s.todo rfl (TD.out W18 F18.out) (by have := HB.out.2; simp only [List.length_nil]; omega) F18.out.size ?_
            intro v9 W19 ho9 hg9 hb9
            rw [List.nil_append] at ho9
            have hg8 : w'.heap.size ≤ g16 := (World.ownsRow.lt ET_18.out g16 rfl).1
            have F19 : Hid (Fr NoB w' W19) := Fr.grown F18.out hg9 (fun k e hk => by have e2 : g16 = k := Option.some.inj e; omega)
            obtain ⟨p19, q19, hv9⟩ := OwnI.form ho9
            subst hv9
            have VT19 := hid ho9
            have VK_19 : Hid (OwnN w'.heap.size W19 (.slice p18 dk.length q18) dk) := row_carry ET_18.out VK18.out (by decide) hg9
            clear ho9 hg9 hb9 hg8
            refine wpList_nil ⟨rfl, fun _ => HS.out _ (F19.out.mono (fun _ _ e => e.elim)), ?_⟩
            (try simp only [Act.put, List.setIfInBounds_toArray, List.set_cons_zero, List.set_cons_succ])
            obtain ⟨WL, h9⟩ : ∃ q, W19 = q := ⟨_, rfl⟩
            have FL : Hid (Fr NoB w' WL) := by rw [← h9]; exact F19
            have VKL : Hid (OwnN w'.heap.size WL (.slice p18 dk.length q18) dk) := by rw [← h9]; exact VK_19
            have VTL : Hid (OwnI w'.heap.size WL (.slice p19 s.todo.length q19) s.todo) := by rw [← h9]; exact VT19
            rw [h9]
            clear h9
            obtain ⟨pk, h9⟩ : ∃ q, p18 = q := ⟨_, rfl⟩
            rw [h9] at VKL ⊢
            clear h9
            obtain ⟨qk, h9⟩ : ∃ q, q18 = q := ⟨_, rfl⟩
            rw [h9] at VKL ⊢
            clear h9
            obtain ⟨pt, h9⟩ : ∃ q, p19 = q := ⟨_, rfl⟩
            rw [h9] at VTL ⊢
            clear h9
            obtain ⟨qt, h9⟩ : ∃ q, q19 = q := ⟨_, rfl⟩
            rw [h9] at VTL ⊢
            clear h9
          case' y15 =>
            exact efft_fin
      case' y3 =>
        refine efft_alt ?x20 ?y20
        case' x20 =>
          refine efft_run (v := .slice (some ⟨W0.heap.size, 0, none⟩) 0 0) (W' := W0.alloc (.cells #[] 30)) (by rfl) (by rfl) (by go_simp) (fun _ => HS.out _ ((F0.out.alloc _).mono (fun _ _ e => e.elim))) ?_
          (try simp only [Act.put, List.setIfInBounds_toArray, List.set_cons_zero, List.set_cons_succ])
          have F21 : Hid (Fr NoB w' (W0.alloc (.cells #[] 30))) := F0.out.alloc _
          have EK21 : Hid (OwnE nsCells 5 30 w'.heap.size (W0.alloc (.cells #[] 30)) (.slice (some ⟨W0.heap.size, 0, none⟩) 0 0) []) := own_none _ _ F0.out.size
          obtain ⟨W21, h9⟩ : ∃ q, W0.alloc (.cells #[] 30) = q := ⟨_, rfl⟩
          rw [h9] at F21 EK21 ⊢
          clear h9
          obtain ⟨g21, h9⟩ : ∃ q, W0.heap.size = q := ⟨_, rfl⟩
          rw [h9] at EK21 ⊢
          clear h9
          refine efft_br ?_
          refine efft_alt ?x22 ?y22
          case' x22 =>
            refine efft_call 46 #[.pointer (some ⟨h.bs, 0, none⟩)] (by rfl) (by rfl) (by intro w9; go_simp) ?_
            refine (ufmark_any (A1.out.quiet F21.out).g.sets).mono ?_
            rintro e q9 ⟨rfl, h9⟩
            rw [h9]
            clear h9
            refine ⟨_, rfl, fun _ => HS.out _ (F21.out.mono (fun _ _ e => e.elim)), ?_⟩
            (try simp only [Act.put, List.setIfInBounds_toArray, List.set_cons_zero, List.set_cons_succ])
            refine efft_br ?_
            refine efft_alt ?x24 ?y24
            case' x24 =>
              refine efft_do (by rfl) ?_
              refine ap_nodes _ rfl _ _ rfl w'.heap.size (.slice (some ⟨g21, 0, none⟩) 0 0) [] rfl EK21.out NoB _ dk rfl (KD.out W21 F21.out) (by have := HB.out.1; simp only [List.length_nil]; omega) F21.out.size ?_
              intro v9 W25 ho9 hg9 hb9
              rw [List.nil_append] at ho9
              have hg8 : w'.heap.size ≤ g21 := (World.ownsRow.lt EK21.out g21 rfl).1
              have F25 : Hid (Fr NoB w' W25) := Fr.grown F21.out hg9 (fun k e hk => by have e2 : g21 = k := Option.some.inj e; omega)
              obtain ⟨p25, q25, hv9⟩ := OwnE.form ho9
              subst hv9
              have VK25 := hid ho9
              clear ho9 hg9 hb9 hg8
              refine wpList_nil ⟨rfl, fun _ => HS.out _ (F25.out.mono (fun _ _ e => e.elim)), ?_⟩
              (try simp only [Act.put, List.setIfInBounds_toArray, List.set_cons_zero, List.set_cons_succ])
              refine efft_st ?_
              refine efft_run (v := .slice (some ⟨W25.heap.size, 0, none⟩) 0 0) (W' := W25.alloc (.cells #[] 3)) (by rfl) (by rfl) (by go_simp) (fun _ => HS.out _ ((F25.out.alloc _).mono (fun _ _ e => e.elim))) ?_
              (try simp only [Act.put, List.setIfInBounds_toArray, List.set_cons_zero, List.set_cons_succ])
              have F26 : Hid (Fr NoB w' (W25.alloc (.cells #[] 3))) := F25.out.alloc _
              have ET26 : Hid (OwnI w'.heap.size (W25.alloc (.cells #[] 3)) (.slice (some ⟨W25.heap.size, 0, none⟩) 0 0) []) := own_noneI _ _ F25.out.size
              have VK_26 := hid (OwnE.step VK25.out ((Fr.refl NoB W25).alloc (.cells #[] 3)))
              obtain ⟨W26, h9⟩ : ∃ q, W25.alloc (.cells #[] 3) = q := ⟨_, rfl⟩
              rw [h9] at F26 ET26 VK_26 ⊢
              clear h9
              obtain ⟨g26, h9⟩ : ∃ q, W25.heap.size = q := ⟨_, rfl⟩
              rw [h9] at ET26 ⊢
              clear h9
              refine efft_st ?_
              refine efft_do (by rfl) ?_
              refine ap_ints_at _ rfl _ _ rfl w'.heap.size (.slice (some ⟨g26, 0, none⟩) 0 0) [] rfl ET26.out NoB _ s.todo rfl (TD.out W26 F26.out) (by have := HB.out.2; simp only [List.length_nil]; omega) F26.out.size ?_
              intro v9 W27 ho9 hg9 hb9
              rw [List.nil_append] at ho9
              have hg8 : w'.heap.size ≤ g26 := (World.ownsRow.lt ET26.out g26 rfl).1
              have F27 : Hid (Fr NoB w' W27) := Fr.grown F26.out hg9 (fun k e hk => by have e2 : g26 = k := Option.some.inj e; omega)
              obtain ⟨p27, q27, hv9⟩ := OwnI.form ho9
              subst hv9
              have VT27 := hid ho9
              have VK_27 : Hid (OwnN w'.heap.size W27 (.slice p25 dk.length q25) dk) := row_carry ET26.out VK_26.out (by decide) hg9
              clear ho9 hg9 hb9 hg8
              refine wpList_nil ⟨rfl, fun _ => HS.out _ (F27.out.mono (fun _ _ e => e.elim)), ?_⟩
              (try simp only [Act.put, List.setIfInBounds_toArray, List.set_cons_zero, List.set_cons_succ])
              obtain ⟨WL, h9⟩ : ∃ q, W27 = q := ⟨_, rfl⟩
              have FL : Hid (Fr NoB w' WL) := by rw [← h9]; exact F27
              have VKL : Hid (OwnN w'.heap.size WL (.slice p25 dk.length q25) dk) := by rw [← h9]; exact VK_27
              have VTL : Hid (OwnI w'.heap.size WL (.slice p27 s.todo.length q27) s.todo) := by rw [← h9]; exact VT27
              rw [h9]
              clear h9
              obtain ⟨pk, h9⟩ : ∃ q, p25 = q := ⟨_, rfl⟩
              rw [h9] at VKL ⊢
              clear h9
              obtain ⟨qk, h9⟩ : ∃ q, q25 = q := ⟨_, rfl⟩
              rw [h9] at VKL ⊢
              clear h9
              obtain ⟨pt, h9⟩ : ∃ q, p27 = q := ⟨_, rfl⟩
              rw [h9] at VTL ⊢
              clear h9
              obtain ⟨qt, h9⟩ : ∃ q, q27 = q := ⟨_, rfl⟩
              rw [h9] at VTL ⊢
              clear h9
            case' y24 =>
              refine efft_alt ?x28 ?y28
              case' x28 =>
                refine efft_run (v := .slice (some ⟨W21.heap.size, 0, none⟩) 0 0) (W' := W21.alloc (.cells #[] 3)) (by rfl) (by rfl) (by go_simp) (fun _ => HS.out _ ((F21.out.alloc _).mono (fun _ _ e => e.elim))) ?_
                (try simp only [Act.put, List.setIfInBounds_toArray, List.set_cons_zero, List.set_cons_succ])
                have F29 : Hid (Fr NoB w' (W21.alloc (.cells #[] 3))) := F21.out.alloc _
                have ET29 : Hid (OwnI w'.heap.size (W21.alloc (.cells #[] 3)) (.slice (some ⟨W21.heap.size, 0, none⟩) 0 0) []) := own_noneI _ _ F21.out.size
                have EK_29 := hid (OwnE.step EK21.out ((Fr.refl NoB W21).alloc (.cells #[] 3)))
                obtain ⟨W29, h9⟩ : ∃ q, W21.alloc (.cells #[] 3) = q := ⟨_, rfl⟩
                rw [h9] at F29 ET29 EK_29 ⊢
                clear h9
                obtain ⟨g29, h9⟩ : ∃ q, W21.heap.size = q := ⟨_, rfl⟩
                rw [h9] at ET29 ⊢
                clear h9
                refine efft_st ?_
                refine efft_do (by rfl) ?_
                refine ap_nodes _ rfl _ _ rfl w'.heap.size (.slice (some ⟨g21, 0, none⟩) 0 0) [] rfl EK_29.out NoB _ dk rfl (KD.out W29 F29.out) (by have := HB.out.1; simp only [List.length_nil]; omega) F29.out.size ?_
                intro v9 W30 ho9 hg9 hb9
                rw [List.nil_append] at ho9
                have hg8 : w'.heap.size ≤ g21 := (World.ownsRow.lt EK_29.out g21 rfl).1
                have F30 : Hid (Fr NoB w' W30) := Fr.grown F29.out hg9 (fun k e hk => by have e2 : g21 = k := Option.some.inj e; omega)
                obtain ⟨p30, q30, hv9⟩ := OwnE.form ho9
                subst hv9
                have VK30 := hid ho9
                have ET_30 : Hid (OwnI w'.heap.size W30 (.slice (some ⟨g29, 0, none⟩) 0 0) []) := row_carry EK_29.out ET29.out (by decide) hg9
                clear ho9 hg9 hb9 hg8
                refine wpList_nil ⟨rfl, fun _ => HS.out _ (F30.out.mono (fun _ _ e => e.elim)), ?_⟩
                (try simp only [Act.put, List.setIfInBounds_toArray, List.set_cons_zero, List.set_cons_succ])
                refine efft_st ?_
                refine efft_do (by rfl) ?_
                refine ap_ints_at _ rfl _ _ rfl w'.heap.size (.slice (some ⟨g29, 0, none⟩) 0 0) [] rfl ET_30.out NoB _ s.todo rfl (TD.out W30 F30.out) (by have := HB.out.2; simp only [List.length_nil]; omega) F30.out.size ?_
                intro v9 W31 ho9 hg9 hb9
                rw [List.nil_append] at ho9
                have hg8 : w'.heap.size ≤ g29 := (World.ownsRow.lt ET_30.out g29 rfl).1
                have F31 : Hid (Fr NoB w' W31) := Fr.grown F30.out hg9 (fun k e hk => by have e2 : g29 = k := Option.some.inj e; omega)
                obtain ⟨p31, q31, hv9⟩ := OwnI.form ho9
                subst hv9
                have VT31 := hid ho9
                have VK_31 : Hid (OwnN w'.heap.size W31 (.slice p30 dk.length q30) dk) := row_carry ET_30.out VK30.out (by decide) hg9
                clear ho9 hg9 hb9 hg8
                refine wpList_nil ⟨rfl, fun _ => HS.out _ (F31.out.mono (fun _ _ e => e.elim)), ?_⟩
                (try simp only [Act.put, List.setIfInBounds_toArray, List.set_cons_zero, List.set_cons_succ])
                obtain ⟨WL, h9⟩ : ∃ q, W31 = q := ⟨_, rfl⟩
                have FL : Hid (Fr NoB w' WL) := by rw [← h9]; exact F31
                have VKL : Hid (OwnN w'.heap.size WL (.slice p30 dk.length q30) dk) := by rw [← h9]; exact VK_31
                have VTL : Hid (OwnI w'.heap.size WL (.slice p31 s.todo.length q31) s.todo) := by rw [← h9]; exact VT31
                rw [h9]
                clear h9
                obtain ⟨pk, h9⟩ : ∃ q, p30 = q := ⟨_, rfl⟩
                rw [h9] at VKL ⊢
                clear h9
                obtain ⟨qk, h9⟩ : ∃ q, q30 = q := ⟨_, rfl⟩
                rw [h9] at VKL ⊢
                clear h9
                obtain ⟨pt, h9⟩ : ∃ q, p31 = q := ⟨_, rfl⟩
                rw [h9] at VTL ⊢
                clear h9
                obtain ⟨qt, h9⟩ : ∃ q, q31 = q := ⟨_, rfl⟩
                rw [h9] at VTL ⊢
                clear h9
              case' y28 =>
                exact efft_fin
          case' y22 =>
            refine efft_alt ?x32 ?y32
            case' x32 =>
              refine efft_run (v := .slice (some ⟨W21.heap.size, 0, none⟩) 0 0) (W' := W21.alloc (.cells #[] 3)) (by rfl) (by rfl) (by go_simp) (fun _ => HS.out _ ((F21.out.alloc _).mono (fun _ _ e => e.elim))) ?_
              (try simp only [Act.put, List.setIfInBounds_toArray, List.set_cons_zero, List.set_cons_succ])
              have F33 : Hid (Fr NoB w' (W21.alloc (.cells #[] 3))) := F21.out.alloc _
              have ET33 : Hid (OwnI w'.heap.size (W21.alloc (.cells #[] 3)) (.slice (some ⟨W21.heap.size, 0, none⟩) 0 0) []) := own_noneI _ _ F21.out.size
              have EK_33 := hid (OwnE.step EK21.out ((Fr.refl NoB W21).alloc (.cells #[] 3)))
              obtain ⟨W33, h9⟩ : ∃ q, W21.alloc (.cells #[] 3) = q := ⟨_, rfl⟩
              rw [h9] at F33 ET33 EK_33 ⊢
              clear h9
              obtain ⟨g33, h9⟩ : ∃ q, W21.heap.size = q := ⟨_, rfl⟩
              rw [h9] at ET33 ⊢
              clear h9
              refine efft_st ?_
              refine efft_call 46 #[.pointer (some ⟨h.bs, 0, none⟩)] (by rfl) (by rfl) (by intro w9; go_simp) ?_
              refine (ufmark_any (A1.out.quiet F33.out).g.sets).mono ?_
              rintro e q9 ⟨rfl, h9⟩
              rw [h9]
              clear h9
              refine ⟨_, rfl, fun _ => HS.out _ (F33.out.mono (fun _ _ e => e.elim)), ?_⟩
              (try simp only [Act.put, List.setIfInBounds_toArray, List.set_cons_zero, List.set_cons_succ])
              refine efft_st ?_
              refine efft_do (by rfl) ?_
              refine ap_nodes _ rfl _ _ rfl w'.heap.size (.slice (some ⟨g21, 0, none⟩) 0 0) [] rfl EK_33.out NoB _ dk rfl (KD.out W33 F33.out) (by have := HB.out.1; simp only [List.length_nil]; omega) F33.out.size ?_
              intro v9 W35 ho9 hg9 hb9
              rw [List.nil_append] at ho9
              have hg8 : w'.heap.size ≤ g21 := (World.ownsRow.lt EK_33.out g21 rfl).1
              have F35 : Hid (Fr NoB w' W35) := Fr.grown F33.out hg9 (fun k e hk => by have e2 : g21 = k := Option.some.inj e; omega)
              obtain ⟨p35, q35, hv9⟩ := OwnE.form ho9
              subst hv9
              have VK35 := hid ho9
              have ET_35 : Hid (OwnI w'.heap.size W35 (.slice (some ⟨g33, 0, none⟩) 0 0) []) := row_carry EK_33.out ET33.out (by decide) hg9
              clear ho9 hg9 hb9 hg8
              refine wpList_nil ⟨rfl, fun _ => HS.out _ (F35.out.mono (fun _ _ e => e.elim)), ?_⟩
              (try simp only [Act.put, List.setIfInBounds_toArray, List.set_cons_zero, List.set_cons_succ])
              refine efft_st ?_
              refine efft_do (by rfl) ?_
              refine ap_ints_at _ rfl _ _ rfl w'.heap.size (.slice (some ⟨g33, 0, none⟩) 0 0) [] rfl ET_35.out NoB _ s.todo rfl (TD.out W35 F35.out) (by have := HB.out.2; simp only [List.length_nil]; omega) F35.out.size ?_
              intro v9 W36 ho9 hg9 hb9
              rw [List.nil_append] at ho9
              have hg8 : w'.heap.size ≤ g33 := (World.ownsRow.lt ET_35.out g33 rfl).1
              have F36 : Hid (Fr NoB w' W36) := Fr.grown F35.out hg9 (fun k e hk => by have e2 : g33 = k := Option.some.inj e; omega)
              obtain ⟨p36, q36, hv9⟩ := OwnI.form ho9
              subst hv9
              have VT36 := hid ho9
              have VK_36 : Hid (OwnN w'.heap.size W36 (.slice p35 dk.length q35) dk) := row_carry ET_35.out VK35.out (by decide) hg9
              clear ho9 hg9 hb9 hg8
              refine wpList_nil ⟨rfl, fun _ => HS.out _ (F36.out.mono (fun _ _ e => e.elim)), ?_⟩
              (try simp only [Act.put, List.setIfInBounds_toArray, List.set_cons_zero, List.set_cons_succ])
              obtain ⟨WL, h9⟩ : ∃ q, W36 = q := ⟨_, rfl⟩
              have FL : Hid (Fr NoB w' WL) := by rw [← h9]; exact F36
              have VKL : Hid (OwnN w'.heap.size WL (.slice p35 dk.length q35) dk) := by rw [← h9]; exact VK_36
              have VTL : Hid (OwnI w'.heap.size WL (.slice p36 s.todo.length q36) s.todo) := by rw [← h9]; exact VT36
              rw [h9]
              clear h9
              obtain ⟨pk, h9⟩ : ∃ q, p35 = q := ⟨_, rfl⟩
              rw [h9] at VKL ⊢
              clear h9
              obtain ⟨qk, h9⟩ : ∃ q, q35 = q := ⟨_, rfl⟩
              rw [h9] at VKL ⊢
              clear h9
              obtain ⟨pt, h9⟩ : ∃ q, p36 = q := ⟨_, rfl⟩
              rw [h9] at VTL ⊢
              clear h9
              obtain ⟨qt, h9⟩ : ∃ q, q36 = q := ⟨_, rfl⟩
              rw [h9] at VTL ⊢
              clear h9
            case' y32 =>
              exact efft_fin
        case' y20 =>
          refine efft_alt ?x37 ?y37
          case' x37 =>
            refine efft_run (v := .slice (some ⟨W0.heap.size, 0, none⟩) 0 0) (W' := W0.alloc (.cells #[] 3)) (by rfl) (by rfl) (by go_simp) (fun _ => HS.out _ ((F0.out.alloc _).mono (fun _ _ e => e.elim))) ?_
            (try simp only [Act.put, List.setIfInBounds_toArray, List.set_cons_zero, List.set_cons_succ])
            have F38 : Hid (Fr NoB w' (W0.alloc (.cells #[] 3))) := F0.out.alloc _
            have ET38 : Hid (OwnI w'.heap.size (W0.alloc (.cells #[] 3)) (.slice (some ⟨W0.heap.size, 0, none⟩) 0 0) []) := own_noneI _ _ F0.out.size
            obtain ⟨W38, h9⟩ : ∃ q, W0.alloc (.cells #[] 3) = q := ⟨_, rfl⟩
            rw [h9] at F38 ET38 ⊢
            clear h9
            obtain ⟨g38, h9⟩ : ∃ q, W0.heap.size = q := ⟨_, rfl⟩
            rw [h9] at ET38 ⊢
            clear h9
            refine efft_br ?_
            refine efft_alt ?x39 ?y39
            case' x39 =>
              refine efft_call 46 #[.pointer (some ⟨h.bs, 0, none⟩)] (by rfl) (by rfl) (by intro w9; go_simp) ?_
              refine (ufmark_any (A1.out.quiet F38.out).g.sets).mono ?_
              rintro e q9 ⟨rfl, h9⟩
              rw [h9]
              clear h9
              refine ⟨_, rfl, fun _ => HS.out _ (F38.out.mono (fun _ _ e => e.elim)), ?_⟩
              (try simp only [Act.put, List.setIfInBounds_toArray, List.set_cons_zero, List.set_cons_succ])
              refine efft_st ?_
              refine efft_run (v := .slice (some ⟨W38.heap.size, 0, none⟩) 0 0) (W' := W38.alloc (.cells #[] 30)) (by rfl) (by rfl) (by go_simp) (fun _ => HS.out _ ((F38.out.alloc _).mono (fun _ _ e => e.elim))) ?_
              (try simp only [Act.put, List.setIfInBounds_toArray, List.set_cons_zero, List.set_cons_succ])
              have F41 : Hid (Fr NoB w' (W38.alloc (.cells #[] 30))) := F38.out.alloc _
              have EK41 : Hid (OwnE nsCells 5 30 w'.heap.size (W38.alloc (.cells #[] 30)) (.slice (some ⟨W38.heap.size, 0, none⟩) 0 0) []) := own_none _ _ F38.out.size
              have ET_41 := hid (OwnI.fr ET38.out ((Fr.refl NoB W38).alloc (.cells #[] 30)) (fun _ _ e => e))
              obtain ⟨W41, h9⟩ : ∃ q, W38.alloc (.cells #[] 30) = q := ⟨_, rfl⟩
              rw [h9] at F41 EK41 ET_41 ⊢
              clear h9
              obtain ⟨g41, h9⟩ : ∃ q, W38.heap.size = q := ⟨_, rfl⟩
              rw [h9] at EK41 ⊢
              clear h9
              refine efft_st ?_
              refine efft_do (by rfl) ?_
              refine ap_nodes _ rfl _ _ rfl w'.heap.size (.slice (some ⟨g41, 0, none⟩) 0 0) [] rfl EK41.out NoB _ dk rfl (KD.out W41 F41.out) (by have := HB.out.1; simp only [List.length_nil]; omega) F41.out.size ?_
              intro v9 W42 ho9 hg9 hb9
              rw [List.nil_append] at ho9
              have hg8 : w'.heap.size ≤ g41 := (World.ownsRow.lt EK41.out g41 rfl).1
              have F42 : Hid (Fr NoB w' W42) := Fr.grown F41.out hg9 (fun k e hk => by have e2 : g41 = k := Option.some.inj e; omega)
              obtain ⟨p42, q42, hv9⟩ := OwnE.form ho9
              subst hv9
              have VK42 := hid ho9
              have ET_42 : Hid (OwnI w'.heap.size W42 (.slice (some ⟨g38, 0, none⟩) 0 0) []) := row_carry EK41.out ET_41.out (by decide) hg9
              clear ho9 hg9 hb9 hg8
              refine wpList_nil ⟨rfl, fun _ => HS.out _ (F42.out.mono (fun _ _ e => e.elim)), ?_⟩
              (try simp only [Act.put, List.setIfInBounds_toArray, List.set_cons_zero, List.set_cons_succ])
              refine efft_st ?_
              refine efft_do (by rfl) ?_
              refine ap_ints_at _ rfl _ _ rfl w'.heap.size (.slice (some ⟨g38, 0, none⟩) 0 0) [] rfl ET_42.out NoB _ s.todo rfl (TD.out W42 F42.out) (by have := HB.out.2; simp only [List.length_nil]; omega) F42.out.size ?_
              intro v9 W43 ho9 hg9 hb9
              rw [List.nil_append] at ho9
              have hg8 : w'.heap.size ≤ g38 := (World.ownsRow.lt ET_42.out g38 rfl).1
              have F43 : Hid (Fr NoB w' W43) := Fr.grown F42.out hg9 (fun k e hk => by have e2 : g38 = k := Option.some.inj e; omega)
              obtain ⟨p43, q43, hv9⟩ := OwnI.form ho9
              subst hv9
              have VT43 := hid ho9
              have VK_43 : Hid (OwnN w'.heap.size W43 (.slice p42 dk.length q42) dk) := row_carry ET_42.out VK42.out (by decide) hg9
              clear ho9 hg9 hb9 hg8
              refine wpList_nil ⟨rfl, fun _ => HS.out _ (F43.out.mono (fun _ _ e => e.elim)), ?_⟩
              (try simp only [Act.put, List.setIfInBounds_toArray, List.set_cons_zero, List.set_cons_succ])
              obtain ⟨WL, h9⟩ : ∃ q, W43 = q := ⟨_, rfl⟩
              have FL : Hid (Fr NoB w' WL) := by rw [← h9]; exact F43
              have VKL : Hid (OwnN w'.heap.size WL (.slice p42 dk.length q42) dk) := by rw [← h9]; exact VK_43
              have VTL : Hid (OwnI w'.heap.size WL (.slice p43 s.todo.length q43) s.todo) := by rw [← h9]; exact VT43
              rw [h9]
              clear h9
              obtain ⟨pk, h9⟩ : ∃ q, p42 = q := ⟨_, rfl⟩
              rw [h9] at VKL ⊢
              clear h9
              obtain ⟨qk, h9⟩ : ∃ q, q42 = q := ⟨_, rfl⟩
              rw [h9] at VKL ⊢
              clear h9
              obtain ⟨pt, h9⟩ : ∃ q, p43 = q := ⟨_, rfl⟩
              rw [h9] at VTL ⊢
              clear h9
              obtain ⟨qt, h9⟩ : ∃ q, q43 = q := ⟨_, rfl⟩
              rw [h9] at VTL ⊢
              clear h9
            case' y39 =>
              refine efft_alt ?x44 ?y44
              case' x44 =>
                refine efft_run (v := .slice (some ⟨W38.heap.size, 0, none⟩) 0 0) (W' := W38.alloc (.cells #[] 30)) (by rfl) (by rfl) (by go_simp) (fun _ => HS.out _ ((F38.out.alloc _).mono (fun _ _ e => e.elim))) ?_
                (try simp only [Act.put, List.setIfInBounds_toArray, List.set_cons_zero, List.set_cons_succ])
                have F45 : Hid (Fr NoB w' (W38.alloc (.cells #[] 30))) := F38.out.alloc _
                have EK45 : Hid (OwnE nsCells 5 30 w'.heap.size (W38.alloc (.cells #[] 30)) (.slice (some ⟨W38.heap.size, 0, none⟩) 0 0) []) := own_none _ _ F38.out.size
                have ET_45 := hid (OwnI.fr ET38.out ((Fr.refl NoB W38).alloc (.cells #[] 30)) (fun _ _ e => e))
                obtain ⟨W45, h9⟩ : ∃ q, W38.alloc (.cells #[] 30) = q := ⟨_, rfl⟩
                rw [h9] at F45 EK45 ET_45 ⊢
                clear h9
                obtain ⟨g45, h9⟩ : ∃ q, W38.heap.size = q := ⟨_, rfl⟩
                rw [h9] at EK45 ⊢
                clear h9
                refine efft_st ?_
                refine efft_call 46 #[.pointer (some ⟨h.bs, 0, none⟩)] (by rfl) (by rfl) (by intro w9; go_simp) ?_
                refine (ufmark_any (A1.out.quiet F45.out).g.sets).mono ?_
                rintro e q9 ⟨rfl, h9⟩
                rw [h9]
                clear h9
                refine ⟨_, rfl, fun _ => HS.out _ (F45.out.mono (fun _ _ e => e.elim)), ?_⟩
                (try simp only [Act.put, List.setIfInBounds_toArray, List.set_cons_zero, List.set_cons_succ])
                refine efft_st ?_
                refine efft_do (by rfl) ?_
                refine ap_nodes _ rfl _ _ rfl w'.heap.size (.slice (some ⟨g45, 0, none⟩) 0 0) [] rfl EK45.out NoB _ dk rfl (KD.out W45 F45.out) (by have := HB.out.1; simp only [List.length_nil]; omega) F45.out.size ?_
                intro v9 W47 ho9 hg9 hb9
                rw [List.nil_append] at ho9
                have hg8 : w'.heap.size ≤ g45 := (World.ownsRow.lt EK45.out g45 rfl).1
                have F47 : Hid (Fr NoB w' W47) := Fr.grown F45.out hg9 (fun k e hk => by have e2 : g45 = k := Option.some.inj e; omega)
                obtain ⟨p47, q47, hv9⟩ := OwnE.form ho9
                subst hv9
                have VK47 := hid ho9
                have ET_47 : Hid (OwnI w'.heap.size W47 (.slice (some ⟨g38, 0, none⟩) 0 0) []) := row_carry EK45.out ET_45.out (by decide) hg9
                clear ho9 hg9 hb9 hg8
                refine wpList_nil ⟨rfl, fun _ => HS.out _ (F47.out.mono (fun _ _ e => e.elim)), ?_⟩
                (try simp only [Act.put, List.setIfInBounds_toArray, List.set_cons_zero, List.set_cons_succ])
                refine efft_st ?_
                refine efft_do (by rfl) ?_
                refine ap_ints_at _ rfl _ _ rfl w'.heap.size (.slice (some ⟨g38, 0, none⟩) 0 0) [] rfl ET_47.out NoB _ s.todo rfl (TD.out W47 F47.out) (by have := HB.out.2; simp only [List.length_nil]; omega) F47.out.size ?_
                intro v9 W48 ho9 hg9 hb9
                rw [List.nil_append] at ho9
                have hg8 : w'.heap.size ≤ g38 := (World.ownsRow.lt ET_47.out g38 rfl).1
                have F48 : Hid (Fr NoB w' W48) := Fr.grown F47.out hg9 (fun k e hk => by have e2 : g38 = k := Option.some.inj e; omega)
                obtain ⟨p48, q48, hv9⟩ := OwnI.form ho9
                subst hv9
                have VT48 := hid ho9
                have VK_48 : Hid (OwnN w'.heap.size W48 (.slice p47 dk.length q47) dk) := row_carry ET_47.out VK47.out (by decide) hg9
                clear ho9 hg9 hb9 hg8
                refine wpList_nil ⟨rfl, fun _ => HS.out _ (F48.out.mono (fun _ _ e => e.elim)), ?_⟩
                (try simp only [Act.put, List.setIfInBounds_toArray, List.set_cons_zero, List.set_cons_succ])
                obtain ⟨WL, h9⟩ : ∃ q, W48 = q := ⟨_, rfl⟩
                have FL : Hid (Fr NoB w' WL) := by rw [← h9]; exact F48
                have VKL : Hid (OwnN w'.heap.size WL (.slice p47 dk.length q47) dk) := by rw [← h9]; exact VK_48
                have VTL : Hid (OwnI w'.heap.size WL (.slice p48 s.todo.length q48) s.todo) := by rw [← h9]; exact VT48
                rw [h9]
                clear h9
                obtain ⟨pk, h9⟩ : ∃ q, p47 = q := ⟨_, rfl⟩
                rw [h9] at VKL ⊢
                clear h9
                obtain ⟨qk, h9⟩ : ∃ q, q47 = q := ⟨_, rfl⟩
                rw [h9] at VKL ⊢
                clear h9
                obtain ⟨pt, h9⟩ : ∃ q, p48 = q := ⟨_, rfl⟩
                rw [h9] at VTL ⊢
                clear h9
                obtain ⟨qt, h9⟩ : ∃ q, q48 = q := ⟨_, rfl⟩
                rw [h9] at VTL ⊢
                clear h9
              case' y44 =>
                exact efft_fin
          case' y37 =>
            exact efft_fin
    case' y1 =>
      refine efft_alt ?x49 ?y49
      case' x49 =>
        refine efft_run (v := .slice (some ⟨W0.heap.size, 0, none⟩) 0 0) (W' := W0.alloc (.cells #[] 30)) (by rfl) (by rfl) (by go_simp) (fun _ => HS.out _ ((F0.out.alloc _).mono (fun _ _ e => e.elim))) ?_
        (try simp only [Act.put, List.setIfInBounds_toArray, List.set_cons_zero, List.set_cons_succ])
        have F50 : Hid (Fr NoB w' (W0.alloc (.cells #[] 30))) := F0.out.alloc _
        have EK50 : Hid (OwnE nsCells 5 30 w'.heap.size (W0.alloc (.cells #[] 30)) (.slice (some ⟨W0.heap.size, 0, none⟩) 0 0) []) := own_none _ _ F0.out.size
        obtain ⟨W50, h9⟩ : ∃ q, W0.alloc (.cells #[] 30) = q := ⟨_, rfl⟩
        rw [h9] at F50 EK50 ⊢
        clear h9
        obtain ⟨g50, h9⟩ : ∃ q, W0.heap.size = q := ⟨_, rfl⟩
        rw [h9] at EK50 ⊢
        clear h9
        refine efft_br ?_
        refine efft_alt ?x51 ?y51
        case' x51 =>
          refine efft_call 45 #[.pointer (some ⟨h.bf, 0, none⟩)] (by rfl) (by rfl) (by intro w9; go_simp) ?_
          refine (flen_any (A1.out.quiet F50.out).g.proofs).mono ?_
          rintro e q9 ⟨rfl, h9⟩
          rw [h9]
          clear h9
          refine ⟨_, rfl, fun _ => HS.out _ (F50.out.mono (fun _ _ e => e.elim)), ?_⟩
          (try simp only [Act.put, List.setIfInBounds_toArray, List.set_cons_zero, List.set_cons_succ])
          refine efft_br ?_
          refine efft_alt ?x53 ?y53
          case' x53 =>
            refine efft_call 46 #[.pointer (some ⟨h.bs, 0, none⟩)] (by rfl) (by rfl) (by intro w9; go_simp) ?_
            refine (ufmark_any (A1.out.quiet F50.out).g.sets).mono ?_
            rintro e q9 ⟨rfl, h9⟩
            rw [h9]
            clear h9
            refine ⟨_, rfl, fun _ => HS.out _ (F50.out.mono (fun _ _ e => e.elim)), ?_⟩
            (try simp only [Act.put, List.setIfInBounds_toArray, List.set_cons_zero, List.set_cons_succ])
            refine efft_br ?_
            refine efft_alt ?x55 ?y55
            case' x55 =>
              refine efft_do (by rfl) ?_
              refine ap_nodes _ rfl _ _ rfl w'.heap.size (.slice (some ⟨g50, 0, none⟩) 0 0) [] rfl EK50.out NoB _ dk rfl (KD.out W50 F50.out) (by have := HB.out.1; simp only [List.length_nil]; omega) F50.out.size ?_
              intro v9 W56 ho9 hg9 hb9
              rw [List.nil_append] at ho9
              have hg8 : w'.heap.size ≤ g50 := (World.ownsRow.lt EK50.out g50 rfl).1
              have F56 : Hid (Fr NoB w' W56) := Fr.grown F50.out hg9 (fun k e hk => by have e2 : g50 = k := Option.some.inj e; omega)
              obtain ⟨p56, q56, hv9⟩ := OwnE.form ho9
              subst hv9
              have VK56 := hid ho9
              clear ho9 hg9 hb9 hg8
              refine wpList_nil ⟨rfl, fun _ => HS.out _ (F56.out.mono (fun _ _ e => e.elim)), ?_⟩
              (try simp only [Act.put, List.setIfInBounds_toArray, List.set_cons_zero, List.set_cons_succ])
              refine efft_st ?_
              refine efft_run (v := .slice (some ⟨W56.heap.size, 0, none⟩) 0 0) (W' := W56.alloc (.cells #[] 3)) (by rfl) (by rfl) (by go_simp) (fun _ => HS.out _ ((F56.out.alloc _).mono (fun _ _ e => e.elim))) ?_
              (try simp only [Act.put, List.setIfInBounds_toArray, List.set_cons_zero, List.set_cons_succ])
              have F57 : Hid (Fr NoB w' (W56.alloc (.cells #[] 3))) := F56.out.alloc _
              have ET57 : Hid (OwnI w'.heap.size (W56.alloc (.cells #[] 3)) (.slice (some ⟨W56.heap.size, 0, none⟩) 0 0) []) := own_noneI _ _ F56.out.size
              have VK_57 := hid (OwnE.step VK56.out ((Fr.refl NoB W56).alloc (.cells #[] 3)))
              obtain ⟨W57, h9⟩ : ∃ q, W56.alloc (.cells #[] 3) = q := ⟨_, rfl⟩
              rw [h9] at F57 ET57 VK_57 ⊢
              clear h9
              obtain ⟨g57, h9⟩ : ∃ q, W56.heap.size = q := ⟨_, rfl⟩
              rw [h9] at ET57 ⊢
              clear h9
              refine efft_st ?_
              refine efft_do (by rfl) ?_
              refine ap_ints_at _ rfl _ _ rfl w'.heap.size (.slice (some ⟨g57, 0, none⟩) 0 0) [] rfl ET57.out NoB _ s.todo rfl (TD.out W57 F57.out) (by have := HB.out.2; simp only [List.length_nil]; omega) F57.out.size ?_
              intro v9 W58 ho9 hg9 hb9
              rw [List.nil_append] at ho9
              have hg8 : w'.heap.size ≤ g57 := (World.ownsRow.lt ET57.out g57 rfl).1
              have F58 : Hid (Fr NoB w' W58) := Fr.grown F57.out hg9 (fun k e hk => by have e2 : g57 = k := Option.some.inj e; omega)
              obtain ⟨p58, q58, hv9⟩ := OwnI.form ho9
              subst hv9
              have VT58 := hid ho9
              have VK_58 : Hid (OwnN w'.heap.size W58 (.slice p56 dk.length q56) dk) := row_carry ET57.out VK_57.out (by decide) hg9
              clear ho9 hg9 hb9 hg8
              refine wpList_nil ⟨rfl, fun _ => HS.out _ (F58.out.mono (fun _ _ e => e.elim)), ?_⟩
              (try simp only [Act.put, List.setIfInBounds_toArray, List.set_cons_zero, List.set_cons_succ])
              obtain ⟨WL, h9⟩ : ∃ q, W58 = q := ⟨_, rfl⟩
              have FL : Hid (Fr NoB w' WL) := by rw [← h9]; exact F58
              have VKL : Hid (OwnN w'.heap.size WL (.slice p56 dk.length q56) dk) := by rw [← h9]; exact VK_58
              have VTL : Hid (OwnI w'.heap.size WL (.slice p58 s.todo.length q58) s.todo) := by rw [← h9]; exact VT58
              rw [h9]
              clear h9
              obtain ⟨pk, h9⟩ : ∃ q, p56 = q := ⟨_, rfl⟩
              rw [h9] at VKL ⊢
              clear h9
              obtain ⟨qk, h9⟩ : ∃ q, q56 = q := ⟨_, rfl⟩
              rw [h9] at VKL ⊢
              clear h9
              obtain ⟨pt, h9⟩ : ∃ q, p58 = q := ⟨_, rfl⟩
              rw [h9] at VTL ⊢
              clear h9
              obtain ⟨qt, h9⟩ : ∃ q, q58 = q := ⟨_, rfl⟩
              rw [h9] at VTL ⊢
              clear h9
            case' y55 =>
              refine efft_alt ?x59 ?y59
              case' x59 =>
                refine efft_run (v := .slice (some ⟨W50.heap.size, 0, none⟩) 0 0) (W' := W50.alloc (.cells #[] 3)) (by rfl) (by rfl) (by go_simp) (fun _ => HS.out _ ((F50.out.alloc _).mono (fun _ _ e => e.elim))) ?_
                (try simp only [Act.put, List.setIfInBounds_toArray, List.set_cons_zero, List.set_cons_succ])
                have F60 : Hid (Fr NoB w' (W50.alloc (.cells #[] 3))) := F50.out.alloc _
                have ET60 : Hid (OwnI w'.heap.size (W50.alloc (.cells #[] 3)) (.slice (some ⟨W50.heap.size, 0, none⟩) 0 0) []) := own_noneI _ _ F50.out.size
                have EK_60 := hid (OwnE.step EK50.out ((Fr.refl NoB W50).alloc (.cells #[] 3)))
                obtain ⟨W60, h9⟩ : ∃ q, W50.alloc (.cells #[] 3) = q := ⟨_, rfl⟩
                rw [h9] at F60 ET60 EK_60 ⊢
                clear h9
                obtain ⟨g60, h9⟩ : ∃ q, W50.heap.size = q := ⟨_, rfl⟩
                rw [h9] at ET60 ⊢
                clear h9
                refine efft_st ?_
                refine efft_do (by rfl) ?_
                refine ap_nodes _ rfl _ _ rfl w'.heap.size (.slice (some ⟨g50, 0, none⟩) 0 0) [] rfl EK_60.out NoB _ dk rfl (KD.out W60 F60.out) (by have := HB.out.1; simp only [List.length_nil]; omega) F60.out.size ?_
                intro v9 W61 ho9 hg9 hb9
                rw [List.nil_append] at ho9
                have hg8 : w'.heap.size ≤ g50 := (World.ownsRow.lt EK_60.out g50 rfl).1
                have F61 : Hid (Fr NoB w' W61) := Fr.grown F60.out hg9 (fun k e hk => by have e2 : g50 = k := Option.some.inj e; omega)
                obtain ⟨p61, q61, hv9⟩ := OwnE.form ho9
                subst hv9
                have VK61 := hid ho9
                have ET_61 : Hid (OwnI w'.heap.size W61 (.slice (some ⟨g60, 0, none⟩) 0 0) []) := row_carry EK_60.out ET60.out (by decide) hg9
                clear ho9 hg9 hb9 hg8
                refine wpList_nil ⟨rfl, fun _ => HS.out _ (F61.out.mono (fun _ _ e => e.elim)), ?_⟩
                (try simp only [Act.put, List.setIfInBounds_toArray, List.set_cons_zero, List.set_cons_succ])
                refine efft_st ?_
                refine efft_do (by rfl) ?_
                refine ap_ints_at _ rfl _ _ rfl w'.heap.size (.slice (some ⟨g60, 0, none⟩) 0 0) [] rfl ET_61.out NoB _ s.todo rfl (TD.out W61 F61.out) (by have := HB.out.2; simp only [List.length_nil]; omega) F61.out.size ?_
                intro v9 W62 ho9 hg9 hb9
                rw [List.nil_append] at ho9
                have hg8 : w'.heap.size ≤ g60 := (World.ownsRow.lt ET_61.out g60 rfl).1
                have F62 : Hid (Fr NoB w' W62) := Fr.grown F61.out hg9 (fun k e hk => by have e2 : g60 = k := Option.some.inj e; omega)
                obtain ⟨p62, q62, hv9⟩ := OwnI.form ho9
                subst hv9
                have VT62 := hid ho9
                have VK_62 : Hid (OwnN w'.heap.size W62 (.slice p61 dk.length q61) dk) := row_carry ET_61.out VK61.out (by decide) hg9
                clear ho9 hg9 hb9 hg8
                refine wpList_nil ⟨rfl, fun _ => HS.out _ (F62.out.mono (fun _ _ e => e.elim)), ?_⟩
                (try simp only [Act.put, List.setIfInBounds_toArray, List.set_cons_zero, List.set_cons_succ])
                obtain ⟨WL, h9⟩ : ∃ q, W62 = q := ⟨_, rfl⟩
                have FL : Hid (Fr NoB w' WL) := by rw [← h9]; exact F62
                have VKL : Hid (OwnN w'.heap.size WL (.slice p61 dk.length q61) dk) := by rw [← h9]; exact VK_62
                have VTL : Hid (OwnI w'.heap.size WL (.slice p62 s.todo.length q62) s.todo) := by rw [← h9]; exact VT62
                rw [h9]
                clear h9
                obtain ⟨pk, h9⟩ : ∃ q, p61 = q := ⟨_, rfl⟩
                rw [h9] at VKL ⊢
                clear h9
                obtain ⟨qk, h9⟩ : ∃ q, q61 = q := ⟨_, rfl⟩
                rw [h9] at VKL ⊢
                clear h9
                obtain ⟨pt, h9⟩ : ∃ q, p62 = q := ⟨_, rfl⟩
                rw [h9] at VTL ⊢
                clear h9
                obtain ⟨qt, h9⟩ : ∃ q, q62 = q := ⟨_, rfl⟩
                rw [h9] at VTL ⊢
                clear h9
              case' y59 =>
                exact efft_fin
          case' y53 =>
            refine efft_alt ?x63 ?y63
            case' x63 =>
              refine efft_run (v := .slice (some ⟨W50.heap.size, 0, none⟩) 0 0) (W' := W50.alloc (.cells #[] 3)) (by rfl) (by rfl) (by go_simp) (fun _ => HS.out _ ((F50.out.alloc _).mono (fun _ _ e => e.elim))) ?_
              (try simp only [Act.put, List.setIfInBounds_toArray, List.set_cons_zero, List.set_cons_succ])
              have F64 : Hid (Fr NoB w' (W50.alloc (.cells #[] 3))) := F50.out.alloc _
              have ET64 : Hid (OwnI w'.heap.size (W50.alloc (.cells #[] 3)) (.slice (some ⟨W50.heap.size, 0, none⟩) 0 0) []) := own_noneI _ _ F50.out.size
              have EK_64 := hid (OwnE.step EK50.out ((Fr.refl NoB W50).alloc (.cells #[] 3)))
              obtain ⟨W64, h9⟩ : ∃ q, W50.alloc (.cells #[] 3) = q := ⟨_, rfl⟩
              rw [h9] at F64 ET64 EK_64 ⊢
              clear h9
              obtain ⟨g64, h9⟩ : ∃ q, W50.heap.size = q := ⟨_, rfl⟩
              rw [h9] at ET64 ⊢
              clear h9
              refine efft_st ?_
              refine efft_call 46 #[.pointer (some ⟨h.bs, 0, none⟩)] (by rfl) (by rfl) (by intro w9; go_simp) ?_
              refine (ufmark_any (A1.out.quiet F64.out).g.sets).mono ?_
              rintro e q9 ⟨rfl, h9⟩
              rw [h9]
              clear h9
              refine ⟨_, rfl, fun _ => HS.out _ (F64.out.mono (fun _ _ e => e.elim)), ?_⟩
              (try simp only [Act.put, List.setIfInBounds_toArray, List.set_cons_zero, List.set_cons_succ])
              refine efft_st ?_
              refine efft_do (by rfl) ?_
              refine ap_nodes _ rfl _ _ rfl w'.heap.size (.slice (some ⟨g50, 0, none⟩) 0 0) [] rfl EK_64.out NoB _ dk rfl (KD.out W64 F64.out) (by have := HB.out.1; simp only [List.length_nil]; omega) F64.out.size ?_
              intro v9 W66 ho9 hg9 hb9
              rw [List.nil_append] at ho9
              have hg8 : w'.heap.size ≤ g50 := (World.ownsRow.lt EK_64.out g50 rfl).1
              have F66 : Hid (Fr NoB w' W66) := Fr.grown F64.out hg9 (fun k e hk => by have e2 : g50 = k := Option.some.inj e; omega)
              obtain ⟨p66, q66, hv9⟩ := OwnE.form ho9
              subst hv9
              have VK66 := hid ho9
              have ET_66 : Hid (OwnI w'.heap.size W66 (.slice (some ⟨g64, 0, none⟩) 0 0) []) := row_carry EK_64.out ET64.out (by decide) hg9
              clear ho9 hg9 hb9 hg8
              refine wpList_nil ⟨rfl, fun _ => HS.out _ (F66.out.mono (fun _ _ e => e.elim)), ?_⟩
              (try simp only [Act.put, List.setIfInBounds_toArray, List.set_cons_zero, List.set_cons_succ])
              refine efft_st ?_
              refine efft_do (by rfl) ?_
              refine ap_ints_at _ rfl _ _ rfl w'.heap.size (.slice (some ⟨g64, 0, none⟩) 0 0) [] rfl ET_66.out NoB _ s.todo rfl (TD.out W66 F66.out) (by have := HB.out.2; simp only [List.length_nil]; omega) F66.out.size ?_
              intro v9 W67 ho9 hg9 hb9
              rw [List.nil_append] at ho9
              have hg8 : w'.heap.size ≤ g64 := (World.ownsRow.lt ET_66.out g64 rfl).1
              have F67 : Hid (Fr NoB w' W67) := Fr.grown F66.out hg9 (fun k e hk => by have e2 : g64 = k := Option.some.inj e; omega)
              obtain ⟨p67, q67, hv9⟩ := OwnI.form ho9
              subst hv9
              have VT67 := hid ho9
              have VK_67 : Hid (OwnN w'.heap.size W67 (.slice p66 dk.length q66) dk) := row_carry ET_66.out VK66.out (by decide) hg9
              clear ho9 hg9 hb9 hg8
              refine wpList_nil ⟨rfl, fun _ => HS.out _ (F67.out.mono (fun _ _ e => e.elim)), ?_⟩
              (try simp only [Act.put, List.setIfInBounds_toArray, List.set_cons_zero, List.set_cons_succ])
              obtain ⟨WL, h9⟩ : ∃ q, W67 = q := ⟨_, rfl⟩
              have FL : Hid (Fr NoB w' WL) := by rw [← h9]; exact F67
              have VKL : Hid (OwnN w'.heap.size WL (.slice p66 dk.length q66) dk) := by rw [← h9]; exact VK_67
              have VTL : Hid (OwnI w'.heap.size WL (.slice p67 s.todo.length q67) s.todo) := by rw [← h9]; exact VT67
              rw [h9]
              clear h9
              obtain ⟨pk, h9⟩ : ∃ q, p66 = q := ⟨_, rfl⟩
              rw [h9] at VKL ⊢
              clear h9
              obtain ⟨qk, h9⟩ : ∃ q, q66 = q := ⟨_, rfl⟩
              rw [h9] at VKL ⊢
              clear h9
              obtain ⟨pt, h9⟩ : ∃ q, p67 = q := ⟨_, rfl⟩
              rw [h9] at VTL ⊢
              clear h9
              obtain ⟨qt, h9⟩ : ∃ q, q67 = q := ⟨_, rfl⟩
              rw [h9] at VTL ⊢
              clear h9
            case' y63 =>
              exact efft_fin
        case' y51 =>
          refine efft_alt ?x68 ?y68
          case' x68 =>
            refine efft_run (v := .slice (some ⟨W50.heap.size, 0, none⟩) 0 0) (W' := W50.alloc (.cells #[] 3)) (by rfl) (by rfl) (by go_simp) (fun _ => HS.out _ ((F50.out.alloc _).mono (fun _ _ e => e.elim))) ?_
            (try simp only [Act.put, List.setIfInBounds_toArray, List.set_cons_zero, List.set_cons_succ])
            have F69 : Hid (Fr NoB w' (W50.alloc (.cells #[] 3))) := F50.out.alloc _
            have ET69 : Hid (OwnI w'.heap.size (W50.alloc (.cells #[] 3)) (.slice (some ⟨W50.heap.size, 0, none⟩) 0 0) []) := own_noneI _ _ F50.out.size
            have EK_69 := hid (OwnE.step EK50.out ((Fr.refl NoB W50).alloc (.cells #[] 3)))
            obtain ⟨W69, h9⟩ : ∃ q, W50.alloc (.cells #[] 3) = q := ⟨_, rfl⟩
            rw [h9] at F69 ET69 EK_69 ⊢
            clear h9
            obtain ⟨g69, h9⟩ : ∃ q, W50.heap.size = q := ⟨_, rfl⟩
            rw [h9] at ET69 ⊢
            clear h9
            refine efft_st ?_
            refine efft_call 45 #[.pointer (some ⟨h.bf, 0, none⟩)] (by rfl) (by rfl) (by intro w9; go_simp) ?_
            refine (flen_any (A1.out.quiet F69.out).g.proofs).mono ?_
            rintro e q9 ⟨rfl, h9⟩
            rw [h9]
            clear h9
            refine ⟨_, rfl, fun _ => HS.out _ (F69.out.mono (fun _ _ e => e.elim)), ?_⟩
            (try simp only [Act.put, List.setIfInBounds_toArray, List.set_cons_zero, List.set_cons_succ])
            refine efft_st ?_
            refine efft_call 46 #[.pointer (some ⟨h.bs, 0, none⟩)] (by rfl) (by rfl) (by intro w9; go_simp) ?_
            refine (ufmark_any (A1.out.quiet F69.out).g.sets).mono ?_
            rintro e q9 ⟨rfl, h9⟩
            rw [h9]
            clear h9
            refine ⟨_, rfl, fun _ => HS.out _ (F69.out.mono (fun _ _ e => e.elim)), ?_⟩
            (try simp only [Act.put, List.setIfInBounds_toArray, List.set_cons_zero, List.set_cons_succ])
            refine efft_st ?_
            refine efft_do (by rfl) ?_
            refine ap_nodes _ rfl _ _ rfl w'.heap.size (.slice (some ⟨g50, 0, none⟩) 0 0) [] rfl EK_69.out NoB _ dk rfl (KD.out W69 F69.out) (by have := HB.out.1; simp only [List.length_nil]; omega) F69.out.size ?_
            intro v9 W72 ho9 hg9 hb9
            rw [List.nil_append] at ho9
            have hg8 : w'.heap.size ≤ g50 := (World.ownsRow.lt EK_69.out g50 rfl).1
            have F72 : Hid (Fr NoB w' W72) := Fr.grown F69.out hg9 (fun k e hk => by have e2 : g50 = k := Option.some.inj e; omega)
            obtain ⟨p72, q72, hv9⟩ := OwnE.form ho9
            subst hv9
            have VK72 := hid ho9
            have ET_72 : Hid (OwnI w'.heap.size W72 (.slice (some ⟨g69, 0, none⟩) 0 0) []) := row_carry EK_69.out ET69.out (by decide) hg9
            clear ho9 hg9 hb9 hg8
            refine wpList_nil ⟨rfl, fun _ => HS.out _ (F72.out.mono (fun _ _ e => e.elim)), ?_⟩
            (try simp only [Act.put, List.setIfInBounds_toArray, List.set_cons_zero, List.set_cons_succ])
            refine efft_st ?_
            refine efft_do (by rfl) ?_
            refine ap_ints_at _ rfl _ _ rfl w'.heap.size (.slice (some ⟨g69, 0, none⟩) 0 0) [] rfl ET_72.out NoB _ s.todo rfl (TD.out W72 F72.out) (by have := HB.out.2; simp only [List.length_nil]; omega) F72.out.size ?_
            intro v9 W73 ho9 hg9 hb9
            rw [List.nil_append] at ho9
            have hg8 : w'.heap.size ≤ g69 := (World.ownsRow.lt ET_72.out g69 rfl).1
            have F73 : Hid (Fr NoB w' W73) := Fr.grown F72.out hg9 (fun k e hk => by have e2 : g69 = k := Option.some.inj e; omega)
            obtain ⟨p73, q73, hv9⟩ := OwnI.form ho9
            subst hv9
            have VT73 := hid ho9
            have VK_73 : Hid (OwnN w'.heap.size W73 (.slice p72 dk.length q72) dk) := row_carry ET_72.out VK72.out (by decide) hg9
            clear ho9 hg9 hb9 hg8
            refine wpList_nil ⟨rfl, fun _ => HS.out _ (F73.out.mono (fun _ _ e => e.elim)), ?_⟩
            (try simp only [Act.put, List.setIfInBounds_toArray, List.set_cons_zero, List.set_cons_succ])
            obtain ⟨WL, h9⟩ : ∃ q, W73 = q := ⟨_, rfl⟩
            have FL : Hid (Fr NoB w' WL) := by rw [← h9]; exact F73
            have VKL : Hid (OwnN w'.heap.size WL (.slice p72 dk.length q72) dk) := by rw [← h9]; exact VK_73
            have VTL : Hid (OwnI w'.heap.size WL (.slice p73 s.todo.length q73) s.todo) := by rw [← h9]; exact VT73
            rw [h9]
            clear h9
            obtain ⟨pk, h9⟩ : ∃ q, p72 = q := ⟨_, rfl⟩
            rw [h9] at VKL ⊢
            clear h9
            obtain ⟨qk, h9⟩ : ∃ q, q72 = q := ⟨_, rfl⟩
            rw [h9] at VKL ⊢
            clear h9
            obtain ⟨pt, h9⟩ : ∃ q, p73 = q := ⟨_, rfl⟩
            rw [h9] at VTL ⊢
            clear h9
            obtain ⟨qt, h9⟩ : ∃ q, q73 = q := ⟨_, rfl⟩
            rw [h9] at VTL ⊢
            clear h9
          case' y68 =>
            exact efft_fin
      case' y49 =>
        refine efft_alt ?x74 ?y74
        case' x74 =>
          refine efft_run (v := .slice (some ⟨W0.heap.size, 0, none⟩) 0 0) (W' := W0.alloc (.cells #[] 3)) (by rfl) (by rfl) (by go_simp) (fun _ => HS.out _ ((F0.out.alloc _).mono (fun _ _ e => e.elim))) ?_
          (try simp only [Act.put, List.setIfInBounds_toArray, List.set_cons_zero, List.set_cons_succ])
          have F75 : Hid (Fr NoB w' (W0.alloc (.cells #[] 3))) := F0.out.alloc _
          have ET75 : Hid (OwnI w'.heap.size (W0.alloc (.cells #[] 3)) (.slice (some ⟨W0.heap.size, 0, none⟩) 0 0) []) := own_noneI _ _ F0.out.size
          obtain ⟨W75, h9⟩ : ∃ q, W0.alloc (.cells #[] 3) = q := ⟨_, rfl⟩
          rw [h9] at F75 ET75 ⊢
          clear h9
          obtain ⟨g75, h9⟩ : ∃ q, W0.heap.size = q := ⟨_, rfl⟩
          rw [h9] at ET75 ⊢
          clear h9
          refine efft_br ?_
          refine efft_alt ?x76 ?y76
          case' x76 =>
            refine efft_call 45 #[.pointer (some ⟨h.bf, 0, none⟩)] (by rfl) (by rfl) (by intro w9; go_simp) ?_
            refine (flen_any (A1.out.quiet F75.out).g.proofs).mono ?_
            rintro e q9 ⟨rfl, h9⟩
            rw [h9]
            clear h9
            refine ⟨_, rfl, fun _ => HS.out _ (F75.out.mono (fun _ _ e => e.elim)), ?_⟩
            (try simp only [Act.put, List.setIfInBounds_toArray, List.set_cons_zero, List.set_cons_succ])
            refine efft_br ?_
            refine efft_alt ?x78 ?y78
            case' x78 =>
              refine efft_call 46 #[.pointer (some ⟨h.bs, 0, none⟩)] (by rfl) (by rfl) (by intro w9; go_simp) ?_
              refine (ufmark_any (A1.out.quiet F75.out).g.sets).mono ?_
              rintro e q9 ⟨rfl, h9⟩
              rw [h9]
              clear h9
              refine ⟨_, rfl, fun _ => HS.out _ (F75.out.mono (fun _ _ e => e.elim)), ?_⟩
              (try simp only [Act.put, List.setIfInBounds_toArray, List.set_cons_zero, List.set_cons_succ])
              refine efft_st ?_
              refine efft_run (v := .slice (some ⟨W75.heap.size, 0, none⟩) 0 0) (W' := W75.alloc (.cells #[] 30)) (by rfl) (by rfl) (by go_simp) (fun _ => HS.out _ ((F75.out.alloc _).mono (fun _ _ e => e.elim))) ?_
              (try simp only [Act.put, List.setIfInBounds_toArray, List.set_cons_zero, List.set_cons_succ])
              have F80 : Hid (Fr NoB w' (W75.alloc (.cells #[] 30))) := F75.out.alloc _
              have EK80 : Hid (OwnE nsCells 5 30 w'.heap.size (W75.alloc (.cells #[] 30)) (.slice (some ⟨W75.heap.size, 0, none⟩) 0 0) []) := own_none _ _ F75.out.size
              have ET_80 := hid (OwnI.fr ET75.out ((Fr.refl NoB W75).alloc (.cells #[] 30)) (fun _ _ e => e))
              obtain ⟨W80, h9⟩ : ∃ q, W75.alloc (.cells #[] 30) = q := ⟨_, rfl⟩
              rw [h9] at F80 EK80 ET_80 ⊢
              clear h9
              obtain ⟨g80, h9⟩ : ∃ q, W75.heap.size = q := ⟨_, rfl⟩
              rw [h9] at EK80 ⊢
              clear h9
              refine efft_st ?_
              refine efft_do (by rfl) ?_
              refine ap_nodes _ rfl _ _ rfl w'.heap.size (.slice (some ⟨g80, 0, none⟩) 0 0) [] rfl EK80.out NoB _ dk rfl (KD.out W80 F80.out) (by have := HB.out.1; simp only [List.length_nil]; omega) F80.out.size ?_
              intro v9 W81 ho9 hg9 hb9
              rw [List.nil_append] at ho9
              have hg8 : w'.heap.size ≤ g80 := (World.ownsRow.lt EK80.out g80 rfl).1
              have F81 : Hid (Fr NoB w' W81) := Fr.grown F80.out hg9 (fun k e hk => by have e2 : g80 = k := Option.some.inj e; omega)
              obtain ⟨p81, q81, hv9⟩ := OwnE.form ho9
              subst hv9
              have VK81 := hid ho9
              have ET_81 : Hid (OwnI w'.heap.size W81 (.slice (some ⟨g75, 0, none⟩) 0 0) []) := row_carry EK80.out ET_80.out (by decide) hg9
              clear ho9 hg9 hb9 hg8
              refine wpList_nil ⟨rfl, fun _ => HS.out _ (F81.out.mono (fun _ _ e => e.elim)), ?_⟩
              (try simp only [Act.put, List.setIfInBounds_toArray, List.set_cons_zero, List.set_cons_succ])
              refine efft_st ?_
              refine efft_do (by rfl) ?_
              refine ap_ints_at _ rfl _ _ rfl w'.heap.size (.slice (some ⟨g75, 0, none⟩) 0 0) [] rfl ET_81.out NoB _ s.todo rfl (TD.out W81 F81.out) (by have := HB.out.2; simp only [List.length_nil]; omega) F81.out.size ?_
              intro v9 W82 ho9 hg9 hb9
              rw [List.nil_append] at ho9
              have hg8 : w'.heap.size ≤ g75 := (World.ownsRow.lt ET_81.out g75 rfl).1
              have F82 : Hid (Fr NoB w' W82) := Fr.grown F81.out hg9 (fun k e hk => by have e2 : g75 = k := Option.some.inj e; omega)
              obtain ⟨p82, q82, hv9⟩ := OwnI.form ho9
              subst hv9
              have VT82 := hid ho9
              have VK_82 : Hid (OwnN w'.heap.size W82 (.slice p81 dk.length q81) dk) := row_carry ET_81.out VK81.out (by decide) hg9
              clear ho9 hg9 hb9 hg8
              refine wpList_nil ⟨rfl, fun _ => HS.out _ (F82.out.mono (fun _ _ e => e.elim)), ?_⟩
              (try simp only [Act.put, List.setIfInBounds_toArray, List.set_cons_zero, List.set_cons_succ])
              obtain ⟨WL, h9⟩ : ∃ q, W82 = q := ⟨_, rfl⟩
              have FL : Hid (Fr NoB w' WL) := by rw [← h9]; exact F82
              have VKL : Hid (OwnN w'.heap.size WL (.slice p81 dk.length q81) dk) := by rw [← h9]; exact VK_82
              have VTL : Hid (OwnI w'.heap.size WL (.slice p82 s.todo.length q82) s.todo) := by rw [← h9]; exact VT82
              rw [h9]
              clear h9
              obtain ⟨pk, h9⟩ : ∃ q, p81 = q := ⟨_, rfl⟩
              rw [h9] at VKL ⊢
              clear h9
              obtain ⟨qk, h9⟩ : ∃ q, q81 = q := ⟨_, rfl⟩
              rw [h9] at VKL ⊢
              clear h9
              obtain ⟨pt, h9⟩ : ∃ q, p82 = q := ⟨_, rfl⟩
              rw [h9] at VTL ⊢
              clear h9
              obtain ⟨qt, h9⟩ : ∃ q, q82 = q := ⟨_, rfl⟩
              rw [h9] at VTL ⊢
              clear h9
            case' y78 =>
              refine efft_alt ?x83 ?y83
              case' x83 =>
                refine efft_run (v := .slice (some ⟨W75.heap.size, 0, none⟩) 0 0) (W' := W75.alloc (.cells #[] 30)) (by rfl) (by rfl) (by go_simp) (fun _ => HS.out _ ((F75.out.alloc _).mono (fun _ _ e => e.elim))) ?_
                (try simp only [Act.put, List.setIfInBounds_toArray, List.set_cons_zero, List.set_cons_succ])
                have F84 : Hid (Fr NoB w' (W75.alloc (.cells #[] 30))) := F75.out.alloc _
                have EK84 : Hid (OwnE nsCells 5 30 w'.heap.size (W75.alloc (.cells #[] 30)) (.slice (some ⟨W75.heap.size, 0, none⟩) 0 0) []) := own_none _ _ F75.out.size
                have ET_84 := hid (OwnI.fr ET75.out ((Fr.refl NoB W75).alloc (.cells #[] 30)) (fun _ _ e => e))
                obtain ⟨W84, h9⟩ : ∃ q, W75.alloc (.cells #[] 30) = q := ⟨_, rfl⟩
                rw [h9] at F84 EK84 ET_84 ⊢
                clear h9
                obtain ⟨g84, h9⟩ : ∃ q, W75.heap.size = q := ⟨_, rfl⟩
                rw [h9] at EK84 ⊢
                clear h9
                refine efft_st ?_
                refine efft_call 46 #[.pointer (some ⟨h.bs, 0, none⟩)] (by rfl) (by rfl) (by intro w9; go_simp) ?_
                refine (ufmark_any (A1.out.quiet F84.out).g.sets).mono ?_
                rintro e q9 ⟨rfl, h9⟩
                rw [h9]
                clear h9
                refine ⟨_, rfl, fun _ => HS.out _ (F84.out.mono (fun _ _ e => e.elim)), ?_⟩
                (try simp only [Act.put, List.setIfInBounds_toArray, List.set_cons_zero, List.set_cons_succ])
                refine efft_st ?_
                refine efft_do (by rfl) ?_
                refine ap_nodes _ rfl _ _ rfl w'.heap.size (.slice (some ⟨g84, 0, none⟩) 0 0) [] rfl EK84.out NoB _ dk rfl (KD.out W84 F84.out) (by have := HB.out.1; simp only [List.length_nil]; omega) F84.out.size ?_
                intro v9 W86 ho9 hg9 hb9
                rw [List.nil_append] at ho9
                have hg8 : w'.heap.size ≤ g84 := (World.ownsRow.lt EK84.out g84 rfl).1
                have F86 : Hid (Fr NoB w' W86) := Fr.grown F84.out hg9 (fun k e hk => by have e2 : g84 = k := Option.some.inj e; omega)
                obtain ⟨p86, q86, hv9⟩ := OwnE.form ho9
                subst hv9
                have VK86 := hid ho9
                have ET_86 : Hid (OwnI w'.heap.size W86 (.slice (some ⟨g75, 0, none⟩) 0 0) []) := row_carry EK84.out ET_84.out (by decide) hg9
                clear ho9 hg9 hb9 hg8
                refine wpList_nil ⟨rfl, fun _ => HS.out _ (F86.out.mono (fun _ _ e => e.elim)), ?_⟩
                (try simp only [Act.put, List.setIfInBounds_toArray, List.set_cons_zero, List.set_cons_succ])
                refine efft_st ?_
                refine efft_do (by rfl) ?_
                refine ap_ints_at _ rfl _ _ rfl w'.heap.size (.slice (some ⟨g75, 0, none⟩) 0 0) [] rfl ET_86.out NoB _ s.todo rfl (TD.out W86 F86.out) (by have := HB.out.2; simp only [List.length_nil]; omega) F86.out.size ?_
                intro v9 W87 ho9 hg9 hb9
                rw [List.nil_append] at ho9
                have hg8 : w'.heap.size ≤ g75 := (World.ownsRow.lt ET_86.out g75 rfl).1
                have F87 : Hid (Fr NoB w' W87) := Fr.grown F86.out hg9 (fun k e hk => by have e2 : g75 = k := Option.some.inj e; omega)
                obtain ⟨p87, q87, hv9⟩ := OwnI.form ho9
                subst hv9
                have VT87 := hid ho9
                have VK_87 : Hid (OwnN w'.heap.size W87 (.slice p86 dk.length q86) dk) := row_carry ET_86.out VK86.out (by decide) hg9
                clear ho9 hg9 hb9 hg8
                refine wpList_nil ⟨rfl, fun _ => HS.out _ (F87.out.mono (fun _ _ e => e.elim)), ?_⟩
                (try simp only [Act.put, List.setIfInBounds_toArray, List.set_cons_zero, List.set_cons_succ])
                obtain ⟨WL, h9⟩ : ∃ q, W87 = q := ⟨_, rfl⟩
                have FL : Hid (Fr NoB w' WL) := by rw [← h9]; exact F87
                have VKL : Hid (OwnN w'.heap.size WL (.slice p86 dk.length q86) dk) := by rw [← h9]; exact VK_87
                have VTL : Hid (OwnI w'.heap.size WL (.slice p87 s.todo.length q87) s.todo) := by rw [← h9]; exact VT87
                rw [h9]
                clear h9
                obtain ⟨pk, h9⟩ : ∃ q, p86 = q := ⟨_, rfl⟩
                rw [h9] at VKL ⊢
                clear h9
                obtain ⟨qk, h9⟩ : ∃ q, q86 = q := ⟨_, rfl⟩
                rw [h9] at VKL ⊢
                clear h9
                obtain ⟨pt, h9⟩ : ∃ q, p87 = q := ⟨_, rfl⟩
                rw [h9] at VTL ⊢
                clear h9
                obtain ⟨qt, h9⟩ : ∃ q, q87 = q := ⟨_, rfl⟩
                rw [h9] at VTL ⊢
                clear h9
              case' y83 =>
                exact efft_fin
          case' y76 =>
            refine efft_alt ?x88 ?y88
            case' x88 =>
              refine efft_run (v := .slice (some ⟨W75.heap.size, 0, none⟩) 0 0) (W' := W75.alloc (.cells #[] 30)) (by rfl) (by rfl) (by go_simp) (fun _ => HS.out _ ((F75.out.alloc _).mono (fun _ _ e => e.elim))) ?_
              (try simp only [Act.put, List.setIfInBounds_toArray, List.set_cons_zero, List.set_cons_succ])
              have F89 : Hid (Fr NoB w' (W75.alloc (.cells #[] 30))) := F75.out.alloc _
              have EK89 : Hid (OwnE nsCells 5 30 w'.heap.size (W75.alloc (.cells #[] 30)) (.slice (some ⟨W75.heap.size, 0, none⟩) 0 0) []) := own_none _ _ F75.out.size
              have ET_89 := hid (OwnI.fr ET75.out ((Fr.refl NoB W75).alloc (.cells #[] 30)) (fun _ _ e => e))
              obtain ⟨W89, h9⟩ : ∃ q, W75.alloc (.cells #[] 30) = q := ⟨_, rfl⟩
              rw [h9] at F89 EK89 ET_89 ⊢
              clear h9
              obtain ⟨g89, h9⟩ : ∃ q, W75.heap.size = q := ⟨_, rfl⟩
              rw [h9] at EK89 ⊢
              clear h9
              refine efft_st ?_
              refine efft_call 45 #[.pointer (some ⟨h.bf, 0, none⟩)] (by rfl) (by rfl) (by intro w9; go_simp) ?_
              refine (flen_any (A1.out.quiet F89.out).g.proofs).mono ?_
              rintro e q9 ⟨rfl, h9⟩
              rw [h9]
              clear h9
              refine ⟨_, rfl, fun _ => HS.out _ (F89.out.mono (fun _ _ e => e.elim)), ?_⟩
              (try simp only [Act.put, List.setIfInBounds_toArray, List.set_cons_zero, List.set_cons_succ])
              refine efft_st ?_
              refine efft_call 46 #[.pointer (some ⟨h.bs, 0, none⟩)] (by rfl) (by rfl) (by intro w9; go_simp) ?_
              refine (ufmark_any (A1.out.quiet F89.out).g.sets).mono ?_
              rintro e q9 ⟨rfl, h9⟩
              rw [h9]
              clear h9
              refine ⟨_, rfl, fun _ => HS.out _ (F89.out.mono (fun _ _ e => e.elim)), ?_⟩
              (try simp only [Act.put, List.setIfInBounds_toArray, List.set_cons_zero, List.set_cons_succ])
              refine efft_st ?_
              refine efft_do (by rfl) ?_
              refine ap_nodes _ rfl _ _ rfl w'.heap.size (.slice (some ⟨g89, 0, none⟩) 0 0) [] rfl EK89.out NoB _ dk rfl (KD.out W89 F89.out) (by have := HB.out.1; simp only [List.length_nil]; omega) F89.out.size ?_
              intro v9 W92 ho9 hg9 hb9
              rw [List.nil_append] at ho9
              have hg8 : w'.heap.size ≤ g89 := (World.ownsRow.lt EK89.out g89 rfl).1
              have F92 : Hid (Fr NoB w' W92) := Fr.grown F89.out hg9 (fun k e hk => by have e2 : g89 = k := Option.some.inj e; omega)
              obtain ⟨p92, q92, hv9⟩ := OwnE.form ho9
              subst hv9
              have VK92 := hid ho9
              have ET_92 : Hid (OwnI w'.heap.size W92 (.slice (some ⟨g75, 0, none⟩) 0 0) []) := row_carry EK89.out ET_89.out (by decide) hg9
              clear ho9 hg9 hb9 hg8
              refine wpList_nil ⟨rfl, fun _ => HS.out _ (F92.out.mono (fun _ _ e => e.elim)), ?_⟩
              (try simp only [Act.put, List.setIfInBounds_toArray, List.set_cons_zero, List.set_cons_succ])
              refine efft_st ?_
              refine efft_do (by rfl) ?_
              refine ap_ints_at _ rfl _ _ rfl w'.heap.size (.slice (some ⟨g75, 0, none⟩) 0 0) [] rfl ET_92.out NoB _ s.todo rfl (TD.out W92 F92.out) (by have := HB.out.2; simp only [List.length_nil]; omega) F92.out.size ?_
              intro v9 W93 ho9 hg9 hb9
              rw [List.nil_append] at ho9
              have hg8 : w'.heap.size ≤ g75 := (World.ownsRow.lt ET_92.out g75 rfl).1
              have F93 : Hid (Fr NoB w' W93) := Fr.grown F92.out hg9 (fun k e hk => by have e2 : g75 = k := Option.some.inj e; omega)
              obtain ⟨p93, q93, hv9⟩ := OwnI.form ho9
              subst hv9
              have VT93 := hid ho9
              have VK_93 : Hid (OwnN w'.heap.size W93 (.slice p92 dk.length q92) dk) := row_carry ET_92.out VK92.out (by decide) hg9
              clear ho9 hg9 hb9 hg8
              refine wpList_nil ⟨rfl, fun _ => HS.out _ (F93.out.mono (fun _ _ e => e.elim)), ?_⟩
              (try simp only [Act.put, List.setIfInBounds_toArray, List.set_cons_zero, List.set_cons_succ])
              obtain ⟨WL, h9⟩ : ∃ q, W93 = q := ⟨_, rfl⟩
              have FL : Hid (Fr NoB w' WL) := by rw [← h9]; exact F93
              have VKL : Hid (OwnN w'.heap.size WL (.slice p92 dk.length q92) dk) := by rw [← h9]; exact VK_93
              have VTL : Hid (OwnI w'.heap.size WL (.slice p93 s.todo.length q93) s.todo) := by rw [← h9]; exact VT93
              rw [h9]
              clear h9
              obtain ⟨pk, h9⟩ : ∃ q, p92 = q := ⟨_, rfl⟩
              rw [h9] at VKL ⊢
              clear h9
              obtain ⟨qk, h9⟩ : ∃ q, q92 = q := ⟨_, rfl⟩
              rw [h9] at VKL ⊢
              clear h9
              obtain ⟨pt, h9⟩ : ∃ q, p93 = q := ⟨_, rfl⟩
              rw [h9] at VTL ⊢
              clear h9
              obtain ⟨qt, h9⟩ : ∃ q, q93 = q := ⟨_, rfl⟩
              rw [h9] at VTL ⊢
              clear h9
            case' y88 =>
              exact efft_fin
        case' y74 =>
          exact efft_fin
    all_goals
      repeat (first | (refine efft_off (by rfl) (by rfl) ?_; (try simp only [Act.put, List.setIfInBounds_toArray, List.set_cons_zero, List.set_cons_succ])) | (refine efft_pu ?_ (by rfl) (by rfl) ?_ ?_; rotate_left; (focus (intro w'; go_simp; (try with_reducible rfl); done)); (try simp only [Act.put, List.setIfInBounds_toArray, List.set_cons_zero, List.set_cons_succ])) | (refine efft_rd ?_ (by rfl) (by rfl) ?_ ?_; rotate_left; (focus (intro w' hS; (try obtain ⟨hq1, hS⟩ := hS); (try obtain ⟨hq2, hS⟩ := hS); (try obtain ⟨hq3, hS⟩ := hS); (try obtain ⟨hq4, hS⟩ := hS); (try obtain ⟨hq5, hS⟩ := hS); (try obtain ⟨hq6, hS⟩ := hS); (try obtain ⟨hq7, hS⟩ := hS); (try obtain ⟨hq8, hS⟩ := hS); (try obtain ⟨hq9, hS⟩ := hS); (try obtain ⟨hq10, hS⟩ := hS); (try obtain ⟨hq11, hS⟩ := hS); (try obtain ⟨hq12, hS⟩ := hS); (try obtain ⟨hq13, hS⟩ := hS); (try obtain ⟨hq14, hS⟩ := hS); (try obtain ⟨hq15, hS⟩ := hS); (try obtain ⟨hq16, hS⟩ := hS); (try obtain ⟨hq17, hS⟩ := hS); (try obtain ⟨hq18, hS⟩ := hS); (try obtain ⟨hq19, hS⟩ := hS); (try dsimp only at hS); go_simp; (try with_reducible rfl); done)); (try simp only [Act.put, List.setIfInBounds_toArray, List.set_cons_zero, List.set_cons_succ])))
      refine efft_st ?_
      refine efft_run (v := .slice (some ⟨WL.heap.size, 0, none⟩) 1 1) (W' := WL.alloc (.cells #[.int .i64 s.nodes.length, .int .i64 s.links.length, .int .i64 s.uf.tr.length, .slice pk dk.length qk, .slice pt s.todo.length qt, .bool s.dirty] 76)) (by rfl) (by rfl) (by go_simp) (fun _ => HS.out _ ((FL.out.alloc _).mono (fun _ _ e => e.elim))) ?_
      (try simp only [Act.put, List.setIfInBounds_toArray, List.set_cons_zero, List.set_cons_succ])
      refine efft_st ?_
      refine efft_do (by rfl) ?_
      refine ap_rows (z := .agg #[.int .i64 0, .int .i64 0, .int .i64 0, .slice none 0 0, .slice none 0 0, .bool false]) (bytes := 80) _ stLen (by decide) Tryz.underlying64 infoState rfl rfl _ _ rfl 0 (.slice mp s.marks.length mq) dm rfl (by rw [← HVM.out]; exact OwnE.step MD.out.2.1 (FL.out.alloc _)) NoB _ [(St.now s, .slice pk dk.length qk, .slice pt s.todo.length qt)] rfl (rdE_one rfl) (fun y hy u hu => by
        rw [List.mem_singleton.1 hy] at hu
        simp only [stC, List.mem_cons, List.not_mem_nil, or_false] at hu
        rcases hu with rfl | rfl | rfl | rfl | rfl | rfl <;> rfl) (by have := HML.out; rw [HDM.out]; simp only [List.length_singleton]; omega) (by have := HML.out; rw [HDM.out]; simp only [List.length_singleton]; omega) (Nat.zero_le _) ?_
      intro v6 W6 ho6 hg6 hb6
      have fa : Fr NoB w' (WL.alloc (.cells #[.int .i64 s.nodes.length, .int .i64 s.links.length, .int .i64 s.uf.tr.length, .slice pk dk.length qk, .slice pt s.todo.length qt, .bool s.dirty] 76)) := FL.out.alloc _
      have fb : Fr NoB WL (WL.alloc (.cells #[.int .i64 s.nodes.length, .int .i64 s.links.length, .int .i64 s.uf.tr.length, .slice pk dk.length qk, .slice pt s.todo.length qt, .bool s.dirty] 76)) := (Fr.refl NoB WL).alloc _
      have aL := (A1.out.fresh 12 FL.out).quiet fb
      obtain ⟨WA, hWA⟩ : ∃ q, WL.alloc (.cells #[.int .i64 s.nodes.length, .int .i64 s.links.length, .int .i64 s.uf.tr.length, .slice pk dk.length qk, .slice pt s.todo.length qt, .bool s.dirty] 76) = q := ⟨_, rfl⟩
      rw [hWA] at fa fb aL hg6 hb6
      have f6 : Fr (fun b => h.vm.ownBlock = some b) WA W6 := Fr.grown (Fr.refl _ WA) hg6 (fun k hk _ => by rw [HVM.out]; exact hk)
      have f7 : Fr (fun b => h.vm.ownBlock = some b) w' W6 := (fa.mono (fun _ _ e => e.elim)).trans f6
      have N6 := hid (aL.pushMark (st := St.now s) (vk := .slice pk dk.length qk) (vt := .slice pt s.todo.length qt) MD.out.1 (fun x hx => by
          obtain ⟨⟨dq, h5, h6⟩, h7⟩ := MD.out.2.2 x hx
          exact ⟨⟨dq, h5, keep_rdN h6 fa (Ext.paint _ _ _ _) (fun _ _ e => e.elim)⟩, keep_rd h7 fa (Ext.paint _ _ _ _) (fun _ _ e => e.elim)⟩)
        ⟨dk, HDK.out, OwnE.rdN (OwnE.step VKL.out fb) (fun k hk e => by
          have h9 := World.ownsRow.lt VKL.out k hk
          exact e (paint_new h9.1 h9.2)) (fun x hx => keep_rd (KA.out x hx) fa (Ext.paint _ _ _ _) (fun _ _ e => e.elim))⟩
        ((own_paint VTL.out rfl c0).fr fb (fun _ _ e => e.elim))
        f6 ho6 (by
          rw [HVM.out]
          rcases hb6 with e | e
          · exact .inl e
          · exact .inr ⟨_, e, Nat.le_refl _⟩))
      obtain ⟨p6, q6, hv6⟩ := OwnE.form ho6
      rw [show (dm ++ [(St.now s, Value.slice pk dk.length qk, Value.slice pt s.todo.length qt)]).length = s.marks.length + 1 by rw [List.length_append, HDM.out]; rfl] at hv6
      subst hv6
      refine wpList_nil ⟨rfl, fun _ => HS.out _ f7, ?_⟩
      obtain ⟨k0, k1, k2, k3, k4, k5, k6, kf, kl⟩ := HS.out _ f7
      clear f6 f7 ho6 hg6 hb6 fa fb aL hWA
      (try simp only [Act.put, List.setIfInBounds_toArray, List.set_cons_zero, List.set_cons_succ])
      repeat (first | (refine efft_off (by rfl) (by rfl) ?_; (try simp only [Act.put, List.setIfInBounds_toArray, List.set_cons_zero, List.set_cons_succ])) | (refine efft_pu ?_ (by rfl) (by rfl) ?_ ?_; rotate_left; (focus (intro w'; go_simp; (try with_reducible rfl); done)); (try simp only [Act.put, List.setIfInBounds_toArray, List.set_cons_zero, List.set_cons_succ])) | (refine efft_rd ?_ (by rfl) (by rfl) ?_ ?_; rotate_left; (focus (intro w' hS; (try obtain ⟨hq1, hS⟩ := hS); (try obtain ⟨hq2, hS⟩ := hS); (try obtain ⟨hq3, hS⟩ := hS); (try obtain ⟨hq4, hS⟩ := hS); (try obtain ⟨hq5, hS⟩ := hS); (try obtain ⟨hq6, hS⟩ := hS); (try obtain ⟨hq7, hS⟩ := hS); (try obtain ⟨hq8, hS⟩ := hS); (try obtain ⟨hq9, hS⟩ := hS); (try obtain ⟨hq10, hS⟩ := hS); (try obtain ⟨hq11, hS⟩ := hS); (try obtain ⟨hq12, hS⟩ := hS); (try obtain ⟨hq13, hS⟩ := hS); (try obtain ⟨hq14, hS⟩ := hS); (try obtain ⟨hq15, hS⟩ := hS); (try obtain ⟨hq16, hS⟩ := hS); (try obtain ⟨hq17, hS⟩ := hS); (try obtain ⟨hq18, hS⟩ := hS); (try obtain ⟨hq19, hS⟩ := hS); (try dsimp only at hS); go_simp; (try with_reducible rfl); done)); (try simp only [Act.put, List.setIfInBounds_toArray, List.set_cons_zero, List.set_cons_succ])))
      refine efft_st ?_
      refine efft_skip (W' := W6.setCell ⟨bc, 10, none⟩ (.slice p6 (s.marks.length + 1) q6)) (by rfl) (by rfl) (by go_simp) (fun h => absurd rfl h) ?_
      (try simp only [Act.put, List.setIfInBounds_toArray, List.set_cons_zero, List.set_cons_succ])
      refine efft_nil ?_
      clear k0 k1 k2 k3 k4 k5 k6 kf kl
      go_wp2
      go_meet
      exact ⟨_, _, N6⟩
  case rest =>
    obtain ⟨c7, h7, A7⟩ := hcut
    obtain ⟨k0, k1, k2, k3, k4, k5, k6, k7, k8, k9, k10, kf, kl⟩ := A7.out.g.cells
    obtain ⟨d7, e1, e2, e3, e4⟩ := A7.out.g.marks
    have hl7 : d7.length = s.marks.length + 1 := by
      rw [← List.length_map (f := (·.1)), e1]
      unfold markS; simp
    obtain ⟨p7, q7, hv7⟩ := OwnE.form e2
    rw [hl7] at hv7
    rw [hv7] at k10
    have hml := HML.out
    obtain ⟨m, hm⟩ : ∃ m, s.marks.length = m := ⟨_, rfl⟩
    have HM := hid hm
    rw [hm] at k10 hml
    have w1 : IntKind.i64.wrap ((m : Int) + 1 - 1) = (m : Int) := by rw [IntKind.wrap_i64]; omega
    have w2 : IntKind.i64.wrap (m : Int) = (m : Int) := by rw [IntKind.wrap_i64]; omega
    clear k0 k1 k2 k3 k4 k5 k6 k7 k8 k9 kf e1 e2 e3 e4 hl7 hv7 hm
    go_wp2
    go_ret
    rw [HM.out]
    exact ⟨rfl, ⟨c7, A7.out.done, A7.out.ext⟩, A7.out.fr⟩
end
end Go.Proofs.YtlekoceindepnaaGreatDoor
end
section
/- egraph's Undo: what it does to the state; its steps. -/
namespace Go.Proofs.YtlekoceindepnaaGreatDoor
open Go.RowKit
set_option maxRecDepth 100000

def dropsS : GS → Nat → Nat → GS
  | s, _, 0 => s
  | s, lo, k + 1 => dropsS (dropS s (lo + k)) lo k
def tputS (es : List (Node × Int)) (n : Node) (id : Int) : List (Node × Int) := match tgetS es n with
  | none => es ++ [(n, id)]
  | some _ => es
def tputs : List (Node × Int) → Nat → List Node → List (Node × Int)
  | es, _, [] => es
  | es, i, k :: ks => tputs (tputS es k i) (i + 1) ks
theorem tputs_snoc (x : Node) : ∀ (l : List Node) (es : List (Node × Int)) (i : Nat), tputs es i (l ++ [x]) = tputS (tputs es i l) x ((i + l.length : Nat) : Int)
  | [], es, i => rfl
  | k :: l, es, i => by
    show tputs (tputS es k i) (i + 1) (l ++ [x]) = _
    rw [tputs_snoc x l]
    show _ = tputS (tputs (tputS es k i) (i + 1) l) x _
    rw [show i + (k :: l).length = i + 1 + l.length by simp; omega]
theorem tputs_take {l : List Node} {k : Nat} (h : k < l.length) : tputs [] 0 (l.take (k + 1)) = tputS (tputs [] 0 (l.take k)) (nodeAt l k) k := by
  rw [List.take_succ_eq_append_getElem h, tputs_snoc]
  unfold nodeAt
  rw [List.getD_eq_getElem?_getD, List.getElem?_eq_getElem h, Nat.zero_add, List.length_take, Nat.min_eq_left (Nat.le_of_lt h)]; rfl
def St.none : St := ⟨0, 0, 0, [], [], false⟩
def undoF2 (s : GS) (st : St) : GS := { s with uf := s.uf.undo st.sets, links := s.links.take st.links, lr := forR (s.links.take st.links), keys := st.keys, todo := st.todo, dirty := st.dirty, table := tputs [] 0 st.keys }
def undoS (s : GS) (m : Nat) : GS := undoF2 (dropsS { s with marks := s.marks.take m } (s.marks.getD m St.none).nodes (s.nodes.length - (s.marks.getD m St.none).nodes)) (s.marks.getD m St.none)
structure GOk (s : GS) : Prop where
  keys : s.keys.length = s.nodes.length
  users : s.users.length = s.nodes.length
  nok : ∀ n ∈ s.nodes, NodeOk n ∧ NodeSm n
  args : ∀ i, i < s.nodes.length → ∀ x ∈ (nodeAt s.nodes i).args, 0 ≤ x ∧ x < (i : Int)
  rows : ∀ l ∈ s.users, l.length ≤ 1000000
theorem nodeAt_take {ns : List Node} {k i : Nat} (h : i < k) : nodeAt (ns.take k) i = nodeAt ns i := by
  unfold nodeAt
  exact getD_takeA h
theorem dropS_nodes (s : GS) (id : Nat) : (dropS s id).nodes = s.nodes.take id := rfl
theorem dropS_users (s : GS) (id : Nat) : (dropS s id).users = (dropUsers s.users id (nodeAt s.nodes id).args).take id := rfl
theorem GOk.drop {s : GS} (h : GOk s) {id : Nat} (hi : id + 1 = s.nodes.length) : GOk (dropS s id) ∧ (dropS s id).nodes.length = id := by
  have hl : (dropS s id).nodes.length = id := by rw [dropS_nodes, List.length_take]; omega
  refine ⟨⟨?_, ?_, fun n hn => h.nok n (List.mem_of_mem_take hn), fun i h9 x hx => ?_, fun l hl9 => ?_⟩, hl⟩
  · rw [hl]
    show (s.keys.take id).length = id
    rw [List.length_take, h.keys]; omega
  · rw [hl, dropS_users, List.length_take, dropUsers_len, h.users]; omega
  · rw [hl] at h9
    rw [dropS_nodes, nodeAt_take h9] at hx
    exact h.args i (by omega) x hx
  · rw [dropS_users] at hl9
    exact dropUsers_rows _ _ _ _ h.rows l (List.mem_of_mem_take hl9)
theorem dropsS_same : ∀ (k : Nat) (s : GS) (lo : Nat), (dropsS s lo k).uf = s.uf ∧ (dropsS s lo k).links = s.links ∧ (dropsS s lo k).marks = s.marks
  | 0, _, _ => ⟨rfl, rfl, rfl⟩
  | k + 1, s, lo => dropsS_same k (dropS s (lo + k)) lo
structure LocS (c : Col) (W : World) (q : Nat) (st : St) (vk vt : Value) : Prop where
  box : W.heap[q]? = some (.cells #[.int .i64 st.nodes, .int .i64 st.links, .int .i64 st.sets, vk, vt, .bool st.dirty] 76 (0, 0))
  col : c q = 0
  keys : ∃ dk : List (Node × Value), dk.map (·.1) = st.keys ∧ RdN (fun k => c k ≠ 12) W vk dk
  todo : RdI (fun k => c k ≠ 12) W vt st.todo
section
variable {c0 c c' : Col} {w W W' W6 : World} {bg bc : Nat} {h h' : GH} {s s' : GS} {q : Nat} {st : St} {vk vt : Value}
theorem LocS.turn (l : LocS c W q st vk vt) (hf : Fr (Mut c) W W') (he : Ext c c' W) : LocS c' W' q st vk vt := by
  have lq := (Array.getElem?_eq_some_iff.1 l.box).1
  obtain ⟨dk, h1, h2⟩ := l.keys
  exact ⟨hf.at (fun hm => hm.1 l.col) l.box, by rw [he q lq]; exact l.col, ⟨dk, h1, keep_rdN h2 hf he (fun k _ hm => hm.2.1)⟩, keep_rd l.todo hf he (fun k _ hm => hm.2.1)⟩
theorem LocS.quiet (l : LocS c W q st vk vt) (hf : Fr NoB W W') : LocS c W' q st vk vt := l.turn (hf.mono (fun _ _ e => e.elim)) (Ext.refl _ _)
/-- The mark m, as it lies. -/
theorem AdW.markAt (a : AdW c0 w bg bc c W h s) {m : Nat} (hm : m < s.marks.length) : ∃ b cap vk vt, h.vm = .slice (some ⟨b, 0, none⟩) s.marks.length cap ∧ s.marks.length ≤ cap ∧
    W.cell? ⟨b, m * 6, none⟩ = some (.int .i64 (s.marks.getD m St.none).nodes) ∧ W.cell? ⟨b, m * 6 + 1, none⟩ = some (.int .i64 (s.marks.getD m St.none).links) ∧ W.cell? ⟨b, m * 6 + 2, none⟩ = some (.int .i64 (s.marks.getD m St.none).sets) ∧
    W.cell? ⟨b, m * 6 + 3, none⟩ = some vk ∧ W.cell? ⟨b, m * 6 + 4, none⟩ = some vt ∧ W.cell? ⟨b, m * 6 + 5, none⟩ = some (.bool (s.marks.getD m St.none).dirty) ∧
    (∃ dk : List (Node × Value), dk.map (·.1) = (s.marks.getD m St.none).keys ∧ RdN (fun k => c k ≠ 12) W vk dk) ∧ RdI (fun k => c k ≠ 12) W vt (s.marks.getD m St.none).todo := by
  obtain ⟨d, h1, h2, h3, h4⟩ := a.g.marks
  have hdl : d.length = s.marks.length := by rw [← h1, List.length_map]
  have hmd : m < d.length := by omega
  have hst : s.marks.getD m St.none = d[m].1 := by rw [← h1, List.getD_eq_getElem?_getD, List.getElem?_map, List.getElem?_eq_getElem hmd]; rfl
  rw [hst]
  obtain ⟨h5, h6⟩ := h4 _ (List.getElem_mem hmd)
  rcases OwnE.form' h2 with ⟨h7, h8⟩ | ⟨g, cap, h7, _, _, hc⟩
  · rw [h8] at hmd; simp at hmd
  · have h2' := h2
    rw [h7] at h2'
    have cs := OwnE.cells h2'
    have e := fun j (hj : j < 6) => flatE_get stC (k := 6) (fun _ => rfl) d m hmd j hj
    refine ⟨g, cap, d[m].2.1, d[m].2.2, by rw [← hdl]; exact h7, by rw [← hdl]; exact hc, ?_, ?_, ?_, ?_, ?_, ?_, h5, h6⟩
    · have := cs _ _ (e 0 (by decide)); rwa [Nat.zero_add, Nat.add_zero] at this
    · have := cs _ _ (e 1 (by decide)); rwa [Nat.zero_add] at this
    · have := cs _ _ (e 2 (by decide)); rwa [Nat.zero_add] at this
    · have := cs _ _ (e 3 (by decide)); rwa [Nat.zero_add] at this
    · have := cs _ _ (e 4 (by decide)); rwa [Nat.zero_add] at this
    · have := cs _ _ (e 5 (by decide)); rwa [Nat.zero_add] at this
theorem AdW.cutM (a : AdW c0 w bg bc c W h s) {p : Option Addr} {n q k : Nat} (hv : h.vm = .slice p n q) (hk : k ≤ s.marks.length) :
    ∃ c', AdW c0 w bg bc c' (W.setCell ⟨bc, 10, none⟩ (.slice p k q)) { h with vm := .slice p k q } { s with marks := s.marks.take k } ∧ Fr (Mut c) W (W.setCell ⟨bc, 10, none⟩ (.slice p k q)) ∧ Ext c c' W := by
  obtain ⟨d, e1, e2, e3, e4⟩ := a.g.marks
  have hdl : d.length = s.marks.length := by rw [← e1, List.length_map]
  rw [hv] at e2
  have hb : (Value.slice p k q).ownBlock = h.vm.ownBlock := by rw [hv]; cases p <;> rfl
  obtain ⟨K, g'⟩ := a.g.setMarks (W6 := W) (Fr.refl _ _) (OwnE.takeN stLen e2 (k := k) (by omega)) (.inl hb) (d' := d.take k) (ms' := s.marks.take k) (by rw [List.map_take, e1]) (fun x hx => e4 x (List.mem_of_mem_take hx))
  exact ⟨_, a.turn g' K.fr K.ext, K.fr, K.ext⟩
theorem AdW.newK (a : AdW c0 w bg bc c W h s) {v6 : Value} {dk : List (Node × Value)} {ks : List Node} (hf : Fr NoB W W6) (ho : OwnN 0 W6 v6 dk) (hb : ∃ q, v6.ownBlock = some q ∧ W.heap.size ≤ q) (hd : dk.map (·.1) = ks) (ha : ∀ x ∈ dk, RdI (fun k => c k ≠ 12) W x.2 x.1.args) :
    ∃ c', AdW c0 w bg bc c' (W6.setCell ⟨bc, 2, none⟩ v6) { h with vk := v6 } { s with keys := ks } ∧ Fr (Mut c) W (W6.setCell ⟨bc, 2, none⟩ v6) ∧ Ext c c' W := by
  obtain ⟨K, g'⟩ := a.g.setKeys (hf.mono (fun _ _ e => e.elim)) ho (.inr hb) hd ha
  exact ⟨_, a.turn g' K.fr K.ext, K.fr, K.ext⟩
theorem AdW.newT (a : AdW c0 w bg bc c W h s) {v6 : Value} {l : List Int} (hf : Fr NoB W W6) (ho : OwnI 0 W6 v6 l) (hb : ∃ q, v6.ownBlock = some q ∧ W.heap.size ≤ q) :
    ∃ c', AdW c0 w bg bc c' (W6.setCell ⟨bc, 8, none⟩ v6) { h with vt := v6 } { s with todo := l } ∧ Fr (Mut c) W (W6.setCell ⟨bc, 8, none⟩ v6) ∧ Ext c c' W := by
  obtain ⟨K, g'⟩ := a.g.setTodo (hf.mono (fun _ _ e => e.elim)) ho (.inr hb)
  exact ⟨_, a.turn g' K.fr K.ext, K.fr, K.ext⟩
theorem AdW.newTbl (a : AdW c0 w bg bc c W h s) {bm bt : Nat} (hf : Fr NoB W W6) (h1 : W.heap.size ≤ bm) (h2 : W.heap.size ≤ bt) (h3 : bm ≠ bt) (ht : ∀ M, TableAt M W6 bt bm []) :
    ∃ c', AdW c0 w bg bc c' (W6.setCell ⟨bc, 5, none⟩ (.pointer (some ⟨bt, 0, none⟩))) { h with bt := bt } { s with table := [] } ∧ Fr (Mut c) W (W6.setCell ⟨bc, 5, none⟩ (.pointer (some ⟨bt, 0, none⟩))) ∧ Ext c c' W := by
  have a1 := a.fresh 6 hf
  have g := a1.g
  have f : Fr (fun b => b = bc) W6 (W6.setCell ⟨bc, 5, none⟩ (.pointer (some ⟨bt, 0, none⟩))) := Fr.put' _
  have K := keep_of (c := paint c W W6 6) (c' := paint c W W6 6) (i := 11) f (Ext.refl _ _) (fun k _ e => by rw [show k = bc from e]; exact g.own) (by decide)
  have lt : ∀ b, paint c W W6 6 b ≠ 0 → b < (W6.setCell ⟨bc, 5, none⟩ (.pointer (some ⟨bt, 0, none⟩))).heap.size := fun b hb => Nat.lt_of_lt_of_le (g.lt b hb) f.size
  have lb := a.g.lb
  have t9 := ht (fun k => paint c W W6 6 k ≠ 12)
  have ltt := t9.lt
  have ltm := t9.map.lt
  have g' : GIs (paint c W W6 6) (W6.setCell ⟨bc, 5, none⟩ (.pointer (some ⟨bt, 0, none⟩))) bc { h with bt := bt } { s with table := [] } :=
    ⟨set_at g.head 5 _, g.sets.keep (K 1 (by decide)), g.nodes.keep (K 9 (by decide)), g.keys.keep (K 8 (by decide)), g.users.keep (K 3 (by decide)), g.exact.keep (K 5 (by decide)),
      ⟨bm, [], t9.fr f (fun e => by have e2 : bt = bc := e; omega) (fun e => by have e2 : bm = bc := e; omega) (fun k _ e => by rw [show k = bc from e, g.own]; decide), rfl, paint_new h2 ltt, paint_new h1 ltm, h3⟩,
      g.proofs.keep (K 2 (by decide)) lt, g.vars.keep (K 7 (by decide)), g.todo.keep (K 4 (by decide)), g.marks.keep (K 10 (by decide)), g.own, lt⟩
  have f2 : Fr (Mut c) W (W6.setCell ⟨bc, 5, none⟩ (.pointer (some ⟨bt, 0, none⟩))) := (hf.mono (fun _ _ e => e.elim)).trans' f (fun k _ e => by rw [show k = bc from e]; exact Mut.of (by decide) a.g.own)
  exact ⟨_, a.turn g' f2 (Ext.paint _ _ _ _), f2, Ext.paint _ _ _ _⟩
theorem AdW.putTs (a : AdW c0 w bg bc c W h s) (n : Node) (v : Value) (id : Int) (hr : RdI NoB W v n.args) (hok : NodeOk n) (hsm : NodeSm n) :
    Calls Tryz.prog 32 #[.pointer (some ⟨h.bt, 0, none⟩), nodeV n v, .int .i64 id] W fun e w' => (∃ b, e = .returned (.bool b)) ∧ TurnTo c0 w bg bc c W h { s with table := tputS s.table n id } w' := by
  cases hg : tgetS s.table n with
  | none =>
    refine (a.putT_any n v id hr hok hsm hg).mono ?_
    rintro e w' ⟨rfl, t⟩
    refine ⟨⟨_, rfl⟩, ?_⟩
    unfold tputS
    rw [hg]; exact t
  | some y =>
    obtain ⟨bm, l, h1, h2, h3, h4, h5⟩ := a.g.table
    have hg2 := hg
    rw [tgetS_of h2] at hg2
    cases hx : tget l n with
    | none => rw [hx] at hg2; cases hg2
    | some x =>
      refine (put_some _ NoB W h.bt bm l h1 n v id hr hok hsm a.tab x hx).mono ?_
      rintro e w' ⟨rfl, hf⟩
      refine ⟨⟨_, rfl⟩, c, ?_, hf.mono (fun _ _ h => h.elim), Ext.refl _ _⟩
      unfold tputS
      rw [hg]
      exact a.quiet hf
theorem AdW.undoU (a : AdW c0 w bg bc c W h s) (n : Nat) (hn : n ≤ s.uf.tr.length) :
    Calls Tryz.prog 48 #[.pointer (some ⟨h.bs, 0, none⟩), .int .i64 n] W fun e w' => e = .returned (.bool true) ∧ TurnTo c0 w bg bc c W h { s with uf := s.uf.undo n } w' := by
  refine (ufundo_any a.g.sets n hn).mono ?_
  rintro e w' ⟨rfl, h1, h2⟩
  have f : Fr (Mut c) W w' := h2.mono (fun k _ hk => Mut.of (by decide) hk)
  exact ⟨rfl, _, a.turn (a.g.setUf h1 h2) f (Ext.paint _ _ _ _), f, Ext.paint _ _ _ _⟩
theorem AdW.undoL (a : AdW c0 w bg bc c W h s) (n : Nat) (hn : n ≤ s.links.length) (hL : s.links.length ≤ 1000000) (hok : FOk s.links) :
    Calls Tryz.prog 49 #[.pointer (some ⟨h.bf, 0, none⟩), .int .i64 n] W fun e w' => e = .returned (.bool true) ∧ TurnTo c0 w bg bc c W h { s with links := s.links.take n, lr := forR (s.links.take n) } w' := by
  refine (fundo_any _ W h.bf s.links s.lr a.g.proofs n hn hL hok).mono ?_
  rintro e w' ⟨rfl, ⟨M', h1, h2⟩, h3⟩
  have f : Fr (Mut c) W w' := h3.mono (fun k _ hk => Mut.of (by decide) hk)
  exact ⟨rfl, _, a.turn (a.g.setFor h1 h2 h3) f (Ext.paint _ _ _ _), f, Ext.paint _ _ _ _⟩
end
end Go.Proofs.YtlekoceindepnaaGreatDoor
end
