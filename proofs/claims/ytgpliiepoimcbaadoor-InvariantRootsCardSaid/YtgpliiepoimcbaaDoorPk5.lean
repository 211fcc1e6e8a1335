import Derived.Test.YtgpliiepoimcbaaDoorPk0
import Derived.Test.YtgpliiepoimcbaaDoorPk2
import Derived.Test.YtgpliiepoimcbaaDoorPk4
import Derived.OrdersHeld
set_option linter.all false
section
/- Drawn regions that write. The operations come in three kinds: 0 reads (the same value in every world that meets S), 1 works on values alone, 2 turns the world; behind the operation 'brk' S need not hold. Reads and works are taken as soon as they may come up; those that turn the world come up one at a time. -/
namespace Go.Proofs.YtgpliiepoimcbaaDoor
open Go.RowKit
set_option maxRecDepth 100000

section
variable {P : Program} {ops : Array Oper} {S : World → Prop} {Q : Exit → Act → World → Prop} {md : Region.Mode} {brk : Nat}

abbrev AnyW : World → Prop := fun _ => True
def TT (S : World → Prop) (brk : Nat) (listed : Array Bool) (w : World) : Prop := listed.getD brk false = true ∨ S w
theorem getD_set_ne' {l : Array Bool} {i k : Nat} (h : i ≠ k) : (l.setIfInBounds i true).getD k false = l.getD k false := by
  rw [Array.getD_eq_getD_getElem?, Array.getD_eq_getD_getElem?, Array.getElem?_setIfInBounds_ne h]
def wpAnyT (P : Program) (md : Region.Mode) (ops : Array Oper) (Q : Exit → Act → World → Prop) (S : World → Prop) (brk : Nat) : Nat → Array Bool → Act → World → Prop
  | 0, listed, a, w => Region.ready md ops listed = [] ∧ Q .normal a w
  | fuel + 1, listed, a, w =>
    (Region.ready md ops listed = [] → Q .normal a w) ∧
    ∀ i ∈ Region.ready md ops listed, wpOp P ops Q i (fun a' w' => TT S brk (listed.setIfInBounds i true) w' ∧ wpAnyT P md ops Q S brk fuel (listed.setIfInBounds i true) a' w') a w
theorem wpAny_of_T : ∀ (fuel : Nat) (listed : Array Bool) (a : Act) (w : World), wpAnyT P md ops Q S brk fuel listed a w → wpAny P md ops Q fuel listed a w
  | 0, _, _, _, h => h
  | fuel + 1, _, _, _, h => ⟨h.1, fun i hi => wpOp_mono (fun a' w' h' => wpAny_of_T fuel _ a' w' h'.2) (h.2 i hi)⟩

/-- A quiet operation first: C is what holds of (listed, world) while it waits, and yields its value there. -/
theorem wpAnyT_first {S' : World → Prop} {i : Nat} {oi : Oper} {v : Value} (hi : ops[i]? = some oi) (hsel : ∀ (j : Nat) (o : Oper) cs b, ops[j]? = some o → o.op ≠ .select cs b)
    (hQ : ∀ c a w, Q (.panic c) (a.put oi.dst v) w → Q (.panic c) a w) (hib : i ≠ brk)
    (hrd : (∀ w, S' w) ∨ ((∀ listed, listed.getD i true = false → brk ∉ Region.ready md ops listed) ∧ ∀ w, S w → S' w)) :
    ∀ (fuel : Nat) (listed : Array Bool) (a : Act) (w : World),
      (∀ j oj, ops[j]? = some oj → j ≠ i → listed.getD j true = false → (∀ e ∈ oj.after, Region.binds md e = true → e.on ≠ i) → oi.apart ops oj = true) →
      i ∈ Region.ready md ops listed → YieldsIf P ops S' oi v a → TT S brk listed w → ((∀ w, S' w) ∨ listed.getD brk false = false) →
      wpAnyT P md ops Q S brk fuel (listed.setIfInBounds i true) (a.put oi.dst v) w → wpAnyT P md ops Q S brk (fuel + 1) listed a w := by
  have hS' : ∀ listed w, TT S brk listed w → ((∀ w, S' w) ∨ listed.getD brk false = false) → S' w := fun listed w hT hb => by
    rcases hrd with h | ⟨_, h⟩
    · exact h w
    · rcases hb with hb | hb
      · exact hb w
      · rcases hT with hT | hT
        · rw [hb] at hT; cases hT
        · exact h w hT
  intro fuel
  induction fuel with
  | zero =>
    intro listed a w _ hr hy hT hb H
    refine ⟨fun h => (by rw [h] at hr; cases hr), fun j hj => ?_⟩
    by_cases hji : j = i
    · subst hji; exact hy.wpOp hi (hS' listed w hT hb) ⟨by unfold TT; rw [getD_set_ne' hib]; exact hT, H⟩
    · have := ready_mono hj hji
      rw [H.1] at this
      cases this
  | succ fuel ih =>
    intro listed a w hfree hr hy hT hb H
    refine ⟨fun h => (by rw [h] at hr; cases hr), fun j hj => ?_⟩
    by_cases hji : j = i
    · subst hji; exact hy.wpOp hi (hS' listed w hT hb) ⟨by unfold TT; rw [getD_set_ne' hib]; exact hT, H⟩
    · have h1 := H.2 j (ready_mono hj hji)
      obtain ⟨hjun, oj, hoj, hall⟩ := mem_ready.1 hj
      have hnot : ∀ e ∈ oj.after, Region.binds md e = true → e.on ≠ i := fun e he hb heq => by
        have h1 := hall e he hb
        have h0 := (mem_ready.1 hr).1
        rw [heq] at h1
        rcases Nat.lt_or_ge i listed.size with h' | h'
        · simp [h'] at h0 h1; rw [h0] at h1; cases h1
        · simp [Array.getElem?_eq_none h'] at h1
      have h2 := wpOp_putIf hoj (hfree j oj hoj hji hjun hnot) (fun cs b => hsel i oi cs b hi) (fun cs b => hsel j oj cs b hoj) hQ hy h1
      have hfree' : ∀ k ok, ops[k]? = some ok → k ≠ i → (listed.setIfInBounds j true).getD k true = false →
          (∀ e ∈ ok.after, Region.binds md e = true → e.on ≠ i) → oi.apart ops ok = true := fun k ok hk hki hun hno => by
        refine hfree k ok hk hki ?_ hno
        by_cases hjk : j = k
        · subst hjk; exact hjun
        · rw [getD_set_ne true hjk] at hun; exact hun
      have hb' : (∀ w, S' w) ∨ (listed.setIfInBounds j true).getD brk false = false := by
        rcases hb with hb | hb
        · exact .inl hb
        · rcases hrd with h | ⟨h, _⟩
          · exact .inl h
          · refine .inr ?_
            have hjb : j ≠ brk := fun e => h listed (mem_ready.1 hr).1 (e ▸ hj)
            rw [getD_set_ne' hjb]; exact hb
      refine wpOp_mono (fun a' w' h3 => ?_) h2
      obtain ⟨h4, h5, h6⟩ := h3
      have hT' : TT S brk (listed.setIfInBounds j true) w' := by
        unfold TT at h5 ⊢
        rw [Array.setIfInBounds_comm _ _ (Ne.symm hji), getD_set_ne' hib] at h5
        exact h5
      refine ⟨hT', ih (listed.setIfInBounds j true) a' w' hfree' (ready_mono hr (Ne.symm hji)) h4 hT' hb' ?_⟩
      rw [Array.setIfInBounds_comm _ _ hji]
      exact h6

def effL (P : Program) (ops : Array Oper) (S : World → Prop) (brk : Nat) (R : Act → World → Prop) : List (Nat × Nat) → Act → World → Prop
  | [], a, W => R a W
  | (i, 0) :: s, a, W => ∃ o v, ops[i]? = some o ∧ YieldsIf P ops S o v a ∧ effL P ops S brk R s (a.put o.dst v) W
  | (i, 1) :: s, a, W => ∃ o v, ops[i]? = some o ∧ YieldsIf P ops AnyW o v a ∧ effL P ops S brk R s (a.put o.dst v) W
  | (i, _ + 2) :: s, a, W => ∃ o, ops[i]? = some o ∧ wpList P ops (fun x a' W' => x = .normal ∧ (i ≠ brk → S W') ∧ effL P ops S brk R s a' W') [o] a W
def anch (md : Region.Mode) (ops : Array Oper) (brk i : Nat) : Bool := ((ops[brk]?).map (·.after.any (fun e => Region.binds md e && e.on == i))).getD true
def effB (md : Region.Mode) (ops : Array Oper) (brk : Nat) : List (Nat × Nat) → Array Bool → Bool
  | [], listed => Region.ready md ops listed == []
  | (i, 0) :: s, listed => Region.free md ops listed i && (Region.ready md ops listed).contains i && (i != brk) && !listed.getD brk false && anch md ops brk i && effB md ops brk s (listed.setIfInBounds i true)
  | (i, 1) :: s, listed => Region.free md ops listed i && (Region.ready md ops listed).contains i && (i != brk) && effB md ops brk s (listed.setIfInBounds i true)
  | (i, _ + 2) :: s, listed => (Region.ready md ops listed == [i]) && (decide (i < listed.size)) && (!listed.getD brk false) && effB md ops brk s (listed.setIfInBounds i true)

theorem effL_one {K : Act → World → Prop} {i : Nat} {o : Oper} {a : Act} {W : World} (hi : ops[i]? = some o) (h : wpList P ops (fun x a' W' => x = .normal ∧ K a' W') [o] a W) : Go.wpOp P ops Q i K a W := by
  unfold Go.wpOp
  simp only [hi]
  unfold wpList at h
  by_cases hw : Region.wanted o (yielded ops a.tmps) = true
  · rw [if_pos hw] at h ⊢
    rcases h with h | ⟨_, a', W', h1, _⟩
    · refine .inl ?_
      unfold Oper.wp at h ⊢
      generalize (execOp a.eval o).run P W = r at *
      cases r with
      | ok n w' =>
        cases n <;> simp only [Oper.upon, wpList] at h ⊢
        case value u => exact h.2
        case skip => exact h.2
        case defer d => exact h.2
        case enter f args =>
          refine Calls.mono h fun e w'' he => ?_
          cases e with
          | returned u => exact he.2
          | panicked c => exact absurd he.1 (by simp)
          | outgrown => obtain ⟨_, _, h1, _⟩ := he; exact absurd h1 (by simp)
        case row row args => exact Rows.mono h fun u w'' he => he.2
      | halt x w' =>
        cases x <;> simp only [Oper.upon] at h ⊢
        case panic u => exact absurd h.1 (by simp)
    · exact absurd h1 (by simp)
  · rw [if_neg hw] at h ⊢
    exact h.2

theorem anch_spec {i : Nat} {ob : Oper} (hb : ops[brk]? = some ob) (h : anch md ops brk i = true) : ∀ listed : Array Bool, listed.getD i true = false → brk ∉ Region.ready md ops listed := fun listed hl hr => by
  obtain ⟨_, o, ho, hall⟩ := mem_ready.1 hr
  obtain rfl : ob = o := by rw [hb] at ho; exact Option.some.inj ho
  unfold anch at h
  rw [hb] at h
  simp only [Option.map_some, Option.getD_some, Array.any_eq_true'] at h
  obtain ⟨e, he, h2⟩ := h
  simp only [Bool.and_eq_true, beq_iff_eq] at h2
  have h3 := hall e he h2.1
  rw [h2.2] at h3
  rcases Nat.lt_or_ge i listed.size with h' | h'
  · simp [h'] at hl h3; rw [hl] at h3; cases h3
  · simp [Array.getElem?_eq_none h'] at hl

theorem effL_any {R : Act → World → Prop} (hs : Region.noSelect ops = true) (hR : ∀ a w, R a w → Q .normal a w) (hQ : ∀ c a w, ¬ Q (.panic c) a w) :
    ∀ (s : List (Nat × Nat)) (listed : Array Bool) (a : Act) (w : World), effB md ops brk s listed = true → TT S brk listed w → effL P ops S brk R s a w → wpAnyT P md ops Q S brk s.length listed a w
  | [], listed, a, w, hB, _, h => ⟨by simpa [effB] using hB, hR _ _ h⟩
  | (i, 0) :: s, listed, a, w, hB, hT, h => by
    simp only [effB, Bool.and_eq_true, bne_iff_ne, ne_eq, Bool.not_eq_true'] at hB
    obtain ⟨⟨⟨⟨⟨h1, h2⟩, h3⟩, h4⟩, h5⟩, h6⟩ := hB
    obtain ⟨o, v, hi, hy, hk⟩ := h
    cases hb : ops[brk]? with
    | none =>
      have hn : ∀ listed : Array Bool, listed.getD i true = false → brk ∉ Region.ready md ops listed := fun listed _ hr => by
        obtain ⟨_, o, ho, _⟩ := mem_ready.1 hr
        rw [hb] at ho; cases ho
      exact wpAnyT_first (S' := S) hi (Region.noSelect_spec hs) (fun c a w h => absurd h (hQ c _ _)) h3 (.inr ⟨hn, fun w h => h⟩) s.length listed a w (Region.free_spec hi h1) (by simpa using h2) hy hT (.inr h4)
        (effL_any hs hR hQ s _ _ _ h6 (by unfold TT; rw [getD_set_ne' h3]; exact hT) hk)
    | some ob =>
      exact wpAnyT_first (S' := S) hi (Region.noSelect_spec hs) (fun c a w h => absurd h (hQ c _ _)) h3 (.inr ⟨anch_spec hb h5, fun w h => h⟩) s.length listed a w (Region.free_spec hi h1) (by simpa using h2) hy hT (.inr h4)
        (effL_any hs hR hQ s _ _ _ h6 (by unfold TT; rw [getD_set_ne' h3]; exact hT) hk)
  | (i, 1) :: s, listed, a, w, hB, hT, h => by
    simp only [effB, Bool.and_eq_true, bne_iff_ne, ne_eq] at hB
    obtain ⟨⟨⟨h1, h2⟩, h3⟩, h6⟩ := hB
    obtain ⟨o, v, hi, hy, hk⟩ := h
    exact wpAnyT_first (S' := AnyW) hi (Region.noSelect_spec hs) (fun c a w h => absurd h (hQ c _ _)) h3 (.inl (fun _ => trivial)) s.length listed a w (Region.free_spec hi h1) (by simpa using h2) hy hT (.inl (fun _ => trivial))
      (effL_any hs hR hQ s _ _ _ h6 (by unfold TT; rw [getD_set_ne' h3]; exact hT) hk)
  | (i, n + 2) :: s, listed, a, w, hB, hT, h => by
    simp only [effB, Bool.and_eq_true, beq_iff_eq, decide_eq_true_eq, Bool.not_eq_true'] at hB
    obtain ⟨⟨⟨h1, h2⟩, h4⟩, h6⟩ := hB
    obtain ⟨o, hi, hk⟩ := h
    refine ⟨fun h0 => (by rw [h1] at h0; cases h0), fun j hj => ?_⟩
    rw [h1] at hj
    obtain rfl : j = i := by simpa using hj
    refine wpOp_mono (fun a' w' hh => ?_) (effL_one hi hk)
    have hT' : TT S brk (listed.setIfInBounds j true) w' := by
      by_cases e : j = brk
      · subst e; exact .inl (by simp [h2])
      · exact .inr (hh.1 e)
    exact ⟨hT', effL_any hs hR hQ s _ _ _ h6 hT' hh.2⟩

/-- The region, by the order s: (number, kind). -/
theorem region_eff (S : World → Prop) (brk : Nat) (s : List (Nat × Nat)) {id : Nat} {a : Act} {w : World} {l : List Oper} (hm : P.follows .mixedOrders = true)
    (hB : (Region.noSelect l.toArray && (s.length == l.length) && effB .any l.toArray brk s (Array.replicate l.length false)) = true) (hS : S w.drew) (h : effL P l.toArray S brk (fun a' W' => Q .normal a' W') s a w.drew) : (Code.region id l.toArray true).wp P Q a w := by
  simp only [Bool.and_eq_true, beq_iff_eq] at hB
  obtain ⟨⟨h1, h2⟩, h3⟩ := hB
  refine wp_mono (Q := fun x a w => x = .normal ∧ Q .normal a w) (wp_region_any hm (wpAny_of_T (S := S) (brk := brk) _ _ _ _ ?_)) (fun e a w hh => by obtain ⟨rfl, hh⟩ := hh; exact hh)
  have := effL_any (md := .any) (Q := fun x a w => x = .normal ∧ Q .normal a w) h1 (fun a w hh => ⟨rfl, hh⟩) (fun c a w hh => by simp at hh) s _ a w.drew h3 (.inr hS) h
  rw [h2] at this
  simpa using this
variable {R : Act → World → Prop} {a : Act} {W W' : World} {i : Nat} {s : List (Nat × Nat)} {o : Oper} {l : List Oper}
theorem at_l (h : l[i]? = some o) : l.toArray[i]? = some o := by simpa using h
theorem eff_nil (h : R a W) : effL P l.toArray S brk R [] a W := h
theorem eff_off (hi : l[i]? = some o) (hw : Region.wanted o (yielded l.toArray a.tmps) = false) (h : effL P l.toArray S brk R s (a.put o.dst undef) W) : effL P l.toArray S brk R ((i, 1) :: s) a W :=
  ⟨o, undef, at_l hi, .inr ⟨hw, rfl⟩, h⟩
theorem eff_off0 (hi : l[i]? = some o) (hw : Region.wanted o (yielded l.toArray a.tmps) = false) (h : effL P l.toArray S brk R s (a.put o.dst undef) W) : effL P l.toArray S brk R ((i, 0) :: s) a W :=
  ⟨o, undef, at_l hi, .inr ⟨hw, rfl⟩, h⟩
theorem eff_rd (v : Value) (hi : l[i]? = some o) (hw : Region.wanted o (yielded l.toArray a.tmps) = true) (hy : ∀ w', S w' → (execOp a.eval o).run P w' = .ok (.value v) w') (h : effL P l.toArray S brk R s (a.put o.dst v) W) :
    effL P l.toArray S brk R ((i, 0) :: s) a W := ⟨o, v, at_l hi, .inl ⟨hw, hy⟩, h⟩
theorem eff_pu (v : Value) (hi : l[i]? = some o) (hw : Region.wanted o (yielded l.toArray a.tmps) = true) (hy : ∀ w', (execOp a.eval o).run P w' = .ok (.value v) w') (h : effL P l.toArray S brk R s (a.put o.dst v) W) :
    effL P l.toArray S brk R ((i, 1) :: s) a W := ⟨o, v, at_l hi, .inl ⟨hw, fun w _ => hy w⟩, h⟩
theorem eff_do (hi : l[i]? = some o) (h : wpList P l.toArray (fun x a' W' => x = .normal ∧ (i ≠ brk → S W') ∧ effL P l.toArray S brk R s a' W') [o] a W) : effL P l.toArray S brk R ((i, 2) :: s) a W := ⟨o, at_l hi, h⟩
/-- A call, that goes through as its contract says. -/
theorem eff_call (f : FuncId) (args : Array Value) (hi : l[i]? = some o) (hw : Region.wanted o (yielded l.toArray a.tmps) = true) (hy : ∀ w', (execOp a.eval o).run P w' = .ok (.enter f args) w')
    (hc : Calls P f args W (fun e W' => ∃ v, e = .returned v ∧ (i ≠ brk → S W') ∧ effL P l.toArray S brk R s (a.put o.dst v) W')) : effL P l.toArray S brk R ((i, 2) :: s) a W := by
  refine ⟨o, at_l hi, ?_⟩
  unfold wpList
  rw [if_pos hw]
  refine .inl ?_
  unfold Oper.wp
  rw [hy W]
  simp only [Oper.upon, wpList]
  refine Calls.mono hc fun e w' he => ?_
  obtain ⟨v, rfl, h1, h2⟩ := he
  exact ⟨trivial, h1, h2⟩
/-- An operation with a value, that turns the world. -/
theorem eff_run {v : Value} (hi : l[i]? = some o) (hw : Region.wanted o (yielded l.toArray a.tmps) = true) (hy : (execOp a.eval o).run P W = .ok (.value v) W') (hS : i ≠ brk → S W') (h : effL P l.toArray S brk R s (a.put o.dst v) W') : effL P l.toArray S brk R ((i, 2) :: s) a W := by
  refine ⟨o, at_l hi, ?_⟩
  unfold wpList
  rw [if_pos hw]
  refine .inl ?_
  unfold Oper.wp
  rw [hy]
  simp only [Oper.upon, wpList]
  exact ⟨trivial, hS, h⟩
theorem eff_skip (hi : l[i]? = some o) (hw : Region.wanted o (yielded l.toArray a.tmps) = true) (hy : (execOp a.eval o).run P W = .ok .skip W') (hS : i ≠ brk → S W') (h : effL P l.toArray S brk R s (a.put o.dst undef) W') : effL P l.toArray S brk R ((i, 2) :: s) a W := by
  refine ⟨o, at_l hi, ?_⟩
  unfold wpList
  rw [if_pos hw]
  refine .inl ?_
  unfold Oper.wp
  rw [hy]
  simp only [Oper.upon, wpList]
  exact ⟨trivial, hS, h⟩
end

theorem Fr.cqm {M : Nat → Prop} {w W : World} (hf : Fr M w W) (b o : Nat) (h : b < w.heap.size) (hm : ¬ M b) : W.cell? ⟨b, o, none⟩ = w.cell? ⟨b, o, none⟩ := hf.cell (p := ⟨b, o, none⟩) h hm

end Go.Proofs.YtgpliiepoimcbaaDoor
end
section
/- The proof forest: its up map; the walk of find. -/
namespace Go.Proofs.YtgpliiepoimcbaaDoor
open Go.RowKit
set_option maxRecDepth 100000

def UpIs (w : World) (bu : Nat) (g : Int → Option Int) : Prop := ∃ m : List (Int × Value), MapIs (.int .i64) (Value.int .i64) w bu m ∧ ∀ k, mget m k = (g k).map (Value.int .i64)
/-- r is the root of every id by the map g; rk goes down along it. -/
structure UpOk (g : Int → Option Int) (r : Int → Int) (rk : Int → Nat) : Prop where
  top : ∀ y, g y = none → r y = y
  step : ∀ y p, g y = some p → r p = r y ∧ rk p < rk y
theorem UpOk.low {g : Int → Option Int} {r : Int → Int} {rk : Int → Nat} (h : UpOk g r rk) : ∀ n y, rk y = n → r y = y ∨ rk (r y) < rk y := by
  intro n
  induction n using Nat.strongRecOn with
  | ind n ih =>
    intro y hy
    cases hg : g y with
    | none => exact .inl (h.top y hg)
    | some p =>
      obtain ⟨h1, h2⟩ := h.step y p hg
      rcases ih (rk p) (by omega) p rfl with h3 | h3
      · rw [← h1, h3]; exact .inr h2
      · rw [← h1]; exact .inr (by omega)
theorem UpOk.root {g : Int → Option Int} {r : Int → Int} {rk : Int → Nat} (h : UpOk g r rk) (y : Int) : g (r y) = none := by
  cases hg : g (r y) with
  | none => rfl
  | some p =>
    exfalso
    have key : ∀ n y p, rk y = n → g (r y) = some p → False := by
      intro n
      induction n using Nat.strongRecOn with
      | ind n ih =>
        intro y p hn hp
        cases hy : g y with
        | none =>
          rw [h.top y hy, hy] at hp
          cases hp
        | some q =>
          obtain ⟨h1, h2⟩ := h.step y q hy
          rw [← h1] at hp
          exact ih (rk q) (by omega) q p rfl hp
    exact key _ y p rfl hg
theorem UpOk.idem {g : Int → Option Int} {r : Int → Int} {rk : Int → Nat} (h : UpOk g r rk) (y : Int) : r (r y) = r y := h.top _ (h.root y)
theorem UpOk.none_iff {g : Int → Option Int} {r : Int → Int} {rk : Int → Nat} (h : UpOk g r rk) {y : Int} (hy : r y = y) : g y = none := by rw [← hy]; exact h.root y
/-- The path is made shorter. -/
theorem UpOk.cut {g : Int → Option Int} {r : Int → Int} {rk : Int → Nat} (h : UpOk g r rk) (y : Int) (hy : y ≠ r y) : UpOk (fun k => if k = y then some (r y) else g k) r rk := by
  refine ⟨fun k hk => ?_, fun k p hk => ?_⟩
  · by_cases e : k = y
    · simp [e] at hk
    · simp [e] at hk; exact h.top k hk
  · by_cases e : k = y
    · subst e
      simp at hk
      subst hk
      refine ⟨h.idem k, ?_⟩
      rcases h.low _ k rfl with h1 | h1
      · exact absurd h1.symm hy
      · exact h1
    · simp [e] at hk; exact h.step k p hk
/-- Two roots are joined. -/
theorem UpOk.join {g : Int → Option Int} {r : Int → Int} {rk : Int → Nat} (h : UpOk g r rk) (a b : Int) (ha : r a = a) (hb : r b = b) (hab : a ≠ b) :
    UpOk (fun k => if k = a then some b else g k) (fun k => if r k = a then b else r k) (fun k => if r k = a then rk k + rk b + 1 else rk k) := by
  refine ⟨fun k hk => ?_, fun k p hk => ?_⟩
  · by_cases e : k = a
    · simp [e] at hk
    · simp [e] at hk
      have := h.top k hk
      simp only [this, if_neg e]
  · by_cases e : k = a
    · subst e
      simp at hk
      subst hk
      have hb2 : ¬ r b = k := by rw [hb]; exact fun e => hab e.symm
      simp only [hb, ha, if_true]
      refine ⟨by rw [if_neg (fun e => hab e.symm)], ?_⟩
      rw [if_neg (fun e => hab e.symm)]; omega
    · simp [e] at hk
      obtain ⟨h1, h2⟩ := h.step k p hk
      simp only [h1]
      refine ⟨trivial, ?_⟩
      split <;> omega

theorem UpIs.fr {M : Nat → Prop} {w w' : World} {b : Nat} {g : Int → Option Int} (h : UpIs w b g) (hf : Fr M w w') (hm : ¬ M b) : UpIs w' b g := by
  obtain ⟨m, h1, h2⟩ := h
  exact ⟨m, h1.fr hf hm, h2⟩
theorem UpIs.lt {w : World} {b : Nat} {g : Int → Option Int} (h : UpIs w b g) : b < w.heap.size := by obtain ⟨m, h1, _⟩ := h; exact h1.lt
theorem UpIs.look {w : World} {b : Nat} {g : Int → Option Int} (h : UpIs w b g) (x : Int) (ok : Bool) :
    (Instr.lookup 86 (.map (some b)) (.int .i64 x) ok).run Tryd.prog w = .ok (if ok then .tuple #[.int .i64 ((g x).getD 0), .bool (g x).isSome] else .int .i64 ((g x).getD 0)) w := by
  obtain ⟨m, h1, h2⟩ := h
  cases hg : g x with
  | none => exact h1.lookNone kkInt Tryd.underlying86 Tryd.underlying3 x (by rw [h2, hg]; rfl) (z := .int .i64 0) (by kernel_rfl) ok
  | some p => exact h1.look kkInt Tryd.underlying86 Tryd.underlying3 x (by rw [h2, hg]; rfl) ok
theorem UpIs.entry {w : World} {b : Nat} {g : Int → Option Int} (h : UpIs w b g) (x p u : Int) (hx : g x = some p) :
    ∃ s w', (Instr.mapEntry 86 (.map (some b)) (.int .i64 x)).run Tryd.prog w = .ok (.tuple #[.int .i64 p, .int .i64 s]) w ∧ (Instr.entryStore 86 (.map (some b)) (.int .i64 s) (.int .i64 u)).run Tryd.prog w = .ok () w' ∧ UpIs w' b (fun k => if k = x then some u else g k) ∧ Fr (fun q => q = b) w w' := by
  obtain ⟨m, h1, h2⟩ := h
  obtain ⟨s, w', e1, e2, e3, e4⟩ := h1.entry (P := Tryd.prog) kkInt Tryd.underlying86 Tryd.underlying3 x (by rw [h2, hx]; rfl) (.int .i64 u)
  refine ⟨s, w', e1, e2, ⟨_, e3, fun k => ?_⟩, e4⟩
  rw [mget_put]
  by_cases e : k = x
  · simp [e]
  · simp [e, h2]
theorem UpIs.put {w : World} {b : Nat} {g : Int → Option Int} (h : UpIs w b g) (x u : Int) :
    ∃ w', (Instr.mapUpdate 86 (.map (some b)) (.int .i64 x) (.int .i64 u)).run Tryd.prog w = .ok () w' ∧ UpIs w' b (fun k => if k = x then some u else g k) ∧ Fr (fun q => q = b) w w' := by
  obtain ⟨m, h1, h2⟩ := h
  obtain ⟨w', e1, e2, e3⟩ := h1.put (P := Tryd.prog) kkInt Tryd.underlying86 Tryd.underlying3 x (.int .i64 u)
  refine ⟨w', e1, ⟨_, e2, fun k => ?_⟩, e3⟩
  rw [mget_put]
  by_cases e : k = x
  · simp [e]
  · simp [e, h2]

/-- The head of a forest. -/
def FHead (w : World) (bf bn bu : Nat) (sl : Value) : Prop := w.heap[bf]? = some (.cells #[.bool true, sl, .map (some bn), .map (some bu)] 88 (0, 0))
theorem FHead.cells {w : World} {bf bn bu : Nat} {sl : Value} (h : FHead w bf bn bu sl) : w.cell? ⟨bf, 0, none⟩ = some (.bool true) ∧ w.cell? ⟨bf, 1, none⟩ = some sl ∧ w.cell? ⟨bf, 2, none⟩ = some (.map (some bn)) ∧ w.cell? ⟨bf, 3, none⟩ = some (.map (some bu)) ∧ (∀ o, w.frozen? ⟨bf, o, none⟩ = false) ∧ bf < w.heap.size := by
  unfold FHead at h
  exact ⟨by simp [World.cell?, h], by simp [World.cell?, h], by simp [World.cell?, h], by simp [World.cell?, h], fun o => by simp [World.frozen?, h], (Array.getElem?_eq_some_iff.1 h).1⟩

set_option maxHeartbeats 2000000 in
theorem ffind_any (w : World) (bf bn bu : Nat) (sl : Value) (g : Int → Option Int) (r : Int → Int) (rk : Int → Nat) (x : Int) (hh : FHead w bf bn bu sl) (hu : UpIs w bu g) (ho : UpOk g r rk) (hne : bu ≠ bf) :
    Calls Tryd.prog 52 #[.pointer (some ⟨bf, 0, none⟩), .int .i64 x] w fun e w' => e = .returned (.int .i64 (r x)) ∧ (∃ g', UpIs w' bu g' ∧ UpOk g' r rk) ∧ Fr (fun k => k = bu) w w' := by
  have HH := hid hh
  have HU := hid hu
  have HO := hid ho
  have HNE := hid hne
  obtain ⟨c0, c1, c2, c3, cf, cl⟩ := hh.cells
  clear hh hu ho hne c0 c1 c2
  go_enter Tryd.func52, Tryd.ntmps52
  go_wp2
  go_loop [5] (fun v => ∃ y, v = .int .i64 y ∧ r y = r x) (fun v => rk (intOf v))
  case atStart => exact ⟨x, rfl, rfl⟩
  case round =>
    obtain ⟨y, rfl, hy⟩ := hrel
    have HY := hid hy
    clear hy
    cases hg : g y with
    | some p =>
      have lk := HU.out.look y true
      rw [hg] at lk
      have HG := hid hg
      clear hg
      go_wp2
      go_round
      case rel => exact ⟨p, rfl, by rw [(HO.out.step y p HG.out).1]; exact HY.out⟩
      case measure => exact (HO.out.step y p HG.out).2
    | none =>
      have lk := HU.out.look y true
      rw [hg] at lk
      have HG : Hid (y = r x) := by show _ = _; rw [← HY.out]; exact (HO.out.top y hg).symm
      clear hg
      go_wp2
      clear lk
      obtain rfl := HG.out
      clear HG HY
      clear c3 cf cl
      go_loopw [1] (fun v wr => ∃ y, v = .int .i64 y ∧ r y = r x ∧ (∃ g', UpIs wr bu g' ∧ UpOk g' r rk) ∧ Fr (fun k => k = bu) w wr) (fun v _ => rk (intOf v))
      case atStart => exact ⟨x, rfl, rfl, ⟨g, HU.out, HO.out⟩, Fr.refl _ _⟩
      case round =>
        obtain ⟨z, rfl, hz, ⟨g', hu', ho'⟩, hf⟩ := hrel
        have HZ := hid hz
        have HU' := hid hu'
        have HO' := hid ho'
        have F := hid hf
        have hh' : FHead wr bf bn bu sl := hf.at (fun h => HNE.out h.symm) HH.out
        obtain ⟨c0, c1, c2, c3, cf, cl⟩ := hh'.cells
        clear hz hu' ho' hf hh' c0 c1 c2
        by_cases hzr : z = r x
        · have hq : (z != r x) = false := by simpa using hzr
          have HZR := hid hzr
          clear hzr
          go_wp2
          go_ret
          exact ⟨rfl, ⟨g', HU'.out, HO'.out⟩, F.out⟩
        · have hq : (z != r x) = true := by simpa using hzr
          have hne : z ≠ r z := by rw [HZ.out]; exact hzr
          cases hgz : g' z with
          | none => exact absurd (HO'.out.top z hgz).symm hne
          | some p =>
            have HGZ := hid hgz
            have hU2 : UpIs wr.drew bu g' := HU'.out.fr (M := NoB) (Fr.refl NoB wr).drew (fun h => h)
            have lk := hU2.look z false
            rw [hgz] at lk
            obtain ⟨s, w', e1, e2, e3, e4⟩ := hU2.entry z p (r x) hgz
            have HE2 := hid e2
            have HE3 := hid e3
            have HE4 := hid e4
            have HNZ := hid hne
            clear hgz hzr e2 e3 e4 hne hU2
            go_wp2
            refine region_eff (fun w' => w'.cell? ⟨bf, 3, none⟩ = some (.map (some bu)) ∧ (Instr.lookup 86 (.map (some bu)) (.int .i64 z) false).run Tryd.prog w' = .ok (.int .i64 p) w' ∧ (Instr.mapEntry 86 (.map (some bu)) (.int .i64 z)).run Tryd.prog w' = .ok (.tuple #[.int .i64 p, .int .i64 s]) w') 14 [(0, 1), (1, 1), (2, 1), (3, 0), (4, 1), (5, 1), (6, 1), (7, 1), (8, 1), (9, 0), (10, 1), (11, 0), (12, 0), (13, 1), (14, 2), (15, 1)] (by kernel_rfl) (by kernel_rfl) ?_ ?_
            · exact ⟨c3, lk, e1⟩
            clear lk e1
            repeat (first | (refine eff_off (by rfl) (by rfl) ?_; (try simp only [Act.put, List.setIfInBounds_toArray, List.set_cons_zero, List.set_cons_succ])) | (refine eff_off0 (by rfl) (by rfl) ?_; (try simp only [Act.put, List.setIfInBounds_toArray, List.set_cons_zero, List.set_cons_succ])) | (refine eff_pu ?_ (by rfl) (by rfl) ?_ ?_; rotate_left; (focus (intro w'; go_simp; (try with_reducible rfl); done)); (try simp only [Act.put, List.setIfInBounds_toArray, List.set_cons_zero, List.set_cons_succ])) | (refine eff_rd ?_ (by rfl) (by rfl) ?_ ?_; rotate_left; (focus (intro w' hS; (try obtain ⟨hq1, hS⟩ := hS); (try obtain ⟨hq2, hS⟩ := hS); (try obtain ⟨hq3, hS⟩ := hS); (try obtain ⟨hq4, hS⟩ := hS); (try obtain ⟨hq5, hS⟩ := hS); (try obtain ⟨hq6, hS⟩ := hS); (try obtain ⟨hq7, hS⟩ := hS); (try obtain ⟨hq8, hS⟩ := hS); (try obtain ⟨hq9, hS⟩ := hS); (try obtain ⟨hq10, hS⟩ := hS); (try obtain ⟨hq11, hS⟩ := hS); (try obtain ⟨hq12, hS⟩ := hS); (try obtain ⟨hq13, hS⟩ := hS); (try obtain ⟨hq14, hS⟩ := hS); (try obtain ⟨hq15, hS⟩ := hS); (try obtain ⟨hq16, hS⟩ := hS); (try obtain ⟨hq17, hS⟩ := hS); (try obtain ⟨hq18, hS⟩ := hS); (try obtain ⟨hq19, hS⟩ := hS); (try dsimp only at hS); go_simp; (try with_reducible rfl); done)); (try simp only [Act.put, List.setIfInBounds_toArray, List.set_cons_zero, List.set_cons_succ])))
            refine eff_skip (W' := w') (by rfl) (by rfl) (by have h := HE2.out; go_simp) (fun h => absurd rfl h) ?_
            (try simp only [Act.put, List.setIfInBounds_toArray, List.set_cons_zero, List.set_cons_succ])
            repeat (first | (refine eff_off (by rfl) (by rfl) ?_; (try simp only [Act.put, List.setIfInBounds_toArray, List.set_cons_zero, List.set_cons_succ])) | (refine eff_off0 (by rfl) (by rfl) ?_; (try simp only [Act.put, List.setIfInBounds_toArray, List.set_cons_zero, List.set_cons_succ])) | (refine eff_pu ?_ (by rfl) (by rfl) ?_ ?_; rotate_left; (focus (intro w'; go_simp; (try with_reducible rfl); done)); (try simp only [Act.put, List.setIfInBounds_toArray, List.set_cons_zero, List.set_cons_succ])) | (refine eff_rd ?_ (by rfl) (by rfl) ?_ ?_; rotate_left; (focus (intro w' hS; (try obtain ⟨hq1, hS⟩ := hS); (try obtain ⟨hq2, hS⟩ := hS); (try obtain ⟨hq3, hS⟩ := hS); (try obtain ⟨hq4, hS⟩ := hS); (try obtain ⟨hq5, hS⟩ := hS); (try obtain ⟨hq6, hS⟩ := hS); (try obtain ⟨hq7, hS⟩ := hS); (try obtain ⟨hq8, hS⟩ := hS); (try obtain ⟨hq9, hS⟩ := hS); (try obtain ⟨hq10, hS⟩ := hS); (try obtain ⟨hq11, hS⟩ := hS); (try obtain ⟨hq12, hS⟩ := hS); (try obtain ⟨hq13, hS⟩ := hS); (try obtain ⟨hq14, hS⟩ := hS); (try obtain ⟨hq15, hS⟩ := hS); (try obtain ⟨hq16, hS⟩ := hS); (try obtain ⟨hq17, hS⟩ := hS); (try obtain ⟨hq18, hS⟩ := hS); (try obtain ⟨hq19, hS⟩ := hS); (try dsimp only at hS); go_simp; (try with_reducible rfl); done)); (try simp only [Act.put, List.setIfInBounds_toArray, List.set_cons_zero, List.set_cons_succ])))
            refine eff_nil ?_
            go_wp2
            go_roundw
            case rel => exact ⟨p, rfl, by rw [(HO'.out.step z p HGZ.out).1]; exact HZ.out, ⟨_, HE3.out, by have h := HO'.out.cut z HNZ.out; rw [HZ.out] at h; exact h⟩, F.out.drew.trans HE4.out⟩
            case measure => exact (HO'.out.step z p HGZ.out).2
end Go.Proofs.YtgpliiepoimcbaaDoor
end
section
/- The proof forest: its rows of link numbers (near); the walk of add. -/
namespace Go.Proofs.YtgpliiepoimcbaaDoor
open Go.RowKit
set_option maxRecDepth 100000

theorem OwnE.head {α : Type} {enc : α → List Value} {k : Nat} {e : TypeId} {B : Nat} {w : World} {v : Value} {l : List α} (h : OwnE enc k e B w v l) {b : Nat} (hb : v.ownBlock = some b) : ∃ cur, w.heap[b]? = some (.cells cur e (0, 0)) := by
  rcases h.2 with ⟨h2, _⟩ | ⟨g, cap, cur, h1, _, hg, _⟩
  · rw [h2] at hb; cases hb
  · rw [h1] at hb; cases hb; exact ⟨cur, hg⟩
theorem OwnI.head {B : Nat} {w : World} {v : Value} {l : List Int} (h : OwnI B w v l) {b : Nat} (hb : v.ownBlock = some b) : ∃ cur, w.heap[b]? = some (.cells cur 3 (0, 0)) := by
  rcases h.2 with ⟨h2, _⟩ | ⟨g, cap, cur, h1, _, hg, _⟩
  · rw [h2] at hb; cases hb
  · rw [h1] at hb; cases hb; exact ⟨cur, hg⟩
theorem ne_of_types {w : World} {b q : Nat} {c c' : Array Value} {e e' : TypeId} {f f' : Nat × Nat} (h : w.heap[b]? = some (.cells c e f)) (h' : w.heap[q]? = some (.cells c' e' f')) (he : e ≠ e') : b ≠ q := by
  rintro rfl
  rw [h] at h'
  simp only [Option.some.injEq, Obj.cells.injEq] at h'
  exact he h'.2.1
theorem MapIs.ne_cells {κ : Type} [DecidableEq κ] {d : TypeDesc} {mk : κ → Value} {w : World} {q b : Nat} {m : List (κ × Value)} (h : MapIs d mk w q m) {c : Array Value} {e : TypeId} {f : Nat × Nat} (h' : w.heap[b]? = some (.cells c e f)) : b ≠ q := by
  rintro rfl
  obtain ⟨es, clock, hb, _⟩ := h
  rw [hb] at h'; cases h'

theorem MapIs.at_eq {κ : Type} [DecidableEq κ] {d : TypeDesc} {mk : κ → Value} {w w1 : World} {b : Nat} {m : List (κ × Value)} (h : MapIs d mk w b m) (e : w1.heap[b]? = w.heap[b]?) : MapIs d mk w1 b m := by
  obtain ⟨es, clock, hb, r⟩ := h
  exact ⟨es, clock, e.trans hb, r⟩
def NearIs (N : Nat → Prop) (w : World) (bn : Nat) (nl : Int → List Int) : Prop :=
  ∃ m : List (Int × Value), MapIs (.int .i64) (Value.int .i64) w bn m ∧ (∀ k, mget m k = none → nl k = []) ∧ (∀ k v, mget m k = some v → OwnI 0 w v (nl k) ∧ ∀ b, v.ownBlock = some b → N b) ∧
    ∀ k k' v v', k ≠ k' → mget m k = some v → mget m k' = some v' → ∀ b, v.ownBlock = some b → v'.ownBlock ≠ some b
theorem NearIs.fr {N M : Nat → Prop} {w w' : World} {bn : Nat} {nl : Int → List Int} (h : NearIs N w bn nl) (hf : Fr M w w') (hb : ¬ M bn) (hm : ∀ k, N k → ¬ M k) : NearIs N w' bn nl := by
  obtain ⟨m, h1, h2, h3, h4⟩ := h
  exact ⟨m, h1.fr hf hb, h2, fun k v hk => ⟨(h3 k v hk).1.fr hf (fun b hb => hm b ((h3 k v hk).2 b hb)), (h3 k v hk).2⟩, h4⟩
/-- The row at a key, as the program looks it up. -/
theorem NearIs.look {N : Nat → Prop} {w : World} {bn : Nat} {nl : Int → List Int} (h : NearIs N w bn nl) (x : Int) :
    ∃ p c, (∀ w1 : World, w1.heap[bn]? = w.heap[bn]? → (Instr.lookup 85 (.map (some bn)) (.int .i64 x) false).run Tryd.prog w1 = .ok (.slice p (nl x).length c) w1) ∧ OwnI 0 w (.slice p (nl x).length c) (nl x) ∧ (∀ b, (Value.slice p (nl x).length c).ownBlock = some b → N b) ∧
      (∀ (w1 : World) (v' : Value) (l' : List Int), Fr (fun b => (Value.slice p (nl x).length c).ownBlock = some b) w w1 → OwnI 0 w1 v' l' → (v'.ownBlock = (Value.slice p (nl x).length c).ownBlock ∨ ∃ q, v'.ownBlock = some q ∧ w.heap.size ≤ q) →
        ∃ w2, (Instr.mapUpdate 85 (.map (some bn)) (.int .i64 x) v').run Tryd.prog w1 = .ok () w2 ∧ NearIs (fun k => N k ∨ w.heap.size ≤ k) w2 bn (fun k => if k = x then l' else nl k) ∧ Fr (fun k => k = bn) w1 w2) := by
  obtain ⟨m, h1, h2, h3, h4⟩ := h
  have key : ∀ (v : Value), OwnI 0 w v (nl x) → (mget m x = some v ∨ (mget m x = none ∧ v.ownBlock = none)) → ∀ (w1 : World) (v' : Value) (l' : List Int), Fr (fun b => v.ownBlock = some b) w w1 → OwnI 0 w1 v' l' → (v'.ownBlock = v.ownBlock ∨ ∃ q, v'.ownBlock = some q ∧ w.heap.size ≤ q) →
        ∃ w2, (Instr.mapUpdate 85 (.map (some bn)) (.int .i64 x) v').run Tryd.prog w1 = .ok () w2 ∧ NearIs (fun k => N k ∨ w.heap.size ≤ k) w2 bn (fun k => if k = x then l' else nl k) ∧ Fr (fun k => k = bn) w1 w2 := by
    intro v ho hv w1 v' l' hf ho' hb
    have hbn : ¬ v.ownBlock = some bn := fun e => by
      obtain ⟨cur, hc⟩ := ho.head e
      exact h1.ne_cells hc rfl
    have hm1 := h1.fr hf hbn
    obtain ⟨w2, e1, e2, e3⟩ := hm1.put (P := Tryd.prog) kkInt Tryd.underlying85 Tryd.underlying3 x v'
    refine ⟨w2, e1, ⟨_, e2, fun k hk => ?_, fun k u hk => ?_, fun k k' u u' hkk hk hk' b hbu => ?_⟩, e3⟩
    · rw [mget_put] at hk
      by_cases e : k = x
      · rw [if_pos e] at hk; cases hk
      · rw [if_neg e] at hk; simp only [if_neg e]; exact h2 k hk
    · rw [mget_put] at hk
      by_cases e : k = x
      · rw [if_pos e] at hk
        cases hk
        simp only [if_pos e]
        refine ⟨ho'.fr e3 (fun b hb2 e9 => ?_), fun b hb2 => ?_⟩
        · obtain ⟨cur, hc⟩ := ho'.head hb2
          exact hm1.ne_cells hc e9
        · rcases hb with hb | ⟨q, hb, hq⟩
          · rw [hb] at hb2
            rcases hv with hv | ⟨_, hv⟩
            · exact .inl ((h3 x v hv).2 b hb2)
            · rw [hv] at hb2; cases hb2
          · rw [hb] at hb2; cases hb2; exact .inr hq
      · rw [if_neg e] at hk
        simp only [if_neg e]
        have hu := h3 k u hk
        have hu1 : OwnI 0 w1 u (nl k) := hu.1.fr hf (fun b hb2 hb3 => by
          rcases hv with hv | ⟨_, hv⟩
          · exact h4 k x u v e hk hv b hb2 hb3
          · rw [hv] at hb3; cases hb3)
        refine ⟨hu1.fr e3 (fun b hb2 e9 => ?_), fun b hb2 => .inl (hu.2 b hb2)⟩
        obtain ⟨cur, hc⟩ := hu1.head hb2
        exact hm1.ne_cells hc e9
    · rw [mget_put] at hk hk'
      have other : ∀ k u, k ≠ x → mget m k = some u → ∀ b, u.ownBlock = some b → v'.ownBlock ≠ some b := fun k u hkx hku b hb2 hb3 => by
        rcases hb with hb | ⟨q, hb, hq⟩
        · rw [hb] at hb3
          rcases hv with hv | ⟨_, hv⟩
          · exact h4 k x u v hkx hku hv b hb2 hb3
          · rw [hv] at hb3; cases hb3
        · rw [hb] at hb3; cases hb3
          have := World.ownsRow.lt (h3 k u hku).1 _ hb2
          omega
      by_cases e : k = x
      · have e' : k' ≠ x := fun e2 => hkk (e.trans e2.symm)
        rw [if_pos e] at hk
        rw [if_neg e'] at hk'
        cases hk
        exact fun e9 => other k' u' e' hk' b e9 hbu
      · rw [if_neg e] at hk
        by_cases e' : k' = x
        · rw [if_pos e'] at hk'
          cases hk'
          exact other k u e hk b hbu
        · rw [if_neg e'] at hk'
          exact h4 k k' u u' hkk hk hk' b hbu
  cases hg : mget m x with
  | none =>
    have h0 := h2 x hg
    rw [h0]
    refine ⟨none, 0, fun w1 e => (h1.at_eq e).lookNone kkInt Tryd.underlying85 Tryd.underlying3 x hg (z := .slice none 0 0) (by kernel_rfl) false, OwnI.nil 0 w, fun b hb => (by cases hb), fun w1 v' l' => ?_⟩
    exact key (.slice none 0 0) (by rw [h0]; exact OwnI.nil 0 w) (.inr ⟨hg, rfl⟩) w1 v' l'
  | some v =>
    obtain ⟨ho, hN⟩ := h3 x v hg
    obtain ⟨p, c, hv⟩ := ho.form
    subst hv
    exact ⟨p, c, fun w1 e => (h1.at_eq e).look kkInt Tryd.underlying85 Tryd.underlying3 x hg false, ho, hN, fun w1 v' l' => key _ ho (.inl hg) w1 v' l'⟩

/-- The numbers of the links at an id. -/
def nearL (L : List Lnk) (x : Int) : List Int := ((List.range L.length).filter (fun i => (L[i]?).elim false (fun l => l.a == x || l.b == x))).map (fun i : Nat => (i : Int))
theorem nearL_app (L : List Lnk) (l : Lnk) (x : Int) : nearL (L ++ [l]) x = if l.a = x ∨ l.b = x then nearL L x ++ [(L.length : Int)] else nearL L x := by
  unfold nearL
  rw [List.length_append, List.length_singleton, List.range_succ, List.filter_append, List.map_append]
  have h1 : (List.range L.length).filter (fun i => ((L ++ [l])[i]?).elim false (fun l => l.a == x || l.b == x)) = (List.range L.length).filter (fun i => (L[i]?).elim false (fun l => l.a == x || l.b == x)) := by
    apply List.filter_congr
    intro i hi
    rw [List.getElem?_append_left (List.mem_range.1 hi)]
  rw [h1]
  by_cases h : l.a = x ∨ l.b = x
  · rw [if_pos h]
    have : (l.a == x || l.b == x) = true := by simpa using h
    simp [this]
  · rw [if_neg h]
    have : (l.a == x || l.b == x) = false := by simpa using h
    simp [this]
theorem nearL_le (L : List Lnk) (x : Int) : (nearL L x).length ≤ L.length := by
  unfold nearL
  rw [List.length_map]
  exact Nat.le_trans (List.length_filter_le _ _) (by simp)
end Go.Proofs.YtgpliiepoimcbaaDoor
end
section
/- The walk of forest.add. -/
namespace Go.Proofs.YtgpliiepoimcbaaDoor
open Go.RowKit
set_option maxRecDepth 100000

abbrev OwnL (w : World) (v : Value) (l : List Lnk) : Prop := OwnE lkCells 3 50 0 w v l
theorem infoLnk : (Tryd.prog.info? 50).map (fun i => (i.zero, i.size, i.bytes)) = some (some (.agg #[.int .i64 0, .int .i64 0, .int .i64 0]), 3, 24) := by kernel_rfl
theorem ap_lnk (w : World) {ops : Array Oper} {rest : List Oper} {o : Oper} {a : Act} {Q : Exit → Act → World → Prop} (hg : o.guard = none) (s x : Operand)
    (ho : o.op = .call { callee := .builtin .append, args := #[s, x], argTypes := #[23, 23] }) (v : Value) (l : List Lnk) (hs : a.eval s = v) (hown : OwnL w v l)
    (u : Value) (m : List Lnk) (hx : a.eval x = u) (hrd : RdE lkCells NoB w u m) (hlen : l.length + m.length ≤ 1000000000)
    (h : ∀ p q w', OwnL w' (.slice p (l ++ m).length q) (l ++ m) → w.grownBy w' v.ownBlock → ((Value.slice p (l ++ m).length q).ownBlock = v.ownBlock ∨ (Value.slice p (l ++ m).length q).ownBlock = some w.heap.size) → wpList Tryd.prog ops Q rest (a.put o.dst (.slice p (l ++ m).length q)) w') : wpList Tryd.prog ops Q (o :: rest) a w := by
  refine ap_rows (z := .agg #[.int .i64 0, .int .i64 0, .int .i64 0]) (bytes := 24) w lkLen (by decide) Tryd.underlying23 infoLnk rfl hg s x ho 0 v l hs hown NoB u m hx hrd (fun y hy u hu => ?_) (by omega) (by omega) (Nat.zero_le _) (fun v' w' h1 h2 h3 => ?_)
  · simp only [lkCells, List.mem_cons, List.not_mem_nil, or_false] at hu
    rcases hu with rfl | rfl | rfl <;> rfl
  · obtain ⟨p, q, hv⟩ := OwnE.form h1
    subst hv
    exact h p q w' h1 h2 h3
theorem rdL_lit {w : World} (l : Lnk) {e : TypeId} {b : Nat} (hb : b = w.heap.size) : RdE lkCells NoB (w.alloc (.cells #[.int .i64 l.a, .int .i64 l.b, .int .i64 l.why] e)) (.slice (some ⟨b, 0, none⟩) 1 1) [l] := by
  subst hb
  refine .inr ⟨w.heap.size, 0, 1, rfl, by simp, fun h => h, Nat.le_refl _, ?_⟩
  have hb := at_new w (.cells #[.int .i64 l.a, .int .i64 l.b, .int .i64 l.why] e)
  intro j u hj
  rw [Nat.zero_add]
  match j, hj with
  | 0, hj => simp [flatE, lkCells] at hj; subst hj; (unfold World.cell?; simp only [hb]; rfl)
  | 1, hj => simp [flatE, lkCells] at hj; subst hj; (unfold World.cell?; simp only [hb]; rfl)
  | 2, hj => simp [flatE, lkCells] at hj; subst hj; (unfold World.cell?; simp only [hb]; rfl)
  | j + 3, hj => simp [flatE, lkCells] at hj

/-- A forest of the links L, of whose ids r gives the root; all its blocks are in M. -/
structure ForAt (M : Nat → Prop) (w : World) (bf : Nat) (L : List Lnk) (r : Int → Int) : Prop where
  ex : ∃ bn bu sl g rk, FHead w bf bn bu sl ∧ OwnL w sl L ∧ (∀ b, sl.ownBlock = some b → M b) ∧ NearIs M w bn (nearL L) ∧ UpIs w bu g ∧ UpOk g r rk ∧ bu ≠ bn ∧ M bf ∧ M bn ∧ M bu
  lt : ∀ k, M k → k < w.heap.size
theorem UpIs.ne_cells {w : World} {q b : Nat} {g : Int → Option Int} (h : UpIs w q g) {c : Array Value} {e : TypeId} {f : Nat × Nat} (h' : w.heap[b]? = some (.cells c e f)) : b ≠ q := by
  obtain ⟨m, h1, _⟩ := h
  exact h1.ne_cells h'
theorem NearIs.ne_cells {N : Nat → Prop} {w : World} {q b : Nat} {g : Int → List Int} (h : NearIs N w q g) {c : Array Value} {e : TypeId} {f : Nat × Nat} (h' : w.heap[b]? = some (.cells c e f)) : b ≠ q := by
  obtain ⟨m, h1, _⟩ := h
  exact h1.ne_cells h'
theorem NearIs.lt {N : Nat → Prop} {w : World} {q : Nat} {g : Int → List Int} (h : NearIs N w q g) : q < w.heap.size := by obtain ⟨m, h1, _⟩ := h; exact h1.lt
theorem NearIs.mono {N N' : Nat → Prop} {w : World} {q : Nat} {g : Int → List Int} (h : NearIs N w q g) (hn : ∀ k, k < w.heap.size → N k → N' k) : NearIs N' w q g := by
  obtain ⟨m, h1, h2, h3, h4⟩ := h
  exact ⟨m, h1, h2, fun k v hk => ⟨(h3 k v hk).1, fun b hb => hn b (World.ownsRow.lt (h3 k v hk).1 b hb).2 ((h3 k v hk).2 b hb)⟩, h4⟩
theorem FHead.fr {M : Nat → Prop} {w w' : World} {bf bn bu : Nat} {sl : Value} (h : FHead w bf bn bu sl) (hf : Fr M w w') (hm : ¬ M bf) : FHead w' bf bn bu sl := hf.at hm h

/-- What the links' rows (near) of one end turn to. -/
structure Mid (M : Nat → Prop) (w W : World) (bf bn bu : Nat) (sl : Value) (L : List Lnk) (nl : Int → List Int) (g : Int → Option Int) (q : Nat) (l : Lnk) : Prop where
  head : FHead W bf bn bu sl
  own : OwnL W sl L
  near : NearIs (fun k => M k ∨ w.heap.size ≤ k) W bn nl
  up : UpIs W bu g
  box : W.heap[q]? = some (.cells #[.int .i64 l.a, .int .i64 l.b, .int .i64 l.why] 50 (0, 0))
  fr : Fr M w W
theorem Mid.quiet {M : Nat → Prop} {w W W' : World} {bf bn bu q : Nat} {sl : Value} {L : List Lnk} {nl : Int → List Int} {g : Int → Option Int} {l : Lnk} (h : Mid M w W bf bn bu sl L nl g q l) (hf : Fr NoB W W') : Mid M w W' bf bn bu sl L nl g q l :=
  ⟨h.head.fr hf (fun h => h), h.own.step hf, h.near.fr hf (fun h => h) (fun _ _ h => h), h.up.fr hf (fun h => h), hf.at (fun h => h) h.box, h.fr.step hf⟩
theorem Mid.cells {M : Nat → Prop} {w W : World} {bf bn bu q : Nat} {sl : Value} {L : List Lnk} {nl : Int → List Int} {g : Int → Option Int} {l : Lnk} (h : Mid M w W bf bn bu sl L nl g q l) :
    W.cell? ⟨bf, 1, none⟩ = some sl ∧ W.cell? ⟨bf, 2, none⟩ = some (.map (some bn)) ∧ W.cell? ⟨q, 0, none⟩ = some (.int .i64 l.a) ∧ W.cell? ⟨q, 1, none⟩ = some (.int .i64 l.b) := by
  obtain ⟨_, c1, c2, _, _, _⟩ := h.head.cells
  obtain ⟨e0, e1, _⟩ := three_of h.box
  exact ⟨c1, c2, e0, e1⟩

/-- What the region reads. -/
def MidS (bf bn q : Nat) (sl : Value) (l : Lnk) (x : Int) (row : Value) (w' : World) : Prop := w'.cell? ⟨bf, 1, none⟩ = some sl ∧ w'.cell? ⟨bf, 2, none⟩ = some (.map (some bn)) ∧ w'.cell? ⟨q, 0, none⟩ = some (.int .i64 l.a) ∧ w'.cell? ⟨q, 1, none⟩ = some (.int .i64 l.b) ∧
  (Instr.lookup 85 (.map (some bn)) (.int .i64 x) false).run Tryd.prog w' = .ok row w'
theorem Mid.look {M : Nat → Prop} {w W : World} {bf bn bu q : Nat} {sl : Value} {L : List Lnk} {nl : Int → List Int} {g : Int → Option Int} {l : Lnk} (h : Mid M w W bf bn bu sl L nl g q l) (hne : bu ≠ bn) (hM : M bn) (x : Int) :
    ∃ p c, OwnI 0 W (.slice p (nl x).length c) (nl x) ∧ (∀ W', Fr (fun b => (Value.slice p (nl x).length c).ownBlock = some b) W W' → MidS bf bn q sl l x (.slice p (nl x).length c) W') ∧
      (∀ (w6 : World) (v6 : Value) (l' : List Int), Fr (fun b => (Value.slice p (nl x).length c).ownBlock = some b) W w6 → OwnI 0 w6 v6 l' → (v6.ownBlock = (Value.slice p (nl x).length c).ownBlock ∨ ∃ q, v6.ownBlock = some q ∧ W.heap.size ≤ q) →
        ∃ w7, (Instr.mapUpdate 85 (.map (some bn)) (.int .i64 x) v6).run Tryd.prog w6 = .ok () w7 ∧ Mid M w w7 bf bn bu sl L (fun k => if k = x then l' else nl k) g q l) := by
  obtain ⟨p, c, lk, ow, hN, upd⟩ := h.near.look x
  have dbf : ¬ (Value.slice p (nl x).length c).ownBlock = some bf := fun e => by
    obtain ⟨cur, hc⟩ := ow.head e
    exact ne_of_types hc h.head (by decide) rfl
  have dq : ¬ (Value.slice p (nl x).length c).ownBlock = some q := fun e => by
    obtain ⟨cur, hc⟩ := ow.head e
    exact ne_of_types hc h.box (by decide) rfl
  have dbn : ¬ (Value.slice p (nl x).length c).ownBlock = some bn := fun e => by
    obtain ⟨cur, hc⟩ := ow.head e
    exact h.near.ne_cells hc rfl
  have dbu : ¬ (Value.slice p (nl x).length c).ownBlock = some bu := fun e => by
    obtain ⟨cur, hc⟩ := ow.head e
    exact h.up.ne_cells hc rfl
  have dsl : ∀ b, sl.ownBlock = some b → ¬ (Value.slice p (nl x).length c).ownBlock = some b := fun b hb e => by
    obtain ⟨cur, hc⟩ := ow.head e
    obtain ⟨cur', hc'⟩ := OwnE.head h.own hb
    exact ne_of_types hc hc' (by decide) rfl
  refine ⟨p, c, ow, fun W' hf => ?_, fun w6 v6 l' hf ho hb => ?_⟩
  · obtain ⟨_, c1, c2, _, _, _⟩ := (h.head.fr hf dbf).cells
    obtain ⟨e0, e1, _⟩ := three_of (hf.at dq h.box)
    exact ⟨c1, c2, e0, e1, lk W' (hf.block bn h.near.lt dbn)⟩
  · obtain ⟨w7, e1, e2, e3⟩ := upd w6 v6 l' hf ho hb
    have h6 := h.head.fr hf dbf
    have hbn : bf ≠ bn := h.near.ne_cells h.head
    have hq : q ≠ bn := h.near.ne_cells h.box
    refine ⟨w7, e1, ⟨h6.fr e3 hbn, (h.own.fr hf dsl).fr e3 (fun b hb2 e9 => ?_), e2.mono (fun k _ hk => ?_), (h.up.fr hf dbu).fr e3 hne, e3.at hq (hf.at dq h.box), ?_⟩⟩
    · obtain ⟨cur', hc'⟩ := OwnE.head h.own hb2
      exact h.near.ne_cells hc' e9
    · rcases hk with hk | hk
      · exact hk
      · exact .inr (Nat.le_trans h.fr.size hk)
    · refine (h.fr.trans' hf (fun k hk e9 => ?_)).trans' e3 (fun k _ e9 => by rw [show k = bn from e9]; exact hM)
      rcases hN k e9 with h1 | h1
      · exact h1
      · omega


set_option maxHeartbeats 4000000 in
theorem fadd_any (M : Nat → Prop) (w : World) (bf : Nat) (L : List Lnk) (r : Int → Int) (l : Lnk) (h : ForAt M w bf L r) (hL : L.length ≤ 1000000) (hab : r l.a ≠ r l.b) (hne : l.a ≠ l.b) :
    Calls Tryd.prog 53 #[.pointer (some ⟨bf, 0, none⟩), .agg #[.int .i64 l.a, .int .i64 l.b, .int .i64 l.why]] w fun e w' => e = .returned (.tuple #[]) ∧ (∃ M', ForAt M' w' bf (L ++ [l]) (fun k => if r k = r l.a then r l.b else r k) ∧ ∀ k, M' k → M k ∨ w.heap.size ≤ k) ∧ Fr M w w' := by
  obtain ⟨bn, bu, sl, g, rk, hh, hs, hsM, hn, hu, ho, hbu, m1, m2, m3⟩ := h.ex
  have HLT := hid h.lt
  obtain ⟨sp, sc, hv⟩ := OwnE.form hs
  subst hv
  have F0 : Fr NoB w (w.alloc (.cells #[.int .i64 l.a, .int .i64 l.b, .int .i64 l.why] 50)) := (Fr.refl NoB w).alloc _
  have MD : Hid (Mid M w (w.alloc (.cells #[.int .i64 l.a, .int .i64 l.b, .int .i64 l.why] 50)) bf bn bu (.slice sp L.length sc) L (nearL L) g w.heap.size l) :=
    ⟨hh.fr F0 (fun h => h), hs.step F0, (hn.mono (fun k _ hk => .inl hk)).fr F0 (fun h => h) (fun _ _ h => h), hu.fr F0 (fun h => h), at_new w _, (Fr.refl M w).alloc _⟩
  obtain ⟨w1, hw1⟩ : ∃ w1, w.alloc (.cells #[.int .i64 l.a, .int .i64 l.b, .int .i64 l.why] 50) = w1 := ⟨_, rfl⟩
  rw [hw1] at MD
  have HW1 := hid hw1
  have HO := hid ho
  have HBU := hid hbu
  have HSM := hid hsM
  have HM1 := hid m1
  have HM2 := hid m2
  have HM3 := hid m3
  have HAB := hid hab
  have HNE := hid hne
  have HNL := hid (nearL_le L)
  clear h hh hs hsM hn hu ho hbu m1 m2 m3 F0 hw1 hab hne
  go_enter Tryd.func53, Tryd.ntmps53
  go_wp2
  rw [HW1.out]
  have MD1 := hid (MD.out.quiet (Fr.refl NoB w1).drew)
  obtain ⟨p, c, ow, st, upd⟩ := MD1.out.look HBU.out HM2.out l.a
  have OW := hid ow
  have ST := hid st
  have UPD := hid upd
  have S0 := ST.out w1.drew (Fr.refl _ _)
  have HKL : Hid (((nearL L) l.a).length ≤ L.length + 1) := Nat.le_succ_of_le (HNL.out _)
  clear ow st upd
  refine region_eff (MidS bf bn w.heap.size (.slice sp L.length sc) l l.a (.slice p ((nearL L) l.a).length c)) 20 [(0, 1), (1, 1), (2, 1), (3, 0), (4, 1), (5, 0), (6, 1), (7, 1), (8, 1), (9, 0), (10, 1), (11, 0), (12, 0), (13, 1), (14, 1), (15, 1), (16, 0), (17, 1), (18, 2), (19, 2), (20, 2)] (by kernel_rfl) (by kernel_rfl) ?_ ?_
  · exact S0
  clear S0
  repeat (first | (refine eff_off (by rfl) (by rfl) ?_; (try simp only [Act.put, List.setIfInBounds_toArray, List.set_cons_zero, List.set_cons_succ])) | (refine eff_off0 (by rfl) (by rfl) ?_; (try simp only [Act.put, List.setIfInBounds_toArray, List.set_cons_zero, List.set_cons_succ])) | (refine eff_pu ?_ (by rfl) (by rfl) ?_ ?_; rotate_left; (focus (intro w'; go_simp; (try with_reducible rfl); done)); (try simp only [Act.put, List.setIfInBounds_toArray, List.set_cons_zero, List.set_cons_succ])) | (refine eff_rd ?_ (by rfl) (by rfl) ?_ ?_; rotate_left; (focus (intro w' hS; (try obtain ⟨hq1, hS⟩ := hS); (try obtain ⟨hq2, hS⟩ := hS); (try obtain ⟨hq3, hS⟩ := hS); (try obtain ⟨hq4, hS⟩ := hS); (try obtain ⟨hq5, hS⟩ := hS); (try obtain ⟨hq6, hS⟩ := hS); (try obtain ⟨hq7, hS⟩ := hS); (try obtain ⟨hq8, hS⟩ := hS); (try obtain ⟨hq9, hS⟩ := hS); (try obtain ⟨hq10, hS⟩ := hS); (try obtain ⟨hq11, hS⟩ := hS); (try obtain ⟨hq12, hS⟩ := hS); (try obtain ⟨hq13, hS⟩ := hS); (try obtain ⟨hq14, hS⟩ := hS); (try obtain ⟨hq15, hS⟩ := hS); (try obtain ⟨hq16, hS⟩ := hS); (try obtain ⟨hq17, hS⟩ := hS); (try obtain ⟨hq18, hS⟩ := hS); (try obtain ⟨hq19, hS⟩ := hS); (try dsimp only at hS); go_simp; (try with_reducible rfl); done)); (try simp only [Act.put, List.setIfInBounds_toArray, List.set_cons_zero, List.set_cons_succ])))
  refine eff_run (v := .slice (some ⟨w1.heap.size, 0, none⟩) 1 1) (W' := w1.drew.alloc (.cells #[.int .i64 L.length] 3)) (by rfl) (by rfl) (by go_simp) (fun _ => ST.out _ ((Fr.refl _ _).alloc _)) ?_
  (try simp only [Act.put, List.setIfInBounds_toArray, List.set_cons_zero, List.set_cons_succ])
  refine eff_do (by rfl) ?_
  refine ap_ints_at _ rfl _ _ rfl 0 (.slice p ((nearL L) l.a).length c) ((nearL L) l.a) rfl (OwnI.fr OW.out ((Fr.refl NoB _).alloc _) (fun _ _ h => h)) NoB _ [(L.length : Int)] rfl (rdI_lit' (l := [(L.length : Int)]) rfl rfl rfl (fun h => h)) ?_ (Nat.zero_le _) ?_
  · have := HKL.out
    simp only [List.length_singleton]
    omega
  intro v6 w6 ho6 hg6 hb6
  have F6 : Fr (fun b => (Value.slice p ((nearL L) l.a).length c).ownBlock = some b) w1.drew w6 := Fr.grown ((Fr.refl _ w1.drew).alloc _) hg6 (fun k hk _ => hk)
  refine wpList_nil ⟨rfl, fun _ => ST.out w6 F6, ?_⟩
  (try simp only [Act.put, List.setIfInBounds_toArray, List.set_cons_zero, List.set_cons_succ])
  obtain ⟨w2, e7, m7⟩ := UPD.out w6 v6 _ F6 ho6 (hb6.imp_right (fun h => ⟨_, h, by simp only [World.size_alloc]; omega⟩))
  have MD2 := hid m7
  clear OW ST UPD HKL m7 ho6 hg6 hb6 F6
  refine eff_skip (W' := w2) (by rfl) (by rfl) (by go_simp) (fun h => absurd rfl h) ?_
  (try simp only [Act.put, List.setIfInBounds_toArray, List.set_cons_zero, List.set_cons_succ])
  refine eff_nil ?_
  clear e7
  go_wp2
  obtain ⟨N1, hN1⟩ : ∃ N1 : Int → List Int, (fun k => if k = l.a then nearL L l.a ++ [(L.length : Int)] else nearL L k) = N1 := ⟨_, rfl⟩
  rw [hN1] at MD2
  have HB1 : Hid (N1 l.b = nearL L l.b) := by show _ = _; rw [← hN1]; exact if_neg (fun e => HNE.out e.symm)
  have HN1 := hid hN1
  clear hN1
  go_wp2
  have MD3 := hid (MD2.out.quiet (Fr.refl NoB w2).drew)
  obtain ⟨p2, c2, ow, st, upd⟩ := MD3.out.look HBU.out HM2.out l.b
  have OW := hid ow
  have ST := hid st
  have UPD := hid upd
  have S0 := ST.out w2.drew (Fr.refl _ _)
  have HKL : Hid (((N1) l.b).length ≤ L.length + 1) := by show _ ≤ _; rw [HB1.out]; exact Nat.le_succ_of_le (HNL.out _)
  clear ow st upd
  refine region_eff (MidS bf bn w.heap.size (.slice sp L.length sc) l l.b (.slice p2 ((N1) l.b).length c2)) 20 [(0, 1), (1, 1), (2, 1), (3, 0), (4, 1), (5, 0), (6, 1), (7, 1), (8, 1), (9, 0), (10, 1), (11, 0), (12, 0), (13, 1), (14, 1), (15, 1), (16, 0), (17, 1), (18, 2), (19, 2), (20, 2)] (by kernel_rfl) (by kernel_rfl) ?_ ?_
  · exact S0
  clear S0
  repeat (first | (refine eff_off (by rfl) (by rfl) ?_; (try simp only [Act.put, List.setIfInBounds_toArray, List.set_cons_zero, List.set_cons_succ])) | (refine eff_off0 (by rfl) (by rfl) ?_; (try simp only [Act.put, List.setIfInBounds_toArray, List.set_cons_zero, List.set_cons_succ])) | (refine eff_pu ?_ (by rfl) (by rfl) ?_ ?_; rotate_left; (focus (intro w'; go_simp; (try with_reducible rfl); done)); (try simp only [Act.put, List.setIfInBounds_toArray, List.set_cons_zero, List.set_cons_succ])) | (refine eff_rd ?_ (by rfl) (by rfl) ?_ ?_; rotate_left; (focus (intro w' hS; (try obtain ⟨hq1, hS⟩ := hS); (try obtain ⟨hq2, hS⟩ := hS); (try obtain ⟨hq3, hS⟩ := hS); (try obtain ⟨hq4, hS⟩ := hS); (try obtain ⟨hq5, hS⟩ := hS); (try obtain ⟨hq6, hS⟩ := hS); (try obtain ⟨hq7, hS⟩ := hS); (try obtain ⟨hq8, hS⟩ := hS); (try obtain ⟨hq9, hS⟩ := hS); (try obtain ⟨hq10, hS⟩ := hS); (try obtain ⟨hq11, hS⟩ := hS); (try obtain ⟨hq12, hS⟩ := hS); (try obtain ⟨hq13, hS⟩ := hS); (try obtain ⟨hq14, hS⟩ := hS); (try obtain ⟨hq15, hS⟩ := hS); (try obtain ⟨hq16, hS⟩ := hS); (try obtain ⟨hq17, hS⟩ := hS); (try obtain ⟨hq18, hS⟩ := hS); (try obtain ⟨hq19, hS⟩ := hS); (try dsimp only at hS); go_simp; (try with_reducible rfl); done)); (try simp only [Act.put, List.setIfInBounds_toArray, List.set_cons_zero, List.set_cons_succ])))
  refine eff_run (v := .slice (some ⟨w2.heap.size, 0, none⟩) 1 1) (W' := w2.drew.alloc (.cells #[.int .i64 L.length] 3)) (by rfl) (by rfl) (by go_simp) (fun _ => ST.out _ ((Fr.refl _ _).alloc _)) ?_
  (try simp only [Act.put, List.setIfInBounds_toArray, List.set_cons_zero, List.set_cons_succ])
  refine eff_do (by rfl) ?_
  refine ap_ints_at _ rfl _ _ rfl 0 (.slice p2 ((N1) l.b).length c2) ((N1) l.b) rfl (OwnI.fr OW.out ((Fr.refl NoB _).alloc _) (fun _ _ h => h)) NoB _ [(L.length : Int)] rfl (rdI_lit' (l := [(L.length : Int)]) rfl rfl rfl (fun h => h)) ?_ (Nat.zero_le _) ?_
  · have := HKL.out
    simp only [List.length_singleton]
    omega
  intro v6 w6 ho6 hg6 hb6
  have F6 : Fr (fun b => (Value.slice p2 ((N1) l.b).length c2).ownBlock = some b) w2.drew w6 := Fr.grown ((Fr.refl _ w2.drew).alloc _) hg6 (fun k hk _ => hk)
  refine wpList_nil ⟨rfl, fun _ => ST.out w6 F6, ?_⟩
  (try simp only [Act.put, List.setIfInBounds_toArray, List.set_cons_zero, List.set_cons_succ])
  obtain ⟨w3, e7, m7⟩ := UPD.out w6 v6 _ F6 ho6 (hb6.imp_right (fun h => ⟨_, h, by simp only [World.size_alloc]; omega⟩))
  have MD4 := hid m7
  clear OW ST UPD HKL m7 ho6 hg6 hb6 F6
  refine eff_skip (W' := w3) (by rfl) (by rfl) (by go_simp) (fun h => absurd rfl h) ?_
  (try simp only [Act.put, List.setIfInBounds_toArray, List.set_cons_zero, List.set_cons_succ])
  refine eff_nil ?_
  clear e7
  have HNF : Hid ((fun k => if k = l.b then N1 l.b ++ [(L.length : Int)] else N1 k) = nearL (L ++ [l])) := by
    show _ = _
    funext k
    rw [nearL_app, ← HN1.out]
    by_cases e : k = l.b
    · subst e
      rw [if_pos rfl, if_pos (.inr rfl)]
      simp only [if_neg (show ¬ l.b = l.a from fun e => HNE.out e.symm)]
    · rw [if_neg e]
      by_cases e2 : k = l.a
      · subst e2; simp
      · rw [if_neg (show ¬ (l.a = k ∨ l.b = k) from fun h => h.elim (fun h => e2 h.symm) (fun h => e h.symm))]
        simp only [if_neg e2]
  rw [HNF.out] at MD4
  clear HN1 HB1 MD2 MD MD1 MD3
  go_wp2
  -- the row of the links
  have MD5 := hid (MD4.out.quiet (Fr.refl NoB w3).drew)
  have HS : Hid (∀ W', Fr (fun b => (Value.slice sp L.length sc).ownBlock = some b) w3.drew W' → W'.cell? ⟨bf, 1, none⟩ = some (.slice sp L.length sc) ∧ W'.cell? ⟨w.heap.size, 0, none⟩ = some (.int .i64 l.a) ∧ W'.cell? ⟨w.heap.size, 1, none⟩ = some (.int .i64 l.b) ∧ W'.cell? ⟨w.heap.size, 2, none⟩ = some (.int .i64 l.why) ∧ FHead W' bf bn bu (.slice sp L.length sc)) := fun W' hf => by
    have d1 : ¬ (Value.slice sp L.length sc).ownBlock = some bf := fun e => by
      obtain ⟨cur, hc⟩ := OwnE.head MD5.out.own e
      exact ne_of_types hc MD5.out.head (by decide) rfl
    have d2 : ¬ (Value.slice sp L.length sc).ownBlock = some w.heap.size := fun e => by
      have := HLT.out _ (HSM.out _ e)
      omega
    have hh := MD5.out.head.fr hf d1
    obtain ⟨e0, e1, e2, _⟩ := three_of (hf.at d2 MD5.out.box)
    exact ⟨hh.cells.2.1, e0, e1, e2, hh⟩
  obtain ⟨s1, s2, s3, s4, s5⟩ := HS.out w3.drew (Fr.refl _ _)
  refine region_eff (fun w' => w'.cell? ⟨bf, 1, none⟩ = some (.slice sp L.length sc) ∧ w'.cell? ⟨w.heap.size, 0, none⟩ = some (.int .i64 l.a) ∧ w'.cell? ⟨w.heap.size, 1, none⟩ = some (.int .i64 l.b) ∧ w'.cell? ⟨w.heap.size, 2, none⟩ = some (.int .i64 l.why)) 10 [(0, 1), (1, 1), (2, 1), (3, 1), (4, 0), (5, 0), (6, 2), (7, 2), (8, 1), (9, 1), (10, 2)] (by kernel_rfl) (by kernel_rfl) ?_ ?_
  · exact ⟨s1, s2, s3, s4⟩
  clear s1 s2 s3 s4 s5
  repeat (first | (refine eff_off (by rfl) (by rfl) ?_; (try simp only [Act.put, List.setIfInBounds_toArray, List.set_cons_zero, List.set_cons_succ])) | (refine eff_off0 (by rfl) (by rfl) ?_; (try simp only [Act.put, List.setIfInBounds_toArray, List.set_cons_zero, List.set_cons_succ])) | (refine eff_pu ?_ (by rfl) (by rfl) ?_ ?_; rotate_left; (focus (intro w'; go_simp; (try with_reducible rfl); done)); (try simp only [Act.put, List.setIfInBounds_toArray, List.set_cons_zero, List.set_cons_succ])) | (refine eff_rd ?_ (by rfl) (by rfl) ?_ ?_; rotate_left; (focus (intro w' hS; (try obtain ⟨hq1, hS⟩ := hS); (try obtain ⟨hq2, hS⟩ := hS); (try obtain ⟨hq3, hS⟩ := hS); (try obtain ⟨hq4, hS⟩ := hS); (try obtain ⟨hq5, hS⟩ := hS); (try obtain ⟨hq6, hS⟩ := hS); (try obtain ⟨hq7, hS⟩ := hS); (try obtain ⟨hq8, hS⟩ := hS); (try obtain ⟨hq9, hS⟩ := hS); (try obtain ⟨hq10, hS⟩ := hS); (try obtain ⟨hq11, hS⟩ := hS); (try obtain ⟨hq12, hS⟩ := hS); (try obtain ⟨hq13, hS⟩ := hS); (try obtain ⟨hq14, hS⟩ := hS); (try obtain ⟨hq15, hS⟩ := hS); (try obtain ⟨hq16, hS⟩ := hS); (try obtain ⟨hq17, hS⟩ := hS); (try obtain ⟨hq18, hS⟩ := hS); (try obtain ⟨hq19, hS⟩ := hS); (try dsimp only at hS); go_simp; (try with_reducible rfl); done)); (try simp only [Act.put, List.setIfInBounds_toArray, List.set_cons_zero, List.set_cons_succ])))
  refine eff_run (v := .slice (some ⟨w3.heap.size, 0, none⟩) 1 1) (W' := w3.drew.alloc (.cells #[.int .i64 l.a, .int .i64 l.b, .int .i64 l.why] 50)) (by rfl) (by rfl) (by go_simp) (fun _ => (HS.out _ ((Fr.refl _ _).alloc _)).imp_right (fun h => ⟨h.1, h.2.1, h.2.2.1⟩)) ?_
  (try simp only [Act.put, List.setIfInBounds_toArray, List.set_cons_zero, List.set_cons_succ])
  refine eff_do (by rfl) ?_
  refine ap_lnk _ rfl _ _ rfl (.slice sp L.length sc) L rfl (OwnE.step MD5.out.own ((Fr.refl NoB _).alloc _)) _ [l] rfl (rdL_lit l rfl) ?_ ?_
  · simp only [List.length_singleton]; omega
  intro p6 q6 w6 ho6 hg6 hb6
  have f6 : Fr (fun b => (Value.slice sp L.length sc).ownBlock = some b) w3.drew w6 := Fr.grown ((Fr.refl _ w3.drew).alloc _) hg6 (fun k hk _ => hk)
  obtain ⟨s1, s2, s3, s4, s5⟩ := HS.out w6 f6
  obtain ⟨_, _, _, _, cf, _⟩ := s5.cells
  have HS5 := hid s5
  have F6 := hid f6
  have O6 := hid ho6
  have B6 := hid hb6
  refine wpList_nil ⟨rfl, fun _ => ⟨s1, s2, s3, s4⟩, ?_⟩
  (try simp only [Act.put, List.setIfInBounds_toArray, List.set_cons_zero, List.set_cons_succ])
  clear s2 s3 s4 s5 hg6 f6 ho6 hb6
  repeat (first | (refine eff_off (by rfl) (by rfl) ?_; (try simp only [Act.put, List.setIfInBounds_toArray, List.set_cons_zero, List.set_cons_succ])) | (refine eff_off0 (by rfl) (by rfl) ?_; (try simp only [Act.put, List.setIfInBounds_toArray, List.set_cons_zero, List.set_cons_succ])) | (refine eff_pu ?_ (by rfl) (by rfl) ?_ ?_; rotate_left; (focus (intro w'; go_simp; (try with_reducible rfl); done)); (try simp only [Act.put, List.setIfInBounds_toArray, List.set_cons_zero, List.set_cons_succ])) | (refine eff_rd ?_ (by rfl) (by rfl) ?_ ?_; rotate_left; (focus (intro w' hS; (try obtain ⟨hq1, hS⟩ := hS); (try obtain ⟨hq2, hS⟩ := hS); (try obtain ⟨hq3, hS⟩ := hS); (try obtain ⟨hq4, hS⟩ := hS); (try obtain ⟨hq5, hS⟩ := hS); (try obtain ⟨hq6, hS⟩ := hS); (try obtain ⟨hq7, hS⟩ := hS); (try obtain ⟨hq8, hS⟩ := hS); (try obtain ⟨hq9, hS⟩ := hS); (try obtain ⟨hq10, hS⟩ := hS); (try obtain ⟨hq11, hS⟩ := hS); (try obtain ⟨hq12, hS⟩ := hS); (try obtain ⟨hq13, hS⟩ := hS); (try obtain ⟨hq14, hS⟩ := hS); (try obtain ⟨hq15, hS⟩ := hS); (try obtain ⟨hq16, hS⟩ := hS); (try obtain ⟨hq17, hS⟩ := hS); (try obtain ⟨hq18, hS⟩ := hS); (try obtain ⟨hq19, hS⟩ := hS); (try dsimp only at hS); go_simp; (try with_reducible rfl); done)); (try simp only [Act.put, List.setIfInBounds_toArray, List.set_cons_zero, List.set_cons_succ])))
  refine eff_skip (W' := w6.setCell ⟨bf, 1, none⟩ (.slice p6 (L ++ [l]).length q6)) (by rfl) (by rfl) (by go_simp) (fun h => absurd rfl h) ?_
  (try simp only [Act.put, List.setIfInBounds_toArray, List.set_cons_zero, List.set_cons_succ])
  refine eff_nil ?_
  clear s1 cf
  obtain ⟨w7, hw7⟩ : ∃ w7, w6.setCell ⟨bf, 1, none⟩ (.slice p6 (L ++ [l]).length q6) = w7 := ⟨_, rfl⟩
  rw [hw7]
  have HH7 : Hid (FHead w7 bf bn bu (.slice p6 (L ++ [l]).length q6)) := by
    show FHead _ _ _ _ _
    rw [← hw7]; exact set_at HS5.out 1 _
  have F7 : Hid (Fr (fun k => k = bf) w6 w7) := by
    show Fr _ _ _
    rw [← hw7]; exact (Fr.refl (fun k => k = bf) w6).setCell (p := ⟨bf, 1, none⟩) (fun _ => rfl) _
  clear hw7
  have MD7 : Hid (Mid M w w7 bf bn bu (.slice p6 (L ++ [l]).length q6) (L ++ [l]) (nearL (L ++ [l])) g w.heap.size l) := by
    have h5 := MD5.out
    have dr : ∀ b, (Value.slice sp L.length sc).ownBlock = some b → ∃ cur, w3.drew.heap[b]? = some (.cells cur 50 (0, 0)) := fun b e => OwnE.head h5.own e
    have dbn : ¬ (Value.slice sp L.length sc).ownBlock = some bn := fun e => by
      obtain ⟨cur, hc⟩ := dr _ e
      exact h5.near.ne_cells hc rfl
    have dbu : ¬ (Value.slice sp L.length sc).ownBlock = some bu := fun e => by
      obtain ⟨cur, hc⟩ := dr _ e
      exact h5.up.ne_cells hc rfl
    have n6 : NearIs (fun k => M k ∨ w.heap.size ≤ k) w6 bn (nearL (L ++ [l])) := by
      obtain ⟨m, h1, h2, h3, h4⟩ := h5.near
      refine ⟨m, h1.fr F6.out dbn, h2, fun k v hk => ⟨(h3 k v hk).1.fr F6.out (fun b hb e => ?_), (h3 k v hk).2⟩, h4⟩
      obtain ⟨cur, hc⟩ := dr _ e
      obtain ⟨cur', hc'⟩ := (h3 k v hk).1.head hb
      exact ne_of_types hc hc' (by decide) rfl
    have u6 := h5.up.fr F6.out dbu
    have n7 : NearIs (fun k => M k ∨ w.heap.size ≤ k) w7 bn (nearL (L ++ [l])) := by
      obtain ⟨m, h1, h2, h3, h4⟩ := n6
      refine ⟨m, h1.fr F7.out (fun e => h1.ne_cells HS5.out e.symm), h2, fun k v hk => ⟨(h3 k v hk).1.fr F7.out (fun b hb e => ?_), (h3 k v hk).2⟩, h4⟩
      obtain ⟨cur', hc'⟩ := (h3 k v hk).1.head hb
      exact ne_of_types hc' HS5.out (by decide) e
    refine ⟨HH7.out, OwnE.fr O6.out F7.out (fun b hb e => ?_), n7, u6.fr F7.out (fun e => u6.ne_cells HS5.out e.symm), F7.out.at (fun e => ?_) (F6.out.at (fun e => ?_) h5.box), ?_⟩
    · obtain ⟨cur', hc'⟩ := OwnE.head O6.out hb
      exact ne_of_types hc' HS5.out (by decide) e
    · have := HLT.out _ HM1.out
      omega
    · have := HLT.out _ (HSM.out _ e)
      omega
    · exact (h5.fr.trans' F6.out (fun k hk e9 => HSM.out k e9)).trans' F7.out (fun k _ e9 => by rw [show k = bf from e9]; exact HM1.out)
  have HZ : Hid (w.heap.size ≤ w3.drew.heap.size) := MD5.out.fr.size
  clear MD5 MD4 HS HS5 F6 F7 HH7
  go_wp2
  have MD8 := hid (MD7.out.quiet (Fr.refl NoB w7).drew)
  have HUB : Hid (bu ≠ bf) := fun e => MD8.out.up.ne_cells MD8.out.head e.symm
  have HUQ : Hid (bu ≠ w.heap.size) := fun e => MD8.out.up.ne_cells MD8.out.box e.symm
  have HS : Hid (∀ W', Fr (fun k => k = bu) w7.drew W' → W'.cell? ⟨bf, 3, none⟩ = some (.map (some bu)) ∧ W'.cell? ⟨w.heap.size, 0, none⟩ = some (.int .i64 l.a) ∧ W'.cell? ⟨w.heap.size, 1, none⟩ = some (.int .i64 l.b)) := fun W' hf => by
    obtain ⟨_, _, _, c3, _⟩ := (MD8.out.head.fr hf (fun e => HUB.out e.symm)).cells
    obtain ⟨e0, e1, _⟩ := three_of (hf.at (fun e => HUQ.out e.symm) MD8.out.box)
    exact ⟨c3, e0, e1⟩
  have S0 := HS.out w7.drew (Fr.refl _ _)
  refine region_eff (fun w' => w'.cell? ⟨bf, 3, none⟩ = some (.map (some bu)) ∧ w'.cell? ⟨w.heap.size, 0, none⟩ = some (.int .i64 l.a) ∧ w'.cell? ⟨w.heap.size, 1, none⟩ = some (.int .i64 l.b)) 12 [(0, 1), (1, 1), (2, 1), (3, 0), (4, 1), (5, 1), (6, 0), (8, 1), (9, 1), (10, 0), (7, 2), (11, 2), (12, 2)] (by kernel_rfl) (by kernel_rfl) ?_ ?_
  · exact S0
  clear S0
  repeat (first | (refine eff_off (by rfl) (by rfl) ?_; (try simp only [Act.put, List.setIfInBounds_toArray, List.set_cons_zero, List.set_cons_succ])) | (refine eff_off0 (by rfl) (by rfl) ?_; (try simp only [Act.put, List.setIfInBounds_toArray, List.set_cons_zero, List.set_cons_succ])) | (refine eff_pu ?_ (by rfl) (by rfl) ?_ ?_; rotate_left; (focus (intro w'; go_simp; (try with_reducible rfl); done)); (try simp only [Act.put, List.setIfInBounds_toArray, List.set_cons_zero, List.set_cons_succ])) | (refine eff_rd ?_ (by rfl) (by rfl) ?_ ?_; rotate_left; (focus (intro w' hS; (try obtain ⟨hq1, hS⟩ := hS); (try obtain ⟨hq2, hS⟩ := hS); (try obtain ⟨hq3, hS⟩ := hS); (try obtain ⟨hq4, hS⟩ := hS); (try obtain ⟨hq5, hS⟩ := hS); (try obtain ⟨hq6, hS⟩ := hS); (try obtain ⟨hq7, hS⟩ := hS); (try obtain ⟨hq8, hS⟩ := hS); (try obtain ⟨hq9, hS⟩ := hS); (try obtain ⟨hq10, hS⟩ := hS); (try obtain ⟨hq11, hS⟩ := hS); (try obtain ⟨hq12, hS⟩ := hS); (try obtain ⟨hq13, hS⟩ := hS); (try obtain ⟨hq14, hS⟩ := hS); (try obtain ⟨hq15, hS⟩ := hS); (try obtain ⟨hq16, hS⟩ := hS); (try obtain ⟨hq17, hS⟩ := hS); (try obtain ⟨hq18, hS⟩ := hS); (try obtain ⟨hq19, hS⟩ := hS); (try dsimp only at hS); go_simp; (try with_reducible rfl); done)); (try simp only [Act.put, List.setIfInBounds_toArray, List.set_cons_zero, List.set_cons_succ])))
  refine eff_call 52 #[.pointer (some ⟨bf, 0, none⟩), .int .i64 l.a] (by rfl) (by rfl) (by intro w'; go_simp) ?_
  refine (ffind_any _ bf bn bu _ g r rk l.a MD8.out.head MD8.out.up HO.out HUB.out).mono ?_
  rintro e w8 ⟨rfl, ⟨g2, hu2, ho2⟩, hf8⟩
  have F8 := hid hf8
  have HU2 := hid hu2
  have HO2 := hid ho2
  refine ⟨_, rfl, fun _ => HS.out w8 hf8, ?_⟩
  clear hf8 hu2 ho2
  (try simp only [Act.put, List.setIfInBounds_toArray, List.set_cons_zero, List.set_cons_succ])
  repeat (first | (refine eff_off (by rfl) (by rfl) ?_; (try simp only [Act.put, List.setIfInBounds_toArray, List.set_cons_zero, List.set_cons_succ])) | (refine eff_off0 (by rfl) (by rfl) ?_; (try simp only [Act.put, List.setIfInBounds_toArray, List.set_cons_zero, List.set_cons_succ])) | (refine eff_pu ?_ (by rfl) (by rfl) ?_ ?_; rotate_left; (focus (intro w'; go_simp; (try with_reducible rfl); done)); (try simp only [Act.put, List.setIfInBounds_toArray, List.set_cons_zero, List.set_cons_succ])) | (refine eff_rd ?_ (by rfl) (by rfl) ?_ ?_; rotate_left; (focus (intro w' hS; (try obtain ⟨hq1, hS⟩ := hS); (try obtain ⟨hq2, hS⟩ := hS); (try obtain ⟨hq3, hS⟩ := hS); (try obtain ⟨hq4, hS⟩ := hS); (try obtain ⟨hq5, hS⟩ := hS); (try obtain ⟨hq6, hS⟩ := hS); (try obtain ⟨hq7, hS⟩ := hS); (try obtain ⟨hq8, hS⟩ := hS); (try obtain ⟨hq9, hS⟩ := hS); (try obtain ⟨hq10, hS⟩ := hS); (try obtain ⟨hq11, hS⟩ := hS); (try obtain ⟨hq12, hS⟩ := hS); (try obtain ⟨hq13, hS⟩ := hS); (try obtain ⟨hq14, hS⟩ := hS); (try obtain ⟨hq15, hS⟩ := hS); (try obtain ⟨hq16, hS⟩ := hS); (try obtain ⟨hq17, hS⟩ := hS); (try obtain ⟨hq18, hS⟩ := hS); (try obtain ⟨hq19, hS⟩ := hS); (try dsimp only at hS); go_simp; (try with_reducible rfl); done)); (try simp only [Act.put, List.setIfInBounds_toArray, List.set_cons_zero, List.set_cons_succ])))
  refine eff_call 52 #[.pointer (some ⟨bf, 0, none⟩), .int .i64 l.b] (by rfl) (by rfl) (by intro w'; go_simp) ?_
  refine (ffind_any _ bf bn bu _ g2 r rk l.b (MD8.out.head.fr F8.out (fun e => HUB.out e.symm)) HU2.out HO2.out HUB.out).mono ?_
  rintro e w9 ⟨rfl, ⟨g3, hu3, ho3⟩, hf9⟩
  have F9 := hid (F8.out.trans hf9)
  have HU3 := hid hu3
  have HO3 := hid ho3
  refine ⟨_, rfl, fun _ => HS.out w9 F9.out, ?_⟩
  clear hf9 hu3 ho3
  (try simp only [Act.put, List.setIfInBounds_toArray, List.set_cons_zero, List.set_cons_succ])
  repeat (first | (refine eff_off (by rfl) (by rfl) ?_; (try simp only [Act.put, List.setIfInBounds_toArray, List.set_cons_zero, List.set_cons_succ])) | (refine eff_off0 (by rfl) (by rfl) ?_; (try simp only [Act.put, List.setIfInBounds_toArray, List.set_cons_zero, List.set_cons_succ])) | (refine eff_pu ?_ (by rfl) (by rfl) ?_ ?_; rotate_left; (focus (intro w'; go_simp; (try with_reducible rfl); done)); (try simp only [Act.put, List.setIfInBounds_toArray, List.set_cons_zero, List.set_cons_succ])) | (refine eff_rd ?_ (by rfl) (by rfl) ?_ ?_; rotate_left; (focus (intro w' hS; (try obtain ⟨hq1, hS⟩ := hS); (try obtain ⟨hq2, hS⟩ := hS); (try obtain ⟨hq3, hS⟩ := hS); (try obtain ⟨hq4, hS⟩ := hS); (try obtain ⟨hq5, hS⟩ := hS); (try obtain ⟨hq6, hS⟩ := hS); (try obtain ⟨hq7, hS⟩ := hS); (try obtain ⟨hq8, hS⟩ := hS); (try obtain ⟨hq9, hS⟩ := hS); (try obtain ⟨hq10, hS⟩ := hS); (try obtain ⟨hq11, hS⟩ := hS); (try obtain ⟨hq12, hS⟩ := hS); (try obtain ⟨hq13, hS⟩ := hS); (try obtain ⟨hq14, hS⟩ := hS); (try obtain ⟨hq15, hS⟩ := hS); (try obtain ⟨hq16, hS⟩ := hS); (try obtain ⟨hq17, hS⟩ := hS); (try obtain ⟨hq18, hS⟩ := hS); (try obtain ⟨hq19, hS⟩ := hS); (try dsimp only at hS); go_simp; (try with_reducible rfl); done)); (try simp only [Act.put, List.setIfInBounds_toArray, List.set_cons_zero, List.set_cons_succ])))
  obtain ⟨w10, e1, e2, e3⟩ := HU3.out.put (r l.a) (r l.b)
  have F10 := hid (F9.out.trans e3)
  have HU4 := hid e2
  refine eff_skip (W' := w10) (by rfl) (by rfl) (by go_simp) (fun h => absurd rfl h) ?_
  (try simp only [Act.put, List.setIfInBounds_toArray, List.set_cons_zero, List.set_cons_succ])
  refine eff_nil ?_
  clear e1 e2 e3
  go_wp2
  go_end0
  have h8 := MD8.out
  have hh10 := h8.head.fr F10.out (fun e => HUB.out e.symm)
  have hsz : w.heap.size ≤ w10.heap.size := Nat.le_trans h8.fr.size F10.out.size
  have ho10 : OwnL w10 (.slice p6 (L ++ [l]).length q6) (L ++ [l]) := OwnE.fr h8.own F10.out (fun b hb e => by
    obtain ⟨cur, hc⟩ := OwnE.head h8.own hb
    exact h8.up.ne_cells hc e)
  have hn10 : NearIs (fun k => M k ∨ w.heap.size ≤ k) w10 bn (nearL (L ++ [l])) := by
    obtain ⟨m, h1, h2, h3, h4⟩ := h8.near
    refine ⟨m, h1.fr F10.out (fun e => HBU.out e.symm), h2, fun k v hk => ⟨(h3 k v hk).1.fr F10.out (fun b hb e => ?_), (h3 k v hk).2⟩, h4⟩
    obtain ⟨cur', hc'⟩ := (h3 k v hk).1.head hb
    exact h8.up.ne_cells hc' e
  refine ⟨rfl, ⟨fun k => M k ∨ (w.heap.size ≤ k ∧ k < w10.heap.size), ⟨⟨bn, bu, _, _, _, hh10, ho10, fun b hb => ?_, hn10.mono (fun k hk h => h.imp_right (fun h => ⟨h, hk⟩)), HU4.out, HO3.out.join (r l.a) (r l.b) (HO3.out.idem _) (HO3.out.idem _) HAB.out, HBU.out, .inl HM1.out, .inl HM2.out, .inl HM3.out⟩, fun k hk => ?_⟩, fun k hk => hk.imp_right (·.1)⟩, h8.fr.trans' F10.out (fun k _ e => by rw [show k = bu from e]; exact HM3.out)⟩
  · have h9 := World.ownsRow.lt ho10 b hb
    rcases B6.out with h6 | h6
    · rw [h6] at hb; exact .inl (HSM.out b hb)
    · rw [h6] at hb
      cases hb
      refine .inr ⟨?_, h9.2⟩
      have := HZ.out
      simp only [World.size_alloc]
      omega
  · rcases hk with hk | hk
    · exact Nat.lt_of_lt_of_le (HLT.out k hk) hsz
    · exact hk.2

end Go.Proofs.YtgpliiepoimcbaaDoor
end
section
/- The walks of forest.New, Link, Same. -/
namespace Go.Proofs.YtgpliiepoimcbaaDoor
open Go.RowKit
set_option maxRecDepth 100000

theorem ForAt.fr {M N : Nat → Prop} {w w' : World} {bf : Nat} {L : List Lnk} {r : Int → Int} (h : ForAt M w bf L r) (hf : Fr N w w') (hd : ∀ k, M k → ¬ N k) : ForAt M w' bf L r := by
  obtain ⟨⟨bn, bu, sl, g, rk, h1, h2, h3, h4, h5, h6, h7, m1, m2, m3⟩, hlt⟩ := h
  exact ⟨⟨bn, bu, sl, g, rk, h1.fr hf (hd _ m1), h2.fr hf (fun b hb => hd b (h3 b hb)), h3, h4.fr hf (hd _ m2) hd, h5.fr hf (hd _ m3), h6, h7, m1, m2, m3⟩, fun k hk => Nat.lt_of_lt_of_le (hlt k hk) hf.size⟩
theorem ForAt.step {M : Nat → Prop} {w w' : World} {bf : Nat} {L : List Lnk} {r : Int → Int} (h : ForAt M w bf L r) (hf : Fr NoB w w') : ForAt M w' bf L r := h.fr hf (fun _ _ h => h)
theorem ForAt.idem {M : Nat → Prop} {w : World} {bf : Nat} {L : List Lnk} {r : Int → Int} (h : ForAt M w bf L r) (x : Int) : r (r x) = r x := by
  obtain ⟨bn, bu, sl, g, rk, _, _, _, _, _, h6, _⟩ := h.ex
  exact h6.idem x

/-- find on the whole. -/
theorem ffind_at (M : Nat → Prop) (w : World) (bf : Nat) (L : List Lnk) (r : Int → Int) (x : Int) (h : ForAt M w bf L r) :
    Calls Tryd.prog 52 #[.pointer (some ⟨bf, 0, none⟩), .int .i64 x] w fun e w' => e = .returned (.int .i64 (r x)) ∧ ForAt M w' bf L r ∧ Fr M w w' := by
  obtain ⟨⟨bn, bu, sl, g, rk, h1, h2, h3, h4, h5, h6, h7, m1, m2, m3⟩, hlt⟩ := h
  have hub : bu ≠ bf := fun e => h5.ne_cells h1 e.symm
  refine (ffind_any w bf bn bu sl g r rk x h1 h5 h6 hub).mono ?_
  rintro e w' ⟨rfl, ⟨g', hu', ho'⟩, hf⟩
  refine ⟨rfl, ⟨⟨bn, bu, sl, g', rk, h1.fr hf (fun e => hub e.symm), h2.fr hf (fun b hb e => ?_), h3, ?_, hu', ho', h7, m1, m2, m3⟩, fun k hk => Nat.lt_of_lt_of_le (hlt k hk) hf.size⟩, hf.mono (fun k _ e => by rw [show k = bu from e]; exact m3)⟩
  · obtain ⟨cur, hc⟩ := OwnE.head h2 hb
    exact h5.ne_cells hc e
  · obtain ⟨m, a1, a2, a3, a4⟩ := h4
    refine ⟨m, a1.fr hf (fun e => h7 e.symm), a2, fun k v hk => ⟨(a3 k v hk).1.fr hf (fun b hb e => ?_), (a3 k v hk).2⟩, a4⟩
    obtain ⟨cur', hc'⟩ := (a3 k v hk).1.head hb
    exact h5.ne_cells hc' e

theorem fnew_any (w : World) : Calls Tryd.prog 36 #[] w fun e w' => ∃ bf M, e = .returned (.pointer (some ⟨bf, 0, none⟩)) ∧ ForAt M w' bf [] (fun x => x) ∧ (∀ k, M k → w.heap.size ≤ k) ∧ Fr NoB w w' := by
  have hmm := @run_makeMap Tryd.prog
  go_enter Tryd.func36, Tryd.ntmps36
  go_wp2
  go_ret
  refine ⟨w.heap.size + 2, fun k => w.heap.size ≤ k ∧ k < w.heap.size + 3, rfl, ⟨⟨w.heap.size, w.heap.size + 1, _, fun _ => none, fun _ => 0, at_new' (by simp), OwnE.nil _ _ _ _ _, fun b hb => (by cases hb), ?_, ?_, ⟨fun _ _ => rfl, fun _ _ h => (by cases h)⟩, by omega, by omega, by omega, by omega⟩, fun k hk => by simp only [World.size_alloc]; omega⟩, fun k hk => hk.1, (((Fr.refl NoB w).alloc _).alloc _).alloc _⟩
  · refine ⟨[], (MapIs.new (.int .i64) (Value.int .i64) w).fr (((Fr.refl NoB _).alloc _).alloc _) (fun h => h), fun k _ => rfl, fun k v h => (by cases h), fun k k' v v' _ h => (by cases h)⟩
  · have h := MapIs.new (.int .i64) (Value.int .i64) (w.alloc (.map #[] 0))
    rw [World.size_alloc] at h
    exact ⟨[], h.fr ((Fr.refl NoB _).alloc _) (fun h => h), fun k => rfl⟩

theorem eqPtrF (w : World) (r : Option Addr) : (binOp .eql 62 (.pointer r) (.pointer none)).run Tryd.prog w = .ok (.bool r.isNone) w := by
  cases r <;> kernel_rfl
theorem neqPtrF (w : World) (r : Option Addr) : (binOp .neq 62 (.pointer r) (.pointer none)).run Tryd.prog w = .ok (.bool (!r.isNone)) w := by
  cases r <;> kernel_rfl

set_option maxHeartbeats 4000000 in
theorem fsame_any (M : Nat → Prop) (w : World) (bf : Nat) (L : List Lnk) (r : Int → Int) (x y : Int) (h : ForAt M w bf L r) :
    Calls Tryd.prog 54 #[.pointer (some ⟨bf, 0, none⟩), .int .i64 x, .int .i64 y] w fun e w' => e = .returned (.bool (decide (0 ≤ x ∧ 0 ≤ y ∧ r x = r y))) ∧ ForAt M w' bf L r ∧ Fr M w w' := by
  have H := hid h
  obtain ⟨bn, bu, sl, g, rk, h1, _⟩ := h.ex
  obtain ⟨c0, _, _, _, cf, cl⟩ := h1.cells
  have ep := eqPtrF
  have np := neqPtrF
  clear h h1 cf cl
  go_enter Tryd.func54, Tryd.ntmps54
  by_cases hx : 0 ≤ x
  · by_cases hy : 0 ≤ y
    · go_wp2_with fail
      refine (ffind_at M _ bf L r x H.out).mono ?_
      rintro e w1 ⟨rfl, h1, f1⟩
      have H1 := hid h1
      have F1 := hid f1
      clear h1 f1
      go_wp2_with fail
      refine (ffind_at M _ bf L r y H1.out).mono ?_
      rintro e w2 ⟨rfl, h2, f2⟩
      have H2 := hid h2
      have F2 := hid (F1.out.trans f2)
      clear h2 f2
      go_wp2
      go_ret
      exact ⟨ret_bool (by rw [show decide (0 ≤ x ∧ 0 ≤ y ∧ r x = r y) = decide (r x = r y) by simp [hx, hy]]; rfl), H2.out, F2.out⟩
    · go_wp2
      go_ret
      exact ⟨ret_bool (by simp; omega), H.out, Fr.refl _ _⟩
  · go_wp2
    go_ret
    exact ⟨ret_bool (by simp; omega), H.out, Fr.refl _ _⟩

def LinkPost (M : Nat → Prop) (w : World) (bf : Nat) (L : List Lnk) (r : Int → Int) (x y why : Int) (e : Ending) (w' : World) : Prop :=
  e = .returned (.bool (decide (0 ≤ x ∧ 0 ≤ y ∧ r x ≠ r y))) ∧
      (∃ M', ForAt M' w' bf (if 0 ≤ x ∧ 0 ≤ y ∧ r x ≠ r y then L ++ [⟨x, y, why⟩] else L) (if 0 ≤ x ∧ 0 ≤ y ∧ r x ≠ r y then (fun k => if r k = r x then r y else r k) else r) ∧ ∀ k, M' k → M k ∨ w.heap.size ≤ k) ∧ Fr M w w'
set_option maxHeartbeats 4000000 in
theorem flink_any (M : Nat → Prop) (w : World) (bf : Nat) (L : List Lnk) (r : Int → Int) (x y why : Int) (h : ForAt M w bf L r) (hL : L.length ≤ 1000000) :
    Calls Tryd.prog 37 #[.pointer (some ⟨bf, 0, none⟩), .int .i64 x, .int .i64 y, .int .i64 why] w (LinkPost M w bf L r x y why) := by
  have H := hid h
  obtain ⟨bn, bu, sl, g, rk, h1, _⟩ := h.ex
  obtain ⟨c0, _, _, _, cf, cl⟩ := h1.cells
  have ep := eqPtrF
  have np := neqPtrF
  clear h h1 cf cl
  go_enter Tryd.func37, Tryd.ntmps37
  by_cases hx : 0 ≤ x
  · by_cases hy : 0 ≤ y
    · go_wp2_with fail
      refine (ffind_at M _ bf L r x H.out).mono ?_
      rintro e w1 ⟨rfl, h1, f1⟩
      have H1 := hid h1
      have F1 := hid f1
      clear h1 f1
      go_wp2_with fail
      refine (ffind_at M _ bf L r y H1.out).mono ?_
      rintro e w2 ⟨rfl, h2, f2⟩
      have H2 := hid h2
      have F2 := hid (F1.out.trans f2)
      clear h2 f2
      by_cases hr : r x = r y
      · have hq : (r x == r y) = true := by simpa using hr
        have HR := hid hr
        clear hr
        go_wp2
        go_ret
        have hn : ¬ (0 ≤ x ∧ 0 ≤ y ∧ r x ≠ r y) := fun h => h.2.2 HR.out
        unfold LinkPost
        rw [if_neg hn, if_neg hn]
        exact ⟨ret_bool (by simp [hn]), ⟨M, H2.out, fun k hk => .inl hk⟩, F2.out⟩
      · have hq : (r x == r y) = false := by simpa using hr
        have HR := hid hr
        clear hr
        go_wp2_with fail
        refine (fadd_any M _ bf L r ⟨x, y, why⟩ H2.out hL HR.out (fun e => HR.out (by rw [show x = y from e]))).mono ?_
        rintro e w3 ⟨rfl, ⟨M', h3, hM⟩, f3⟩
        have H3 := hid h3
        have HM := hid hM
        have F3 := hid (F2.out.trans f3)
        clear h3 hM f3
        go_wp2
        go_ret
        have hn : 0 ≤ x ∧ 0 ≤ y ∧ r x ≠ r y := ⟨hx, hy, HR.out⟩
        unfold LinkPost
        rw [if_pos hn, if_pos hn]
        exact ⟨ret_bool (by simp [hn]), ⟨M', H3.out, fun k hk => (HM.out k hk).imp_right (fun h => Nat.le_trans F2.out.size h)⟩, F3.out⟩
    · go_wp2
      go_ret
      have hn : ¬ (0 ≤ x ∧ 0 ≤ y ∧ r x ≠ r y) := fun h => by have := h.2.1; omega
      unfold LinkPost
      rw [if_neg hn, if_neg hn]
      exact ⟨ret_bool (by simp [hn]), ⟨M, H.out, fun k hk => .inl hk⟩, Fr.refl _ _⟩
  · go_wp2
    go_ret
    have hn : ¬ (0 ≤ x ∧ 0 ≤ y ∧ r x ≠ r y) := fun h => by have := h.1; omega
    unfold LinkPost
    rw [if_neg hn, if_neg hn]
    exact ⟨ret_bool (by simp [hn]), ⟨M, H.out, fun k hk => .inl hk⟩, Fr.refl _ _⟩
end Go.Proofs.YtgpliiepoimcbaaDoor
end
