/- append on rows of structs as one step of a region that draws its order. -/
import Derived.Test.YtkifedleajacpaaDoorNodes
namespace Go.Proofs.YtkifedleajacpaaDoor
open Go.RowKit

/-- append(s, t...) inside a drawn region: s is the call's own, t reads as m. -/
theorem rows_step {α : Type} {enc : α → List Value} {k : Nat} {e : TypeId} {P : Program} (w : World) {ops : Array Oper} {o : Oper} {a : Act} {K : Act → World → Prop} {Q : Exit → Act → World → Prop} {E : Prop} (hk : ∀ x : α, (enc x).length = k) (hk0 : 0 < k)
    {t : TypeId} (ht : P.underlying t = some (.slice e)) {z : Value} {bytes : Nat} (hinfo : (P.info? e).map (fun i => (i.zero, i.size, i.bytes)) = some (some z, k, bytes)) (hzs : z.cells.size = k)
    (hg : o.guard = none) (s x : Operand) (ho : o.op = .call { callee := .builtin .append, args := #[s, x], argTypes := #[t, t] }) (base : Nat) (v : Value) (l : List α) (hs : a.eval s = v) (hown : OwnE enc k e base w v l)
    (M : Nat → Prop) (u : Value) (m : List α) (hx : a.eval x = u) (hrd : RdE enc M w u m) (h1 : ∀ y ∈ m, ∀ u ∈ enc y, u.oneCell' = true) (hlen : (l.length + m.length) * bytes ≤ 140737488355328) (hmax : l.length + m.length ≤ 17592186044416) (hbase : base ≤ w.heap.size)
    (h : ∀ v' w', OwnE enc k e base w' v' (l ++ m) → w.grownBy w' v.ownBlock → (v'.ownBlock = v.ownBlock ∨ v'.ownBlock = some w.heap.size) → K (a.put o.dst v') w') :
    if Region.wanted o (yielded ops a.tmps) = true then Oper.wp P o a w K Q else E := by
  have hw : Region.wanted o (yielded ops a.tmps) = true := by simp [Region.wanted, hg]
  rw [if_pos hw]
  obtain ⟨i0, hi, hz0, hz1, hz2⟩ := info_parts hinfo
  rcases hrd with ⟨⟨ad, cap, rfl, hcap⟩, rfl⟩ | ⟨b, off, cap, rfl, _, _, _, hc⟩
  · cases ad with
    | some ad =>
      obtain ⟨v', w', hr, h2, h3, h4, h5⟩ := run_append_own_at (P := P) w base t o.type e i0 z k bytes ht hi hz0 hz1 hz2 hzs hk0 v _ _ hown ad 0 cap [] (by simp) (fun j u hu => by simp at hu) (by simp) (by unfold maxLen; simp at hmax; omega) (by simpa using hlen) hbase
      unfold Oper.wp execOp
      simp only [ho, resolve, invoke, builtin, Sem.run_bind, Sem.run_pure, Result.andThen_ok, List.map_toArray, List.map_cons, List.map_nil, hs, hx, hr]
      exact h v' w' (by simpa [OwnE] using h2) h3 h5
    | none =>
    obtain rfl := hcap rfl
    have hrun := run_append_owned_none (P := P) (w := w) base t o.type e i0 k ht hi v _ _ hown
    unfold Oper.wp
    simp [execOp, ho, resolve, invoke, builtin, hs, hx, hrun, Result.andThen]
    exact h v w (by simpa using hown) ⟨rfl, rfl, rfl, Nat.le_refl _, fun _ _ _ => rfl⟩ (.inl rfl)
  · obtain ⟨v', w', hr, h2, h3, h4, h5⟩ := run_append_own_at (P := P) w base t o.type e i0 z k bytes ht hi hz0 hz1 hz2 hzs hk0 v _ _ hown ⟨b, off, none⟩ m.length cap (flatE enc m) (flatE_length enc hk m) hc.news (flatE_one enc m h1) (by unfold maxLen; omega) hlen hbase
    unfold Oper.wp execOp
    simp only [ho, resolve, invoke, builtin, Sem.run_bind, Sem.run_pure, Result.andThen_ok, List.map_toArray, List.map_cons, List.map_nil, hs, hx, hr]
    refine h v' w' ?_ h3 h5
    unfold OwnE
    rw [List.length_append, flatE_append]; exact h2

/-- .. on nodes; the new value written out. -/
theorem nodes_step (w : World) {ops : Array Oper} {o : Oper} {a : Act} {K : Act → World → Prop} {Q : Exit → Act → World → Prop} {E : Prop} (hg : o.guard = none) (s x : Operand)
    (ho : o.op = .call { callee := .builtin .append, args := #[s, x], argTypes := #[43, 43] }) (base : Nat) (v : Value) (l : List (Node × Value)) (hs : a.eval s = v) (hown : OwnN base w v l)
    (M : Nat → Prop) (u : Value) (m : List (Node × Value)) (hx : a.eval x = u) (hrd : RdN M w u m) (n : Nat) (hn : l.length + m.length = n) (hlen : n ≤ 2199023255552) (hbase : base ≤ w.heap.size)
    (h : ∀ p q w', OwnN base w' (.slice p n q) (l ++ m) → w.grownBy w' v.ownBlock → ((Value.slice p n q).ownBlock = v.ownBlock ∨ (Value.slice p n q).ownBlock = some w.heap.size) → K (a.put o.dst (.slice p n q)) w') :
    if Region.wanted o (yielded ops a.tmps) = true then Oper.wp Tryd.prog o a w K Q else E := by
  subst hn
  refine rows_step w nsLen (by decide) Tryd.underlying43 infoNode rfl hg s x ho base v l hs hown M u m hx hrd.row (fun y hy u hu => ?_) (by omega) (by omega) hbase (fun v' w' h1 h2 h3 => ?_)
  · obtain ⟨_, _, e⟩ := (hrd.args y hy).form
    simp only [nsCells, List.mem_cons, List.not_mem_nil, or_false] at hu
    rcases hu with rfl | rfl | rfl | rfl | rfl <;> first | rfl | (rw [e]; rfl)
  · obtain ⟨p, q, hv⟩ := h1.form
    rw [List.length_append] at hv
    subst hv
    exact h p q w' h1 h2 h3

/-- A literal row of one node, in a later world. -/
theorem rdN_lit {w W : World} {e : TypeId} {n : Node} {s : Value} (hf : Fr NoB (w.alloc (.cells (nodeCells n s) e)) W) (hs : RdI NoB W s n.args) : RdN NoB W (.slice (some ⟨w.heap.size, 0, none⟩) 1 1) [(n, s)] := by
  refine ⟨.inr ⟨w.heap.size, 0, 1, rfl, Nat.lt_of_lt_of_le (by simp) hf.size, fun h => h, Nat.le_refl _, ?_⟩, fun x hx => ?_⟩
  · have hb := hf.at (fun h => h) (at_new w (.cells (nodeCells n s) e))
    obtain ⟨c0, c1, c2, c3, c4, _, _⟩ := five_of hb
    intro j u hj
    rw [Nat.zero_add]
    match j, hj with
    | 0, hj => simp [flatE, nsCells] at hj; subst hj; exact c0
    | 1, hj => simp [flatE, nsCells] at hj; subst hj; exact c1
    | 2, hj => simp [flatE, nsCells] at hj; subst hj; exact c2
    | 3, hj => simp [flatE, nsCells] at hj; subst hj; exact c3
    | 4, hj => simp [flatE, nsCells] at hj; subst hj; exact c4
    | j + 5, hj => simp [flatE, nsCells] at hj
  · rw [List.mem_singleton] at hx
    subst hx
    exact hs

/-! The same on integers. -/
def iCells (x : Int) : List Value := [.int .i64 x]
theorem flatI : ∀ l : List Int, flatE iCells l = l.map (Value.int .i64)
  | [] => rfl
  | x :: l => by rw [flatE, flatI l]; rfl
theorem ownI_iff {B : Nat} {w : World} {v : Value} {l : List Int} : OwnE iCells 1 3 B w v l ↔ OwnI B w v l := by
  unfold OwnE OwnI; rw [flatI]
theorem RdI.rdE {M : Nat → Prop} {w : World} {v : Value} {l : List Int} (h : RdI M w v l) : RdE iCells M w v l := by
  rcases h with h | ⟨b, off, cap, h1, h2, h3, h4, h5⟩
  · exact .inl h
  · refine .inr ⟨b, off, cap, h1, h2, h3, h4, fun j u hj => ?_⟩
    rw [flatI, List.getElem?_map] at hj
    have hl : j < l.length := by
      rcases Nat.lt_or_ge j l.length with h | h
      · exact h
      · rw [List.getElem?_eq_none h] at hj; cases hj
    have := h5 j hl
    rw [this, List.getD_eq_getElem?_getD]
    rw [List.getElem?_eq_getElem hl] at hj ⊢
    exact hj
theorem RdE.rdI {M : Nat → Prop} {w : World} {v : Value} {l : List Int} (h : RdE iCells M w v l) : RdI M w v l := by
  rcases h with h | ⟨b, off, cap, h1, h2, h3, h4, h5⟩
  · exact .inl h
  · refine .inr ⟨b, off, cap, h1, h2, h3, h4, fun j hl => ?_⟩
    refine h5 j _ ?_
    rw [flatI, List.getElem?_map, List.getElem?_eq_getElem hl, List.getD_eq_getElem?_getD, List.getElem?_eq_getElem hl]
    rfl
/-- append(s, t...) on integers inside a drawn region; the new value written out. -/
theorem ints_step (w : World) {ops : Array Oper} {o : Oper} {a : Act} {K : Act → World → Prop} {Q : Exit → Act → World → Prop} {E : Prop} (hg : o.guard = none) (s x : Operand)
    (ho : o.op = .call { callee := .builtin .append, args := #[s, x], argTypes := #[24, 24] }) (base : Nat) (v : Value) (l : List Int) (hs : a.eval s = v) (hown : OwnI base w v l)
    (M : Nat → Prop) (u : Value) (m : List Int) (hx : a.eval x = u) (hrd : RdI M w u m) (n : Nat) (hn : l.length + m.length = n) (hlen : n ≤ 17592186044416) (hbase : base ≤ w.heap.size)
    (h : ∀ p q w', OwnI base w' (.slice p n q) (l ++ m) → w.grownBy w' v.ownBlock → ((Value.slice p n q).ownBlock = v.ownBlock ∨ (Value.slice p n q).ownBlock = some w.heap.size) → K (a.put o.dst (.slice p n q)) w') :
    if Region.wanted o (yielded ops a.tmps) = true then Oper.wp Tryd.prog o a w K Q else E := by
  subst hn
  refine rows_step (enc := iCells) (k := 1) w (fun _ => rfl) (by decide) Tryd.underlying24 infoInt rfl hg s x ho base v l hs (ownI_iff.2 hown) M u m hx hrd.rdE (fun y hy u hu => ?_) (by omega) (by omega) hbase (fun v' w' h1 h2 h3 => ?_)
  · simp only [iCells, List.mem_singleton] at hu
    rw [hu]; rfl
  · obtain ⟨p, q, hv⟩ := h1.form
    rw [List.length_append] at hv
    subst hv
    exact h p q w' (ownI_iff.1 h1) h2 h3

end Go.Proofs.YtkifedleajacpaaDoor
