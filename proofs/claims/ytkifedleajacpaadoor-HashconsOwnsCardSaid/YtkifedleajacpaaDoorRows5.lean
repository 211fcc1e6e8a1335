/- Rows of structs (k cells an element): how they read, the call's own ones. No program in sight. -/
import Derived.Test.YtkifedleajacpaaDoorBase
import Derived.Maps.AppendAt
namespace Go.Proofs.YtkifedleajacpaaDoor
open Go.RowKit

section
variable {α : Type} (enc : α → List Value) {k : Nat}

def flatE : List α → List Value
  | [] => []
  | x :: l => enc x ++ flatE l
theorem flatE_append : ∀ l m : List α, flatE enc (l ++ m) = flatE enc l ++ flatE enc m
  | [], _ => rfl
  | x :: l, m => by simp only [List.cons_append, flatE, flatE_append l m, List.append_assoc]
theorem flatE_one : ∀ (l : List α), (∀ x ∈ l, ∀ u ∈ enc x, u.oneCell' = true) → ∀ u ∈ flatE enc l, u.oneCell' = true
  | [], _, u, hu => by simp [flatE] at hu
  | x :: l, h, u, hu => by
    simp only [flatE, List.mem_append] at hu
    rcases hu with hu | hu
    · exact h x (by simp) u hu
    · exact flatE_one l (fun y hy => h y (by simp [hy])) u hu
variable (hk : ∀ x, (enc x).length = k)
include hk
theorem flatE_length : ∀ l : List α, (flatE enc l).length = l.length * k
  | [] => by simp [flatE]
  | x :: l => by simp only [flatE, List.length_append, flatE_length l, hk, List.length_cons, Nat.add_mul, Nat.one_mul]; omega
theorem flatE_get : ∀ (l : List α) (i : Nat) (h : i < l.length) (j : Nat), j < k → (flatE enc l)[i * k + j]? = (enc l[i])[j]?
  | x :: l, 0, _, j, hj => by
    simp only [flatE, List.getElem_cons_zero, Nat.zero_mul, Nat.zero_add]
    rw [List.getElem?_append_left (by rw [hk]; exact hj)]
  | x :: l, i + 1, h, j, hj => by
    have ih := flatE_get l i (by simpa using h) j hj
    simp only [flatE, List.getElem_cons_succ]
    have e : (i + 1) * k + j = k + (i * k + j) := by rw [Nat.add_mul, Nat.one_mul]; omega
    rw [e, List.getElem?_append_right (by rw [hk]; omega), hk, Nat.add_sub_cancel_left]
    exact ih
theorem flatE_take : ∀ (l : List α) (i : Nat), i ≤ l.length → flatE enc (l.take i) = (flatE enc l).take (i * k)
  | l, 0, _ => by simp [flatE]
  | x :: l, i + 1, h => by
    have ih := flatE_take l i (by simpa using h)
    simp only [List.take_succ_cons, flatE, ih]
    have e : (i + 1) * k = k + i * k := by rw [Nat.add_mul, Nat.one_mul]; omega
    rw [e, List.take_append, hk, Nat.add_sub_cancel_left, List.take_of_length_le (l := enc x) (by rw [hk]; omega)]
theorem flatE_drop : ∀ (l : List α) (i : Nat), i ≤ l.length → flatE enc (l.drop i) = (flatE enc l).drop (i * k)
  | l, 0, _ => by simp
  | x :: l, i + 1, h => by
    have ih := flatE_drop l i (by simpa using h)
    simp only [List.drop_succ_cons, flatE, ih]
    have e : (i + 1) * k = k + i * k := by rw [Nat.add_mul, Nat.one_mul]; omega
    rw [e, List.drop_append, hk, Nat.add_sub_cancel_left, List.drop_of_length_le (l := enc x) (by rw [hk]; omega), List.nil_append]
end

/-- The cells cs lie from cell off of block b on. -/
def CellsAt (w : World) (b off : Nat) (cs : List Value) : Prop := ∀ j u, cs[j]? = some u → w.cell? ⟨b, off + j, none⟩ = some u
theorem CellsAt.fr {M : Nat → Prop} {w w' : World} {b off : Nat} {cs : List Value} (h : CellsAt w b off cs) (hf : Fr M w w') (hb : b < w.heap.size) (hm : ¬ M b) : CellsAt w' b off cs :=
  fun j u hj => (hf.cell (p := ⟨b, off + j, none⟩) hb hm).trans (h j u hj)
theorem CellsAt.take {w : World} {b off : Nat} {cs : List Value} (h : CellsAt w b off cs) (n : Nat) : CellsAt w b off (cs.take n) := fun j u hj => by
  rw [List.getElem?_take] at hj
  split at hj
  · exact h j u hj
  · cases hj
theorem CellsAt.drop {w : World} {b off : Nat} {cs : List Value} (h : CellsAt w b off cs) (n : Nat) : CellsAt w b (off + n) (cs.drop n) := fun j u hj => by
  rw [List.getElem?_drop] at hj
  rw [Nat.add_assoc]; exact h _ u hj
theorem CellsAt.news {w : World} {b off : Nat} {cs : List Value} (h : CellsAt w b off cs) : ∀ j u, cs[j]? = some u → w.cell? ((⟨b, off, none⟩ : Addr).add j) = some u := fun j u hj => by
  have e : (⟨b, off, none⟩ : Addr).add j = ⟨b, off + j, none⟩ := by unfold Addr.add; split <;> simp_all
  rw [e]; exact h j u hj
theorem CellsAt.of {w : World} {b off : Nat} {cs : List Value} (h : ∀ j u, cs[j]? = some u → w.cell? ((⟨b, off, none⟩ : Addr).add j) = some u) : CellsAt w b off cs := fun j u hj => by
  have e : (⟨b, off, none⟩ : Addr).add j = ⟨b, off + j, none⟩ := by unfold Addr.add; split <;> simp_all
  rw [← e]; exact h j u hj

/-- The slice v reads as the elements l; its block is not among M. -/
def RdE {α : Type} (enc : α → List Value) (M : Nat → Prop) (w : World) (v : Value) (l : List α) : Prop :=
  ((∃ a cap, v = .slice a 0 cap ∧ (a = none → cap = 0)) ∧ l = []) ∨ ∃ b off cap, v = .slice (some ⟨b, off, none⟩) l.length cap ∧ b < w.heap.size ∧ ¬ M b ∧ l.length ≤ cap ∧ CellsAt w b off (flatE enc l)
section
variable {α : Type} {enc : α → List Value} {N M : Nat → Prop} {w w' : World} {v : Value} {l : List α}
theorem RdE.fr (h : RdE enc N w v l) (hf : Fr M w w') (hm : ∀ k, k < w.heap.size → M k → N k) : RdE enc N w' v l := by
  rcases h with h | ⟨b, off, cap, h1, h2, h3, h4, h5⟩
  · exact .inl h
  · exact .inr ⟨b, off, cap, h1, Nat.lt_of_lt_of_le h2 hf.size, h3, h4, h5.fr hf h2 (fun h => h3 (hm b h2 h))⟩
theorem RdE.step (h : RdE enc N w v l) (hf : Fr NoB w w') : RdE enc N w' v l := h.fr hf (fun _ _ h => h.elim)
theorem RdE.drew (h : RdE enc N w v l) : RdE enc N w.drew v l := h
theorem RdE.weaken (h : RdE enc N w v l) (hm : ∀ k, k < w.heap.size → M k → N k) : RdE enc M w v l := by
  rcases h with h | ⟨b, off, cap, h1, h2, h3, h4⟩
  · exact .inl h
  · exact .inr ⟨b, off, cap, h1, h2, fun h => h3 (hm b h2 h), h4⟩
theorem RdE.more (h : RdE enc M w v l) : RdE enc (fun k => M k ∨ w.heap.size ≤ k) w v l := by
  rcases h with h | ⟨b, off, cap, h1, h2, h3, h4⟩
  · exact .inl h
  · exact .inr ⟨b, off, cap, h1, h2, fun h => h.elim h3 (fun h => by omega), h4⟩
theorem RdE.form (h : RdE enc M w v l) : ∃ a cap, v = .slice a l.length cap := by
  rcases h with ⟨⟨a, cap, h, _⟩, rfl⟩ | ⟨b, off, cap, h, _⟩
  · exact ⟨a, cap, h⟩
  · exact ⟨_, cap, h⟩
theorem RdE.form' (h : RdE enc M w v l) (hl : 0 < l.length) : ∃ b off cap, v = .slice (some ⟨b, off, none⟩) l.length cap ∧ b < w.heap.size ∧ ¬ M b ∧ l.length ≤ cap ∧ CellsAt w b off (flatE enc l) := by
  rcases h with ⟨_, rfl⟩ | h
  · simp at hl
  · exact h
theorem RdI.more {m : List Int} (hr : RdI M w v m) : RdI (fun k => M k ∨ w.heap.size ≤ k) w v m := by
  rcases hr with h | ⟨b, off, cap, h1, h2, h3, h4⟩
  · exact .inl h
  · exact .inr ⟨b, off, cap, h1, h2, fun h => h.elim h3 (fun h => by omega), h4⟩
end

/-- v is nil, or a row of blocks from B on that holds just the elements l; a cell's type is e. -/
def OwnE {α : Type} (enc : α → List Value) (k : Nat) (e : TypeId) (B : Nat) (w : World) (v : Value) (l : List α) : Prop := w.ownsRow B e k v l.length (flatE enc l)
section
variable {α : Type} {enc : α → List Value} {k : Nat} {e : TypeId} {B B' : Nat} {M : Nat → Prop} {w w' : World} {v : Value} {l : List α}
theorem OwnE.nil (enc : α → List Value) (k : Nat) (e : TypeId) (B : Nat) (w : World) : OwnE enc k e B w (.slice none 0 0) [] := World.ownsRow_nil w B e k
theorem OwnE.lt (h : OwnE enc k e B w v l) {j : Nat} (hj : v.ownBlock = some j) : B ≤ j ∧ j < w.heap.size := World.ownsRow.lt h j hj
theorem OwnE.fr (h : OwnE enc k e B w v l) (hf : Fr M w w') (hm : ∀ j, v.ownBlock = some j → ¬ M j) : OwnE enc k e B w' v l := by
  refine ⟨h.1, ?_⟩
  rcases h.2 with h2 | ⟨g, cap, cur, h1, hb, hg, r⟩
  · exact .inl h2
  · refine .inr ⟨g, cap, cur, h1, hb, ?_, r⟩
    rw [hf.block g (Array.getElem?_eq_some_iff.1 hg).1 (hm g (by rw [h1]; rfl))]; exact hg
theorem OwnE.step (h : OwnE enc k e B w v l) (hf : Fr NoB w w') : OwnE enc k e B w' v l := h.fr hf (fun _ _ h => h)
theorem OwnE.drew (h : OwnE enc k e B w v l) : OwnE enc k e B w.drew v l := h
theorem OwnE.base (h : OwnE enc k e B w v l) (hB : B' ≤ B) : OwnE enc k e B' w v l := by
  refine ⟨h.1, ?_⟩
  rcases h.2 with h2 | ⟨g, cap, cur, h1, hb, r⟩
  · exact .inl h2
  · exact .inr ⟨g, cap, cur, h1, Nat.le_trans hB hb, r⟩
theorem OwnE.form (h : OwnE enc k e B w v l) : ∃ a cap, v = .slice a l.length cap := by
  rcases h.2 with ⟨h, hl⟩ | ⟨g, cap, cur, h, _⟩
  · exact ⟨none, 0, by rw [hl]; exact h⟩
  · exact ⟨_, cap, h⟩
theorem OwnE.form' (h : OwnE enc k e B w v l) : (v = .slice none 0 0 ∧ l = []) ∨ ∃ g cap, v = .slice (some ⟨g, 0, none⟩) l.length cap ∧ B ≤ g ∧ g < w.heap.size ∧ l.length ≤ cap := by
  rcases h.2 with ⟨h, hl⟩ | ⟨g, cap, cur, h, hb, hg, hn, _⟩
  · exact .inl ⟨h, List.eq_nil_of_length_eq_zero hl⟩
  · exact .inr ⟨g, cap, h, hb, (Array.getElem?_eq_some_iff.1 hg).1, hn⟩
theorem OwnE.cells {g n cap : Nat} (h : OwnE enc k e B w (.slice (some ⟨g, 0, none⟩) n cap) l) : CellsAt w g 0 (flatE enc l) := by
  intro j u hj
  rw [Nat.zero_add]
  have hn : n = l.length := by
    rcases h.2 with ⟨h2, _⟩ | ⟨g', cap', cur, h1, _⟩
    · cases h2
    · cases h1; rfl
  subst hn
  have h2 := World.ownsRow.cellAt h (j := j) (by rw [← h.1]; exact (List.getElem?_eq_some_iff.1 hj).1)
  rw [h2]; exact hj
theorem OwnE.frozen {g n cap : Nat} (h : OwnE enc k e B w (.slice (some ⟨g, 0, none⟩) n cap) l) (i : Nat) : w.frozen? ⟨g, i, none⟩ = false := by
  rcases h.2 with ⟨h2, _⟩ | ⟨g', cap', cur, h1, _, hg, _⟩
  · cases h2
  · cases h1; exact frozen_of_row w g i cur _ hg
theorem OwnE.rd (h : OwnE enc k e B w v l) (hM : ∀ j, v.ownBlock = some j → ¬ M j) : RdE enc M w v l := by
  rcases h.form' with ⟨h1, h2⟩ | ⟨g, cap, h1, h2, h3, h4⟩
  · exact .inl ⟨⟨none, 0, by rw [h1], fun _ => rfl⟩, h2⟩
  · subst h1
    exact .inr ⟨g, 0, cap, rfl, h3, hM g rfl, h4, h.cells⟩

/-- append(s, t...): s is the call's own, t reads as m. -/
theorem ap_rows {P : Program} (w : World) {ops : Array Oper} {rest : List Oper} {o : Oper} {a : Act} {Q : Exit → Act → World → Prop} (hk : ∀ x : α, (enc x).length = k) (hk0 : 0 < k)
    {t : TypeId} (ht : P.underlying t = some (.slice e)) {z : Value} {bytes : Nat} (hinfo : (P.info? e).map (fun i => (i.zero, i.size, i.bytes)) = some (some z, k, bytes)) (hzs : z.cells.size = k)
    (hg : o.guard = none) (s x : Operand) (ho : o.op = .call { callee := .builtin .append, args := #[s, x], argTypes := #[t, t] }) (base : Nat) (v : Value) (l : List α) (hs : a.eval s = v) (hown : OwnE enc k e base w v l)
    (M : Nat → Prop) (u : Value) (m : List α) (hx : a.eval x = u) (hrd : RdE enc M w u m) (h1 : ∀ y ∈ m, ∀ u ∈ enc y, u.oneCell' = true) (hlen : (l.length + m.length) * bytes ≤ 140737488355328) (hmax : l.length + m.length ≤ 17592186044416) (hbase : base ≤ w.heap.size)
    (h : ∀ v' w', OwnE enc k e base w' v' (l ++ m) → w.grownBy w' v.ownBlock → (v'.ownBlock = v.ownBlock ∨ v'.ownBlock = some w.heap.size) → wpList P ops Q rest (a.put o.dst v') w') : wpList P ops Q (o :: rest) a w := by
  obtain ⟨i0, hi, hz0, hz1, hz2⟩ := info_parts hinfo
  rcases hrd with ⟨⟨ad, cap, rfl, hcap⟩, rfl⟩ | ⟨b, off, cap, rfl, _, _, _, hc⟩
  · cases ad with
    | some ad =>
      refine wpList_append_own_at (w := w) hg s x t ho base e i0 z k bytes ht hi hz0 hz1 hz2 hzs hk0 v _ _ hs hown ad 0 cap [] hx (by simp) (fun j u hu => by simp at hu) (by simp) (by unfold maxLen; simp at hmax; omega) (by simpa using hlen) hbase ?_
      intro v' w' h1 h2 _ h4
      refine h v' w' ?_ h2 h4
      simpa [OwnE] using h1
    | none =>
    obtain rfl := hcap rfl
    refine wpList_append_own_none (w := w) hg s x t ho base e i0 k ht hi v _ _ hs hown hx ?_
    exact h v w (by simpa using hown) ⟨rfl, rfl, rfl, Nat.le_refl _, fun _ _ _ => rfl⟩ (.inl rfl)
  · refine wpList_append_own_at (w := w) hg s x t ho base e i0 z k bytes ht hi hz0 hz1 hz2 hzs hk0 v _ _ hs hown ⟨b, off, none⟩ m.length cap (flatE enc m) hx (flatE_length enc hk m) hc.news (flatE_one enc m h1) (by unfold maxLen; omega) hlen hbase ?_
    intro v' w' h1 h2 _ h4
    refine h v' w' ?_ h2 h4
    unfold OwnE
    rw [List.length_append, flatE_append]; exact h1
end

end Go.Proofs.YtkifedleajacpaaDoor
