/- A sorted list of nodes with their ids, and a list with the same entries in any order: plain laws. -/
import Derived.Test.YtkifedleajacpaaDoorTabPut
namespace Go.Proofs.YtkifedleajacpaaDoor

def keysOf (l : List TEnt) : List (Node × Int) := l.map fun x => (x.node, x.id)
def kget (l : List (Node × Int)) (n : Node) : Option Int := (l.find? (fun x => decide (nodeCmp x.1 n = 0))).map (·.2)
theorem keysOf_append (l m : List TEnt) : keysOf (l ++ m) = keysOf l ++ keysOf m := List.map_append
theorem kget_keys (n : Node) : ∀ l : List TEnt, kget (keysOf l) n = (tget l n).map (·.id)
  | [] => rfl
  | x :: l => by
    have ih := kget_keys n l
    unfold kget keysOf tget at *
    by_cases h : nodeCmp x.node n = 0
    · simp [h]
    · simpa [List.find?_cons, h] using ih

/-- The nodes are apart. -/
def KNod (l : List (Node × Int)) : Prop := l.Pairwise fun x y => x.1 ≠ y.1
theorem KNod.perm {l m : List (Node × Int)} (h : KNod l) (p : l.Perm m) : KNod m := (p.pairwise_iff (fun h => h.symm)).1 h
theorem kget_some {l : List (Node × Int)} (h : KNod l) (n : Node) (i : Int) : kget l n = some i ↔ (n, i) ∈ l := by
  induction l with
  | nil => simp [kget]
  | cons x l ih =>
    rw [KNod, List.pairwise_cons] at h
    have ih := ih h.2
    unfold kget at *
    by_cases e : nodeCmp x.1 n = 0
    · have e' := nodeCmp_zero.1 e
      simp only [List.find?_cons, e, decide_true, Option.map_some, Option.some.injEq, List.mem_cons]
      constructor
      · rintro rfl; exact .inl (by rw [← e'])
      · rintro (h1 | h1)
        · rw [← h1]
        · exact absurd (e'.trans rfl) (h.1 _ h1)
    · have e' : x.1 ≠ n := fun h => e (nodeCmp_zero.2 h)
      simp only [List.find?_cons, e, decide_false, List.mem_cons]
      rw [ih]
      exact ⟨.inr, fun h => h.elim (fun h => absurd (by rw [← h]) e') id⟩
theorem kget_perm {l m : List (Node × Int)} (h : KNod l) (p : l.Perm m) (n : Node) : kget l n = kget m n := by
  cases e : kget m n with
  | some i => exact (kget_some h n i).2 (p.mem_iff.2 ((kget_some (h.perm p) n i).1 e))
  | none =>
    cases e2 : kget l n with
    | none => rfl
    | some i => rw [(kget_some (h.perm p) n i).2 (p.mem_iff.1 ((kget_some h n i).1 e2))] at e; cases e

/-- The nodes rise. -/
def Rises (r : List TEnt) : Prop := r.Pairwise fun x y => nodeCmp x.node y.node < 0
theorem Rises.nod {r : List TEnt} (h : Rises r) : KNod (keysOf r) := by
  unfold KNod keysOf
  rw [List.pairwise_map]
  exact h.imp fun {a b} hab e => by
    have e : a.node = b.node := e
    rw [nodeCmp_zero.2 e] at hab; omega

theorem tget_at {r : List TEnt} {n : Node} {i : Nat} (h1 : ∀ j (h : j < r.length), j < i → nodeCmp r[j].node n < 0) (hi : i < r.length) (hn : r[i].node = n) : tget r n = some r[i] := by
  induction r generalizing i with
  | nil => simp at hi
  | cons x r ih =>
    cases i with
    | zero =>
      have h0 : x.node = n := hn
      simp [tget, nodeCmp_zero.2 h0]
    | succ i =>
      have h0 := h1 0 (by simp) (by omega)
      simp only [List.getElem_cons_zero] at h0
      have e : ¬ nodeCmp x.node n = 0 := by omega
      have := ih (i := i) (fun j h hj => by have := h1 (j + 1) (by simpa using h) (by omega); simpa using this) (by simpa using hi) (by simpa using hn)
      simp only [tget, List.find?_cons, e, decide_false, List.getElem_cons_succ]
      exact this
theorem tget_not {r : List TEnt} {n : Node} {i : Nat} (h1 : ∀ j (h : j < r.length), j < i → nodeCmp r[j].node n < 0) (h2 : ∀ j (h : j < r.length), i ≤ j → 0 < nodeCmp r[j].node n) : tget r n = none := by
  unfold tget
  rw [List.find?_eq_none]
  intro x hx
  obtain ⟨j, hj, rfl⟩ := List.mem_iff_getElem.1 hx
  rcases Nat.lt_or_ge j i with h | h
  · have := h1 j hj h; simp; omega
  · have := h2 j hj h; simp; omega

theorem mem_take {r : List TEnt} {i : Nat} {x : TEnt} (hx : x ∈ r.take i) : ∃ j, ∃ h : j < r.length, j < i ∧ r[j] = x := by
  obtain ⟨j, hj, e⟩ := List.mem_iff_getElem.1 hx
  rw [List.length_take] at hj
  refine ⟨j, by omega, by omega, ?_⟩
  rw [List.getElem_take] at e
  exact e
theorem mem_drop {r : List TEnt} {i : Nat} {x : TEnt} (hx : x ∈ r.drop i) : ∃ j, ∃ h : j < r.length, i ≤ j ∧ r[j] = x := by
  obtain ⟨j, hj, e⟩ := List.mem_iff_getElem.1 hx
  rw [List.length_drop] at hj
  refine ⟨i + j, by omega, by omega, ?_⟩
  rw [List.getElem_drop] at e
  exact e

theorem nodeCmp_lt_trans {a b c : Node} (h1 : nodeCmp a b < 0) (h2 : nodeCmp b c < 0) : nodeCmp a c < 0 := (nodeCmp_tr a b c (by omega) (by omega)).2 (.inl h1)

theorem Rises.put {r : List TEnt} (hr : Rises r) {x : TEnt} {i : Nat} (h1 : ∀ j (h : j < r.length), j < i → nodeCmp r[j].node x.node < 0) (h2 : ∀ j (h : j < r.length), i ≤ j → 0 < nodeCmp r[j].node x.node) : Rises (r.take i ++ [x] ++ r.drop i) := by
  unfold Rises at *
  have hr' : (r.take i ++ r.drop i).Pairwise (fun x y => nodeCmp x.node y.node < 0) := by rw [List.take_append_drop]; exact hr
  rw [List.pairwise_append] at hr'
  rw [List.append_assoc, List.pairwise_append]
  refine ⟨hr'.1, ?_, ?_⟩
  · rw [List.singleton_append, List.pairwise_cons]
    refine ⟨fun y hy => ?_, hr'.2.1⟩
    obtain ⟨j, hj, hij, rfl⟩ := mem_drop hy
    have := h2 j hj hij
    rw [nodeCmp_neg]; omega
  · intro y hy z hz
    rw [List.singleton_append, List.mem_cons] at hz
    rcases hz with rfl | hz
    · obtain ⟨j, hj, hij, rfl⟩ := mem_take hy
      exact h1 j hj hij
    · exact hr'.2.2 y hy z hz
theorem Rises.del {r : List TEnt} (hr : Rises r) (i : Nat) : Rises (r.take i ++ r.drop (i + 1)) := by
  have e : r.take i ++ r.drop (i + 1) = r.eraseIdx i := (List.eraseIdx_eq_take_drop_succ r i).symm
  rw [e]
  exact List.Pairwise.sublist (List.eraseIdx_sublist r i) hr

theorem keys_tdel (n : Node) : ∀ l : List TEnt, keysOf (tdel l n) = (keysOf l).filter (fun x => decide (nodeCmp x.1 n ≠ 0))
  | [] => rfl
  | x :: l => by
    have ih := keys_tdel n l
    unfold tdel keysOf at *
    by_cases h : nodeCmp x.node n = 0
    · rw [List.filter_cons_of_neg (by simp [h]), List.map_cons, List.filter_cons_of_neg (by simp [h]), ih]
    · rw [List.filter_cons_of_pos (by simp [h]), List.map_cons, List.map_cons, List.filter_cons_of_pos (by simp [h]), ih]

theorem tdel_at {r : List TEnt} (hr : Rises r) {i : Nat} (hi : i < r.length) : tdel r r[i].node = r.take i ++ r.drop (i + 1) := by
  have e : r = r.take i ++ r[i] :: r.drop (i + 1) := by
    rw [← List.drop_eq_getElem_cons hi, List.take_append_drop]
  have hp : (r.take i ++ r[i] :: r.drop (i + 1)).Pairwise (fun x y => nodeCmp x.node y.node < 0) := by rw [← e]; exact hr
  rw [List.pairwise_append, List.pairwise_cons] at hp
  generalize r[i] = x at *
  generalize r.take i = a at *
  generalize r.drop (i + 1) = b at *
  subst e
  unfold tdel
  have ha : a.filter (fun y => decide (nodeCmp y.node x.node ≠ 0)) = a := List.filter_eq_self.2 fun y hy => by
    have := hp.2.2 y hy x (by simp); simp; omega
  have hb : b.filter (fun y => decide (nodeCmp y.node x.node ≠ 0)) = b := List.filter_eq_self.2 fun y hy => by
    have := hp.2.1.1 y hy
    rw [nodeCmp_neg]; simp; omega
  rw [List.filter_append, List.filter_cons_of_neg (by simp [nodeCmp_zero.2 rfl]), ha, hb]

/-- Two rising lists with the same nodes are one. -/
theorem rises_eq : ∀ {a b : List Node}, a.Pairwise (fun x y => nodeCmp x y < 0) → b.Pairwise (fun x y => nodeCmp x y < 0) → a.Perm b → a = b
  | [], b, _, _, p => p.nil_eq
  | x :: a, [], _, _, p => by have := p.length_eq; simp at this
  | x :: a, y :: b, ha, hb, p => by
    have hxy : x = y := by
      have h1 : x ∈ y :: b := p.mem_iff.1 (by simp)
      have h2 : y ∈ x :: a := p.mem_iff.2 (by simp)
      rw [List.mem_cons] at h1 h2
      rcases h1 with h1 | h1
      · exact h1
      · rcases h2 with h2 | h2
        · exact h2.symm
        · have e1 := (List.pairwise_cons.1 hb).1 x h1
          have e2 := (List.pairwise_cons.1 ha).1 y h2
          rw [nodeCmp_neg] at e1; omega
    subst hxy
    rw [rises_eq (List.pairwise_cons.1 ha).2 (List.pairwise_cons.1 hb).2 ((List.perm_cons x).1 p)]

end Go.Proofs.YtkifedleajacpaaDoor
