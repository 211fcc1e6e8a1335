import Derived.Test.YtndfncaoejbkiaaGreatDoorPk0
import Derived.Test.YtndfncaoejbkiaaGreatDoorPk1
import Derived.Test.YtndfncaoejbkiaaGreatDoorPk2
import Derived.Deep.AppendLies
import Derived.Laws.BitsAllLaws
import Derived.Laws.IdiomStrings
import Derived.Lib.AppendStr
import Derived.Test.YtndfncaoejbkiaaGreatDoorShelf
set_option linter.all false
section
/- The walk of the reference's All (under way). -/
namespace Go.Proofs.YtndfncaoejbkiaaGreatDoor
open Go.RowKit
set_option maxRecDepth 100000

theorem fls_nil {kind : Int} {P : Nat → Bool} {n : Nat} (h : fls kind P n = []) : ∀ i, i < n → P i = false := by
  intro i hi
  unfold fls at h
  rw [List.map_eq_nil_iff, List.filter_eq_nil_iff] at h
  simpa using h i (List.mem_range.2 hi)
/-- No flaw of form: the args lie in range. -/
theorem formF_ord {d : Dmp} (h : formF (nsOf d) = []) : ∀ x ∈ d.nodes, ∀ y ∈ x.1.args, 0 ≤ y ∧ y < d.nodes.length := by
  intro x hx y hy
  obtain ⟨i, hi, rfl⟩ := List.getElem_of_mem hx
  unfold formF at h
  rw [List.append_eq_nil_iff, List.append_eq_nil_iff, nsOf_length] at h
  have hs := fls_nil h.1.2 i hi
  unfold disAt at hs
  rw [nsOf_at hi] at hs
  have hs : ordS d.nodes[i].1.args i = true := by simpa using hs
  unfold ordS at hs
  rw [List.all_eq_true] at hs
  have h2 : 0 ≤ y ∧ y < (i : Int) := by simpa using hs y hy
  omega
theorem formF_le (d : Dmp) : (formF (nsOf d)).length ≤ 3 * d.nodes.length := by
  unfold formF
  have h1 := fls_le 1 (malfAt (nsOf d)) (nsOf d).length
  have h2 := fls_le 2 (disAt (nsOf d)) (nsOf d).length
  have h3 := fls_le 3 (wideAt (nsOf d)) (nsOf d).length
  rw [nsOf_length] at *
  simp only [List.length_append]
  omega
theorem linksF_le (ns : List Node) (lk : List Lnk) : (linksF ns lk).length ≤ 4 * lk.length := by
  unfold linksF
  have h1 := lkPre_le ns lk 3
  have h2 := fls_le 8 (lkRless ns lk) lk.length
  rw [List.length_append]
  omega
def rootsF (roots lab : List Int) (k : Nat) : List Flw := fls 9 (fun i => roots.getD i 0 != lab.getD i 0) k
def allF (ns : List Node) (lk : List Lnk) (roots : List Int) : List Flw :=
  if formF ns = [] then fls 4 (twiceAt ns) ns.length ++ linksF ns lk ++ rootsF roots (lbAt ns.length lk lk.length) (min roots.length ns.length) ++
    (if roots.length = ns.length then [] else [⟨9, ((min roots.length ns.length : Nat) : Int)⟩]) ++ fls 10 (openAt ns (lbAt ns.length lk lk.length)) ns.length
  else formF ns

theorem disj_next {B : Nat} {W : World} {v v' lv : Value} {lab : List Int} {n : Nat} (hR : OwnI B W lv lab) (hd : ∀ b, v.ownBlock = some b → lv.ownBlock ≠ some b) (hn : W.heap.size ≤ n) (h : v'.ownBlock = v.ownBlock ∨ v'.ownBlock = some n) : ∀ b, v'.ownBlock = some b → lv.ownBlock ≠ some b := by
  intro b hb hb2
  rcases h with h | h
  · exact hd b (by rw [← h]; exact hb) hb2
  · rw [h] at hb
    cases hb
    have := (World.ownsRow.lt hR _ hb2).2
    omega
/-- append of flaws, with the block of the new row. -/
theorem ap_flaw' (w : World) {ops : Array Oper} {rest : List Oper} {o : Oper} {a : Act} {Q : Exit → Act → World → Prop} (hg : o.guard = none) (s x : Operand)
    (ho : o.op = .call { callee := .builtin .append, args := #[s, x], argTypes := #[104, 104] }) (base : Nat) (v : Value) (l : List Flw) (hs : a.eval s = v) (hown : OwnF base w v l)
    (u : Value) (m : List Flw) (hx : a.eval x = u) (hrd : RdE flCells NoB w u m) (hlen : l.length + m.length ≤ 1000000000) (hbase : base ≤ w.heap.size)
    (h : ∀ p q w', OwnF base w' (.slice p (l ++ m).length q) (l ++ m) → w.grownBy w' v.ownBlock → ((Value.slice p (l ++ m).length q).ownBlock = v.ownBlock ∨ (Value.slice p (l ++ m).length q).ownBlock = some w.heap.size) → wpList Tryz.prog ops Q rest (a.put o.dst (.slice p (l ++ m).length q)) w') : wpList Tryz.prog ops Q (o :: rest) a w := by
  refine ap_rows (z := .agg #[.int .i64 0, .int .i64 0]) (bytes := 16) w flLen (by decide) Tryz.underlying104 infoFlaw rfl hg s x ho base v l hs hown NoB u m hx hrd (fun y hy u hu => ?_) (by omega) (by omega) hbase (fun v' w' h1 h2 h3 => ?_)
  · simp only [flCells, List.mem_cons, List.not_mem_nil, or_false] at hu
    rcases hu with rfl | rfl <;> rfl
  · obtain ⟨p, q, hv⟩ := OwnE.form h1
    subst hv
    exact h p q w' h1 h2 h3

end Go.Proofs.YtndfncaoejbkiaaGreatDoor
end
section
/- The proof forest: its rows of link numbers (near); the walk of add. -/
namespace Go.Proofs.YtndfncaoejbkiaaGreatDoor
open Go.RowKit
set_option maxRecDepth 100000

theorem OwnE.head {α : Type} {enc : α → List Value} {k : Nat} {e : TypeId} {B : Nat} {w : World} {v : Value} {l : List α} (h : OwnE enc k e B w v l) {b : Nat} (hb : v.ownBlock = some b) : ∃ cur, w.heap[b]? = some (.cells cur e (0, 0)) := by
  rcases h.2 with ⟨h2, _⟩ | ⟨g, cap, cur, h1, _, hg, _⟩
  · rw [h2] at hb; cases hb
  · rw [h1] at hb; cases hb; exact ⟨cur, hg⟩
theorem OwnI.head {B : Nat} {w : World} {v : Value} {l : List Int} (h : OwnI B w v l) {b : Nat} (hb : v.ownBlock = some b) : ∃ cur, w.heap[b]? = some (.cells cur 3 (0, 0)) := by
  rcases h.2 with ⟨h2, _⟩ | ⟨g, cap, cur, h1, _, hg, _⟩
  · rw [h2] at hb; cases hb
  · rw [h1] at hb; cases hb; exact ⟨cur, hg⟩
theorem ne_of_types {w : World} {b q : Nat} {c c' : Array Value} {e e' : TypeId} {f f' : Nat × Nat} (h : w.heap[b]? = some (.cells c e f)) (h' : w.heap[q]? = some (.cells c' e' f')) (he : e ≠ e') : b ≠ q := by
  rintro rfl
  rw [h] at h'
  simp only [Option.some.injEq, Obj.cells.injEq] at h'
  exact he h'.2.1
theorem MapIs.ne_cells {κ : Type} [DecidableEq κ] {d : TypeDesc} {mk : κ → Value} {w : World} {q b : Nat} {m : List (κ × Value)} (h : MapIs d mk w q m) {c : Array Value} {e : TypeId} {f : Nat × Nat} (h' : w.heap[b]? = some (.cells c e f)) : b ≠ q := by
  rintro rfl
  obtain ⟨es, clock, hb, _⟩ := h
  rw [hb] at h'; cases h'

theorem MapIs.at_eq {κ : Type} [DecidableEq κ] {d : TypeDesc} {mk : κ → Value} {w w1 : World} {b : Nat} {m : List (κ × Value)} (h : MapIs d mk w b m) (e : w1.heap[b]? = w.heap[b]?) : MapIs d mk w1 b m := by
  obtain ⟨es, clock, hb, r⟩ := h
  exact ⟨es, clock, e.trans hb, r⟩
def NearIs (N : Nat → Prop) (w : World) (bn : Nat) (nl : Int → List Int) : Prop :=
  ∃ m : List (Int × Value), MapIs (.int .i64) (Value.int .i64) w bn m ∧ (∀ k, mget m k = none → nl k = []) ∧ (∀ k v, mget m k = some v → OwnI 0 w v (nl k) ∧ ∀ b, v.ownBlock = some b → N b) ∧
    ∀ k k' v v', k ≠ k' → mget m k = some v → mget m k' = some v' → ∀ b, v.ownBlock = some b → v'.ownBlock ≠ some b
theorem NearIs.fr {N M : Nat → Prop} {w w' : World} {bn : Nat} {nl : Int → List Int} (h : NearIs N w bn nl) (hf : Fr M w w') (hb : ¬ M bn) (hm : ∀ k, N k → ¬ M k) : NearIs N w' bn nl := by
  obtain ⟨m, h1, h2, h3, h4⟩ := h
  exact ⟨m, h1.fr hf hb, h2, fun k v hk => ⟨(h3 k v hk).1.fr hf (fun b hb => hm b ((h3 k v hk).2 b hb)), (h3 k v hk).2⟩, h4⟩
/-- The row at a key, as the program looks it up. -/
theorem NearIs.look {N : Nat → Prop} {w : World} {bn : Nat} {nl : Int → List Int} (h : NearIs N w bn nl) (x : Int) :
    ∃ p c, (∀ w1 : World, w1.heap[bn]? = w.heap[bn]? → (Instr.lookup 131 (.map (some bn)) (.int .i64 x) false).run Tryz.prog w1 = .ok (.slice p (nl x).length c) w1) ∧ OwnI 0 w (.slice p (nl x).length c) (nl x) ∧ (∀ b, (Value.slice p (nl x).length c).ownBlock = some b → N b) ∧
      (∀ (w1 : World) (v' : Value) (l' : List Int), Fr (fun b => (Value.slice p (nl x).length c).ownBlock = some b) w w1 → OwnI 0 w1 v' l' → (v'.ownBlock = (Value.slice p (nl x).length c).ownBlock ∨ ∃ q, v'.ownBlock = some q ∧ w.heap.size ≤ q) →
        ∃ w2, (Instr.mapUpdate 131 (.map (some bn)) (.int .i64 x) v').run Tryz.prog w1 = .ok () w2 ∧ NearIs (fun k => N k ∨ w.heap.size ≤ k) w2 bn (fun k => if k = x then l' else nl k) ∧ Fr (fun k => k = bn) w1 w2) := by
  obtain ⟨m, h1, h2, h3, h4⟩ := h
  have key : ∀ (v : Value), OwnI 0 w v (nl x) → (mget m x = some v ∨ (mget m x = none ∧ v.ownBlock = none)) → ∀ (w1 : World) (v' : Value) (l' : List Int), Fr (fun b => v.ownBlock = some b) w w1 → OwnI 0 w1 v' l' → (v'.ownBlock = v.ownBlock ∨ ∃ q, v'.ownBlock = some q ∧ w.heap.size ≤ q) →
        ∃ w2, (Instr.mapUpdate 131 (.map (some bn)) (.int .i64 x) v').run Tryz.prog w1 = .ok () w2 ∧ NearIs (fun k => N k ∨ w.heap.size ≤ k) w2 bn (fun k => if k = x then l' else nl k) ∧ Fr (fun k => k = bn) w1 w2 := by
    intro v ho hv w1 v' l' hf ho' hb
    have hbn : ¬ v.ownBlock = some bn := fun e => by
      obtain ⟨cur, hc⟩ := ho.head e
      exact h1.ne_cells hc rfl
    have hm1 := h1.fr hf hbn
    obtain ⟨w2, e1, e2, e3⟩ := hm1.put (P := Tryz.prog) kkInt Tryz.underlying131 Tryz.underlying3 x v'
    refine ⟨w2, e1, ⟨_, e2, fun k hk => ?_, fun k u hk => ?_, fun k k' u u' hkk hk hk' b hbu => ?_⟩, e3⟩
    · rw [mget_put] at hk
      by_cases e : k = x
      · rw [if_pos e] at hk; cases hk
      · rw [if_neg e] at hk; simp only [if_neg e]; exact h2 k hk
    · rw [mget_put] at hk
      by_cases e : k = x
      · rw [if_pos e] at hk
        cases hk
        simp only [if_pos e]
        refine ⟨ho'.fr e3 (fun b hb2 e9 => ?_), fun b hb2 => ?_⟩
        · obtain ⟨cur, hc⟩ := ho'.head hb2
          exact hm1.ne_cells hc e9
        · rcases hb with hb | ⟨q, hb, hq⟩
          · rw [hb] at hb2
            rcases hv with hv | ⟨_, hv⟩
            · exact .inl ((h3 x v hv).2 b hb2)
            · rw [hv] at hb2; cases hb2
          · rw [hb] at hb2; cases hb2; exact .inr hq
      · rw [if_neg e] at hk
        simp only [if_neg e]
        have hu := h3 k u hk
        have hu1 : OwnI 0 w1 u (nl k) := hu.1.fr hf (fun b hb2 hb3 => by
          rcases hv with hv | ⟨_, hv⟩
          · exact h4 k x u v e hk hv b hb2 hb3
          · rw [hv] at hb3; cases hb3)
        refine ⟨hu1.fr e3 (fun b hb2 e9 => ?_), fun b hb2 => .inl (hu.2 b hb2)⟩
        obtain ⟨cur, hc⟩ := hu1.head hb2
        exact hm1.ne_cells hc e9
    · rw [mget_put] at hk hk'
      have other : ∀ k u, k ≠ x → mget m k = some u → ∀ b, u.ownBlock = some b → v'.ownBlock ≠ some b := fun k u hkx hku b hb2 hb3 => by
        rcases hb with hb | ⟨q, hb, hq⟩
        · rw [hb] at hb3
          rcases hv with hv | ⟨_, hv⟩
          · exact h4 k x u v hkx hku hv b hb2 hb3
          · rw [hv] at hb3; cases hb3
        · rw [hb] at hb3; cases hb3
          have := World.ownsRow.lt (h3 k u hku).1 _ hb2
          omega
      by_cases e : k = x
      · have e' : k' ≠ x := fun e2 => hkk (e.trans e2.symm)
        rw [if_pos e] at hk
        rw [if_neg e'] at hk'
        cases hk
        exact fun e9 => other k' u' e' hk' b e9 hbu
      · rw [if_neg e] at hk
        by_cases e' : k' = x
        · rw [if_pos e'] at hk'
          cases hk'
          exact other k u e hk b hbu
        · rw [if_neg e'] at hk'
          exact h4 k k' u u' hkk hk hk' b hbu
  cases hg : mget m x with
  | none =>
    have h0 := h2 x hg
    rw [h0]
    refine ⟨none, 0, fun w1 e => (h1.at_eq e).lookNone kkInt Tryz.underlying131 Tryz.underlying3 x hg (z := .slice none 0 0) (by kernel_rfl) false, OwnI.nil 0 w, fun b hb => (by cases hb), fun w1 v' l' => ?_⟩
    exact key (.slice none 0 0) (by rw [h0]; exact OwnI.nil 0 w) (.inr ⟨hg, rfl⟩) w1 v' l'
  | some v =>
    obtain ⟨ho, hN⟩ := h3 x v hg
    obtain ⟨p, c, hv⟩ := ho.form
    subst hv
    exact ⟨p, c, fun w1 e => (h1.at_eq e).look kkInt Tryz.underlying131 Tryz.underlying3 x hg false, ho, hN, fun w1 v' l' => key _ ho (.inl hg) w1 v' l'⟩

/-- The numbers of the links at an id. -/
def nearL (L : List Lnk) (x : Int) : List Int := ((List.range L.length).filter (fun i => (L[i]?).elim false (fun l => l.a == x || l.b == x))).map (fun i : Nat => (i : Int))
theorem nearL_app (L : List Lnk) (l : Lnk) (x : Int) : nearL (L ++ [l]) x = if l.a = x ∨ l.b = x then nearL L x ++ [(L.length : Int)] else nearL L x := by
  unfold nearL
  rw [List.length_append, List.length_singleton, List.range_succ, List.filter_append, List.map_append]
  have h1 : (List.range L.length).filter (fun i => ((L ++ [l])[i]?).elim false (fun l => l.a == x || l.b == x)) = (List.range L.length).filter (fun i => (L[i]?).elim false (fun l => l.a == x || l.b == x)) := by
    apply List.filter_congr
    intro i hi
    rw [List.getElem?_append_left (List.mem_range.1 hi)]
  rw [h1]
  by_cases h : l.a = x ∨ l.b = x
  · rw [if_pos h]
    have : (l.a == x || l.b == x) = true := by simpa using h
    simp [this]
  · rw [if_neg h]
    have : (l.a == x || l.b == x) = false := by simpa using h
    simp [this]
theorem nearL_le (L : List Lnk) (x : Int) : (nearL L x).length ≤ L.length := by
  unfold nearL
  rw [List.length_map]
  exact Nat.le_trans (List.length_filter_le _ _) (by simp)
end Go.Proofs.YtndfncaoejbkiaaGreatDoor
end
section
/- The walk of forest.add. -/
namespace Go.Proofs.YtndfncaoejbkiaaGreatDoor
open Go.RowKit
set_option maxRecDepth 100000

abbrev OwnL (w : World) (v : Value) (l : List Lnk) : Prop := OwnE lkCells 3 57 0 w v l
theorem infoLnk : (Tryz.prog.info? 57).map (fun i => (i.zero, i.size, i.bytes)) = some (some (.agg #[.int .i64 0, .int .i64 0, .int .i64 0]), 3, 24) := by kernel_rfl
theorem ap_lnk (w : World) {ops : Array Oper} {rest : List Oper} {o : Oper} {a : Act} {Q : Exit → Act → World → Prop} (hg : o.guard = none) (s x : Operand)
    (ho : o.op = .call { callee := .builtin .append, args := #[s, x], argTypes := #[23, 23] }) (v : Value) (l : List Lnk) (hs : a.eval s = v) (hown : OwnL w v l)
    (u : Value) (m : List Lnk) (hx : a.eval x = u) (hrd : RdE lkCells NoB w u m) (hlen : l.length + m.length ≤ 1000000000)
    (h : ∀ p q w', OwnL w' (.slice p (l ++ m).length q) (l ++ m) → w.grownBy w' v.ownBlock → ((Value.slice p (l ++ m).length q).ownBlock = v.ownBlock ∨ (Value.slice p (l ++ m).length q).ownBlock = some w.heap.size) → wpList Tryz.prog ops Q rest (a.put o.dst (.slice p (l ++ m).length q)) w') : wpList Tryz.prog ops Q (o :: rest) a w := by
  refine ap_rows (z := .agg #[.int .i64 0, .int .i64 0, .int .i64 0]) (bytes := 24) w lkLen (by decide) Tryz.underlying23 infoLnk rfl hg s x ho 0 v l hs hown NoB u m hx hrd (fun y hy u hu => ?_) (by omega) (by omega) (Nat.zero_le _) (fun v' w' h1 h2 h3 => ?_)
  · simp only [lkCells, List.mem_cons, List.not_mem_nil, or_false] at hu
    rcases hu with rfl | rfl | rfl <;> rfl
  · obtain ⟨p, q, hv⟩ := OwnE.form h1
    subst hv
    exact h p q w' h1 h2 h3
theorem rdL_lit {w : World} (l : Lnk) {e : TypeId} {b : Nat} (hb : b = w.heap.size) : RdE lkCells NoB (w.alloc (.cells #[.int .i64 l.a, .int .i64 l.b, .int .i64 l.why] e)) (.slice (some ⟨b, 0, none⟩) 1 1) [l] := by
  subst hb
  refine .inr ⟨w.heap.size, 0, 1, rfl, by simp, fun h => h, Nat.le_refl _, ?_⟩
  have hb := at_new w (.cells #[.int .i64 l.a, .int .i64 l.b, .int .i64 l.why] e)
  intro j u hj
  rw [Nat.zero_add]
  match j, hj with
  | 0, hj => simp [flatE, lkCells] at hj; subst hj; (unfold World.cell?; simp only [hb]; rfl)
  | 1, hj => simp [flatE, lkCells] at hj; subst hj; (unfold World.cell?; simp only [hb]; rfl)
  | 2, hj => simp [flatE, lkCells] at hj; subst hj; (unfold World.cell?; simp only [hb]; rfl)
  | j + 3, hj => simp [flatE, lkCells] at hj

/-- A forest of the links L, of whose ids r gives the root; all its blocks are in M. -/
structure ForAt (M : Nat → Prop) (w : World) (bf : Nat) (L : List Lnk) (r : Int → Int) : Prop where
  ex : ∃ bn bu sl g rk, FHead w bf bn bu sl ∧ OwnL w sl L ∧ (∀ b, sl.ownBlock = some b → M b) ∧ NearIs M w bn (nearL L) ∧ UpIs w bu g ∧ UpOk g r rk ∧ bu ≠ bn ∧ M bf ∧ M bn ∧ M bu
  lt : ∀ k, M k → k < w.heap.size
theorem UpIs.ne_cells {w : World} {q b : Nat} {g : Int → Option Int} (h : UpIs w q g) {c : Array Value} {e : TypeId} {f : Nat × Nat} (h' : w.heap[b]? = some (.cells c e f)) : b ≠ q := by
  obtain ⟨m, h1, _⟩ := h
  exact h1.ne_cells h'
theorem NearIs.ne_cells {N : Nat → Prop} {w : World} {q b : Nat} {g : Int → List Int} (h : NearIs N w q g) {c : Array Value} {e : TypeId} {f : Nat × Nat} (h' : w.heap[b]? = some (.cells c e f)) : b ≠ q := by
  obtain ⟨m, h1, _⟩ := h
  exact h1.ne_cells h'
theorem NearIs.lt {N : Nat → Prop} {w : World} {q : Nat} {g : Int → List Int} (h : NearIs N w q g) : q < w.heap.size := by obtain ⟨m, h1, _⟩ := h; exact h1.lt
theorem NearIs.mono {N N' : Nat → Prop} {w : World} {q : Nat} {g : Int → List Int} (h : NearIs N w q g) (hn : ∀ k, k < w.heap.size → N k → N' k) : NearIs N' w q g := by
  obtain ⟨m, h1, h2, h3, h4⟩ := h
  exact ⟨m, h1, h2, fun k v hk => ⟨(h3 k v hk).1, fun b hb => hn b (World.ownsRow.lt (h3 k v hk).1 b hb).2 ((h3 k v hk).2 b hb)⟩, h4⟩
theorem FHead.fr {M : Nat → Prop} {w w' : World} {bf bn bu : Nat} {sl : Value} (h : FHead w bf bn bu sl) (hf : Fr M w w') (hm : ¬ M bf) : FHead w' bf bn bu sl := hf.at hm h

/-- What the links' rows (near) of one end turn to. -/
structure Mid (M : Nat → Prop) (w W : World) (bf bn bu : Nat) (sl : Value) (L : List Lnk) (nl : Int → List Int) (g : Int → Option Int) (q : Nat) (l : Lnk) : Prop where
  head : FHead W bf bn bu sl
  own : OwnL W sl L
  near : NearIs (fun k => M k ∨ w.heap.size ≤ k) W bn nl
  up : UpIs W bu g
  box : W.heap[q]? = some (.cells #[.int .i64 l.a, .int .i64 l.b, .int .i64 l.why] 57 (0, 0))
  fr : Fr M w W
theorem Mid.quiet {M : Nat → Prop} {w W W' : World} {bf bn bu q : Nat} {sl : Value} {L : List Lnk} {nl : Int → List Int} {g : Int → Option Int} {l : Lnk} (h : Mid M w W bf bn bu sl L nl g q l) (hf : Fr NoB W W') : Mid M w W' bf bn bu sl L nl g q l :=
  ⟨h.head.fr hf (fun h => h), h.own.step hf, h.near.fr hf (fun h => h) (fun _ _ h => h), h.up.fr hf (fun h => h), hf.at (fun h => h) h.box, h.fr.step hf⟩
theorem Mid.cells {M : Nat → Prop} {w W : World} {bf bn bu q : Nat} {sl : Value} {L : List Lnk} {nl : Int → List Int} {g : Int → Option Int} {l : Lnk} (h : Mid M w W bf bn bu sl L nl g q l) :
    W.cell? ⟨bf, 1, none⟩ = some sl ∧ W.cell? ⟨bf, 2, none⟩ = some (.map (some bn)) ∧ W.cell? ⟨q, 0, none⟩ = some (.int .i64 l.a) ∧ W.cell? ⟨q, 1, none⟩ = some (.int .i64 l.b) := by
  obtain ⟨_, c1, c2, _, _, _⟩ := h.head.cells
  obtain ⟨e0, e1, _⟩ := three_of h.box
  exact ⟨c1, c2, e0, e1⟩

/-- What the region reads. -/
def MidS (bf bn q : Nat) (sl : Value) (l : Lnk) (x : Int) (row : Value) (w' : World) : Prop := w'.cell? ⟨bf, 1, none⟩ = some sl ∧ w'.cell? ⟨bf, 2, none⟩ = some (.map (some bn)) ∧ w'.cell? ⟨q, 0, none⟩ = some (.int .i64 l.a) ∧ w'.cell? ⟨q, 1, none⟩ = some (.int .i64 l.b) ∧
  (Instr.lookup 131 (.map (some bn)) (.int .i64 x) false).run Tryz.prog w' = .ok row w'
theorem Mid.look {M : Nat → Prop} {w W : World} {bf bn bu q : Nat} {sl : Value} {L : List Lnk} {nl : Int → List Int} {g : Int → Option Int} {l : Lnk} (h : Mid M w W bf bn bu sl L nl g q l) (hne : bu ≠ bn) (hM : M bn) (x : Int) :
    ∃ p c, OwnI 0 W (.slice p (nl x).length c) (nl x) ∧ (∀ W', Fr (fun b => (Value.slice p (nl x).length c).ownBlock = some b) W W' → MidS bf bn q sl l x (.slice p (nl x).length c) W') ∧
      (∀ (w6 : World) (v6 : Value) (l' : List Int), Fr (fun b => (Value.slice p (nl x).length c).ownBlock = some b) W w6 → OwnI 0 w6 v6 l' → (v6.ownBlock = (Value.slice p (nl x).length c).ownBlock ∨ ∃ q, v6.ownBlock = some q ∧ W.heap.size ≤ q) →
        ∃ w7, (Instr.mapUpdate 131 (.map (some bn)) (.int .i64 x) v6).run Tryz.prog w6 = .ok () w7 ∧ Mid M w w7 bf bn bu sl L (fun k => if k = x then l' else nl k) g q l) := by
  obtain ⟨p, c, lk, ow, hN, upd⟩ := h.near.look x
  have dbf : ¬ (Value.slice p (nl x).length c).ownBlock = some bf := fun e => by
    obtain ⟨cur, hc⟩ := ow.head e
    exact ne_of_types hc h.head (by decide) rfl
  have dq : ¬ (Value.slice p (nl x).length c).ownBlock = some q := fun e => by
    obtain ⟨cur, hc⟩ := ow.head e
    exact ne_of_types hc h.box (by decide) rfl
  have dbn : ¬ (Value.slice p (nl x).length c).ownBlock = some bn := fun e => by
    obtain ⟨cur, hc⟩ := ow.head e
    exact h.near.ne_cells hc rfl
  have dbu : ¬ (Value.slice p (nl x).length c).ownBlock = some bu := fun e => by
    obtain ⟨cur, hc⟩ := ow.head e
    exact h.up.ne_cells hc rfl
  have dsl : ∀ b, sl.ownBlock = some b → ¬ (Value.slice p (nl x).length c).ownBlock = some b := fun b hb e => by
    obtain ⟨cur, hc⟩ := ow.head e
    obtain ⟨cur', hc'⟩ := OwnE.head h.own hb
    exact ne_of_types hc hc' (by decide) rfl
  refine ⟨p, c, ow, fun W' hf => ?_, fun w6 v6 l' hf ho hb => ?_⟩
  · obtain ⟨_, c1, c2, _, _, _⟩ := (h.head.fr hf dbf).cells
    obtain ⟨e0, e1, _⟩ := three_of (hf.at dq h.box)
    exact ⟨c1, c2, e0, e1, lk W' (hf.block bn h.near.lt dbn)⟩
  · obtain ⟨w7, e1, e2, e3⟩ := upd w6 v6 l' hf ho hb
    have h6 := h.head.fr hf dbf
    have hbn : bf ≠ bn := h.near.ne_cells h.head
    have hq : q ≠ bn := h.near.ne_cells h.box
    refine ⟨w7, e1, ⟨h6.fr e3 hbn, (h.own.fr hf dsl).fr e3 (fun b hb2 e9 => ?_), e2.mono (fun k _ hk => ?_), (h.up.fr hf dbu).fr e3 hne, e3.at hq (hf.at dq h.box), ?_⟩⟩
    · obtain ⟨cur', hc'⟩ := OwnE.head h.own hb2
      exact h.near.ne_cells hc' e9
    · rcases hk with hk | hk
      · exact hk
      · exact .inr (Nat.le_trans h.fr.size hk)
    · refine (h.fr.trans' hf (fun k hk e9 => ?_)).trans' e3 (fun k _ e9 => by rw [show k = bn from e9]; exact hM)
      rcases hN k e9 with h1 | h1
      · exact h1
      · omega


set_option maxHeartbeats 4000000 in
theorem fadd_any (M : Nat → Prop) (w : World) (bf : Nat) (L : List Lnk) (r : Int → Int) (l : Lnk) (h : ForAt M w bf L r) (hL : L.length ≤ 1000000) (hab : r l.a ≠ r l.b) (hne : l.a ≠ l.b) :
    Calls Tryz.prog 81 #[.pointer (some ⟨bf, 0, none⟩), .agg #[.int .i64 l.a, .int .i64 l.b, .int .i64 l.why]] w fun e w' => e = .returned (.tuple #[]) ∧ (∃ M', ForAt M' w' bf (L ++ [l]) (fun k => if r k = r l.a then r l.b else r k) ∧ ∀ k, M' k → M k ∨ w.heap.size ≤ k) ∧ Fr M w w' := by
  obtain ⟨bn, bu, sl, g, rk, hh, hs, hsM, hn, hu, ho, hbu, m1, m2, m3⟩ := h.ex
  have HLT := hid h.lt
  obtain ⟨sp, sc, hv⟩ := OwnE.form hs
  subst hv
  have F0 : Fr NoB w (w.alloc (.cells #[.int .i64 l.a, .int .i64 l.b, .int .i64 l.why] 57)) := (Fr.refl NoB w).alloc _
  have MD : Hid (Mid M w (w.alloc (.cells #[.int .i64 l.a, .int .i64 l.b, .int .i64 l.why] 57)) bf bn bu (.slice sp L.length sc) L (nearL L) g w.heap.size l) :=
    ⟨hh.fr F0 (fun h => h), hs.step F0, (hn.mono (fun k _ hk => .inl hk)).fr F0 (fun h => h) (fun _ _ h => h), hu.fr F0 (fun h => h), at_new w _, (Fr.refl M w).alloc _⟩
  obtain ⟨w1, hw1⟩ : ∃ w1, w.alloc (.cells #[.int .i64 l.a, .int .i64 l.b, .int .i64 l.why] 57) = w1 := ⟨_, rfl⟩
  rw [hw1] at MD
  have HW1 := hid hw1
  have HO := hid ho
  have HBU := hid hbu
  have HSM := hid hsM
  have HM1 := hid m1
  have HM2 := hid m2
  have HM3 := hid m3
  have HAB := hid hab
  have HNE := hid hne
  have HNL := hid (nearL_le L)
  clear h hh hs hsM hn hu ho hbu m1 m2 m3 F0 hw1 hab hne
  go_enter Tryz.func81, Tryz.ntmps81
  go_wp2
  rw [HW1.out]
  have MD1 := hid (MD.out.quiet (Fr.refl NoB w1).drew)
  obtain ⟨p, c, ow, st, upd⟩ := MD1.out.look HBU.out HM2.out l.a
  have OW := hid ow
  have ST := hid st
  have UPD := hid upd
  have S0 := ST.out w1.drew (Fr.refl _ _)
  have HKL : Hid (((nearL L) l.a).length ≤ L.length + 1) := Nat.le_succ_of_le (HNL.out _)
  clear ow st upd
  refine region_eff (MidS bf bn w.heap.size (.slice sp L.length sc) l l.a (.slice p ((nearL L) l.a).length c)) 20 [(0, 1), (1, 1), (2, 1), (3, 0), (4, 1), (5, 0), (6, 1), (7, 1), (8, 1), (9, 0), (10, 1), (11, 0), (12, 0), (13, 1), (14, 1), (15, 1), (16, 0), (17, 1), (18, 2), (19, 2), (20, 2)] (by kernel_rfl) (by kernel_rfl) ?_ ?_
  · exact S0
  clear S0
  repeat (first | (refine eff_off (by rfl) (by rfl) ?_; (try simp only [Act.put, List.setIfInBounds_toArray, List.set_cons_zero, List.set_cons_succ])) | (refine eff_off0 (by rfl) (by rfl) ?_; (try simp only [Act.put, List.setIfInBounds_toArray, List.set_cons_zero, List.set_cons_succ])) | (refine eff_pu ?_ (by rfl) (by rfl) ?_ ?_; rotate_left; (focus (intro w'; go_simp; (try with_reducible rfl); done)); (try simp only [Act.put, List.setIfInBounds_toArray, List.set_cons_zero, List.set_cons_succ])) | (refine eff_rd ?_ (by rfl) (by rfl) ?_ ?_; rotate_left; (focus (intro w' hS; (try obtain ⟨hq1, hS⟩ := hS); (try obtain ⟨hq2, hS⟩ := hS); (try obtain ⟨hq3, hS⟩ := hS); (try obtain ⟨hq4, hS⟩ := hS); (try obtain ⟨hq5, hS⟩ := hS); (try obtain ⟨hq6, hS⟩ := hS); (try obtain ⟨hq7, hS⟩ := hS); (try obtain ⟨hq8, hS⟩ := hS); (try obtain ⟨hq9, hS⟩ := hS); (try obtain ⟨hq10, hS⟩ := hS); (try obtain ⟨hq11, hS⟩ := hS); (try obtain ⟨hq12, hS⟩ := hS); (try obtain ⟨hq13, hS⟩ := hS); (try obtain ⟨hq14, hS⟩ := hS); (try obtain ⟨hq15, hS⟩ := hS); (try obtain ⟨hq16, hS⟩ := hS); (try obtain ⟨hq17, hS⟩ := hS); (try obtain ⟨hq18, hS⟩ := hS); (try obtain ⟨hq19, hS⟩ := hS); (try dsimp only at hS); go_simp; (try with_reducible rfl); done)); (try simp only [Act.put, List.setIfInBounds_toArray, List.set_cons_zero, List.set_cons_succ])))
  refine eff_run (v := .slice (some ⟨w1.heap.size, 0, none⟩) 1 1) (W' := w1.drew.alloc (.cells #[.int .i64 L.length] 3)) (by rfl) (by rfl) (by go_simp) (fun _ => ST.out _ ((Fr.refl _ _).alloc _)) ?_
  (try simp only [Act.put, List.setIfInBounds_toArray, List.set_cons_zero, List.set_cons_succ])
  refine eff_do (by rfl) ?_
  refine ap_ints_at _ rfl _ _ rfl 0 (.slice p ((nearL L) l.a).length c) ((nearL L) l.a) rfl (OwnI.fr OW.out ((Fr.refl NoB _).alloc _) (fun _ _ h => h)) NoB _ [(L.length : Int)] rfl (rdI_lit' (l := [(L.length : Int)]) rfl rfl rfl (fun h => h)) ?_ (Nat.zero_le _) ?_
  · have := HKL.out
    simp only [List.length_singleton]
    omega
  intro v6 w6 ho6 hg6 hb6
  have F6 : Fr (fun b => (Value.slice p ((nearL L) l.a).length c).ownBlock = some b) w1.drew w6 := Fr.grown ((Fr.refl _ w1.drew).alloc _) hg6 (fun k hk _ => hk)
  refine wpList_nil ⟨rfl, fun _ => ST.out w6 F6, ?_⟩
  (try simp only [Act.put, List.setIfInBounds_toArray, List.set_cons_zero, List.set_cons_succ])
  obtain ⟨w2, e7, m7⟩ := UPD.out w6 v6 _ F6 ho6 (hb6.imp_right (fun h => ⟨_, h, by simp only [World.size_alloc]; omega⟩))
  have MD2 := hid m7
  clear OW ST UPD HKL m7 ho6 hg6 hb6 F6
  refine eff_skip (W' := w2) (by rfl) (by rfl) (by go_simp) (fun h => absurd rfl h) ?_
  (try simp only [Act.put, List.setIfInBounds_toArray, List.set_cons_zero, List.set_cons_succ])
  refine eff_nil ?_
  clear e7
  go_wp2
  obtain ⟨N1, hN1⟩ : ∃ N1 : Int → List Int, (fun k => if k = l.a then nearL L l.a ++ [(L.length : Int)] else nearL L k) = N1 := ⟨_, rfl⟩
  rw [hN1] at MD2
  have HB1 : Hid (N1 l.b = nearL L l.b) := by show _ = _; rw [← hN1]; exact if_neg (fun e => HNE.out e.symm)
  have HN1 := hid hN1
  clear hN1
  go_wp2
  have MD3 := hid (MD2.out.quiet (Fr.refl NoB w2).drew)
  obtain ⟨p2, c2, ow, st, upd⟩ := MD3.out.look HBU.out HM2.out l.b
  have OW := hid ow
  have ST := hid st
  have UPD := hid upd
  have S0 := ST.out w2.drew (Fr.refl _ _)
  have HKL : Hid (((N1) l.b).length ≤ L.length + 1) := by show _ ≤ _; rw [HB1.out]; exact Nat.le_succ_of_le (HNL.out _)
  clear ow st upd
  refine region_eff (MidS bf bn w.heap.size (.slice sp L.length sc) l l.b (.slice p2 ((N1) l.b).length c2)) 20 [(0, 1), (1, 1), (2, 1), (3, 0), (4, 1), (5, 0), (6, 1), (7, 1), (8, 1), (9, 0), (10, 1), (11, 0), (12, 0), (13, 1), (14, 1), (15, 1), (16, 0), (17, 1), (18, 2), (19, 2), (20, 2)] (by kernel_rfl) (by kernel_rfl) ?_ ?_
  · exact S0
  clear S0
  repeat (first | (refine eff_off (by rfl) (by rfl) ?_; (try simp only [Act.put, List.setIfInBounds_toArray, List.set_cons_zero, List.set_cons_succ])) | (refine eff_off0 (by rfl) (by rfl) ?_; (try simp only [Act.put, List.setIfInBounds_toArray, List.set_cons_zero, List.set_cons_succ])) | (refine eff_pu ?_ (by rfl) (by rfl) ?_ ?_; rotate_left; (focus (intro w'; go_simp; (try with_reducible rfl); done)); (try simp only [Act.put, List.setIfInBounds_toArray, List.set_cons_zero, List.set_cons_succ])) | (refine eff_rd ?_ (by rfl) (by rfl) ?_ ?_; rotate_left; (focus (intro w' hS; (try obtain ⟨hq1, hS⟩ := hS); (try obtain ⟨hq2, hS⟩ := hS); (try obtain ⟨hq3, hS⟩ := hS); (try obtain ⟨hq4, hS⟩ := hS); (try obtain ⟨hq5, hS⟩ := hS); (try obtain ⟨hq6, hS⟩ := hS); (try obtain ⟨hq7, hS⟩ := hS); (try obtain ⟨hq8, hS⟩ := hS); (try obtain ⟨hq9, hS⟩ := hS); (try obtain ⟨hq10, hS⟩ := hS); (try obtain ⟨hq11, hS⟩ := hS); (try obtain ⟨hq12, hS⟩ := hS); (try obtain ⟨hq13, hS⟩ := hS); (try obtain ⟨hq14, hS⟩ := hS); (try obtain ⟨hq15, hS⟩ := hS); (try obtain ⟨hq16, hS⟩ := hS); (try obtain ⟨hq17, hS⟩ := hS); (try obtain ⟨hq18, hS⟩ := hS); (try obtain ⟨hq19, hS⟩ := hS); (try dsimp only at hS); go_simp; (try with_reducible rfl); done)); (try simp only [Act.put, List.setIfInBounds_toArray, List.set_cons_zero, List.set_cons_succ])))
  refine eff_run (v := .slice (some ⟨w2.heap.size, 0, none⟩) 1 1) (W' := w2.drew.alloc (.cells #[.int .i64 L.length] 3)) (by rfl) (by rfl) (by go_simp) (fun _ => ST.out _ ((Fr.refl _ _).alloc _)) ?_
  (try simp only [Act.put, List.setIfInBounds_toArray, List.set_cons_zero, List.set_cons_succ])
  refine eff_do (by rfl) ?_
  refine ap_ints_at _ rfl _ _ rfl 0 (.slice p2 ((N1) l.b).length c2) ((N1) l.b) rfl (OwnI.fr OW.out ((Fr.refl NoB _).alloc _) (fun _ _ h => h)) NoB _ [(L.length : Int)] rfl (rdI_lit' (l := [(L.length : Int)]) rfl rfl rfl (fun h => h)) ?_ (Nat.zero_le _) ?_
  · have := HKL.out
    simp only [List.length_singleton]
    omega
  intro v6 w6 ho6 hg6 hb6
  have F6 : Fr (fun b => (Value.slice p2 ((N1) l.b).length c2).ownBlock = some b) w2.drew w6 := Fr.grown ((Fr.refl _ w2.drew).alloc _) hg6 (fun k hk _ => hk)
  refine wpList_nil ⟨rfl, fun _ => ST.out w6 F6, ?_⟩
  (try simp only [Act.put, List.setIfInBounds_toArray, List.set_cons_zero, List.set_cons_succ])
  obtain ⟨w3, e7, m7⟩ := UPD.out w6 v6 _ F6 ho6 (hb6.imp_right (fun h => ⟨_, h, by simp only [World.size_alloc]; omega⟩))
  have MD4 := hid m7
  clear OW ST UPD HKL m7 ho6 hg6 hb6 F6
  refine eff_skip (W' := w3) (by rfl) (by rfl) (by go_simp) (fun h => absurd rfl h) ?_
  (try simp only [Act.put, List.setIfInBounds_toArray, List.set_cons_zero, List.set_cons_succ])
  refine eff_nil ?_
  clear e7
  have HNF : Hid ((fun k => if k = l.b then N1 l.b ++ [(L.length : Int)] else N1 k) = nearL (L ++ [l])) := by
    show _ = _
    funext k
    rw [nearL_app, ← HN1.out]
    by_cases e : k = l.b
    · subst e
      rw [if_pos rfl, if_pos (.inr rfl)]
      simp only [if_neg (show ¬ l.b = l.a from fun e => HNE.out e.symm)]
    · rw [if_neg e]
      by_cases e2 : k = l.a
      · subst e2; simp
      · rw [if_neg (show ¬ (l.a = k ∨ l.b = k) from fun h => h.elim (fun h => e2 h.symm) (fun h => e h.symm))]
        simp only [if_neg e2]
  rw [HNF.out] at MD4
  clear HN1 HB1 MD2 MD MD1 MD3
  go_wp2
  -- the row of the links
  have MD5 := hid (MD4.out.quiet (Fr.refl NoB w3).drew)
  have HS : Hid (∀ W', Fr (fun b => (Value.slice sp L.length sc).ownBlock = some b) w3.drew W' → W'.cell? ⟨bf, 1, none⟩ = some (.slice sp L.length sc) ∧ W'.cell? ⟨w.heap.size, 0, none⟩ = some (.int .i64 l.a) ∧ W'.cell? ⟨w.heap.size, 1, none⟩ = some (.int .i64 l.b) ∧ W'.cell? ⟨w.heap.size, 2, none⟩ = some (.int .i64 l.why) ∧ FHead W' bf bn bu (.slice sp L.length sc)) := fun W' hf => by
    have d1 : ¬ (Value.slice sp L.length sc).ownBlock = some bf := fun e => by
      obtain ⟨cur, hc⟩ := OwnE.head MD5.out.own e
      exact ne_of_types hc MD5.out.head (by decide) rfl
    have d2 : ¬ (Value.slice sp L.length sc).ownBlock = some w.heap.size := fun e => by
      have := HLT.out _ (HSM.out _ e)
      omega
    have hh := MD5.out.head.fr hf d1
    obtain ⟨e0, e1, e2, _⟩ := three_of (hf.at d2 MD5.out.box)
    exact ⟨hh.cells.2.1, e0, e1, e2, hh⟩
  obtain ⟨s1, s2, s3, s4, s5⟩ := HS.out w3.drew (Fr.refl _ _)
  refine region_eff (fun w' => w'.cell? ⟨bf, 1, none⟩ = some (.slice sp L.length sc) ∧ w'.cell? ⟨w.heap.size, 0, none⟩ = some (.int .i64 l.a) ∧ w'.cell? ⟨w.heap.size, 1, none⟩ = some (.int .i64 l.b) ∧ w'.cell? ⟨w.heap.size, 2, none⟩ = some (.int .i64 l.why)) 10 [(0, 1), (1, 1), (2, 1), (3, 1), (4, 0), (5, 0), (6, 2), (7, 2), (8, 1), (9, 1), (10, 2)] (by kernel_rfl) (by kernel_rfl) ?_ ?_
  · exact ⟨s1, s2, s3, s4⟩
  clear s1 s2 s3 s4 s5
  repeat (first | (refine eff_off (by rfl) (by rfl) ?_; (try simp only [Act.put, List.setIfInBounds_toArray, List.set_cons_zero, List.set_cons_succ])) | (refine eff_off0 (by rfl) (by rfl) ?_; (try simp only [Act.put, List.setIfInBounds_toArray, List.set_cons_zero, List.set_cons_succ])) | (refine eff_pu ?_ (by rfl) (by rfl) ?_ ?_; rotate_left; (focus (intro w'; go_simp; (try with_reducible rfl); done)); (try simp only [Act.put, List.setIfInBounds_toArray, List.set_cons_zero, List.set_cons_succ])) | (refine eff_rd ?_ (by rfl) (by rfl) ?_ ?_; rotate_left; (focus (intro w' hS; (try obtain ⟨hq1, hS⟩ := hS); (try obtain ⟨hq2, hS⟩ := hS); (try obtain ⟨hq3, hS⟩ := hS); (try obtain ⟨hq4, hS⟩ := hS); (try obtain ⟨hq5, hS⟩ := hS); (try obtain ⟨hq6, hS⟩ := hS); (try obtain ⟨hq7, hS⟩ := hS); (try obtain ⟨hq8, hS⟩ := hS); (try obtain ⟨hq9, hS⟩ := hS); (try obtain ⟨hq10, hS⟩ := hS); (try obtain ⟨hq11, hS⟩ := hS); (try obtain ⟨hq12, hS⟩ := hS); (try obtain ⟨hq13, hS⟩ := hS); (try obtain ⟨hq14, hS⟩ := hS); (try obtain ⟨hq15, hS⟩ := hS); (try obtain ⟨hq16, hS⟩ := hS); (try obtain ⟨hq17, hS⟩ := hS); (try obtain ⟨hq18, hS⟩ := hS); (try obtain ⟨hq19, hS⟩ := hS); (try dsimp only at hS); go_simp; (try with_reducible rfl); done)); (try simp only [Act.put, List.setIfInBounds_toArray, List.set_cons_zero, List.set_cons_succ])))
  refine eff_run (v := .slice (some ⟨w3.heap.size, 0, none⟩) 1 1) (W' := w3.drew.alloc (.cells #[.int .i64 l.a, .int .i64 l.b, .int .i64 l.why] 57)) (by rfl) (by rfl) (by go_simp) (fun _ => (HS.out _ ((Fr.refl _ _).alloc _)).imp_right (fun h => ⟨h.1, h.2.1, h.2.2.1⟩)) ?_
  (try simp only [Act.put, List.setIfInBounds_toArray, List.set_cons_zero, List.set_cons_succ])
  refine eff_do (by rfl) ?_
  refine ap_lnk _ rfl _ _ rfl (.slice sp L.length sc) L rfl (OwnE.step MD5.out.own ((Fr.refl NoB _).alloc _)) _ [l] rfl (rdL_lit l rfl) ?_ ?_
  · simp only [List.length_singleton]; omega
  intro p6 q6 w6 ho6 hg6 hb6
  have f6 : Fr (fun b => (Value.slice sp L.length sc).ownBlock = some b) w3.drew w6 := Fr.grown ((Fr.refl _ w3.drew).alloc _) hg6 (fun k hk _ => hk)
  obtain ⟨s1, s2, s3, s4, s5⟩ := HS.out w6 f6
  obtain ⟨_, _, _, _, cf, _⟩ := s5.cells
  have HS5 := hid s5
  have F6 := hid f6
  have O6 := hid ho6
  have B6 := hid hb6
  refine wpList_nil ⟨rfl, fun _ => ⟨s1, s2, s3, s4⟩, ?_⟩
  (try simp only [Act.put, List.setIfInBounds_toArray, List.set_cons_zero, List.set_cons_succ])
  clear s2 s3 s4 s5 hg6 f6 ho6 hb6
  repeat (first | (refine eff_off (by rfl) (by rfl) ?_; (try simp only [Act.put, List.setIfInBounds_toArray, List.set_cons_zero, List.set_cons_succ])) | (refine eff_off0 (by rfl) (by rfl) ?_; (try simp only [Act.put, List.setIfInBounds_toArray, List.set_cons_zero, List.set_cons_succ])) | (refine eff_pu ?_ (by rfl) (by rfl) ?_ ?_; rotate_left; (focus (intro w'; go_simp; (try with_reducible rfl); done)); (try simp only [Act.put, List.setIfInBounds_toArray, List.set_cons_zero, List.set_cons_succ])) | (refine eff_rd ?_ (by rfl) (by rfl) ?_ ?_; rotate_left; (focus (intro w' hS; (try obtain ⟨hq1, hS⟩ := hS); (try obtain ⟨hq2, hS⟩ := hS); (try obtain ⟨hq3, hS⟩ := hS); (try obtain ⟨hq4, hS⟩ := hS); (try obtain ⟨hq5, hS⟩ := hS); (try obtain ⟨hq6, hS⟩ := hS); (try obtain ⟨hq7, hS⟩ := hS); (try obtain ⟨hq8, hS⟩ := hS); (try obtain ⟨hq9, hS⟩ := hS); (try obtain ⟨hq10, hS⟩ := hS); (try obtain ⟨hq11, hS⟩ := hS); (try obtain ⟨hq12, hS⟩ := hS); (try obtain ⟨hq13, hS⟩ := hS); (try obtain ⟨hq14, hS⟩ := hS); (try obtain ⟨hq15, hS⟩ := hS); (try obtain ⟨hq16, hS⟩ := hS); (try obtain ⟨hq17, hS⟩ := hS); (try obtain ⟨hq18, hS⟩ := hS); (try obtain ⟨hq19, hS⟩ := hS); (try dsimp only at hS); go_simp; (try with_reducible rfl); done)); (try simp only [Act.put, List.setIfInBounds_toArray, List.set_cons_zero, List.set_cons_succ])))
  refine eff_skip (W' := w6.setCell ⟨bf, 1, none⟩ (.slice p6 (L ++ [l]).length q6)) (by rfl) (by rfl) (by go_simp) (fun h => absurd rfl h) ?_
  (try simp only [Act.put, List.setIfInBounds_toArray, List.set_cons_zero, List.set_cons_succ])
  refine eff_nil ?_
  clear s1 cf
  obtain ⟨w7, hw7⟩ : ∃ w7, w6.setCell ⟨bf, 1, none⟩ (.slice p6 (L ++ [l]).length q6) = w7 := ⟨_, rfl⟩
  rw [hw7]
  have HH7 : Hid (FHead w7 bf bn bu (.slice p6 (L ++ [l]).length q6)) := by
    show FHead _ _ _ _ _
    rw [← hw7]; exact set_at HS5.out 1 _
  have F7 : Hid (Fr (fun k => k = bf) w6 w7) := by
    show Fr _ _ _
    rw [← hw7]; exact (Fr.refl (fun k => k = bf) w6).setCell (p := ⟨bf, 1, none⟩) (fun _ => rfl) _
  clear hw7
  have MD7 : Hid (Mid M w w7 bf bn bu (.slice p6 (L ++ [l]).length q6) (L ++ [l]) (nearL (L ++ [l])) g w.heap.size l) := by
    have h5 := MD5.out
    have dr : ∀ b, (Value.slice sp L.length sc).ownBlock = some b → ∃ cur, w3.drew.heap[b]? = some (.cells cur 57 (0, 0)) := fun b e => OwnE.head h5.own e
    have dbn : ¬ (Value.slice sp L.length sc).ownBlock = some bn := fun e => by
      obtain ⟨cur, hc⟩ := dr _ e
      exact h5.near.ne_cells hc rfl
    have dbu : ¬ (Value.slice sp L.length sc).ownBlock = some bu := fun e => by
      obtain ⟨cur, hc⟩ := dr _ e
      exact h5.up.ne_cells hc rfl
    have n6 : NearIs (fun k => M k ∨ w.heap.size ≤ k) w6 bn (nearL (L ++ [l])) := by
      obtain ⟨m, h1, h2, h3, h4⟩ := h5.near
      refine ⟨m, h1.fr F6.out dbn, h2, fun k v hk => ⟨(h3 k v hk).1.fr F6.out (fun b hb e => ?_), (h3 k v hk).2⟩, h4⟩
      obtain ⟨cur, hc⟩ := dr _ e
      obtain ⟨cur', hc'⟩ := (h3 k v hk).1.head hb
      exact ne_of_types hc hc' (by decide) rfl
    have u6 := h5.up.fr F6.out dbu
    have n7 : NearIs (fun k => M k ∨ w.heap.size ≤ k) w7 bn (nearL (L ++ [l])) := by
      obtain ⟨m, h1, h2, h3, h4⟩ := n6
      refine ⟨m, h1.fr F7.out (fun e => h1.ne_cells HS5.out e.symm), h2, fun k v hk => ⟨(h3 k v hk).1.fr F7.out (fun b hb e => ?_), (h3 k v hk).2⟩, h4⟩
      obtain ⟨cur', hc'⟩ := (h3 k v hk).1.head hb
      exact ne_of_types hc' HS5.out (by decide) e
    refine ⟨HH7.out, OwnE.fr O6.out F7.out (fun b hb e => ?_), n7, u6.fr F7.out (fun e => u6.ne_cells HS5.out e.symm), F7.out.at (fun e => ?_) (F6.out.at (fun e => ?_) h5.box), ?_⟩
    · obtain ⟨cur', hc'⟩ := OwnE.head O6.out hb
      exact ne_of_types hc' HS5.out (by decide) e
    · have := HLT.out _ HM1.out
      omega
    · have := HLT.out _ (HSM.out _ e)
      omega
    · exact (h5.fr.trans' F6.out (fun k hk e9 => HSM.out k e9)).trans' F7.out (fun k _ e9 => by rw [show k = bf from e9]; exact HM1.out)
  have HZ : Hid (w.heap.size ≤ w3.drew.heap.size) := MD5.out.fr.size
  clear MD5 MD4 HS HS5 F6 F7 HH7
  go_wp2
  have MD8 := hid (MD7.out.quiet (Fr.refl NoB w7).drew)
  have HUB : Hid (bu ≠ bf) := fun e => MD8.out.up.ne_cells MD8.out.head e.symm
  have HUQ : Hid (bu ≠ w.heap.size) := fun e => MD8.out.up.ne_cells MD8.out.box e.symm
  have HS : Hid (∀ W', Fr (fun k => k = bu) w7.drew W' → W'.cell? ⟨bf, 3, none⟩ = some (.map (some bu)) ∧ W'.cell? ⟨w.heap.size, 0, none⟩ = some (.int .i64 l.a) ∧ W'.cell? ⟨w.heap.size, 1, none⟩ = some (.int .i64 l.b)) := fun W' hf => by
    obtain ⟨_, _, _, c3, _⟩ := (MD8.out.head.fr hf (fun e => HUB.out e.symm)).cells
    obtain ⟨e0, e1, _⟩ := three_of (hf.at (fun e => HUQ.out e.symm) MD8.out.box)
    exact ⟨c3, e0, e1⟩
  have S0 := HS.out w7.drew (Fr.refl _ _)
  refine region_eff (fun w' => w'.cell? ⟨bf, 3, none⟩ = some (.map (some bu)) ∧ w'.cell? ⟨w.heap.size, 0, none⟩ = some (.int .i64 l.a) ∧ w'.cell? ⟨w.heap.size, 1, none⟩ = some (.int .i64 l.b)) 12 [(0, 1), (1, 1), (2, 1), (3, 0), (4, 1), (5, 1), (6, 0), (8, 1), (9, 1), (10, 0), (7, 2), (11, 2), (12, 2)] (by kernel_rfl) (by kernel_rfl) ?_ ?_
  · exact S0
  clear S0
  repeat (first | (refine eff_off (by rfl) (by rfl) ?_; (try simp only [Act.put, List.setIfInBounds_toArray, List.set_cons_zero, List.set_cons_succ])) | (refine eff_off0 (by rfl) (by rfl) ?_; (try simp only [Act.put, List.setIfInBounds_toArray, List.set_cons_zero, List.set_cons_succ])) | (refine eff_pu ?_ (by rfl) (by rfl) ?_ ?_; rotate_left; (focus (intro w'; go_simp; (try with_reducible rfl); done)); (try simp only [Act.put, List.setIfInBounds_toArray, List.set_cons_zero, List.set_cons_succ])) | (refine eff_rd ?_ (by rfl) (by rfl) ?_ ?_; rotate_left; (focus (intro w' hS; (try obtain ⟨hq1, hS⟩ := hS); (try obtain ⟨hq2, hS⟩ := hS); (try obtain ⟨hq3, hS⟩ := hS); (try obtain ⟨hq4, hS⟩ := hS); (try obtain ⟨hq5, hS⟩ := hS); (try obtain ⟨hq6, hS⟩ := hS); (try obtain ⟨hq7, hS⟩ := hS); (try obtain ⟨hq8, hS⟩ := hS); (try obtain ⟨hq9, hS⟩ := hS); (try obtain ⟨hq10, hS⟩ := hS); (try obtain ⟨hq11, hS⟩ := hS); (try obtain ⟨hq12, hS⟩ := hS); (try obtain ⟨hq13, hS⟩ := hS); (try obtain ⟨hq14, hS⟩ := hS); (try obtain ⟨hq15, hS⟩ := hS); (try obtain ⟨hq16, hS⟩ := hS); (try obtain ⟨hq17, hS⟩ := hS); (try obtain ⟨hq18, hS⟩ := hS); (try obtain ⟨hq19, hS⟩ := hS); (try dsimp only at hS); go_simp; (try with_reducible rfl); done)); (try simp only [Act.put, List.setIfInBounds_toArray, List.set_cons_zero, List.set_cons_succ])))
  refine eff_call 80 #[.pointer (some ⟨bf, 0, none⟩), .int .i64 l.a] (by rfl) (by rfl) (by intro w'; go_simp) ?_
  refine (ffind_any _ bf bn bu _ g r rk l.a MD8.out.head MD8.out.up HO.out HUB.out).mono ?_
  rintro e w8 ⟨rfl, ⟨g2, hu2, ho2⟩, hf8⟩
  have F8 := hid hf8
  have HU2 := hid hu2
  have HO2 := hid ho2
  refine ⟨_, rfl, fun _ => HS.out w8 hf8, ?_⟩
  clear hf8 hu2 ho2
  (try simp only [Act.put, List.setIfInBounds_toArray, List.set_cons_zero, List.set_cons_succ])
  repeat (first | (refine eff_off (by rfl) (by rfl) ?_; (try simp only [Act.put, List.setIfInBounds_toArray, List.set_cons_zero, List.set_cons_succ])) | (refine eff_off0 (by rfl) (by rfl) ?_; (try simp only [Act.put, List.setIfInBounds_toArray, List.set_cons_zero, List.set_cons_succ])) | (refine eff_pu ?_ (by rfl) (by rfl) ?_ ?_; rotate_left; (focus (intro w'; go_simp; (try with_reducible rfl); done)); (try simp only [Act.put, List.setIfInBounds_toArray, List.set_cons_zero, List.set_cons_succ])) | (refine eff_rd ?_ (by rfl) (by rfl) ?_ ?_; rotate_left; (focus (intro w' hS; (try obtain ⟨hq1, hS⟩ := hS); (try obtain ⟨hq2, hS⟩ := hS); (try obtain ⟨hq3, hS⟩ := hS); (try obtain ⟨hq4, hS⟩ := hS); (try obtain ⟨hq5, hS⟩ := hS); (try obtain ⟨hq6, hS⟩ := hS); (try obtain ⟨hq7, hS⟩ := hS); (try obtain ⟨hq8, hS⟩ := hS); (try obtain ⟨hq9, hS⟩ := hS); (try obtain ⟨hq10, hS⟩ := hS); (try obtain ⟨hq11, hS⟩ := hS); (try obtain ⟨hq12, hS⟩ := hS); (try obtain ⟨hq13, hS⟩ := hS); (try obtain ⟨hq14, hS⟩ := hS); (try obtain ⟨hq15, hS⟩ := hS); (try obtain ⟨hq16, hS⟩ := hS); (try obtain ⟨hq17, hS⟩ := hS); (try obtain ⟨hq18, hS⟩ := hS); (try obtain ⟨hq19, hS⟩ := hS); (try dsimp only at hS); go_simp; (try with_reducible rfl); done)); (try simp only [Act.put, List.setIfInBounds_toArray, List.set_cons_zero, List.set_cons_succ])))
  refine eff_call 80 #[.pointer (some ⟨bf, 0, none⟩), .int .i64 l.b] (by rfl) (by rfl) (by intro w'; go_simp) ?_
  refine (ffind_any _ bf bn bu _ g2 r rk l.b (MD8.out.head.fr F8.out (fun e => HUB.out e.symm)) HU2.out HO2.out HUB.out).mono ?_
  rintro e w9 ⟨rfl, ⟨g3, hu3, ho3⟩, hf9⟩
  have F9 := hid (F8.out.trans hf9)
  have HU3 := hid hu3
  have HO3 := hid ho3
  refine ⟨_, rfl, fun _ => HS.out w9 F9.out, ?_⟩
  clear hf9 hu3 ho3
  (try simp only [Act.put, List.setIfInBounds_toArray, List.set_cons_zero, List.set_cons_succ])
  repeat (first | (refine eff_off (by rfl) (by rfl) ?_; (try simp only [Act.put, List.setIfInBounds_toArray, List.set_cons_zero, List.set_cons_succ])) | (refine eff_off0 (by rfl) (by rfl) ?_; (try simp only [Act.put, List.setIfInBounds_toArray, List.set_cons_zero, List.set_cons_succ])) | (refine eff_pu ?_ (by rfl) (by rfl) ?_ ?_; rotate_left; (focus (intro w'; go_simp; (try with_reducible rfl); done)); (try simp only [Act.put, List.setIfInBounds_toArray, List.set_cons_zero, List.set_cons_succ])) | (refine eff_rd ?_ (by rfl) (by rfl) ?_ ?_; rotate_left; (focus (intro w' hS; (try obtain ⟨hq1, hS⟩ := hS); (try obtain ⟨hq2, hS⟩ := hS); (try obtain ⟨hq3, hS⟩ := hS); (try obtain ⟨hq4, hS⟩ := hS); (try obtain ⟨hq5, hS⟩ := hS); (try obtain ⟨hq6, hS⟩ := hS); (try obtain ⟨hq7, hS⟩ := hS); (try obtain ⟨hq8, hS⟩ := hS); (try obtain ⟨hq9, hS⟩ := hS); (try obtain ⟨hq10, hS⟩ := hS); (try obtain ⟨hq11, hS⟩ := hS); (try obtain ⟨hq12, hS⟩ := hS); (try obtain ⟨hq13, hS⟩ := hS); (try obtain ⟨hq14, hS⟩ := hS); (try obtain ⟨hq15, hS⟩ := hS); (try obtain ⟨hq16, hS⟩ := hS); (try obtain ⟨hq17, hS⟩ := hS); (try obtain ⟨hq18, hS⟩ := hS); (try obtain ⟨hq19, hS⟩ := hS); (try dsimp only at hS); go_simp; (try with_reducible rfl); done)); (try simp only [Act.put, List.setIfInBounds_toArray, List.set_cons_zero, List.set_cons_succ])))
  obtain ⟨w10, e1, e2, e3⟩ := HU3.out.put (r l.a) (r l.b)
  have F10 := hid (F9.out.trans e3)
  have HU4 := hid e2
  refine eff_skip (W' := w10) (by rfl) (by rfl) (by go_simp) (fun h => absurd rfl h) ?_
  (try simp only [Act.put, List.setIfInBounds_toArray, List.set_cons_zero, List.set_cons_succ])
  refine eff_nil ?_
  clear e1 e2 e3
  go_wp2
  go_end0
  have h8 := MD8.out
  have hh10 := h8.head.fr F10.out (fun e => HUB.out e.symm)
  have hsz : w.heap.size ≤ w10.heap.size := Nat.le_trans h8.fr.size F10.out.size
  have ho10 : OwnL w10 (.slice p6 (L ++ [l]).length q6) (L ++ [l]) := OwnE.fr h8.own F10.out (fun b hb e => by
    obtain ⟨cur, hc⟩ := OwnE.head h8.own hb
    exact h8.up.ne_cells hc e)
  have hn10 : NearIs (fun k => M k ∨ w.heap.size ≤ k) w10 bn (nearL (L ++ [l])) := by
    obtain ⟨m, h1, h2, h3, h4⟩ := h8.near
    refine ⟨m, h1.fr F10.out (fun e => HBU.out e.symm), h2, fun k v hk => ⟨(h3 k v hk).1.fr F10.out (fun b hb e => ?_), (h3 k v hk).2⟩, h4⟩
    obtain ⟨cur', hc'⟩ := (h3 k v hk).1.head hb
    exact h8.up.ne_cells hc' e
  refine ⟨rfl, ⟨fun k => M k ∨ (w.heap.size ≤ k ∧ k < w10.heap.size), ⟨⟨bn, bu, _, _, _, hh10, ho10, fun b hb => ?_, hn10.mono (fun k hk h => h.imp_right (fun h => ⟨h, hk⟩)), HU4.out, HO3.out.join (r l.a) (r l.b) (HO3.out.idem _) (HO3.out.idem _) HAB.out, HBU.out, .inl HM1.out, .inl HM2.out, .inl HM3.out⟩, fun k hk => ?_⟩, fun k hk => hk.imp_right (·.1)⟩, h8.fr.trans' F10.out (fun k _ e => by rw [show k = bu from e]; exact HM3.out)⟩
  · have h9 := World.ownsRow.lt ho10 b hb
    rcases B6.out with h6 | h6
    · rw [h6] at hb; exact .inl (HSM.out b hb)
    · rw [h6] at hb
      cases hb
      refine .inr ⟨?_, h9.2⟩
      have := HZ.out
      simp only [World.size_alloc]
      omega
  · rcases hk with hk | hk
    · exact Nat.lt_of_lt_of_le (HLT.out k hk) hsz
    · exact hk.2

end Go.Proofs.YtndfncaoejbkiaaGreatDoor
end
section
/- The walks of forest.New, Link, Same. -/
namespace Go.Proofs.YtndfncaoejbkiaaGreatDoor
open Go.RowKit
set_option maxRecDepth 100000

theorem ForAt.fr {M N : Nat → Prop} {w w' : World} {bf : Nat} {L : List Lnk} {r : Int → Int} (h : ForAt M w bf L r) (hf : Fr N w w') (hd : ∀ k, M k → ¬ N k) : ForAt M w' bf L r := by
  obtain ⟨⟨bn, bu, sl, g, rk, h1, h2, h3, h4, h5, h6, h7, m1, m2, m3⟩, hlt⟩ := h
  exact ⟨⟨bn, bu, sl, g, rk, h1.fr hf (hd _ m1), h2.fr hf (fun b hb => hd b (h3 b hb)), h3, h4.fr hf (hd _ m2) hd, h5.fr hf (hd _ m3), h6, h7, m1, m2, m3⟩, fun k hk => Nat.lt_of_lt_of_le (hlt k hk) hf.size⟩
theorem ForAt.step {M : Nat → Prop} {w w' : World} {bf : Nat} {L : List Lnk} {r : Int → Int} (h : ForAt M w bf L r) (hf : Fr NoB w w') : ForAt M w' bf L r := h.fr hf (fun _ _ h => h)
theorem ForAt.idem {M : Nat → Prop} {w : World} {bf : Nat} {L : List Lnk} {r : Int → Int} (h : ForAt M w bf L r) (x : Int) : r (r x) = r x := by
  obtain ⟨bn, bu, sl, g, rk, _, _, _, _, _, h6, _⟩ := h.ex
  exact h6.idem x

/-- find on the whole. -/
theorem ffind_at (M : Nat → Prop) (w : World) (bf : Nat) (L : List Lnk) (r : Int → Int) (x : Int) (h : ForAt M w bf L r) :
    Calls Tryz.prog 80 #[.pointer (some ⟨bf, 0, none⟩), .int .i64 x] w fun e w' => e = .returned (.int .i64 (r x)) ∧ ForAt M w' bf L r ∧ Fr M w w' := by
  obtain ⟨⟨bn, bu, sl, g, rk, h1, h2, h3, h4, h5, h6, h7, m1, m2, m3⟩, hlt⟩ := h
  have hub : bu ≠ bf := fun e => h5.ne_cells h1 e.symm
  refine (ffind_any w bf bn bu sl g r rk x h1 h5 h6 hub).mono ?_
  rintro e w' ⟨rfl, ⟨g', hu', ho'⟩, hf⟩
  refine ⟨rfl, ⟨⟨bn, bu, sl, g', rk, h1.fr hf (fun e => hub e.symm), h2.fr hf (fun b hb e => ?_), h3, ?_, hu', ho', h7, m1, m2, m3⟩, fun k hk => Nat.lt_of_lt_of_le (hlt k hk) hf.size⟩, hf.mono (fun k _ e => by rw [show k = bu from e]; exact m3)⟩
  · obtain ⟨cur, hc⟩ := OwnE.head h2 hb
    exact h5.ne_cells hc e
  · obtain ⟨m, a1, a2, a3, a4⟩ := h4
    refine ⟨m, a1.fr hf (fun e => h7 e.symm), a2, fun k v hk => ⟨(a3 k v hk).1.fr hf (fun b hb e => ?_), (a3 k v hk).2⟩, a4⟩
    obtain ⟨cur', hc'⟩ := (a3 k v hk).1.head hb
    exact h5.ne_cells hc' e

theorem fnew_any (w : World) : Calls Tryz.prog 75 #[] w fun e w' => ∃ bf M, e = .returned (.pointer (some ⟨bf, 0, none⟩)) ∧ ForAt M w' bf [] (fun x => x) ∧ (∀ k, M k → w.heap.size ≤ k) ∧ Fr NoB w w' := by
  have hmm := @run_makeMap Tryz.prog
  go_enter Tryz.func75, Tryz.ntmps75
  go_wp2
  go_ret
  refine ⟨w.heap.size + 2, fun k => w.heap.size ≤ k ∧ k < w.heap.size + 3, rfl, ⟨⟨w.heap.size, w.heap.size + 1, _, fun _ => none, fun _ => 0, at_new' (by simp), OwnE.nil _ _ _ _ _, fun b hb => (by cases hb), ?_, ?_, ⟨fun _ _ => rfl, fun _ _ h => (by cases h)⟩, by omega, by omega, by omega, by omega⟩, fun k hk => by simp only [World.size_alloc]; omega⟩, fun k hk => hk.1, (((Fr.refl NoB w).alloc _).alloc _).alloc _⟩
  · refine ⟨[], (MapIs.new (.int .i64) (Value.int .i64) w).fr (((Fr.refl NoB _).alloc _).alloc _) (fun h => h), fun k _ => rfl, fun k v h => (by cases h), fun k k' v v' _ h => (by cases h)⟩
  · have h := MapIs.new (.int .i64) (Value.int .i64) (w.alloc (.map #[] 0))
    rw [World.size_alloc] at h
    exact ⟨[], h.fr ((Fr.refl NoB _).alloc _) (fun h => h), fun k => rfl⟩

theorem eqPtrF (w : World) (r : Option Addr) : (binOp .eql 84 (.pointer r) (.pointer none)).run Tryz.prog w = .ok (.bool r.isNone) w := by
  cases r <;> kernel_rfl
theorem neqPtrF (w : World) (r : Option Addr) : (binOp .neq 84 (.pointer r) (.pointer none)).run Tryz.prog w = .ok (.bool (!r.isNone)) w := by
  cases r <;> kernel_rfl

set_option maxHeartbeats 4000000 in
theorem fsame_any (M : Nat → Prop) (w : World) (bf : Nat) (L : List Lnk) (r : Int → Int) (x y : Int) (h : ForAt M w bf L r) :
    Calls Tryz.prog 102 #[.pointer (some ⟨bf, 0, none⟩), .int .i64 x, .int .i64 y] w fun e w' => e = .returned (.bool (decide (0 ≤ x ∧ 0 ≤ y ∧ r x = r y))) ∧ ForAt M w' bf L r ∧ Fr M w w' := by
  have H := hid h
  obtain ⟨bn, bu, sl, g, rk, h1, _⟩ := h.ex
  obtain ⟨c0, _, _, _, cf, cl⟩ := h1.cells
  have ep := eqPtrF
  have np := neqPtrF
  clear h h1 cf cl
  go_enter Tryz.func102, Tryz.ntmps102
  by_cases hx : 0 ≤ x
  · by_cases hy : 0 ≤ y
    · go_wp2_with fail
      refine (ffind_at M _ bf L r x H.out).mono ?_
      rintro e w1 ⟨rfl, h1, f1⟩
      have H1 := hid h1
      have F1 := hid f1
      clear h1 f1
      go_wp2_with fail
      refine (ffind_at M _ bf L r y H1.out).mono ?_
      rintro e w2 ⟨rfl, h2, f2⟩
      have H2 := hid h2
      have F2 := hid (F1.out.trans f2)
      clear h2 f2
      go_wp2
      go_ret
      exact ⟨ret_bool (by rw [show decide (0 ≤ x ∧ 0 ≤ y ∧ r x = r y) = decide (r x = r y) by simp [hx, hy]]; rfl), H2.out, F2.out⟩
    · go_wp2
      go_ret
      exact ⟨ret_bool (by simp; omega), H.out, Fr.refl _ _⟩
  · go_wp2
    go_ret
    exact ⟨ret_bool (by simp; omega), H.out, Fr.refl _ _⟩

def LinkPost (M : Nat → Prop) (w : World) (bf : Nat) (L : List Lnk) (r : Int → Int) (x y why : Int) (e : Ending) (w' : World) : Prop :=
  e = .returned (.bool (decide (0 ≤ x ∧ 0 ≤ y ∧ r x ≠ r y))) ∧
      (∃ M', ForAt M' w' bf (if 0 ≤ x ∧ 0 ≤ y ∧ r x ≠ r y then L ++ [⟨x, y, why⟩] else L) (if 0 ≤ x ∧ 0 ≤ y ∧ r x ≠ r y then (fun k => if r k = r x then r y else r k) else r) ∧ ∀ k, M' k → M k ∨ w.heap.size ≤ k) ∧ Fr M w w'
set_option maxHeartbeats 4000000 in
theorem flink_any (M : Nat → Prop) (w : World) (bf : Nat) (L : List Lnk) (r : Int → Int) (x y why : Int) (h : ForAt M w bf L r) (hL : L.length ≤ 1000000) :
    Calls Tryz.prog 61 #[.pointer (some ⟨bf, 0, none⟩), .int .i64 x, .int .i64 y, .int .i64 why] w (LinkPost M w bf L r x y why) := by
  have H := hid h
  obtain ⟨bn, bu, sl, g, rk, h1, _⟩ := h.ex
  obtain ⟨c0, _, _, _, cf, cl⟩ := h1.cells
  have ep := eqPtrF
  have np := neqPtrF
  clear h h1 cf cl
  go_enter Tryz.func61, Tryz.ntmps61
  by_cases hx : 0 ≤ x
  · by_cases hy : 0 ≤ y
    · go_wp2_with fail
      refine (ffind_at M _ bf L r x H.out).mono ?_
      rintro e w1 ⟨rfl, h1, f1⟩
      have H1 := hid h1
      have F1 := hid f1
      clear h1 f1
      go_wp2_with fail
      refine (ffind_at M _ bf L r y H1.out).mono ?_
      rintro e w2 ⟨rfl, h2, f2⟩
      have H2 := hid h2
      have F2 := hid (F1.out.trans f2)
      clear h2 f2
      by_cases hr : r x = r y
      · have hq : (r x == r y) = true := by simpa using hr
        have HR := hid hr
        clear hr
        go_wp2
        go_ret
        have hn : ¬ (0 ≤ x ∧ 0 ≤ y ∧ r x ≠ r y) := fun h => h.2.2 HR.out
        unfold LinkPost
        rw [if_neg hn, if_neg hn]
        exact ⟨ret_bool (by simp [hn]), ⟨M, H2.out, fun k hk => .inl hk⟩, F2.out⟩
      · have hq : (r x == r y) = false := by simpa using hr
        have HR := hid hr
        clear hr
        go_wp2_with fail
        refine (fadd_any M _ bf L r ⟨x, y, why⟩ H2.out hL HR.out (fun e => HR.out (by rw [show x = y from e]))).mono ?_
        rintro e w3 ⟨rfl, ⟨M', h3, hM⟩, f3⟩
        have H3 := hid h3
        have HM := hid hM
        have F3 := hid (F2.out.trans f3)
        clear h3 hM f3
        go_wp2
        go_ret
        have hn : 0 ≤ x ∧ 0 ≤ y ∧ r x ≠ r y := ⟨hx, hy, HR.out⟩
        unfold LinkPost
        rw [if_pos hn, if_pos hn]
        exact ⟨ret_bool (by simp [hn]), ⟨M', H3.out, fun k hk => (HM.out k hk).imp_right (fun h => Nat.le_trans F2.out.size h)⟩, F3.out⟩
    · go_wp2
      go_ret
      have hn : ¬ (0 ≤ x ∧ 0 ≤ y ∧ r x ≠ r y) := fun h => by have := h.2.1; omega
      unfold LinkPost
      rw [if_neg hn, if_neg hn]
      exact ⟨ret_bool (by simp [hn]), ⟨M, H.out, fun k hk => .inl hk⟩, Fr.refl _ _⟩
  · go_wp2
    go_ret
    have hn : ¬ (0 ≤ x ∧ 0 ≤ y ∧ r x ≠ r y) := fun h => by have := h.1; omega
    unfold LinkPost
    rw [if_neg hn, if_neg hn]
    exact ⟨ret_bool (by simp [hn]), ⟨M, H.out, fun k hk => .inl hk⟩, Fr.refl _ _⟩
end Go.Proofs.YtndfncaoejbkiaaGreatDoor
end
section
/- The report of flaws and its two callbacks: the walks of report.add and of the closure in nodes. Maps as functions. -/
namespace Go.Proofs.YtndfncaoejbkiaaGreatDoor
open Go.RowKit
set_option maxRecDepth 100000

/-- A map as a function. -/
def MpIs {κ β : Type} [DecidableEq κ] (d : TypeDesc) (mk : κ → Value) (enc : β → Value) (w : World) (b : Nat) (g : κ → Option β) : Prop := ∃ m : List (κ × Value), MapIs d mk w b m ∧ ∀ k, mget m k = (g k).map enc
section
variable {κ β : Type} [DecidableEq κ] {d : TypeDesc} {mk : κ → Value} {enc : β → Value} {w : World} {b : Nat} {g : κ → Option β} {P : Program} {t kt e : TypeId}
theorem MpIs.fr {M : Nat → Prop} {w' : World} (h : MpIs d mk enc w b g) (hf : Fr M w w') (hm : ¬ M b) : MpIs d mk enc w' b g := by
  obtain ⟨m, h1, h2⟩ := h
  exact ⟨m, h1.fr hf hm, h2⟩
theorem MpIs.lt (h : MpIs d mk enc w b g) : b < w.heap.size := by obtain ⟨m, h1, _⟩ := h; exact h1.lt
theorem MpIs.ne_cells {q : Nat} (h : MpIs d mk enc w b g) {c : Array Value} {e : TypeId} {f : Nat × Nat} (h' : w.heap[q]? = some (.cells c e f)) : q ≠ b := by
  obtain ⟨m, h1, _⟩ := h
  exact h1.ne_cells h'
theorem MpIs.look (h : MpIs d mk enc w b g) (K : KK d mk) (ht : P.underlying t = some (.map kt e)) (hk : P.underlying kt = some d) {z : Value} (hz : (zeroValue e).run P w = .ok z w) (x : κ) (ok : Bool) :
    (Instr.lookup t (.map (some b)) (mk x) ok).run P w = .ok (if ok then .tuple #[((g x).map enc).getD z, .bool (g x).isSome] else ((g x).map enc).getD z) w := by
  obtain ⟨m, h1, h2⟩ := h
  cases hg : g x with
  | none => exact h1.lookNone K ht hk x (by rw [h2, hg]; rfl) hz ok
  | some p => exact h1.look K ht hk x (by rw [h2, hg]; rfl) ok
theorem MpIs.put (h : MpIs d mk enc w b g) (K : KK d mk) (ht : P.underlying t = some (.map kt e)) (hk : P.underlying kt = some d) (x : κ) (u : β) :
    ∃ w', (Instr.mapUpdate t (.map (some b)) (mk x) (enc u)).run P w = .ok () w' ∧ MpIs d mk enc w' b (fun k => if k = x then some u else g k) ∧ Fr (fun q => q = b) w w' := by
  obtain ⟨m, h1, h2⟩ := h
  obtain ⟨w', e1, e2, e3⟩ := h1.put (P := P) K ht hk x (enc u)
  refine ⟨w', e1, ⟨_, e2, fun k => ?_⟩, e3⟩
  rw [mget_put]
  by_cases e : k = x
  · simp [e]
  · simp [e, h2]
theorem MpIs.new (d : TypeDesc) (mk : κ → Value) (enc : β → Value) (w : World) : MpIs d mk enc (w.alloc (.map #[] 0)) w.heap.size (fun _ => none) := ⟨[], MapIs.new d mk w, fun _ => rfl⟩
end

/-- The report at br, with the flaws l; its blocks are in M. -/
structure RepAt (M : Nat → Prop) (w : World) (br : Nat) (l : List Flw) : Prop where
  ex : ∃ v, w.heap[br]? = some (.cells #[v] 118 (0, 0)) ∧ OwnF 0 w v l ∧ ∀ b, v.ownBlock = some b → M b
  br : M br
  lt : ∀ k, M k → k < w.heap.size
theorem RepAt.fr {M N : Nat → Prop} {w w' : World} {br : Nat} {l : List Flw} (h : RepAt M w br l) (hf : Fr N w w') (hd : ∀ k, M k → ¬ N k) : RepAt M w' br l := by
  obtain ⟨⟨v, h1, h2, h3⟩, h4, h5⟩ := h
  exact ⟨⟨v, hf.at (hd _ h4) h1, h2.fr hf (fun b hb => hd b (h3 b hb)), h3⟩, h4, fun k hk => Nat.lt_of_lt_of_le (h5 k hk) hf.size⟩
theorem RepAt.step {M : Nat → Prop} {w w' : World} {br : Nat} {l : List Flw} (h : RepAt M w br l) (hf : Fr NoB w w') : RepAt M w' br l := h.fr hf (fun _ _ h => h)
/-- M' is M with new blocks. -/
def Gr (M M' : Nat → Prop) (w : World) : Prop := ∀ k, M' k → M k ∨ w.heap.size ≤ k
theorem Gr.refl (M : Nat → Prop) (w : World) : Gr M M w := fun _ h => .inl h
theorem Gr.trans {M M' M'' : Nat → Prop} {w w' : World} (h : Gr M M' w) (h' : Gr M' M'' w') (hs : w.heap.size ≤ w'.heap.size) : Gr M M'' w := fun k hk => by
  rcases h' k hk with h1 | h1
  · exact h k h1
  · exact .inr (Nat.le_trans hs h1)
/-- Two steps of a thing that grows. -/
theorem Fr.gr {M M' : Nat → Prop} {a b c : World} (h : Fr M a b) (hg : Gr M M' a) (h' : Fr M' b c) : Fr M a c := h.trans' h' (fun k hk hm => (hg k hm).resolve_right (by omega))

theorem repAdd_any (M : Nat → Prop) (w : World) (br : Nat) (l : List Flw) (k i : Int) (h : RepAt M w br l) (hl : l.length ≤ 100000000) :
    Calls Tryz.prog 69 #[.pointer (some ⟨br, 0, none⟩), .int .i64 k, .int .i64 i] w fun e w' => e = .returned (.tuple #[]) ∧ (∃ M', RepAt M' w' br (l ++ [⟨k, i⟩]) ∧ Gr M M' w) ∧ Fr M w w' := by
  obtain ⟨⟨v, h1, h2, h3⟩, h4, h5⟩ := h
  obtain ⟨p, c, hv⟩ := OwnE.form h2
  subst hv
  have H1 := hid h1
  have H2 := hid h2
  have H3 := hid h3
  have H4 := hid h4
  have H5 := hid h5
  have c0 : w.cell? ⟨br, 0, none⟩ = some (.slice p l.length c) := by simp [World.cell?, h1]
  clear h1 h2 h3 h4 h5
  go_enter Tryz.func69, Tryz.ntmps69
  go_wp2_with (at_builtin; refine ap_flaw' _ rfl _ _ rfl 0 (.slice p l.length c) l rfl (OwnE.step H2.out ((Fr.refl NoB w).alloc _)) _ [⟨k, i⟩] rfl (rdF_lit rfl) ?_ ?_ ?_; (simp only [List.length_singleton]; omega); (exact Nat.zero_le _); intro p6 q6 w6 ho6 hg6 hb6; have F6 : Hid (Fr (fun b => (Value.slice p l.length c).ownBlock = some b) w w6) := Fr.grown ((Fr.refl _ w).alloc _) hg6 (fun k hk _ => hk); have O6 := hid ho6; have B6 := hid hb6; have hd : ¬ (Value.slice p l.length c).ownBlock = some br := (fun e => by obtain ⟨cur, hc⟩ := OwnE.head H2.out e; exact ne_of_types hc H1.out (by decide) rfl); have h6 := F6.out.at hd H1.out; have c6 : w6.cell? ⟨br, 0, none⟩ = some (.slice p l.length c) := (by simp [World.cell?, h6]); have f6 : w6.frozen? ⟨br, 0, none⟩ = false := (by simp [World.frozen?, h6]); have HD := hid hd; have HH6 := hid h6; clear ho6 hg6 hb6 hd h6 c0)
  go_end0
  have f7 : Fr (fun k => k = br) w6 (w6.setCell ⟨br, 0, none⟩ (.slice p6 (l ++ [(⟨k, i⟩ : Flw)]).length q6)) := (Fr.refl (fun k => k = br) w6).setCell (p := ⟨br, 0, none⟩) (fun _ => rfl) _
  have hf : Fr M w (w6.setCell ⟨br, 0, none⟩ (.slice p6 (l ++ [(⟨k, i⟩ : Flw)]).length q6)) := (F6.out.mono (fun b _ hb => H3.out b hb)).trans' f7 (fun k _ e => by rw [show k = br from e]; exact H4.out)
  have ho : OwnF 0 (w6.setCell ⟨br, 0, none⟩ (.slice p6 (l ++ [(⟨k, i⟩ : Flw)]).length q6)) (.slice p6 (l ++ [(⟨k, i⟩ : Flw)]).length q6) (l ++ [(⟨k, i⟩ : Flw)]) := OwnE.fr O6.out f7 (fun b hb e => by
    obtain ⟨cur, hc⟩ := OwnE.head O6.out hb
    exact ne_of_types hc HH6.out (by decide) e)
  have hh := set_at HH6.out 0 (.slice p6 (l ++ [(⟨k, i⟩ : Flw)]).length q6)
  simp only [List.length_append, List.length_singleton] at hf ho hh
  refine ⟨rfl, ⟨fun q => M q ∨ (w.heap.size ≤ q ∧ q < (w6.setCell ⟨br, 0, none⟩ (.slice p6 (l.length + 1) q6)).heap.size), ⟨⟨_, hh, ho, fun b hb => ?_⟩, .inl H4.out, fun q hq => ?_⟩, fun q hq => hq.imp_right (·.1)⟩, hf⟩
  · have h9 := (World.ownsRow.lt ho b hb).2
    have hB := B6.out
    simp only [List.length_append, List.length_singleton] at hB
    rcases hB with h6 | h6
    · rw [h6] at hb; exact .inl (H3.out b hb)
    · rw [h6] at hb
      cases hb
      refine .inr ⟨by simp only [World.size_alloc]; omega, h9⟩
  · rcases hq with hq | hq
    · exact Nat.lt_of_lt_of_le (H5.out q hq) hf.size
    · exact hq.2

/-- The callback of nodes: it counts (at bc) and hands on (the function at ba) to the report. -/
structure NoteAt (M : Nat → Prop) (w : World) (bc ba br : Nat) (c : Int) (l : List Flw) : Prop where
  ex : ∃ M', RepAt M' w br l ∧ (∀ k, M' k → M k) ∧ ¬ M' bc ∧ ¬ M' ba
  cnt : w.heap[bc]? = some (.cells #[.int .i64 c] 3 (0, 0))
  fn : w.heap[ba]? = some (.cells #[.func (.func 69) #[.pointer (some ⟨br, 0, none⟩)] #[]] 120 (0, 0))
  bc : M bc
  ba : ¬ M ba
  lt : ∀ k, M k → k < w.heap.size
theorem NoteAt.fr {M N : Nat → Prop} {w w' : World} {bc ba br : Nat} {c : Int} {l : List Flw} (h : NoteAt M w bc ba br c l) (hf : Fr N w w') (hd : ∀ k, M k → ¬ N k) (ha : ¬ N ba) : NoteAt M w' bc ba br c l := by
  obtain ⟨⟨M', h1, h2, h3, h4⟩, h5, h6, h7, h8, h9⟩ := h
  exact ⟨⟨M', h1.fr hf (fun k hk => hd k (h2 k hk)), h2, h3, h4⟩, hf.at (hd _ h7) h5, hf.at ha h6, h7, h8, fun k hk => Nat.lt_of_lt_of_le (h9 k hk) hf.size⟩
theorem NoteAt.step {M : Nat → Prop} {w w' : World} {bc ba br : Nat} {c : Int} {l : List Flw} (h : NoteAt M w bc ba br c l) (hf : Fr NoB w w') : NoteAt M w' bc ba br c l := h.fr hf (fun _ _ h => h) (fun h => h)

theorem note_any (M : Nat → Prop) (w : World) (bc ba br : Nat) (c : Int) (l : List Flw) (k i : Int) (h : NoteAt M w bc ba br c l) (hl : l.length ≤ 100000000) (hc0 : 0 ≤ c) (hc1 : c ≤ 1000000000) :
    Calls Tryz.prog 87 #[.int .i64 k, .int .i64 i, .pointer (some ⟨bc, 0, none⟩), .pointer (some ⟨ba, 0, none⟩)] w fun e w' => e = .returned (.tuple #[]) ∧ (∃ M', NoteAt M' w' bc ba br (c + 1) (l ++ [⟨k, i⟩]) ∧ Gr M M' w) ∧ Fr M w w' := by
  obtain ⟨⟨M', h1, h2, h3, h4⟩, h5, h6, h7, h8, h9⟩ := h
  have H1 := hid h1
  have H2 := hid h2
  have H3 := hid h3
  have H4 := hid h4
  have H5 := hid h5
  have H6 := hid h6
  have H7 := hid h7
  have H8 := hid h8
  have H9 := hid h9
  have c5 : w.cell? ⟨bc, 0, none⟩ = some (.int .i64 c) := by simp [World.cell?, h5]
  have f5 : w.frozen? ⟨bc, 0, none⟩ = false := by simp [World.frozen?, h5]
  have F1 : Hid (Fr (fun k => k = bc) w (w.setCell ⟨bc, 0, none⟩ (.int .i64 (c + 1)))) := (Fr.refl (fun k => k = bc) w).setCell (p := ⟨bc, 0, none⟩) (fun _ => rfl) _
  have C1 := hid (set_at h5 0 (.int .i64 (c + 1)))
  have hba : ba ≠ bc := fun e => h8 (e ▸ h7)
  have A1 := hid (F1.out.at (fun e => hba e) h6)
  have c6 : (w.setCell ⟨bc, 0, none⟩ (.int .i64 (c + 1))).cell? ⟨ba, 0, none⟩ = some (.func (.func 69) #[.pointer (some ⟨br, 0, none⟩)] #[]) := by
    have := A1.out
    simp only [World.cell?, this]
    rfl
  obtain ⟨w1, hw1⟩ : ∃ w1, w.setCell ⟨bc, 0, none⟩ (.int .i64 (c + 1)) = w1 := ⟨_, rfl⟩
  rw [hw1] at F1 C1 A1
  have HW1 := hid hw1
  clear h1 h2 h3 h4 h5 h6 h7 h8 h9 hw1 hba
  go_enter Tryz.func87, Tryz.ntmps87
  go_wp2_with fail
  rw [HW1.out]
  refine (repAdd_any M' w1 br l k i (H1.out.fr F1.out (fun q hq e => H3.out (by rw [← show q = bc from e]; exact hq))) hl).mono ?_
  rintro e w2 ⟨rfl, ⟨M2, hr, hg⟩, hf⟩
  have R2 := hid hr
  have G2 := hid hg
  have F2 := hid hf
  clear hr hg hf c5 f5 c6
  go_wp2
  go_end0
  have hf2 : Fr M w w2 := (F1.out.mono (fun q _ e => by rw [show q = bc from e]; exact H7.out)).trans' F2.out (fun q _ hq => H2.out q hq)
  have hs1 : w.heap.size ≤ w1.heap.size := F1.out.size
  have hbc : bc < w.heap.size := H9.out bc H7.out
  have hba : ba < w.heap.size := (Array.getElem?_eq_some_iff.1 H6.out).1
  refine ⟨rfl, ⟨fun q => M q ∨ (w.heap.size ≤ q ∧ q < w2.heap.size), ⟨⟨M2, R2.out, fun q hq => ?_, fun h => ?_, fun h => ?_⟩, F2.out.at H3.out C1.out, F2.out.at H4.out A1.out, .inl H7.out, fun h => h.elim H8.out (fun h => by omega), fun q hq => ?_⟩, fun q hq => hq.imp_right (·.1)⟩, hf2⟩
  · rcases G2.out q hq with h | h
    · exact .inl (H2.out q h)
    · exact .inr ⟨Nat.le_trans hs1 h, R2.out.lt q hq⟩
  · rcases G2.out _ h with h | h
    · exact H3.out h
    · omega
  · rcases G2.out _ h with h | h
    · exact H4.out h
    · omega
  · rcases hq with hq | hq
    · exact Nat.lt_of_lt_of_le (H9.out q hq) hf2.size
    · exact hq.2
end Go.Proofs.YtndfncaoejbkiaaGreatDoor
end
section
/- The walk of the writer's number. -/
namespace Go.Proofs.YtndfncaoejbkiaaGreatDoor
open Go.RowKit
set_option maxRecDepth 100000

/-- The writer at bw holds the bytes l; its blocks are in M. -/
structure WrAt (M : Nat → Prop) (w : World) (bw : Nat) (l : List UInt8) : Prop where
  ex : ∃ v, w.heap[bw]? = some (.cells #[v] 53 (0, 0)) ∧ OwnY 0 w v l ∧ ∀ b, v.ownBlock = some b → M b
  bw : M bw
  lt : ∀ k, M k → k < w.heap.size
theorem WrAt.fr {M N : Nat → Prop} {w w' : World} {bw : Nat} {l : List UInt8} (h : WrAt M w bw l) (hf : Fr N w w') (hd : ∀ k, M k → ¬ N k) : WrAt M w' bw l := by
  obtain ⟨⟨v, h1, h2, h3⟩, h4, h5⟩ := h
  exact ⟨⟨v, hf.at (hd _ h4) h1, h2.fr hf (fun b hb => hd b (h3 b hb)), h3⟩, h4, fun k hk => Nat.lt_of_lt_of_le (h5 k hk) hf.size⟩
theorem WrAt.step {M : Nat → Prop} {w w' : World} {bw : Nat} {l : List UInt8} (h : WrAt M w bw l) (hf : Fr NoB w w') : WrAt M w' bw l := h.fr hf (fun _ _ h => h)
/-- Where the writing stands: since w0 it has turned M alone. -/
def WrS (M : Nat → Prop) (w0 w : World) (bw : Nat) (l : List UInt8) : Prop := (∃ M', WrAt M' w bw l ∧ Gr M M' w0) ∧ Fr M w0 w
theorem WrS.start {M : Nat → Prop} {w : World} {bw : Nat} {l : List UInt8} (h : WrAt M w bw l) : WrS M w w bw l := ⟨⟨M, h, Gr.refl _ _⟩, Fr.refl _ _⟩
theorem WrS.trans {M M' : Nat → Prop} {w0 w w' : World} {bw : Nat} {l : List UInt8} (hg : Gr M M' w0) (hf : Fr M w0 w) (h : WrS M' w w' bw l) : WrS M w0 w' bw l := by
  obtain ⟨⟨M2, h1, h2⟩, h3⟩ := h
  exact ⟨⟨M2, h1, hg.trans h2 hf.size⟩, hf.gr hg h3⟩
theorem WrS.step {M : Nat → Prop} {w0 w w' : World} {bw : Nat} {l : List UInt8} (h : WrS M w0 w bw l) (hf : Fr NoB w w') : WrS M w0 w' bw l := by
  obtain ⟨⟨M2, h1, h2⟩, h3⟩ := h
  exact ⟨⟨M2, h1.step hf, h2⟩, h3.step hf⟩
/-- The writer's row was appended to (in w8) and is stored back. -/
theorem WrAt.put {M : Nat → Prop} {w w8 : World} {bw : Nat} {v v8 : Value} {l m : List UInt8} (h1 : w.heap[bw]? = some (.cells #[v] 53 (0, 0))) (h2 : OwnY 0 w v l) (h3 : ∀ b, v.ownBlock = some b → M b) (h4 : M bw) (h5 : ∀ k, M k → k < w.heap.size)
    (ho : OwnY 0 w8 v8 m) (hf : Fr (fun b => v.ownBlock = some b) w w8) (hn : v8.ownBlock = v.ownBlock ∨ ∃ q, v8.ownBlock = some q ∧ w.heap.size ≤ q) : WrS M w (w8.setCell ⟨bw, 0, none⟩ v8) bw m := by
  have hbw : w8.heap[bw]? = some (.cells #[v] 53 (0, 0)) := hf.at (fun e => by
    obtain ⟨cur, hc⟩ := OwnE.head h2 e
    exact ne_of_types hc h1 (by decide) rfl) h1
  have f7 : Fr (fun k => k = bw) w8 (w8.setCell ⟨bw, 0, none⟩ v8) := (Fr.refl (fun k => k = bw) w8).setCell (p := ⟨bw, 0, none⟩) (fun _ => rfl) _
  have ho9 : OwnY 0 (w8.setCell ⟨bw, 0, none⟩ v8) v8 m := OwnE.fr ho f7 (fun b hb e => by
    obtain ⟨cur, hc⟩ := OwnE.head ho hb
    exact ne_of_types hc hbw (by decide) e)
  have hh := set_at hbw 0 v8
  have hff : Fr M w (w8.setCell ⟨bw, 0, none⟩ v8) := (hf.mono (fun b _ hb => h3 b hb)).trans' f7 (fun k _ e => by rw [show k = bw from e]; exact h4)
  refine ⟨⟨fun q => M q ∨ (w.heap.size ≤ q ∧ q < (w8.setCell ⟨bw, 0, none⟩ v8).heap.size), ⟨⟨v8, hh, ho9, fun b hb => ?_⟩, .inl h4, fun q hq => ?_⟩, fun q hq => hq.imp_right (·.1)⟩, hff⟩
  · have h9 := (World.ownsRow.lt ho9 b hb).2
    rcases hn with h6 | ⟨q, h6, h7⟩
    · rw [h6] at hb; exact .inl (h3 b hb)
    · rw [h6] at hb
      cases hb
      exact .inr ⟨h7, h9⟩
  · rcases hq with hq | hq
    · exact Nat.lt_of_lt_of_le (h5 q hq) hff.size
    · exact hq.2
set_option maxHeartbeats 2000000 in
theorem num_any (M : Nat → Prop) (bw : Nat) (l : List UInt8) (x : Nat) (w : World) (h : WrAt M w bw l) (hx : x < 18446744073709551616) (hl : l.length ≤ 900000000) :
    Calls Tryz.prog 21 #[.pointer (some ⟨bw, 0, none⟩), .int .u64 x] w fun e w' => e = .returned (.tuple #[]) ∧ WrS M w w' bw (l ++ bN (numE x)) := by
  have H := hid h
  clear h
  go_enter Tryz.func21, Tryz.ntmps21
  go_wp2
  go_loopw [1] (fun y wr => ∃ (y' : Nat) (pre : List Nat), y = .int .u64 y' ∧ numE x = pre ++ numE y' ∧ y' ≤ x ∧ Hid (WrS M w wr bw (l ++ bN pre))) (fun y _ => (intOf y).toNat)
  case atStart => exact ⟨x, [], rfl, rfl, Nat.le_refl _, by show WrS _ _ _ _ _; simpa [bN] using WrS.start H.out⟩
  case round =>
    obtain ⟨y, pre, rfl, hp, hyx, hw⟩ := hrel
    have hpl := numE_len x hx hp
    have hlen : (l ++ bN pre).length = l.length + pre.length := by simp [bN]
    have HAP := hid (fun m => (by rw [bN_app, ← List.append_assoc] : l ++ bN (pre ++ m) = (l ++ bN pre) ++ bN m))
    obtain ⟨LL, hLL⟩ : ∃ LL, l ++ bN pre = LL := ⟨_, rfl⟩
    rw [hLL] at hw hlen HAP
    obtain ⟨⟨M1, hw1, hg1⟩, hf1⟩ := hw.out
    obtain ⟨⟨tv, hb, ho, hbM⟩, hM, hlt⟩ := hw1
    obtain ⟨tp, tc, hv⟩ := OwnE.form ho
    subst hv
    have O := hid ho
    have F1 := hid hf1
    have G1 := hid hg1
    have HP := hid hp
    have HB := hid hb
    have HBM := hid hbM
    have HM := hid hM
    have HLT := hid hlt
    have hl2 : LL.length ≤ 900000010 := by omega
    have c0 : wr.cell? ⟨bw, 0, none⟩ = some (.slice tp LL.length tc) := by simp [World.cell?, hb]
    have c0l : bw < wr.heap.size := (Array.getElem?_eq_some_iff.1 hb).1
    clear ho hf1 hg1 hp hb hlen hLL hbM hM hlt hw
    by_cases hge : 128 ≤ y
    · have hge' : (128 : Int) ≤ y := by omega
      have HC : Hid (bits .or .u8 ((y : Int) % 256) 128 = ((UInt8.ofNat (y % 128 + 128)).toNat : Int)) := by
        show _ = _
        have h := u8_or_nat (y % 256) 128 (Nat.mod_lt _ (by decide)) (by decide)
        rw [byte_or] at h
        rw [u8_of (by omega), ← h]
        congr 1
      go_wp2_with (at_builtin; refine ap_by _ rfl _ _ rfl 0 (.slice tp LL.length tc) LL rfl (OwnE.fr O.out ((Fr.refl NoB wr).alloc (.cells #[.int .u8 (bits .or .u8 ((y : Int) % 256) 128)] 5)) (fun _ _ h => h)) NoB _ [UInt8.ofNat (y % 128 + 128)] rfl (rdY_lit (UInt8.ofNat (y % 128 + 128)) HC.out rfl (fun h => h)) ?_ ?_ ?_; (simp only [List.length_singleton]; omega); (exact Nat.zero_le _); intro p8 q8 w8 ho8 hg8 hb8; have O8 := hid ho8; have F8 : Hid (Fr (fun b => (Value.slice tp LL.length tc).ownBlock = some b) wr w8) := Fr.grown ((Fr.refl _ wr).alloc _) hg8 (fun k hk _ => hk); have B8 := hid hb8; have h8 := F8.out.at (fun e => by obtain ⟨cur, hc⟩ := OwnE.head O.out e; exact ne_of_types hc HB.out (by decide) rfl) HB.out; have c8 : w8.cell? ⟨bw, 0, none⟩ = some (.slice tp LL.length tc) := (by simp [World.cell?, h8]); have z8 : w8.frozen? ⟨bw, 0, none⟩ = false := (by simp [World.frozen?, h8]); clear ho8 hg8 hb8 h8)
      go_roundw
      case rel =>
        have hw9 := WrAt.put HB.out O.out HBM.out HM.out HLT.out O8.out F8.out (B8.out.imp_right (fun h => ⟨_, h, by simp⟩))
        have h10 := WrS.trans G1.out F1.out hw9
        rw [List.length_append, List.length_singleton] at h10
        exact ⟨y / 128, pre ++ [y % 128 + 128], by simp, numE_part HP.out hge, Nat.le_trans (Nat.div_le_self _ _) hyx, by show WrS _ _ _ _ _; rw [HAP.out]; exact h10⟩
      case measure => simp [intOf]; omega
    · have hge' : ¬ (128 : Int) ≤ y := by omega
      have HC : Hid ((y : Int) = ((UInt8.ofNat y).toNat : Int)) := by show _ = _; rw [u8_of (by omega)]
      go_wp2_with (at_builtin; refine ap_by _ rfl _ _ rfl 0 (.slice tp LL.length tc) LL rfl (OwnE.fr O.out ((Fr.refl NoB wr).alloc (.cells #[.int .u8 (y : Int)] 5)) (fun _ _ h => h)) NoB _ [UInt8.ofNat y] rfl (rdY_lit (UInt8.ofNat y) HC.out rfl (fun h => h)) ?_ ?_ ?_; (simp only [List.length_singleton]; omega); (exact Nat.zero_le _); intro p8 q8 w8 ho8 hg8 hb8; have O8 := hid ho8; have F8 : Hid (Fr (fun b => (Value.slice tp LL.length tc).ownBlock = some b) wr w8) := Fr.grown ((Fr.refl _ wr).alloc _) hg8 (fun k hk _ => hk); have B8 := hid hb8; have h8 := F8.out.at (fun e => by obtain ⟨cur, hc⟩ := OwnE.head O.out e; exact ne_of_types hc HB.out (by decide) rfl) HB.out; have c8 : w8.cell? ⟨bw, 0, none⟩ = some (.slice tp LL.length tc) := (by simp [World.cell?, h8]); have z8 : w8.frozen? ⟨bw, 0, none⟩ = false := (by simp [World.frozen?, h8]); clear ho8 hg8 hb8 h8)
      go_end0
      have hw9 := WrAt.put HB.out O.out HBM.out HM.out HLT.out O8.out F8.out (B8.out.imp_right (fun h => ⟨_, h, by simp⟩))
      have h10 := WrS.trans G1.out F1.out hw9
      rw [List.length_append, List.length_singleton] at h10
      exact ⟨rfl, by rw [numE_done HP.out (by omega), HAP.out]; exact h10⟩
end Go.Proofs.YtndfncaoejbkiaaGreatDoor
end
section
/- The walk of the writer's signed. -/
namespace Go.Proofs.YtndfncaoejbkiaaGreatDoor
open Go.RowKit
set_option maxRecDepth 100000

theorem num_anyZ (M : Nat → Prop) (bw : Nat) (l : List UInt8) (x : Nat) (w : World) (h : WrAt M w bw l) (hx : x < 18446744073709551616) (hl : l.length ≤ 900000000) (z : Int) (hz : z = (x : Int)) :
    Calls Tryz.prog 21 #[.pointer (some ⟨bw, 0, none⟩), .int .u64 z] w fun e w' => e = .returned (.tuple #[]) ∧ WrS M w w' bw (l ++ bN (numE x)) := by
  subst hz
  exact num_any M bw l x w h hx hl
theorem not64 (v : Nat) (hv : v < 18446744073709551616) : 18446744073709551615 ^^^ v = 18446744073709551615 - v := by
  have h := congrArg BitVec.toNat (BitVec.xor_allOnes (x := BitVec.ofNat 64 v))
  rw [BitVec.toNat_xor, BitVec.toNat_allOnes, BitVec.toNat_not, BitVec.toNat_ofNat, Nat.mod_eq_of_lt (by omega)] at h
  rw [Nat.xor_comm]
  exact h
theorem neg_sgn {n : Int} (h0 : -9223372036854775808 ≤ n) (h1 : n < 0) : bits BinOp.xor IntKind.u64 IntKind.u64.max (IntKind.u64.wrap (IntKind.u64.wrap n * 2)) = ((-2 * n - 1).toNat : Int) := by
  rw [IntKind.wrap_u64, IntKind.wrap_u64]
  have e : n % 18446744073709551616 * 2 % 18446744073709551616 = (((18446744073709551616 + 2 * n).toNat % 18446744073709551616 : Nat) : Int) := by omega
  rw [e]
  have h := bits_xor_u64_nat 18446744073709551615 ((18446744073709551616 + 2 * n).toNat % 18446744073709551616) (by decide) (Nat.mod_lt _ (by decide))
  rw [not64 _ (Nat.mod_lt _ (by decide))] at h
  refine Eq.trans h ?_
  omega
set_option maxHeartbeats 2000000 in
theorem sgn_any (M : Nat → Prop) (bw : Nat) (l : List UInt8) (n : Int) (w : World) (h : WrAt M w bw l) (h0 : -9223372036854775808 ≤ n) (h1 : n < 9223372036854775808) (hl : l.length ≤ 900000000) :
    Calls Tryz.prog 23 #[.pointer (some ⟨bw, 0, none⟩), .int .i64 n] w fun e w' => e = .returned (.tuple #[]) ∧ WrS M w w' bw (l ++ bN (sgnE n)) := by
  have H := hid h
  have HS := hid (sgnE_of n h0 h1)
  clear h
  go_enter Tryz.func23, Tryz.ntmps23
  by_cases hn : 0 ≤ n
  · have hn' : ¬ n < 0 := by omega
    go_wp2_with fail
    refine (num_anyZ M bw l (2 * n).toNat w H.out (by omega) hl _ (by first | omega | (simp; omega))).mono ?_
    rintro e w1 ⟨rfl, h2⟩
    rw [show numE (2 * n).toNat = sgnE n by rw [HS.out, if_pos hn]] at h2
    go_wp2
    go_end0
    exact ⟨rfl, h2⟩
  · have hn' : n < 0 := by omega
    go_wp2_with fail
    refine (num_anyZ M bw l (-2 * n - 1).toNat w H.out (by omega) hl _ (neg_sgn h0 hn')).mono ?_
    rintro e w1 ⟨rfl, h2⟩
    rw [show numE (-2 * n - 1).toNat = sgnE n by rw [HS.out, if_neg (by omega)]] at h2
    go_wp2
    go_end0
    exact ⟨rfl, h2⟩
end Go.Proofs.YtndfncaoejbkiaaGreatDoor
end
section
/- Slices of bytes that a call has made (OwnB), the laws of append for them, the table of powers of ten (Tab), at this program. -/
namespace Go.Proofs.YtndfncaoejbkiaaGreatDoor
open Go.RowKit

def OwnB (B : Nat) (w : World) (v : Value) (l : List UInt8) : Prop := w.ownsRow B 5 1 v l.length (Lib.byteCells l)

theorem infoByte : (Tryz.prog.info? 5).map (fun i => (i.zero, i.size, i.bytes)) = some (some (.int .u8 0), 1, 1) := by kernel_rfl

/-- The table of powers of ten reads as the text lays it. -/
def Tab (w : World) : Prop := Lib.TabIs Tryz.prog w "internal/strconv.uint64pow10" .u64 Lib.pow10Tab
/-- The block of that table. -/
noncomputable def TB : Nat := (Tryz.prog.globalNamed "internal/strconv.uint64pow10").getD 0
theorem tb_at : Tryz.prog.globalNamed "internal/strconv.uint64pow10" = some TB := by kernel_rfl

theorem Tab.lt {w : World} (h : Tab w) : TB < w.heap.size := by
  unfold Tab Lib.TabIs World.var? at h
  rw [tb_at] at h
  simp only [Option.bind_some] at h
  rcases Nat.lt_or_ge TB w.heap.size with h1 | h1
  · exact h1
  · rw [Array.getElem?_eq_none h1] at h; simp at h
theorem Tab.fr {M : Nat → Prop} {w w' : World} (h : Tab w) (hf : Fr M w w') (hm : ¬ M TB) : Tab w' := by
  have hl := h.lt
  unfold Tab Lib.TabIs World.var? at h ⊢
  rw [tb_at] at h ⊢
  simp only [Option.bind_some] at h ⊢
  rw [hf.block TB hl hm]; exact h
theorem Tab.below {w : World} (h : Tab w) {B : Nat} (hB : TB < B) : Lib.TabBelow Tryz.prog B w "internal/strconv.uint64pow10" .u64 Lib.pow10Tab := fun w' hb => by
  have h1 : Tab w' := h.fr (M := fun k => B ≤ k) ⟨hb.os, hb.tape, hb.output, hb.size, fun k _ hk => hb.block k (by omega)⟩ (by omega)
  exact h1

theorem OwnB.row {B : Nat} {w : World} {v : Value} {l : List UInt8} (h : OwnB B w v l) : w.ownsRow B 5 1 v l.length (Lib.byteCells l) := h
theorem OwnB.drew {B : Nat} {w : World} {v : Value} {l : List UInt8} (h : OwnB B w v l) : OwnB B w.drew v l := h
theorem OwnB.form' {B : Nat} {w : World} {v : Value} {l : List UInt8} (h : OwnB B w v l) : (v = .slice none 0 0 ∧ l = []) ∨ ∃ g cap, v = .slice (some ⟨g, 0, none⟩) l.length cap ∧ B ≤ g ∧ g < w.heap.size ∧ l.length ≤ cap := by
  rcases h.2 with ⟨h, hl⟩ | ⟨g, cap, cur, h, hb, hg, hn, _⟩
  · exact .inl ⟨h, List.eq_nil_of_length_eq_zero hl⟩
  · exact .inr ⟨g, cap, h, hb, (Array.getElem?_eq_some_iff.1 hg).1, hn⟩
theorem OwnB.fr {B : Nat} {M : Nat → Prop} {w w' : World} {v : Value} {l : List UInt8} (h : OwnB B w v l) (hf : Fr M w w') (hm : ∀ k, v.ownBlock = some k → ¬ M k) : OwnB B w' v l := by
  refine ⟨h.1, ?_⟩
  rcases h.2 with h2 | ⟨g, cap, cur, h1, hb, hg, r⟩
  · exact .inl h2
  · refine .inr ⟨g, cap, cur, h1, hb, ?_, r⟩
    rw [hf.block g (Array.getElem?_eq_some_iff.1 hg).1 (hm g (by rw [h1]; rfl))]; exact hg

/-- What turns from base B on. -/
theorem Fr.own {B : Nat} {w w' : World} (h : Below B w w') : Fr (fun k => B ≤ k) w w' := ⟨h.os, h.tape, h.output, h.size, fun k _ hk => h.block k (by omega)⟩

theorem byte_step (w : World) {ops : Array Oper} {o : Oper} {a : Act} {K : Act → World → Prop} {Q : Exit → Act → World → Prop} {E : Prop} (hg : o.guard = none) (s x : Operand)
    (ho : o.op = .call { callee := .builtin .append, args := #[s, x], argTypes := #[27, 27] }) (base : Nat) (v : Value) (l : List UInt8) (hs : a.eval s = v) (hown : OwnB base w v l)
    (c : UInt8) (b n k : Nat) (hx : a.eval x = .slice (some ⟨b, 0, none⟩) n k) (hn : n = 1) (hc : w.cell? ⟨b, 0, none⟩ = some (.int .u8 (c.toNat : Int))) (hlen : l.length ≤ 140737488355000) (hbase : base ≤ w.heap.size)
    (h : ∀ v' w', OwnB base w' v' (l ++ [c]) → Fr (fun k => base ≤ k) w w' → K (a.put o.dst v') w') :
    if Region.wanted o (yielded ops a.tmps) = true then Oper.wp Tryz.prog o a w K Q else E := by
  subst hn
  obtain ⟨i0, hi, hz0, hz1, hz2⟩ := info_parts infoByte
  refine step_append_lies w hg s x 27 ho base 5 i0 (.int .u8 0) 1 1 Tryz.underlying27 hi hz0 hz1 hz2 rfl (by decide) v _ _ hs hown ⟨b, 0, none⟩ 1 k [.int .u8 (c.toNat : Int)] hx rfl (fun j u hu => ?_) (by simp [Value.oneCell']) (by decide) (by unfold maxLen; omega) (by omega) hbase w.heap.size rfl ?_
  · match j, hu with
    | 0, hu => simp at hu; subst hu; simpa [Addr.add] using hc
    | j + 1, hu => simp at hu
  · intro g cap w' h1 h2 h3 _
    have e : (l ++ [c]).length = l.length + 1 := by simp
    refine h _ w' ?_ ?_
    · unfold OwnB; rw [e, Lib.byteCells_append]; exact h1
    · exact (Fr.refl _ w).grown h2 (fun q hq _ => (World.ownsRow.lt hown q hq).1)

theorem byte_list (w : World) {ops : Array Oper} {rest : List Oper} {o : Oper} {a : Act} {Q : Exit → Act → World → Prop} (hg : o.guard = none) (s x : Operand)
    (ho : o.op = .call { callee := .builtin .append, args := #[s, x], argTypes := #[27, 27] }) (base : Nat) (v : Value) (l : List UInt8) (hs : a.eval s = v) (hown : OwnB base w v l)
    (c : UInt8) (b n k : Nat) (hx : a.eval x = .slice (some ⟨b, 0, none⟩) n k) (hn : n = 1) (hc : w.cell? ⟨b, 0, none⟩ = some (.int .u8 (c.toNat : Int))) (hlen : l.length ≤ 140737488355000) (hbase : base ≤ w.heap.size)
    (h : ∀ v' w', OwnB base w' v' (l ++ [c]) → Fr (fun k => base ≤ k) w w' → wpList Tryz.prog ops Q rest (a.put o.dst v') w') : wpList Tryz.prog ops Q (o :: rest) a w := by
  refine wpList_plain hg fun K hK => ?_
  have := byte_step (ops := ops) (E := True) (Q := Q) (K := K) w hg s x ho base v l hs hown c b n k hx hn hc hlen hbase (fun v' w' h1 h2 => hK _ _ (h v' w' h1 h2))
  have hw : Region.wanted o (yielded ops a.tmps) = true := by simp [Region.wanted, hg]
  rw [if_pos hw] at this
  exact this

theorem str_list (w : World) {ops : Array Oper} {rest : List Oper} {o : Oper} {a : Act} {Q : Exit → Act → World → Prop} (hg : o.guard = none) (s x : Operand)
    (ho : o.op = .call { callee := .builtin .append, args := #[s, x], argTypes := #[27, 9] }) (base : Nat) (v : Value) (l : List UInt8) (hs : a.eval s = v) (hown : OwnB base w v l)
    (t : ByteArray) (hx : a.eval x = .string t) (hlen : l.length + t.size ≤ 140737488355000) (hbase : base ≤ w.heap.size)
    (h : ∀ v' w', OwnB base w' v' (l ++ t.data.toList) → Fr (fun k => base ≤ k) w w' → wpList Tryz.prog ops Q rest (a.put o.dst v') w') : wpList Tryz.prog ops Q (o :: rest) a w := by
  obtain ⟨i0, hi, hz0, hz1, hz2⟩ := info_parts infoByte
  have ht : t.data.toList.length = t.size := by simp
  refine Lib.wpList_append_own_string w hg s x 27 9 ho base 5 i0 Tryz.underlying27 Tryz.underlying9 hi hz0 hz1 hz2 v _ _ hs hown t hx (by unfold maxLen; omega) (by omega) hbase ?_
  intro v' w' h1 h2 _
  refine h v' w' ?_ ((Fr.refl _ w).grown h2 (fun q hq _ => (World.ownsRow.lt hown q hq).1))
  unfold OwnB
  rw [List.length_append, ht, Lib.byteCells_append]; exact h1

/-- string(b) of bytes that a call owns. -/
theorem conv_own {B : Nat} {w : World} {v : Value} {l : List UInt8} (h : OwnB B w v l) : (convert 27 9 v).run Tryz.prog w = .ok (.string ⟨l.toArray⟩) w := by
  rcases h.form' with ⟨rfl, rfl⟩ | ⟨g, cap, rfl, _, hg, _⟩
  · exact run_convert_bytes_nil (P := Tryz.prog) (w := w) 27 5 Tryz.underlying27 Tryz.underlying5 0 0 9 Tryz.underlying9
  · refine run_convert_bytes_back w 27 9 5 ⟨g, 0, none⟩ cap l Tryz.underlying27 Tryz.underlying5 Tryz.underlying9 (fun j hj => ?_)
    refine World.ownsRow.cells h (g := g) rfl j _ ?_
    simp [Lib.byteCells, List.getElem?_eq_getElem hj]

end Go.Proofs.YtndfncaoejbkiaaGreatDoor
end
