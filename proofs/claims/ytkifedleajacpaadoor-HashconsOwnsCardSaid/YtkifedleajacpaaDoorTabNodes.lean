/- The walk of hashcons.Table.Nodes. -/
import Derived.Test.YtkifedleajacpaaDoorSortN2
import Derived.Test.YtkifedleajacpaaDoorTabL
import Derived.Test.YtkifedleajacpaaDoorRowStep
import Derived.Maps.RangeRun
namespace Go.Proofs.YtkifedleajacpaaDoor
open Go.Shelf Go.RowKit Go.Lib Go.Sort Go.MapKept
open Go.ChangeMaps (setBlock)
set_option maxRecDepth 100000

/-- A row of nodes that a call has made, args and all: to be read and written, not to be appended to. -/
structure OutN (B : Nat) (w : World) (v : Value) (l : List (Node × Value)) : Prop where
  row : ∃ g cap, v = .slice (some ⟨g, 0, none⟩) l.length cap ∧ B ≤ g ∧ g < w.heap.size ∧ l.length ≤ cap ∧ CellsAt w g 0 (flatE nsCells l) ∧ (∀ o, o < l.length * 5 → w.frozen? ⟨g, o, none⟩ = false) ∧ ∀ x ∈ l, ∀ k, x.2.ownBlock = some k → k ≠ g
  args : ∀ x ∈ l, OwnI B w x.2 x.1.args

theorem perm_lift {α β : Type} (f : α → β) {a b : List β} (p : a.Perm b) : ∀ l : List α, l.map f = a → ∃ l' : List α, l'.Perm l ∧ l'.map f = b := by
  induction p with
  | nil => intro l h; exact ⟨l, .refl _, h⟩
  | cons x _ ih =>
    intro l h
    match l, h with
    | y :: t, h =>
      simp only [List.map_cons, List.cons.injEq] at h
      obtain ⟨t', hp, ht⟩ := ih t h.2
      exact ⟨y :: t', hp.cons y, by rw [List.map_cons, h.1, ht]⟩
  | swap x y a =>
    intro l h
    match l, h with
    | p :: q :: t, h =>
      simp only [List.map_cons, List.cons.injEq] at h
      exact ⟨q :: p :: t, .swap _ _ _, by simp [h.1, h.2.1, h.2.2]⟩
  | trans _ _ ih1 ih2 =>
    intro l h
    obtain ⟨l1, p1, h1⟩ := ih1 l h
    obtain ⟨l2, p2, h2⟩ := ih2 l1 h1
    exact ⟨l2, p2.trans p1, h2⟩

theorem filter_step {p q : MapEntry → Bool} {e : MapEntry} (hq : ∀ x, q x = (p x && (x.born != e.born))) : ∀ {L : List MapEntry}, (L.map (·.born)).Nodup → e ∈ L.filter p → (L.filter p).Perm (e :: L.filter q)
  | [], _, h => by simp at h
  | x :: L, hn, h => by
    simp only [List.map_cons, List.nodup_cons] at hn
    by_cases hx : x = e
    · subst hx
      have hp : p x = true := (List.mem_filter.1 h).2
      have hqx : q x = false := by rw [hq]; simp
      rw [List.filter_cons_of_pos hp, List.filter_cons_of_neg (by simp [hqx])]
      refine List.Perm.cons _ (.of_eq ?_)
      refine List.filter_congr fun y hy => ?_
      rw [hq]
      have : y.born ≠ x.born := fun e => hn.1 (by rw [← e]; exact List.mem_map_of_mem hy)
      simp [this]
    · have he : e ∈ L := by
        have := (List.mem_filter.1 h).1
        rw [List.mem_cons] at this
        exact this.resolve_left (fun e => hx e.symm)
      have hb : x.born ≠ e.born := fun e2 => hn.1 (by rw [e2]; exact List.mem_map_of_mem he)
      have ih := filter_step hq hn.2 (List.mem_filter.2 ⟨he, (List.mem_filter.1 h).2⟩)
      cases hp : p x with
      | false =>
        have hqx : q x = false := by rw [hq, hp]; rfl
        rw [List.filter_cons_of_neg (by simp [hp]), List.filter_cons_of_neg (by simp [hqx])]
        exact ih
      | true =>
        have hqx : q x = true := by rw [hq, hp]; simp [hb]
        rw [List.filter_cons_of_pos hp, List.filter_cons_of_pos hqx]
        exact (ih.cons x).trans (.swap _ _ _)

theorem left_step {es : Array MapEntry} {seen : Array Nat} (hn : (es.toList.map (·.born)).Nodup) {e : MapEntry} (he : e ∈ (leftOf es seen).toList) : ((leftOf es seen).toList).Perm (e :: (leftOf es (seen.push e.born)).toList) := by
  unfold leftOf at he ⊢
  rw [Array.toList_filter] at he ⊢
  rw [Array.toList_filter]
  refine filter_step (fun x => ?_) hn he
  by_cases h : x.born = e.born
  · simp [h]
  · simp [h]

theorem _root_.Go.Proofs.YtkifedleajacpaaDoor.OwnI.rdOff {B g : Nat} {w : World} {v : Value} {l : List Int} (h : OwnI B w v l) (hg : ∀ k, v.ownBlock = some k → k ≠ g) : RdI (fun k => k = g) w v l := by
  rcases h.form' with ⟨rfl, rfl⟩ | ⟨b, cap, rfl, _, _, _⟩
  · exact .inl ⟨⟨none, 0, rfl, fun _ => rfl⟩, rfl⟩
  · rcases h.rd (M := NoB) (fun _ _ h => h) with h1 | ⟨b', off, cap', h1, h2, _, h4⟩
    · exact .inl h1
    · refine .inr ⟨b', off, cap', h1, h2, ?_, h4⟩
      simp only [Value.slice.injEq, Option.some.injEq, Addr.mk.injEq] at h1
      obtain ⟨⟨rfl, _⟩, _⟩ := h1
      exact hg _ rfl
theorem ownsRow_ne {B : Nat} {e : TypeId} {k n : Nat} {w : World} {v : Value} {cs : List Value} (h : w.ownsRow B e k v n cs) {rI : Nat} {m : Option Nat} {s : Nat} {seen : Array Nat} {c : Nat} (hr : w.heap[rI]? = some (.mapIter m s seen c)) {j : Nat} (hj : v.ownBlock = some j) : j ≠ rI := by
  rintro rfl
  rcases h.2 with ⟨rfl, _⟩ | ⟨g, cap, cur, rfl, _, hg, _⟩
  · cases hj
  · cases hj; rw [hr] at hg; cases hg

/-- What the walk of Nodes carries. -/
structure NdS (M : Nat → Prop) (w0 : World) (bt bm rI : Nat) (l : List TEnt) (es : Array MapEntry) (clock : Nat) (g cap : Nat) (L : List (Node × Value)) (seen : Array Nat) (W : World) : Prop where
  fr : Fr NoB w0 W
  tab : TableAt (fun k => M k ∨ w0.heap.size ≤ k) W bt bm l
  map : W.heap[bm]? = some (.map es clock)
  it : ∃ c0, W.heap[rI]? = some (.mapIter (some bm) clock seen c0) ∧ clock ≤ c0
  own : OwnN w0.heap.size W (.slice (some ⟨g, 0, none⟩) L.length cap) L
  args : ∀ x ∈ L, OwnI w0.heap.size W x.2 x.1.args ∧ (∀ k, x.2.ownBlock = some k → k ≠ g) ∧ x.1.args.length ≤ 1000000
  bt : bt < w0.heap.size
  bm : bm < w0.heap.size
section
variable {M : Nat → Prop} {w0 : World} {bt bm rI : Nat} {l : List TEnt} {es : Array MapEntry} {clock g cap : Nat} {L : List (Node × Value)} {seen : Array Nat} {W W' : World}
theorem NdS.step (h : NdS M w0 bt bm rI l es clock g cap L seen W) (hf : Fr NoB W W') : NdS M w0 bt bm rI l es clock g cap L seen W' :=
  ⟨h.fr.step hf, h.tab.fr hf (fun h => h) (fun h => h) (fun _ _ h => h.elim), hf.at (fun h => h) h.map, by obtain ⟨c, h1, h2⟩ := h.it; exact ⟨c, hf.at (fun h => h) h1, h2⟩, h.own.step hf,
    fun x hx => ⟨OwnI.fr (h.args x hx).1 hf (fun _ _ h => h), (h.args x hx).2⟩, h.bt, h.bm⟩
theorem NdS.next (h : NdS M w0 bt bm rI l es clock g cap L seen W) (hI : w0.heap.size ≤ rI) (b : Nat) : NdS M w0 bt bm rI l es clock g cap L (seen.push b) (setBlock W rI (.mapIter (some bm) clock (seen.push b) clock)) := by
  obtain ⟨c, h1, h2⟩ := h.it
  have hlt := (Array.getElem?_eq_some_iff.1 h1).1
  have hf := frBlock hlt (.mapIter (some bm) clock (seen.push b) clock)
  have hb := h.bt
  have hb2 := h.bm
  refine ⟨h.fr.trans' hf (fun k hk e => by have e : k = rI := e; omega), h.tab.fr hf (fun e => by have e : bt = rI := e; omega) (fun e => by have e : bm = rI := e; omega) (fun k _ e => .inr (by have e : k = rI := e; omega)), hf.at (fun e => by have e : bm = rI := e; omega) h.map, ⟨clock, by simp [setBlock, hlt], Nat.le_refl _⟩, ?_, fun x hx => ⟨?_, (h.args x hx).2⟩, hb, hb2⟩
  · exact OwnE.fr h.own hf (fun k hk => ownsRow_ne h.own h1 hk)
  · exact OwnI.fr (h.args x hx).1 hf (fun k hk => ownsRow_ne (h.args x hx).1 h1 hk)
theorem NdS.push (h : NdS M w0 bt bm rI l es clock g cap L seen W) (x : Node × Value) (hx : OwnI w0.heap.size W x.2 x.1.args) (hne : ∀ k, x.2.ownBlock = some k → k ≠ g) (hxl : x.1.args.length ≤ 1000000) {p : Option Addr} {n q : Nat}
    (ho : OwnN w0.heap.size W' (.slice p n q) (L ++ [x])) (hg : W.grownBy W' (some g)) (hv : (Value.slice p n q).ownBlock = some g ∨ (Value.slice p n q).ownBlock = some W.heap.size) : ∃ g', Value.slice p n q = .slice (some ⟨g', 0, none⟩) (L ++ [x]).length q ∧ NdS M w0 bt bm rI l es clock g' q (L ++ [x]) seen W' := by
  obtain ⟨c, h1, h2⟩ := h.it
  have hf : Fr (fun k => k = g) W W' := (Fr.refl _ _).grown hg (fun k hk _ => by cases hk; rfl)
  have hgB : w0.heap.size ≤ g := (OwnE.lt h.own rfl).1
  have hb := h.bt
  have hb2 := h.bm
  have hrI : g ≠ rI := ownsRow_ne h.own h1 rfl
  rcases OwnE.form' ho with ⟨e1, _⟩ | ⟨g', cap', e1, hg1, hg2, hc⟩
  · rw [e1] at hv; rcases hv with h | h <;> cases h
  · simp only [Value.slice.injEq] at e1
    obtain ⟨rfl, rfl, rfl⟩ := e1
    have hg' : g' = g ∨ g' = W.heap.size := by rcases hv with h | h <;> cases h <;> simp
    refine ⟨g', rfl, h.fr.trans' hf (fun k hk e => by have e : k = g := e; omega), h.tab.fr hf (fun e => by have e : bt = g := e; omega) (fun e => by have e : bm = g := e; omega) (fun k _ e => .inr (by have e : k = g := e; omega)), hf.at (fun e => by have e : bm = g := e; omega) h.map, ⟨c, hf.at (fun e => by have e : rI = g := e; omega) h1, h2⟩, ho, fun y hy => ?_, hb, hb2⟩
    have key : ∀ y : Node × Value, OwnI w0.heap.size W y.2 y.1.args → (∀ k, y.2.ownBlock = some k → k ≠ g) → y.1.args.length ≤ 1000000 → OwnI w0.heap.size W' y.2 y.1.args ∧ (∀ k, y.2.ownBlock = some k → k ≠ g') ∧ y.1.args.length ≤ 1000000 := fun y h1 h2 h3 =>
      ⟨OwnI.fr h1 hf h2, fun k hk => by
        have := (World.ownsRow.lt h1 k hk).2
        have := h2 k hk
        omega, h3⟩
    rw [List.mem_append, List.mem_singleton] at hy
    rcases hy with hy | rfl
    · exact key y (h.args y hy).1 (h.args y hy).2.1 (h.args y hy).2.2
    · exact key _ hx hne hxl
end

/-- How many entries are left. -/
def leftN (w : World) (bm rI : Nat) : Nat := match w.heap[bm]?, w.heap[rI]? with
  | some (.map es _), some (.mapIter _ _ seen _) => (leftOf es seen).size
  | _, _ => 0
theorem NdS.left {M : Nat → Prop} {w0 : World} {bt bm rI : Nat} {l : List TEnt} {es : Array MapEntry} {clock g cap : Nat} {L : List (Node × Value)} {seen : Array Nat} {W : World} (h : NdS M w0 bt bm rI l es clock g cap L seen W) : leftN W bm rI = (leftOf es seen).toList.length := by
  obtain ⟨c, h1, _⟩ := h.it
  simp only [leftN, h.map, h1, Array.length_toList]

theorem TableAt.more {M : Nat → Prop} {w : World} {bt bm : Nat} {l : List TEnt} (h : TableAt M w bt bm l) : TableAt (fun k => M k ∨ w.heap.size ≤ k) w bt bm l := ⟨h.head, h.map, fun x hx => ⟨(h.ents x hx).1.more, (h.ents x hx).2⟩⟩

set_option maxHeartbeats 4000000 in
theorem nodes_any (M : Nat → Prop) (w : World) (bt bm : Nat) (l : List TEnt) (h : TableAt M w bt bm l) (hlen : l.length ≤ 1000000) (hsm : ∀ x ∈ l, x.node.args.length ≤ 1000000) :
    Calls Tryd.prog 33 #[.pointer (some ⟨bt, 0, none⟩)] w fun e w' => ∃ v L, e = .returned v ∧ OutN w.heap.size w' v L ∧ (L.map (·.1)).Perm (l.map (·.node)) ∧ L.Pairwise (fun x y => ¬ nodeCmp y.1 x.1 < 0) ∧ Fr NoB w w' := by
  have hc := h.cell
  have hl := fun ty => h.map.len (P := Tryd.prog) (t := 56) Tryd.underlying56 ty
  rw [List.length_map] at hl
  have hbt := h.lt
  have hbm := h.map.lt
  have HT := hid h
  have HSM := hid hsm
  have HBT := hid hbt
  have HBM := hid hbm
  obtain ⟨es, clock, hes, hpairs, hst⟩ := h.map
  have HES := hid hes
  have HP := hid hpairs
  have HST := hid hst
  have HLE := hid hlen
  clear h hsm hes hpairs hst hbm hbt
  obtain ⟨i0, hi, hz0, hz1, hz2⟩ := info_parts infoNode
  go_enter Tryd.func33, Tryd.ntmps33
  go_wp2_with (first
    | (go_at_call 45; refine (made_any M w bt bm l HT.out).mono ?_; rintro e w9 ⟨rfl, h9⟩; have h9 := h9.symm; subst h9)
    | (at_make; refine wpList_make_own _ rfl _ _ 43 rfl w.heap.size 26 i0 _ 5 Tryd.underlying43 hi hz0 hz1 _ _ _ l.length rfl rfl (by simp) (by rw [hz2]; omega) (by unfold maxLen; omega) (Nat.le_refl _) ?_; intro w1 ho1 hg1; have H1 : Hid (Fr NoB w w1) := (Fr.refl _ _).grown hg1 (fun k hk => by cases hk); have HO := hid ho1; have hc1 := (H1.out.at (fun h => h) HT.out.head); have hc2 : w1.cell? ⟨bt, 0, none⟩ = some (.map (some bm)) := (by simp [World.cell?, hc1]); have hr := run_range_map (P := Tryd.prog) w1 56 _ _ bm es clock Tryd.underlying56 (H1.out.at (fun h => h) HES.out); clear ho1 hg1 hc1 hl hc))
  have S0 : Hid (NdS M w bt bm w1.heap.size l es clock w.heap.size l.length [] #[] (w1.alloc (.mapIter (some bm) clock #[] clock))) :=
    ⟨H1.out.alloc _, HT.out.more.fr (H1.out.alloc _) (fun h => h) (fun h => h) (fun _ _ h => h.elim), (H1.out.alloc _).at (fun h => h) HES.out, ⟨clock, at_new w1 _, Nat.le_refl _⟩, OwnE.step HO.out ((Fr.refl _ _).alloc _), (fun x hx => by cases hx), HBT.out, HBM.out⟩
  have HI : Hid (w.heap.size ≤ w1.heap.size) := H1.out.size
  clear hc2 hr H1 HO
  go_loopw [3] (fun v wr => ∃ seen g cap L rest, v = .slice (some ⟨g, 0, none⟩) (List.length L) cap ∧ NdS M w bt bm w1.heap.size l es clock g cap L seen wr ∧ (leftOf es seen).toList.map (·.val) = List.map entV rest ∧ (L.map (·.1) ++ rest.map (·.node)).Perm (l.map (·.node)) ∧ ∀ x ∈ rest, x ∈ l)
    (fun _ wr => leftN wr bm w1.heap.size)
  case atStart =>
    refine ⟨#[], _, _, [], l, rfl, S0.out, ?_, by simp, fun x hx => hx⟩
    have e : (leftOf es #[]).toList = es.toList := by unfold leftOf; simp
    have := congrArg (List.map (·.2)) HP.out
    rw [List.map_map, List.map_map, List.map_map] at this
    rw [e]
    exact this
  case round =>
    obtain ⟨seen, g, cap, L, rest, rfl, hs, hrest, hperm, hmem⟩ := hrel
    have S1 := hid hs
    have HR := hid hrest
    have HPM := hid hperm
    have HMM := hid hmem
    clear hs hrest hperm hmem
    obtain ⟨c0, hit, hc0⟩ := S1.out.it
    have hlt := (Array.getElem?_eq_some_iff.1 hit).1
    have hll : L.length + rest.length = l.length := by have := HPM.out.length_eq; simpa using this
    rcases run_next_at (P := Tryd.prog) wr 0 w1.heap.size bm clock c0 seen es clock hit S1.out.map HST.out.1 hc0 with ⟨h0, hrun⟩ | ⟨e, he, w2, hw2, hrun⟩
    · have hr0 : rest = [] := by
        have := congrArg List.length HR.out
        simp [h0] at this
        exact List.eq_nil_of_length_eq_zero this.symm
      subst hr0
      clear hit hc0 h0
      have hL : L.length ≤ 1000000000 := by omega
      go_wp2_with fail
      refine (sort_nodes w.heap.size wr g cap L S1.out.own (fun x hx => ⟨(S1.out.args x hx).1.rdOff (S1.out.args x hx).2.1, (S1.out.args x hx).2.2⟩) hL).mono ?_
      rintro e w2 ⟨rfl, L', hpm, hpw, hcells, hfz, hf⟩
      have hgB : w.heap.size ≤ g := (OwnE.lt S1.out.own rfl).1
      have HOUT : Hid (OutN w.heap.size w2 (.slice (some ⟨g, 0, none⟩) L.length cap) L') := by
        have hgl := (OwnE.lt S1.out.own rfl).2
        have hcap : L.length ≤ cap := by
          rcases OwnE.form' S1.out.own with ⟨h1, _⟩ | ⟨_, _, h1, _, _, h4⟩
          · cases h1
          · simp only [Value.slice.injEq] at h1
            obtain ⟨_, _, rfl⟩ := h1
            exact h4
        have hle := hpm.length_eq
        refine ⟨⟨g, cap, by rw [hle], hgB, Nat.lt_of_lt_of_le hgl hf.size, by rw [hle]; exact hcap, hcells, by rw [hle]; exact hfz, fun x hx => (S1.out.args x (hpm.subset hx)).2.1⟩, fun x hx => OwnI.fr (S1.out.args x (hpm.subset hx)).1 hf (S1.out.args x (hpm.subset hx)).2.1⟩
      have HPM2 : Hid ((L'.map (·.1)).Perm (l.map (·.node))) := (hpm.map _).trans (by have := HPM.out; simpa using this)
      have HF : Hid (Fr NoB w w2) := S1.out.fr.trans' hf (fun k hk e => by have e : k = g := e; omega)
      have HPW := hid hpw
      clear hpm hpw hcells hfz hf
      go_wp2
      go_ret
      exact ⟨_, rfl, _, HOUT.out, HPM2.out, HPW.out, HF.out⟩
    · have hin : e ∈ es.toList := by
        unfold leftOf at he
        rw [Array.toList_filter] at he
        exact (List.mem_filter.1 he).1
      have hps := (left_step HST.out.2.1 he).map (·.val)
      obtain ⟨rest', hpr, hm'⟩ := perm_lift entV hps rest HR.out.symm
      match rest', hpr, hm' with
      | x :: rest2, hpr, hm' =>
      simp only [List.map_cons, List.cons.injEq] at hm'
      obtain ⟨hv, hm2⟩ := hm'
      obtain ⟨xn, xs, xi⟩ := x
      have hxl : (⟨xn, xs, xi⟩ : TEnt) ∈ l := HMM.out _ (hpr.subset (by simp))
      have S2a : Hid (NdS M w bt bm w1.heap.size l es clock g cap L seen w2) := by
        rcases hw2 with rfl | rfl
        · exact S1.out
        · exact S1.out.step (Fr.refl _ _).drew
      have S2 := hid (S2a.out.next HI.out e.born)
      have hlt2 : w1.heap.size < w2.heap.size := by rcases hw2 with rfl | rfl <;> exact hlt
      have hI3 : (setBlock w2 w1.heap.size (.mapIter (some bm) clock (seen.push e.born) clock)).heap[w1.heap.size]? = some (.mapIter (some bm) clock (seen.push e.born) clock) := by simp [setBlock, hlt2]
      obtain ⟨w3, hw3⟩ : ∃ w3, setBlock w2 w1.heap.size (.mapIter (some bm) clock (seen.push e.born) clock) = w3 := ⟨_, rfl⟩
      rw [hw3] at hrun S2 hI3
      have hen := run_entry_at (P := Tryd.prog) w3 w1.heap.size bm clock seen es clock e hI3 S2.out.map hin HST.out.2.1
      obtain ⟨a, c, hxa⟩ := (S2.out.tab.ents _ hxl).1.form
      simp only at hxa
      subst hxa
      rw [← hv] at hen hrun
      simp only [entV] at hen hrun
      have HX := hid ((S2.out.tab.ents _ hxl).1.weaken (M := NoB) (fun _ _ h => h.elim))
      have HXL := hid (HSM.out _ hxl)
      have HRP := hid hpr
      have HM2 := hid hm2
      have HN3 := hid (show w3.heap.size ≤ w3.heap.size from Nat.le_refl _)
      have HLM : Hid ((leftOf es (seen.push e.born)).toList.length < leftN wr bm w1.heap.size) := (by have h1 := (left_step HST.out.2.1 he).length_eq; have h2 := S1.out.left; simp only [List.length_cons] at h1; show _ < _; omega)
      clear hw3 hw2 hlt2 hI3 hps hpr hm2 hv hit hc0 hlt he hin S1 S2a
      go_wp2_with fail
      refine (hcCopy_any NoB xn _ _ (HX.out.fr ((Fr.refl NoB w3).alloc _) (fun _ _ h => h)) (by have h : xn.args.length ≤ 1000000 := HXL.out; omega)).mono ?_
      rintro e' w5 ⟨p5, q5, rfl, ho5, hf5⟩
      have S5 := hid ((S2.out.step ((Fr.refl NoB w3).alloc _)).step hf5)
      have O5 := hid ho5
      clear ho5
      have hw5 : w.heap.size ≤ (w3.alloc (.cells #[.int .i64 xn.op, .int .i64 xn.width, .int .u64 xn.val, .string xn.name, .slice a xn.args.length c, .int .i64 xi] 71)).heap.size := by have := S2.out.fr.size; simp only [World.size_alloc]; omega
      have hle5 := hf5.size
      have HNE : Hid (∀ k, (Value.slice p5 xn.args.length q5).ownBlock = some k → k ≠ g) := fun k hk => by
        have h1 := (World.ownsRow.lt O5.out k hk).1
        have h2 : g < w3.heap.size := (OwnE.lt S2.out.own rfl).2
        simp only [World.size_alloc] at h1
        intro e; omega
      clear hf5
      go_wp2_with (at_builtin; (refine ap_nodes _ rfl _ _ rfl w.heap.size (.slice (some ⟨g, 0, none⟩) L.length cap) L rfl (OwnE.step S5.out.own ?_) NoB _ [(xn, .slice p5 xn.args.length q5)] rfl (rdN_lit (Fr.refl _ _) ?_) ?_ ?_ ?_); (exact (Fr.refl _ _).alloc _); (exact (OwnI.fr O5.out ((Fr.refl NoB w5).alloc _) (fun _ _ h => h)).rd (fun _ _ h => h)); (simp; omega); (have := S5.out.fr.size; simp only [World.size_alloc]; omega); intro v6 w6 ho6 hg6 ha6; obtain ⟨p6, q6, hv6⟩ := ho6.form; subst hv6; obtain ⟨g', hv7, S6⟩ := (S5.out.step ((Fr.refl NoB w5).alloc (.cells (nodeCells xn (.slice p5 xn.args.length q5)) 26))).push (xn, .slice p5 xn.args.length q5) ((OwnI.fr O5.out ((Fr.refl NoB w5).alloc _) (fun _ _ h => h)).base hw5) HNE.out HXL.out ho6 hg6 ha6; rw [hv7]; have S7 := hid S6; clear ho6 hg6 ha6 hv7 S6)
      have HLL := hid hll
      go_roundw
      case rel =>
        refine ⟨_, _, _, _, rest2, by simp, S7.out, HM2.out.symm, ?_, fun y hy => HMM.out y (HRP.out.subset (by simp [hy]))⟩
        refine List.Perm.trans ?_ HPM.out
        rw [List.map_append, List.append_assoc]
        refine List.Perm.append_left _ ?_
        have := HRP.out.map (·.node)
        exact this
      case measure =>
        rw [S7.out.left]; exact HLM.out

end Go.Proofs.YtkifedleajacpaaDoor
