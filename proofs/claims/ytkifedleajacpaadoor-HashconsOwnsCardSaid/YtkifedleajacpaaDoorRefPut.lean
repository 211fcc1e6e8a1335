/- The walks of the reference table's Put and Del. -/
import Derived.Test.YtkifedleajacpaaDoorRefGet
import Derived.Test.YtkifedleajacpaaDoorRowStep
namespace Go.Proofs.YtkifedleajacpaaDoor
open Go.RowKit
set_option maxRecDepth 100000

theorem RdE.takeE {α : Type} {enc : α → List Value} {k : Nat} (hk : ∀ x, (enc x).length = k) {M : Nat → Prop} {w : World} {b off n cap : Nat} {l : List α} (h : RdE enc M w (.slice (some ⟨b, off, none⟩) n cap) l) (i : Nat) (hi : i ≤ l.length) : RdE enc M w (.slice (some ⟨b, off, none⟩) i cap) (l.take i) := by
  by_cases h0 : i = 0
  · subst h0; exact .inl ⟨⟨_, cap, rfl, fun h => by cases h⟩, by simp⟩
  · rcases h.form' (by omega) with ⟨b', off', cap', h1, h2, h3, h4, h5⟩
    simp only [Value.slice.injEq, Option.some.injEq, Addr.mk.injEq, and_true] at h1
    obtain ⟨⟨rfl, rfl⟩, rfl, rfl⟩ := h1
    have e : (l.take i).length = i := by simp; omega
    exact .inr ⟨b, off, cap, by rw [e], h2, h3, by omega, by rw [flatE_take enc hk l i hi]; exact h5.take _⟩
theorem RdE.dropE {α : Type} {enc : α → List Value} {k : Nat} (hk : ∀ x, (enc x).length = k) {M : Nat → Prop} {w : World} {b off n cap : Nat} {l : List α} (h : RdE enc M w (.slice (some ⟨b, off, none⟩) n cap) l) (i : Nat) (hi : i ≤ l.length) : RdE enc M w (.slice (some ⟨b, off + i * k, none⟩) (l.length - i) (cap - i)) (l.drop i) := by
  by_cases h0 : i = l.length
  · subst h0
    rw [Nat.sub_self]
    exact .inl ⟨⟨_, _, rfl, fun h => by cases h⟩, by simp⟩
  · rcases h.form' (by omega) with ⟨b', off', cap', h1, h2, h3, h4, h5⟩
    simp only [Value.slice.injEq, Option.some.injEq, Addr.mk.injEq, and_true] at h1
    obtain ⟨⟨rfl, rfl⟩, rfl, rfl⟩ := h1
    have e : (l.drop i).length = l.length - i := by simp
    exact .inr ⟨b, off + i * k, cap - i, by rw [e], h2, h3, by rw [e]; omega, by rw [flatE_drop enc hk l i hi]; exact h5.drop _⟩

theorem AtS.takeN {M N : Nat → Prop} {B : Nat} {w0 : World} {bt : Nat} {vi : Value} {r : List TEnt} {n : Node} {v : Value} {W : World} {g c q : Nat} (h : AtS M N B w0 bt (.slice (some ⟨g, 0, none⟩) c q) vi r n v W) (i : Nat) (hi : i ≤ r.length) :
    RdN NoB W (.slice (some ⟨g, 0, none⟩) i q) ((r.take i).map fun x => (x.node, x.sl)) := by
  rw [List.map_take]
  exact ⟨(RdE.takeE nsLen h.tab.rdN.row i (by simpa using hi)).weaken (fun _ _ h => h.elim), fun x hx => (h.tab.rdN.args x (List.mem_of_mem_take hx)).weaken (fun _ _ h => h.elim)⟩
theorem AtS.dropN {M N : Nat → Prop} {B : Nat} {w0 : World} {bt : Nat} {vi : Value} {r : List TEnt} {n : Node} {v : Value} {W : World} {g c q : Nat} (h : AtS M N B w0 bt (.slice (some ⟨g, 0, none⟩) c q) vi r n v W) (i : Nat) (hi : i ≤ r.length) :
    RdN NoB W (.slice (some ⟨g, i * 5, none⟩) (r.length - i) (q - i)) ((r.drop i).map fun x => (x.node, x.sl)) := by
  rw [List.map_drop]
  have h2 := RdE.dropE nsLen h.tab.rdN.row i (by simpa using hi)
  rw [List.length_map, Nat.zero_add] at h2
  exact ⟨h2.weaken (fun _ _ h => h.elim), fun x hx => (h.tab.rdN.args x (List.mem_of_mem_drop hx)).weaken (fun _ _ h => h.elim)⟩

/-- A copied row lies between the sizes. -/
theorem OwnI.rdIn {w3 w4 : World} {v : Value} {l : List Int} (h : OwnI w3.heap.size w4 v l) : RdI (fun k => k < w3.heap.size ∨ w4.heap.size ≤ k) w4 v l := by
  have h2 := (h.rd (M := fun k => k < w3.heap.size) (fun k hk => by omega)).more
  exact h2
theorem AtS.dropZ {M N : Nat → Prop} {B : Nat} {w0 : World} {bt : Nat} {vi : Value} {r : List TEnt} {n : Node} {v : Value} {W : World} {g c q : Nat} (_ : AtS M N B w0 bt (.slice (some ⟨g, 0, none⟩) c q) vi r n v W) (i : Nat) (_h : i ≤ r.length) (hq : r.length ≤ i) {q' : Nat} :
    RdN NoB W (.slice (some ⟨g, 0, none⟩) 0 q') ((r.drop i).map fun x => (x.node, x.sl)) := by
  have e : r.drop i = [] := List.drop_of_length_le (by omega)
  rw [e]
  exact ⟨.inl ⟨⟨_, _, rfl, fun h => by cases h⟩, rfl⟩, fun x hx => by cases hx⟩

theorem RdI.takeI {M : Nat → Prop} {w : World} {b off n cap : Nat} {l : List Int} (h : RdI M w (.slice (some ⟨b, off, none⟩) n cap) l) (i : Nat) (hi : i ≤ l.length) : RdI M w (.slice (some ⟨b, off, none⟩) i cap) (l.take i) := (RdE.takeE (enc := iCells) (k := 1) (fun _ => rfl) h.rdE i hi).rdI
theorem RdI.dropI {M : Nat → Prop} {w : World} {b off n cap : Nat} {l : List Int} (h : RdI M w (.slice (some ⟨b, off, none⟩) n cap) l) (i : Nat) (hi : i ≤ l.length) : RdI M w (.slice (some ⟨b, off + i, none⟩) (l.length - i) (cap - i)) (l.drop i) := by
  have := (RdE.dropE (enc := iCells) (k := 1) (fun _ => rfl) h.rdE i hi).rdI
  rwa [Nat.mul_one] at this
theorem AtS.rdIds {M N : Nat → Prop} {B : Nat} {w0 : World} {bt : Nat} {vn vi : Value} {r : List TEnt} {n : Node} {v : Value} {W : World} (h : AtS M N B w0 bt vn vi r n v W) : RdI NoB W vi (r.map (·.id)) := h.tab.ids.rd (fun _ _ h => h)
theorem AtS.takeI {M N : Nat → Prop} {B : Nat} {w0 : World} {bt : Nat} {vn : Value} {r : List TEnt} {n : Node} {v : Value} {W : World} {g c q : Nat} (h : AtS M N B w0 bt vn (.slice (some ⟨g, 0, none⟩) c q) r n v W) (i : Nat) (hi : i ≤ r.length) :
    RdI NoB W (.slice (some ⟨g, 0, none⟩) i q) ((r.take i).map (·.id)) := by
  rw [List.map_take]
  exact h.rdIds.takeI i (by simpa using hi)
theorem AtS.dropI {M N : Nat → Prop} {B : Nat} {w0 : World} {bt : Nat} {vn : Value} {r : List TEnt} {n : Node} {v : Value} {W : World} {g c q : Nat} (h : AtS M N B w0 bt vn (.slice (some ⟨g, 0, none⟩) c q) r n v W) (i : Nat) (hi : i ≤ r.length) :
    RdI NoB W (.slice (some ⟨g, i, none⟩) (r.length - i) (q - i)) ((r.drop i).map (·.id)) := by
  rw [List.map_drop]
  have h2 := h.rdIds.dropI i (by simpa using hi)
  rwa [List.length_map, Nat.zero_add] at h2
theorem AtS.dropIZ {M N : Nat → Prop} {B : Nat} {w0 : World} {bt : Nat} {vn : Value} {r : List TEnt} {n : Node} {v : Value} {W : World} {g c q : Nat} (_ : AtS M N B w0 bt vn (.slice (some ⟨g, 0, none⟩) c q) r n v W) (i : Nat) (_h : i ≤ r.length) (hq : r.length ≤ i) {q' : Nat} :
    RdI NoB W (.slice (some ⟨g, 0, none⟩) 0 q') ((r.drop i).map (·.id)) := by
  have e : r.drop i = [] := List.drop_of_length_le (by omega)
  rw [e]
  exact .inl ⟨⟨_, _, rfl, fun h => by cases h⟩, rfl⟩
theorem rdI_zero {M : Nat → Prop} (W : World) (ad : Addr) (q : Nat) (r : List TEnt) (i : Nat) (h : r.length ≤ i) : RdI M W (.slice (some ad) 0 q) ((r.drop i).map (·.id)) := .inl ⟨⟨_, _, rfl, fun h => by cases h⟩, by rw [List.drop_of_length_le h]; rfl⟩
theorem rdI_nil {M : Nat → Prop} (W : World) {l : List Int} (h : l = []) : RdI M W (.slice none 0 0) l := .inl ⟨⟨none, 0, rfl, fun _ => rfl⟩, h⟩
theorem rdN_nil {M : Nat → Prop} (W : World) {l : List (Node × Value)} (h : l = []) : RdN M W (.slice none 0 0) l := ⟨.inl ⟨⟨none, 0, rfl, fun _ => rfl⟩, h⟩, fun x hx => by subst h; cases hx⟩

/-- A table behind its two stores. -/
theorem refAt_stored {M : Nat → Prop} {B : Nat} {w W : World} {bt : Nat} {vn vi vn' vi' : Value} {r' : List TEnt} (hB : B ≤ w.heap.size) (hM : ∀ k, M k → k < w.heap.size) (hh : W.heap[bt]? = some (.cells #[vn, vi] 45 (0, 0))) (hbt : bt < B) (out : ¬ M bt)
    (hn : OwnN w.heap.size W vn' (r'.map fun x => (x.node, x.sl))) (hi : OwnI w.heap.size W vi' (r'.map (·.id))) (ha : ∀ x ∈ r', RdI (fun k => M k ∨ k = bt) W x.sl x.node.args) (hs : ∀ x ∈ r', x.node.args.length ≤ 1000000) (hr : Rises r') :
    RefAt M B ((W.setCell ⟨bt, 0, none⟩ vn').setCell ⟨bt, 1, none⟩ vi') bt vn' vi' r' ∧ Fr (fun k => k = bt) W ((W.setCell ⟨bt, 0, none⟩ vn').setCell ⟨bt, 1, none⟩ vi') := by
  have hf : Fr (fun k => k = bt) W ((W.setCell ⟨bt, 0, none⟩ vn').setCell ⟨bt, 1, none⟩ vi') := ((Fr.refl (fun k => k = bt) W).setCell (p := ⟨bt, 0, none⟩) (fun _ => rfl) _).setCell (p := ⟨bt, 1, none⟩) (fun _ => rfl) _
  refine ⟨⟨?_, ?_, ?_, fun x hx => (ha x hx).fr hf (fun k _ h => .inr h), hs, hr, fun k hk h => ?_, fun k hk h => ?_, out, hbt⟩, hf⟩
  · have := set_at (set_at hh 0 vn') 1 vi'
    simpa using this
  · exact OwnE.base (OwnE.fr hn hf (fun k hk h => by have := (OwnE.lt hn hk).1; have h : k = bt := h; omega)) hB
  · exact (OwnI.fr hi hf (fun k hk h => by have := (World.ownsRow.lt hi k hk).1; have h : k = bt := h; omega)).base hB
  · have := hM k h; have := (OwnE.lt hn hk).1; omega
  · have := hM k h; have := (World.ownsRow.lt hi k hk).1; omega

theorem perm_put (r : List TEnt) (i : Nat) (x : TEnt) : (keysOf (r.take i ++ [x] ++ r.drop i)).Perm (keysOf (r ++ [x])) := by
  refine List.Perm.map _ ?_
  conv => rhs; rw [← List.take_append_drop i r]
  rw [List.append_assoc, List.append_assoc]
  exact List.Perm.append_left _ List.perm_append_comm

set_option maxHeartbeats 8000000 in
theorem refPut_some (M N : Nat → Prop) (B : Nat) (w : World) (bt : Nat) (vn vi : Value) (r : List TEnt) (h : RefAt M B w bt vn vi r) (n : Node) (s : Value) (id : Int) (hr : RdI N w s n.args) (hl : n.args.length ≤ 1000000) (hlen : r.length ≤ 1000000) (hg : tget r n = none) (hM : ∀ k, M k → k < w.heap.size) (hB : B ≤ w.heap.size) (hne : r ≠ []) :
    Calls Tryd.prog 26 #[.pointer (some ⟨bt, 0, none⟩), nodeV n s, .int .i64 id] w fun e w' => e = .returned (.bool true) ∧ ∃ vn' vi' r' sl, RefAt M B w' bt vn' vi' r' ∧ (keysOf r').Perm (keysOf (r ++ [⟨n, sl, id⟩])) ∧ Fr (fun k => k = bt) w w' := by
  obtain ⟨a, cap, rfl⟩ := hr.form
  have S0 : Hid (AtS M N B w bt vn vi r n (.slice a n.args.length cap) (w.alloc (.cells (nodeCells n (.slice a n.args.length cap)) 26))) :=
    ⟨(Fr.refl NoB w).alloc _, h.step ((Fr.refl NoB w).alloc _), hr.fr ((Fr.refl NoB w).alloc _) (fun _ _ h => h.elim), at_new w _⟩
  have HG := hid hg
  have HNE := hid hne
  have HM := hid hM
  clear h hr hg hM hne
  unfold nodeV
  go_enter Tryd.func26, Tryd.ntmps26
  go_wp2_with fail
  refine (at_any M N B _ bt vn vi r S0.out.tab n _ S0.out.rd hl hlen).mono ?_
  rintro e w1 ⟨hf, i, hi, hlow, ⟨rfl, hlt, hn⟩ | ⟨rfl, hhi⟩⟩
  · have := tget_at hlow hlt hn
    rw [HG.out] at this; cases this
  have S1 := hid (S0.out.step hf).more
  have hH : w.heap.size < w1.heap.size := Nat.lt_of_lt_of_le (by simp) hf.size
  have HLOW := hid hlow
  have HHI := hid hhi
  clear hf hlow hhi S0
  obtain ⟨pn, qn, hvn⟩ := S1.out.tab.nodes.form
  obtain ⟨pi, qi, hvi⟩ := S1.out.tab.ids.form
  rw [List.length_map] at hvn hvi
  subst hvn
  subst hvi
  have q3 : (0 : Int) ≤ (i : Int) := by omega
  have q4 : (i : Int) ≤ (r.length : Int) := by omega
  rcases OwnE.form' S1.out.tab.nodes with ⟨h1, h2⟩ | ⟨g, cap2, h1, hg1, hg2, hcap⟩
  · exact absurd (by simpa using h2) HNE.out
  · simp only [Value.slice.injEq] at h1
    obtain ⟨rfl, h1, rfl⟩ := h1
    clear h1
    rw [List.length_map] at hcap
    have q1 : i ≤ qn := by omega
    have q2 : (i : Int) ≤ (qn : Int) := by omega
    have q5 : (r.length : Int) ≤ (qn : Int) := by omega
    rcases Nat.lt_or_ge i qn with hqi | hqi
    · have hqn : (qn = i) = False := eq_false (by omega)
      obtain ⟨t0, t1, tf, tl⟩ := two_of S1.out.tab.head
      obtain ⟨b0, b1, b2, b3, b4, bf, bl⟩ := five_of S1.out.box
      go_wp2
      go_region_held3 (fun w' => w'.cell? ⟨bt, 0, none⟩ = some (.slice (some ⟨g, 0, none⟩) r.length qn) ∧ w'.cell? ⟨w.heap.size, 0, none⟩ = some (.int .i64 n.op) ∧ w'.cell? ⟨w.heap.size, 1, none⟩ = some (.int .i64 n.width) ∧ w'.cell? ⟨w.heap.size, 2, none⟩ = some (.int .u64 n.val) ∧ w'.cell? ⟨w.heap.size, 3, none⟩ = some (.string n.name) ∧ w'.cell? ⟨w.heap.size, 4, none⟩ = some (.slice a n.args.length cap)) (go_keep)
        (first
          | (refine nodes_step _ (by rfl) _ _ (by rfl) w.heap.size (.slice p5 (i + 1) q5) _ (by rfl) OB.out NoB _ _ (by rfl) (S1.out.dropN i hi) (r.length + 1) (by simp; try omega) (by omega) S1.out.fr.size ?_; intro p7 q7 w7 ho7 hg7 ha7; have hF7 : Hid (Fr (fun k => w1.heap.size ≤ k ∧ (k < w3.heap.size ∨ w4.heap.size ≤ k)) w5 w7) := (Fr.refl _ w5).grown hg7 (fun k hk _ => HP5.out k hk); have S1 := hid (S1.out.move hF7.out (fun _ h => h.1) hH); have OD := hid ho7; have XC := hid (XC.out.fr hF7.out (fun _ _ h => h.2)); have HP7 : Hid (∀ k, (Value.slice p7 (r.length + 1) q7).ownBlock = some k → w1.heap.size ≤ k) := (fun k hk => by rcases ha7 with h | h <;> rw [h] at hk; exact (HP5.out k hk).1; simp only [Option.some.injEq] at hk; have := HZ4.out; have := HZ3.out; have := HZ5.out; omega); clear ho7 hg7 ha7 hF7 OB HP5; clear t0 t1 tf tl b0 b1 b2 b3 b4 bf bl; obtain ⟨t0, t1, tf, tl⟩ := two_of S1.out.tab.head; obtain ⟨b0, b1, b2, b3, b4, bf, bl⟩ := five_of S1.out.box)
          | (refine nodes_step _ (by rfl) _ _ (by rfl) w.heap.size (.slice p3 i q3) ((r.take i).map fun x => (x.node, x.sl)) (by rfl) (OwnE.step OA.out ?_) NoB _ [(n, .slice p4 n.args.length q4)] (by rfl) (rdN_lit (Fr.refl _ _) ((XC.out.weaken (fun _ _ h => h.elim)).fr ?_ (fun _ _ h => h))) (i + 1) (by simp; try omega) (by omega) ?_ ?_; (exact (Fr.refl _ _).alloc _); (exact (Fr.refl _ _).alloc _); (have := S1.out.fr.size; simp only [World.size_alloc]; omega); intro p5 q5 w5 ho5 hg5 ha5; have hF5 : Hid (Fr (fun k => w1.heap.size ≤ k ∧ (k < w3.heap.size ∨ w4.heap.size ≤ k)) w4 w5) := (((Fr.refl _ w4).alloc _).grown hg5 (fun k hk _ => ⟨(HP3.out k hk).1, .inl (HP3.out k hk).2⟩)); have S1 := hid (S1.out.move hF5.out (fun _ h => h.1) hH); have OB := hid ho5; have XC := hid (XC.out.fr hF5.out (fun _ _ h => h.2)); have HP5 : Hid (∀ k, (Value.slice p5 (i + 1) q5).ownBlock = some k → w1.heap.size ≤ k ∧ (k < w3.heap.size ∨ w4.heap.size ≤ k)) := (fun k hk => by rcases ha5 with h | h <;> rw [h] at hk; exact ⟨(HP3.out k hk).1, .inl (HP3.out k hk).2⟩; simp only [Option.some.injEq, World.size_alloc] at hk; have := HZ4.out; have := HZ3.out; omega); have HZ5 : Hid (w4.heap.size ≤ w5.heap.size) := hF5.out.size; clear ho5 hg5 ha5 hF5 OA HP3; clear t0 t1 tf tl b0 b1 b2 b3 b4 bf bl; obtain ⟨t0, t1, tf, tl⟩ := two_of S1.out.tab.head; obtain ⟨b0, b1, b2, b3, b4, bf, bl⟩ := five_of S1.out.box)
          | (go_at_call 15; have X := refCopy_any _ n _ _ S1.out.rd (by omega); (with_reducible refine X.mono ?_); clear X; rintro e w4 ⟨p4, q4, rfl, ho, hf⟩; have S1 := hid (S1.out.move hf (fun _ h => h.elim) hH); have XC := hid (OwnI.rdIn ho); have OA := hid (OA.out.fr hf (fun _ _ h => h)); have HZ4 : Hid (w3.heap.size ≤ w4.heap.size) := hf.size; clear ho hf; clear t0 t1 tf tl b0 b1 b2 b3 b4 bf bl; obtain ⟨t0, t1, tf, tl⟩ := two_of S1.out.tab.head; obtain ⟨b0, b1, b2, b3, b4, bf, bl⟩ := five_of S1.out.box)
          | (refine nodes_step _ (by rfl) _ _ (by rfl) w.heap.size (.slice none 0 0) [] (by rfl) (OwnE.nil _ _ _ _ _) NoB _ _ (by rfl) (S1.out.drew.takeN i hi) i (by simp; try omega) (by omega) S1.out.drew.fr.size ?_; intro p3 q3 w3 ho3 hg3 ha3; have hf : Hid (Fr NoB _ w3) := Fr.grown (Fr.refl _ _) hg3 (fun k hk => by simp [Value.ownBlock] at hk); have S1 := hid (S1.out.drew.move hf.out (fun _ h => h.elim) hH); have OA := hid (show OwnN w.heap.size w3 (.slice p3 i q3) ((r.take i).map fun x => (x.node, x.sl)) from ho3); have HP3 : Hid (∀ k, (Value.slice p3 i q3).ownBlock = some k → w1.heap.size ≤ k ∧ k < w3.heap.size) := (fun k hk => ⟨by rcases ha3 with h | h <;> rw [h] at hk <;> simp [Value.ownBlock] at hk; exact Nat.le_of_eq hk, (OwnE.lt ho3 hk).2⟩); have HZ3 : Hid (w1.heap.size ≤ w3.heap.size) := hf.out.size; clear ho3 hg3 ha3 hf; clear t0 t1 tf tl b0 b1 b2 b3 b4 bf bl; obtain ⟨t0, t1, tf, tl⟩ := two_of S1.out.tab.head; obtain ⟨b0, b1, b2, b3, b4, bf, bl⟩ := five_of S1.out.box))
      rcases OwnI.form' S1.out.tab.ids with ⟨h1', h2'⟩ | ⟨g', cap2', h1', hg1', hg2', hcap'⟩
      · exact absurd (by simpa using h2') HNE.out
      · simp only [Value.slice.injEq] at h1'
        obtain ⟨rfl, h1', rfl⟩ := h1'
        clear h1'
        rw [List.length_map] at hcap'
        have z1 : i ≤ qi := by omega
        have z2 : (i : Int) ≤ (qi : Int) := by omega
        have z5 : (r.length : Int) ≤ (qi : Int) := by omega
        rcases Nat.lt_or_ge i qi with hqi' | hqi'
        · have hqn' : (qi = i) = False := eq_false (by omega)
          go_wp2
          go_region_held3 (fun w' => w'.cell? ⟨bt, 1, none⟩ = some (.slice (some ⟨g', 0, none⟩) r.length qi)) (go_keep)
            (first
              | (refine ints_step _ (by rfl) _ _ (by rfl) w7.heap.size (.slice p9 (i + 1) q9) _ (by rfl) O9.out NoB _ _ (by rfl) (by first | exact S7.out.dropI i hi | exact rdI_zero _ _ _ r i (by omega)) (r.length + 1) (by simp; try omega) (by omega) F9.out.size ?_; intro p10 q10 w10 ho10 hg10 ha10; have F10 : Hid (Fr NoB w7 w10) := Fr.grown F9.out hg10 (fun k hk hk2 => by have := (World.ownsRow.lt O9.out k hk).1; omega); have S7 := hid (S1.out.step F10.out); have O10 := hid ho10; clear ho10 hg10 ha10; clear t1; obtain ⟨t0', t1, tf', tl'⟩ := two_of S7.out.tab.head; clear t0' tf' tl')
              | (refine ints_step _ (by rfl) _ _ (by rfl) w7.heap.size (.slice p8 i q8) ((r.take i).map (·.id)) (by rfl) (OwnI.fr O8.out ?_ (fun _ _ h => h)) NoB _ [id] (by rfl) (by first | exact HL.out | exact rdI_lit' (l := [id]) rfl rfl rfl (fun h => h)) (i + 1) (by simp; try omega) (by omega) ?_ ?_; (first | exact Fr.refl NoB _ | exact (Fr.refl NoB _).alloc _); (have := F8.out.size; first | exact this | (simp only [World.size_alloc]; omega)); intro p9 q9 w9 ho9 hg9 ha9; have F9 : Hid (Fr NoB w7 w9) := Fr.grown (by first | exact F8.out | exact F8.out.alloc _) hg9 (fun k hk hk2 => by have := (World.ownsRow.lt O8.out k hk).1; omega); have S7 := hid (S1.out.step F9.out); have O9 := hid ho9; clear ho9 hg9 ha9; clear t1; obtain ⟨t0', t1, tf', tl'⟩ := two_of S7.out.tab.head; clear t0' tf' tl')
              | (refine ints_step _ (by rfl) _ _ (by rfl) w7.heap.size (.slice none 0 0) [] (by rfl) (OwnI.nil _ _) NoB _ _ (by rfl) ((S1.out.step (by first | exact (Fr.refl NoB w7).drew | exact (Fr.refl NoB w7).drew.alloc _)).takeI i hi) i (by simp; try omega) (by omega) ?_ ?_; (first | exact Nat.le_refl _ | (simp only [World.size_alloc, World.size_drew]; omega)); intro p8 q8 w8 ho8 hg8 ha8; have F8 : Hid (Fr NoB w7 w8) := Fr.grown (by first | exact (Fr.refl NoB w7).drew | exact (Fr.refl NoB w7).drew.alloc _) hg8 (fun k hk => by simp [Value.ownBlock] at hk); (try have HL : Hid (RdI NoB w8 (.slice (some ⟨w7.heap.size, 0, none⟩) 1 1) [id]) := (rdI_lit' (w := w7.drew) (cs := #[Value.int .i64 id]) (l := [id]) rfl rfl rfl (fun h => h)).fr (Fr.grown (Fr.refl NoB _) hg8 (fun k hk => by simp [Value.ownBlock] at hk)) (fun _ _ h => h)); have S7 := hid (S1.out.step F8.out); have O8 := hid ho8; clear ho8 hg8 ha8; clear t1; obtain ⟨t0', t1, tf', tl'⟩ := two_of S7.out.tab.head; clear t0' tf' tl'))
          all_goals
            obtain ⟨t0, t1, tf, tl⟩ := two_of S7.out.tab.head
            go_wp2
            go_ret
            have hperm := perm_put r i ⟨n, .slice p4 n.args.length q4, id⟩
            obtain ⟨s1, s2⟩ := refAt_stored (M := M) (r' := r.take i ++ [⟨n, .slice p4 n.args.length q4, id⟩] ++ r.drop i) hB HM.out S7.out.tab.head S7.out.tab.below (fun h => S7.out.tab.out3 (.inl h)) (vn' := .slice p7 (r.length + 1) q7) (vi' := .slice p10 (r.length + 1) q10)
              (by have := OD.out.step F10.out; simpa using this) (by have := O10.out.base (B' := w.heap.size) (by have := S1.out.fr.size; omega); simpa using this)
              (fun x hx => by
                simp only [List.mem_append, List.mem_singleton] at hx
                rcases hx with (hx | rfl) | hx
                · exact (S7.out.tab.args x (List.mem_of_mem_take hx)).weaken (fun k _ h => h.imp .inl (fun h => h))
                · refine (XC.out.fr F10.out (fun _ _ h => h.elim)).weaken (fun k _ h => .inl ?_)
                  have := HZ3.out
                  rcases h with h | h
                  · have := HM.out k h; omega
                  · have := S7.out.tab.below; omega
                · exact (S7.out.tab.args x (List.mem_of_mem_drop hx)).weaken (fun k _ h => h.imp .inl (fun h => h)))
              (fun x hx => by
                simp only [List.mem_append, List.mem_singleton] at hx
                rcases hx with (hx | rfl) | hx
                · exact S7.out.tab.small x (List.mem_of_mem_take hx)
                · exact hl
                · exact S7.out.tab.small x (List.mem_of_mem_drop hx))
              (S7.out.tab.rises.put HLOW.out HHI.out)
            exact ⟨rfl, _, _, _, s1, ⟨_, hperm⟩, (S7.out.fr.mono (fun _ _ h => h.elim)).trans s2⟩

        · obtain rfl : i = qi := by omega
          go_wp2
          go_region_held3 (fun w' => w'.cell? ⟨bt, 1, none⟩ = some (.slice (some ⟨g', 0, none⟩) r.length i)) (go_keep)
            (first
              | (refine ints_step _ (by rfl) _ _ (by rfl) w7.heap.size (.slice p9 (i + 1) q9) _ (by rfl) O9.out NoB _ _ (by rfl) (S7.out.dropIZ i hi (by omega)) (r.length + 1) (by simp; try omega) (by omega) F9.out.size ?_; intro p10 q10 w10 ho10 hg10 ha10; have F10 : Hid (Fr NoB w7 w10) := Fr.grown F9.out hg10 (fun k hk hk2 => by have := (World.ownsRow.lt O9.out k hk).1; omega); have S7 := hid (S1.out.step F10.out); have O10 := hid ho10; clear ho10 hg10 ha10; clear t1; obtain ⟨t0', t1, tf', tl'⟩ := two_of S7.out.tab.head; clear t0' tf' tl')
              | (refine ints_step _ (by rfl) _ _ (by rfl) w7.heap.size (.slice p8 i q8) ((r.take i).map (·.id)) (by rfl) (OwnI.fr O8.out ?_ (fun _ _ h => h)) NoB _ [id] (by rfl) (by first | exact HL.out | exact rdI_lit' (l := [id]) rfl rfl rfl (fun h => h)) (i + 1) (by simp; try omega) (by omega) ?_ ?_; (first | exact Fr.refl NoB _ | exact (Fr.refl NoB _).alloc _); (have := F8.out.size; first | exact this | (simp only [World.size_alloc]; omega)); intro p9 q9 w9 ho9 hg9 ha9; have F9 : Hid (Fr NoB w7 w9) := Fr.grown (by first | exact F8.out | exact F8.out.alloc _) hg9 (fun k hk hk2 => by have := (World.ownsRow.lt O8.out k hk).1; omega); have S7 := hid (S1.out.step F9.out); have O9 := hid ho9; clear ho9 hg9 ha9; clear t1; obtain ⟨t0', t1, tf', tl'⟩ := two_of S7.out.tab.head; clear t0' tf' tl')
              | (refine ints_step _ (by rfl) _ _ (by rfl) w7.heap.size (.slice none 0 0) [] (by rfl) (OwnI.nil _ _) NoB _ _ (by rfl) ((S1.out.step (by first | exact (Fr.refl NoB w7).drew | exact (Fr.refl NoB w7).drew.alloc _)).takeI i hi) i (by simp; try omega) (by omega) ?_ ?_; (first | exact Nat.le_refl _ | (simp only [World.size_alloc, World.size_drew]; omega)); intro p8 q8 w8 ho8 hg8 ha8; have F8 : Hid (Fr NoB w7 w8) := Fr.grown (by first | exact (Fr.refl NoB w7).drew | exact (Fr.refl NoB w7).drew.alloc _) hg8 (fun k hk => by simp [Value.ownBlock] at hk); (try have HL : Hid (RdI NoB w8 (.slice (some ⟨w7.heap.size, 0, none⟩) 1 1) [id]) := (rdI_lit' (w := w7.drew) (cs := #[Value.int .i64 id]) (l := [id]) rfl rfl rfl (fun h => h)).fr (Fr.grown (Fr.refl NoB _) hg8 (fun k hk => by simp [Value.ownBlock] at hk)) (fun _ _ h => h)); have S7 := hid (S1.out.step F8.out); have O8 := hid ho8; clear ho8 hg8 ha8; clear t1; obtain ⟨t0', t1, tf', tl'⟩ := two_of S7.out.tab.head; clear t0' tf' tl'))
          all_goals
            obtain ⟨t0, t1, tf, tl⟩ := two_of S7.out.tab.head
            go_wp2
            go_ret
            have hperm := perm_put r i ⟨n, .slice p4 n.args.length q4, id⟩
            obtain ⟨s1, s2⟩ := refAt_stored (M := M) (r' := r.take i ++ [⟨n, .slice p4 n.args.length q4, id⟩] ++ r.drop i) hB HM.out S7.out.tab.head S7.out.tab.below (fun h => S7.out.tab.out3 (.inl h)) (vn' := .slice p7 (r.length + 1) q7) (vi' := .slice p10 (r.length + 1) q10)
              (by have := OD.out.step F10.out; simpa using this) (by have := O10.out.base (B' := w.heap.size) (by have := S1.out.fr.size; omega); simpa using this)
              (fun x hx => by
                simp only [List.mem_append, List.mem_singleton] at hx
                rcases hx with (hx | rfl) | hx
                · exact (S7.out.tab.args x (List.mem_of_mem_take hx)).weaken (fun k _ h => h.imp .inl (fun h => h))
                · refine (XC.out.fr F10.out (fun _ _ h => h.elim)).weaken (fun k _ h => .inl ?_)
                  have := HZ3.out
                  rcases h with h | h
                  · have := HM.out k h; omega
                  · have := S7.out.tab.below; omega
                · exact (S7.out.tab.args x (List.mem_of_mem_drop hx)).weaken (fun k _ h => h.imp .inl (fun h => h)))
              (fun x hx => by
                simp only [List.mem_append, List.mem_singleton] at hx
                rcases hx with (hx | rfl) | hx
                · exact S7.out.tab.small x (List.mem_of_mem_take hx)
                · exact hl
                · exact S7.out.tab.small x (List.mem_of_mem_drop hx))
              (S7.out.tab.rises.put HLOW.out HHI.out)
            exact ⟨rfl, _, _, _, s1, ⟨_, hperm⟩, (S7.out.fr.mono (fun _ _ h => h.elim)).trans s2⟩

    · obtain rfl : i = qn := by omega
      obtain ⟨t0, t1, tf, tl⟩ := two_of S1.out.tab.head
      obtain ⟨b0, b1, b2, b3, b4, bf, bl⟩ := five_of S1.out.box
      go_wp2
      go_region_held3 (fun w' => w'.cell? ⟨bt, 0, none⟩ = some (.slice (some ⟨g, 0, none⟩) r.length i) ∧ w'.cell? ⟨w.heap.size, 0, none⟩ = some (.int .i64 n.op) ∧ w'.cell? ⟨w.heap.size, 1, none⟩ = some (.int .i64 n.width) ∧ w'.cell? ⟨w.heap.size, 2, none⟩ = some (.int .u64 n.val) ∧ w'.cell? ⟨w.heap.size, 3, none⟩ = some (.string n.name) ∧ w'.cell? ⟨w.heap.size, 4, none⟩ = some (.slice a n.args.length cap)) (go_keep)
        (first
          | (refine nodes_step _ (by rfl) _ _ (by rfl) w.heap.size (.slice p5 (i + 1) q5) _ (by rfl) OB.out NoB _ _ (by rfl) (S1.out.dropZ i hi (by omega)) (r.length + 1) (by simp; try omega) (by omega) S1.out.fr.size ?_; intro p7 q7 w7 ho7 hg7 ha7; have hF7 : Hid (Fr (fun k => w1.heap.size ≤ k ∧ (k < w3.heap.size ∨ w4.heap.size ≤ k)) w5 w7) := (Fr.refl _ w5).grown hg7 (fun k hk _ => HP5.out k hk); have S1 := hid (S1.out.move hF7.out (fun _ h => h.1) hH); have OD := hid ho7; have XC := hid (XC.out.fr hF7.out (fun _ _ h => h.2)); have HP7 : Hid (∀ k, (Value.slice p7 (r.length + 1) q7).ownBlock = some k → w1.heap.size ≤ k) := (fun k hk => by rcases ha7 with h | h <;> rw [h] at hk; exact (HP5.out k hk).1; simp only [Option.some.injEq] at hk; have := HZ4.out; have := HZ3.out; have := HZ5.out; omega); clear ho7 hg7 ha7 hF7 OB HP5; clear t0 t1 tf tl b0 b1 b2 b3 b4 bf bl; obtain ⟨t0, t1, tf, tl⟩ := two_of S1.out.tab.head; obtain ⟨b0, b1, b2, b3, b4, bf, bl⟩ := five_of S1.out.box)
          | (refine nodes_step _ (by rfl) _ _ (by rfl) w.heap.size (.slice p3 i q3) ((r.take i).map fun x => (x.node, x.sl)) (by rfl) (OwnE.step OA.out ?_) NoB _ [(n, .slice p4 n.args.length q4)] (by rfl) (rdN_lit (Fr.refl _ _) ((XC.out.weaken (fun _ _ h => h.elim)).fr ?_ (fun _ _ h => h))) (i + 1) (by simp; try omega) (by omega) ?_ ?_; (exact (Fr.refl _ _).alloc _); (exact (Fr.refl _ _).alloc _); (have := S1.out.fr.size; simp only [World.size_alloc]; omega); intro p5 q5 w5 ho5 hg5 ha5; have hF5 : Hid (Fr (fun k => w1.heap.size ≤ k ∧ (k < w3.heap.size ∨ w4.heap.size ≤ k)) w4 w5) := (((Fr.refl _ w4).alloc _).grown hg5 (fun k hk _ => ⟨(HP3.out k hk).1, .inl (HP3.out k hk).2⟩)); have S1 := hid (S1.out.move hF5.out (fun _ h => h.1) hH); have OB := hid ho5; have XC := hid (XC.out.fr hF5.out (fun _ _ h => h.2)); have HP5 : Hid (∀ k, (Value.slice p5 (i + 1) q5).ownBlock = some k → w1.heap.size ≤ k ∧ (k < w3.heap.size ∨ w4.heap.size ≤ k)) := (fun k hk => by rcases ha5 with h | h <;> rw [h] at hk; exact ⟨(HP3.out k hk).1, .inl (HP3.out k hk).2⟩; simp only [Option.some.injEq, World.size_alloc] at hk; have := HZ4.out; have := HZ3.out; omega); have HZ5 : Hid (w4.heap.size ≤ w5.heap.size) := hF5.out.size; clear ho5 hg5 ha5 hF5 OA HP3; clear t0 t1 tf tl b0 b1 b2 b3 b4 bf bl; obtain ⟨t0, t1, tf, tl⟩ := two_of S1.out.tab.head; obtain ⟨b0, b1, b2, b3, b4, bf, bl⟩ := five_of S1.out.box)
          | (go_at_call 15; have X := refCopy_any _ n _ _ S1.out.rd (by omega); (with_reducible refine X.mono ?_); clear X; rintro e w4 ⟨p4, q4, rfl, ho, hf⟩; have S1 := hid (S1.out.move hf (fun _ h => h.elim) hH); have XC := hid (OwnI.rdIn ho); have OA := hid (OA.out.fr hf (fun _ _ h => h)); have HZ4 : Hid (w3.heap.size ≤ w4.heap.size) := hf.size; clear ho hf; clear t0 t1 tf tl b0 b1 b2 b3 b4 bf bl; obtain ⟨t0, t1, tf, tl⟩ := two_of S1.out.tab.head; obtain ⟨b0, b1, b2, b3, b4, bf, bl⟩ := five_of S1.out.box)
          | (refine nodes_step _ (by rfl) _ _ (by rfl) w.heap.size (.slice none 0 0) [] (by rfl) (OwnE.nil _ _ _ _ _) NoB _ _ (by rfl) (S1.out.drew.takeN i hi) i (by simp; try omega) (by omega) S1.out.drew.fr.size ?_; intro p3 q3 w3 ho3 hg3 ha3; have hf : Hid (Fr NoB _ w3) := Fr.grown (Fr.refl _ _) hg3 (fun k hk => by simp [Value.ownBlock] at hk); have S1 := hid (S1.out.drew.move hf.out (fun _ h => h.elim) hH); have OA := hid (show OwnN w.heap.size w3 (.slice p3 i q3) ((r.take i).map fun x => (x.node, x.sl)) from ho3); have HP3 : Hid (∀ k, (Value.slice p3 i q3).ownBlock = some k → w1.heap.size ≤ k ∧ k < w3.heap.size) := (fun k hk => ⟨by rcases ha3 with h | h <;> rw [h] at hk <;> simp [Value.ownBlock] at hk; exact Nat.le_of_eq hk, (OwnE.lt ho3 hk).2⟩); have HZ3 : Hid (w1.heap.size ≤ w3.heap.size) := hf.out.size; clear ho3 hg3 ha3 hf; clear t0 t1 tf tl b0 b1 b2 b3 b4 bf bl; obtain ⟨t0, t1, tf, tl⟩ := two_of S1.out.tab.head; obtain ⟨b0, b1, b2, b3, b4, bf, bl⟩ := five_of S1.out.box))
      rcases OwnI.form' S1.out.tab.ids with ⟨h1', h2'⟩ | ⟨g', cap2', h1', hg1', hg2', hcap'⟩
      · exact absurd (by simpa using h2') HNE.out
      · simp only [Value.slice.injEq] at h1'
        obtain ⟨rfl, h1', rfl⟩ := h1'
        clear h1'
        rw [List.length_map] at hcap'
        have z1 : i ≤ qi := by omega
        have z2 : (i : Int) ≤ (qi : Int) := by omega
        have z5 : (r.length : Int) ≤ (qi : Int) := by omega
        rcases Nat.lt_or_ge i qi with hqi' | hqi'
        · have hqn' : (qi = i) = False := eq_false (by omega)
          go_wp2
          go_region_held3 (fun w' => w'.cell? ⟨bt, 1, none⟩ = some (.slice (some ⟨g', 0, none⟩) r.length qi)) (go_keep)
            (first
              | (refine ints_step _ (by rfl) _ _ (by rfl) w7.heap.size (.slice p9 (i + 1) q9) _ (by rfl) O9.out NoB _ _ (by rfl) (by first | exact S7.out.dropI i hi | exact rdI_zero _ _ _ r i (by omega)) (r.length + 1) (by simp; try omega) (by omega) F9.out.size ?_; intro p10 q10 w10 ho10 hg10 ha10; have F10 : Hid (Fr NoB w7 w10) := Fr.grown F9.out hg10 (fun k hk hk2 => by have := (World.ownsRow.lt O9.out k hk).1; omega); have S7 := hid (S1.out.step F10.out); have O10 := hid ho10; clear ho10 hg10 ha10; clear t1; obtain ⟨t0', t1, tf', tl'⟩ := two_of S7.out.tab.head; clear t0' tf' tl')
              | (refine ints_step _ (by rfl) _ _ (by rfl) w7.heap.size (.slice p8 i q8) ((r.take i).map (·.id)) (by rfl) (OwnI.fr O8.out ?_ (fun _ _ h => h)) NoB _ [id] (by rfl) (by first | exact HL.out | exact rdI_lit' (l := [id]) rfl rfl rfl (fun h => h)) (i + 1) (by simp; try omega) (by omega) ?_ ?_; (first | exact Fr.refl NoB _ | exact (Fr.refl NoB _).alloc _); (have := F8.out.size; first | exact this | (simp only [World.size_alloc]; omega)); intro p9 q9 w9 ho9 hg9 ha9; have F9 : Hid (Fr NoB w7 w9) := Fr.grown (by first | exact F8.out | exact F8.out.alloc _) hg9 (fun k hk hk2 => by have := (World.ownsRow.lt O8.out k hk).1; omega); have S7 := hid (S1.out.step F9.out); have O9 := hid ho9; clear ho9 hg9 ha9; clear t1; obtain ⟨t0', t1, tf', tl'⟩ := two_of S7.out.tab.head; clear t0' tf' tl')
              | (refine ints_step _ (by rfl) _ _ (by rfl) w7.heap.size (.slice none 0 0) [] (by rfl) (OwnI.nil _ _) NoB _ _ (by rfl) ((S1.out.step (by first | exact (Fr.refl NoB w7).drew | exact (Fr.refl NoB w7).drew.alloc _)).takeI i hi) i (by simp; try omega) (by omega) ?_ ?_; (first | exact Nat.le_refl _ | (simp only [World.size_alloc, World.size_drew]; omega)); intro p8 q8 w8 ho8 hg8 ha8; have F8 : Hid (Fr NoB w7 w8) := Fr.grown (by first | exact (Fr.refl NoB w7).drew | exact (Fr.refl NoB w7).drew.alloc _) hg8 (fun k hk => by simp [Value.ownBlock] at hk); (try have HL : Hid (RdI NoB w8 (.slice (some ⟨w7.heap.size, 0, none⟩) 1 1) [id]) := (rdI_lit' (w := w7.drew) (cs := #[Value.int .i64 id]) (l := [id]) rfl rfl rfl (fun h => h)).fr (Fr.grown (Fr.refl NoB _) hg8 (fun k hk => by simp [Value.ownBlock] at hk)) (fun _ _ h => h)); have S7 := hid (S1.out.step F8.out); have O8 := hid ho8; clear ho8 hg8 ha8; clear t1; obtain ⟨t0', t1, tf', tl'⟩ := two_of S7.out.tab.head; clear t0' tf' tl'))
          all_goals
            obtain ⟨t0, t1, tf, tl⟩ := two_of S7.out.tab.head
            go_wp2
            go_ret
            have hperm := perm_put r i ⟨n, .slice p4 n.args.length q4, id⟩
            obtain ⟨s1, s2⟩ := refAt_stored (M := M) (r' := r.take i ++ [⟨n, .slice p4 n.args.length q4, id⟩] ++ r.drop i) hB HM.out S7.out.tab.head S7.out.tab.below (fun h => S7.out.tab.out3 (.inl h)) (vn' := .slice p7 (r.length + 1) q7) (vi' := .slice p10 (r.length + 1) q10)
              (by have := OD.out.step F10.out; simpa using this) (by have := O10.out.base (B' := w.heap.size) (by have := S1.out.fr.size; omega); simpa using this)
              (fun x hx => by
                simp only [List.mem_append, List.mem_singleton] at hx
                rcases hx with (hx | rfl) | hx
                · exact (S7.out.tab.args x (List.mem_of_mem_take hx)).weaken (fun k _ h => h.imp .inl (fun h => h))
                · refine (XC.out.fr F10.out (fun _ _ h => h.elim)).weaken (fun k _ h => .inl ?_)
                  have := HZ3.out
                  rcases h with h | h
                  · have := HM.out k h; omega
                  · have := S7.out.tab.below; omega
                · exact (S7.out.tab.args x (List.mem_of_mem_drop hx)).weaken (fun k _ h => h.imp .inl (fun h => h)))
              (fun x hx => by
                simp only [List.mem_append, List.mem_singleton] at hx
                rcases hx with (hx | rfl) | hx
                · exact S7.out.tab.small x (List.mem_of_mem_take hx)
                · exact hl
                · exact S7.out.tab.small x (List.mem_of_mem_drop hx))
              (S7.out.tab.rises.put HLOW.out HHI.out)
            exact ⟨rfl, _, _, _, s1, ⟨_, hperm⟩, (S7.out.fr.mono (fun _ _ h => h.elim)).trans s2⟩

        · obtain rfl : i = qi := by omega
          go_wp2
          go_region_held3 (fun w' => w'.cell? ⟨bt, 1, none⟩ = some (.slice (some ⟨g', 0, none⟩) r.length i)) (go_keep)
            (first
              | (refine ints_step _ (by rfl) _ _ (by rfl) w7.heap.size (.slice p9 (i + 1) q9) _ (by rfl) O9.out NoB _ _ (by rfl) (S7.out.dropIZ i hi (by omega)) (r.length + 1) (by simp; try omega) (by omega) F9.out.size ?_; intro p10 q10 w10 ho10 hg10 ha10; have F10 : Hid (Fr NoB w7 w10) := Fr.grown F9.out hg10 (fun k hk hk2 => by have := (World.ownsRow.lt O9.out k hk).1; omega); have S7 := hid (S1.out.step F10.out); have O10 := hid ho10; clear ho10 hg10 ha10; clear t1; obtain ⟨t0', t1, tf', tl'⟩ := two_of S7.out.tab.head; clear t0' tf' tl')
              | (refine ints_step _ (by rfl) _ _ (by rfl) w7.heap.size (.slice p8 i q8) ((r.take i).map (·.id)) (by rfl) (OwnI.fr O8.out ?_ (fun _ _ h => h)) NoB _ [id] (by rfl) (by first | exact HL.out | exact rdI_lit' (l := [id]) rfl rfl rfl (fun h => h)) (i + 1) (by simp; try omega) (by omega) ?_ ?_; (first | exact Fr.refl NoB _ | exact (Fr.refl NoB _).alloc _); (have := F8.out.size; first | exact this | (simp only [World.size_alloc]; omega)); intro p9 q9 w9 ho9 hg9 ha9; have F9 : Hid (Fr NoB w7 w9) := Fr.grown (by first | exact F8.out | exact F8.out.alloc _) hg9 (fun k hk hk2 => by have := (World.ownsRow.lt O8.out k hk).1; omega); have S7 := hid (S1.out.step F9.out); have O9 := hid ho9; clear ho9 hg9 ha9; clear t1; obtain ⟨t0', t1, tf', tl'⟩ := two_of S7.out.tab.head; clear t0' tf' tl')
              | (refine ints_step _ (by rfl) _ _ (by rfl) w7.heap.size (.slice none 0 0) [] (by rfl) (OwnI.nil _ _) NoB _ _ (by rfl) ((S1.out.step (by first | exact (Fr.refl NoB w7).drew | exact (Fr.refl NoB w7).drew.alloc _)).takeI i hi) i (by simp; try omega) (by omega) ?_ ?_; (first | exact Nat.le_refl _ | (simp only [World.size_alloc, World.size_drew]; omega)); intro p8 q8 w8 ho8 hg8 ha8; have F8 : Hid (Fr NoB w7 w8) := Fr.grown (by first | exact (Fr.refl NoB w7).drew | exact (Fr.refl NoB w7).drew.alloc _) hg8 (fun k hk => by simp [Value.ownBlock] at hk); (try have HL : Hid (RdI NoB w8 (.slice (some ⟨w7.heap.size, 0, none⟩) 1 1) [id]) := (rdI_lit' (w := w7.drew) (cs := #[Value.int .i64 id]) (l := [id]) rfl rfl rfl (fun h => h)).fr (Fr.grown (Fr.refl NoB _) hg8 (fun k hk => by simp [Value.ownBlock] at hk)) (fun _ _ h => h)); have S7 := hid (S1.out.step F8.out); have O8 := hid ho8; clear ho8 hg8 ha8; clear t1; obtain ⟨t0', t1, tf', tl'⟩ := two_of S7.out.tab.head; clear t0' tf' tl'))
          all_goals
            obtain ⟨t0, t1, tf, tl⟩ := two_of S7.out.tab.head
            go_wp2
            go_ret
            have hperm := perm_put r i ⟨n, .slice p4 n.args.length q4, id⟩
            obtain ⟨s1, s2⟩ := refAt_stored (M := M) (r' := r.take i ++ [⟨n, .slice p4 n.args.length q4, id⟩] ++ r.drop i) hB HM.out S7.out.tab.head S7.out.tab.below (fun h => S7.out.tab.out3 (.inl h)) (vn' := .slice p7 (r.length + 1) q7) (vi' := .slice p10 (r.length + 1) q10)
              (by have := OD.out.step F10.out; simpa using this) (by have := O10.out.base (B' := w.heap.size) (by have := S1.out.fr.size; omega); simpa using this)
              (fun x hx => by
                simp only [List.mem_append, List.mem_singleton] at hx
                rcases hx with (hx | rfl) | hx
                · exact (S7.out.tab.args x (List.mem_of_mem_take hx)).weaken (fun k _ h => h.imp .inl (fun h => h))
                · refine (XC.out.fr F10.out (fun _ _ h => h.elim)).weaken (fun k _ h => .inl ?_)
                  have := HZ3.out
                  rcases h with h | h
                  · have := HM.out k h; omega
                  · have := S7.out.tab.below; omega
                · exact (S7.out.tab.args x (List.mem_of_mem_drop hx)).weaken (fun k _ h => h.imp .inl (fun h => h)))
              (fun x hx => by
                simp only [List.mem_append, List.mem_singleton] at hx
                rcases hx with (hx | rfl) | hx
                · exact S7.out.tab.small x (List.mem_of_mem_take hx)
                · exact hl
                · exact S7.out.tab.small x (List.mem_of_mem_drop hx))
              (S7.out.tab.rises.put HLOW.out HHI.out)
            exact ⟨rfl, _, _, _, s1, ⟨_, hperm⟩, (S7.out.fr.mono (fun _ _ h => h.elim)).trans s2⟩


set_option maxHeartbeats 8000000 in
theorem refPut_nil (M N : Nat → Prop) (B : Nat) (w : World) (bt : Nat) (vn vi : Value) (h : RefAt M B w bt vn vi ([] : List TEnt)) (n : Node) (s : Value) (id : Int) (hr : RdI N w s n.args) (hl : n.args.length ≤ 1000000) (hM : ∀ k, M k → k < w.heap.size) (hB : B ≤ w.heap.size) :
    Calls Tryd.prog 26 #[.pointer (some ⟨bt, 0, none⟩), nodeV n s, .int .i64 id] w fun e w' => e = .returned (.bool true) ∧ ∃ vn' vi' r' sl, RefAt M B w' bt vn' vi' r' ∧ (keysOf r').Perm (keysOf (([] : List TEnt) ++ [⟨n, sl, id⟩])) ∧ Fr (fun k => k = bt) w w' := by
  obtain ⟨a, cap, rfl⟩ := hr.form
  have S0 : Hid (AtS M N B w bt vn vi ([] : List TEnt) n (.slice a n.args.length cap) (w.alloc (.cells (nodeCells n (.slice a n.args.length cap)) 26))) :=
    ⟨(Fr.refl NoB w).alloc _, h.step ((Fr.refl NoB w).alloc _), hr.fr ((Fr.refl NoB w).alloc _) (fun _ _ h => h.elim), at_new w _⟩
  have HM := hid hM
  clear h hr hM
  unfold nodeV
  go_enter Tryd.func26, Tryd.ntmps26
  go_wp2_with fail
  refine (at_any M N B _ bt vn vi ([] : List TEnt) S0.out.tab n _ S0.out.rd hl (by simp)).mono ?_
  rintro e w1 ⟨hf, i, hi, hlow, ⟨rfl, hlt, hn⟩ | ⟨rfl, hhi⟩⟩
  · simp at hlt
  have S1 := hid (S0.out.step hf).more
  have hH : w.heap.size < w1.heap.size := Nat.lt_of_lt_of_le (by simp) hf.size
  have HLOW := hid hlow
  have HHI := hid hhi
  clear hf hlow hhi S0
  obtain ⟨pn, qn, hvn⟩ := S1.out.tab.nodes.form
  obtain ⟨pi, qi, hvi⟩ := S1.out.tab.ids.form
  rw [List.length_map] at hvn hvi
  subst hvn
  subst hvi
  obtain rfl : i = 0 := by simpa using hi
  rcases OwnE.form' S1.out.tab.nodes with ⟨h1, h2⟩ | ⟨g, cap2, h1, hg1, hg2, hcap⟩
  · simp only [Value.slice.injEq] at h1
    obtain ⟨rfl, _, rfl⟩ := h1
    obtain ⟨t0, t1, tf, tl⟩ := two_of S1.out.tab.head
    obtain ⟨b0, b1, b2, b3, b4, bf, bl⟩ := five_of S1.out.box
    go_wp2
    go_region_held3 (fun w' => w'.cell? ⟨bt, 0, none⟩ = some (.slice none 0 0) ∧ w'.cell? ⟨w.heap.size, 0, none⟩ = some (.int .i64 n.op) ∧ w'.cell? ⟨w.heap.size, 1, none⟩ = some (.int .i64 n.width) ∧ w'.cell? ⟨w.heap.size, 2, none⟩ = some (.int .u64 n.val) ∧ w'.cell? ⟨w.heap.size, 3, none⟩ = some (.string n.name) ∧ w'.cell? ⟨w.heap.size, 4, none⟩ = some (.slice a n.args.length cap)) (go_keep)
      (first
        | (refine nodes_step _ (by rfl) _ _ (by rfl) w.heap.size (.slice p5 1 q5) _ (by rfl) OB.out NoB _ _ (by rfl) (rdN_nil (l := (([] : List TEnt).drop 0).map fun x => (x.node, x.sl)) _ (by simp)) 1 (by simp; try omega) (by omega) S1.out.fr.size ?_; intro p7 q7 w7 ho7 hg7 ha7; have hF7 : Hid (Fr (fun k => w1.heap.size ≤ k ∧ (k < w3.heap.size ∨ w4.heap.size ≤ k)) w5 w7) := (Fr.refl _ w5).grown hg7 (fun k hk _ => HP5.out k hk); have S1 := hid (S1.out.move hF7.out (fun _ h => h.1) hH); have OD := hid ho7; have XC := hid (XC.out.fr hF7.out (fun _ _ h => h.2)); have HP7 : Hid (∀ k, (Value.slice p7 1 q7).ownBlock = some k → w1.heap.size ≤ k) := (fun k hk => by rcases ha7 with h | h <;> rw [h] at hk; exact (HP5.out k hk).1; simp only [Option.some.injEq] at hk; have := HZ4.out; have := HZ3.out; have := HZ5.out; omega); clear ho7 hg7 ha7 hF7 OB HP5; clear t0 t1 tf tl b0 b1 b2 b3 b4 bf bl; obtain ⟨t0, t1, tf, tl⟩ := two_of S1.out.tab.head; obtain ⟨b0, b1, b2, b3, b4, bf, bl⟩ := five_of S1.out.box)
        | (refine nodes_step _ (by rfl) _ _ (by rfl) w.heap.size (.slice p3 0 q3) ((([] : List TEnt).take 0).map fun x => (x.node, x.sl)) (by rfl) (OwnE.step OA.out ?_) NoB _ [(n, .slice p4 n.args.length q4)] (by rfl) (rdN_lit (Fr.refl _ _) ((XC.out.weaken (fun _ _ h => h.elim)).fr ?_ (fun _ _ h => h))) 1 (by simp; try omega) (by omega) ?_ ?_; (exact (Fr.refl _ _).alloc _); (exact (Fr.refl _ _).alloc _); (have := S1.out.fr.size; simp only [World.size_alloc]; omega); intro p5 q5 w5 ho5 hg5 ha5; have hF5 : Hid (Fr (fun k => w1.heap.size ≤ k ∧ (k < w3.heap.size ∨ w4.heap.size ≤ k)) w4 w5) := (((Fr.refl _ w4).alloc _).grown hg5 (fun k hk _ => ⟨(HP3.out k hk).1, .inl (HP3.out k hk).2⟩)); have S1 := hid (S1.out.move hF5.out (fun _ h => h.1) hH); have OB := hid ho5; have XC := hid (XC.out.fr hF5.out (fun _ _ h => h.2)); have HP5 : Hid (∀ k, (Value.slice p5 1 q5).ownBlock = some k → w1.heap.size ≤ k ∧ (k < w3.heap.size ∨ w4.heap.size ≤ k)) := (fun k hk => by rcases ha5 with h | h <;> rw [h] at hk; exact ⟨(HP3.out k hk).1, .inl (HP3.out k hk).2⟩; simp only [Option.some.injEq, World.size_alloc] at hk; have := HZ4.out; have := HZ3.out; omega); have HZ5 : Hid (w4.heap.size ≤ w5.heap.size) := hF5.out.size; clear ho5 hg5 ha5 hF5 OA HP3; clear t0 t1 tf tl b0 b1 b2 b3 b4 bf bl; obtain ⟨t0, t1, tf, tl⟩ := two_of S1.out.tab.head; obtain ⟨b0, b1, b2, b3, b4, bf, bl⟩ := five_of S1.out.box)
        | (go_at_call 15; have X := refCopy_any _ n _ _ S1.out.rd (by omega); (with_reducible refine X.mono ?_); clear X; rintro e w4 ⟨p4, q4, rfl, ho, hf⟩; have S1 := hid (S1.out.move hf (fun _ h => h.elim) hH); have XC := hid (OwnI.rdIn ho); have OA := hid (OA.out.fr hf (fun _ _ h => h)); have HZ4 : Hid (w3.heap.size ≤ w4.heap.size) := hf.size; clear ho hf; clear t0 t1 tf tl b0 b1 b2 b3 b4 bf bl; obtain ⟨t0, t1, tf, tl⟩ := two_of S1.out.tab.head; obtain ⟨b0, b1, b2, b3, b4, bf, bl⟩ := five_of S1.out.box)
        | (refine nodes_step _ (by rfl) _ _ (by rfl) w.heap.size (.slice none 0 0) [] (by rfl) (OwnE.nil _ _ _ _ _) NoB _ _ (by rfl) (rdN_nil (l := (([] : List TEnt).take 0).map fun x => (x.node, x.sl)) _ (by simp)) 0 (by simp; try omega) (by omega) S1.out.drew.fr.size ?_; intro p3 q3 w3 ho3 hg3 ha3; have hf : Hid (Fr NoB _ w3) := Fr.grown (Fr.refl _ _) hg3 (fun k hk => by simp [Value.ownBlock] at hk); have S1 := hid (S1.out.drew.move hf.out (fun _ h => h.elim) hH); have OA := hid (show OwnN w.heap.size w3 (.slice p3 0 q3) ((([] : List TEnt).take 0).map fun x => (x.node, x.sl)) from ho3); have HP3 : Hid (∀ k, (Value.slice p3 0 q3).ownBlock = some k → w1.heap.size ≤ k ∧ k < w3.heap.size) := (fun k hk => ⟨by rcases ha3 with h | h <;> rw [h] at hk <;> simp [Value.ownBlock] at hk; exact Nat.le_of_eq hk, (OwnE.lt ho3 hk).2⟩); have HZ3 : Hid (w1.heap.size ≤ w3.heap.size) := hf.out.size; clear ho3 hg3 ha3 hf; clear t0 t1 tf tl b0 b1 b2 b3 b4 bf bl; obtain ⟨t0, t1, tf, tl⟩ := two_of S1.out.tab.head; obtain ⟨b0, b1, b2, b3, b4, bf, bl⟩ := five_of S1.out.box))
    rcases OwnI.form' S1.out.tab.ids with ⟨h1', h2'⟩ | ⟨g', cap2', h1', hg1', hg2', hcap'⟩
    · simp only [Value.slice.injEq] at h1'
      obtain ⟨rfl, _, rfl⟩ := h1'
      go_wp2
      go_region_held3 (fun w' => w'.cell? ⟨bt, 1, none⟩ = some (.slice none 0 0)) (go_keep)
        (first
          | (refine ints_step _ (by rfl) _ _ (by rfl) w7.heap.size (.slice p9 1 q9) _ (by rfl) O9.out NoB _ _ (by rfl) (rdI_nil (l := (([] : List TEnt).drop 0).map (·.id)) _ (by simp)) 1 (by simp; try omega) (by omega) F9.out.size ?_; intro p10 q10 w10 ho10 hg10 ha10; have F10 : Hid (Fr NoB w7 w10) := Fr.grown F9.out hg10 (fun k hk hk2 => by have := (World.ownsRow.lt O9.out k hk).1; omega); have S7 := hid (S1.out.step F10.out); have O10 := hid ho10; clear ho10 hg10 ha10; clear t1; obtain ⟨t0', t1, tf', tl'⟩ := two_of S7.out.tab.head; clear t0' tf' tl')
          | (refine ints_step _ (by rfl) _ _ (by rfl) w7.heap.size (.slice p8 0 q8) ((([] : List TEnt).take 0).map (·.id)) (by rfl) (OwnI.fr O8.out ?_ (fun _ _ h => h)) NoB _ [id] (by rfl) (by first | exact HL.out | exact rdI_lit' (l := [id]) rfl rfl rfl (fun h => h)) 1 (by simp; try omega) (by omega) ?_ ?_; (first | exact Fr.refl NoB _ | exact (Fr.refl NoB _).alloc _); (have := F8.out.size; first | exact this | (simp only [World.size_alloc]; omega)); intro p9 q9 w9 ho9 hg9 ha9; have F9 : Hid (Fr NoB w7 w9) := Fr.grown (by first | exact F8.out | exact F8.out.alloc _) hg9 (fun k hk hk2 => by have := (World.ownsRow.lt O8.out k hk).1; omega); have S7 := hid (S1.out.step F9.out); have O9 := hid ho9; clear ho9 hg9 ha9; clear t1; obtain ⟨t0', t1, tf', tl'⟩ := two_of S7.out.tab.head; clear t0' tf' tl')
          | (refine ints_step _ (by rfl) _ _ (by rfl) w7.heap.size (.slice none 0 0) [] (by rfl) (OwnI.nil _ _) NoB _ _ (by rfl) (rdI_nil (l := (([] : List TEnt).take 0).map (·.id)) _ (by simp)) 0 (by simp; try omega) (by omega) ?_ ?_; (first | exact Nat.le_refl _ | (simp only [World.size_alloc, World.size_drew]; omega)); intro p8 q8 w8 ho8 hg8 ha8; have F8 : Hid (Fr NoB w7 w8) := Fr.grown (by first | exact (Fr.refl NoB w7).drew | exact (Fr.refl NoB w7).drew.alloc _) hg8 (fun k hk => by simp [Value.ownBlock] at hk); (try have HL : Hid (RdI NoB w8 (.slice (some ⟨w7.heap.size, 0, none⟩) 1 1) [id]) := (rdI_lit' (w := w7.drew) (cs := #[Value.int .i64 id]) (l := [id]) rfl rfl rfl (fun h => h)).fr (Fr.grown (Fr.refl NoB _) hg8 (fun k hk => by simp [Value.ownBlock] at hk)) (fun _ _ h => h)); have S7 := hid (S1.out.step F8.out); have O8 := hid ho8; clear ho8 hg8 ha8; clear t1; obtain ⟨t0', t1, tf', tl'⟩ := two_of S7.out.tab.head; clear t0' tf' tl'))
      all_goals
        obtain ⟨t0, t1, tf, tl⟩ := two_of S7.out.tab.head
        go_wp2
        go_ret
        have hperm := perm_put ([] : List TEnt) 0 ⟨n, .slice p4 n.args.length q4, id⟩
        obtain ⟨s1, s2⟩ := refAt_stored (M := M) (r' := ([] : List TEnt).take 0 ++ [⟨n, .slice p4 n.args.length q4, id⟩] ++ ([] : List TEnt).drop 0) hB HM.out S7.out.tab.head S7.out.tab.below (fun h => S7.out.tab.out3 (.inl h)) (vn' := .slice p7 1 q7) (vi' := .slice p10 1 q10)
          (by have := OD.out.step F10.out; simpa using this) (by have := O10.out.base (B' := w.heap.size) (by have := S1.out.fr.size; omega); simpa using this)
          (fun x hx => by
            simp only [List.mem_append, List.mem_singleton] at hx
            rcases hx with (hx | rfl) | hx
            · exact (S7.out.tab.args x (List.mem_of_mem_take hx)).weaken (fun k _ h => h.imp .inl (fun h => h))
            · refine (XC.out.fr F10.out (fun _ _ h => h.elim)).weaken (fun k _ h => .inl ?_)
              have := HZ3.out
              rcases h with h | h
              · have := HM.out k h; omega
              · have := S7.out.tab.below; omega
            · exact (S7.out.tab.args x (List.mem_of_mem_drop hx)).weaken (fun k _ h => h.imp .inl (fun h => h)))
          (fun x hx => by
            simp only [List.mem_append, List.mem_singleton] at hx
            rcases hx with (hx | rfl) | hx
            · exact S7.out.tab.small x (List.mem_of_mem_take hx)
            · exact hl
            · exact S7.out.tab.small x (List.mem_of_mem_drop hx))
          (S7.out.tab.rises.put HLOW.out HHI.out)
        exact ⟨rfl, _, _, _, s1, ⟨_, hperm⟩, (S7.out.fr.mono (fun _ _ h => h.elim)).trans s2⟩

    · simp only [Value.slice.injEq] at h1'
      obtain ⟨rfl, h1', rfl⟩ := h1'
      clear h1'
      rw [List.length_map] at hcap'
      have z1 : 0 ≤ qi := by omega
      have z2 : (0 : Int) ≤ (qi : Int) := by omega
      have z5 : (0 : Int) ≤ (qi : Int) := by omega
      rcases Nat.lt_or_ge 0 qi with hqi' | hqi'
      · have hqn' : (qi = 0) = False := eq_false (by omega)
        go_wp2
        go_region_held3 (fun w' => w'.cell? ⟨bt, 1, none⟩ = some (.slice (some ⟨g', 0, none⟩) 0 qi)) (go_keep)
          (first
            | (refine ints_step _ (by rfl) _ _ (by rfl) w7.heap.size (.slice p9 1 q9) _ (by rfl) O9.out NoB _ _ (by rfl) (by first | exact S7.out.dropI 0 hi | exact rdI_zero _ _ _ ([] : List TEnt) 0 (by omega)) 1 (by simp; try omega) (by omega) F9.out.size ?_; intro p10 q10 w10 ho10 hg10 ha10; have F10 : Hid (Fr NoB w7 w10) := Fr.grown F9.out hg10 (fun k hk hk2 => by have := (World.ownsRow.lt O9.out k hk).1; omega); have S7 := hid (S1.out.step F10.out); have O10 := hid ho10; clear ho10 hg10 ha10; clear t1; obtain ⟨t0', t1, tf', tl'⟩ := two_of S7.out.tab.head; clear t0' tf' tl')
            | (refine ints_step _ (by rfl) _ _ (by rfl) w7.heap.size (.slice p8 0 q8) ((([] : List TEnt).take 0).map (·.id)) (by rfl) (OwnI.fr O8.out ?_ (fun _ _ h => h)) NoB _ [id] (by rfl) (by first | exact HL.out | exact rdI_lit' (l := [id]) rfl rfl rfl (fun h => h)) 1 (by simp; try omega) (by omega) ?_ ?_; (first | exact Fr.refl NoB _ | exact (Fr.refl NoB _).alloc _); (have := F8.out.size; first | exact this | (simp only [World.size_alloc]; omega)); intro p9 q9 w9 ho9 hg9 ha9; have F9 : Hid (Fr NoB w7 w9) := Fr.grown (by first | exact F8.out | exact F8.out.alloc _) hg9 (fun k hk hk2 => by have := (World.ownsRow.lt O8.out k hk).1; omega); have S7 := hid (S1.out.step F9.out); have O9 := hid ho9; clear ho9 hg9 ha9; clear t1; obtain ⟨t0', t1, tf', tl'⟩ := two_of S7.out.tab.head; clear t0' tf' tl')
            | (refine ints_step _ (by rfl) _ _ (by rfl) w7.heap.size (.slice none 0 0) [] (by rfl) (OwnI.nil _ _) NoB _ _ (by rfl) ((S1.out.step (by first | exact (Fr.refl NoB w7).drew | exact (Fr.refl NoB w7).drew.alloc _)).takeI 0 hi) 0 (by simp; try omega) (by omega) ?_ ?_; (first | exact Nat.le_refl _ | (simp only [World.size_alloc, World.size_drew]; omega)); intro p8 q8 w8 ho8 hg8 ha8; have F8 : Hid (Fr NoB w7 w8) := Fr.grown (by first | exact (Fr.refl NoB w7).drew | exact (Fr.refl NoB w7).drew.alloc _) hg8 (fun k hk => by simp [Value.ownBlock] at hk); (try have HL : Hid (RdI NoB w8 (.slice (some ⟨w7.heap.size, 0, none⟩) 1 1) [id]) := (rdI_lit' (w := w7.drew) (cs := #[Value.int .i64 id]) (l := [id]) rfl rfl rfl (fun h => h)).fr (Fr.grown (Fr.refl NoB _) hg8 (fun k hk => by simp [Value.ownBlock] at hk)) (fun _ _ h => h)); have S7 := hid (S1.out.step F8.out); have O8 := hid ho8; clear ho8 hg8 ha8; clear t1; obtain ⟨t0', t1, tf', tl'⟩ := two_of S7.out.tab.head; clear t0' tf' tl'))
        all_goals
          obtain ⟨t0, t1, tf, tl⟩ := two_of S7.out.tab.head
          go_wp2
          go_ret
          have hperm := perm_put ([] : List TEnt) 0 ⟨n, .slice p4 n.args.length q4, id⟩
          obtain ⟨s1, s2⟩ := refAt_stored (M := M) (r' := ([] : List TEnt).take 0 ++ [⟨n, .slice p4 n.args.length q4, id⟩] ++ ([] : List TEnt).drop 0) hB HM.out S7.out.tab.head S7.out.tab.below (fun h => S7.out.tab.out3 (.inl h)) (vn' := .slice p7 1 q7) (vi' := .slice p10 1 q10)
            (by have := OD.out.step F10.out; simpa using this) (by have := O10.out.base (B' := w.heap.size) (by have := S1.out.fr.size; omega); simpa using this)
            (fun x hx => by
              simp only [List.mem_append, List.mem_singleton] at hx
              rcases hx with (hx | rfl) | hx
              · exact (S7.out.tab.args x (List.mem_of_mem_take hx)).weaken (fun k _ h => h.imp .inl (fun h => h))
              · refine (XC.out.fr F10.out (fun _ _ h => h.elim)).weaken (fun k _ h => .inl ?_)
                have := HZ3.out
                rcases h with h | h
                · have := HM.out k h; omega
                · have := S7.out.tab.below; omega
              · exact (S7.out.tab.args x (List.mem_of_mem_drop hx)).weaken (fun k _ h => h.imp .inl (fun h => h)))
            (fun x hx => by
              simp only [List.mem_append, List.mem_singleton] at hx
              rcases hx with (hx | rfl) | hx
              · exact S7.out.tab.small x (List.mem_of_mem_take hx)
              · exact hl
              · exact S7.out.tab.small x (List.mem_of_mem_drop hx))
            (S7.out.tab.rises.put HLOW.out HHI.out)
          exact ⟨rfl, _, _, _, s1, ⟨_, hperm⟩, (S7.out.fr.mono (fun _ _ h => h.elim)).trans s2⟩

      · obtain rfl : qi = 0 := by omega
        go_wp2
        go_region_held3 (fun w' => w'.cell? ⟨bt, 1, none⟩ = some (.slice (some ⟨g', 0, none⟩) 0 0)) (go_keep)
          (first
            | (refine ints_step _ (by rfl) _ _ (by rfl) w7.heap.size (.slice p9 1 q9) _ (by rfl) O9.out NoB _ _ (by rfl) (S7.out.dropIZ 0 hi (by omega)) 1 (by simp; try omega) (by omega) F9.out.size ?_; intro p10 q10 w10 ho10 hg10 ha10; have F10 : Hid (Fr NoB w7 w10) := Fr.grown F9.out hg10 (fun k hk hk2 => by have := (World.ownsRow.lt O9.out k hk).1; omega); have S7 := hid (S1.out.step F10.out); have O10 := hid ho10; clear ho10 hg10 ha10; clear t1; obtain ⟨t0', t1, tf', tl'⟩ := two_of S7.out.tab.head; clear t0' tf' tl')
            | (refine ints_step _ (by rfl) _ _ (by rfl) w7.heap.size (.slice p8 0 q8) ((([] : List TEnt).take 0).map (·.id)) (by rfl) (OwnI.fr O8.out ?_ (fun _ _ h => h)) NoB _ [id] (by rfl) (by first | exact HL.out | exact rdI_lit' (l := [id]) rfl rfl rfl (fun h => h)) 1 (by simp; try omega) (by omega) ?_ ?_; (first | exact Fr.refl NoB _ | exact (Fr.refl NoB _).alloc _); (have := F8.out.size; first | exact this | (simp only [World.size_alloc]; omega)); intro p9 q9 w9 ho9 hg9 ha9; have F9 : Hid (Fr NoB w7 w9) := Fr.grown (by first | exact F8.out | exact F8.out.alloc _) hg9 (fun k hk hk2 => by have := (World.ownsRow.lt O8.out k hk).1; omega); have S7 := hid (S1.out.step F9.out); have O9 := hid ho9; clear ho9 hg9 ha9; clear t1; obtain ⟨t0', t1, tf', tl'⟩ := two_of S7.out.tab.head; clear t0' tf' tl')
            | (refine ints_step _ (by rfl) _ _ (by rfl) w7.heap.size (.slice none 0 0) [] (by rfl) (OwnI.nil _ _) NoB _ _ (by rfl) ((S1.out.step (by first | exact (Fr.refl NoB w7).drew | exact (Fr.refl NoB w7).drew.alloc _)).takeI 0 hi) 0 (by simp; try omega) (by omega) ?_ ?_; (first | exact Nat.le_refl _ | (simp only [World.size_alloc, World.size_drew]; omega)); intro p8 q8 w8 ho8 hg8 ha8; have F8 : Hid (Fr NoB w7 w8) := Fr.grown (by first | exact (Fr.refl NoB w7).drew | exact (Fr.refl NoB w7).drew.alloc _) hg8 (fun k hk => by simp [Value.ownBlock] at hk); (try have HL : Hid (RdI NoB w8 (.slice (some ⟨w7.heap.size, 0, none⟩) 1 1) [id]) := (rdI_lit' (w := w7.drew) (cs := #[Value.int .i64 id]) (l := [id]) rfl rfl rfl (fun h => h)).fr (Fr.grown (Fr.refl NoB _) hg8 (fun k hk => by simp [Value.ownBlock] at hk)) (fun _ _ h => h)); have S7 := hid (S1.out.step F8.out); have O8 := hid ho8; clear ho8 hg8 ha8; clear t1; obtain ⟨t0', t1, tf', tl'⟩ := two_of S7.out.tab.head; clear t0' tf' tl'))
        all_goals
          obtain ⟨t0, t1, tf, tl⟩ := two_of S7.out.tab.head
          go_wp2
          go_ret
          have hperm := perm_put ([] : List TEnt) 0 ⟨n, .slice p4 n.args.length q4, id⟩
          obtain ⟨s1, s2⟩ := refAt_stored (M := M) (r' := ([] : List TEnt).take 0 ++ [⟨n, .slice p4 n.args.length q4, id⟩] ++ ([] : List TEnt).drop 0) hB HM.out S7.out.tab.head S7.out.tab.below (fun h => S7.out.tab.out3 (.inl h)) (vn' := .slice p7 1 q7) (vi' := .slice p10 1 q10)
            (by have := OD.out.step F10.out; simpa using this) (by have := O10.out.base (B' := w.heap.size) (by have := S1.out.fr.size; omega); simpa using this)
            (fun x hx => by
              simp only [List.mem_append, List.mem_singleton] at hx
              rcases hx with (hx | rfl) | hx
              · exact (S7.out.tab.args x (List.mem_of_mem_take hx)).weaken (fun k _ h => h.imp .inl (fun h => h))
              · refine (XC.out.fr F10.out (fun _ _ h => h.elim)).weaken (fun k _ h => .inl ?_)
                have := HZ3.out
                rcases h with h | h
                · have := HM.out k h; omega
                · have := S7.out.tab.below; omega
              · exact (S7.out.tab.args x (List.mem_of_mem_drop hx)).weaken (fun k _ h => h.imp .inl (fun h => h)))
            (fun x hx => by
              simp only [List.mem_append, List.mem_singleton] at hx
              rcases hx with (hx | rfl) | hx
              · exact S7.out.tab.small x (List.mem_of_mem_take hx)
              · exact hl
              · exact S7.out.tab.small x (List.mem_of_mem_drop hx))
            (S7.out.tab.rises.put HLOW.out HHI.out)
          exact ⟨rfl, _, _, _, s1, ⟨_, hperm⟩, (S7.out.fr.mono (fun _ _ h => h.elim)).trans s2⟩

  · simp only [Value.slice.injEq] at h1
    obtain ⟨rfl, h1, rfl⟩ := h1
    clear h1
    rcases Nat.lt_or_ge 0 qn with hqi | hqi
    · have hqn : (qn = 0) = False := eq_false (by omega)
      obtain ⟨t0, t1, tf, tl⟩ := two_of S1.out.tab.head
      obtain ⟨b0, b1, b2, b3, b4, bf, bl⟩ := five_of S1.out.box
      go_wp2
      go_region_held3 (fun w' => w'.cell? ⟨bt, 0, none⟩ = some (.slice (some ⟨g, 0, none⟩) 0 qn) ∧ w'.cell? ⟨w.heap.size, 0, none⟩ = some (.int .i64 n.op) ∧ w'.cell? ⟨w.heap.size, 1, none⟩ = some (.int .i64 n.width) ∧ w'.cell? ⟨w.heap.size, 2, none⟩ = some (.int .u64 n.val) ∧ w'.cell? ⟨w.heap.size, 3, none⟩ = some (.string n.name) ∧ w'.cell? ⟨w.heap.size, 4, none⟩ = some (.slice a n.args.length cap)) (go_keep)
        (first
          | (refine nodes_step _ (by rfl) _ _ (by rfl) w.heap.size (.slice p5 1 q5) _ (by rfl) OB.out NoB _ _ (by rfl) (S1.out.dropN 0 hi) 1 (by simp; try omega) (by omega) S1.out.fr.size ?_; intro p7 q7 w7 ho7 hg7 ha7; have hF7 : Hid (Fr (fun k => w1.heap.size ≤ k ∧ (k < w3.heap.size ∨ w4.heap.size ≤ k)) w5 w7) := (Fr.refl _ w5).grown hg7 (fun k hk _ => HP5.out k hk); have S1 := hid (S1.out.move hF7.out (fun _ h => h.1) hH); have OD := hid ho7; have XC := hid (XC.out.fr hF7.out (fun _ _ h => h.2)); have HP7 : Hid (∀ k, (Value.slice p7 1 q7).ownBlock = some k → w1.heap.size ≤ k) := (fun k hk => by rcases ha7 with h | h <;> rw [h] at hk; exact (HP5.out k hk).1; simp only [Option.some.injEq] at hk; have := HZ4.out; have := HZ3.out; have := HZ5.out; omega); clear ho7 hg7 ha7 hF7 OB HP5; clear t0 t1 tf tl b0 b1 b2 b3 b4 bf bl; obtain ⟨t0, t1, tf, tl⟩ := two_of S1.out.tab.head; obtain ⟨b0, b1, b2, b3, b4, bf, bl⟩ := five_of S1.out.box)
          | (refine nodes_step _ (by rfl) _ _ (by rfl) w.heap.size (.slice p3 0 q3) ((([] : List TEnt).take 0).map fun x => (x.node, x.sl)) (by rfl) (OwnE.step OA.out ?_) NoB _ [(n, .slice p4 n.args.length q4)] (by rfl) (rdN_lit (Fr.refl _ _) ((XC.out.weaken (fun _ _ h => h.elim)).fr ?_ (fun _ _ h => h))) 1 (by simp; try omega) (by omega) ?_ ?_; (exact (Fr.refl _ _).alloc _); (exact (Fr.refl _ _).alloc _); (have := S1.out.fr.size; simp only [World.size_alloc]; omega); intro p5 q5 w5 ho5 hg5 ha5; have hF5 : Hid (Fr (fun k => w1.heap.size ≤ k ∧ (k < w3.heap.size ∨ w4.heap.size ≤ k)) w4 w5) := (((Fr.refl _ w4).alloc _).grown hg5 (fun k hk _ => ⟨(HP3.out k hk).1, .inl (HP3.out k hk).2⟩)); have S1 := hid (S1.out.move hF5.out (fun _ h => h.1) hH); have OB := hid ho5; have XC := hid (XC.out.fr hF5.out (fun _ _ h => h.2)); have HP5 : Hid (∀ k, (Value.slice p5 1 q5).ownBlock = some k → w1.heap.size ≤ k ∧ (k < w3.heap.size ∨ w4.heap.size ≤ k)) := (fun k hk => by rcases ha5 with h | h <;> rw [h] at hk; exact ⟨(HP3.out k hk).1, .inl (HP3.out k hk).2⟩; simp only [Option.some.injEq, World.size_alloc] at hk; have := HZ4.out; have := HZ3.out; omega); have HZ5 : Hid (w4.heap.size ≤ w5.heap.size) := hF5.out.size; clear ho5 hg5 ha5 hF5 OA HP3; clear t0 t1 tf tl b0 b1 b2 b3 b4 bf bl; obtain ⟨t0, t1, tf, tl⟩ := two_of S1.out.tab.head; obtain ⟨b0, b1, b2, b3, b4, bf, bl⟩ := five_of S1.out.box)
          | (go_at_call 15; have X := refCopy_any _ n _ _ S1.out.rd (by omega); (with_reducible refine X.mono ?_); clear X; rintro e w4 ⟨p4, q4, rfl, ho, hf⟩; have S1 := hid (S1.out.move hf (fun _ h => h.elim) hH); have XC := hid (OwnI.rdIn ho); have OA := hid (OA.out.fr hf (fun _ _ h => h)); have HZ4 : Hid (w3.heap.size ≤ w4.heap.size) := hf.size; clear ho hf; clear t0 t1 tf tl b0 b1 b2 b3 b4 bf bl; obtain ⟨t0, t1, tf, tl⟩ := two_of S1.out.tab.head; obtain ⟨b0, b1, b2, b3, b4, bf, bl⟩ := five_of S1.out.box)
          | (refine nodes_step _ (by rfl) _ _ (by rfl) w.heap.size (.slice none 0 0) [] (by rfl) (OwnE.nil _ _ _ _ _) NoB _ _ (by rfl) (S1.out.drew.takeN 0 hi) 0 (by simp; try omega) (by omega) S1.out.drew.fr.size ?_; intro p3 q3 w3 ho3 hg3 ha3; have hf : Hid (Fr NoB _ w3) := Fr.grown (Fr.refl _ _) hg3 (fun k hk => by simp [Value.ownBlock] at hk); have S1 := hid (S1.out.drew.move hf.out (fun _ h => h.elim) hH); have OA := hid (show OwnN w.heap.size w3 (.slice p3 0 q3) ((([] : List TEnt).take 0).map fun x => (x.node, x.sl)) from ho3); have HP3 : Hid (∀ k, (Value.slice p3 0 q3).ownBlock = some k → w1.heap.size ≤ k ∧ k < w3.heap.size) := (fun k hk => ⟨by rcases ha3 with h | h <;> rw [h] at hk <;> simp [Value.ownBlock] at hk; exact Nat.le_of_eq hk, (OwnE.lt ho3 hk).2⟩); have HZ3 : Hid (w1.heap.size ≤ w3.heap.size) := hf.out.size; clear ho3 hg3 ha3 hf; clear t0 t1 tf tl b0 b1 b2 b3 b4 bf bl; obtain ⟨t0, t1, tf, tl⟩ := two_of S1.out.tab.head; obtain ⟨b0, b1, b2, b3, b4, bf, bl⟩ := five_of S1.out.box))
      rcases OwnI.form' S1.out.tab.ids with ⟨h1', h2'⟩ | ⟨g', cap2', h1', hg1', hg2', hcap'⟩
      · simp only [Value.slice.injEq] at h1'
        obtain ⟨rfl, _, rfl⟩ := h1'
        go_wp2
        go_region_held3 (fun w' => w'.cell? ⟨bt, 1, none⟩ = some (.slice none 0 0)) (go_keep)
          (first
            | (refine ints_step _ (by rfl) _ _ (by rfl) w7.heap.size (.slice p9 1 q9) _ (by rfl) O9.out NoB _ _ (by rfl) (rdI_nil (l := (([] : List TEnt).drop 0).map (·.id)) _ (by simp)) 1 (by simp; try omega) (by omega) F9.out.size ?_; intro p10 q10 w10 ho10 hg10 ha10; have F10 : Hid (Fr NoB w7 w10) := Fr.grown F9.out hg10 (fun k hk hk2 => by have := (World.ownsRow.lt O9.out k hk).1; omega); have S7 := hid (S1.out.step F10.out); have O10 := hid ho10; clear ho10 hg10 ha10; clear t1; obtain ⟨t0', t1, tf', tl'⟩ := two_of S7.out.tab.head; clear t0' tf' tl')
            | (refine ints_step _ (by rfl) _ _ (by rfl) w7.heap.size (.slice p8 0 q8) ((([] : List TEnt).take 0).map (·.id)) (by rfl) (OwnI.fr O8.out ?_ (fun _ _ h => h)) NoB _ [id] (by rfl) (by first | exact HL.out | exact rdI_lit' (l := [id]) rfl rfl rfl (fun h => h)) 1 (by simp; try omega) (by omega) ?_ ?_; (first | exact Fr.refl NoB _ | exact (Fr.refl NoB _).alloc _); (have := F8.out.size; first | exact this | (simp only [World.size_alloc]; omega)); intro p9 q9 w9 ho9 hg9 ha9; have F9 : Hid (Fr NoB w7 w9) := Fr.grown (by first | exact F8.out | exact F8.out.alloc _) hg9 (fun k hk hk2 => by have := (World.ownsRow.lt O8.out k hk).1; omega); have S7 := hid (S1.out.step F9.out); have O9 := hid ho9; clear ho9 hg9 ha9; clear t1; obtain ⟨t0', t1, tf', tl'⟩ := two_of S7.out.tab.head; clear t0' tf' tl')
            | (refine ints_step _ (by rfl) _ _ (by rfl) w7.heap.size (.slice none 0 0) [] (by rfl) (OwnI.nil _ _) NoB _ _ (by rfl) (rdI_nil (l := (([] : List TEnt).take 0).map (·.id)) _ (by simp)) 0 (by simp; try omega) (by omega) ?_ ?_; (first | exact Nat.le_refl _ | (simp only [World.size_alloc, World.size_drew]; omega)); intro p8 q8 w8 ho8 hg8 ha8; have F8 : Hid (Fr NoB w7 w8) := Fr.grown (by first | exact (Fr.refl NoB w7).drew | exact (Fr.refl NoB w7).drew.alloc _) hg8 (fun k hk => by simp [Value.ownBlock] at hk); (try have HL : Hid (RdI NoB w8 (.slice (some ⟨w7.heap.size, 0, none⟩) 1 1) [id]) := (rdI_lit' (w := w7.drew) (cs := #[Value.int .i64 id]) (l := [id]) rfl rfl rfl (fun h => h)).fr (Fr.grown (Fr.refl NoB _) hg8 (fun k hk => by simp [Value.ownBlock] at hk)) (fun _ _ h => h)); have S7 := hid (S1.out.step F8.out); have O8 := hid ho8; clear ho8 hg8 ha8; clear t1; obtain ⟨t0', t1, tf', tl'⟩ := two_of S7.out.tab.head; clear t0' tf' tl'))
        all_goals
          obtain ⟨t0, t1, tf, tl⟩ := two_of S7.out.tab.head
          go_wp2
          go_ret
          have hperm := perm_put ([] : List TEnt) 0 ⟨n, .slice p4 n.args.length q4, id⟩
          obtain ⟨s1, s2⟩ := refAt_stored (M := M) (r' := ([] : List TEnt).take 0 ++ [⟨n, .slice p4 n.args.length q4, id⟩] ++ ([] : List TEnt).drop 0) hB HM.out S7.out.tab.head S7.out.tab.below (fun h => S7.out.tab.out3 (.inl h)) (vn' := .slice p7 1 q7) (vi' := .slice p10 1 q10)
            (by have := OD.out.step F10.out; simpa using this) (by have := O10.out.base (B' := w.heap.size) (by have := S1.out.fr.size; omega); simpa using this)
            (fun x hx => by
              simp only [List.mem_append, List.mem_singleton] at hx
              rcases hx with (hx | rfl) | hx
              · exact (S7.out.tab.args x (List.mem_of_mem_take hx)).weaken (fun k _ h => h.imp .inl (fun h => h))
              · refine (XC.out.fr F10.out (fun _ _ h => h.elim)).weaken (fun k _ h => .inl ?_)
                have := HZ3.out
                rcases h with h | h
                · have := HM.out k h; omega
                · have := S7.out.tab.below; omega
              · exact (S7.out.tab.args x (List.mem_of_mem_drop hx)).weaken (fun k _ h => h.imp .inl (fun h => h)))
            (fun x hx => by
              simp only [List.mem_append, List.mem_singleton] at hx
              rcases hx with (hx | rfl) | hx
              · exact S7.out.tab.small x (List.mem_of_mem_take hx)
              · exact hl
              · exact S7.out.tab.small x (List.mem_of_mem_drop hx))
            (S7.out.tab.rises.put HLOW.out HHI.out)
          exact ⟨rfl, _, _, _, s1, ⟨_, hperm⟩, (S7.out.fr.mono (fun _ _ h => h.elim)).trans s2⟩

      · simp only [Value.slice.injEq] at h1'
        obtain ⟨rfl, h1', rfl⟩ := h1'
        clear h1'
        rw [List.length_map] at hcap'
        have z1 : 0 ≤ qi := by omega
        have z2 : (0 : Int) ≤ (qi : Int) := by omega
        have z5 : (0 : Int) ≤ (qi : Int) := by omega
        rcases Nat.lt_or_ge 0 qi with hqi' | hqi'
        · have hqn' : (qi = 0) = False := eq_false (by omega)
          go_wp2
          go_region_held3 (fun w' => w'.cell? ⟨bt, 1, none⟩ = some (.slice (some ⟨g', 0, none⟩) 0 qi)) (go_keep)
            (first
              | (refine ints_step _ (by rfl) _ _ (by rfl) w7.heap.size (.slice p9 1 q9) _ (by rfl) O9.out NoB _ _ (by rfl) (by first | exact S7.out.dropI 0 hi | exact rdI_zero _ _ _ ([] : List TEnt) 0 (by omega)) 1 (by simp; try omega) (by omega) F9.out.size ?_; intro p10 q10 w10 ho10 hg10 ha10; have F10 : Hid (Fr NoB w7 w10) := Fr.grown F9.out hg10 (fun k hk hk2 => by have := (World.ownsRow.lt O9.out k hk).1; omega); have S7 := hid (S1.out.step F10.out); have O10 := hid ho10; clear ho10 hg10 ha10; clear t1; obtain ⟨t0', t1, tf', tl'⟩ := two_of S7.out.tab.head; clear t0' tf' tl')
              | (refine ints_step _ (by rfl) _ _ (by rfl) w7.heap.size (.slice p8 0 q8) ((([] : List TEnt).take 0).map (·.id)) (by rfl) (OwnI.fr O8.out ?_ (fun _ _ h => h)) NoB _ [id] (by rfl) (by first | exact HL.out | exact rdI_lit' (l := [id]) rfl rfl rfl (fun h => h)) 1 (by simp; try omega) (by omega) ?_ ?_; (first | exact Fr.refl NoB _ | exact (Fr.refl NoB _).alloc _); (have := F8.out.size; first | exact this | (simp only [World.size_alloc]; omega)); intro p9 q9 w9 ho9 hg9 ha9; have F9 : Hid (Fr NoB w7 w9) := Fr.grown (by first | exact F8.out | exact F8.out.alloc _) hg9 (fun k hk hk2 => by have := (World.ownsRow.lt O8.out k hk).1; omega); have S7 := hid (S1.out.step F9.out); have O9 := hid ho9; clear ho9 hg9 ha9; clear t1; obtain ⟨t0', t1, tf', tl'⟩ := two_of S7.out.tab.head; clear t0' tf' tl')
              | (refine ints_step _ (by rfl) _ _ (by rfl) w7.heap.size (.slice none 0 0) [] (by rfl) (OwnI.nil _ _) NoB _ _ (by rfl) ((S1.out.step (by first | exact (Fr.refl NoB w7).drew | exact (Fr.refl NoB w7).drew.alloc _)).takeI 0 hi) 0 (by simp; try omega) (by omega) ?_ ?_; (first | exact Nat.le_refl _ | (simp only [World.size_alloc, World.size_drew]; omega)); intro p8 q8 w8 ho8 hg8 ha8; have F8 : Hid (Fr NoB w7 w8) := Fr.grown (by first | exact (Fr.refl NoB w7).drew | exact (Fr.refl NoB w7).drew.alloc _) hg8 (fun k hk => by simp [Value.ownBlock] at hk); (try have HL : Hid (RdI NoB w8 (.slice (some ⟨w7.heap.size, 0, none⟩) 1 1) [id]) := (rdI_lit' (w := w7.drew) (cs := #[Value.int .i64 id]) (l := [id]) rfl rfl rfl (fun h => h)).fr (Fr.grown (Fr.refl NoB _) hg8 (fun k hk => by simp [Value.ownBlock] at hk)) (fun _ _ h => h)); have S7 := hid (S1.out.step F8.out); have O8 := hid ho8; clear ho8 hg8 ha8; clear t1; obtain ⟨t0', t1, tf', tl'⟩ := two_of S7.out.tab.head; clear t0' tf' tl'))
          all_goals
            obtain ⟨t0, t1, tf, tl⟩ := two_of S7.out.tab.head
            go_wp2
            go_ret
            have hperm := perm_put ([] : List TEnt) 0 ⟨n, .slice p4 n.args.length q4, id⟩
            obtain ⟨s1, s2⟩ := refAt_stored (M := M) (r' := ([] : List TEnt).take 0 ++ [⟨n, .slice p4 n.args.length q4, id⟩] ++ ([] : List TEnt).drop 0) hB HM.out S7.out.tab.head S7.out.tab.below (fun h => S7.out.tab.out3 (.inl h)) (vn' := .slice p7 1 q7) (vi' := .slice p10 1 q10)
              (by have := OD.out.step F10.out; simpa using this) (by have := O10.out.base (B' := w.heap.size) (by have := S1.out.fr.size; omega); simpa using this)
              (fun x hx => by
                simp only [List.mem_append, List.mem_singleton] at hx
                rcases hx with (hx | rfl) | hx
                · exact (S7.out.tab.args x (List.mem_of_mem_take hx)).weaken (fun k _ h => h.imp .inl (fun h => h))
                · refine (XC.out.fr F10.out (fun _ _ h => h.elim)).weaken (fun k _ h => .inl ?_)
                  have := HZ3.out
                  rcases h with h | h
                  · have := HM.out k h; omega
                  · have := S7.out.tab.below; omega
                · exact (S7.out.tab.args x (List.mem_of_mem_drop hx)).weaken (fun k _ h => h.imp .inl (fun h => h)))
              (fun x hx => by
                simp only [List.mem_append, List.mem_singleton] at hx
                rcases hx with (hx | rfl) | hx
                · exact S7.out.tab.small x (List.mem_of_mem_take hx)
                · exact hl
                · exact S7.out.tab.small x (List.mem_of_mem_drop hx))
              (S7.out.tab.rises.put HLOW.out HHI.out)
            exact ⟨rfl, _, _, _, s1, ⟨_, hperm⟩, (S7.out.fr.mono (fun _ _ h => h.elim)).trans s2⟩

        · obtain rfl : qi = 0 := by omega
          go_wp2
          go_region_held3 (fun w' => w'.cell? ⟨bt, 1, none⟩ = some (.slice (some ⟨g', 0, none⟩) 0 0)) (go_keep)
            (first
              | (refine ints_step _ (by rfl) _ _ (by rfl) w7.heap.size (.slice p9 1 q9) _ (by rfl) O9.out NoB _ _ (by rfl) (S7.out.dropIZ 0 hi (by omega)) 1 (by simp; try omega) (by omega) F9.out.size ?_; intro p10 q10 w10 ho10 hg10 ha10; have F10 : Hid (Fr NoB w7 w10) := Fr.grown F9.out hg10 (fun k hk hk2 => by have := (World.ownsRow.lt O9.out k hk).1; omega); have S7 := hid (S1.out.step F10.out); have O10 := hid ho10; clear ho10 hg10 ha10; clear t1; obtain ⟨t0', t1, tf', tl'⟩ := two_of S7.out.tab.head; clear t0' tf' tl')
              | (refine ints_step _ (by rfl) _ _ (by rfl) w7.heap.size (.slice p8 0 q8) ((([] : List TEnt).take 0).map (·.id)) (by rfl) (OwnI.fr O8.out ?_ (fun _ _ h => h)) NoB _ [id] (by rfl) (by first | exact HL.out | exact rdI_lit' (l := [id]) rfl rfl rfl (fun h => h)) 1 (by simp; try omega) (by omega) ?_ ?_; (first | exact Fr.refl NoB _ | exact (Fr.refl NoB _).alloc _); (have := F8.out.size; first | exact this | (simp only [World.size_alloc]; omega)); intro p9 q9 w9 ho9 hg9 ha9; have F9 : Hid (Fr NoB w7 w9) := Fr.grown (by first | exact F8.out | exact F8.out.alloc _) hg9 (fun k hk hk2 => by have := (World.ownsRow.lt O8.out k hk).1; omega); have S7 := hid (S1.out.step F9.out); have O9 := hid ho9; clear ho9 hg9 ha9; clear t1; obtain ⟨t0', t1, tf', tl'⟩ := two_of S7.out.tab.head; clear t0' tf' tl')
              | (refine ints_step _ (by rfl) _ _ (by rfl) w7.heap.size (.slice none 0 0) [] (by rfl) (OwnI.nil _ _) NoB _ _ (by rfl) ((S1.out.step (by first | exact (Fr.refl NoB w7).drew | exact (Fr.refl NoB w7).drew.alloc _)).takeI 0 hi) 0 (by simp; try omega) (by omega) ?_ ?_; (first | exact Nat.le_refl _ | (simp only [World.size_alloc, World.size_drew]; omega)); intro p8 q8 w8 ho8 hg8 ha8; have F8 : Hid (Fr NoB w7 w8) := Fr.grown (by first | exact (Fr.refl NoB w7).drew | exact (Fr.refl NoB w7).drew.alloc _) hg8 (fun k hk => by simp [Value.ownBlock] at hk); (try have HL : Hid (RdI NoB w8 (.slice (some ⟨w7.heap.size, 0, none⟩) 1 1) [id]) := (rdI_lit' (w := w7.drew) (cs := #[Value.int .i64 id]) (l := [id]) rfl rfl rfl (fun h => h)).fr (Fr.grown (Fr.refl NoB _) hg8 (fun k hk => by simp [Value.ownBlock] at hk)) (fun _ _ h => h)); have S7 := hid (S1.out.step F8.out); have O8 := hid ho8; clear ho8 hg8 ha8; clear t1; obtain ⟨t0', t1, tf', tl'⟩ := two_of S7.out.tab.head; clear t0' tf' tl'))
          all_goals
            obtain ⟨t0, t1, tf, tl⟩ := two_of S7.out.tab.head
            go_wp2
            go_ret
            have hperm := perm_put ([] : List TEnt) 0 ⟨n, .slice p4 n.args.length q4, id⟩
            obtain ⟨s1, s2⟩ := refAt_stored (M := M) (r' := ([] : List TEnt).take 0 ++ [⟨n, .slice p4 n.args.length q4, id⟩] ++ ([] : List TEnt).drop 0) hB HM.out S7.out.tab.head S7.out.tab.below (fun h => S7.out.tab.out3 (.inl h)) (vn' := .slice p7 1 q7) (vi' := .slice p10 1 q10)
              (by have := OD.out.step F10.out; simpa using this) (by have := O10.out.base (B' := w.heap.size) (by have := S1.out.fr.size; omega); simpa using this)
              (fun x hx => by
                simp only [List.mem_append, List.mem_singleton] at hx
                rcases hx with (hx | rfl) | hx
                · exact (S7.out.tab.args x (List.mem_of_mem_take hx)).weaken (fun k _ h => h.imp .inl (fun h => h))
                · refine (XC.out.fr F10.out (fun _ _ h => h.elim)).weaken (fun k _ h => .inl ?_)
                  have := HZ3.out
                  rcases h with h | h
                  · have := HM.out k h; omega
                  · have := S7.out.tab.below; omega
                · exact (S7.out.tab.args x (List.mem_of_mem_drop hx)).weaken (fun k _ h => h.imp .inl (fun h => h)))
              (fun x hx => by
                simp only [List.mem_append, List.mem_singleton] at hx
                rcases hx with (hx | rfl) | hx
                · exact S7.out.tab.small x (List.mem_of_mem_take hx)
                · exact hl
                · exact S7.out.tab.small x (List.mem_of_mem_drop hx))
              (S7.out.tab.rises.put HLOW.out HHI.out)
            exact ⟨rfl, _, _, _, s1, ⟨_, hperm⟩, (S7.out.fr.mono (fun _ _ h => h.elim)).trans s2⟩

    · obtain rfl : qn = 0 := by omega
      obtain ⟨t0, t1, tf, tl⟩ := two_of S1.out.tab.head
      obtain ⟨b0, b1, b2, b3, b4, bf, bl⟩ := five_of S1.out.box
      go_wp2
      go_region_held3 (fun w' => w'.cell? ⟨bt, 0, none⟩ = some (.slice (some ⟨g, 0, none⟩) 0 0) ∧ w'.cell? ⟨w.heap.size, 0, none⟩ = some (.int .i64 n.op) ∧ w'.cell? ⟨w.heap.size, 1, none⟩ = some (.int .i64 n.width) ∧ w'.cell? ⟨w.heap.size, 2, none⟩ = some (.int .u64 n.val) ∧ w'.cell? ⟨w.heap.size, 3, none⟩ = some (.string n.name) ∧ w'.cell? ⟨w.heap.size, 4, none⟩ = some (.slice a n.args.length cap)) (go_keep)
        (first
          | (refine nodes_step _ (by rfl) _ _ (by rfl) w.heap.size (.slice p5 1 q5) _ (by rfl) OB.out NoB _ _ (by rfl) (S1.out.dropZ 0 hi (by omega)) 1 (by simp; try omega) (by omega) S1.out.fr.size ?_; intro p7 q7 w7 ho7 hg7 ha7; have hF7 : Hid (Fr (fun k => w1.heap.size ≤ k ∧ (k < w3.heap.size ∨ w4.heap.size ≤ k)) w5 w7) := (Fr.refl _ w5).grown hg7 (fun k hk _ => HP5.out k hk); have S1 := hid (S1.out.move hF7.out (fun _ h => h.1) hH); have OD := hid ho7; have XC := hid (XC.out.fr hF7.out (fun _ _ h => h.2)); have HP7 : Hid (∀ k, (Value.slice p7 1 q7).ownBlock = some k → w1.heap.size ≤ k) := (fun k hk => by rcases ha7 with h | h <;> rw [h] at hk; exact (HP5.out k hk).1; simp only [Option.some.injEq] at hk; have := HZ4.out; have := HZ3.out; have := HZ5.out; omega); clear ho7 hg7 ha7 hF7 OB HP5; clear t0 t1 tf tl b0 b1 b2 b3 b4 bf bl; obtain ⟨t0, t1, tf, tl⟩ := two_of S1.out.tab.head; obtain ⟨b0, b1, b2, b3, b4, bf, bl⟩ := five_of S1.out.box)
          | (refine nodes_step _ (by rfl) _ _ (by rfl) w.heap.size (.slice p3 0 q3) ((([] : List TEnt).take 0).map fun x => (x.node, x.sl)) (by rfl) (OwnE.step OA.out ?_) NoB _ [(n, .slice p4 n.args.length q4)] (by rfl) (rdN_lit (Fr.refl _ _) ((XC.out.weaken (fun _ _ h => h.elim)).fr ?_ (fun _ _ h => h))) 1 (by simp; try omega) (by omega) ?_ ?_; (exact (Fr.refl _ _).alloc _); (exact (Fr.refl _ _).alloc _); (have := S1.out.fr.size; simp only [World.size_alloc]; omega); intro p5 q5 w5 ho5 hg5 ha5; have hF5 : Hid (Fr (fun k => w1.heap.size ≤ k ∧ (k < w3.heap.size ∨ w4.heap.size ≤ k)) w4 w5) := (((Fr.refl _ w4).alloc _).grown hg5 (fun k hk _ => ⟨(HP3.out k hk).1, .inl (HP3.out k hk).2⟩)); have S1 := hid (S1.out.move hF5.out (fun _ h => h.1) hH); have OB := hid ho5; have XC := hid (XC.out.fr hF5.out (fun _ _ h => h.2)); have HP5 : Hid (∀ k, (Value.slice p5 1 q5).ownBlock = some k → w1.heap.size ≤ k ∧ (k < w3.heap.size ∨ w4.heap.size ≤ k)) := (fun k hk => by rcases ha5 with h | h <;> rw [h] at hk; exact ⟨(HP3.out k hk).1, .inl (HP3.out k hk).2⟩; simp only [Option.some.injEq, World.size_alloc] at hk; have := HZ4.out; have := HZ3.out; omega); have HZ5 : Hid (w4.heap.size ≤ w5.heap.size) := hF5.out.size; clear ho5 hg5 ha5 hF5 OA HP3; clear t0 t1 tf tl b0 b1 b2 b3 b4 bf bl; obtain ⟨t0, t1, tf, tl⟩ := two_of S1.out.tab.head; obtain ⟨b0, b1, b2, b3, b4, bf, bl⟩ := five_of S1.out.box)
          | (go_at_call 15; have X := refCopy_any _ n _ _ S1.out.rd (by omega); (with_reducible refine X.mono ?_); clear X; rintro e w4 ⟨p4, q4, rfl, ho, hf⟩; have S1 := hid (S1.out.move hf (fun _ h => h.elim) hH); have XC := hid (OwnI.rdIn ho); have OA := hid (OA.out.fr hf (fun _ _ h => h)); have HZ4 : Hid (w3.heap.size ≤ w4.heap.size) := hf.size; clear ho hf; clear t0 t1 tf tl b0 b1 b2 b3 b4 bf bl; obtain ⟨t0, t1, tf, tl⟩ := two_of S1.out.tab.head; obtain ⟨b0, b1, b2, b3, b4, bf, bl⟩ := five_of S1.out.box)
          | (refine nodes_step _ (by rfl) _ _ (by rfl) w.heap.size (.slice none 0 0) [] (by rfl) (OwnE.nil _ _ _ _ _) NoB _ _ (by rfl) (S1.out.drew.takeN 0 hi) 0 (by simp; try omega) (by omega) S1.out.drew.fr.size ?_; intro p3 q3 w3 ho3 hg3 ha3; have hf : Hid (Fr NoB _ w3) := Fr.grown (Fr.refl _ _) hg3 (fun k hk => by simp [Value.ownBlock] at hk); have S1 := hid (S1.out.drew.move hf.out (fun _ h => h.elim) hH); have OA := hid (show OwnN w.heap.size w3 (.slice p3 0 q3) ((([] : List TEnt).take 0).map fun x => (x.node, x.sl)) from ho3); have HP3 : Hid (∀ k, (Value.slice p3 0 q3).ownBlock = some k → w1.heap.size ≤ k ∧ k < w3.heap.size) := (fun k hk => ⟨by rcases ha3 with h | h <;> rw [h] at hk <;> simp [Value.ownBlock] at hk; exact Nat.le_of_eq hk, (OwnE.lt ho3 hk).2⟩); have HZ3 : Hid (w1.heap.size ≤ w3.heap.size) := hf.out.size; clear ho3 hg3 ha3 hf; clear t0 t1 tf tl b0 b1 b2 b3 b4 bf bl; obtain ⟨t0, t1, tf, tl⟩ := two_of S1.out.tab.head; obtain ⟨b0, b1, b2, b3, b4, bf, bl⟩ := five_of S1.out.box))
      rcases OwnI.form' S1.out.tab.ids with ⟨h1', h2'⟩ | ⟨g', cap2', h1', hg1', hg2', hcap'⟩
      · simp only [Value.slice.injEq] at h1'
        obtain ⟨rfl, _, rfl⟩ := h1'
        go_wp2
        go_region_held3 (fun w' => w'.cell? ⟨bt, 1, none⟩ = some (.slice none 0 0)) (go_keep)
          (first
            | (refine ints_step _ (by rfl) _ _ (by rfl) w7.heap.size (.slice p9 1 q9) _ (by rfl) O9.out NoB _ _ (by rfl) (rdI_nil (l := (([] : List TEnt).drop 0).map (·.id)) _ (by simp)) 1 (by simp; try omega) (by omega) F9.out.size ?_; intro p10 q10 w10 ho10 hg10 ha10; have F10 : Hid (Fr NoB w7 w10) := Fr.grown F9.out hg10 (fun k hk hk2 => by have := (World.ownsRow.lt O9.out k hk).1; omega); have S7 := hid (S1.out.step F10.out); have O10 := hid ho10; clear ho10 hg10 ha10; clear t1; obtain ⟨t0', t1, tf', tl'⟩ := two_of S7.out.tab.head; clear t0' tf' tl')
            | (refine ints_step _ (by rfl) _ _ (by rfl) w7.heap.size (.slice p8 0 q8) ((([] : List TEnt).take 0).map (·.id)) (by rfl) (OwnI.fr O8.out ?_ (fun _ _ h => h)) NoB _ [id] (by rfl) (by first | exact HL.out | exact rdI_lit' (l := [id]) rfl rfl rfl (fun h => h)) 1 (by simp; try omega) (by omega) ?_ ?_; (first | exact Fr.refl NoB _ | exact (Fr.refl NoB _).alloc _); (have := F8.out.size; first | exact this | (simp only [World.size_alloc]; omega)); intro p9 q9 w9 ho9 hg9 ha9; have F9 : Hid (Fr NoB w7 w9) := Fr.grown (by first | exact F8.out | exact F8.out.alloc _) hg9 (fun k hk hk2 => by have := (World.ownsRow.lt O8.out k hk).1; omega); have S7 := hid (S1.out.step F9.out); have O9 := hid ho9; clear ho9 hg9 ha9; clear t1; obtain ⟨t0', t1, tf', tl'⟩ := two_of S7.out.tab.head; clear t0' tf' tl')
            | (refine ints_step _ (by rfl) _ _ (by rfl) w7.heap.size (.slice none 0 0) [] (by rfl) (OwnI.nil _ _) NoB _ _ (by rfl) (rdI_nil (l := (([] : List TEnt).take 0).map (·.id)) _ (by simp)) 0 (by simp; try omega) (by omega) ?_ ?_; (first | exact Nat.le_refl _ | (simp only [World.size_alloc, World.size_drew]; omega)); intro p8 q8 w8 ho8 hg8 ha8; have F8 : Hid (Fr NoB w7 w8) := Fr.grown (by first | exact (Fr.refl NoB w7).drew | exact (Fr.refl NoB w7).drew.alloc _) hg8 (fun k hk => by simp [Value.ownBlock] at hk); (try have HL : Hid (RdI NoB w8 (.slice (some ⟨w7.heap.size, 0, none⟩) 1 1) [id]) := (rdI_lit' (w := w7.drew) (cs := #[Value.int .i64 id]) (l := [id]) rfl rfl rfl (fun h => h)).fr (Fr.grown (Fr.refl NoB _) hg8 (fun k hk => by simp [Value.ownBlock] at hk)) (fun _ _ h => h)); have S7 := hid (S1.out.step F8.out); have O8 := hid ho8; clear ho8 hg8 ha8; clear t1; obtain ⟨t0', t1, tf', tl'⟩ := two_of S7.out.tab.head; clear t0' tf' tl'))
        all_goals
          obtain ⟨t0, t1, tf, tl⟩ := two_of S7.out.tab.head
          go_wp2
          go_ret
          have hperm := perm_put ([] : List TEnt) 0 ⟨n, .slice p4 n.args.length q4, id⟩
          obtain ⟨s1, s2⟩ := refAt_stored (M := M) (r' := ([] : List TEnt).take 0 ++ [⟨n, .slice p4 n.args.length q4, id⟩] ++ ([] : List TEnt).drop 0) hB HM.out S7.out.tab.head S7.out.tab.below (fun h => S7.out.tab.out3 (.inl h)) (vn' := .slice p7 1 q7) (vi' := .slice p10 1 q10)
            (by have := OD.out.step F10.out; simpa using this) (by have := O10.out.base (B' := w.heap.size) (by have := S1.out.fr.size; omega); simpa using this)
            (fun x hx => by
              simp only [List.mem_append, List.mem_singleton] at hx
              rcases hx with (hx | rfl) | hx
              · exact (S7.out.tab.args x (List.mem_of_mem_take hx)).weaken (fun k _ h => h.imp .inl (fun h => h))
              · refine (XC.out.fr F10.out (fun _ _ h => h.elim)).weaken (fun k _ h => .inl ?_)
                have := HZ3.out
                rcases h with h | h
                · have := HM.out k h; omega
                · have := S7.out.tab.below; omega
              · exact (S7.out.tab.args x (List.mem_of_mem_drop hx)).weaken (fun k _ h => h.imp .inl (fun h => h)))
            (fun x hx => by
              simp only [List.mem_append, List.mem_singleton] at hx
              rcases hx with (hx | rfl) | hx
              · exact S7.out.tab.small x (List.mem_of_mem_take hx)
              · exact hl
              · exact S7.out.tab.small x (List.mem_of_mem_drop hx))
            (S7.out.tab.rises.put HLOW.out HHI.out)
          exact ⟨rfl, _, _, _, s1, ⟨_, hperm⟩, (S7.out.fr.mono (fun _ _ h => h.elim)).trans s2⟩

      · simp only [Value.slice.injEq] at h1'
        obtain ⟨rfl, h1', rfl⟩ := h1'
        clear h1'
        rw [List.length_map] at hcap'
        have z1 : 0 ≤ qi := by omega
        have z2 : (0 : Int) ≤ (qi : Int) := by omega
        have z5 : (0 : Int) ≤ (qi : Int) := by omega
        rcases Nat.lt_or_ge 0 qi with hqi' | hqi'
        · have hqn' : (qi = 0) = False := eq_false (by omega)
          go_wp2
          go_region_held3 (fun w' => w'.cell? ⟨bt, 1, none⟩ = some (.slice (some ⟨g', 0, none⟩) 0 qi)) (go_keep)
            (first
              | (refine ints_step _ (by rfl) _ _ (by rfl) w7.heap.size (.slice p9 1 q9) _ (by rfl) O9.out NoB _ _ (by rfl) (by first | exact S7.out.dropI 0 hi | exact rdI_zero _ _ _ ([] : List TEnt) 0 (by omega)) 1 (by simp; try omega) (by omega) F9.out.size ?_; intro p10 q10 w10 ho10 hg10 ha10; have F10 : Hid (Fr NoB w7 w10) := Fr.grown F9.out hg10 (fun k hk hk2 => by have := (World.ownsRow.lt O9.out k hk).1; omega); have S7 := hid (S1.out.step F10.out); have O10 := hid ho10; clear ho10 hg10 ha10; clear t1; obtain ⟨t0', t1, tf', tl'⟩ := two_of S7.out.tab.head; clear t0' tf' tl')
              | (refine ints_step _ (by rfl) _ _ (by rfl) w7.heap.size (.slice p8 0 q8) ((([] : List TEnt).take 0).map (·.id)) (by rfl) (OwnI.fr O8.out ?_ (fun _ _ h => h)) NoB _ [id] (by rfl) (by first | exact HL.out | exact rdI_lit' (l := [id]) rfl rfl rfl (fun h => h)) 1 (by simp; try omega) (by omega) ?_ ?_; (first | exact Fr.refl NoB _ | exact (Fr.refl NoB _).alloc _); (have := F8.out.size; first | exact this | (simp only [World.size_alloc]; omega)); intro p9 q9 w9 ho9 hg9 ha9; have F9 : Hid (Fr NoB w7 w9) := Fr.grown (by first | exact F8.out | exact F8.out.alloc _) hg9 (fun k hk hk2 => by have := (World.ownsRow.lt O8.out k hk).1; omega); have S7 := hid (S1.out.step F9.out); have O9 := hid ho9; clear ho9 hg9 ha9; clear t1; obtain ⟨t0', t1, tf', tl'⟩ := two_of S7.out.tab.head; clear t0' tf' tl')
              | (refine ints_step _ (by rfl) _ _ (by rfl) w7.heap.size (.slice none 0 0) [] (by rfl) (OwnI.nil _ _) NoB _ _ (by rfl) ((S1.out.step (by first | exact (Fr.refl NoB w7).drew | exact (Fr.refl NoB w7).drew.alloc _)).takeI 0 hi) 0 (by simp; try omega) (by omega) ?_ ?_; (first | exact Nat.le_refl _ | (simp only [World.size_alloc, World.size_drew]; omega)); intro p8 q8 w8 ho8 hg8 ha8; have F8 : Hid (Fr NoB w7 w8) := Fr.grown (by first | exact (Fr.refl NoB w7).drew | exact (Fr.refl NoB w7).drew.alloc _) hg8 (fun k hk => by simp [Value.ownBlock] at hk); (try have HL : Hid (RdI NoB w8 (.slice (some ⟨w7.heap.size, 0, none⟩) 1 1) [id]) := (rdI_lit' (w := w7.drew) (cs := #[Value.int .i64 id]) (l := [id]) rfl rfl rfl (fun h => h)).fr (Fr.grown (Fr.refl NoB _) hg8 (fun k hk => by simp [Value.ownBlock] at hk)) (fun _ _ h => h)); have S7 := hid (S1.out.step F8.out); have O8 := hid ho8; clear ho8 hg8 ha8; clear t1; obtain ⟨t0', t1, tf', tl'⟩ := two_of S7.out.tab.head; clear t0' tf' tl'))
          all_goals
            obtain ⟨t0, t1, tf, tl⟩ := two_of S7.out.tab.head
            go_wp2
            go_ret
            have hperm := perm_put ([] : List TEnt) 0 ⟨n, .slice p4 n.args.length q4, id⟩
            obtain ⟨s1, s2⟩ := refAt_stored (M := M) (r' := ([] : List TEnt).take 0 ++ [⟨n, .slice p4 n.args.length q4, id⟩] ++ ([] : List TEnt).drop 0) hB HM.out S7.out.tab.head S7.out.tab.below (fun h => S7.out.tab.out3 (.inl h)) (vn' := .slice p7 1 q7) (vi' := .slice p10 1 q10)
              (by have := OD.out.step F10.out; simpa using this) (by have := O10.out.base (B' := w.heap.size) (by have := S1.out.fr.size; omega); simpa using this)
              (fun x hx => by
                simp only [List.mem_append, List.mem_singleton] at hx
                rcases hx with (hx | rfl) | hx
                · exact (S7.out.tab.args x (List.mem_of_mem_take hx)).weaken (fun k _ h => h.imp .inl (fun h => h))
                · refine (XC.out.fr F10.out (fun _ _ h => h.elim)).weaken (fun k _ h => .inl ?_)
                  have := HZ3.out
                  rcases h with h | h
                  · have := HM.out k h; omega
                  · have := S7.out.tab.below; omega
                · exact (S7.out.tab.args x (List.mem_of_mem_drop hx)).weaken (fun k _ h => h.imp .inl (fun h => h)))
              (fun x hx => by
                simp only [List.mem_append, List.mem_singleton] at hx
                rcases hx with (hx | rfl) | hx
                · exact S7.out.tab.small x (List.mem_of_mem_take hx)
                · exact hl
                · exact S7.out.tab.small x (List.mem_of_mem_drop hx))
              (S7.out.tab.rises.put HLOW.out HHI.out)
            exact ⟨rfl, _, _, _, s1, ⟨_, hperm⟩, (S7.out.fr.mono (fun _ _ h => h.elim)).trans s2⟩

        · obtain rfl : qi = 0 := by omega
          go_wp2
          go_region_held3 (fun w' => w'.cell? ⟨bt, 1, none⟩ = some (.slice (some ⟨g', 0, none⟩) 0 0)) (go_keep)
            (first
              | (refine ints_step _ (by rfl) _ _ (by rfl) w7.heap.size (.slice p9 1 q9) _ (by rfl) O9.out NoB _ _ (by rfl) (S7.out.dropIZ 0 hi (by omega)) 1 (by simp; try omega) (by omega) F9.out.size ?_; intro p10 q10 w10 ho10 hg10 ha10; have F10 : Hid (Fr NoB w7 w10) := Fr.grown F9.out hg10 (fun k hk hk2 => by have := (World.ownsRow.lt O9.out k hk).1; omega); have S7 := hid (S1.out.step F10.out); have O10 := hid ho10; clear ho10 hg10 ha10; clear t1; obtain ⟨t0', t1, tf', tl'⟩ := two_of S7.out.tab.head; clear t0' tf' tl')
              | (refine ints_step _ (by rfl) _ _ (by rfl) w7.heap.size (.slice p8 0 q8) ((([] : List TEnt).take 0).map (·.id)) (by rfl) (OwnI.fr O8.out ?_ (fun _ _ h => h)) NoB _ [id] (by rfl) (by first | exact HL.out | exact rdI_lit' (l := [id]) rfl rfl rfl (fun h => h)) 1 (by simp; try omega) (by omega) ?_ ?_; (first | exact Fr.refl NoB _ | exact (Fr.refl NoB _).alloc _); (have := F8.out.size; first | exact this | (simp only [World.size_alloc]; omega)); intro p9 q9 w9 ho9 hg9 ha9; have F9 : Hid (Fr NoB w7 w9) := Fr.grown (by first | exact F8.out | exact F8.out.alloc _) hg9 (fun k hk hk2 => by have := (World.ownsRow.lt O8.out k hk).1; omega); have S7 := hid (S1.out.step F9.out); have O9 := hid ho9; clear ho9 hg9 ha9; clear t1; obtain ⟨t0', t1, tf', tl'⟩ := two_of S7.out.tab.head; clear t0' tf' tl')
              | (refine ints_step _ (by rfl) _ _ (by rfl) w7.heap.size (.slice none 0 0) [] (by rfl) (OwnI.nil _ _) NoB _ _ (by rfl) ((S1.out.step (by first | exact (Fr.refl NoB w7).drew | exact (Fr.refl NoB w7).drew.alloc _)).takeI 0 hi) 0 (by simp; try omega) (by omega) ?_ ?_; (first | exact Nat.le_refl _ | (simp only [World.size_alloc, World.size_drew]; omega)); intro p8 q8 w8 ho8 hg8 ha8; have F8 : Hid (Fr NoB w7 w8) := Fr.grown (by first | exact (Fr.refl NoB w7).drew | exact (Fr.refl NoB w7).drew.alloc _) hg8 (fun k hk => by simp [Value.ownBlock] at hk); (try have HL : Hid (RdI NoB w8 (.slice (some ⟨w7.heap.size, 0, none⟩) 1 1) [id]) := (rdI_lit' (w := w7.drew) (cs := #[Value.int .i64 id]) (l := [id]) rfl rfl rfl (fun h => h)).fr (Fr.grown (Fr.refl NoB _) hg8 (fun k hk => by simp [Value.ownBlock] at hk)) (fun _ _ h => h)); have S7 := hid (S1.out.step F8.out); have O8 := hid ho8; clear ho8 hg8 ha8; clear t1; obtain ⟨t0', t1, tf', tl'⟩ := two_of S7.out.tab.head; clear t0' tf' tl'))
          all_goals
            obtain ⟨t0, t1, tf, tl⟩ := two_of S7.out.tab.head
            go_wp2
            go_ret
            have hperm := perm_put ([] : List TEnt) 0 ⟨n, .slice p4 n.args.length q4, id⟩
            obtain ⟨s1, s2⟩ := refAt_stored (M := M) (r' := ([] : List TEnt).take 0 ++ [⟨n, .slice p4 n.args.length q4, id⟩] ++ ([] : List TEnt).drop 0) hB HM.out S7.out.tab.head S7.out.tab.below (fun h => S7.out.tab.out3 (.inl h)) (vn' := .slice p7 1 q7) (vi' := .slice p10 1 q10)
              (by have := OD.out.step F10.out; simpa using this) (by have := O10.out.base (B' := w.heap.size) (by have := S1.out.fr.size; omega); simpa using this)
              (fun x hx => by
                simp only [List.mem_append, List.mem_singleton] at hx
                rcases hx with (hx | rfl) | hx
                · exact (S7.out.tab.args x (List.mem_of_mem_take hx)).weaken (fun k _ h => h.imp .inl (fun h => h))
                · refine (XC.out.fr F10.out (fun _ _ h => h.elim)).weaken (fun k _ h => .inl ?_)
                  have := HZ3.out
                  rcases h with h | h
                  · have := HM.out k h; omega
                  · have := S7.out.tab.below; omega
                · exact (S7.out.tab.args x (List.mem_of_mem_drop hx)).weaken (fun k _ h => h.imp .inl (fun h => h)))
              (fun x hx => by
                simp only [List.mem_append, List.mem_singleton] at hx
                rcases hx with (hx | rfl) | hx
                · exact S7.out.tab.small x (List.mem_of_mem_take hx)
                · exact hl
                · exact S7.out.tab.small x (List.mem_of_mem_drop hx))
              (S7.out.tab.rises.put HLOW.out HHI.out)
            exact ⟨rfl, _, _, _, s1, ⟨_, hperm⟩, (S7.out.fr.mono (fun _ _ h => h.elim)).trans s2⟩


theorem refPut_none (M N : Nat → Prop) (B : Nat) (w : World) (bt : Nat) (vn vi : Value) (r : List TEnt) (h : RefAt M B w bt vn vi r) (n : Node) (s : Value) (id : Int) (hr : RdI N w s n.args) (hl : n.args.length ≤ 1000000) (hlen : r.length ≤ 1000000) (hg : tget r n = none) (hM : ∀ k, M k → k < w.heap.size) (hB : B ≤ w.heap.size) :
    Calls Tryd.prog 26 #[.pointer (some ⟨bt, 0, none⟩), nodeV n s, .int .i64 id] w fun e w' => e = .returned (.bool true) ∧ ∃ vn' vi' r' sl, RefAt M B w' bt vn' vi' r' ∧ (keysOf r').Perm (keysOf (r ++ [⟨n, sl, id⟩])) ∧ Fr (fun k => k = bt) w w' := by
  by_cases hne : r = []
  · subst hne
    exact refPut_nil M N B w bt vn vi h n s id hr hl hM hB
  · exact refPut_some M N B w bt vn vi r h n s id hr hl hlen hg hM hB hne

end Go.Proofs.YtkifedleajacpaaDoor
