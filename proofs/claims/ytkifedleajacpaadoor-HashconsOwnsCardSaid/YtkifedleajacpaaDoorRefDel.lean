/- The walk of the reference table's Del. -/
import Derived.Test.YtkifedleajacpaaDoorRefPut
import Derived.Deep.RegionLaw
namespace Go.Proofs.YtkifedleajacpaaDoor
open Go.RowKit
set_option maxRecDepth 100000

set_option maxHeartbeats 1000000 in
theorem refDel_none (M N : Nat → Prop) (B : Nat) (w : World) (bt : Nat) (vn vi : Value) (r : List TEnt) (h : RefAt M B w bt vn vi r) (n : Node) (s : Value) (hr : RdI N w s n.args) (hl : n.args.length ≤ 1000000) (hlen : r.length ≤ 1000000) (hg : tget r n = none) :
    Calls Tryd.prog 28 #[.pointer (some ⟨bt, 0, none⟩), nodeV n s] w fun e w' => e = .returned (.bool false) ∧ Fr NoB w w' := by
  obtain ⟨a, cap, rfl⟩ := hr.form
  have S0 : Hid (AtS M N B w bt vn vi r n (.slice a n.args.length cap) (w.alloc (.cells (nodeCells n (.slice a n.args.length cap)) 26))) :=
    ⟨(Fr.refl NoB w).alloc _, h.step ((Fr.refl NoB w).alloc _), hr.fr ((Fr.refl NoB w).alloc _) (fun _ _ h => h.elim), at_new w _⟩
  have HG := hid hg
  clear h hr hg
  unfold nodeV
  go_enter Tryd.func28, Tryd.ntmps28
  go_wp2_with fail
  refine (at_any M N B _ bt vn vi r S0.out.tab n _ S0.out.rd hl hlen).mono ?_
  rintro e w1 ⟨hf, i, hi, hlow, ⟨rfl, hlt, hn⟩ | ⟨rfl, hhi⟩⟩
  · have := tget_at hlow hlt hn
    rw [HG.out] at this; cases this
  have S1 := hid (S0.out.step hf)
  clear hf hlow hhi
  go_wp2
  go_ret
  exact ⟨rfl, S1.out.fr⟩

theorem rdN_zero {M : Nat → Prop} (W : World) (ad : Addr) (q : Nat) (r : List TEnt) (i : Nat) (h : r.length ≤ i) : RdN M W (.slice (some ad) 0 q) ((r.drop i).map fun x => (x.node, x.sl)) := by
  rw [List.drop_of_length_le h]
  exact ⟨.inl ⟨⟨_, _, rfl, fun h => by cases h⟩, rfl⟩, fun x hx => by cases hx⟩

/-- A table behind the second store. -/
theorem refAt_stored1 {M : Nat → Prop} {B B1 B2 : Nat} {W : World} {bt : Nat} {vi vn' vi' : Value} {r' : List TEnt} (hB1 : B ≤ B1) (hB2 : B ≤ B2) (hM1 : ∀ k, M k → k < B1) (hM2 : ∀ k, M k → k < B2) (hh : W.heap[bt]? = some (.cells #[vn', vi] 45 (0, 0))) (hbt : bt < B) (out : ¬ M bt)
    (hn : OwnN B1 W vn' (r'.map fun x => (x.node, x.sl))) (hi : OwnI B2 W vi' (r'.map (·.id))) (ha : ∀ x ∈ r', RdI (fun k => M k ∨ k = bt) W x.sl x.node.args) (hs : ∀ x ∈ r', x.node.args.length ≤ 1000000) (hr : Rises r') :
    RefAt M B (W.setCell ⟨bt, 1, none⟩ vi') bt vn' vi' r' ∧ Fr (fun k => k = bt) W (W.setCell ⟨bt, 1, none⟩ vi') := by
  have hf : Fr (fun k => k = bt) W (W.setCell ⟨bt, 1, none⟩ vi') := (Fr.refl (fun k => k = bt) W).setCell (p := ⟨bt, 1, none⟩) (fun _ => rfl) _
  refine ⟨⟨?_, ?_, ?_, fun x hx => (ha x hx).fr hf (fun k _ h => .inr h), hs, hr, fun k hk h => ?_, fun k hk h => ?_, out, hbt⟩, hf⟩
  · have := set_at hh 1 vi'
    simpa using this
  · exact OwnE.base (OwnE.fr hn hf (fun k hk h => by have := (OwnE.lt hn hk).1; have h : k = bt := h; omega)) hB1
  · exact (OwnI.fr hi hf (fun k hk h => by have := (World.ownsRow.lt hi k hk).1; have h : k = bt := h; omega)).base hB2
  · have := hM1 k h; have := (OwnE.lt hn hk).1; omega
  · have := hM2 k h; have := (World.ownsRow.lt hi k hk).1; omega

/-- What stands between the two stores of Del. -/
structure MidD (M : Nat → Prop) (B B1 : Nat) (w0 : World) (bt : Nat) (vn' vi : Value) (r : List TEnt) (i : Nat) (W : World) : Prop where
  fr : Fr (fun k => k = bt) w0 W
  head : W.heap[bt]? = some (.cells #[vn', vi] 45 (0, 0))
  nodes : OwnN B1 W vn' ((r.take i ++ r.drop (i + 1)).map fun x => (x.node, x.sl))
  ids : OwnI B W vi (r.map (·.id))
  args : ∀ x ∈ r, RdI (fun k => M k ∨ k = bt) W x.sl x.node.args
theorem MidD.step {M : Nat → Prop} {B B1 : Nat} {w0 : World} {bt : Nat} {vn' vi : Value} {r : List TEnt} {i : Nat} {W W' : World} (h : MidD M B B1 w0 bt vn' vi r i W) (hf : Fr NoB W W') : MidD M B B1 w0 bt vn' vi r i W' :=
  ⟨h.fr.step hf, hf.at (fun h => h) h.head, h.nodes.step hf, OwnI.fr h.ids hf (fun _ _ h => h), fun x hx => (h.args x hx).fr hf (fun _ _ h => h.elim)⟩
theorem MidD.of {M N : Nat → Prop} {B B1 : Nat} {w0 : World} {bt : Nat} {vn vi vn' : Value} {r : List TEnt} {n : Node} {v : Value} {i : Nat} {W : World} (h : AtS M N B w0 bt vn vi r n v W) (hB1 : B ≤ B1) (hn : OwnN B1 W vn' ((r.take i ++ r.drop (i + 1)).map fun x => (x.node, x.sl))) :
    MidD M B B1 w0 bt vn' vi r i (W.setCell ⟨bt, 0, none⟩ vn') := by
  have hf : Fr (fun k => k = bt) W (W.setCell ⟨bt, 0, none⟩ vn') := (Fr.refl (fun k => k = bt) W).setCell (p := ⟨bt, 0, none⟩) (fun _ => rfl) _
  have hb := h.tab.below
  refine ⟨(h.fr.mono (fun _ _ h => h.elim)).trans hf, ?_, OwnE.fr hn hf (fun k hk h => by have := (OwnE.lt hn hk).1; have h : k = bt := h; omega), OwnI.fr h.tab.ids hf (fun k hk h2 => by have := (World.ownsRow.lt h.tab.ids k hk).1; have h2 : k = bt := h2; omega), fun x hx => (h.tab.args x hx).fr hf (fun k _ h => .inr h)⟩
  have := set_at h.tab.head 0 vn'
  simpa using this
theorem MidD.rdIds {M : Nat → Prop} {B B1 : Nat} {w0 : World} {bt : Nat} {vn' vi : Value} {r : List TEnt} {i : Nat} {W : World} (h : MidD M B B1 w0 bt vn' vi r i W) : RdI NoB W vi (r.map (·.id)) := h.ids.rd (fun _ _ h => h)
theorem MidD.takeI {M : Nat → Prop} {B B1 : Nat} {w0 : World} {bt : Nat} {vn' : Value} {r : List TEnt} {i : Nat} {W : World} {g c q : Nat} (h : MidD M B B1 w0 bt vn' (.slice (some ⟨g, 0, none⟩) c q) r i W) (j : Nat) (hj : j ≤ r.length) :
    RdI NoB W (.slice (some ⟨g, 0, none⟩) j q) ((r.take j).map (·.id)) := by
  rw [List.map_take]
  exact h.rdIds.takeI j (by simpa using hj)
theorem MidD.dropI {M : Nat → Prop} {B B1 : Nat} {w0 : World} {bt : Nat} {vn' : Value} {r : List TEnt} {i : Nat} {W : World} {g c q : Nat} (h : MidD M B B1 w0 bt vn' (.slice (some ⟨g, 0, none⟩) c q) r i W) (j : Nat) (hj : j ≤ r.length) :
    RdI NoB W (.slice (some ⟨g, j, none⟩) (r.length - j) (q - j)) ((r.drop j).map (·.id)) := by
  rw [List.map_drop]
  have h2 := h.rdIds.dropI j (by simpa using hj)
  rwa [List.length_map, Nat.zero_add] at h2

set_option maxHeartbeats 8000000 in
theorem refDel_some (M N : Nat → Prop) (B : Nat) (w : World) (bt : Nat) (vn vi : Value) (r : List TEnt) (h : RefAt M B w bt vn vi r) (n : Node) (s : Value) (hr : RdI N w s n.args) (hl : n.args.length ≤ 1000000) (hlen : r.length ≤ 1000000) {x : TEnt} (hg : tget r n = some x) (hM : ∀ k, M k → k < w.heap.size) (hB : B ≤ w.heap.size) :
    Calls Tryd.prog 28 #[.pointer (some ⟨bt, 0, none⟩), nodeV n s] w fun e w' => e = .returned (.bool true) ∧ ∃ vn' vi', RefAt M B w' bt vn' vi' (tdel r n) ∧ Fr (fun k => k = bt) w w' := by
  obtain ⟨a, cap, rfl⟩ := hr.form
  have S0 : Hid (AtS M N B w bt vn vi r n (.slice a n.args.length cap) (w.alloc (.cells (nodeCells n (.slice a n.args.length cap)) 26))) :=
    ⟨(Fr.refl NoB w).alloc _, h.step ((Fr.refl NoB w).alloc _), hr.fr ((Fr.refl NoB w).alloc _) (fun _ _ h => h.elim), at_new w _⟩
  have HG := hid hg
  have HMw := hid hM
  have HBw := hid hB
  clear h hr hg hM hB
  unfold nodeV
  go_enter Tryd.func28, Tryd.ntmps28
  go_wp2_with fail
  refine (at_any M N B _ bt vn vi r S0.out.tab n _ S0.out.rd hl hlen).mono ?_
  rintro e w1 ⟨hf, i, hi, hlow, ⟨rfl, hlt, hn⟩ | ⟨rfl, hhi⟩⟩
  rotate_left
  · have := tget_not hlow hhi
    rw [HG.out] at this; cases this
  have S1 := hid (S0.out.step hf)
  have HN := hid hn
  have HR := hid S1.out.tab.rises
  have HSM := hid S1.out.tab.small
  have HBT := hid S1.out.tab.below
  have HOUT := hid S1.out.tab.out3
  have HZ1 := hid S1.out.fr.size
  have HB : Hid (B ≤ w1.heap.size) := Nat.le_trans HBw.out HZ1.out
  have HM : Hid (∀ k, M k → k < w1.heap.size) := fun k hk => Nat.lt_of_lt_of_le (HMw.out k hk) HZ1.out
  clear hf hlow hn S0
  obtain ⟨pn, qn, hvn⟩ := S1.out.tab.nodes.form
  obtain ⟨pi, qi, hvi⟩ := S1.out.tab.ids.form
  rw [List.length_map] at hvn hvi
  subst hvn
  subst hvi
  rcases OwnE.form' S1.out.tab.nodes with ⟨h1, h2⟩ | ⟨g, cap2, h1, hg1, hg2, hcap⟩
  · have h2 : r = [] := by simpa using h2
    subst h2; simp at hlt
  rcases OwnI.form' S1.out.tab.ids with ⟨h1', h2⟩ | ⟨g', cap2', h1', hg1', hg2', hcap'⟩
  · have h2 : r = [] := by simpa using h2
    subst h2; simp at hlt
  simp only [Value.slice.injEq] at h1 h1'
  obtain ⟨rfl, h1, rfl⟩ := h1
  obtain ⟨rfl, h1', rfl⟩ := h1'
  clear h1 h1'
  rw [List.length_map] at hcap hcap'
  have q0 : (0 : Int) ≤ (i : Int) := by omega
  have q1 : (i : Int) ≤ (qn : Int) := by omega
  have q2 : (i : Int) + 1 ≤ (r.length : Int) := by omega
  have q3 : (i : Int) + 1 ≤ (qn : Int) := by omega
  have q4 : (r.length : Int) ≤ (qn : Int) := by omega
  have q5 : (i : Int) ≤ (qi : Int) := by omega
  have q6 : (i : Int) + 1 ≤ (qi : Int) := by omega
  have q7 : (r.length : Int) ≤ (qi : Int) := by omega
  have q8 : (i : Int) ≤ (r.length : Int) := by omega
  have q9 : i ≤ qn := by omega
  have q10 : i ≤ qi := by omega
  have q11 : (0 : Int) ≤ (i : Int) + 1 := by omega
  have q12 : IntKind.i64.wrap ((i : Int) + 1) = (i : Int) + 1 := by rw [IntKind.wrap_i64]; omega
  have q14 : (i : Int) ≤ (i : Int) + 1 := by omega
  have q13 : ((i : Int) + 1).toNat = i + 1 := by omega
  obtain ⟨t0, t1, tf, tl⟩ := two_of S1.out.tab.head
  go_wp2
  rcases Nat.lt_or_ge (i + 1) qn with hqi | hqi
  · have hqn : (qn = i + 1) = False := eq_false (by omega)
    rcases Nat.lt_or_ge (i + 1) qi with hqi' | hqi'
    · have hqn' : (qi = i + 1) = False := eq_false (by omega)
      go_region_law (first
          | (refine nodes_step _ (by rfl) _ _ (by rfl) w1.heap.size (.slice p3 i q3) ((r.take i).map fun x => (x.node, x.sl)) (by rfl) OA.out NoB _ ((r.drop (i + 1)).map fun x => (x.node, x.sl)) (by rfl) (by first | exact S5.out.dropN (i + 1) (by omega) | exact rdN_zero _ _ _ r (i + 1) (by omega)) (r.length - 1) (by simp; try omega) (by omega) F3.out.size ?_; intro p5 q5 w5 ho5 hg5 ha5; have F5 : Hid (Fr NoB w1 w5) := Fr.grown F3.out hg5 (fun k hk hk2 => by have := (OwnE.lt OA.out hk).1; omega); have S5 := hid (S1.out.step F5.out); have OB := hid ho5; clear ho5 hg5 ha5; clear t0 t1 tf tl; obtain ⟨t0, t1, tf, tl⟩ := two_of S5.out.tab.head)
          | (refine nodes_step _ (by rfl) _ _ (by rfl) w1.heap.size (.slice none 0 0) [] (by rfl) (OwnE.nil _ _ _ _ _) NoB _ ((r.take i).map fun x => (x.node, x.sl)) (by rfl) (S1.out.drew.takeN i (by omega)) i (by simp; try omega) (by omega) (Nat.le_refl _) ?_; intro p3 q3 w3 ho3 hg3 ha3; have F3 : Hid (Fr NoB w1 w3) := Fr.grown (Fr.refl NoB w1).drew hg3 (fun k hk => by simp [Value.ownBlock] at hk); have S5 := hid (S1.out.step F3.out); have OA := hid (show OwnN w1.heap.size w3 (.slice p3 i q3) ((r.take i).map fun x => (x.node, x.sl)) from ho3); clear ho3 hg3 ha3; clear t0 t1 tf tl; obtain ⟨t0, t1, tf, tl⟩ := two_of S5.out.tab.head))
      all_goals
        have S6 := hid (MidD.of S5.out (B1 := w1.heap.size) HB.out (by have := OB.out; simpa using this))
        have HZ5 : Hid (w1.heap.size ≤ w5.heap.size) := F5.out.size
        obtain ⟨w6, hw6⟩ : ∃ w6, w5.setCell ⟨bt, 0, none⟩ (.slice p5 (r.length - 1) q5) = w6 := ⟨_, rfl⟩
        have hz6 : w1.heap.size ≤ w6.heap.size := by rw [← hw6]; simpa using HZ5.out
        have HZ6 := hid hz6
        clear hz6
        rw [hw6] at S6 ⊢
        clear hw6 S5 OB OA F3 F5 t0 t1 tf tl S1
        have HB2 : Hid (B ≤ w6.heap.size) := Nat.le_trans HB.out HZ6.out
        have HM2 : Hid (∀ k, M k → k < w6.heap.size) := fun k hk => Nat.lt_of_lt_of_le (HM.out k hk) HZ6.out
        obtain ⟨t0, t1, tf, tl⟩ := two_of S6.out.head
        go_wp2
        go_region_law (first
            | (refine ints_step _ (by rfl) _ _ (by rfl) w6.heap.size (.slice p8 i q8) ((r.take i).map (·.id)) (by rfl) O8.out NoB _ ((r.drop (i + 1)).map (·.id)) (by rfl) (by first | exact S7.out.dropI (i + 1) (by omega) | exact rdI_zero _ _ _ r (i + 1) (by omega)) (r.length - 1) (by simp; try omega) (by omega) F8.out.size ?_; intro p9 q9 w9 ho9 hg9 ha9; have F9 : Hid (Fr NoB w6 w9) := Fr.grown F8.out hg9 (fun k hk hk2 => by have := (World.ownsRow.lt O8.out k hk).1; omega); have S7 := hid (S6.out.step F9.out); have O9 := hid ho9; clear ho9 hg9 ha9; clear t0 t1 tf tl; obtain ⟨t0, t1, tf, tl⟩ := two_of S7.out.head)
            | (refine ints_step _ (by rfl) _ _ (by rfl) w6.heap.size (.slice none 0 0) [] (by rfl) (OwnI.nil _ _) NoB _ ((r.take i).map (·.id)) (by rfl) ((S6.out.step (Fr.refl NoB w6).drew).takeI i (by omega)) i (by simp; try omega) (by omega) (Nat.le_refl _) ?_; intro p8 q8 w8 ho8 hg8 ha8; have F8 : Hid (Fr NoB w6 w8) := Fr.grown (Fr.refl NoB w6).drew hg8 (fun k hk => by simp [Value.ownBlock] at hk); have S7 := hid (S6.out.step F8.out); have O8 := hid (show OwnI w6.heap.size w8 (.slice p8 i q8) ((r.take i).map (·.id)) from ho8); clear ho8 hg8 ha8; clear t0 t1 tf tl; obtain ⟨t0, t1, tf, tl⟩ := two_of S7.out.head))
        all_goals
          go_wp2
          go_ret
          obtain ⟨s1, s2⟩ := refAt_stored1 (M := M) (r' := r.take i ++ r.drop (i + 1)) (B := B) HB.out HB2.out HM.out HM2.out S7.out.head HBT.out HOUT.out S7.out.nodes (by have := O9.out; simpa using this)
            (fun x hx => by
              rw [List.mem_append] at hx
              rcases hx with hx | hx
              · exact S7.out.args x (List.mem_of_mem_take hx)
              · exact S7.out.args x (List.mem_of_mem_drop hx))
            (fun x hx => by
              rw [List.mem_append] at hx
              rcases hx with hx | hx
              · exact HSM.out x (List.mem_of_mem_take hx)
              · exact HSM.out x (List.mem_of_mem_drop hx))
            (HR.out.del i)
          have e := tdel_at HR.out hlt
          rw [HN.out] at e
          rw [e]
          refine ⟨rfl, ?_⟩
          first
            | exact ⟨⟨_, _, s1⟩, S7.out.fr.trans s2⟩
            | exact ⟨_, ⟨_, s1⟩, S7.out.fr.trans s2⟩
            | exact ⟨_, _, s1, S7.out.fr.trans s2⟩

    · obtain rfl : qi = i + 1 := by omega
      go_region_law (first
          | (refine nodes_step _ (by rfl) _ _ (by rfl) w1.heap.size (.slice p3 i q3) ((r.take i).map fun x => (x.node, x.sl)) (by rfl) OA.out NoB _ ((r.drop (i + 1)).map fun x => (x.node, x.sl)) (by rfl) (by first | exact S5.out.dropN (i + 1) (by omega) | exact rdN_zero _ _ _ r (i + 1) (by omega)) (r.length - 1) (by simp; try omega) (by omega) F3.out.size ?_; intro p5 q5 w5 ho5 hg5 ha5; have F5 : Hid (Fr NoB w1 w5) := Fr.grown F3.out hg5 (fun k hk hk2 => by have := (OwnE.lt OA.out hk).1; omega); have S5 := hid (S1.out.step F5.out); have OB := hid ho5; clear ho5 hg5 ha5; clear t0 t1 tf tl; obtain ⟨t0, t1, tf, tl⟩ := two_of S5.out.tab.head)
          | (refine nodes_step _ (by rfl) _ _ (by rfl) w1.heap.size (.slice none 0 0) [] (by rfl) (OwnE.nil _ _ _ _ _) NoB _ ((r.take i).map fun x => (x.node, x.sl)) (by rfl) (S1.out.drew.takeN i (by omega)) i (by simp; try omega) (by omega) (Nat.le_refl _) ?_; intro p3 q3 w3 ho3 hg3 ha3; have F3 : Hid (Fr NoB w1 w3) := Fr.grown (Fr.refl NoB w1).drew hg3 (fun k hk => by simp [Value.ownBlock] at hk); have S5 := hid (S1.out.step F3.out); have OA := hid (show OwnN w1.heap.size w3 (.slice p3 i q3) ((r.take i).map fun x => (x.node, x.sl)) from ho3); clear ho3 hg3 ha3; clear t0 t1 tf tl; obtain ⟨t0, t1, tf, tl⟩ := two_of S5.out.tab.head))
      all_goals
        have S6 := hid (MidD.of S5.out (B1 := w1.heap.size) HB.out (by have := OB.out; simpa using this))
        have HZ5 : Hid (w1.heap.size ≤ w5.heap.size) := F5.out.size
        obtain ⟨w6, hw6⟩ : ∃ w6, w5.setCell ⟨bt, 0, none⟩ (.slice p5 (r.length - 1) q5) = w6 := ⟨_, rfl⟩
        have hz6 : w1.heap.size ≤ w6.heap.size := by rw [← hw6]; simpa using HZ5.out
        have HZ6 := hid hz6
        clear hz6
        rw [hw6] at S6 ⊢
        clear hw6 S5 OB OA F3 F5 t0 t1 tf tl S1
        have HB2 : Hid (B ≤ w6.heap.size) := Nat.le_trans HB.out HZ6.out
        have HM2 : Hid (∀ k, M k → k < w6.heap.size) := fun k hk => Nat.lt_of_lt_of_le (HM.out k hk) HZ6.out
        obtain ⟨t0, t1, tf, tl⟩ := two_of S6.out.head
        go_wp2
        go_region_law (first
            | (refine ints_step _ (by rfl) _ _ (by rfl) w6.heap.size (.slice p8 i q8) ((r.take i).map (·.id)) (by rfl) O8.out NoB _ ((r.drop (i + 1)).map (·.id)) (by rfl) (by first | exact S7.out.dropI (i + 1) (by omega) | exact rdI_zero _ _ _ r (i + 1) (by omega)) (r.length - 1) (by simp; try omega) (by omega) F8.out.size ?_; intro p9 q9 w9 ho9 hg9 ha9; have F9 : Hid (Fr NoB w6 w9) := Fr.grown F8.out hg9 (fun k hk hk2 => by have := (World.ownsRow.lt O8.out k hk).1; omega); have S7 := hid (S6.out.step F9.out); have O9 := hid ho9; clear ho9 hg9 ha9; clear t0 t1 tf tl; obtain ⟨t0, t1, tf, tl⟩ := two_of S7.out.head)
            | (refine ints_step _ (by rfl) _ _ (by rfl) w6.heap.size (.slice none 0 0) [] (by rfl) (OwnI.nil _ _) NoB _ ((r.take i).map (·.id)) (by rfl) ((S6.out.step (Fr.refl NoB w6).drew).takeI i (by omega)) i (by simp; try omega) (by omega) (Nat.le_refl _) ?_; intro p8 q8 w8 ho8 hg8 ha8; have F8 : Hid (Fr NoB w6 w8) := Fr.grown (Fr.refl NoB w6).drew hg8 (fun k hk => by simp [Value.ownBlock] at hk); have S7 := hid (S6.out.step F8.out); have O8 := hid (show OwnI w6.heap.size w8 (.slice p8 i q8) ((r.take i).map (·.id)) from ho8); clear ho8 hg8 ha8; clear t0 t1 tf tl; obtain ⟨t0, t1, tf, tl⟩ := two_of S7.out.head))
        all_goals
          go_wp2
          go_ret
          obtain ⟨s1, s2⟩ := refAt_stored1 (M := M) (r' := r.take i ++ r.drop (i + 1)) (B := B) HB.out HB2.out HM.out HM2.out S7.out.head HBT.out HOUT.out S7.out.nodes (by have := O9.out; simpa using this)
            (fun x hx => by
              rw [List.mem_append] at hx
              rcases hx with hx | hx
              · exact S7.out.args x (List.mem_of_mem_take hx)
              · exact S7.out.args x (List.mem_of_mem_drop hx))
            (fun x hx => by
              rw [List.mem_append] at hx
              rcases hx with hx | hx
              · exact HSM.out x (List.mem_of_mem_take hx)
              · exact HSM.out x (List.mem_of_mem_drop hx))
            (HR.out.del i)
          have e := tdel_at HR.out hlt
          rw [HN.out] at e
          rw [e]
          refine ⟨rfl, ?_⟩
          first
            | exact ⟨⟨_, _, s1⟩, S7.out.fr.trans s2⟩
            | exact ⟨_, ⟨_, s1⟩, S7.out.fr.trans s2⟩
            | exact ⟨_, _, s1, S7.out.fr.trans s2⟩

  · obtain rfl : qn = i + 1 := by omega
    rcases Nat.lt_or_ge (i + 1) qi with hqi' | hqi'
    · have hqn' : (qi = i + 1) = False := eq_false (by omega)
      go_region_law (first
          | (refine nodes_step _ (by rfl) _ _ (by rfl) w1.heap.size (.slice p3 i q3) ((r.take i).map fun x => (x.node, x.sl)) (by rfl) OA.out NoB _ ((r.drop (i + 1)).map fun x => (x.node, x.sl)) (by rfl) (by first | exact S5.out.dropN (i + 1) (by omega) | exact rdN_zero _ _ _ r (i + 1) (by omega)) (r.length - 1) (by simp; try omega) (by omega) F3.out.size ?_; intro p5 q5 w5 ho5 hg5 ha5; have F5 : Hid (Fr NoB w1 w5) := Fr.grown F3.out hg5 (fun k hk hk2 => by have := (OwnE.lt OA.out hk).1; omega); have S5 := hid (S1.out.step F5.out); have OB := hid ho5; clear ho5 hg5 ha5; clear t0 t1 tf tl; obtain ⟨t0, t1, tf, tl⟩ := two_of S5.out.tab.head)
          | (refine nodes_step _ (by rfl) _ _ (by rfl) w1.heap.size (.slice none 0 0) [] (by rfl) (OwnE.nil _ _ _ _ _) NoB _ ((r.take i).map fun x => (x.node, x.sl)) (by rfl) (S1.out.drew.takeN i (by omega)) i (by simp; try omega) (by omega) (Nat.le_refl _) ?_; intro p3 q3 w3 ho3 hg3 ha3; have F3 : Hid (Fr NoB w1 w3) := Fr.grown (Fr.refl NoB w1).drew hg3 (fun k hk => by simp [Value.ownBlock] at hk); have S5 := hid (S1.out.step F3.out); have OA := hid (show OwnN w1.heap.size w3 (.slice p3 i q3) ((r.take i).map fun x => (x.node, x.sl)) from ho3); clear ho3 hg3 ha3; clear t0 t1 tf tl; obtain ⟨t0, t1, tf, tl⟩ := two_of S5.out.tab.head))
      all_goals
        have S6 := hid (MidD.of S5.out (B1 := w1.heap.size) HB.out (by have := OB.out; simpa using this))
        have HZ5 : Hid (w1.heap.size ≤ w5.heap.size) := F5.out.size
        obtain ⟨w6, hw6⟩ : ∃ w6, w5.setCell ⟨bt, 0, none⟩ (.slice p5 (r.length - 1) q5) = w6 := ⟨_, rfl⟩
        have hz6 : w1.heap.size ≤ w6.heap.size := by rw [← hw6]; simpa using HZ5.out
        have HZ6 := hid hz6
        clear hz6
        rw [hw6] at S6 ⊢
        clear hw6 S5 OB OA F3 F5 t0 t1 tf tl S1
        have HB2 : Hid (B ≤ w6.heap.size) := Nat.le_trans HB.out HZ6.out
        have HM2 : Hid (∀ k, M k → k < w6.heap.size) := fun k hk => Nat.lt_of_lt_of_le (HM.out k hk) HZ6.out
        obtain ⟨t0, t1, tf, tl⟩ := two_of S6.out.head
        go_wp2
        go_region_law (first
            | (refine ints_step _ (by rfl) _ _ (by rfl) w6.heap.size (.slice p8 i q8) ((r.take i).map (·.id)) (by rfl) O8.out NoB _ ((r.drop (i + 1)).map (·.id)) (by rfl) (by first | exact S7.out.dropI (i + 1) (by omega) | exact rdI_zero _ _ _ r (i + 1) (by omega)) (r.length - 1) (by simp; try omega) (by omega) F8.out.size ?_; intro p9 q9 w9 ho9 hg9 ha9; have F9 : Hid (Fr NoB w6 w9) := Fr.grown F8.out hg9 (fun k hk hk2 => by have := (World.ownsRow.lt O8.out k hk).1; omega); have S7 := hid (S6.out.step F9.out); have O9 := hid ho9; clear ho9 hg9 ha9; clear t0 t1 tf tl; obtain ⟨t0, t1, tf, tl⟩ := two_of S7.out.head)
            | (refine ints_step _ (by rfl) _ _ (by rfl) w6.heap.size (.slice none 0 0) [] (by rfl) (OwnI.nil _ _) NoB _ ((r.take i).map (·.id)) (by rfl) ((S6.out.step (Fr.refl NoB w6).drew).takeI i (by omega)) i (by simp; try omega) (by omega) (Nat.le_refl _) ?_; intro p8 q8 w8 ho8 hg8 ha8; have F8 : Hid (Fr NoB w6 w8) := Fr.grown (Fr.refl NoB w6).drew hg8 (fun k hk => by simp [Value.ownBlock] at hk); have S7 := hid (S6.out.step F8.out); have O8 := hid (show OwnI w6.heap.size w8 (.slice p8 i q8) ((r.take i).map (·.id)) from ho8); clear ho8 hg8 ha8; clear t0 t1 tf tl; obtain ⟨t0, t1, tf, tl⟩ := two_of S7.out.head))
        all_goals
          go_wp2
          go_ret
          obtain ⟨s1, s2⟩ := refAt_stored1 (M := M) (r' := r.take i ++ r.drop (i + 1)) (B := B) HB.out HB2.out HM.out HM2.out S7.out.head HBT.out HOUT.out S7.out.nodes (by have := O9.out; simpa using this)
            (fun x hx => by
              rw [List.mem_append] at hx
              rcases hx with hx | hx
              · exact S7.out.args x (List.mem_of_mem_take hx)
              · exact S7.out.args x (List.mem_of_mem_drop hx))
            (fun x hx => by
              rw [List.mem_append] at hx
              rcases hx with hx | hx
              · exact HSM.out x (List.mem_of_mem_take hx)
              · exact HSM.out x (List.mem_of_mem_drop hx))
            (HR.out.del i)
          have e := tdel_at HR.out hlt
          rw [HN.out] at e
          rw [e]
          refine ⟨rfl, ?_⟩
          first
            | exact ⟨⟨_, _, s1⟩, S7.out.fr.trans s2⟩
            | exact ⟨_, ⟨_, s1⟩, S7.out.fr.trans s2⟩
            | exact ⟨_, _, s1, S7.out.fr.trans s2⟩

    · obtain rfl : qi = i + 1 := by omega
      go_region_law (first
          | (refine nodes_step _ (by rfl) _ _ (by rfl) w1.heap.size (.slice p3 i q3) ((r.take i).map fun x => (x.node, x.sl)) (by rfl) OA.out NoB _ ((r.drop (i + 1)).map fun x => (x.node, x.sl)) (by rfl) (by first | exact S5.out.dropN (i + 1) (by omega) | exact rdN_zero _ _ _ r (i + 1) (by omega)) (r.length - 1) (by simp; try omega) (by omega) F3.out.size ?_; intro p5 q5 w5 ho5 hg5 ha5; have F5 : Hid (Fr NoB w1 w5) := Fr.grown F3.out hg5 (fun k hk hk2 => by have := (OwnE.lt OA.out hk).1; omega); have S5 := hid (S1.out.step F5.out); have OB := hid ho5; clear ho5 hg5 ha5; clear t0 t1 tf tl; obtain ⟨t0, t1, tf, tl⟩ := two_of S5.out.tab.head)
          | (refine nodes_step _ (by rfl) _ _ (by rfl) w1.heap.size (.slice none 0 0) [] (by rfl) (OwnE.nil _ _ _ _ _) NoB _ ((r.take i).map fun x => (x.node, x.sl)) (by rfl) (S1.out.drew.takeN i (by omega)) i (by simp; try omega) (by omega) (Nat.le_refl _) ?_; intro p3 q3 w3 ho3 hg3 ha3; have F3 : Hid (Fr NoB w1 w3) := Fr.grown (Fr.refl NoB w1).drew hg3 (fun k hk => by simp [Value.ownBlock] at hk); have S5 := hid (S1.out.step F3.out); have OA := hid (show OwnN w1.heap.size w3 (.slice p3 i q3) ((r.take i).map fun x => (x.node, x.sl)) from ho3); clear ho3 hg3 ha3; clear t0 t1 tf tl; obtain ⟨t0, t1, tf, tl⟩ := two_of S5.out.tab.head))
      all_goals
        have S6 := hid (MidD.of S5.out (B1 := w1.heap.size) HB.out (by have := OB.out; simpa using this))
        have HZ5 : Hid (w1.heap.size ≤ w5.heap.size) := F5.out.size
        obtain ⟨w6, hw6⟩ : ∃ w6, w5.setCell ⟨bt, 0, none⟩ (.slice p5 (r.length - 1) q5) = w6 := ⟨_, rfl⟩
        have hz6 : w1.heap.size ≤ w6.heap.size := by rw [← hw6]; simpa using HZ5.out
        have HZ6 := hid hz6
        clear hz6
        rw [hw6] at S6 ⊢
        clear hw6 S5 OB OA F3 F5 t0 t1 tf tl S1
        have HB2 : Hid (B ≤ w6.heap.size) := Nat.le_trans HB.out HZ6.out
        have HM2 : Hid (∀ k, M k → k < w6.heap.size) := fun k hk => Nat.lt_of_lt_of_le (HM.out k hk) HZ6.out
        obtain ⟨t0, t1, tf, tl⟩ := two_of S6.out.head
        go_wp2
        go_region_law (first
            | (refine ints_step _ (by rfl) _ _ (by rfl) w6.heap.size (.slice p8 i q8) ((r.take i).map (·.id)) (by rfl) O8.out NoB _ ((r.drop (i + 1)).map (·.id)) (by rfl) (by first | exact S7.out.dropI (i + 1) (by omega) | exact rdI_zero _ _ _ r (i + 1) (by omega)) (r.length - 1) (by simp; try omega) (by omega) F8.out.size ?_; intro p9 q9 w9 ho9 hg9 ha9; have F9 : Hid (Fr NoB w6 w9) := Fr.grown F8.out hg9 (fun k hk hk2 => by have := (World.ownsRow.lt O8.out k hk).1; omega); have S7 := hid (S6.out.step F9.out); have O9 := hid ho9; clear ho9 hg9 ha9; clear t0 t1 tf tl; obtain ⟨t0, t1, tf, tl⟩ := two_of S7.out.head)
            | (refine ints_step _ (by rfl) _ _ (by rfl) w6.heap.size (.slice none 0 0) [] (by rfl) (OwnI.nil _ _) NoB _ ((r.take i).map (·.id)) (by rfl) ((S6.out.step (Fr.refl NoB w6).drew).takeI i (by omega)) i (by simp; try omega) (by omega) (Nat.le_refl _) ?_; intro p8 q8 w8 ho8 hg8 ha8; have F8 : Hid (Fr NoB w6 w8) := Fr.grown (Fr.refl NoB w6).drew hg8 (fun k hk => by simp [Value.ownBlock] at hk); have S7 := hid (S6.out.step F8.out); have O8 := hid (show OwnI w6.heap.size w8 (.slice p8 i q8) ((r.take i).map (·.id)) from ho8); clear ho8 hg8 ha8; clear t0 t1 tf tl; obtain ⟨t0, t1, tf, tl⟩ := two_of S7.out.head))
        all_goals
          go_wp2
          go_ret
          obtain ⟨s1, s2⟩ := refAt_stored1 (M := M) (r' := r.take i ++ r.drop (i + 1)) (B := B) HB.out HB2.out HM.out HM2.out S7.out.head HBT.out HOUT.out S7.out.nodes (by have := O9.out; simpa using this)
            (fun x hx => by
              rw [List.mem_append] at hx
              rcases hx with hx | hx
              · exact S7.out.args x (List.mem_of_mem_take hx)
              · exact S7.out.args x (List.mem_of_mem_drop hx))
            (fun x hx => by
              rw [List.mem_append] at hx
              rcases hx with hx | hx
              · exact HSM.out x (List.mem_of_mem_take hx)
              · exact HSM.out x (List.mem_of_mem_drop hx))
            (HR.out.del i)
          have e := tdel_at HR.out hlt
          rw [HN.out] at e
          rw [e]
          refine ⟨rfl, ?_⟩
          first
            | exact ⟨⟨_, _, s1⟩, S7.out.fr.trans s2⟩
            | exact ⟨_, ⟨_, s1⟩, S7.out.fr.trans s2⟩
            | exact ⟨_, _, s1, S7.out.fr.trans s2⟩


end Go.Proofs.YtkifedleajacpaaDoor
