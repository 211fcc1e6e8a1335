import Derived.Test.YtndfncaoejbkiaaGreatDoorPk1
import Derived.Test.YtndfncaoejbkiaaGreatDoorPk2
import Derived.Test.YtndfncaoejbkiaaGreatDoorPk3
import Derived.Test.YtndfncaoejbkiaaGreatDoorPk5
import Derived.Defers
import Derived.Recover
set_option linter.all false
section
/- The walk of the reader's node. -/
namespace Go.Proofs.YtndfncaoejbkiaaGreatDoor
open Go.RowKit
set_option maxRecDepth 100000

def dropA (a : Addr) (c k : Nat) : Addr := if c = k then a else a.add k
theorem RdY.cap {M : Nat → Prop} {w : World} {p : Option Addr} {n c : Nat} {l : List UInt8} (h : RdY M w (.slice p n c) l) : n = l.length ∧ l.length ≤ c := by
  rcases h with ⟨⟨a, c', e, _⟩, rfl⟩ | ⟨b, off, cap, e, _, _, h, _⟩
  · cases e; exact ⟨rfl, Nat.zero_le _⟩
  · cases e; exact ⟨rfl, h⟩
theorem add_off (b off k : Nat) : (⟨b, off, none⟩ : Addr).add k = ⟨b, off + k, none⟩ := by unfold Addr.add; split <;> simp_all
/-- s[k:]. -/
theorem RdY.dropF {M : Nat → Prop} {w : World} {a : Addr} {c : Nat} {l : List UInt8} (h : RdY M w (.slice (some a) l.length c) l) {k : Nat} (hk : k ≤ l.length) : RdY M w (.slice (some (dropA a c k)) (l.drop k).length (c - k)) (l.drop k) := by
  have hc := h.cap.2
  rcases h with ⟨_, rfl⟩ | ⟨b, off, cap, e, h2, h3, h4, h5⟩
  · have : k = 0 := by simpa using hk
    subst this
    exact .inl ⟨⟨_, _, rfl, fun h => (by cases h)⟩, rfl⟩
  · simp only [Value.slice.injEq, Option.some.injEq, true_and] at e
    obtain ⟨rfl, rfl⟩ := e
    unfold dropA
    by_cases hck : c = k
    · rw [if_pos hck]
      have hd : l.drop k = [] := List.drop_eq_nil_of_le (by omega)
      rw [hd]
      exact .inl ⟨⟨_, _, rfl, fun h => (by cases h)⟩, rfl⟩
    · rw [if_neg hck, add_off]
      refine .inr ⟨b, off + k, _, rfl, h2, h3, by rw [List.length_drop]; omega, fun j u hj => ?_⟩
      have hj2 := h5 (k + j) u (by rw [flatE_by] at hj ⊢; rw [List.map_drop, List.getElem?_drop] at hj; exact hj)
      rw [Nat.add_assoc]
      exact hj2
/-- string(s[:k]). -/
theorem conv_take {M : Nat → Prop} {w : World} {a : Addr} {c c' : Nat} {l : List UInt8} (h : RdY M w (.slice (some a) l.length c) l) {k : Nat} (hk : k ≤ l.length) : (convert 27 9 (.slice (some a) k c')).run Tryz.prog w = .ok (.string ⟨(l.take k).toArray⟩) w := by
  have hl : (l.take k).length = k := by rw [List.length_take]; omega
  have h9 := run_convert_bytes_back (P := Tryz.prog) w 27 9 5 a c' (l.take k) Tryz.underlying27 Tryz.underlying5 Tryz.underlying9 (fun j hj => by
    rw [hl] at hj
    rcases h with ⟨_, rfl⟩ | ⟨b, off, cap, e, h2, h3, h4, h5⟩
    · simp at hk; omega
    · simp only [Value.slice.injEq, Option.some.injEq, true_and] at e
      obtain ⟨rfl, rfl⟩ := e
      rw [add_off]
      refine h5 j _ ?_
      rw [flatE_by, List.getElem?_map, List.getElem?_eq_getElem (by omega)]
      simp)
  rw [hl] at h9
  exact h9
/-- What reading a node comes to. -/
def RdNodeOut (w : World) (br : Nat) (r : Option (Node × List Nat)) (e : Ending) (w' : World) : Prop :=
  match r with
  | some p => ∃ a c, e = .returned (nodeV p.1 (.slice a p.1.args.length c)) ∧ RdI (fun k => k < w.heap.size) w' (.slice a p.1.args.length c) p.1.args ∧ RrN w' br p.2 ∧ Fr (fun k => k = br) w w'
  | none => e = .panicked badC ∧ Fr (fun k => k = br) w w'
theorem rdMany_step {α : Type} {f : List Nat → Option (α × List Nat)} {k j : Nat} {l : List Nat} (h : j < k) : rdMany f (k - j) l = (f l).bind fun p => (rdMany f (k - (j + 1)) p.2).map fun q => (p.1 :: q.1, q.2) := by
  rw [show k - j = (k - (j + 1)) + 1 by omega, rdMany]
theorem rdS_rest {l : List Nat} {p : Int × List Nat} (h : rdS l = some p) : p.2.length ≤ l.length := by
  unfold rdS at h
  cases h1 : rdN l with
  | none => rw [h1] at h; cases h
  | some q =>
    obtain ⟨j, _, _, h2⟩ := rdN_rest h1
    rw [h1] at h
    cases h
    simp only [h2, List.length_drop]
    omega
theorem rdN_le {l : List Nat} {p : Nat × List Nat} (h : rdN l = some p) : p.2.length ≤ l.length := by
  obtain ⟨j, _, _, h2⟩ := rdN_rest h
  rw [h2, List.length_drop]; omega
theorem rdC_le {l : List Nat} {p : Nat × List Nat} (h : rdC l = some p) : p.2.length ≤ l.length ∧ p.1 ≤ p.2.length := by
  unfold rdC at h
  cases h1 : rdN l with
  | none => rw [h1] at h; cases h
  | some q =>
    have h2 := rdN_le h1
    rw [h1] at h
    simp only [Option.bind_some] at h
    split at h
    · cases h; exact ⟨h2, by assumption⟩
    · cases h
theorem OwnI.head' {B : Nat} {w : World} {v : Value} {l : List Int} (h : OwnI B w v l) {b : Nat} (hb : v.ownBlock = some b) : ∃ cur, w.heap[b]? = some (.cells cur 3 (0, 0)) := by
  rcases h.2 with ⟨h2, _⟩ | ⟨g, cap, cur, h1, _, hg, _⟩
  · rw [h2] at hb; cases hb
  · rw [h1] at hb; cases hb; exact ⟨cur, hg⟩
/-- Where the reading of a node stands. -/
structure NdS (w : World) (br B : Nat) (n : Node) (s : Value) (ns : List Nat) (wr : World) : Prop where
  rd : RrN wr br ns
  boxA : wr.heap[w.heap.size]? = some (.cells #[.int .i64 0, .int .i64 0, .int .u64 0, .string ⟨#[]⟩, .slice none 0 0] 44 (0, 0))
  boxB : wr.heap[B]? = some (.cells (nodeCells n s) 44 (0, 0))
  own : OwnI w.heap.size wr s n.args
  fr : Fr (fun k => k = br) w wr
  lt : w.heap.size < B ∧ br < w.heap.size
theorem NdS.step {w : World} {br B : Nat} {n : Node} {s : Value} {ns ns' : List Nat} {wr w' : World} (h : NdS w br B n s ns wr) (hf : Fr (fun k => k = br) wr w') (hr : RrN w' br ns') : NdS w br B n s ns' w' :=
  ⟨hr, hf.at (fun e => by have := h.lt; have e2 : w.heap.size = br := e; omega) h.boxA, hf.at (fun e => by have := h.lt; have e2 : B = br := e; omega) h.boxB, h.own.fr hf (fun k hk e => by have := (World.ownsRow.lt h.own k hk).1; have := h.lt; have e2 : k = br := e; omega), h.fr.trans hf, h.lt⟩
set_option maxHeartbeats 8000000 in
theorem rnode_any (br : Nat) (ns : List Nat) (w : World) (h : RrN w br ns) (hl : ns.length ≤ 1000000) :
    Calls Tryz.prog 47 #[.pointer (some ⟨br, 0, none⟩)] w (RdNodeOut w br (rdNode ns)) := by
  have hbr : br < w.heap.size := by
    obtain ⟨_, _, _, hb, _⟩ := h
    exact (Array.getElem?_eq_some_iff.1 hb).1
  have hstep : ∀ {w1 w2 : World} {m : List Nat}, RrN w1 br m → Fr NoB w1 w2 → RrN w2 br m := fun h hf => by
    obtain ⟨a, c, l, hb, hr, hn⟩ := h
    exact ⟨a, c, l, hf.at (fun h => h) hb, hr.fr hf (fun _ _ h => h.elim), hn⟩
  have HST : Hid (∀ {w1 w2 : World} {m : List Nat}, RrN w1 br m → Fr NoB w1 w2 → RrN w2 br m) := hstep
  clear hstep
  have F0 : Hid (Fr NoB w (w.alloc (.cells #[.int .i64 0, .int .i64 0, .int .u64 0, .string ⟨#[]⟩, .slice none 0 0] 44))) := (Fr.refl NoB w).alloc _
  have A0 := hid (at_new w (.cells #[.int .i64 0, .int .i64 0, .int .u64 0, .string ⟨#[]⟩, .slice none 0 0] 44))
  have H0 := hid (HST.out h F0.out)
  obtain ⟨w0, hw0⟩ : ∃ w0, w.alloc (.cells #[.int .i64 0, .int .i64 0, .int .u64 0, .string ⟨#[]⟩, .slice none 0 0] 44) = w0 := ⟨_, rfl⟩
  rw [hw0] at F0 A0 H0
  have HNE : Hid (¬ w.heap.size = br) := by show ¬ _; omega
  clear h
  go_enter Tryz.func47, Tryz.ntmps47
  go_wp2_with fail
  refine (rsgn_any br ns w0 H0.out (by omega)).mono ?_
  intro e w1 h1
  unfold RdOut at h1
  cases hr : rdS ns with
  | none =>
    rw [hr] at h1
    obtain ⟨rfl, hf⟩ := h1
    have X := hid (show rdNode ns = none by unfold rdNode; rw [hr]; rfl)
    have F1 := hid (F0.out.mono (M' := fun k => k = br) (fun _ _ h => h.elim) |>.trans hf)
    clear hr hf
    go_wp2
    refine And.intro (by first | rfl | trivial) ?_
    unfold RdNodeOut
    rw [X.out]
    exact ⟨rfl, F1.out⟩
  | some p0 =>
  obtain ⟨op, ns1⟩ := p0
  rw [hr] at h1
  obtain ⟨rfl, hn1, hf⟩ := h1
  have l1 := rdS_rest hr
  simp only at l1
  have E1 := hid hr
  have H1 := hid hn1
  have A1 := hid (hf.at HNE.out A0.out)
  have F1 := hid ((F0.out.mono (M' := fun k => k = br) (fun _ _ h => h.elim)).trans hf)
  clear hr hf hn1 hw0
  go_wp2_with fail
  refine (rsgn_any br ns1 w1 H1.out (by omega)).mono ?_
  intro e w2 h1
  unfold RdOut at h1
  cases hr : rdS ns1 with
  | none =>
    rw [hr] at h1
    obtain ⟨rfl, hf⟩ := h1
    have X := hid (show rdNode ns = none by unfold rdNode; rw [E1.out]; simp only [Option.bind_some]; rw [hr]; rfl)
    have F2 := hid (F1.out.trans hf)
    clear hr hf
    go_wp2
    refine And.intro (by first | rfl | trivial) ?_
    unfold RdNodeOut
    rw [X.out]
    exact ⟨rfl, F2.out⟩
  | some p0 =>
  obtain ⟨wd, ns2⟩ := p0
  rw [hr] at h1
  obtain ⟨rfl, hn1, hf⟩ := h1
  have l2 := rdS_rest hr
  simp only at l2
  have E2 := hid hr
  have H2 := hid hn1
  have A2 := hid (hf.at HNE.out A1.out)
  have F2 := hid (F1.out.trans hf)
  clear hr hf hn1
  go_wp2_with fail
  refine (rnum_any br ns2 w2 H2.out (by omega)).mono ?_
  intro e w3 h1
  unfold RdOut at h1
  cases hr : rdN ns2 with
  | none =>
    rw [hr] at h1
    obtain ⟨rfl, hf⟩ := h1
    have X := hid (show rdNode ns = none by unfold rdNode; rw [E1.out]; simp only [Option.bind_some]; rw [E2.out]; simp only [Option.bind_some]; rw [hr]; rfl)
    have F3 := hid (F2.out.trans hf)
    clear hr hf
    go_wp2
    refine And.intro (by first | rfl | trivial) ?_
    unfold RdNodeOut
    rw [X.out]
    exact ⟨rfl, F3.out⟩
  | some p0 =>
  obtain ⟨vl, ns3⟩ := p0
  rw [hr] at h1
  obtain ⟨rfl, hn1, hf⟩ := h1
  have l3 := rdN_le hr
  simp only at l3
  have E3 := hid hr
  have A3 := hid (hf.at HNE.out A2.out)
  have F3 := hid (F2.out.trans hf)
  have SB : Hid (NdS w br w3.heap.size ⟨op, wd, vl, ⟨#[]⟩, []⟩ (.slice none 0 0) ns3 (w3.alloc (.cells #[.int .i64 op, .int .i64 wd, .int .u64 vl, .string ⟨#[]⟩, .slice none 0 0] 44))) :=
    ⟨HST.out hn1 ((Fr.refl NoB w3).alloc _), at_old A3.out _, at_new w3 _, OwnI.nil _ _, F3.out.alloc _, (Array.getElem?_eq_some_iff.1 A3.out).1, hbr⟩
  clear hr hf hn1 F0 F1 F2 A0 A1 A2 H0 H1 H2
  go_wp2_with fail
  refine (rcnt_any br ns3 _ SB.out.rd (by omega)).mono ?_
  intro e w5 h1
  unfold RdOut at h1
  cases hr : rdC ns3 with
  | none =>
    rw [hr] at h1
    obtain ⟨rfl, hf⟩ := h1
    have X := hid (show rdNode ns = none by unfold rdNode; rw [E1.out]; simp only [Option.bind_some]; rw [E2.out]; simp only [Option.bind_some]; rw [E3.out]; simp only [Option.bind_some]; rw [hr]; rfl)
    have F4 := hid (SB.out.fr.trans hf)
    clear hr hf
    go_wp2
    refine And.intro (by first | rfl | trivial) ?_
    unfold RdNodeOut
    rw [X.out]
    exact ⟨rfl, F4.out⟩
  | some p0 =>
  obtain ⟨k, ns4⟩ := p0
  rw [hr] at h1
  obtain ⟨rfl, hn1, hf⟩ := h1
  obtain ⟨l4, lk⟩ := rdC_le hr
  simp only at l4 lk
  have E4 := hid hr
  have SC := hid (SB.out.step hf hn1)
  have SC2 := hid (SC.out.step (Fr.refl (fun k => k = br) w5).drew (HST.out SC.out.rd (Fr.refl NoB w5).drew))
  clear hr hf hn1 SB A3 F3 SC
  obtain ⟨ra, rc, l, hb, hry, hnl⟩ := SC2.out.rd
  have hkl : k ≤ l.length := by
    have h9 : ns4.length = l.length := by
      simp only at hnl
      rw [← hnl]; simp
    omega
  have hlc := hry.cap.2
  have b0 : w5.drew.cell? ⟨br, 0, none⟩ = some (.slice (some ra) l.length rc) := by simp [World.cell?, hb]
  have bf : w5.drew.frozen? ⟨br, 0, none⟩ = false := by simp [World.frozen?, hb]
  obtain ⟨c0, c1, c2, c3, c4, cf, cl⟩ := five_of SC2.out.boxB
  have HB := hid hb
  have HRY := hid hry
  have HNL := hid hnl
  have CV := hid (fun (W : World) (h : W = w5.drew) => h ▸ conv_take (c' := rc) hry hkl)
  clear hb hry hnl
  go_wp2_with fail
  refine region_eff (fun w' => Hid (RdY (fun k => br ≤ k) w' (.slice (some ra) l.length rc) l) ∧ w'.cell? ⟨br, 0, none⟩ = some (.slice (some ra) l.length rc)) 18 [(0, 1), (1, 1), (2, 1), (3, 1), (4, 0), (5, 1), (6, 1), (7, 0), (8, 1), (9, 1), (10, 1), (11, 0), (12, 1), (13, 1), (14, 1), (15, 2), (16, 1), (17, 1), (18, 2)] (by kernel_rfl) (by kernel_rfl) ?_ ?_
  · exact ⟨HRY, b0⟩
  have hkc : k ≤ rc := by omega
  have HKL := hid hkl
  repeat (first | (refine eff_off (by rfl) (by rfl) ?_; (try simp only [Act.put, List.setIfInBounds_toArray, List.set_cons_zero, List.set_cons_succ])) | (refine eff_off0 (by rfl) (by rfl) ?_; (try simp only [Act.put, List.setIfInBounds_toArray, List.set_cons_zero, List.set_cons_succ])) | (refine eff_pu ?_ (by rfl) (by rfl) ?_ ?_; rotate_left; (focus (intro w'; go_simp; (try with_reducible rfl); done)); (try simp only [Act.put, List.setIfInBounds_toArray, List.set_cons_zero, List.set_cons_succ])) | (refine eff_rd ?_ (by rfl) (by rfl) ?_ ?_; rotate_left; (focus (intro w' hS; (try obtain ⟨hq1, hS⟩ := hS); (try obtain ⟨hq2, hS⟩ := hS); (try obtain ⟨hq3, hS⟩ := hS); (try obtain ⟨hq4, hS⟩ := hS); (try obtain ⟨hq5, hS⟩ := hS); (try obtain ⟨hq6, hS⟩ := hS); (try obtain ⟨hq7, hS⟩ := hS); (try obtain ⟨hq8, hS⟩ := hS); (try obtain ⟨hq9, hS⟩ := hS); (try obtain ⟨hq10, hS⟩ := hS); (try obtain ⟨hq11, hS⟩ := hS); (try obtain ⟨hq12, hS⟩ := hS); (try obtain ⟨hq13, hS⟩ := hS); (try obtain ⟨hq14, hS⟩ := hS); (try obtain ⟨hq15, hS⟩ := hS); (try obtain ⟨hq16, hS⟩ := hS); (try obtain ⟨hq17, hS⟩ := hS); (try obtain ⟨hq18, hS⟩ := hS); (try obtain ⟨hq19, hS⟩ := hS); (try dsimp only at hS); go_simp; (try with_reducible rfl); done)); (try simp only [Act.put, List.setIfInBounds_toArray, List.set_cons_zero, List.set_cons_succ])))
  refine eff_rd (.string ⟨(l.take k).toArray⟩) (by rfl) (by rfl) ?_ ?_
  · intro w' hS
    have h9 := conv_take (c' := rc) hS.1.out HKL.out
    go_simp
  (try simp only [Act.put, List.setIfInBounds_toArray, List.set_cons_zero, List.set_cons_succ])
  repeat (first | (refine eff_off (by rfl) (by rfl) ?_; (try simp only [Act.put, List.setIfInBounds_toArray, List.set_cons_zero, List.set_cons_succ])) | (refine eff_off0 (by rfl) (by rfl) ?_; (try simp only [Act.put, List.setIfInBounds_toArray, List.set_cons_zero, List.set_cons_succ])) | (refine eff_pu ?_ (by rfl) (by rfl) ?_ ?_; rotate_left; (focus (intro w'; go_simp; (try with_reducible rfl); done)); (try simp only [Act.put, List.setIfInBounds_toArray, List.set_cons_zero, List.set_cons_succ])) | (refine eff_rd ?_ (by rfl) (by rfl) ?_ ?_; rotate_left; (focus (intro w' hS; (try obtain ⟨hq1, hS⟩ := hS); (try obtain ⟨hq2, hS⟩ := hS); (try obtain ⟨hq3, hS⟩ := hS); (try obtain ⟨hq4, hS⟩ := hS); (try obtain ⟨hq5, hS⟩ := hS); (try obtain ⟨hq6, hS⟩ := hS); (try obtain ⟨hq7, hS⟩ := hS); (try obtain ⟨hq8, hS⟩ := hS); (try obtain ⟨hq9, hS⟩ := hS); (try obtain ⟨hq10, hS⟩ := hS); (try obtain ⟨hq11, hS⟩ := hS); (try obtain ⟨hq12, hS⟩ := hS); (try obtain ⟨hq13, hS⟩ := hS); (try obtain ⟨hq14, hS⟩ := hS); (try obtain ⟨hq15, hS⟩ := hS); (try obtain ⟨hq16, hS⟩ := hS); (try obtain ⟨hq17, hS⟩ := hS); (try obtain ⟨hq18, hS⟩ := hS); (try obtain ⟨hq19, hS⟩ := hS); (try dsimp only at hS); go_simp; (try with_reducible rfl); done)); (try simp only [Act.put, List.setIfInBounds_toArray, List.set_cons_zero, List.set_cons_succ])))
  have hda : (if rc = k then some ra else some (ra.add k)) = some (dropA ra rc k) := by unfold dropA; split <;> rfl
  rw [hda]
  clear hda
  have W6 : Hid (Fr (fun q => q = w3.heap.size) w5.drew (w5.drew.setCell ⟨w3.heap.size, 3, none⟩ (.string ⟨(l.take k).toArray⟩))) := (Fr.refl (fun q => q = w3.heap.size) w5.drew).setCell (p := ⟨w3.heap.size, 3, none⟩) (fun _ => rfl) _
  have SL := hid SC2.out.lt
  have HB6 := hid (W6.out.at (fun e => by have := SL.out; have e2 : br = w3.heap.size := e; omega) HB.out)
  have R6 := hid (HRY.out.fr W6.out (fun q _ e => by have := SL.out; have e2 : q = w3.heap.size := e; omega))
  have B6 := hid (set_at SC2.out.boxB 3 (.string ⟨(l.take k).toArray⟩))
  have b6 : (w5.drew.setCell ⟨w3.heap.size, 3, none⟩ (.string ⟨(l.take k).toArray⟩)).cell? ⟨br, 0, none⟩ = some (.slice (some ra) l.length rc) := by have := HB6.out; simp only [World.cell?, this]; rfl
  have f6 : (w5.drew.setCell ⟨w3.heap.size, 3, none⟩ (.string ⟨(l.take k).toArray⟩)).frozen? ⟨br, 0, none⟩ = false := by have := HB6.out; simp only [World.frozen?, this]; rfl
  refine eff_skip (W' := w5.drew.setCell ⟨w3.heap.size, 3, none⟩ (.string ⟨(l.take k).toArray⟩)) (by rfl) (by rfl) (by go_simp) (fun _ => ⟨R6, b6⟩) ?_
  (try simp only [Act.put, List.setIfInBounds_toArray, List.set_cons_zero, List.set_cons_succ])
  obtain ⟨w6, hw6⟩ : ∃ w6, w5.drew.setCell ⟨w3.heap.size, 3, none⟩ (.string ⟨(l.take k).toArray⟩) = w6 := ⟨_, rfl⟩
  rw [hw6] at W6 HB6 R6 B6 b6 f6 ⊢
  clear hw6 c0 c1 c2 c3 c4 cf cl b0 bf CV
  repeat (first | (refine eff_off (by rfl) (by rfl) ?_; (try simp only [Act.put, List.setIfInBounds_toArray, List.set_cons_zero, List.set_cons_succ])) | (refine eff_off0 (by rfl) (by rfl) ?_; (try simp only [Act.put, List.setIfInBounds_toArray, List.set_cons_zero, List.set_cons_succ])) | (refine eff_pu ?_ (by rfl) (by rfl) ?_ ?_; rotate_left; (focus (intro w'; go_simp; (try with_reducible rfl); done)); (try simp only [Act.put, List.setIfInBounds_toArray, List.set_cons_zero, List.set_cons_succ])) | (refine eff_rd ?_ (by rfl) (by rfl) ?_ ?_; rotate_left; (focus (intro w' hS; (try obtain ⟨hq1, hS⟩ := hS); (try obtain ⟨hq2, hS⟩ := hS); (try obtain ⟨hq3, hS⟩ := hS); (try obtain ⟨hq4, hS⟩ := hS); (try obtain ⟨hq5, hS⟩ := hS); (try obtain ⟨hq6, hS⟩ := hS); (try obtain ⟨hq7, hS⟩ := hS); (try obtain ⟨hq8, hS⟩ := hS); (try obtain ⟨hq9, hS⟩ := hS); (try obtain ⟨hq10, hS⟩ := hS); (try obtain ⟨hq11, hS⟩ := hS); (try obtain ⟨hq12, hS⟩ := hS); (try obtain ⟨hq13, hS⟩ := hS); (try obtain ⟨hq14, hS⟩ := hS); (try obtain ⟨hq15, hS⟩ := hS); (try obtain ⟨hq16, hS⟩ := hS); (try obtain ⟨hq17, hS⟩ := hS); (try obtain ⟨hq18, hS⟩ := hS); (try obtain ⟨hq19, hS⟩ := hS); (try dsimp only at hS); go_simp; (try with_reducible rfl); done)); (try simp only [Act.put, List.setIfInBounds_toArray, List.set_cons_zero, List.set_cons_succ])))
  have W7 : Hid (Fr (fun q => q = br) w6 (w6.setCell ⟨br, 0, none⟩ (.slice (some (dropA ra rc k)) (l.length - k) (rc - k)))) := (Fr.refl (fun q => q = br) w6).setCell (p := ⟨br, 0, none⟩) (fun _ => rfl) _
  refine eff_skip (W' := w6.setCell ⟨br, 0, none⟩ (.slice (some (dropA ra rc k)) (l.length - k) (rc - k))) (by rfl) (by rfl) (by go_simp) (fun h => absurd rfl h) ?_
  (try simp only [Act.put, List.setIfInBounds_toArray, List.set_cons_zero, List.set_cons_succ])
  refine eff_nil ?_
  have SD : Hid (NdS w br w3.heap.size ⟨op, wd, vl, ⟨(l.take k).toArray⟩, []⟩ (.slice none 0 0) (ns4.drop k) (w6.setCell ⟨br, 0, none⟩ (.slice (some (dropA ra rc k)) (l.length - k) (rc - k)))) := by
    have hlt := SL.out
    refine ⟨⟨dropA ra rc k, rc - k, l.drop k, ?_, ?_, ?_⟩, ?_, ?_, OwnI.nil _ _, ?_, hlt⟩
    · rw [List.length_drop]; exact set_at HB6.out 0 _
    · exact (RdY.dropF R6.out HKL.out).fr W7.out (fun q _ e => by have e2 : q = br := e; omega)
    · unfold nats
      rw [List.map_drop]
      have h9 := HNL.out
      unfold nats at h9
      rw [h9]
    · exact W7.out.at (fun e => by have e2 : w.heap.size = br := e; omega) (W6.out.at (fun e => by have e2 : w.heap.size = w3.heap.size := e; omega) SC2.out.boxA)
    · exact W7.out.at (fun e => by have e2 : w3.heap.size = br := e; omega) B6.out
    · exact (SC2.out.fr.trans' W6.out (fun q hq e => by have e2 : q = w3.heap.size := e; omega)).trans W7.out
  obtain ⟨w7, hw7⟩ : ∃ w7, w6.setCell ⟨br, 0, none⟩ (.slice (some (dropA ra rc k)) (l.length - k) (rc - k)) = w7 := ⟨_, rfl⟩
  rw [hw7] at SD ⊢
  obtain ⟨nm, hnm⟩ : ∃ nm : ByteArray, Hid (nm = ⟨((ns4.take k).map UInt8.ofNat).toArray⟩) ∧ nm = ⟨(l.take k).toArray⟩ := ⟨_, by
    show _ = _
    have h9 := HNL.out
    unfold nats at h9
    try simp only at h9
    rw [← h9, ← List.map_take, List.map_map]
    have h10 : (UInt8.ofNat ∘ fun x : UInt8 => x.toNat) = id := by funext x; simp
    rw [h10, List.map_id], rfl⟩
  obtain ⟨HNM, hnm2⟩ := hnm
  rw [← hnm2] at SD ⊢
  have l5 : (ns4.drop k).length ≤ ns4.length := by rw [List.length_drop]; omega
  obtain ⟨ns5, hns5⟩ : ∃ ns5, ns4.drop k = ns5 := ⟨_, rfl⟩
  rw [hns5] at SD l5
  have HN5 := hid hns5
  clear hns5 hnm2 hw7 W6 W7 HB HB6 R6 B6 HRY HNL SC2 b6 f6 hkl hlc hkc HKL lk
  go_wp2_with fail
  refine (rcnt_any br ns5 w7 SD.out.rd (by omega)).mono ?_
  intro e w8 h1
  unfold RdOut at h1
  cases hr : rdC ns5 with
  | none =>
    rw [hr] at h1
    obtain ⟨rfl, hf⟩ := h1
    have X := hid (show rdNode ns = none by unfold rdNode; rw [E1.out]; simp only [Option.bind_some]; rw [E2.out]; simp only [Option.bind_some]; rw [E3.out]; simp only [Option.bind_some]; rw [E4.out]; simp only [Option.bind_some]; rw [HN5.out, hr]; rfl)
    have F4 := hid (SD.out.fr.trans hf)
    clear hr hf
    go_wp2
    refine And.intro (by first | rfl | trivial) ?_
    unfold RdNodeOut
    rw [X.out]
    exact ⟨rfl, F4.out⟩
  | some p0 =>
  obtain ⟨m, ns6⟩ := p0
  rw [hr] at h1
  obtain ⟨rfl, hn1, hf⟩ := h1
  obtain ⟨l6, lm⟩ := rdC_le hr
  simp only at l6 lm
  have E5 := hid hr
  have SE := hid (SD.out.step hf hn1)
  have X : Hid (rdNode ns = (rdMany rdS m ns6).map fun p5 => (⟨op, wd, vl, nm, p5.1⟩, p5.2)) := by
    show _ = _
    unfold rdNode
    rw [E1.out]; simp only [Option.bind_some]
    rw [E2.out]; simp only [Option.bind_some]
    rw [E3.out]; simp only [Option.bind_some]
    rw [E4.out]; simp only [Option.bind_some]
    rw [HN5.out, E5.out]; simp only [Option.bind_some]
    rw [HNM.out]
  clear hr hf hn1 SD E1 E2 E3 E4 E5 HN5 HNM
  go_wp2
  go_loopw [33] (fun i wr => ∃ (j : Nat) (s : Value) (ag : List Int) (nj : List Nat), j ≤ m ∧ i = .int .i64 j ∧ Hid (ag.length = j) ∧ nj.length ≤ ns6.length ∧ Hid (NdS w br w3.heap.size ⟨op, wd, vl, nm, ag⟩ s nj wr) ∧ Hid (rdMany rdS m ns6 = (rdMany rdS (m - j) nj).map fun q => (ag ++ q.1, q.2))) (fun i _ => m - (intOf i).toNat)
  case atStart => exact ⟨0, _, [], ns6, Nat.zero_le _, rfl, rfl, Nat.le_refl _, SE, by
    show _ = _
    simp⟩
  case round =>
    obtain ⟨j, s, ag, nj, hj, rfl, HAL, hnj, SJ, HJ⟩ := hrel
    by_cases hlt : j < m
    · have SJ2 := hid (SJ.out.step (Fr.refl (fun k => k = br) wr).drew (HST.out SJ.out.rd (Fr.refl NoB wr).drew))
      obtain ⟨c0, c1, c2, c3, c4, cf, cl⟩ := five_of SJ2.out.boxB
      obtain ⟨sp, sc, hsv⟩ := OwnI.form SJ2.out.own
      simp only at hsv
      subst hsv
      have HD := hid (rdMany_step (f := rdS) (k := m) (j := j) (l := nj) hlt)
      clear SJ c0 c1 c2 c3
      go_wp2_with fail
      refine region_effP (fun w' => w'.cell? ⟨w3.heap.size, 4, none⟩ = some (.slice sp ag.length sc)) (fun c w' => c = badC ∧ Hid (rdS nj = none) ∧ Fr (fun k => k = br) w w') 7 [(0, 1), (1, 0), (2, 1), (3, 2), (4, 2), (5, 2), (6, 1), (7, 2)] (by kernel_rfl) (by kernel_rfl) ?_ ?_ ?_
      · rintro c a' w' hD ⟨rfl, hn, hf⟩
        refine And.intro (hD.trans rfl) ?_
        unfold RdNodeOut
        have e : rdNode ns = none := by rw [X.out, HJ.out, HD.out, hn.out]; rfl
        rw [e]
        exact ⟨rfl, hf⟩
      · exact c4
      repeat (first | (refine effp_off (by rfl) (by rfl) ?_; (try simp only [Act.put, List.setIfInBounds_toArray, List.set_cons_zero, List.set_cons_succ])) | (refine effp_pu ?_ (by rfl) (by rfl) ?_ ?_; rotate_left; (focus (intro w'; go_simp; (try with_reducible rfl); done)); (try simp only [Act.put, List.setIfInBounds_toArray, List.set_cons_zero, List.set_cons_succ])) | (refine effp_rd ?_ (by rfl) (by rfl) ?_ ?_; rotate_left; (focus (intro w' hS; (try obtain ⟨hq1, hS⟩ := hS); (try obtain ⟨hq2, hS⟩ := hS); (try obtain ⟨hq3, hS⟩ := hS); (try obtain ⟨hq4, hS⟩ := hS); (try obtain ⟨hq5, hS⟩ := hS); (try obtain ⟨hq6, hS⟩ := hS); (try obtain ⟨hq7, hS⟩ := hS); (try obtain ⟨hq8, hS⟩ := hS); (try obtain ⟨hq9, hS⟩ := hS); (try obtain ⟨hq10, hS⟩ := hS); (try obtain ⟨hq11, hS⟩ := hS); (try obtain ⟨hq12, hS⟩ := hS); (try obtain ⟨hq13, hS⟩ := hS); (try obtain ⟨hq14, hS⟩ := hS); (try obtain ⟨hq15, hS⟩ := hS); (try obtain ⟨hq16, hS⟩ := hS); (try obtain ⟨hq17, hS⟩ := hS); (try obtain ⟨hq18, hS⟩ := hS); (try obtain ⟨hq19, hS⟩ := hS); (try dsimp only at hS); go_simp; (try with_reducible rfl); done)); (try simp only [Act.put, List.setIfInBounds_toArray, List.set_cons_zero, List.set_cons_succ])))
      refine effp_call 48 #[.pointer (some ⟨br, 0, none⟩)] (by rfl) (by rfl) (by intro w'; go_simp) rfl ?_
      refine (rsgn_any br nj _ SJ2.out.rd (by omega)).mono ?_
      intro e w9 h1
      unfold RdOut at h1
      cases hr : rdS nj with
      | none =>
        rw [hr] at h1
        obtain ⟨rfl, hf⟩ := h1
        exact .inr ⟨_, rfl, rfl, hid rfl, SJ2.out.fr.trans hf⟩
      | some p0 =>
        obtain ⟨x, nj1⟩ := p0
        rw [hr] at h1
        obtain ⟨rfl, hn1, hf⟩ := h1
        have l9 := rdS_rest hr
        simp only at l9
        have ER := hid hr
        have S9 := hid (SJ2.out.step hf hn1)
        obtain ⟨c0, c1, c2, c3, d4, df, dl⟩ := five_of S9.out.boxB
        clear hr hf hn1 c4 cf cl c0 c1 c2 c3
        refine .inl ⟨_, rfl, fun _ => d4, ?_⟩
        (try simp only [Act.put, List.setIfInBounds_toArray, List.set_cons_zero, List.set_cons_succ])
        have dA := at_old S9.out.boxB (.cells #[.int .i64 x] 3)
        obtain ⟨c0, c1, c2, c3, d4', df', dl'⟩ := five_of dA
        clear dA c0 c1 c2 c3
        refine effp_run (v := .slice (some ⟨w9.heap.size, 0, none⟩) 1 1) (W' := w9.alloc (.cells #[.int .i64 x] 3)) (by rfl) (by rfl) (by go_simp) (fun _ => d4') ?_
        (try simp only [Act.put, List.setIfInBounds_toArray, List.set_cons_zero, List.set_cons_succ])
        refine effp_do (by rfl) ?_
        refine ap_ints_at _ rfl _ _ rfl w.heap.size (.slice sp ag.length sc) ag rfl (S9.out.own.fr ((Fr.refl NoB w9).alloc _) (fun _ _ h => h)) NoB _ [x] rfl (rdI_lit' (l := [x]) rfl rfl rfl (fun h => h)) ?_ ?_ ?_
        · have := HAL.out; simp only [List.length_singleton]; omega
        · have := S9.out.fr.size; simp only [World.size_alloc]; omega
        intro v6 w6' ho6 hg6 hb6
        obtain ⟨ax, HAX⟩ : ∃ ax, Hid (ax = ag ++ [x]) := ⟨_, hid rfl⟩
        rw [← HAX.out] at ho6
        obtain ⟨p6, q6, hv6⟩ := OwnI.form ho6
        subst hv6
        have f6 : Fr (fun b => (Value.slice sp ag.length sc).ownBlock = some b) w9 w6' := Fr.grown ((Fr.refl _ w9).alloc _) hg6 (fun k hk _ => hk)
        have dB : ¬ (Value.slice sp ag.length sc).ownBlock = some w3.heap.size := fun e => by
          obtain ⟨cur, hc⟩ := OwnI.head' S9.out.own e
          exact ne_of_types hc S9.out.boxB (by decide) rfl
        have dA : ¬ (Value.slice sp ag.length sc).ownBlock = some w.heap.size := fun e => by
          obtain ⟨cur, hc⟩ := OwnI.head' S9.out.own e
          exact ne_of_types hc S9.out.boxA (by decide) rfl
        have FO : Fr (fun k => k = br) w w6' := S9.out.fr.trans' f6 (fun q hq e => by have := (World.ownsRow.lt S9.out.own q e).1; omega)
        have B6 := hid (f6.at dB S9.out.boxB)
        have A6 := hid (f6.at dA S9.out.boxA)
        have O6 := hid ho6
        have HF6 := hid FO
        have R6 : Hid (RrN w6' br nj1) := by
          obtain ⟨a', c', l', hb', hr', hn'⟩ := S9.out.rd
          have hle : ∀ q, (Value.slice sp ag.length sc).ownBlock = some q → br < q := fun q hq => by have := (World.ownsRow.lt S9.out.own q hq).1; omega
          exact ⟨a', c', l', f6.at (fun e => by have := hle _ e; omega) hb', hr'.fr f6 (fun q _ e => Nat.le_of_lt (hle q e)), hn'⟩
        obtain ⟨c0, c1, c2, c3, e4, ef, el⟩ := five_of B6.out
        clear c0 c1 c2 c3 d4 df dl d4' df' dl' ho6 hg6 hb6 f6 dA dB FO
        refine effp_done ⟨fun _ => e4, ?_⟩
        (try simp only [Act.put, List.setIfInBounds_toArray, List.set_cons_zero, List.set_cons_succ])
        repeat (first | (refine effp_off (by rfl) (by rfl) ?_; (try simp only [Act.put, List.setIfInBounds_toArray, List.set_cons_zero, List.set_cons_succ])) | (refine effp_pu ?_ (by rfl) (by rfl) ?_ ?_; rotate_left; (focus (intro w'; go_simp; (try with_reducible rfl); done)); (try simp only [Act.put, List.setIfInBounds_toArray, List.set_cons_zero, List.set_cons_succ])) | (refine effp_rd ?_ (by rfl) (by rfl) ?_ ?_; rotate_left; (focus (intro w' hS; (try obtain ⟨hq1, hS⟩ := hS); (try obtain ⟨hq2, hS⟩ := hS); (try obtain ⟨hq3, hS⟩ := hS); (try obtain ⟨hq4, hS⟩ := hS); (try obtain ⟨hq5, hS⟩ := hS); (try obtain ⟨hq6, hS⟩ := hS); (try obtain ⟨hq7, hS⟩ := hS); (try obtain ⟨hq8, hS⟩ := hS); (try obtain ⟨hq9, hS⟩ := hS); (try obtain ⟨hq10, hS⟩ := hS); (try obtain ⟨hq11, hS⟩ := hS); (try obtain ⟨hq12, hS⟩ := hS); (try obtain ⟨hq13, hS⟩ := hS); (try obtain ⟨hq14, hS⟩ := hS); (try obtain ⟨hq15, hS⟩ := hS); (try obtain ⟨hq16, hS⟩ := hS); (try obtain ⟨hq17, hS⟩ := hS); (try obtain ⟨hq18, hS⟩ := hS); (try obtain ⟨hq19, hS⟩ := hS); (try dsimp only at hS); go_simp; (try with_reducible rfl); done)); (try simp only [Act.put, List.setIfInBounds_toArray, List.set_cons_zero, List.set_cons_succ])))
        have W7 : Hid (Fr (fun q => q = w3.heap.size) w6' (w6'.setCell ⟨w3.heap.size, 4, none⟩ (.slice p6 ax.length q6))) := (Fr.refl (fun q => q = w3.heap.size) w6').setCell (p := ⟨w3.heap.size, 4, none⟩) (fun _ => rfl) _
        refine effp_skip (W' := w6'.setCell ⟨w3.heap.size, 4, none⟩ (.slice p6 ax.length q6)) (by rfl) (by rfl) (by go_simp) (fun h => absurd rfl h) ?_
        (try simp only [Act.put, List.setIfInBounds_toArray, List.set_cons_zero, List.set_cons_succ])
        refine effp_nil ?_
        have SN : Hid (NdS w br w3.heap.size ⟨op, wd, vl, nm, ax⟩ (.slice p6 ax.length q6) nj1 (w6'.setCell ⟨w3.heap.size, 4, none⟩ (.slice p6 ax.length q6))) := by
          have hlt9 := S9.out.lt
          refine ⟨?_, ?_, set_at B6.out 4 _, ?_, ?_, hlt9⟩
          · obtain ⟨a', c', l', hb', hr', hn'⟩ := R6.out
            exact ⟨a', c', l', W7.out.at (fun e => by have e2 : br = w3.heap.size := e; omega) hb', hr'.fr W7.out (fun q _ e => by have e2 : q = w3.heap.size := e; omega), hn'⟩
          · exact W7.out.at (fun e => by have e2 : w.heap.size = w3.heap.size := e; omega) A6.out
          · exact O6.out.fr W7.out (fun q hq e => by
              obtain ⟨cur, hc⟩ := OwnI.head' O6.out hq
              exact ne_of_types hc B6.out (by decide) e)
          · exact HF6.out.trans' W7.out (fun q hq e => by have e2 : q = w3.heap.size := e; omega)
        clear W7 B6 A6 O6 HF6 R6 e4 ef el
        go_wp2
        go_roundw
        case rel => exact ⟨j + 1, _, ax, nj1, by omega, by go_num, by show _ = _; rw [HAX.out, List.length_append, HAL.out]; rfl, by omega, SN, by
          show _ = _
          rw [HJ.out, HD.out, ER.out, HAX.out]
          simp only [Option.bind_some, Option.map_map]
          congr 1
          funext q
          simp⟩
        case measure => simp [intOf]; omega
    · obtain rfl : j = m := by omega
      have X2 : Hid (rdNode ns = some (⟨op, wd, vl, nm, ag⟩, nj)) := by
        show _ = _
        rw [X.out, HJ.out, Nat.sub_self, rdMany]
        simp
      obtain ⟨sp, sc, hsv⟩ := OwnI.form SJ.out.own
      simp only at hsv
      subst hsv
      obtain ⟨c0, c1, c2, c3, c4, cf, cl⟩ := five_of SJ.out.boxB
      obtain ⟨a0, a1, a2, a3, a4, af, al⟩ := five_of SJ.out.boxA
      go_wp2
      have r := set_at (set_at (set_at (set_at (set_at SJ.out.boxA 0 (.int .i64 op)) 1 (.int .i64 wd)) 2 (.int .u64 vl)) 3 (.string nm)) 4 (.slice sp ag.length sc)
      have FF : Fr (fun q => q = w.heap.size) wr (((((wr.setCell ⟨w.heap.size, 0, none⟩ (.int .i64 op)).setCell ⟨w.heap.size, 1, none⟩ (.int .i64 wd)).setCell ⟨w.heap.size, 2, none⟩ (.int .u64 vl)).setCell ⟨w.heap.size, 3, none⟩ (.string nm)).setCell ⟨w.heap.size, 4, none⟩ (.slice sp ag.length sc)) := by
        exact (((((Fr.refl (fun q => q = w.heap.size) wr).setCell (p := ⟨w.heap.size, 0, none⟩) (fun _ => rfl) _).setCell (p := ⟨w.heap.size, 1, none⟩) (fun _ => rfl) _).setCell (p := ⟨w.heap.size, 2, none⟩) (fun _ => rfl) _).setCell (p := ⟨w.heap.size, 3, none⟩) (fun _ => rfl) _).setCell (p := ⟨w.heap.size, 4, none⟩) (fun _ => rfl) _
      obtain ⟨WF, hWF⟩ : ∃ WF, (((((wr.setCell ⟨w.heap.size, 0, none⟩ (.int .i64 op)).setCell ⟨w.heap.size, 1, none⟩ (.int .i64 wd)).setCell ⟨w.heap.size, 2, none⟩ (.int .u64 vl)).setCell ⟨w.heap.size, 3, none⟩ (.string nm)).setCell ⟨w.heap.size, 4, none⟩ (.slice sp ag.length sc)) = WF := ⟨_, rfl⟩
      rw [hWF] at r FF ⊢
      obtain ⟨r0, r1, r2, r3, r4, rf, rl⟩ := five_of r
      refine bodyPost_ret (v := nodeV ⟨op, wd, vl, nm, ag⟩ (.slice sp ag.length sc)) (by simp [results, Tryz.results47, go_sem, r0, r1, r2, r3, r4, nodeV]) rfl ?_
      unfold RdNodeOut
      rw [X2.out]
      refine ⟨sp, sc, rfl, ?_, ?_, SJ.out.fr.trans' FF (fun q hq e => by have e2 : q = w.heap.size := e; omega)⟩
      · exact OwnI.rd (SJ.out.own.fr FF (fun q hq e => by
          obtain ⟨cur, hc⟩ := OwnI.head' SJ.out.own hq
          exact ne_of_types hc SJ.out.boxA (by decide) e)) (fun k hk h => by omega)
      · obtain ⟨a', c', l', hb', hr', hn'⟩ := SJ.out.rd
        exact ⟨a', c', l', FF.at (fun e => by have e2 : br = w.heap.size := e; omega) hb', hr'.fr FF (fun q _ e => by have e2 : q = w.heap.size := e; omega), hn'⟩
end Go.Proofs.YtndfncaoejbkiaaGreatDoor
end
section
/- The walk of the reader's dump. -/
namespace Go.Proofs.YtndfncaoejbkiaaGreatDoor
open Go.RowKit
set_option maxRecDepth 100000

theorem rdMany_le {α : Type} {f : List Nat → Option (α × List Nat)} (hf : ∀ l p, f l = some p → p.2.length ≤ l.length) : ∀ (k : Nat) (l : List Nat) (p : List α × List Nat), rdMany f k l = some p → p.2.length ≤ l.length
  | 0, l, p, h => by rw [rdMany] at h; cases h; exact Nat.le_refl _
  | k + 1, l, p, h => by
    rw [rdMany] at h
    cases h1 : f l with
    | none => rw [h1] at h; cases h
    | some q =>
      rw [h1] at h
      simp only [Option.bind_some] at h
      cases h2 : rdMany f k q.2 with
      | none => rw [h2] at h; cases h
      | some r =>
        rw [h2] at h
        cases h
        exact Nat.le_trans (rdMany_le hf k q.2 r h2) (hf l q h1)
theorem rdNode_le {l : List Nat} {p : Node × List Nat} (h : rdNode l = some p) : p.2.length ≤ l.length := by
  unfold rdNode at h
  cases h1 : rdS l with
  | none => rw [h1] at h; cases h
  | some p1 =>
  rw [h1] at h; simp only [Option.bind_some] at h
  have g1 := rdS_rest h1
  cases h2 : rdS p1.2 with
  | none => rw [h2] at h; cases h
  | some p2 =>
  rw [h2] at h; simp only [Option.bind_some] at h
  have g2 := rdS_rest h2
  cases h3 : rdN p2.2 with
  | none => rw [h3] at h; cases h
  | some p3 =>
  rw [h3] at h; simp only [Option.bind_some] at h
  have g3 := rdN_le h3
  cases h4 : rdC p3.2 with
  | none => rw [h4] at h; cases h
  | some p4 =>
  rw [h4] at h; simp only [Option.bind_some] at h
  have g4 := (rdC_le h4).1
  cases h5 : rdC (p4.2.drop p4.1) with
  | none => rw [h5] at h; cases h
  | some p5 =>
  rw [h5] at h; simp only [Option.bind_some] at h
  have g5 := (rdC_le h5).1
  rw [List.length_drop] at g5
  cases h6 : rdMany rdS p5.1 p5.2 with
  | none => rw [h6] at h; cases h
  | some p6 =>
  rw [h6] at h
  cases h
  have g6 := rdMany_le (f := rdS) (fun l p h => rdS_rest h) _ _ _ h6
  simp only
  omega
theorem rdLnk_le {l : List Nat} {p : Lnk × List Nat} (h : rdLnk l = some p) : p.2.length ≤ l.length := by
  unfold rdLnk at h
  cases h1 : rdS l with
  | none => rw [h1] at h; cases h
  | some p1 =>
  rw [h1] at h; simp only [Option.bind_some] at h
  have g1 := rdS_rest h1
  cases h2 : rdS p1.2 with
  | none => rw [h2] at h; cases h
  | some p2 =>
  rw [h2] at h; simp only [Option.bind_some] at h
  have g2 := rdS_rest h2
  cases h3 : rdS p2.2 with
  | none => rw [h3] at h; cases h
  | some p3 =>
  rw [h3] at h
  have g3 := rdS_rest h3
  cases h
  simp only
  omega
/-- What reading a dump comes to. -/
def RdDmOut (w : World) (br : Nat) (r : Option Dm) (e : Ending) (w' : World) : Prop :=
  match r with
  | some dm => ∃ sN sL sR d, e = .returned (dumpV sN sL sR) ∧ RdD (fun k => k < w.heap.size) w' sN sL sR d ∧ dmOf d = dm ∧ Fr (fun k => k = br) w w'
  | none => e = .panicked badC ∧ Fr (fun k => k = br) w w'
/-- Where the reading of a dump stands. -/
structure DmS (w : World) (br : Nat) (sN sL sR : Value) (ns : List Nat) (wr : World) : Prop where
  rd : RrN wr br ns
  boxA : wr.heap[w.heap.size]? = some (.cells (dumpCells (.slice none 0 0) (.slice none 0 0) (.slice none 0 0)) 26 (0, 0))
  boxB : wr.heap[w.heap.size + 1]? = some (.cells (dumpCells sN sL sR) 26 (0, 0))
  fr : Fr (fun k => k = br) w wr
  lt : br < w.heap.size
theorem RrN.later {w w' : World} {br : Nat} {ns : List Nat} {M : Nat → Prop} (h : RrN w br ns) (hf : Fr M w w') (hm : ∀ k, M k → br < k) : RrN w' br ns := by
  obtain ⟨a', c', l', hb', hr', hn'⟩ := h
  exact ⟨a', c', l', hf.at (fun e => by have := hm _ e; omega) hb', hr'.fr hf (fun q _ e => Nat.le_of_lt (hm q e)), hn'⟩
theorem DmS.step {w : World} {br : Nat} {sN sL sR : Value} {ns ns' : List Nat} {wr w' : World} (h : DmS w br sN sL sR ns wr) (hf : Fr (fun k => k = br) wr w') (hr : RrN w' br ns') : DmS w br sN sL sR ns' w' :=
  ⟨hr, hf.at (fun e => by have := h.lt; have e2 : w.heap.size = br := e; omega) h.boxA, hf.at (fun e => by have := h.lt; have e2 : w.heap.size + 1 = br := e; omega) h.boxB, h.fr.trans hf, h.lt⟩
/-- A step that leaves the boxes alone. -/
theorem DmS.same {w : World} {br : Nat} {sN sL sR : Value} {ns : List Nat} {wr w' : World} {M : Nat → Prop} (h : DmS w br sN sL sR ns wr) (hf : Fr M wr w') (hm : ∀ k, M k → w.heap.size + 1 < k) : DmS w br sN sL sR ns w' := by
  have hlt := h.lt
  exact ⟨h.rd.later hf (fun k hk => by have := hm k hk; omega), hf.at (fun e => by have := hm _ e; omega) h.boxA, hf.at (fun e => by have := hm _ e; omega) h.boxB, h.fr.trans' hf (fun k hk e => by have := hm k e; omega), hlt⟩
/-- A field of the dump is laid. -/
theorem DmS.put {w : World} {br : Nat} {sN sL sR tN tL tR : Value} {ns : List Nat} {wr : World} (h : DmS w br sN sL sR ns wr) (j : Nat) (u : Value) (he : (dumpCells sN sL sR).setIfInBounds j u = dumpCells tN tL tR) :
    DmS w br tN tL tR ns (wr.setCell ⟨w.heap.size + 1, j, none⟩ u) ∧ Fr (fun k => k = w.heap.size + 1) wr (wr.setCell ⟨w.heap.size + 1, j, none⟩ u) := by
  have hlt := h.lt
  have f : Fr (fun k => k = w.heap.size + 1) wr (wr.setCell ⟨w.heap.size + 1, j, none⟩ u) := (Fr.refl (fun k => k = w.heap.size + 1) wr).setCell (p := ⟨w.heap.size + 1, j, none⟩) (fun _ => rfl) _
  refine ⟨⟨h.rd.later f (fun k hk => by omega), f.at (fun e => by have e2 : w.heap.size = w.heap.size + 1 := e; omega) h.boxA, ?_, h.fr.trans' f (fun k hk e => by have e2 : k = w.heap.size + 1 := e; omega), hlt⟩, f⟩
  rw [← he]
  exact set_at h.boxB j u
set_option maxHeartbeats 8000000 in
theorem rdump_any (br : Nat) (ns : List Nat) (w : World) (h : RrN w br ns) (hl : ns.length ≤ 1000000) :
    Calls Tryz.prog 34 #[.pointer (some ⟨br, 0, none⟩)] w (RdDmOut w br (rdDm ns)) := by
  have hbr : br < w.heap.size := by
    obtain ⟨_, _, _, hb, _⟩ := h
    exact (Array.getElem?_eq_some_iff.1 hb).1
  have S0 : Hid (DmS w br (.slice none 0 0) (.slice none 0 0) (.slice none 0 0) ns ((w.alloc (.cells (dumpCells (.slice none 0 0) (.slice none 0 0) (.slice none 0 0)) 26)).alloc (.cells (dumpCells (.slice none 0 0) (.slice none 0 0) (.slice none 0 0)) 26))) :=
    ⟨(h.later ((Fr.refl NoB w).alloc _) (fun _ h => h.elim)).later ((Fr.refl NoB _).alloc _) (fun _ h => h.elim), at_old (at_new w _) _, at_new' (by simp), ((Fr.refl _ w).alloc _).alloc _, hbr⟩
  clear h
  go_enter Tryz.func34, Tryz.ntmps34
  go_wp2_with fail
  refine (rcnt_any br ns _ S0.out.rd (by omega)).mono ?_
  intro e w1 h1
  unfold RdOut at h1
  cases hr : rdC ns with
  | none =>
    rw [hr] at h1
    obtain ⟨rfl, hf⟩ := h1
    have X := hid (show rdDm ns = none by unfold rdDm; rw [hr]; rfl)
    have F1 := hid (S0.out.fr.trans hf)
    clear hr hf
    go_wp2
    refine And.intro (by first | rfl | trivial) ?_
    unfold RdDmOut
    rw [X.out]
    exact ⟨rfl, F1.out⟩
  | some p0 =>
  obtain ⟨m, ns1⟩ := p0
  rw [hr] at h1
  obtain ⟨rfl, hn1, hf⟩ := h1
  obtain ⟨l1, lm⟩ := rdC_le hr
  simp only at l1 lm
  have S1 := hid (S0.out.step hf hn1)
  have X1 : Hid (rdDm ns = (rdMany rdNode m ns1).bind fun p0 => (rdC p0.2).bind fun c1 => (rdMany rdLnk c1.1 c1.2).bind fun p1 => (rdC p1.2).bind fun c2 => (rdMany rdS c2.1 c2.2).bind fun p2 => if p2.2 = [] then some ⟨p0.1, p1.1, p2.1⟩ else none) := by
    show _ = _
    unfold rdDm
    rw [hr]; rfl
  clear hr hf hn1 S0
  go_wp2
  go_loopw [7] (fun i wr => ∃ (j : Nat) (s : Value) (d : List (Node × Value)) (nj : List Nat), j ≤ m ∧ i = .int .i64 j ∧ nj.length ≤ ns1.length ∧ Hid (d.length = j) ∧ Hid (DmS w br s (.slice none 0 0) (.slice none 0 0) nj wr) ∧ Hid (OwnN w.heap.size wr s d) ∧ Hid (∀ x ∈ d, RdI (fun k => (k < w.heap.size ∨ k = w.heap.size ∨ k = w.heap.size + 1) ∨ s.ownBlock = some k) wr x.2 x.1.args) ∧ Hid (rdMany rdNode m ns1 = (rdMany rdNode (m - j) nj).map fun q => (d.map (·.1) ++ q.1, q.2))) (fun i _ => m - (intOf i).toNat)
  case atStart => exact ⟨0, _, [], ns1, Nat.zero_le _, rfl, Nat.le_refl _, rfl, S1, OwnE.nil _ _ _ _ _, fun x hx => by simp at hx, by
    show _ = _
    simp⟩
  case round =>
    obtain ⟨j, s, d, nj, hj, rfl, hnj, HDL, SJ, OJ, AJ, HJ⟩ := hrel
    by_cases hlt : j < m
    · have SJ2 := hid (SJ.out.step (Fr.refl (fun k => k = br) wr).drew (SJ.out.rd.later (Fr.refl NoB wr).drew (fun _ h => h.elim)))
      obtain ⟨d0, d1, d2, df, dl⟩ := three_of SJ2.out.boxB
      obtain ⟨sp, sc, hsv⟩ := OwnE.form OJ.out
      subst hsv
      have HD := hid (rdMany_step (f := rdNode) (k := m) (j := j) (l := nj) hlt)
      clear d1 d2
      go_wp2_with fail
      refine region_effP (fun w' => w'.cell? ⟨w.heap.size + 1, 0, none⟩ = some (.slice sp d.length sc)) (fun c w' => c = badC ∧ Hid (rdNode nj = none) ∧ Fr (fun k => k = br) w w') 7 [(0, 1), (1, 0), (2, 1), (3, 2), (4, 2), (5, 2), (6, 1), (7, 2)] (by kernel_rfl) (by kernel_rfl) ?_ ?_ ?_
      · rintro c a' w' hD ⟨rfl, hn, hf⟩
        refine And.intro (hD.trans rfl) ?_
        unfold RdDmOut
        have e : rdDm ns = none := by rw [X1.out, HJ.out, HD.out, hn.out]; rfl
        rw [e]
        exact ⟨rfl, hf⟩
      · exact d0
      repeat (first | (refine effp_off (by rfl) (by rfl) ?_; (try simp only [Act.put, List.setIfInBounds_toArray, List.set_cons_zero, List.set_cons_succ])) | (refine effp_pu ?_ (by rfl) (by rfl) ?_ ?_; rotate_left; (focus (intro w'; go_simp; (try with_reducible rfl); done)); (try simp only [Act.put, List.setIfInBounds_toArray, List.set_cons_zero, List.set_cons_succ])) | (refine effp_rd ?_ (by rfl) (by rfl) ?_ ?_; rotate_left; (focus (intro w' hS; (try obtain ⟨hq1, hS⟩ := hS); (try obtain ⟨hq2, hS⟩ := hS); (try obtain ⟨hq3, hS⟩ := hS); (try obtain ⟨hq4, hS⟩ := hS); (try obtain ⟨hq5, hS⟩ := hS); (try obtain ⟨hq6, hS⟩ := hS); (try obtain ⟨hq7, hS⟩ := hS); (try obtain ⟨hq8, hS⟩ := hS); (try obtain ⟨hq9, hS⟩ := hS); (try obtain ⟨hq10, hS⟩ := hS); (try obtain ⟨hq11, hS⟩ := hS); (try obtain ⟨hq12, hS⟩ := hS); (try obtain ⟨hq13, hS⟩ := hS); (try obtain ⟨hq14, hS⟩ := hS); (try obtain ⟨hq15, hS⟩ := hS); (try obtain ⟨hq16, hS⟩ := hS); (try obtain ⟨hq17, hS⟩ := hS); (try obtain ⟨hq18, hS⟩ := hS); (try obtain ⟨hq19, hS⟩ := hS); (try dsimp only at hS); go_simp; (try with_reducible rfl); done)); (try simp only [Act.put, List.setIfInBounds_toArray, List.set_cons_zero, List.set_cons_succ])))
      refine effp_call 47 #[.pointer (some ⟨br, 0, none⟩)] (by rfl) (by rfl) (by intro w'; go_simp) rfl ?_
      refine (rnode_any br nj _ SJ2.out.rd (by omega)).mono ?_
      intro e w9 h1
      unfold RdNodeOut at h1
      cases hr : rdNode nj with
      | none =>
        rw [hr] at h1
        obtain ⟨rfl, hf⟩ := h1
        exact .inr ⟨_, rfl, rfl, hid rfl, SJ2.out.fr.trans hf⟩
      | some p0 =>
        obtain ⟨n, nj1⟩ := p0
        rw [hr] at h1
        obtain ⟨pa, pc, rfl, hra, hn1, hf⟩ := h1
        have l9 := rdNode_le hr
        simp only at l9
        have ER := hid hr
        have S9 := hid (SJ2.out.step hf hn1)
        have SZ := hid hf.size
        have hlt9 := hid S9.out.lt
        have O9 := hid (OwnE.fr (OwnE.drew OJ.out) hf (fun k hk e => by have := (World.ownsRow.lt OJ.out k hk).1; have := hlt9.out; have e2 : k = br := e; omega))
        have A9 : Hid (∀ x ∈ d, RdI (fun k => (k < w.heap.size ∨ k = w.heap.size ∨ k = w.heap.size + 1) ∨ (Value.slice sp d.length sc).ownBlock = some k) w9 x.2 x.1.args) := fun x hx => (RdI.drew (AJ.out x hx)).fr hf (fun k _ e => .inl (.inl (by have e2 : k = br := e; omega)))
        have AN : Hid (RdI (fun k => (k < w.heap.size ∨ k = w.heap.size ∨ k = w.heap.size + 1) ∨ (Value.slice sp d.length sc).ownBlock = some k) w9 (.slice pa n.args.length pc) n.args) := RdI.weaken hra (fun k _ e => by
          have hz := (Array.getElem?_eq_some_iff.1 SJ2.out.boxB).1
          have hlb := SJ2.out.lt
          rcases e with (e | e | e) | e
          · omega
          · omega
          · omega
          · exact (World.ownsRow.lt OJ.out k e).2)
        obtain ⟨g0, g1, g2, gf, gl⟩ := three_of S9.out.boxB
        clear hr hf hn1 hra d0 df dl g1 g2
        refine .inl ⟨_, rfl, fun _ => g0, ?_⟩
        (try simp only [Act.put, List.setIfInBounds_toArray, List.set_cons_zero, List.set_cons_succ])
        have dA := at_old S9.out.boxB (.cells (nodeCells n (.slice pa n.args.length pc)) 44)
        obtain ⟨g0', g1', g2', gf', gl'⟩ := three_of dA
        clear dA g1' g2'
        refine effp_run (v := .slice (some ⟨w9.heap.size, 0, none⟩) 1 1) (W' := w9.alloc (.cells (nodeCells n (.slice pa n.args.length pc)) 44)) (by rfl) (by rfl) (by go_simp) (fun _ => g0') ?_
        (try simp only [Act.put, List.setIfInBounds_toArray, List.set_cons_zero, List.set_cons_succ])
        refine effp_do (by rfl) ?_
        refine ap_nodes _ rfl _ _ rfl w.heap.size (.slice sp d.length sc) d rfl (OwnE.step O9.out ((Fr.refl NoB w9).alloc _)) NoB _ [(n, .slice pa n.args.length pc)] rfl (rdN_lit (Fr.refl NoB _) ((AN.out.weaken (fun _ _ h => h.elim)).fr ((Fr.refl NoB w9).alloc _) (fun _ _ h => h))) ?_ ?_ ?_
        · have := HDL.out; simp only [List.length_singleton]; omega
        · have := S9.out.fr.size; simp only [World.size_alloc]; omega
        intro v6 w6 ho6 hg6 hb6
        obtain ⟨ax, HAX⟩ : ∃ ax, Hid (ax = d ++ [(n, Value.slice pa n.args.length pc)]) := ⟨_, hid rfl⟩
        rw [← HAX.out] at ho6
        obtain ⟨p6, q6, hv6⟩ := OwnE.form ho6
        subst hv6
        have f6 : Fr (fun b => (Value.slice sp d.length sc).ownBlock = some b) w9 w6 := Fr.grown ((Fr.refl _ w9).alloc _) hg6 (fun k hk _ => hk)
        have hown : ∀ k, (Value.slice sp d.length sc).ownBlock = some k → w.heap.size + 1 < k := fun k hk => by
          obtain ⟨cur, hc⟩ := OwnE.head O9.out hk
          have e1 := (World.ownsRow.lt O9.out k hk).1
          have e2 : k ≠ w.heap.size := fun e => ne_of_types hc S9.out.boxA (by decide) e
          have e3 : k ≠ w.heap.size + 1 := fun e => ne_of_types hc S9.out.boxB (by decide) e
          omega
        have S6 := hid (S9.out.same f6 hown)
        have O6 := hid ho6
        have A6 : Hid (∀ x ∈ ax, RdI (fun k => (k < w.heap.size ∨ k = w.heap.size ∨ k = w.heap.size + 1) ∨ (Value.slice p6 ax.length q6).ownBlock = some k) w6 x.2 x.1.args) := fun x hx => by
          have h9 : RdI (fun k => (k < w.heap.size ∨ k = w.heap.size ∨ k = w.heap.size + 1) ∨ (Value.slice sp d.length sc).ownBlock = some k) w9 x.2 x.1.args := by
            rw [HAX.out] at hx
            rcases List.mem_append.1 hx with hx | hx
            · exact A9.out x hx
            · obtain rfl := List.mem_singleton.1 hx
              exact AN.out
          have h10 : RdI (fun k => ((k < w.heap.size ∨ k = w.heap.size ∨ k = w.heap.size + 1) ∨ (Value.slice sp d.length sc).ownBlock = some k) ∨ (Value.slice p6 ax.length q6).ownBlock = some k) w9 x.2 x.1.args := h9.weaken (fun k hk e => by
            rcases e with e | e
            · exact e
            · rcases hb6 with h | h
              · rw [h] at e; exact .inr e
              · rw [h] at e
                simp only [World.size_alloc, Option.some.injEq] at e
                omega)
          exact (h10.fr f6 (fun k _ e => .inl (.inr e))).weaken (fun k _ e => e.elim (fun e => .inl (.inl e)) .inr)
        obtain ⟨h0, h1, h2, hf, hl⟩ := three_of S6.out.boxB
        clear h1 h2 g0 gf gl g0' gf' gl' ho6 hg6 hb6 f6 hown A9 AN O9
        refine effp_done ⟨fun _ => h0, ?_⟩
        (try simp only [Act.put, List.setIfInBounds_toArray, List.set_cons_zero, List.set_cons_succ])
        repeat (first | (refine effp_off (by rfl) (by rfl) ?_; (try simp only [Act.put, List.setIfInBounds_toArray, List.set_cons_zero, List.set_cons_succ])) | (refine effp_pu ?_ (by rfl) (by rfl) ?_ ?_; rotate_left; (focus (intro w'; go_simp; (try with_reducible rfl); done)); (try simp only [Act.put, List.setIfInBounds_toArray, List.set_cons_zero, List.set_cons_succ])) | (refine effp_rd ?_ (by rfl) (by rfl) ?_ ?_; rotate_left; (focus (intro w' hS; (try obtain ⟨hq1, hS⟩ := hS); (try obtain ⟨hq2, hS⟩ := hS); (try obtain ⟨hq3, hS⟩ := hS); (try obtain ⟨hq4, hS⟩ := hS); (try obtain ⟨hq5, hS⟩ := hS); (try obtain ⟨hq6, hS⟩ := hS); (try obtain ⟨hq7, hS⟩ := hS); (try obtain ⟨hq8, hS⟩ := hS); (try obtain ⟨hq9, hS⟩ := hS); (try obtain ⟨hq10, hS⟩ := hS); (try obtain ⟨hq11, hS⟩ := hS); (try obtain ⟨hq12, hS⟩ := hS); (try obtain ⟨hq13, hS⟩ := hS); (try obtain ⟨hq14, hS⟩ := hS); (try obtain ⟨hq15, hS⟩ := hS); (try obtain ⟨hq16, hS⟩ := hS); (try obtain ⟨hq17, hS⟩ := hS); (try obtain ⟨hq18, hS⟩ := hS); (try obtain ⟨hq19, hS⟩ := hS); (try dsimp only at hS); go_simp; (try with_reducible rfl); done)); (try simp only [Act.put, List.setIfInBounds_toArray, List.set_cons_zero, List.set_cons_succ])))
        refine effp_skip (W' := w6.setCell ⟨w.heap.size + 1, 0, none⟩ (.slice p6 ax.length q6)) (by rfl) (by rfl) (by go_simp) (fun h => absurd rfl h) ?_
        (try simp only [Act.put, List.setIfInBounds_toArray, List.set_cons_zero, List.set_cons_succ])
        refine effp_nil ?_
        obtain ⟨s7, f7⟩ := S6.out.put (tN := .slice p6 ax.length q6) (tL := .slice none 0 0) (tR := .slice none 0 0) 0 (.slice p6 ax.length q6) rfl
        have S7 := hid s7
        have O7 := hid (OwnE.fr O6.out f7 (fun k hk e => by
          obtain ⟨cur, hc⟩ := OwnE.head O6.out hk
          exact ne_of_types hc S6.out.boxB (by decide) e))
        have A7 : Hid (∀ x ∈ ax, RdI (fun k => (k < w.heap.size ∨ k = w.heap.size ∨ k = w.heap.size + 1) ∨ (Value.slice p6 ax.length q6).ownBlock = some k) _ x.2 x.1.args) := fun x hx => (A6.out x hx).fr f7 (fun k _ e => .inl (.inr (.inr e)))
        clear s7 f7 O6 S6 A6 h0 hf hl
        go_wp2
        go_roundw
        case rel => exact ⟨j + 1, _, ax, nj1, by omega, by go_num, by omega, by show _ = _; rw [HAX.out, List.length_append, HDL.out]; rfl, S7, O7, A7, by
          show _ = _
          rw [HJ.out, HD.out, ER.out, HAX.out]
          simp only [Option.bind_some, Option.map_map]
          congr 1
          funext q
          simp⟩
        case measure => simp [intOf]; omega
    · obtain rfl : j = m := by omega
      have X2 : Hid (rdDm ns = (rdC nj).bind fun c1 => (rdMany rdLnk c1.1 c1.2).bind fun p1 => (rdC p1.2).bind fun c2 => (rdMany rdS c2.1 c2.2).bind fun p2 => if p2.2 = [] then some ⟨d.map (·.1), p1.1, p2.1⟩ else none) := by
        show _ = _
        rw [X1.out, HJ.out, Nat.sub_self, rdMany]
        simp
      have RN : Hid (RdN (fun k => k < w.heap.size ∨ k = w.heap.size ∨ k = w.heap.size + 1) wr s d) := OwnE.rdN OJ.out (fun k hk e => by
        obtain ⟨cur, hc⟩ := OwnE.head OJ.out hk
        have e1 := (World.ownsRow.lt OJ.out k hk).1
        have hlb := SJ.out.lt
        rcases e with e | e | e
        · omega
        · exact ne_of_types hc SJ.out.boxA (by decide) e
        · exact ne_of_types hc SJ.out.boxB (by decide) e) (fun x hx => (AJ.out x hx).weaken (fun k _ e => .inl e))
      obtain ⟨sp, sc, hsv⟩ := OwnE.form OJ.out
      subst hsv
      clear OJ AJ HJ X1 S1 lm
      go_wp2_with fail
      refine (rcnt_any br nj _ SJ.out.rd (by omega)).mono ?_
      intro e w1 h1
      unfold RdOut at h1
      cases hr : rdC nj with
      | none =>
        rw [hr] at h1
        obtain ⟨rfl, hf⟩ := h1
        have X := hid (show rdDm ns = none by rw [X2.out, hr]; rfl)
        have F1 := hid (SJ.out.fr.trans hf)
        clear hr hf
        go_wp2
        refine And.intro (by first | rfl | trivial) ?_
        unfold RdDmOut
        rw [X.out]
        exact ⟨rfl, F1.out⟩
      | some p0 =>
      obtain ⟨ml, nl⟩ := p0
      rw [hr] at h1
      obtain ⟨rfl, hn1, hf⟩ := h1
      obtain ⟨l2, lml⟩ := rdC_le hr
      simp only at l2 lml
      have S2 := hid (SJ.out.step hf hn1)
      have RN2 := hid (RN.out.fr hf (fun k _ e => .inl (by have e2 : k = br := e; omega)))
      have X3 : Hid (rdDm ns = (rdMany rdLnk ml nl).bind fun p1 => (rdC p1.2).bind fun c2 => (rdMany rdS c2.1 c2.2).bind fun p2 => if p2.2 = [] then some ⟨d.map (·.1), p1.1, p2.1⟩ else none) := by
        show _ = _
        rw [X2.out, hr]; rfl
      clear hr hf hn1 SJ RN X2
      go_wp2
      go_loopw [19] (fun i wr => ∃ (q : Nat) (t : Value) (ls : List Lnk) (nq : List Nat), q ≤ ml ∧ i = .int .i64 q ∧ nq.length ≤ nl.length ∧ Hid (ls.length = q) ∧ Hid (DmS w br (.slice sp d.length sc) t (.slice none 0 0) nq wr) ∧ Hid (OwnE lkCells 3 57 w1.heap.size wr t ls) ∧ Hid (Fr (fun k => k = br ∨ k = w.heap.size + 1) w1 wr) ∧ Hid (rdMany rdLnk ml nl = (rdMany rdLnk (ml - q) nq).map fun q => (ls ++ q.1, q.2))) (fun i _ => ml - (intOf i).toNat)
      case atStart => exact ⟨0, _, [], nl, Nat.zero_le _, rfl, Nat.le_refl _, rfl, S2, OwnE.nil _ _ _ _ _, Fr.refl _ _, by
        show _ = _
        simp⟩
      case round =>
        obtain ⟨q, t, ls, nq, hq, rfl, hnq, HDQ, SQ, OQ, FQ, HQ⟩ := hrel
        have WSZ0 := hid FQ.out.size
        by_cases hlq : q < ml
        · have HS := hid (rdMany_step (f := rdLnk) (k := ml) (j := q) (l := nq) hlq)
          obtain ⟨tp, tc, htv⟩ := OwnE.form OQ.out
          subst htv
          go_wp2_with fail
          refine (rsgn_any br nq _ SQ.out.rd (by omega)).mono ?_
          intro e w2 h1
          unfold RdOut at h1
          cases hr : rdS nq with
          | none =>
            rw [hr] at h1
            obtain ⟨rfl, hf⟩ := h1
            have X := hid (show rdDm ns = none by rw [X3.out, HQ.out, HS.out]; unfold rdLnk; rw [hr]; rfl)
            have F1 := hid (SQ.out.fr.trans hf)
            clear hr hf
            go_wp2
            refine And.intro (by first | rfl | trivial) ?_
            unfold RdDmOut
            rw [X.out]
            exact ⟨rfl, F1.out⟩
          | some p0 =>
          obtain ⟨xa, na⟩ := p0
          rw [hr] at h1
          obtain ⟨rfl, hn1, hf⟩ := h1
          have l3 := rdS_rest hr
          simp only at l3
          have E1 := hid hr
          have S3 := hid (SQ.out.step hf hn1)
          have F3 := hid (FQ.out.trans (hf.mono (fun _ _ e => .inl e)))
          have hlt9 := hid S3.out.lt
          have O3 := hid (OwnE.fr OQ.out hf (fun k hk e => by have := (World.ownsRow.lt OQ.out k hk).1; have := hlt9.out; have := S2.out.fr.size; have e2 : k = br := e; omega))
          have WSZ : Hid (w1.heap.size ≤ w2.heap.size) := F3.out.size
          have hQ : w.heap.size + 1 < w2.heap.size := (Array.getElem?_eq_some_iff.1 S3.out.boxB).1
          have S4 := hid (S3.out.same (M := NoB) ((Fr.refl NoB w2).alloc (.cells #[.int .i64 xa, .int .i64 0, .int .i64 0] 57)) (fun _ h => h.elim))
          have F4 := hid (F3.out.alloc (.cells #[.int .i64 xa, .int .i64 0, .int .i64 0] 57))
          have O4 := hid (OwnE.step O3.out ((Fr.refl NoB w2).alloc (.cells #[.int .i64 xa, .int .i64 0, .int .i64 0] 57)))
          have N4 := hid (at_new w2 (.cells #[.int .i64 xa, .int .i64 0, .int .i64 0] 57))
          have L4 : Hid (∀ k, (Value.slice tp ls.length tc).ownBlock = some k → k < w2.heap.size) := fun k hk => (World.ownsRow.lt O3.out k hk).2
          clear hr hf hn1 SQ OQ FQ S3 F3 O3
          go_wp2_with fail
          refine (rsgn_any br na _ S4.out.rd (by omega)).mono ?_
          intro e w3 h1
          unfold RdOut at h1
          cases hr : rdS na with
          | none =>
            rw [hr] at h1
            obtain ⟨rfl, hf⟩ := h1
            have X := hid (show rdDm ns = none by rw [X3.out, HQ.out, HS.out]; unfold rdLnk; rw [E1.out]; simp only [Option.bind_some]; rw [hr]; rfl)
            have F1 := hid (S4.out.fr.trans hf)
            clear hr hf
            go_wp2
            refine And.intro (by first | rfl | trivial) ?_
            unfold RdDmOut
            rw [X.out]
            exact ⟨rfl, F1.out⟩
          | some p0 =>
          obtain ⟨xb, nb⟩ := p0
          rw [hr] at h1
          obtain ⟨rfl, hn1, hf⟩ := h1
          have l4 := rdS_rest hr
          simp only at l4
          have E2 := hid hr
          have S5 := hid (S4.out.step hf hn1)
          have F5 := hid (F4.out.trans (hf.mono (fun _ _ e => .inl e)))
          have O5 := hid (OwnE.fr O4.out hf (fun k hk e => by have := (World.ownsRow.lt O4.out k hk).1; have := hlt9.out; have := S2.out.fr.size; have e2 : k = br := e; omega))
          have N5 := hid (hf.at (fun e => by have := hlt9.out; have e2 : w2.heap.size = br := e; omega) N4.out)
          have G5 : Hid (Fr (fun k => k = w2.heap.size) w3 (w3.setCell ⟨w2.heap.size, 1, none⟩ (.int .i64 xb))) := (Fr.refl (fun k => k = w2.heap.size) w3).setCell (p := ⟨w2.heap.size, 1, none⟩) (fun _ => rfl) _
          have S6 := hid (S5.out.same G5.out (fun k e => by omega))
          have F6 : Hid (Fr (fun k => k = br ∨ k = w.heap.size + 1) w1 (w3.setCell ⟨w2.heap.size, 1, none⟩ (.int .i64 xb))) := F5.out.trans' G5.out (fun k hk e => by have := F4.out.size; have e2 : k = w2.heap.size := e; have := WSZ.out; omega)
          have O6 := hid (OwnE.fr O5.out G5.out (fun k hk e => by have := L4.out k hk; have e2 : k = w2.heap.size := e; omega))
          have N6 := hid (set_at N5.out 1 (.int .i64 xb))
          obtain ⟨g0, g1, g2, gf, gl⟩ := three_of N5.out
          clear hr hf hn1 S4 F4 O4 N4 S5 F5 O5
          go_wp2_with fail
          clear g0 g1 g2 gf gl
          refine (rsgn_any br nb _ S6.out.rd (by omega)).mono ?_
          intro e w4 h1
          unfold RdOut at h1
          cases hr : rdS nb with
          | none =>
            rw [hr] at h1
            obtain ⟨rfl, hf⟩ := h1
            have X := hid (show rdDm ns = none by rw [X3.out, HQ.out, HS.out]; unfold rdLnk; rw [E1.out]; simp only [Option.bind_some]; rw [E2.out]; simp only [Option.bind_some]; rw [hr]; rfl)
            have F1 := hid (S6.out.fr.trans hf)
            clear hr hf
            go_wp2
            refine And.intro (by first | rfl | trivial) ?_
            unfold RdDmOut
            rw [X.out]
            exact ⟨rfl, F1.out⟩
          | some p0 =>
          obtain ⟨xc, nc⟩ := p0
          rw [hr] at h1
          obtain ⟨rfl, hn1, hf⟩ := h1
          have l5 := rdS_rest hr
          simp only at l5
          have E3 := hid (show rdLnk nq = some (⟨xa, xb, xc⟩, nc) by unfold rdLnk; rw [E1.out]; simp only [Option.bind_some]; rw [E2.out]; simp only [Option.bind_some]; rw [hr]; rfl)
          have S7 := hid (S6.out.step hf hn1)
          have F7 := hid (F6.out.trans (hf.mono (fun _ _ e => .inl e)))
          have O7 := hid (OwnE.fr O6.out hf (fun k hk e => by have := (World.ownsRow.lt O6.out k hk).1; have := hlt9.out; have := S2.out.fr.size; have e2 : k = br := e; omega))
          have N7 := hid (hf.at (fun e => by have := hlt9.out; have e2 : w2.heap.size = br := e; omega) N6.out)
          have G7 : Hid (Fr (fun k => k = w2.heap.size) w4 (w4.setCell ⟨w2.heap.size, 2, none⟩ (.int .i64 xc))) := (Fr.refl (fun k => k = w2.heap.size) w4).setCell (p := ⟨w2.heap.size, 2, none⟩) (fun _ => rfl) _
          have S8 := hid (S7.out.same G7.out (fun k e => by omega))
          have F8 : Hid (Fr (fun k => k = br ∨ k = w.heap.size + 1) w1 (w4.setCell ⟨w2.heap.size, 2, none⟩ (.int .i64 xc))) := F7.out.trans' G7.out (fun k hk e => by have e2 : k = w2.heap.size := e; have := WSZ.out; omega)
          have O8 := hid (OwnE.fr O7.out G7.out (fun k hk e => by have := L4.out k hk; have e2 : k = w2.heap.size := e; omega))
          have N8 := hid (set_at N7.out 2 (.int .i64 xc))
          obtain ⟨g0, g1, g2, gf, gl⟩ := three_of N7.out
          obtain ⟨h0, h1, h2, hff, hl⟩ := three_of N8.out
          obtain ⟨d0, d1, d2, df, dl⟩ := three_of S8.out.boxB
          clear hr hf hn1 S6 F6 O6 N6 S7 F7 O7 E1 E2 N5 G5
          have hown : Hid (∀ k, (Value.slice tp ls.length tc).ownBlock = some k → w.heap.size + 1 < k) := fun k hk => by
            have e1 := (World.ownsRow.lt O8.out k hk).1
            have := S2.out.boxB
            have e2 : w.heap.size + 1 < w1.heap.size := (Array.getElem?_eq_some_iff.1 S2.out.boxB).1
            omega
          have hqn : ls.length ≤ 1000000 := by have := HDQ.out; omega
          go_wp2_with (at_builtin; refine ap_lnk _ rfl _ _ rfl (.slice tp ls.length tc) ls rfl (OwnE.base (OwnE.step O8.out ((Fr.refl NoB _).alloc _)) (Nat.zero_le _)) _ [⟨xa, xb, xc⟩] rfl (rdL_lit ⟨xa, xb, xc⟩ (by simp)) ?_ ?_; (simp only [List.length_singleton]; omega); intro p6 q6 w6 ho6 hg6 hb6; have F9 : Hid (Fr (fun b => (Value.slice tp ls.length tc).ownBlock = some b) (w4.setCell ⟨w2.heap.size, 2, none⟩ (.int .i64 xc)) w6) := Fr.grown ((Fr.refl _ _).alloc _) hg6 (fun k hk _ => hk); have O9 := hid ho6; have B9 := hid hb6; have S9 := hid (S8.out.same F9.out hown.out); clear ho6 hg6 hb6 d0 d1 d2 df dl h0 h1 h2 hff hl g0 g1 g2 gf gl; obtain ⟨d0, d1, d2, df, dl⟩ := three_of S9.out.boxB)
          go_roundw
          case rel =>
            obtain ⟨ax, HAX⟩ : ∃ ax, Hid (ax = ls ++ [(⟨xa, xb, xc⟩ : Lnk)]) := ⟨_, hid rfl⟩
            have hlx : ls.length + 1 = ax.length := by rw [HAX.out, List.length_append]; rfl
            have P9 := O9.out
            have Q9 := B9.out
            rw [← HAX.out] at P9 Q9
            have S10 := S9.out.put (tN := .slice sp d.length sc) (tL := .slice p6 ax.length q6) (tR := .slice none 0 0) 1 (.slice p6 ax.length q6) rfl
            have O10 : OwnE lkCells 3 57 w1.heap.size (w6.setCell ⟨w.heap.size + 1, 1, none⟩ (.slice p6 ax.length q6)) (.slice p6 ax.length q6) ax := by
              refine OwnE.rebase (OwnE.fr P9 S10.2 (fun k hk e => ?_)) (fun k hk => ?_)
              · obtain ⟨cur, hc⟩ := OwnE.head P9 hk
                exact ne_of_types hc S9.out.boxB (by decide) e
              · rcases Q9 with h | h
                · rw [h] at hk; exact (World.ownsRow.lt O8.out k hk).1
                · rw [h] at hk
                  cases hk
                  have := F8.out.size
                  simp only [World.size_alloc]
                  omega
            have F10 : Fr (fun k => k = br ∨ k = w.heap.size + 1) w1 (w6.setCell ⟨w.heap.size + 1, 1, none⟩ (.slice p6 ax.length q6)) := (F8.out.trans' F9.out (fun k hk e => by have := (World.ownsRow.lt O8.out k e).1; omega)).trans' S10.2 (fun k _ e => .inr e)
            exact ⟨q + 1, _, ax, nc, by omega, by go_num, by omega, by show _ = _; rw [← hlx, HDQ.out], by rw [hlx]; exact S10.1, by rw [hlx]; exact O10, by rw [hlx]; exact F10, by
              show _ = _
              rw [HQ.out, HS.out, E3.out, HAX.out]
              simp only [Option.bind_some, Option.map_map]
              congr 1
              funext q
              simp⟩
          case measure => simp [intOf]; omega
        · obtain rfl : q = ml := by omega
          have X4 : Hid (rdDm ns = (rdC nq).bind fun c2 => (rdMany rdS c2.1 c2.2).bind fun p2 => if p2.2 = [] then some ⟨d.map (·.1), ls, p2.1⟩ else none) := by
            show _ = _
            rw [X3.out, HQ.out, Nat.sub_self, rdMany]
            simp
          have RN3 := hid (RN2.out.fr FQ.out (fun k _ e => e.elim (fun e => .inl (by omega)) (fun e => .inr (.inr e))))
          have RL3 : Hid (RdE lkCells (fun k => k < w.heap.size ∨ k = w.heap.size ∨ k = w.heap.size + 1) wr t ls) := OwnE.rd OQ.out (fun k hk e => by
            have e1 := (World.ownsRow.lt OQ.out k hk).1
            have e2 : w.heap.size + 1 < w1.heap.size := (Array.getElem?_eq_some_iff.1 S2.out.boxB).1
            have hlb := SQ.out.lt
            omega)
          obtain ⟨tp, tc, htv⟩ := OwnE.form OQ.out
          subst htv
          clear OQ FQ HQ X3 RN2 lml
          go_wp2_with fail
          refine (rcnt_any br nq _ SQ.out.rd (by omega)).mono ?_
          intro e w5 h1
          unfold RdOut at h1
          cases hr : rdC nq with
          | none =>
            rw [hr] at h1
            obtain ⟨rfl, hf⟩ := h1
            have X := hid (show rdDm ns = none by rw [X4.out, hr]; rfl)
            have F1 := hid (SQ.out.fr.trans hf)
            clear hr hf
            go_wp2
            refine And.intro (by first | rfl | trivial) ?_
            unfold RdDmOut
            rw [X.out]
            exact ⟨rfl, F1.out⟩
          | some p0 =>
          obtain ⟨mr, nr⟩ := p0
          rw [hr] at h1
          obtain ⟨rfl, hn1, hf⟩ := h1
          obtain ⟨l6, lmr⟩ := rdC_le hr
          simp only at l6 lmr
          have S5 := hid (SQ.out.step hf hn1)
          have RN5 := hid (RN3.out.fr hf (fun k _ e => .inl (by have e2 : k = br := e; omega)))
          have RL5 := hid (RdE.fr RL3.out hf (fun k _ e => .inl (by have e2 : k = br := e; omega)))
          have X5 : Hid (rdDm ns = (rdMany rdS mr nr).bind fun p2 => if p2.2 = [] then some ⟨d.map (·.1), ls, p2.1⟩ else none) := by
            show _ = _
            rw [X4.out, hr]; rfl
          clear hr hf hn1 SQ RN3 RL3 X4 S2
          go_wp2
          go_loopw [39] (fun i wr => ∃ (g : Nat) (u : Value) (rs : List Int) (ng : List Nat), g ≤ mr ∧ i = .int .i64 g ∧ ng.length ≤ nr.length ∧ Hid (rs.length = g) ∧ Hid (DmS w br (.slice sp d.length sc) (.slice tp ls.length tc) u ng wr) ∧ Hid (OwnI w5.heap.size wr u rs) ∧ Hid (Fr (fun k => k = br ∨ k = w.heap.size + 1) w5 wr) ∧ Hid (rdMany rdS mr nr = (rdMany rdS (mr - g) ng).map fun q => (rs ++ q.1, q.2))) (fun i _ => mr - (intOf i).toNat)
          case atStart => exact ⟨0, _, [], nr, Nat.zero_le _, rfl, Nat.le_refl _, rfl, S5, OwnI.nil _ _, Fr.refl _ _, by
            show _ = _
            simp⟩
          case round =>
            obtain ⟨g, u, rs, ng, hg, rfl, hng, HDG, SG, OG, FG, HG⟩ := hrel
            by_cases hlg : g < mr
            · have SJ2 := hid (SG.out.step (Fr.refl (fun k => k = br) wr).drew (SG.out.rd.later (Fr.refl NoB wr).drew (fun _ h => h.elim)))
              obtain ⟨d0, d1, d2, df, dl⟩ := three_of SJ2.out.boxB
              obtain ⟨up, uc, huv⟩ := OwnI.form OG.out
              subst huv
              have HD := hid (rdMany_step (f := rdS) (k := mr) (j := g) (l := ng) hlg)
              clear d0 d1
              go_wp2_with fail
              refine region_effP (fun w' => w'.cell? ⟨w.heap.size + 1, 2, none⟩ = some (.slice up rs.length uc)) (fun c w' => c = badC ∧ Hid (rdS ng = none) ∧ Fr (fun k => k = br) w w') 7 [(0, 1), (1, 0), (2, 1), (3, 2), (4, 2), (5, 2), (6, 1), (7, 2)] (by kernel_rfl) (by kernel_rfl) ?_ ?_ ?_
              · rintro c a' w' hD ⟨rfl, hn, hf⟩
                refine And.intro (hD.trans rfl) ?_
                unfold RdDmOut
                have e : rdDm ns = none := by rw [X5.out, HG.out, HD.out, hn.out]; rfl
                rw [e]
                exact ⟨rfl, hf⟩
              · exact d2
              repeat (first | (refine effp_off (by rfl) (by rfl) ?_; (try simp only [Act.put, List.setIfInBounds_toArray, List.set_cons_zero, List.set_cons_succ])) | (refine effp_pu ?_ (by rfl) (by rfl) ?_ ?_; rotate_left; (focus (intro w'; go_simp; (try with_reducible rfl); done)); (try simp only [Act.put, List.setIfInBounds_toArray, List.set_cons_zero, List.set_cons_succ])) | (refine effp_rd ?_ (by rfl) (by rfl) ?_ ?_; rotate_left; (focus (intro w' hS; (try obtain ⟨hq1, hS⟩ := hS); (try obtain ⟨hq2, hS⟩ := hS); (try obtain ⟨hq3, hS⟩ := hS); (try obtain ⟨hq4, hS⟩ := hS); (try obtain ⟨hq5, hS⟩ := hS); (try obtain ⟨hq6, hS⟩ := hS); (try obtain ⟨hq7, hS⟩ := hS); (try obtain ⟨hq8, hS⟩ := hS); (try obtain ⟨hq9, hS⟩ := hS); (try obtain ⟨hq10, hS⟩ := hS); (try obtain ⟨hq11, hS⟩ := hS); (try obtain ⟨hq12, hS⟩ := hS); (try obtain ⟨hq13, hS⟩ := hS); (try obtain ⟨hq14, hS⟩ := hS); (try obtain ⟨hq15, hS⟩ := hS); (try obtain ⟨hq16, hS⟩ := hS); (try obtain ⟨hq17, hS⟩ := hS); (try obtain ⟨hq18, hS⟩ := hS); (try obtain ⟨hq19, hS⟩ := hS); (try dsimp only at hS); go_simp; (try with_reducible rfl); done)); (try simp only [Act.put, List.setIfInBounds_toArray, List.set_cons_zero, List.set_cons_succ])))
              refine effp_call 48 #[.pointer (some ⟨br, 0, none⟩)] (by rfl) (by rfl) (by intro w'; go_simp) rfl ?_
              refine (rsgn_any br ng _ SJ2.out.rd (by omega)).mono ?_
              intro e w9 h1
              unfold RdOut at h1
              cases hr : rdS ng with
              | none =>
                rw [hr] at h1
                obtain ⟨rfl, hf⟩ := h1
                exact .inr ⟨_, rfl, rfl, hid rfl, SJ2.out.fr.trans hf⟩
              | some p0 =>
                obtain ⟨x, ng1⟩ := p0
                rw [hr] at h1
                obtain ⟨rfl, hn1, hf⟩ := h1
                have l9 := rdS_rest hr
                simp only at l9
                have ER := hid hr
                have S9 := hid (SJ2.out.step hf hn1)
                have hlt9 := hid S9.out.lt
                have W5 : Hid (w.heap.size + 1 < w5.heap.size) := (Array.getElem?_eq_some_iff.1 S5.out.boxB).1
                have O9 := hid ((OwnI.drew OG.out).fr hf (fun k hk e => by have := (World.ownsRow.lt OG.out k hk).1; have := hlt9.out; have := W5.out; have e2 : k = br := e; omega))
                have F9 := hid ((FG.out.drew).trans (hf.mono (fun _ _ e => .inl e)))
                obtain ⟨g0, g1, g2, gf, gl⟩ := three_of S9.out.boxB
                clear hr hf hn1 d2 df dl g0 g1 SG OG FG SJ2
                refine .inl ⟨_, rfl, fun _ => g2, ?_⟩
                (try simp only [Act.put, List.setIfInBounds_toArray, List.set_cons_zero, List.set_cons_succ])
                have dA := at_old S9.out.boxB (.cells #[.int .i64 x] 3)
                obtain ⟨g0', g1', g2', gf', gl'⟩ := three_of dA
                clear dA g0' g1'
                refine effp_run (v := .slice (some ⟨w9.heap.size, 0, none⟩) 1 1) (W' := w9.alloc (.cells #[.int .i64 x] 3)) (by rfl) (by rfl) (by go_simp) (fun _ => g2') ?_
                (try simp only [Act.put, List.setIfInBounds_toArray, List.set_cons_zero, List.set_cons_succ])
                refine effp_do (by rfl) ?_
                refine ap_ints_at _ rfl _ _ rfl w5.heap.size (.slice up rs.length uc) rs rfl (O9.out.fr ((Fr.refl NoB w9).alloc _) (fun _ _ h => h)) NoB _ [x] rfl (rdI_lit' (l := [x]) rfl rfl rfl (fun h => h)) ?_ ?_ ?_
                · have := HDG.out; simp only [List.length_singleton]; omega
                · have := F9.out.size; simp only [World.size_alloc]; omega
                intro v6 w6 ho6 hg6 hb6
                obtain ⟨ax, HAX⟩ : ∃ ax, Hid (ax = rs ++ [x]) := ⟨_, hid rfl⟩
                rw [← HAX.out] at ho6
                obtain ⟨p6, q6, hv6⟩ := OwnI.form ho6
                subst hv6
                have f6 : Fr (fun b => (Value.slice up rs.length uc).ownBlock = some b) w9 w6 := Fr.grown ((Fr.refl _ w9).alloc _) hg6 (fun k hk _ => hk)
                have hown : ∀ k, (Value.slice up rs.length uc).ownBlock = some k → w.heap.size + 1 < k := fun k hk => by
                  have e1 := (World.ownsRow.lt O9.out k hk).1
                  have := W5.out
                  omega
                have S6 := hid (S9.out.same f6 hown)
                have O6 := hid ho6
                have F6 := hid (F9.out.trans' f6 (fun k hk e => by have := (World.ownsRow.lt O9.out k e).1; omega))
                obtain ⟨h0, h1, h2, hf, hl⟩ := three_of S6.out.boxB
                clear h0 h1 g2 gf gl g2' gf' gl' ho6 hg6 hb6 f6 hown O9 F9
                refine effp_done ⟨fun _ => h2, ?_⟩
                (try simp only [Act.put, List.setIfInBounds_toArray, List.set_cons_zero, List.set_cons_succ])
                repeat (first | (refine effp_off (by rfl) (by rfl) ?_; (try simp only [Act.put, List.setIfInBounds_toArray, List.set_cons_zero, List.set_cons_succ])) | (refine effp_pu ?_ (by rfl) (by rfl) ?_ ?_; rotate_left; (focus (intro w'; go_simp; (try with_reducible rfl); done)); (try simp only [Act.put, List.setIfInBounds_toArray, List.set_cons_zero, List.set_cons_succ])) | (refine effp_rd ?_ (by rfl) (by rfl) ?_ ?_; rotate_left; (focus (intro w' hS; (try obtain ⟨hq1, hS⟩ := hS); (try obtain ⟨hq2, hS⟩ := hS); (try obtain ⟨hq3, hS⟩ := hS); (try obtain ⟨hq4, hS⟩ := hS); (try obtain ⟨hq5, hS⟩ := hS); (try obtain ⟨hq6, hS⟩ := hS); (try obtain ⟨hq7, hS⟩ := hS); (try obtain ⟨hq8, hS⟩ := hS); (try obtain ⟨hq9, hS⟩ := hS); (try obtain ⟨hq10, hS⟩ := hS); (try obtain ⟨hq11, hS⟩ := hS); (try obtain ⟨hq12, hS⟩ := hS); (try obtain ⟨hq13, hS⟩ := hS); (try obtain ⟨hq14, hS⟩ := hS); (try obtain ⟨hq15, hS⟩ := hS); (try obtain ⟨hq16, hS⟩ := hS); (try obtain ⟨hq17, hS⟩ := hS); (try obtain ⟨hq18, hS⟩ := hS); (try obtain ⟨hq19, hS⟩ := hS); (try dsimp only at hS); go_simp; (try with_reducible rfl); done)); (try simp only [Act.put, List.setIfInBounds_toArray, List.set_cons_zero, List.set_cons_succ])))
                refine effp_skip (W' := w6.setCell ⟨w.heap.size + 1, 2, none⟩ (.slice p6 ax.length q6)) (by rfl) (by rfl) (by go_simp) (fun h => absurd rfl h) ?_
                (try simp only [Act.put, List.setIfInBounds_toArray, List.set_cons_zero, List.set_cons_succ])
                refine effp_nil ?_
                obtain ⟨s7, f7⟩ := S6.out.put (tN := .slice sp d.length sc) (tL := .slice tp ls.length tc) (tR := .slice p6 ax.length q6) 2 (.slice p6 ax.length q6) rfl
                have S7 := hid s7
                have O7 := hid (O6.out.fr f7 (fun k hk e => by
                  obtain ⟨cur, hc⟩ := OwnI.head' O6.out hk
                  exact ne_of_types hc S6.out.boxB (by decide) e))
                have F7 := hid (F6.out.trans' f7 (fun k _ e => .inr e))
                clear s7 f7 O6 S6 F6 h2 hf hl
                go_wp2
                go_roundw
                case rel => exact ⟨g + 1, _, ax, ng1, by omega, by go_num, by omega, by show _ = _; rw [HAX.out, List.length_append, HDG.out]; rfl, S7, O7, F7, by
                  show _ = _
                  rw [HG.out, HD.out, ER.out, HAX.out]
                  simp only [Option.bind_some, Option.map_map]
                  congr 1
                  funext q
                  simp⟩
                case measure => simp [intOf]; omega
            · obtain rfl : g = mr := by omega
              have X6 : Hid (rdDm ns = if ng = [] then some ⟨d.map (·.1), ls, rs⟩ else none) := by
                show _ = _
                rw [X5.out, HG.out, Nat.sub_self, rdMany]
                simp
              obtain ⟨up, uc, huv⟩ := OwnI.form OG.out
              subst huv
              have RN6 := hid (RN5.out.fr FG.out (fun k _ e => e.elim (fun e => .inl (by omega)) (fun e => .inr (.inr e))))
              have RL6 := hid (RdE.fr RL5.out FG.out (fun k _ e => e.elim (fun e => .inl (by omega)) (fun e => .inr (.inr e))))
              have RR6 : Hid (RdI (fun k => k < w.heap.size ∨ k = w.heap.size ∨ k = w.heap.size + 1) wr (.slice up rs.length uc) rs) := OwnI.rd OG.out (fun k hk e => by
                have e2 : w.heap.size + 1 < w5.heap.size := (Array.getElem?_eq_some_iff.1 S5.out.boxB).1
                have hlb := SG.out.lt
                omega)
              obtain ⟨ra, rc, l, hb, hry, hnl⟩ := SG.out.rd
              have b0 : wr.cell? ⟨br, 0, none⟩ = some (.slice (some ra) l.length rc) := by simp [World.cell?, hb]
              obtain ⟨d0, d1, d2, df, dl⟩ := three_of SG.out.boxB
              obtain ⟨a0, a1, a2, af, al⟩ := three_of SG.out.boxA
              have hlen : ng.length = l.length := by rw [← hnl]; simp
              have HLN := hid hlen
              have HNL := hid hnl
              clear hb hry hnl hlen OG FG HG RN5 RL5 X5
              by_cases h0 : l.length = 0
              · have X7 : Hid (rdDm ns = some ⟨d.map (·.1), ls, rs⟩) := by
                  show _ = _
                  rw [X6.out, if_pos (List.eq_nil_of_length_eq_zero (by rw [HLN.out]; exact h0))]
                rw [h0] at b0
                clear h0
                go_wp2
                have r := set_at (set_at (set_at SG.out.boxA 0 (.slice sp d.length sc)) 1 (.slice tp ls.length tc)) 2 (.slice up rs.length uc)
                have FF : Fr (fun q => q = w.heap.size) wr (((wr.setCell ⟨w.heap.size, 0, none⟩ (.slice sp d.length sc)).setCell ⟨w.heap.size, 1, none⟩ (.slice tp ls.length tc)).setCell ⟨w.heap.size, 2, none⟩ (.slice up rs.length uc)) := by
                  exact (((Fr.refl (fun q => q = w.heap.size) wr).setCell (p := ⟨w.heap.size, 0, none⟩) (fun _ => rfl) _).setCell (p := ⟨w.heap.size, 1, none⟩) (fun _ => rfl) _).setCell (p := ⟨w.heap.size, 2, none⟩) (fun _ => rfl) _
                obtain ⟨WF, hWF⟩ : ∃ WF, ((wr.setCell ⟨w.heap.size, 0, none⟩ (.slice sp d.length sc)).setCell ⟨w.heap.size, 1, none⟩ (.slice tp ls.length tc)).setCell ⟨w.heap.size, 2, none⟩ (.slice up rs.length uc) = WF := ⟨_, rfl⟩
                rw [hWF] at r FF ⊢
                obtain ⟨r0, r1, r2, rf, rl⟩ := three_of r
                refine bodyPost_ret (v := dumpV (.slice sp d.length sc) (.slice tp ls.length tc) (.slice up rs.length uc)) (by simp [results, Tryz.results34, go_sem, r0, r1, r2, dumpV]) rfl ?_
                unfold RdDmOut
                rw [X7.out]
                have hlb := SG.out.lt
                refine ⟨_, _, _, ⟨d, ls, rs⟩, rfl, ⟨?_, ?_, ?_⟩, rfl, SG.out.fr.trans' FF (fun q hq e => by have e2 : q = w.heap.size := e; omega)⟩
                · exact (RN6.out.fr FF (fun k _ e => .inr (.inl e))).weaken (fun k _ e => .inl e)
                · exact (RdE.fr RL6.out FF (fun k _ e => .inr (.inl e))).weaken (fun k _ e => .inl e)
                · exact (RdI.fr RR6.out FF (fun k _ e => .inr (.inl e))).weaken (fun k _ e => .inl e)
              · have X7 : Hid (rdDm ns = none) := by
                  show _ = _
                  rw [X6.out, if_neg (fun e => h0 (by rw [← HLN.out, e]; rfl))]
                have h0' : ((l.length : Int) == 0) = false := by simp; intro e; exact h0 (by rw [e]; rfl)
                have H0 := hid h0
                clear h0
                go_wp2
                refine And.intro (by first | rfl | trivial) ?_
                unfold RdDmOut
                rw [X7.out]
                exact ⟨rfl, SG.out.fr⟩
end Go.Proofs.YtndfncaoejbkiaaGreatDoor
end
section
/- The deferred closure of Decode. -/
namespace Go.Proofs.YtndfncaoejbkiaaGreatDoor
open Go.RowKit
set_option maxRecDepth 100000

theorem catch_idle (p q : Addr) (w : World) :
    CallsD Tryz.prog 33 #[.pointer (some p), .pointer (some q)] .returning w fun e u' w' => e = .returned (.tuple #[]) ∧ u' = .returning ∧ w' = w := by
  refine callsD_of_wpS Tryz.func33 rfl fun c₀ cs hu => ?_
  apply wpS_seq
  apply wpS_region
  simp [wpOpsS, go_sem, recoverD, hu, Tryz.ntmps33, Exit.thenS]
  refine wpS_of_wp ?_
  have ht : (#[Value.pointer (some p), .pointer (some q)] ++ (Array.replicate 10 undef).setIfInBounds 3 .nilIface) = #[.pointer (some p), .pointer (some q), undef, undef, undef, .nilIface, undef, undef, undef, undef, undef, undef] := rfl
  rw [ht]
  go_wp2
  cases c₀
  simp_all [bodyPostS, results, Tryz.results33]
abbrev zeroD : Array Value := dumpCells (.slice none 0 0) (.slice none 0 0) (.slice none 0 0)
set_option maxHeartbeats 2000000 in
theorem catch_bad (bp bq : Nat) (sN sL sR u : Value) (w : World) (hp : w.heap[bp]? = some (.cells (dumpCells sN sL sR) 26 (0, 0))) (hq : w.heap[bq]? = some (.cells #[u] 35 (0, 0))) :
    CallsD Tryz.prog 33 #[.pointer (some ⟨bp, 0, none⟩), .pointer (some ⟨bq, 0, none⟩)] (.panicking badC) w fun e u' w' => e = .returned (.tuple #[]) ∧ u' = .panicking [{ v := .iface 67 (.agg #[]), recovered := true }] ∧
      w'.heap[bp]? = some (.cells zeroD 26 (0, 0)) ∧ w'.heap[bq]? = some (.cells #[.int .i64 19] 35 (0, 0)) ∧ Fr (fun k => k = bp ∨ k = bq) w w' := by
  obtain ⟨p0, p1, p2, pf, pl⟩ := three_of hp
  have q0 : w.cell? ⟨bq, 0, none⟩ = some u := by simp [World.cell?, hq]
  have qf : w.frozen? ⟨bq, 0, none⟩ = false := by simp [World.frozen?, hq]
  have hne : bp ≠ bq := fun e => ne_of_types hp hq (by decide) e
  have HP := hid hp
  have HQ := hid hq
  clear hp hq
  have FZ : Hid (Fr (fun k => k = bp) w ((((w.setCell ⟨bp, 0, none⟩ (.slice none 0 0)).setCell ⟨bp, 1, none⟩ (.slice none 0 0)).setCell ⟨bp, 2, none⟩ (.slice none 0 0)).alloc (.cells #[] 67))) :=
    ((((Fr.refl (fun k => k = bp) w).setCell (p := ⟨bp, 0, none⟩) (fun _ => rfl) _).setCell (p := ⟨bp, 1, none⟩) (fun _ => rfl) _).setCell (p := ⟨bp, 2, none⟩) (fun _ => rfl) _).alloc _
  have BZ := hid (at_old (set_at (set_at (set_at HP.out 0 (.slice none 0 0)) 1 (.slice none 0 0)) 2 (.slice none 0 0)) (.cells #[] 67))
  have QZ := hid (FZ.out.at (fun e => by have e2 : bq = bp := e; omega) HQ.out)
  have q0' : ((((w.setCell ⟨bp, 0, none⟩ (.slice none 0 0)).setCell ⟨bp, 1, none⟩ (.slice none 0 0)).setCell ⟨bp, 2, none⟩ (.slice none 0 0)).alloc (.cells #[] 67)).cell? ⟨bq, 0, none⟩ = some u := by have := QZ.out; simp only [World.cell?, this]; rfl
  have qf' : ((((w.setCell ⟨bp, 0, none⟩ (.slice none 0 0)).setCell ⟨bp, 1, none⟩ (.slice none 0 0)).setCell ⟨bp, 2, none⟩ (.slice none 0 0)).alloc (.cells #[] 67)).frozen? ⟨bq, 0, none⟩ = false := by have := QZ.out; simp only [World.frozen?, this]; rfl
  refine callsD_of_wpS Tryz.func33 rfl fun c₀ cs hu => ?_
  apply wpS_seq
  apply wpS_region
  simp [wpOpsS, go_sem, recoverD, hu, Tryz.ntmps33, Exit.thenS]
  refine wpS_of_wp ?_
  have ht : (#[Value.pointer (some ⟨bp, 0, none⟩), .pointer (some ⟨bq, 0, none⟩)] ++ (Array.replicate 10 undef).setIfInBounds 3 (.iface 67 (.agg #[]))) = #[.pointer (some ⟨bp, 0, none⟩), .pointer (some ⟨bq, 0, none⟩), undef, undef, undef, .iface 67 (.agg #[]), undef, undef, undef, undef, undef, undef] := rfl
  rw [ht]
  clear ht
  have hta : ∀ w, (Instr.typeAssert (.iface 67 (.agg #[])) 20 67 true).run Tryz.prog w = .ok (.tuple #[.agg #[], .bool true]) w := fun _ => by kernel_rfl
  clear hu
  go_wp2
  obtain ⟨WZ, hWZ⟩ : ∃ WZ, (((w.setCell ⟨bp, 0, none⟩ (.slice none 0 0)).setCell ⟨bp, 1, none⟩ (.slice none 0 0)).setCell ⟨bp, 2, none⟩ (.slice none 0 0)).alloc (.cells #[] 67) = WZ := ⟨_, rfl⟩
  rw [hWZ] at FZ BZ QZ ⊢
  have G : Fr (fun k => k = bq) WZ (WZ.setCell ⟨bq, 0, none⟩ (.int .i64 19)) := (Fr.refl (fun k => k = bq) WZ).setCell (p := ⟨bq, 0, none⟩) (fun _ => rfl) _
  have A1 : (WZ.setCell ⟨bq, 0, none⟩ (.int .i64 19)).heap[bp]? = some (.cells zeroD 26 (0, 0)) := G.at (fun e => hne e) BZ.out
  have A2 : (WZ.setCell ⟨bq, 0, none⟩ (.int .i64 19)).heap[bq]? = some (.cells #[.int .i64 19] 35 (0, 0)) := set_at QZ.out 0 _
  have A3 : Fr (fun k => k = bp ∨ k = bq) w (WZ.setCell ⟨bq, 0, none⟩ (.int .i64 19)) := (FZ.out.mono (fun _ _ e => .inl e)).trans' G (fun k _ e => .inr e)
  clear hWZ p0 p1 p2 pf pl q0 qf q0' qf' hta G
  simp only [bodyPostS, results, Tryz.results33]
  exact ⟨trivial, _, rfl, .tuple #[], by simp, rfl, rfl, A1, A2, A3⟩
end Go.Proofs.YtndfncaoejbkiaaGreatDoor
end
