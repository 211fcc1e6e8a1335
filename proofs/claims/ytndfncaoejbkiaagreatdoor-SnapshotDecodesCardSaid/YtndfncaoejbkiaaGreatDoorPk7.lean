import Derived.Test.YtndfncaoejbkiaaGreatDoorPk0
import Derived.Test.YtndfncaoejbkiaaGreatDoorPk1
import Derived.Test.YtndfncaoejbkiaaGreatDoorPk2
import Derived.Test.YtndfncaoejbkiaaGreatDoorPk3
import Derived.Test.YtndfncaoejbkiaaGreatDoorPk6
import Derived.Deep.RegionHeld3
import Derived.Maps.OwnOps
set_option linter.all false
section
/- The walk of Decode. -/
namespace Go.Proofs.YtndfncaoejbkiaaGreatDoor
open Go.RowKit
set_option maxRecDepth 100000

/-- What Decode answers. -/
def decR : Except Nat Dm → Dm × Int
  | .ok d => (d, 0)
  | .error k => (⟨[], [], []⟩, if k = 1 then 19 else 20)
/-- s[:k]. -/
theorem RdY.takeF {M : Nat → Prop} {w : World} {a : Addr} {c : Nat} {l : List UInt8} (h : RdY M w (.slice (some a) l.length c) l) {k : Nat} (hk : k ≤ l.length) : RdY M w (.slice (some a) k c) (l.take k) := by
  have hl : (l.take k).length = k := by rw [List.length_take]; omega
  rcases h with ⟨_, rfl⟩ | ⟨b, off, cap, e, h2, h3, h4, h5⟩
  · have : k = 0 := by simpa using hk
    subst this
    exact .inl ⟨⟨_, _, rfl, fun h => (by cases h)⟩, by simp⟩
  · simp only [Value.slice.injEq, Option.some.injEq, true_and] at e
    obtain ⟨rfl, rfl⟩ := e
    exact .inr ⟨b, off, _, by rw [hl], h2, h3, by omega, by rw [flatE_by, List.map_take, ← flatE_by]; exact h5.take _⟩
/-- string(s[k:]). -/
theorem conv_drop {M : Nat → Prop} {w : World} {a : Addr} {c : Nat} {l : List UInt8} (h : RdY M w (.slice (some a) l.length c) l) {k : Nat} (hk : k ≤ l.length) : (convert 27 9 (.slice (some (dropA a c k)) (l.length - k) (c - k))).run Tryz.prog w = .ok (.string ⟨(l.drop k).toArray⟩) w := by
  have h1 := conv_take (c' := c - k) (h.dropF hk) (k := (l.drop k).length) (Nat.le_refl _)
  rw [List.take_length, List.length_drop] at h1
  exact h1
def emptyD : Dmp := ⟨[], [], []⟩
theorem rdD_empty (M : Nat → Prop) (w : World) : RdD M w (.slice none 0 0) (.slice none 0 0) (.slice none 0 0) emptyD :=
  ⟨⟨.inl ⟨⟨none, 0, rfl, fun _ => rfl⟩, rfl⟩, fun x hx => by simp [emptyD] at hx⟩, .inl ⟨⟨none, 0, rfl, fun _ => rfl⟩, rfl⟩, .inl ⟨⟨none, 0, rfl, fun _ => rfl⟩, rfl⟩⟩
def DecOut (w : World) (r : Dm × Int) (e : Ending) (w' : World) : Prop := ∃ sN sL sR d, e = .returned (.tuple #[dumpV sN sL sR, .int .i64 r.2]) ∧ RdD NoB w' sN sL sR d ∧ dmOf d = r.1 ∧ Fr NoB w w'
theorem decode_out {w W : World} {P E : Nat} {sN sL sR : Value} {d : Dmp} {x : Int} {r : Dm × Int} {tmps : Array Value} (ht2 : tmps[2]? = some (.pointer (some ⟨P, 0, none⟩))) (ht3 : tmps[3]? = some (.pointer (some ⟨E, 0, none⟩)))
    (hP : W.heap[P]? = some (.cells (dumpCells sN sL sR) 26 (0, 0))) (hE : W.heap[E]? = some (.cells #[.int .i64 x] 35 (0, 0))) (hd : RdD NoB W sN sL sR d) (h1 : dmOf d = r.1) (h2 : x = r.2) (hf : Fr NoB w W) :
    Leaves Tryz.prog Tryz.f15 tmps (DecOut w r) [] .returning W := by
  obtain ⟨p0, p1, p2, pf, pl⟩ := three_of hP
  have q0 : W.cell? ⟨E, 0, none⟩ = some (.int .i64 x) := by simp [World.cell?, hE]
  refine ⟨.tuple #[dumpV sN sL sR, .int .i64 x], ?_, sN, sL, sR, d, by rw [h2], hd, h1, hf⟩
  simp [results, Tryz.results15, go_sem, ht2, ht3, p0, p1, p2, q0, dumpV]
theorem store_dump {W : World} {P : Nat} {a b c sN sL sR u : Value} (x : Value) (hP : W.heap[P]? = some (.cells (dumpCells a b c) 26 (0, 0))) (hE : W.heap[P + 1]? = some (.cells #[u] 35 (0, 0))) :
    let WF := ((((W.setCell ⟨P, 0, none⟩ sN).setCell ⟨P, 1, none⟩ sL).setCell ⟨P, 2, none⟩ sR).setCell ⟨P + 1, 0, none⟩ x)
    WF.heap[P]? = some (.cells (dumpCells sN sL sR) 26 (0, 0)) ∧ WF.heap[P + 1]? = some (.cells #[x] 35 (0, 0)) ∧ Fr (fun k => k = P ∨ k = P + 1) W WF := by
  intro WF
  have f1 : Fr (fun k => k = P) W (((W.setCell ⟨P, 0, none⟩ sN).setCell ⟨P, 1, none⟩ sL).setCell ⟨P, 2, none⟩ sR) :=
    (((Fr.refl (fun k => k = P) W).setCell (p := ⟨P, 0, none⟩) (fun _ => rfl) _).setCell (p := ⟨P, 1, none⟩) (fun _ => rfl) _).setCell (p := ⟨P, 2, none⟩) (fun _ => rfl) _
  have f2 : Fr (fun k => k = P + 1) (((W.setCell ⟨P, 0, none⟩ sN).setCell ⟨P, 1, none⟩ sL).setCell ⟨P, 2, none⟩ sR) WF := (Fr.refl (fun k => k = P + 1) _).setCell (p := ⟨P + 1, 0, none⟩) (fun _ => rfl) _
  refine ⟨f2.at (fun e => by have e2 : P = P + 1 := e; omega) (set_at (set_at (set_at hP 0 sN) 1 sL) 2 sR), set_at (f1.at (fun e => by have e2 : P + 1 = P := e; omega) hE) 0 x, (f1.mono (fun _ _ e => .inl e)).trans' f2 (fun _ _ e => .inr e)⟩
set_option maxHeartbeats 8000000 in
theorem decode_any (v : Value) (l : List UInt8) (w : World) (h : RdY NoB w v l) (hl : l.length ≤ 1000000) :
    Calls Tryz.prog 15 #[v] w (DecOut w (decR (decE (nats l)))) := by
  obtain ⟨p, c, hp⟩ := RdY.form h
  subst hp
  have hmf : ∀ (fn : Fn) (first cap : Array Value) (w : World), (Instr.makeFunc fn first cap).run Tryz.prog w = .ok (.func fn first cap) w := fun _ _ _ _ => rfl
  have F0 : Hid (∀ x, Fr NoB w ((w.alloc (.cells zeroD 26)).alloc (.cells #[.int .i64 x] 35))) := fun x => ((Fr.refl NoB w).alloc _).alloc _
  have P0 : Hid (∀ x, ((w.alloc (.cells zeroD 26)).alloc (.cells #[.int .i64 x] 35)).heap[w.heap.size]? = some (.cells zeroD 26 (0, 0))) := fun x => at_old (at_new w _) _
  have E0 : Hid (∀ x, ((w.alloc (.cells zeroD 26)).alloc (.cells #[.int .i64 x] 35)).heap[w.heap.size + 1]? = some (.cells #[.int .i64 x] 35 (0, 0))) := fun x => at_new' (by simp)
  have H := hid h
  clear h
  by_cases h7 : l.length < 7
  · have X : Hid (decE (nats l) = .error 1) := by
      show _ = _
      unfold decE
      rw [if_pos (.inl (by simpa using h7))]
    go_enter_defers Tryz.func15, Tryz.ntmps15
    go_wp2
    rw [X.out]
    exact decode_out rfl rfl (P0.out 19) (E0.out 19) (rdD_empty _ _) rfl rfl (F0.out 19)
  · obtain ⟨a, rfl⟩ : ∃ a, p = some a := by
      cases p with
      | some a => exact ⟨a, rfl⟩
      | none =>
        rcases H.out with ⟨_, h⟩ | ⟨b, off, cap, e, _⟩
        · subst h; simp at h7
        · cases e
    have hlc := H.out.cap.2
    have hC3 : ∀ W, Fr NoB w W → (convert 27 9 (.slice (some a) 3 c)).run Tryz.prog W = .ok (.string ⟨(l.take 3).toArray⟩) W := fun W hf => conv_take (RdE.step H.out hf) (by omega)
    have c3 := hC3 _ (F0.out 0)
    have HC3 := hid hC3
    clear hC3
    by_cases h3 : l.take 3 = [69, 71, 1]
    rotate_left
    · have X : Hid (decE (nats l) = .error 1) := by
        show _ = _
        unfold decE
        refine if_pos (.inr (fun e => h3 ?_))
        have e2 : nats (l.take 3) = [69, 71, 1] := by unfold nats at e ⊢; rw [List.map_take]; exact e
        have e3 : bN (nats (l.take 3)) = bN [69, 71, 1] := by rw [e2]
        unfold nats bN at e3
        rw [List.map_map] at e3
        have : (UInt8.ofNat ∘ fun x : UInt8 => x.toNat) = id := by funext x; simp
        rw [this, List.map_id] at e3
        exact e3
      have hs : ¬ (⟨(l.take 3).toArray⟩ : ByteArray) = ⟨#[69, 71, 1]⟩ := fun e => h3 (by
        have := congrArg (fun s : ByteArray => s.data.toList) e
        simpa using this)
      have H3 := hid h3
      clear h3
      obtain ⟨nm, hnm⟩ : ∃ nm : ByteArray, nm = ⟨(l.take 3).toArray⟩ := ⟨_, rfl⟩
      rw [← hnm] at c3 hs
      clear hnm
      have hs2 : ¬ nm.toList = [69, 71, 1] := fun e => hs (toList_inj (by rw [e, toList_data]))
      have HS := hid hs
      have hs3 : (nm.toList == [69, 71, 1]) = false := by simpa using hs2
      have h7' : ¬ ((l.length : Int) < 7) := by omega
      clear hs hs2
      go_enter_defers Tryz.func15, Tryz.ntmps15
      go_wp2
      rw [X.out]
      exact decode_out rfl rfl (P0.out 19) (E0.out 19) (rdD_empty _ _) rfl rfl (F0.out 19)
    · have h7' : ¬ ((l.length : Int) < 7) := by omega
      rw [h3] at c3
      have F1 := hid (F0.out 0)
      have P1 := hid (P0.out 0)
      have E1 := hid (E0.out 0)
      have H3 := hid h3
      obtain ⟨k, hk⟩ : ∃ k, l.length = k + 4 := ⟨l.length - 4, by omega⟩
      have HK := hid hk
      have hkl : k ≤ l.length := by omega
      have hk3 : 3 ≤ k := by omega
      clear h3
      go_enter_defers Tryz.func15, Tryz.ntmps15
      go_wp2
      have hck : ¬ c = k := by omega
      have hdA : dropA a c k = a.add k := if_neg hck
      have CD : Hid (∀ W, RdY NoB W (.slice (some a) l.length c) l → (convert 27 9 (.slice (some (a.add k)) 4 (c - k))).run Tryz.prog W = .ok (.string ⟨(l.drop k).toArray⟩) W) := fun W h => by
        have h9 := conv_drop h hkl
        rw [hdA, show l.length - k = 4 by omega] at h9
        exact h9
      have RT : Hid (∀ W, RdY NoB W (.slice (some a) l.length c) l → RdY NoB W (.slice (some a) k c) (l.take k)) := fun W h => h.takeF hkl
      have HW : Hid (∀ W, Fr NoB w W → RdY NoB W (.slice (some a) l.length c) l) := fun W hf => RdE.step H.out hf
      obtain ⟨W1, hW1⟩ : ∃ W1, ((w.alloc (.cells zeroD 26)).alloc (.cells #[.int .i64 0] 35)) = W1 := ⟨_, rfl⟩
      rw [hW1] at F1 P1 E1 c3 ⊢
      clear hW1 hdA h7
      refine region_eff (fun w' => Hid (Fr NoB w w')) 11 [(0, 1), (1, 1), (2, 1), (3, 0), (4, 1), (5, 1), (6, 1), (7, 2), (8, 2), (9, 2), (10, 1)] (by kernel_rfl) (by kernel_rfl) ?_ ?_
      · exact F1.out.drew
      repeat (first | (refine eff_off (by rfl) (by rfl) ?_; (try simp only [Act.put, List.setIfInBounds_toArray, List.set_cons_zero, List.set_cons_succ])) | (refine eff_off0 (by rfl) (by rfl) ?_; (try simp only [Act.put, List.setIfInBounds_toArray, List.set_cons_zero, List.set_cons_succ])) | (refine eff_pu ?_ (by rfl) (by rfl) ?_ ?_; rotate_left; (focus (intro w'; go_simp; (try with_reducible rfl); done)); (try simp only [Act.put, List.setIfInBounds_toArray, List.set_cons_zero, List.set_cons_succ])) | (refine eff_rd ?_ (by rfl) (by rfl) ?_ ?_; rotate_left; (focus (intro w' hS; (try obtain ⟨hq1, hS⟩ := hS); (try obtain ⟨hq2, hS⟩ := hS); (try obtain ⟨hq3, hS⟩ := hS); (try obtain ⟨hq4, hS⟩ := hS); (try obtain ⟨hq5, hS⟩ := hS); (try obtain ⟨hq6, hS⟩ := hS); (try obtain ⟨hq7, hS⟩ := hS); (try obtain ⟨hq8, hS⟩ := hS); (try obtain ⟨hq9, hS⟩ := hS); (try obtain ⟨hq10, hS⟩ := hS); (try obtain ⟨hq11, hS⟩ := hS); (try obtain ⟨hq12, hS⟩ := hS); (try obtain ⟨hq13, hS⟩ := hS); (try obtain ⟨hq14, hS⟩ := hS); (try obtain ⟨hq15, hS⟩ := hS); (try obtain ⟨hq16, hS⟩ := hS); (try obtain ⟨hq17, hS⟩ := hS); (try obtain ⟨hq18, hS⟩ := hS); (try obtain ⟨hq19, hS⟩ := hS); (try dsimp only at hS); go_simp; (try with_reducible rfl); done)); (try simp only [Act.put, List.setIfInBounds_toArray, List.set_cons_zero, List.set_cons_succ])))
      refine eff_pu (.slice (some (a.add k)) 4 (c - k)) (by rfl) (by rfl) ?_ ?_
      · intro w'
        go_simp
        intro h9
        omega
      (try simp only [Act.put, List.setIfInBounds_toArray, List.set_cons_zero, List.set_cons_succ])
      repeat (first | (refine eff_off (by rfl) (by rfl) ?_; (try simp only [Act.put, List.setIfInBounds_toArray, List.set_cons_zero, List.set_cons_succ])) | (refine eff_off0 (by rfl) (by rfl) ?_; (try simp only [Act.put, List.setIfInBounds_toArray, List.set_cons_zero, List.set_cons_succ])) | (refine eff_pu ?_ (by rfl) (by rfl) ?_ ?_; rotate_left; (focus (intro w'; go_simp; (try with_reducible rfl); done)); (try simp only [Act.put, List.setIfInBounds_toArray, List.set_cons_zero, List.set_cons_succ])) | (refine eff_rd ?_ (by rfl) (by rfl) ?_ ?_; rotate_left; (focus (intro w' hS; (try obtain ⟨hq1, hS⟩ := hS); (try obtain ⟨hq2, hS⟩ := hS); (try obtain ⟨hq3, hS⟩ := hS); (try obtain ⟨hq4, hS⟩ := hS); (try obtain ⟨hq5, hS⟩ := hS); (try obtain ⟨hq6, hS⟩ := hS); (try obtain ⟨hq7, hS⟩ := hS); (try obtain ⟨hq8, hS⟩ := hS); (try obtain ⟨hq9, hS⟩ := hS); (try obtain ⟨hq10, hS⟩ := hS); (try obtain ⟨hq11, hS⟩ := hS); (try obtain ⟨hq12, hS⟩ := hS); (try obtain ⟨hq13, hS⟩ := hS); (try obtain ⟨hq14, hS⟩ := hS); (try obtain ⟨hq15, hS⟩ := hS); (try obtain ⟨hq16, hS⟩ := hS); (try obtain ⟨hq17, hS⟩ := hS); (try obtain ⟨hq18, hS⟩ := hS); (try obtain ⟨hq19, hS⟩ := hS); (try dsimp only at hS); go_simp; (try with_reducible rfl); done)); (try simp only [Act.put, List.setIfInBounds_toArray, List.set_cons_zero, List.set_cons_succ])))
      refine eff_rd (.string ⟨(l.drop k).toArray⟩) (by rfl) (by rfl) ?_ ?_
      · intro w' hS
        have h9 := CD.out w' (HW.out w' hS.out)
        go_simp
      (try simp only [Act.put, List.setIfInBounds_toArray, List.set_cons_zero, List.set_cons_succ])
      repeat (first | (refine eff_off (by rfl) (by rfl) ?_; (try simp only [Act.put, List.setIfInBounds_toArray, List.set_cons_zero, List.set_cons_succ])) | (refine eff_off0 (by rfl) (by rfl) ?_; (try simp only [Act.put, List.setIfInBounds_toArray, List.set_cons_zero, List.set_cons_succ])) | (refine eff_pu ?_ (by rfl) (by rfl) ?_ ?_; rotate_left; (focus (intro w'; go_simp; (try with_reducible rfl); done)); (try simp only [Act.put, List.setIfInBounds_toArray, List.set_cons_zero, List.set_cons_succ])) | (refine eff_rd ?_ (by rfl) (by rfl) ?_ ?_; rotate_left; (focus (intro w' hS; (try obtain ⟨hq1, hS⟩ := hS); (try obtain ⟨hq2, hS⟩ := hS); (try obtain ⟨hq3, hS⟩ := hS); (try obtain ⟨hq4, hS⟩ := hS); (try obtain ⟨hq5, hS⟩ := hS); (try obtain ⟨hq6, hS⟩ := hS); (try obtain ⟨hq7, hS⟩ := hS); (try obtain ⟨hq8, hS⟩ := hS); (try obtain ⟨hq9, hS⟩ := hS); (try obtain ⟨hq10, hS⟩ := hS); (try obtain ⟨hq11, hS⟩ := hS); (try obtain ⟨hq12, hS⟩ := hS); (try obtain ⟨hq13, hS⟩ := hS); (try obtain ⟨hq14, hS⟩ := hS); (try obtain ⟨hq15, hS⟩ := hS); (try obtain ⟨hq16, hS⟩ := hS); (try obtain ⟨hq17, hS⟩ := hS); (try obtain ⟨hq18, hS⟩ := hS); (try obtain ⟨hq19, hS⟩ := hS); (try dsimp only at hS); go_simp; (try with_reducible rfl); done)); (try simp only [Act.put, List.setIfInBounds_toArray, List.set_cons_zero, List.set_cons_succ])))
      refine eff_pu (.slice (some a) k c) (by rfl) (by rfl) ?_ ?_
      · intro w'
        go_simp
        try (intro h9; omega)
      (try simp only [Act.put, List.setIfInBounds_toArray, List.set_cons_zero, List.set_cons_succ])
      repeat (first | (refine eff_off (by rfl) (by rfl) ?_; (try simp only [Act.put, List.setIfInBounds_toArray, List.set_cons_zero, List.set_cons_succ])) | (refine eff_off0 (by rfl) (by rfl) ?_; (try simp only [Act.put, List.setIfInBounds_toArray, List.set_cons_zero, List.set_cons_succ])) | (refine eff_pu ?_ (by rfl) (by rfl) ?_ ?_; rotate_left; (focus (intro w'; go_simp; (try with_reducible rfl); done)); (try simp only [Act.put, List.setIfInBounds_toArray, List.set_cons_zero, List.set_cons_succ])) | (refine eff_rd ?_ (by rfl) (by rfl) ?_ ?_; rotate_left; (focus (intro w' hS; (try obtain ⟨hq1, hS⟩ := hS); (try obtain ⟨hq2, hS⟩ := hS); (try obtain ⟨hq3, hS⟩ := hS); (try obtain ⟨hq4, hS⟩ := hS); (try obtain ⟨hq5, hS⟩ := hS); (try obtain ⟨hq6, hS⟩ := hS); (try obtain ⟨hq7, hS⟩ := hS); (try obtain ⟨hq8, hS⟩ := hS); (try obtain ⟨hq9, hS⟩ := hS); (try obtain ⟨hq10, hS⟩ := hS); (try obtain ⟨hq11, hS⟩ := hS); (try obtain ⟨hq12, hS⟩ := hS); (try obtain ⟨hq13, hS⟩ := hS); (try obtain ⟨hq14, hS⟩ := hS); (try obtain ⟨hq15, hS⟩ := hS); (try obtain ⟨hq16, hS⟩ := hS); (try obtain ⟨hq17, hS⟩ := hS); (try obtain ⟨hq18, hS⟩ := hS); (try obtain ⟨hq19, hS⟩ := hS); (try dsimp only at hS); go_simp; (try with_reducible rfl); done)); (try simp only [Act.put, List.setIfInBounds_toArray, List.set_cons_zero, List.set_cons_succ])))
      obtain ⟨s, hS⟩ : ∃ s, Hid (s = sumS (nats (l.take k))) := ⟨_, hid rfl⟩
      have hs1 : s < 4294967296 := by rw [hS.out]; exact sumS_lt _
      refine eff_call 11 #[.slice (some a) k c] (by rfl) (by rfl) (by intro w'; go_simp) ?_
      refine (sum_any _ (l.take k) _ (RT.out _ (HW.out _ F1.out.drew)) (by rw [List.length_take]; omega)).mono ?_
      rintro e w' ⟨rfl, h9⟩
      have h9 := h9.symm
      subst h9
      rw [← hS.out]
      refine ⟨_, rfl, fun _ => F1.out.drew, ?_⟩
      (try simp only [Act.put, List.setIfInBounds_toArray, List.set_cons_zero, List.set_cons_succ])
      repeat (first | (refine eff_off (by rfl) (by rfl) ?_; (try simp only [Act.put, List.setIfInBounds_toArray, List.set_cons_zero, List.set_cons_succ])) | (refine eff_off0 (by rfl) (by rfl) ?_; (try simp only [Act.put, List.setIfInBounds_toArray, List.set_cons_zero, List.set_cons_succ])) | (refine eff_pu ?_ (by rfl) (by rfl) ?_ ?_; rotate_left; (focus (intro w'; go_simp; (try with_reducible rfl); done)); (try simp only [Act.put, List.setIfInBounds_toArray, List.set_cons_zero, List.set_cons_succ])) | (refine eff_rd ?_ (by rfl) (by rfl) ?_ ?_; rotate_left; (focus (intro w' hS; (try obtain ⟨hq1, hS⟩ := hS); (try obtain ⟨hq2, hS⟩ := hS); (try obtain ⟨hq3, hS⟩ := hS); (try obtain ⟨hq4, hS⟩ := hS); (try obtain ⟨hq5, hS⟩ := hS); (try obtain ⟨hq6, hS⟩ := hS); (try obtain ⟨hq7, hS⟩ := hS); (try obtain ⟨hq8, hS⟩ := hS); (try obtain ⟨hq9, hS⟩ := hS); (try obtain ⟨hq10, hS⟩ := hS); (try obtain ⟨hq11, hS⟩ := hS); (try obtain ⟨hq12, hS⟩ := hS); (try obtain ⟨hq13, hS⟩ := hS); (try obtain ⟨hq14, hS⟩ := hS); (try obtain ⟨hq15, hS⟩ := hS); (try obtain ⟨hq16, hS⟩ := hS); (try obtain ⟨hq17, hS⟩ := hS); (try obtain ⟨hq18, hS⟩ := hS); (try obtain ⟨hq19, hS⟩ := hS); (try dsimp only at hS); go_simp; (try with_reducible rfl); done)); (try simp only [Act.put, List.setIfInBounds_toArray, List.set_cons_zero, List.set_cons_succ])))
      refine eff_call 24 #[.int .u32 s] (by rfl) (by rfl) (by intro w'; go_simp) ?_
      refine (big_any s _ hs1).mono ?_
      rintro e w8 ⟨bb, rfl, hr8, hf8, hb8⟩
      have F8 := hid ((F1.out.drew).step hf8)
      have P8 := hid (hf8.at (fun h => h) (show W1.drew.heap[w.heap.size]? = _ from P1.out))
      have E8 := hid (hf8.at (fun h => h) (show W1.drew.heap[w.heap.size + 1]? = _ from E1.out))
      have CB : (convert 27 9 (.slice (some ⟨bb, 0, none⟩) 4 4)).run Tryz.prog w8 = .ok (.string ⟨(bN (bigE s)).toArray⟩) w8 := by
        have h9 := conv_take (M := NoB) (w := w8) (a := ⟨bb, 0, none⟩) (c := 4) (c' := 4) (l := bN (bigE s)) hr8 (k := 4) (by simp [bN, bigE])
        rw [List.take_of_length_le (by simp [bN, bigE])] at h9
        exact h9
      clear hr8 hf8 hb8 F1 P1 E1 c3
      refine ⟨_, rfl, fun _ => F8.out, ?_⟩
      (try simp only [Act.put, List.setIfInBounds_toArray, List.set_cons_zero, List.set_cons_succ])
      refine eff_run (v := .string ⟨(bN (bigE s)).toArray⟩) (W' := w8) (by rfl) (by rfl) (by go_simp) (fun _ => F8.out) ?_
      (try simp only [Act.put, List.setIfInBounds_toArray, List.set_cons_zero, List.set_cons_succ])
      clear CB
      have hdk : l.drop k = bN (bigE s) ↔ ¬ ((nats l).drop ((nats l).length - 4) ≠ bigE (sumS ((nats l).take ((nats l).length - 4)))) := by
        have e1 : (nats l).length - 4 = k := by simp; omega
        rw [e1, Decidable.not_not]
        have e2 : (nats l).take k = nats (l.take k) := by unfold nats; rw [List.map_take]
        have e3 : (nats l).drop k = nats (l.drop k) := by unfold nats; rw [List.map_drop]
        rw [e2, e3, ← hS.out]
        constructor
        · intro h; rw [h]; exact bN_toNat (bigE_byte _)
        · intro h
          have h4 : bN (nats (l.drop k)) = bN (bigE s) := by rw [h]
          unfold nats bN at h4
          rw [List.map_map] at h4
          have : (UInt8.ofNat ∘ fun x : UInt8 => x.toNat) = id := by funext x; simp
          rw [this, List.map_id] at h4
          exact h4
      by_cases hdd : l.drop k = bN (bigE s)
      rotate_left
      · have X : Hid (decE (nats l) = .error 2) := by
          show _ = _
          unfold decE
          rw [if_neg ?_, if_pos (Decidable.not_not.1 (fun h => hdd (hdk.2 h)))]
          rintro (h | h)
          · rw [List.length_map] at h; omega
          · exact h (by unfold nats; rw [← List.map_take, H3.out]; rfl)
        have hs : ¬ (⟨(l.drop k).toArray⟩ : ByteArray) = ⟨(bN (bigE s)).toArray⟩ := fun e => hdd (by
          have := congrArg (fun s : ByteArray => s.data.toList) e
          simpa using this)
        clear hdk
        have HDD := hid hdd
        clear hdd
        obtain ⟨n1, hn1⟩ : ∃ n1 : ByteArray, (⟨(l.drop k).toArray⟩ : ByteArray) = n1 := ⟨_, rfl⟩
        obtain ⟨n2, hn2⟩ : ∃ n2 : ByteArray, (⟨(bN (bigE s)).toArray⟩ : ByteArray) = n2 := ⟨_, rfl⟩
        rw [hn1, hn2] at hs ⊢
        have hs3 : (n1.toList == n2.toList) = false := by
          rw [beq_eq_false_iff_ne]; exact fun e => hs (toList_inj e)
        clear hn1 hn2 hs
        repeat (first | (refine eff_off (by rfl) (by rfl) ?_; (try simp only [Act.put, List.setIfInBounds_toArray, List.set_cons_zero, List.set_cons_succ])) | (refine eff_off0 (by rfl) (by rfl) ?_; (try simp only [Act.put, List.setIfInBounds_toArray, List.set_cons_zero, List.set_cons_succ])) | (refine eff_pu ?_ (by rfl) (by rfl) ?_ ?_; rotate_left; (focus (intro w'; go_simp; (try with_reducible rfl); done)); (try simp only [Act.put, List.setIfInBounds_toArray, List.set_cons_zero, List.set_cons_succ])) | (refine eff_rd ?_ (by rfl) (by rfl) ?_ ?_; rotate_left; (focus (intro w' hS; (try obtain ⟨hq1, hS⟩ := hS); (try obtain ⟨hq2, hS⟩ := hS); (try obtain ⟨hq3, hS⟩ := hS); (try obtain ⟨hq4, hS⟩ := hS); (try obtain ⟨hq5, hS⟩ := hS); (try obtain ⟨hq6, hS⟩ := hS); (try obtain ⟨hq7, hS⟩ := hS); (try obtain ⟨hq8, hS⟩ := hS); (try obtain ⟨hq9, hS⟩ := hS); (try obtain ⟨hq10, hS⟩ := hS); (try obtain ⟨hq11, hS⟩ := hS); (try obtain ⟨hq12, hS⟩ := hS); (try obtain ⟨hq13, hS⟩ := hS); (try obtain ⟨hq14, hS⟩ := hS); (try obtain ⟨hq15, hS⟩ := hS); (try obtain ⟨hq16, hS⟩ := hS); (try obtain ⟨hq17, hS⟩ := hS); (try obtain ⟨hq18, hS⟩ := hS); (try obtain ⟨hq19, hS⟩ := hS); (try dsimp only at hS); go_simp; (try with_reducible rfl); done)); (try simp only [Act.put, List.setIfInBounds_toArray, List.set_cons_zero, List.set_cons_succ])))
        refine eff_nil ?_
        have p8 := three_of P8.out
        obtain ⟨p0, p1, p2, pf, pl⟩ := p8
        have e0 : w8.cell? ⟨w.heap.size + 1, 0, none⟩ = some (.int .i64 0) := by have := E8.out; simp only [World.cell?, this]; rfl
        have ef : w8.frozen? ⟨w.heap.size + 1, 0, none⟩ = false := by have := E8.out; simp only [World.frozen?, this]; rfl
        go_wp2
        obtain ⟨q1, q2, q3⟩ := store_dump (sN := .slice none 0 0) (sL := .slice none 0 0) (sR := .slice none 0 0) (.int .i64 20) P8.out E8.out
        rw [X.out]
        exact decode_out rfl rfl q1 q2 (rdD_empty _ _) rfl rfl (F8.out.trans' q3 (fun k hk e => by omega))
      · have X : Hid (decE (nats l) = match rdDm (nats ((l.take k).drop 3)) with | none => .error 1 | some d => .ok d) := by
          show _ = _
          unfold decE
          have e1 : (nats l).length - 4 = k := by simp; omega
          rw [if_neg ?_, if_neg (hdk.1 hdd)]
          · rw [e1]
            unfold nats
            rw [List.map_drop, List.map_take]
            cases rdDm (List.drop 3 (List.take k (List.map (fun x : UInt8 => x.toNat) l))) <;> rfl
          · rintro (h | h)
            · rw [List.length_map] at h; omega
            · exact h (by unfold nats; rw [← List.map_take, H3.out]; rfl)
        clear hdk
        rw [hdd]
        clear hdd
        repeat (first | (refine eff_off (by rfl) (by rfl) ?_; (try simp only [Act.put, List.setIfInBounds_toArray, List.set_cons_zero, List.set_cons_succ])) | (refine eff_off0 (by rfl) (by rfl) ?_; (try simp only [Act.put, List.setIfInBounds_toArray, List.set_cons_zero, List.set_cons_succ])) | (refine eff_pu ?_ (by rfl) (by rfl) ?_ ?_; rotate_left; (focus (intro w'; go_simp; (try with_reducible rfl); done)); (try simp only [Act.put, List.setIfInBounds_toArray, List.set_cons_zero, List.set_cons_succ])) | (refine eff_rd ?_ (by rfl) (by rfl) ?_ ?_; rotate_left; (focus (intro w' hS; (try obtain ⟨hq1, hS⟩ := hS); (try obtain ⟨hq2, hS⟩ := hS); (try obtain ⟨hq3, hS⟩ := hS); (try obtain ⟨hq4, hS⟩ := hS); (try obtain ⟨hq5, hS⟩ := hS); (try obtain ⟨hq6, hS⟩ := hS); (try obtain ⟨hq7, hS⟩ := hS); (try obtain ⟨hq8, hS⟩ := hS); (try obtain ⟨hq9, hS⟩ := hS); (try obtain ⟨hq10, hS⟩ := hS); (try obtain ⟨hq11, hS⟩ := hS); (try obtain ⟨hq12, hS⟩ := hS); (try obtain ⟨hq13, hS⟩ := hS); (try obtain ⟨hq14, hS⟩ := hS); (try obtain ⟨hq15, hS⟩ := hS); (try obtain ⟨hq16, hS⟩ := hS); (try obtain ⟨hq17, hS⟩ := hS); (try obtain ⟨hq18, hS⟩ := hS); (try obtain ⟨hq19, hS⟩ := hS); (try dsimp only at hS); go_simp; (try with_reducible rfl); done)); (try simp only [Act.put, List.setIfInBounds_toArray, List.set_cons_zero, List.set_cons_succ])))
        refine eff_nil ?_
        obtain ⟨b, off, rfl⟩ : ∃ b off, a = ⟨b, off, none⟩ := by
          rcases H.out with ⟨_, h⟩ | ⟨b, off, cap, e, _⟩
          · rw [h] at hk; simp at hk
          · simp only [Value.slice.injEq, Option.some.injEq] at e
            exact ⟨b, off, e.1⟩
        have hkc : k ≤ c := by omega
        have hc3 : ¬ c = 3 := by omega
        have RR : Hid (RdY (fun q => w8.heap.size ≤ q) w8 (.slice (some ⟨b, off + 3, none⟩) ((l.take k).drop 3).length (c - 3)) ((l.take k).drop 3)) := by
          have h1 := RT.out _ (HW.out _ F8.out)
          rw [show Value.slice (some ⟨b, off, none⟩) k c = Value.slice (some ⟨b, off, none⟩) (l.take k).length c by rw [List.length_take, Nat.min_eq_left hkl]] at h1
          have h2 := h1.dropF (k := 3) (by rw [List.length_take]; omega)
          unfold dropA at h2
          rw [if_neg hc3, add_off] at h2
          exact (RdE.more h2).weaken (fun q _ hq => .inr hq)
        have hl3 : ((l.take k).drop 3).length = k - 3 := by rw [List.length_drop, List.length_take]; omega
        rw [hl3] at RR
        have SR : Hid (RrN (w8.alloc (.cells #[.slice (some ⟨b, off + 3, none⟩) (k - 3) (c - 3)] 69)) w8.heap.size (nats ((l.take k).drop 3))) :=
          ⟨⟨b, off + 3, none⟩, c - 3, (l.take k).drop 3, by rw [hl3]; exact at_new w8 _, by rw [hl3]; exact RR.out.fr ((Fr.refl NoB w8).alloc _) (fun _ _ h => h.elim), rfl⟩
        have P9 := hid (at_old P8.out (.cells #[.slice (some ⟨b, off + 3, none⟩) (k - 3) (c - 3)] 69))
        have E9 := hid (at_old E8.out (.cells #[.slice (some ⟨b, off + 3, none⟩) (k - 3) (c - 3)] 69))
        have F9 := hid (F8.out.alloc (.cells #[.slice (some ⟨b, off + 3, none⟩) (k - 3) (c - 3)] 69))
        have L8 : Hid (w.heap.size + 1 < w8.heap.size) := (Array.getElem?_eq_some_iff.1 E8.out).1
        have HL : Hid ((nats ((l.take k).drop 3)).length ≤ 1000000) := by show _ ≤ _; rw [List.length_map, hl3]; omega
        clear hl3 RR CD RT
        go_wp2_with fail
        refine (rdump_any _ _ _ SR.out HL.out).mono ?_
        intro e w10 h1
        unfold RdDmOut at h1
        cases hr : rdDm (nats ((l.take k).drop 3)) with
        | none =>
          rw [hr] at h1
          obtain ⟨rfl, hf⟩ := h1
          have X2 : Hid (decE (nats l) = .error 1) := by show _ = _; rw [X.out, hr]
          have P10 := hid (hf.at (fun e => by have := L8.out; have e2 : w.heap.size = w8.heap.size := e; omega) P9.out)
          have E10 := hid (hf.at (fun e => by have := L8.out; have e2 : w.heap.size + 1 = w8.heap.size := e; omega) E9.out)
          have F10 : Hid (Fr NoB w w10) := F9.out.trans' hf (fun k hk e => by have := L8.out; have e2 : k = w8.heap.size := e; omega)
          clear hr hf
          go_wp2
          refine leaves_cons (f := 33) (args := #[.pointer (some ⟨w.heap.size, 0, none⟩), .pointer (some ⟨w.heap.size + 1, 0, none⟩)]) (by simp) (by simp [go_sem]) ?_
          refine (catch_bad w.heap.size (w.heap.size + 1) _ _ _ _ w10 P10.out E10.out).mono ?_
          rintro e u' w'' ⟨rfl, rfl, q1, q2, q3⟩
          rw [X2.out]
          exact decode_out rfl rfl q1 q2 (rdD_empty _ _) rfl rfl (F10.out.trans' q3 (fun k hk e => by omega))
        | some dm =>
          rw [hr] at h1
          obtain ⟨sN, sL, sR, d, rfl, hd, hdm, hf⟩ := h1
          have X2 : Hid (decE (nats l) = .ok dm) := by show _ = _; rw [X.out, hr]
          have P10 := hid (hf.at (fun e => by have := L8.out; have e2 : w.heap.size = w8.heap.size := e; omega) P9.out)
          have E10 := hid (hf.at (fun e => by have := L8.out; have e2 : w.heap.size + 1 = w8.heap.size := e; omega) E9.out)
          have F10 : Hid (Fr NoB w w10) := F9.out.trans' hf (fun k hk e => by have := L8.out; have e2 : k = w8.heap.size := e; omega)
          obtain ⟨p0, p1, p2, pf, pl⟩ := three_of P10.out
          have e0 : w10.cell? ⟨w.heap.size + 1, 0, none⟩ = some (.int .i64 0) := by have := E10.out; simp only [World.cell?, this]; rfl
          have ef : w10.frozen? ⟨w.heap.size + 1, 0, none⟩ = false := by have := E10.out; simp only [World.frozen?, this]; rfl
          have HDD := hid hd
          have HDM := hid hdm
          obtain ⟨aN, cN, rfl⟩ := hd.nodes.form
          obtain ⟨aL, cL, rfl⟩ := hd.links.form
          obtain ⟨aR, cR, rfl⟩ := hd.roots.form
          clear hr hf hd hdm
          go_wp2
          refine leaves_cons (f := 33) (args := #[.pointer (some ⟨w.heap.size, 0, none⟩), .pointer (some ⟨w.heap.size + 1, 0, none⟩)]) (by simp) (by simp [go_sem]) ?_
          refine (catch_idle ⟨w.heap.size, 0, none⟩ ⟨w.heap.size + 1, 0, none⟩ _).mono ?_
          rintro e u' w'' ⟨rfl, rfl, rfl⟩
          obtain ⟨q1, q2, q3⟩ := store_dump (sN := .slice aN d.nodes.length cN) (sL := .slice aL d.links.length cL) (sR := .slice aR d.roots.length cR) (.int .i64 0) P10.out E10.out
          rw [X2.out]
          have hs8 : w.heap.size + 1 < (w8.alloc (.cells #[.slice (some ⟨b, off + 3, none⟩) (k - 3) (c - 3)] 69)).heap.size := by have := L8.out; simp only [World.size_alloc]; omega
          exact decode_out rfl rfl q1 q2 ((HDD.out.fr q3 (fun k hk e => by have e2 : k < (w8.alloc (.cells #[.slice (some ⟨b, off + 3, none⟩) (c - 3) (c - 3)] 69)).heap.size := (by simp only [World.size_alloc] at hs8 ⊢; omega); simpa only [World.size_alloc] using e2)).fr (Fr.refl NoB _) (fun _ _ h => h.elim) |> fun h => ⟨h.nodes.weaken (fun _ _ h => h.elim), h.links.weaken (fun _ _ h => h.elim), h.roots.weaken (fun _ _ h => h.elim)⟩) HDM.out rfl (F10.out.trans' q3 (fun k hk e => by omega))
end Go.Proofs.YtndfncaoejbkiaaGreatDoor
end
section
/- The walk of hashcons.Key. -/
namespace Go.Proofs.YtndfncaoejbkiaaGreatDoor
open Go.RowKit

def keyArgs (l : List Int) : List UInt8 := l.flatMap fun a => 44 :: Lib.itoa a
def keyL (n : Node) : List UInt8 := Lib.itoa n.op ++ [44] ++ Lib.itoa n.width ++ [44] ++ Lib.decDigits n.val.toNat ++ keyArgs n.args ++ [58] ++ n.name.data.toList
def keyB (n : Node) : ByteArray := ⟨(keyL n).toArray⟩

abbrev i64ok (x : Int) : Prop := -9223372036854775808 ≤ x ∧ x ≤ 9223372036854775807
/-- The numbers of a node are of their kinds. -/
structure NodeOk (n : Node) : Prop where
  op : i64ok n.op
  width : i64ok n.width
  val : 0 ≤ n.val ∧ n.val < 18446744073709551616
  args : ∀ i, i < n.args.length → i64ok (n.args.getD i 0)
/-- .. and it is of a size that a key can be made of. -/
structure NodeSm (n : Node) : Prop where
  args : n.args.length ≤ 100000
  name : n.name.size ≤ 100000000

theorem AppendUint_any (B n u : Nat) (hu64 : u < 18446744073709551616) (sv : Value) (xs : List Value) (w : World) (hown : w.ownsRow B 5 1 sv n xs) (hBw : B ≤ w.heap.size) (hlim : n + 20 ≤ 140737488355328) (htab : Tab w) :
    Calls Tryz.prog 100 #[sv, .int .u64 u, .int .i64 10] w fun e w' => ∃ v', e = .returned v' ∧ w'.ownsRow B 5 1 v' (n + (Lib.decDigits u).length) (xs ++ Lib.byteCells (Lib.decDigits u)) ∧ Below B w w' := by
  go_enter Tryz.func100, Tryz.ntmps100
  go_wp2_with (go_at_call 109; refine (Tryz.internal_strconv_AppendUint_10 B n u hu64 sv xs w hown hBw hlim htab).mono ?_; rintro e w2 ⟨v2, rfl, h1, h2, h3⟩)
  go_ret
  exact ⟨_, rfl, h1, h2⟩

/-- Where the making of a key stands. -/
structure KS (w : World) (n : Node) (s : Value) (wk : World) (v : Value) (l : List UInt8) : Prop where
  own : OwnB (w.heap.size + 1) wk v l
  box : wk.heap[w.heap.size]? = some (.cells (nodeCells n s) 44 (0, 0))
  fr : Fr NoB w wk
  tab : Tab wk
  lt : TB < w.heap.size

theorem KS.step {w : World} {n : Node} {s : Value} {wk w2 : World} {v v2 : Value} {l l2 : List UInt8} (h : KS w n s wk v l) (ho : OwnB (w.heap.size + 1) w2 v2 l2) (hf : Fr (fun k => w.heap.size + 1 ≤ k) wk w2) : KS w n s w2 v2 l2 where
  own := ho
  box := hf.at (by omega) h.box
  fr := h.fr.trans' hf (fun k hk h => by omega)
  tab := h.tab.fr hf (by have := h.lt; omega)
  lt := h.lt
theorem KS.alloc {w : World} {n : Node} {s : Value} {wk : World} {v : Value} {l : List UInt8} (h : KS w n s wk v l) (o : Obj) : KS w n s (wk.alloc o) v l where
  own := h.own.fr ((Fr.refl NoB wk).alloc o) (fun _ _ h => h)
  box := at_old h.box o
  fr := h.fr.alloc o
  tab := h.tab.fr ((Fr.refl NoB wk).alloc o) (fun h => h)
  lt := h.lt
theorem KS.drew {w : World} {n : Node} {s : Value} {wk : World} {v : Value} {l : List UInt8} (h : KS w n s wk v l) : KS w n s wk.drew v l := ⟨h.own, h.box, h.fr.drew, h.tab, h.lt⟩
theorem KS.size {w : World} {n : Node} {s : Value} {wk : World} {v : Value} {l : List UInt8} (h : KS w n s wk v l) : w.heap.size + 1 ≤ wk.heap.size := by
  have := (Array.getElem?_eq_some_iff.1 h.box).1; omega
theorem KS.num {w : World} {n : Node} {s : Value} {wk w2 : World} {v v2 : Value} {l : List UInt8} (h : KS w n s wk v l) (m : List UInt8) (ho : w2.ownsRow (w.heap.size + 1) 5 1 v2 (l.length + m.length) (Lib.byteCells l ++ Lib.byteCells m)) (hb : Below (w.heap.size + 1) wk w2) : KS w n s w2 v2 (l ++ m) := by
  refine h.step ?_ (Fr.own hb)
  unfold OwnB
  rw [List.length_append, Lib.byteCells_append]; exact ho

theorem KS.lt' {w : World} {n : Node} {s : Value} {wk : World} {v : Value} {l : List UInt8} (h : KS w n s wk v l) : TB < w.heap.size + 1 := Nat.lt_succ_of_lt h.lt
theorem KS.start {w : World} {n : Node} {s : Value} {w1 : World} {v : Value} (ho : w1.ownsRow (w.heap.size + 1) 5 1 v 0 []) (hg : (w.alloc (.cells (nodeCells n s) 44)).grownBy w1 none) (ht : Tab w) : KS w n s w1 v [] := by
  have hf : Fr NoB (w.alloc (.cells (nodeCells n s) 44)) w1 := (Fr.refl NoB _).grown hg (fun k hk => by cases hk)
  have hf0 : Fr NoB w w1 := ((Fr.refl NoB w).alloc _).step hf
  exact ⟨ho, hf.at (fun h => h) (at_new w _), hf0, ht.fr hf0 (fun h => h), ht.lt⟩

theorem keyArgs_take (l : List Int) (k : Nat) (hk : k < l.length) : keyArgs (l.take (k + 1)) = keyArgs (l.take k) ++ [44] ++ Lib.itoa (l.getD k 0) := by
  have e1 : l.take (k + 1) = l.take k ++ [l[k]] := List.take_succ_eq_append_getElem hk
  rw [e1, getD_eq hk, keyArgs, keyArgs, List.flatMap_append]
  simp

theorem decDigits_len : ∀ (d u : Nat), u < 10 ^ (d + 1) → (Lib.decDigits u).length ≤ d + 1
  | 0, u, h => by unfold Lib.decDigits; rw [dif_pos (by omega)]; simp
  | d + 1, u, h => by
    unfold Lib.decDigits
    split
    · simp
    · have := decDigits_len d (u / 10) (by rw [Nat.pow_succ] at h; omega)
      simp; omega
theorem itoa_len (x : Int) (h : i64ok x) : (Lib.itoa x).length ≤ 21 := by
  unfold Lib.itoa i64ok at *
  split
  · have := decDigits_len 19 x.natAbs (by omega); simp; omega
  · have := decDigits_len 19 x.toNat (by omega); omega

theorem keyArgs_len (l : List Int) (h : ∀ i, i < l.length → i64ok (l.getD i 0)) : ∀ k, k ≤ l.length → (keyArgs (l.take k)).length ≤ 22 * k
  | 0, _ => by simp [keyArgs]
  | k + 1, hk => by
    have ih := keyArgs_len l h k (by omega)
    have := itoa_len _ (h k (by omega))
    rw [keyArgs_take l k (by omega)]
    simp only [List.length_append, List.length_cons, List.length_nil]
    omega

set_option maxRecDepth 100000 in
set_option maxHeartbeats 2000000 in
theorem key_any (M : Nat → Prop) (n : Node) (s : Value) (w : World) (h : RdI M w s n.args) (hok : NodeOk n) (hsm : NodeSm n) (ht : Tab w) :
    Calls Tryz.prog 85 #[nodeV n s] w fun e w' => e = .returned (.string (keyB n)) ∧ Fr NoB w w' := by
  obtain ⟨a, cap, rfl⟩ := h.form
  have HR := hid (show ∀ W, Fr NoB w W → RdI M W (.slice a n.args.length cap) n.args from fun W hf => h.fr hf (fun _ _ h => h.elim))
  have HOK := hid hok
  have hn1 := hsm.name
  have hn2 := hsm.args
  obtain ⟨i0, hi, hz0, hz1, hz2⟩ := info_parts infoByte
  have k0 : Hid (w.heap.size + 1 ≤ (w.alloc (.cells (nodeCells n (.slice a n.args.length cap)) 44)).heap.size) := by show _ ≤ _; simp
  have HT := hid ht
  have hl1 := itoa_len _ hok.op
  have hl2 := itoa_len _ hok.width
  have hl3 : (Lib.decDigits n.val.toNat).length ≤ 20 := decDigits_len 19 _ (by have := hok.val; omega)
  have HL1 := hid hl1
  have HL2 := hid hl2
  have HL3 := hid hl3
  clear h hok hsm ht hl1 hl2 hl3
  unfold nodeV
  go_enter Tryz.func85, Tryz.ntmps85
  go_wp2_with (at_make; refine wpList_make_own _ rfl _ _ 27 rfl (w.heap.size + 1) 5 i0 (.int .u8 0) 1 Tryz.underlying27 hi hz0 hz1 _ _ _ (32 + n.name.size) rfl rfl (by simp) (by rw [hz2]; omega) (by unfold maxLen; omega) k0.out ?_; intro w1 ho1 hg1; have K1 := hid (KS.start ho1 hg1 HT.out); clear ho1 hg1; obtain ⟨c0, c1, c2, c3, c4, cf, cl⟩ := five_of K1.out.box)
  simp only [World.size_alloc] at K1
  refine (Tryz.strconv_AppendInt_10 (w.heap.size + 1) 0 n.op HOK.out.op.1 HOK.out.op.2 _ _ _ K1.out.own K1.out.size (by omega) (K1.out.tab.below (by have := K1.out.lt; omega))).mono ?_
  rintro e w2 ⟨v2, rfl, ho, hb, _⟩
  have K2 := hid (K1.out.num _ (by simpa using ho) hb)
  clear ho hb c0 c1 c2 c3 c4 cf cl K1
  obtain ⟨c0, c1, c2, c3, c4, cf, cl⟩ := five_of K2.out.box
  go_wp2_with fail
  have q2 : ([] ++ Lib.itoa n.op).length ≤ 21 := by simpa using HL1.out
  have Q2 := hid q2
  have Q2' : Hid (([] ++ Lib.itoa n.op).length ≤ 140737488355000) := by show _ ≤ _; omega
  have Q3' : Hid (([] ++ Lib.itoa n.op ++ [44]).length + 21 ≤ 140737488355328) := by show _ ≤ _; rw [List.length_append]; simp only [List.length_cons, List.length_nil]; omega
  clear q2
  go_region_held3 (fun w' => w'.cell? ⟨w.heap.size, 1, none⟩ = some (.int .i64 n.width)) (go_keep)
    (first
      | (go_at_call 99; have X := Tryz.strconv_AppendInt_10 (w.heap.size + 1) _ n.width HOK.out.width.1 HOK.out.width.2 _ _ _ K3.out.own.row K3.out.size Q3'.out (K3.out.tab.below K3.out.lt'); (with_reducible refine X.mono ?_); clear X; rintro e w4 ⟨v4, rfl, ho, hb, _⟩; have K4 := hid (K3.out.num _ ho hb); clear ho hb; obtain ⟨c0, c1, c2, c3, c4, cf, cl⟩ := five_of K4.out.box)
      | (refine byte_step _ (by rfl) _ _ (by rfl) (w.heap.size + 1) v2 _ (by rfl) ((K2.out.alloc _).drew.own) 44 w2.heap.size 1 1 (by rfl) (by rfl) (by simp) Q2'.out ((K2.out.alloc _).drew.size) ?_; intro v3 w3 ho3 hf3; have K3 := hid ((K2.out.alloc _).drew.step ho3 hf3); clear ho3 hf3; obtain ⟨c0, c1, c2, c3, c4, cf, cl⟩ := five_of K3.out.box))
  go_wp2_with fail
  have q4 : ([] ++ Lib.itoa n.op ++ [44] ++ Lib.itoa n.width).length ≤ 50 := by have := HL1.out; have := HL2.out; simp only [List.length_append, List.length_cons, List.length_nil]; omega
  have Q4 := hid q4
  have Q4' : Hid (([] ++ Lib.itoa n.op ++ [44] ++ Lib.itoa n.width).length ≤ 140737488355000) := by show _ ≤ _; omega
  have Q5' : Hid (([] ++ Lib.itoa n.op ++ [44] ++ Lib.itoa n.width ++ [44]).length + 20 ≤ 140737488355328) := by show _ ≤ _; rw [List.length_append]; simp only [List.length_cons, List.length_nil]; omega
  obtain ⟨u, hv, hu⟩ : ∃ u : Nat, Hid (n.val = (u : Int)) ∧ Hid (u = n.val.toNat) := ⟨n.val.toNat, by show _ = _; have := HOK.out.val.1; omega, rfl⟩
  have hv2 : Hid (u < 18446744073709551616) := by show _ < _; have := HOK.out.val; have := hu.out; omega
  clear q4
  rw [hv.out] at c2
  go_region_held3 (fun w' => w'.cell? ⟨w.heap.size, 2, none⟩ = some (.int .u64 (u : Int))) (go_keep)
    (first
      | (go_at_call 100; have X := AppendUint_any (w.heap.size + 1) _ u hv2.out _ _ _ K5.out.own.row K5.out.size Q5'.out K5.out.tab; (with_reducible refine X.mono ?_); clear X; rintro e w6 ⟨v6, rfl, ho, hb⟩; have K6 := hid (K5.out.num _ ho hb); clear ho hb; obtain ⟨c0, c1, c2, c3, c4, cf, cl⟩ := five_of K6.out.box; rw [hv.out] at c2)
      | (refine byte_step _ (by rfl) _ _ (by rfl) (w.heap.size + 1) v4 _ (by rfl) ((K4.out.alloc _).drew.own) 44 w4.heap.size 1 1 (by rfl) (by rfl) (by simp) Q4'.out ((K4.out.alloc _).drew.size) ?_; intro v5 w5 ho3 hf3; have K5 := hid ((K4.out.alloc _).drew.step ho3 hf3); clear ho3 hf3; obtain ⟨c0, c1, c2, c3, c4, cf, cl⟩ := five_of K5.out.box; rw [hv.out] at c2))
  obtain ⟨bs, hbs⟩ : ∃ bs, Hid (bs = [] ++ Lib.itoa n.op ++ [44] ++ Lib.itoa n.width ++ [44] ++ Lib.decDigits u) := ⟨_, hid rfl⟩
  have K7 : Hid (KS w n (.slice a n.args.length cap) w6 v6 bs) := by show KS _ _ _ _ _ _; rw [hbs.out]; exact K6.out
  have q7 : bs.length ≤ 100 := by have := HL1.out; have := HL2.out; have h3 := HL3.out; rw [← hu.out] at h3; rw [hbs.out]; simp only [List.length_append, List.length_cons, List.length_nil]; omega
  have Q7 := hid q7
  clear K6 K5 K4 K3 K2 q7 Q2 Q2' Q3' Q4 Q4' Q5'
  go_wp2_with fail
  go_loopw [3, 30] (fun b i wr => ∃ (k : Nat) (v : Value), k ≤ n.args.length ∧ b = v ∧ i = .int .i64 k ∧ Hid (KS w n (.slice a n.args.length cap) wr v (bs ++ keyArgs (n.args.take k)))) (fun _ i _ => n.args.length - (intOf i).toNat)
  case atStart => exact ⟨0, _, Nat.zero_le _, rfl, rfl, by show KS _ _ _ _ _ _; simpa [keyArgs] using K7.out⟩
  case round =>
    obtain ⟨k, v, hk, rfl, rfl, K8⟩ := hrel
    have q8 : (bs ++ keyArgs (n.args.take k)).length ≤ 3000000 := by have := Q7.out; have := keyArgs_len n.args HOK.out.args k hk; rw [List.length_append]; omega
    have Q8' : Hid ((bs ++ keyArgs (n.args.take k)).length ≤ 140737488355000) := by show _ ≤ _; omega
    have Q9' : Hid ((bs ++ keyArgs (n.args.take k) ++ [44]).length + 21 ≤ 140737488355328) := by show _ ≤ _; rw [List.length_append]; simp only [List.length_cons, List.length_nil]; omega
    have Q10' : Hid ((bs ++ keyArgs (n.args.take k) ++ [58]).length + n.name.size ≤ 140737488355000) := by show _ ≤ _; rw [List.length_append]; simp only [List.length_cons, List.length_nil]; omega
    clear q8
    obtain ⟨c0, c1, c2, c3, c4, cf, cl⟩ := five_of K8.out.box
    by_cases hlt : k < n.args.length
    · rcases HR.out wr K8.out.fr with ⟨h, h2⟩ | ⟨b, off, cap2, h, _, _, _, hc⟩
      · rw [h2] at hlt; simp at hlt
      · cases h
        obtain ⟨x, HX, hck⟩ := hc.get hlt
        clear hc
        have hx : Hid (i64ok x) := by show i64ok x; rw [← HX.out]; exact HOK.out.args k hlt
        go_wp2_with (first
          | (at_builtin; refine byte_list _ rfl _ _ rfl (w.heap.size + 1) _ _ rfl (K8.out.alloc _).own 44 wr.heap.size 1 1 rfl rfl (by simp) Q8'.out (K8.out.alloc _).size ?_; intro v9 w9 ho3 hf3; have K9 := hid ((K8.out.alloc _).step ho3 hf3); clear ho3 hf3)
          | (go_at_call 99; have X := Tryz.strconv_AppendInt_10 (w.heap.size + 1) _ x hx.out.1 hx.out.2 _ _ _ K9.out.own.row K9.out.size Q9'.out (K9.out.tab.below K9.out.lt'); (with_reducible refine X.mono ?_); clear X; rintro e w10 ⟨v10, rfl, ho, hb, _⟩; have K10 := hid (K9.out.num _ ho hb); clear ho hb))
        go_roundw
        case rel => exact ⟨k + 1, _, by omega, rfl, by go_num, by
          show KS _ _ _ _ _ _
          rw [keyArgs_take _ _ hlt, HX.out, ← List.append_assoc, ← List.append_assoc]
          exact K10.out⟩
        case measure => simp [intOf]; omega
    · obtain rfl : k = n.args.length := by omega
      go_wp2_with (first
        | (at_builtin; refine byte_list _ rfl _ _ rfl (w.heap.size + 1) _ _ rfl (K8.out.alloc _).own 58 wr.heap.size 1 1 rfl rfl (by simp) Q8'.out (K8.out.alloc _).size ?_; intro v9 w9 ho3 hf3; have K9 := hid ((K8.out.alloc _).step ho3 hf3); clear ho3 hf3; obtain ⟨d0, d1, d2, d3, d4, df, dl⟩ := five_of K9.out.box)
        | (at_builtin; refine str_list _ rfl _ _ rfl (w.heap.size + 1) v9 _ rfl K9.out.own n.name rfl Q10'.out K9.out.size ?_; intro v10 w10 ho3 hf3; have K10 := hid (K9.out.step ho3 hf3); have hcv := conv_own K10.out.own; clear ho3 hf3))
      go_ret
      refine ⟨?_, K10.out.fr⟩
      have e : keyB n = ⟨(bs ++ (keyArgs n.args ++ 58 :: n.name.data.toList)).toArray⟩ := by
        rw [keyB, keyL, hbs.out, hu.out]; simp
      rw [e]
      rfl

end Go.Proofs.YtndfncaoejbkiaaGreatDoor
end
section
/- A key tells the node: plain lists, no program in sight. -/
namespace Go.Proofs.YtndfncaoejbkiaaGreatDoor
open Go.RowKit

/-- The number that decimal digits spell. -/
def spell (l : List UInt8) : Nat := l.foldl (fun s c => 10 * s + (c.toNat - 48)) 0
theorem spell_snoc (l : List UInt8) (c : UInt8) : spell (l ++ [c]) = 10 * spell l + (c.toNat - 48) := by simp [spell]
theorem ofNat_digit (d : Nat) (h : d < 10) : (UInt8.ofNat (48 + d)).toNat = 48 + d := by
  simp; omega
theorem spell_dec : ∀ (n u : Nat), u ≤ n → spell (Lib.decDigits u) = u
  | n, u, h => by
    rw [Lib.decDigits]
    split
    · rename_i h1; rw [spell, List.foldl_cons, List.foldl_nil, ofNat_digit u h1]; omega
    · rename_i h1
      match n, h with
      | 0, h => omega
      | n + 1, h =>
        rw [spell_snoc, spell_dec n (u / 10) (by omega), ofNat_digit _ (by omega)]; omega
theorem decDigits_inj {u v : Nat} (h : Lib.decDigits u = Lib.decDigits v) : u = v := by
  rw [← spell_dec u u (Nat.le_refl _), ← spell_dec v v (Nat.le_refl _), h]
/-- A digit is no mark. -/
def noMark (l : List UInt8) : Prop := ∀ c ∈ l, c ≠ 44 ∧ c ≠ 58
theorem digit_ne (d : Nat) (h : d < 10) : UInt8.ofNat (48 + d) ≠ 44 ∧ UInt8.ofNat (48 + d) ≠ 58 ∧ UInt8.ofNat (48 + d) ≠ 45 := by
  have e := ofNat_digit d h
  refine ⟨fun h2 => ?_, fun h2 => ?_, fun h2 => ?_⟩
  · rw [h2] at e; have : (44 : UInt8).toNat = 44 := rfl; omega
  · rw [h2] at e; have : (58 : UInt8).toNat = 58 := rfl; omega
  · rw [h2] at e; have : (45 : UInt8).toNat = 45 := rfl; omega
theorem dec_mem : ∀ (n u : Nat), u ≤ n → ∀ c ∈ Lib.decDigits u, c ≠ 44 ∧ c ≠ 58 ∧ c ≠ 45
  | n, u, h => by
    rw [Lib.decDigits]
    split
    · rename_i h1; intro c hc; simp only [List.mem_singleton] at hc; subst hc; exact digit_ne u h1
    · rename_i h1
      match n, h with
      | 0, h => omega
      | n + 1, h =>
        intro c hc
        rw [List.mem_append] at hc
        rcases hc with hc | hc
        · exact dec_mem n (u / 10) (by omega) c hc
        · simp only [List.mem_singleton] at hc; subst hc; exact digit_ne _ (by omega)
theorem dec_noMark (u : Nat) : noMark (Lib.decDigits u) := fun c hc => ⟨(dec_mem u u (Nat.le_refl _) c hc).1, (dec_mem u u (Nat.le_refl _) c hc).2.1⟩
theorem itoa_noMark (x : Int) : noMark (Lib.itoa x) := by
  unfold Lib.itoa
  split
  · intro c hc
    rcases List.mem_cons.1 hc with rfl | hc
    · decide
    · exact dec_noMark _ c hc
  · exact dec_noMark _
theorem dec_ne_nil (u : Nat) : Lib.decDigits u ≠ [] := by rw [Lib.decDigits]; split <;> simp
theorem itoa_inj {x y : Int} (h : Lib.itoa x = Lib.itoa y) : x = y := by
  unfold Lib.itoa at h
  by_cases h1 : x < 0 <;> by_cases h2 : y < 0
  · rw [if_pos h1, if_pos h2] at h; have := decDigits_inj (List.cons.inj h).2; omega
  · rw [if_pos h1, if_neg h2] at h
    have := (dec_mem y.toNat y.toNat (Nat.le_refl _) 45 (by rw [← h]; simp)).2.2
    exact absurd rfl this
  · rw [if_neg h1, if_pos h2] at h
    have := (dec_mem x.toNat x.toNat (Nat.le_refl _) 45 (by rw [h]; simp)).2.2
    exact absurd rfl this
  · rw [if_neg h1, if_neg h2] at h; have := decDigits_inj h; omega

/-- Text up to the first mark. -/
theorem cut_mark : ∀ (p q : List UInt8) (c d : UInt8) (r s : List UInt8), noMark p → noMark q → (c = 44 ∨ c = 58) → (d = 44 ∨ d = 58) → p ++ c :: r = q ++ d :: s → p = q ∧ c = d ∧ r = s
  | [], [], c, d, r, s, _, _, _, _, h => by simp at h; exact ⟨rfl, h⟩
  | [], y :: q, c, d, r, s, _, hq, hc, _, h => by
    simp at h
    have := hq y (by simp)
    rcases hc with e | e <;> (rw [e] at h; exact absurd h.1.symm (by first | exact this.1 | exact this.2))
  | x :: p, [], c, d, r, s, hp, _, _, hd, h => by
    simp at h
    have := hp x (by simp)
    rcases hd with e | e <;> (rw [e] at h; exact absurd h.1 (by first | exact this.1 | exact this.2))
  | x :: p, y :: q, c, d, r, s, hp, hq, hc, hd, h => by
    simp only [List.cons_append, List.cons.injEq] at h
    obtain ⟨h1, h2, h3⟩ := cut_mark p q c d r s (fun c hc => hp c (by simp [hc])) (fun c hc => hq c (by simp [hc])) hc hd h.2
    exact ⟨by rw [h.1, h1], h2, h3⟩

theorem keyArgs_cons (a : Int) (l : List Int) : keyArgs (a :: l) = 44 :: (Lib.itoa a ++ keyArgs l) := by simp [keyArgs]
theorem tail_mark (l : List Int) (s : List UInt8) : ∃ c r, (c = 44 ∨ c = 58) ∧ keyArgs l ++ 58 :: s = c :: r := by
  cases l with
  | nil => exact ⟨58, s, .inr rfl, rfl⟩
  | cons a l => exact ⟨44, _, .inl rfl, by rw [keyArgs_cons]; rfl⟩
theorem tail_inj : ∀ (l m : List Int) (s t : List UInt8), keyArgs l ++ 58 :: s = keyArgs m ++ 58 :: t → l = m ∧ s = t
  | [], [], s, t, h => by simp [keyArgs] at h; exact ⟨rfl, h⟩
  | [], b :: m, s, t, h => by rw [keyArgs_cons] at h; simp [keyArgs] at h
  | a :: l, [], s, t, h => by rw [keyArgs_cons] at h; simp [keyArgs] at h
  | a :: l, b :: m, s, t, h => by
    rw [keyArgs_cons, keyArgs_cons] at h
    simp only [List.cons_append, List.cons.injEq, true_and, List.append_assoc] at h
    obtain ⟨c, r, hc, e1⟩ := tail_mark l s
    obtain ⟨d, q, hd, e2⟩ := tail_mark m t
    rw [e1, e2] at h
    obtain ⟨h1, h2, h3⟩ := cut_mark _ _ c d r q (itoa_noMark a) (itoa_noMark b) hc hd h
    have h4 : keyArgs l ++ 58 :: s = keyArgs m ++ 58 :: t := by rw [e1, e2, h2, h3]
    obtain ⟨h5, h6⟩ := tail_inj l m s t h4
    exact ⟨by rw [itoa_inj h1, h5], h6⟩

theorem keyL_eq (n : Node) : keyL n = Lib.itoa n.op ++ 44 :: (Lib.itoa n.width ++ 44 :: (Lib.decDigits n.val.toNat ++ (keyArgs n.args ++ 58 :: n.name.data.toList))) := by simp [keyL]

theorem keyL_inj {a b : Node} (ha : NodeOk a) (hb : NodeOk b) (h : keyL a = keyL b) : a = b := by
  rw [keyL_eq, keyL_eq] at h
  obtain ⟨h1, _, h⟩ := cut_mark _ _ 44 44 _ _ (itoa_noMark _) (itoa_noMark _) (.inl rfl) (.inl rfl) h
  obtain ⟨h2, _, h⟩ := cut_mark _ _ 44 44 _ _ (itoa_noMark _) (itoa_noMark _) (.inl rfl) (.inl rfl) h
  obtain ⟨c, r, hc, e1⟩ := tail_mark a.args a.name.data.toList
  obtain ⟨d, q, hd, e2⟩ := tail_mark b.args b.name.data.toList
  rw [e1, e2] at h
  obtain ⟨h3, h4, h5⟩ := cut_mark _ _ c d r q (dec_noMark _) (dec_noMark _) hc hd h
  obtain ⟨h6, h7⟩ := tail_inj a.args b.args a.name.data.toList b.name.data.toList (by rw [e1, e2, h4, h5])
  refine node_ext (itoa_inj h1) (itoa_inj h2) ?_ ?_ h6
  · have := decDigits_inj h3; have := ha.val.1; have := hb.val.1; omega
  · exact toList_inj (by rw [toList_data, toList_data]; exact h7)
theorem keyB_inj {a b : Node} (ha : NodeOk a) (hb : NodeOk b) : keyB a = keyB b ↔ a = b := by
  constructor
  · intro h
    refine keyL_inj ha hb ?_
    have := congrArg (fun s : ByteArray => s.data.toList) h
    simpa [keyB] using this
  · rintro rfl; rfl

end Go.Proofs.YtndfncaoejbkiaaGreatDoor
end
section
/- hashcons.Table: what it holds, and the walks of New, made, Len, Get. -/
namespace Go.Proofs.YtndfncaoejbkiaaGreatDoor
open Go.RowKit
set_option maxRecDepth 100000

/-- An entry of a table: a node, the slice that holds its args, an id. -/
structure TEnt where
  node : Node
  sl : Value
  id : Int

def entV (x : TEnt) : Value := .agg #[.int .i64 x.node.op, .int .i64 x.node.width, .int .u64 x.node.val, .string x.node.name, x.sl, .int .i64 x.id]
def entP (x : TEnt) : ByteArray × Value := (keyB x.node, entV x)

/-- Block bt is a table whose map is block bm, with the entries l; their args lie outside M. -/
structure TableAt (M : Nat → Prop) (w : World) (bt bm : Nat) (l : List TEnt) : Prop where
  head : w.heap[bt]? = some (.cells #[.map (some bm)] 138 (0, 0))
  map : MapIs .string Value.string w bm (l.map entP)
  ents : ∀ x ∈ l, RdI M w x.sl x.node.args ∧ NodeOk x.node ∧ NodeSm x.node

theorem TableAt.fr {M N : Nat → Prop} {w w' : World} {bt bm : Nat} {l : List TEnt} (h : TableAt M w bt bm l) (hf : Fr N w w') (h1 : ¬ N bt) (h2 : ¬ N bm) (hm : ∀ k, k < w.heap.size → N k → M k) : TableAt M w' bt bm l :=
  ⟨hf.at h1 h.head, h.map.fr hf h2, fun x hx => ⟨(h.ents x hx).1.fr hf hm, (h.ents x hx).2⟩⟩
theorem TableAt.cell {M : Nat → Prop} {w : World} {bt bm : Nat} {l : List TEnt} (h : TableAt M w bt bm l) : w.cell? ⟨bt, 0, none⟩ = some (.map (some bm)) := by simp [World.cell?, h.head]
theorem TableAt.lt {M : Nat → Prop} {w : World} {bt bm : Nat} {l : List TEnt} (h : TableAt M w bt bm l) : bt < w.heap.size := (Array.getElem?_eq_some_iff.1 h.head).1

/-- The id of a node. -/
def tget (l : List TEnt) (n : Node) : Option TEnt := l.find? (fun x => decide (nodeCmp x.node n = 0))

theorem mget_ent (n : Node) (hn : NodeOk n) : ∀ (l : List TEnt), (∀ x ∈ l, NodeOk x.node) → mget (l.map entP) (keyB n) = (tget l n).map entV
  | [], _ => rfl
  | x :: l, h => by
    have ih := mget_ent n hn l (fun y hy => h y (by simp [hy]))
    unfold mget tget at *
    by_cases e : x.node = n
    · have e1 : nodeCmp x.node n = 0 := nodeCmp_zero.2 e
      have e2 : (entP x).1 = keyB n := by rw [entP, e]
      simp only [List.map_cons, List.find?_cons, e1, e2, decide_true]
      rfl
    · have e1 : ¬ nodeCmp x.node n = 0 := fun h => e (nodeCmp_zero.1 h)
      have e2 : ¬ (entP x).1 = keyB n := fun h2 => e ((keyB_inj (h x (by simp)) hn).1 h2)
      simp only [List.map_cons, List.find?_cons, e1, e2, decide_false]
      exact ih

theorem new_any (w : World) : Calls Tryz.prog 62 #[] w fun e w' => ∃ bm bt, e = .returned (.pointer (some ⟨bt, 0, none⟩)) ∧ w.heap.size ≤ bm ∧ w.heap.size ≤ bt ∧ bm ≠ bt ∧ (∀ M, TableAt M w' bt bm []) ∧ Fr NoB w w' := by
  have hmm := @run_makeMap Tryz.prog
  go_enter Tryz.func62, Tryz.ntmps62
  go_wp2
  go_ret
  refine ⟨w.heap.size, w.heap.size + 1, rfl, Nat.le_refl _, by omega, by omega, fun M => ⟨at_new' (by simp), (MapIs.new .string Value.string w).fr ((Fr.refl NoB _).alloc _) (fun h => h), fun x hx => by cases hx⟩, ((Fr.refl NoB w).alloc _).alloc _⟩

theorem neqMapNil (w : World) (r : Option Nat) : (binOp .neq 136 (.map r) (.map none)).run Tryz.prog w = .ok (.bool (!r.isNone)) w :=
  run_neq_map_nil w 136 9 143 r Tryz.underlying136
theorem neqPtrNil (w : World) (r : Option Addr) : (binOp .neq 83 (.pointer r) (.pointer none)).run Tryz.prog w = .ok (.bool (!r.isNone)) w := by
  cases r <;> kernel_rfl

theorem made_any (M : Nat → Prop) (w : World) (bt bm : Nat) (l : List TEnt) (h : TableAt M w bt bm l) : Calls Tryz.prog 84 #[.pointer (some ⟨bt, 0, none⟩)] w fun e w' => e = .returned (.bool true) ∧ w' = w := by
  have hc := h.cell
  clear h
  have qm := neqMapNil
  have qp := neqPtrNil
  go_enter Tryz.func84, Tryz.ntmps84
  go_wp2
  go_ret
  exact ⟨rfl, rfl⟩

theorem made_nil (w : World) : Calls Tryz.prog 84 #[.pointer none] w fun e w' => e = .returned (.bool false) ∧ w' = w := by
  have qm := neqMapNil
  have qp := neqPtrNil
  go_enter Tryz.func84, Tryz.ntmps84
  go_wp2
  go_ret
  exact ⟨rfl, rfl⟩

theorem made_zero (w : World) (bt : Nat) (hc : w.cell? ⟨bt, 0, none⟩ = some (.map none)) : Calls Tryz.prog 84 #[.pointer (some ⟨bt, 0, none⟩)] w fun e w' => e = .returned (.bool false) ∧ w' = w := by
  have qm := neqMapNil
  have qp := neqPtrNil
  go_enter Tryz.func84, Tryz.ntmps84
  go_wp2
  go_ret
  exact ⟨rfl, rfl⟩

theorem MapIs.len {κ : Type} [DecidableEq κ] {d : TypeDesc} {mk : κ → Value} {w : World} {b : Nat} {m : List (κ × Value)} (h : MapIs d mk w b m) {P : Program} {t kt e : TypeId} (ht : P.underlying t = some (.map kt e)) (ty : TypeId) :
    (Builtin.len_ #[t] ty #[.map (some b)]).run P w = .ok (.int .i64 m.length) w := by
  obtain ⟨es, clock, hb, hm, _⟩ := h
  have hs : es.size = m.length := by have := congrArg List.length hm; simpa using this
  simp [Builtin.len_, run_underlying ht, MapKept.run_getObj_map hb, Result.andThen, goInt, hs]

end Go.Proofs.YtndfncaoejbkiaaGreatDoor
end
section
/- Plain law: roots of a forest and labels tell the same classes. -/
namespace Go.Proofs.YtndfncaoejbkiaaGreatDoor
open Go.RowKit
set_option maxRecDepth 100000

def PR (r : Int → Int) (lab : List Int) : Prop := ∀ a b : Int, 0 ≤ a → a < lab.length → 0 ≤ b → b < lab.length → (r a = r b ↔ lab.getD a.toNat 0 = lab.getD b.toNat 0)
theorem lbInit_get {n : Nat} {x : Int} (h0 : 0 ≤ x) (h1 : x < n) : (lbInit n).getD x.toNat 0 = x := by
  unfold lbInit
  rw [List.getD_eq_getElem?_getD, List.getElem?_map, List.getElem?_range (by omega)]
  simp; omega
theorem PR.init (n : Nat) : PR (fun x => x) (lbInit n) := by
  intro a b h0 h1 h2 h3
  rw [lbInit_length] at h1 h3
  rw [lbInit_get h0 h1, lbInit_get h2 h3]
theorem lbMerge_get {l : List Int} {i : Nat} (h : i < l.length) (a b : Int) : (lbMerge l a b).getD i 0 = if l.getD i 0 = max a b then min a b else l.getD i 0 := by
  unfold lbMerge
  rw [List.getD_eq_getElem?_getD, List.getElem?_map, List.getD_eq_getElem?_getD, List.getElem?_eq_getElem h]
  rfl
theorem lbMerge_length (l : List Int) (a b : Int) : (lbMerge l a b).length = l.length := by simp [lbMerge]
theorem lbMerge_self (l : List Int) (a : Int) : lbMerge l a a = l := by
  unfold lbMerge
  conv => rhs; rw [← List.map_id l]
  apply List.map_congr_left
  intro y _
  by_cases h : y = max a a
  · rw [if_pos h, h]; simp
  · rw [if_neg h]; rfl
theorem PR.same {r : Int → Int} {lab : List Int} (h : PR r lab) {x y : Int} (hx : 0 ≤ x ∧ x < lab.length) (hy : 0 ≤ y ∧ y < lab.length) (he : r x = r y) : lbMerge lab (lab.getD x.toNat 0) (lab.getD y.toNat 0) = lab := by
  rw [(h x y hx.1 hx.2 hy.1 hy.2).1 he, lbMerge_self]
theorem PR.join {r : Int → Int} {lab : List Int} (h : PR r lab) {x y : Int} (hx : 0 ≤ x ∧ x < lab.length) (hy : 0 ≤ y ∧ y < lab.length) (hn : r x ≠ r y) :
    PR (fun k => if r k = r x then r y else r k) (lbMerge lab (lab.getD x.toNat 0) (lab.getD y.toNat 0)) := by
  intro a b h0 h1 h2 h3
  rw [lbMerge_length] at h1 h3
  rw [lbMerge_get (by omega), lbMerge_get (by omega)]
  have e1 := h a b h0 h1 h2 h3
  have e2 := h a x h0 h1 hx.1 hx.2
  have e3 := h a y h0 h1 hy.1 hy.2
  have e4 := h b x h2 h3 hx.1 hx.2
  have e5 := h b y h2 h3 hy.1 hy.2
  have e6 := h x y hx.1 hx.2 hy.1 hy.2
  generalize lab.getD a.toNat 0 = la at *
  generalize lab.getD b.toNat 0 = lb at *
  generalize lab.getD x.toNat 0 = lx at *
  generalize lab.getD y.toNat 0 = ly at *
  simp only
  generalize r a = ra at *
  generalize r b = rb at *
  generalize r x = rx at *
  generalize r y = ry at *
  by_cases c1 : ra = rx <;> by_cases c2 : rb = rx <;> rcases Int.lt_or_le lx ly with c3 | c3
  all_goals (first | rw [if_pos c1] | rw [if_neg c1])
  all_goals (first | rw [if_pos c2] | rw [if_neg c2])
  all_goals (by_cases c4 : la = max lx ly <;> by_cases c5 : lb = max lx ly)
  all_goals (first | rw [if_pos c4] | rw [if_neg c4])
  all_goals (first | rw [if_pos c5] | rw [if_neg c5])
  all_goals omega
/-- One more link. -/
def rStep (m : Nat) (r : Int → Int) (x : Lnk) : Int → Int := if lbIn m x = true ∧ r x.a ≠ r x.b then (fun k => if r k = r x.a then r x.b else r k) else r
theorem PR.step {r : Int → Int} {lab : List Int} {m : Nat} (h : PR r lab) (hl : lab.length = m) (x : Lnk) : PR (rStep m r x) (lbStep m lab x) := by
  unfold rStep lbStep
  by_cases hin : lbIn m x = true
  · rw [if_pos hin]
    have hh := hin
    unfold lbIn at hh
    simp only [decide_eq_true_eq] at hh
    by_cases hr : r x.a = r x.b
    · rw [if_neg (fun h => h.2 hr), h.same ⟨hh.1, by omega⟩ ⟨hh.2.1, by omega⟩ hr]
      exact h
    · rw [if_pos ⟨hin, hr⟩]
      exact h.join ⟨hh.1, by omega⟩ ⟨hh.2.1, by omega⟩ hr
  · rw [if_neg hin, if_neg (fun h => hin h.1)]
    exact h
/-- The kind of a link, by the forest. -/
theorem lkBad_of {ns : List Node} {lk : List Lnk} {i : Nat} {x : Lnk} {r : Int → Int} (hx : lk[i]? = some x) (h : PR r (lbAt ns.length lk i)) :
    lkBad ns lk i = if lbIn ns.length x = false then 5 else if r x.a = r x.b then 6 else if wAt ns x.a ≠ wAt ns x.b then 7 else 0 := by
  unfold lkBad
  rw [hx]
  simp only [Option.elim_some]
  by_cases hin : lbIn ns.length x = false
  · rw [if_pos hin, if_pos hin]
  · rw [if_neg hin, if_neg hin]
    have hh : lbIn ns.length x = true := by simpa using hin
    unfold lbIn at hh
    simp only [decide_eq_true_eq] at hh
    have e := h x.a x.b hh.1 (by rw [lbAt_length]; omega) hh.2.1 (by rw [lbAt_length]; omega)
    by_cases c : r x.a = r x.b
    · rw [if_pos (e.1 c), if_pos c]
    · rw [if_neg (fun h => c (e.2 h)), if_neg c]
/-- A row of ints while it is filled. -/
def fillI (P : Nat → Int) (k n : Nat) : List Int := (List.range k).map P ++ List.replicate (n - k) 0
theorem fillI_len (P : Nat → Int) {k n : Nat} (h : k ≤ n) : (fillI P k n).length = n := by simp [fillI]; omega
theorem fillI_on {P : Nat → Int} {k n : Nat} (h : k < n) {v : Int} (hp : P k = v) : (fillI P k n).set k v = fillI P (k + 1) n := by
  unfold fillI
  rw [List.range_succ, List.map_append, List.set_append_right _ _ (by simp)]
  simp only [List.length_map, List.length_range, Nat.sub_self, List.map_cons, List.map_nil, List.append_assoc, hp]
  congr 1
  rw [show n - k = (n - (k + 1)) + 1 by omega, List.replicate_succ]
  rfl
theorem fillI_off {P : Nat → Int} {k n : Nat} (h : k < n) (hp : P k = 0) : fillI P k n = fillI P (k + 1) n := by
  unfold fillI
  rw [List.range_succ, List.map_append, List.append_assoc]
  congr 1
  rw [show n - k = (n - (k + 1)) + 1 by omega, List.replicate_succ]
  simp [hp]
theorem fillI_all (P : Nat → Int) (n : Nat) : fillI P n n = (List.range n).map P := by simp [fillI]
end Go.Proofs.YtndfncaoejbkiaaGreatDoor
end
section
/- Plain law: a search from each node finds the labels. -/
namespace Go.Proofs.YtndfncaoejbkiaaGreatDoor
open Go.RowKit
set_option maxRecDepth 100000

structure LabOk (n : Nat) (ls : List Lnk) (f : Int → Int) : Prop where
  rng : ∀ v : Int, 0 ≤ v → v < n → 0 ≤ f v ∧ f v ≤ v
  idm : ∀ v : Int, 0 ≤ v → v < n → f (f v) = f v
  lnk : ∀ x ∈ ls, lbIn n x = true → f x.a = f x.b
  cls : ∀ S : Int → Prop, (∀ x ∈ ls, lbIn n x = true → (S x.a ↔ S x.b)) → ∀ u v : Int, 0 ≤ u → u < n → 0 ≤ v → v < n → f u = f v → (S u ↔ S v)
def fStep (n : Nat) (f : Int → Int) (x : Lnk) : Int → Int := if lbIn n x = true then fun v => if f v = max (f x.a) (f x.b) then min (f x.a) (f x.b) else f v else f
theorem lbIn_iff {n : Nat} {x : Lnk} : lbIn n x = true ↔ 0 ≤ x.a ∧ 0 ≤ x.b ∧ x.a < n ∧ x.b < n := by unfold lbIn; simp
theorem LabOk.init (n : Nat) : LabOk n [] (fun v => v) :=
  ⟨fun v h0 _ => ⟨h0, Int.le_refl _⟩, fun _ _ _ => rfl, fun x hx => (by cases hx), fun S _ u v _ _ _ _ e => by rw [e]⟩
theorem LabOk.step {n : Nat} {ls : List Lnk} {f : Int → Int} (h : LabOk n ls f) (x : Lnk) : LabOk n (ls ++ [x]) (fStep n f x) := by
  unfold fStep
  by_cases hin : lbIn n x = true
  · rw [if_pos hin]
    obtain ⟨a0, b0, a1, b1⟩ := lbIn_iff.1 hin
    have ra := h.rng x.a a0 a1
    have rb := h.rng x.b b0 b1
    have ia := h.idm x.a a0 a1
    have ib := h.idm x.b b0 b1
    refine ⟨fun v h0 h1 => ?_, fun v h0 h1 => ?_, fun y hy hyin => ?_, fun S hS u v u0 u1 v0 v1 e => ?_⟩
    · have := h.rng v h0 h1
      by_cases c : f v = max (f x.a) (f x.b)
      · rw [if_pos c]; omega
      · rw [if_neg c]; omega
    · have hv := h.idm v h0 h1
      by_cases c : f v = max (f x.a) (f x.b)
      · rw [if_pos c]
        have hm : f (min (f x.a) (f x.b)) = min (f x.a) (f x.b) := by
          rcases Int.le_total (f x.a) (f x.b) with c2 | c2
          · rw [Int.min_eq_left c2]; exact ia
          · rw [Int.min_eq_right c2]; exact ib
        rw [hm]
        split <;> omega
      · rw [if_neg c, hv, if_neg c]
    · rw [List.mem_append, List.mem_singleton] at hy
      rcases hy with hy | rfl
      · have := h.lnk y hy hyin
        simp only [this]
      · by_cases c1 : f y.a = max (f y.a) (f y.b)
        · rw [if_pos c1]
          by_cases c2 : f y.b = max (f y.a) (f y.b)
          · rw [if_pos c2]
          · rw [if_neg c2]; omega
        · rw [if_neg c1]
          by_cases c2 : f y.b = max (f y.a) (f y.b)
          · rw [if_pos c2]; omega
          · rw [if_neg c2]; omega
    · have key := h.cls S (fun y hy hyin => hS y (List.mem_append_left _ hy) hyin)
      have hx := hS x (List.mem_append_right _ (List.mem_singleton.2 rfl)) hin
      have kab : f x.a = f x.b → True := fun _ => trivial
      have e1 := key u v u0 u1 v0 v1
      have e2 := key u x.a u0 u1 a0 a1
      have e3 := key u x.b u0 u1 b0 b1
      have e4 := key v x.a v0 v1 a0 a1
      have e5 := key v x.b v0 v1 b0 b1
      by_cases c1 : f u = max (f x.a) (f x.b)
      · rw [if_pos c1] at e
        by_cases c2 : f v = max (f x.a) (f x.b)
        · exact e1 (by omega)
        · rw [if_neg c2] at e
          rcases Int.le_total (f x.a) (f x.b) with c3 | c3
          · rw [e3 (by omega), e4 (by omega)]; exact hx.symm
          · rw [e2 (by omega), e5 (by omega)]; exact hx
      · rw [if_neg c1] at e
        by_cases c2 : f v = max (f x.a) (f x.b)
        · rw [if_pos c2] at e
          rcases Int.le_total (f x.a) (f x.b) with c3 | c3
          · rw [e2 (by omega), e5 (by omega)]; exact hx
          · rw [e3 (by omega), e4 (by omega)]; exact hx.symm
        · rw [if_neg c2] at e
          exact e1 e
  · rw [if_neg hin]
    refine ⟨h.rng, h.idm, fun y hy hyin => ?_, fun S hS => h.cls S (fun y hy => hS y (List.mem_append_left _ hy))⟩
    rw [List.mem_append, List.mem_singleton] at hy
    rcases hy with hy | rfl
    · exact h.lnk y hy hyin
    · exact absurd hyin hin
theorem LabOk.congr {n : Nat} {ls : List Lnk} {f g : Int → Int} (h : LabOk n ls f) (e : ∀ v : Int, 0 ≤ v → v < n → g v = f v) : LabOk n ls g := by
  have hr : ∀ v : Int, 0 ≤ v → v < n → 0 ≤ f v ∧ f v < n := fun v h0 h1 => by have := h.rng v h0 h1; omega
  refine ⟨fun v h0 h1 => by rw [e v h0 h1]; exact h.rng v h0 h1, fun v h0 h1 => ?_, fun x hx hin => ?_, fun S hS u v u0 u1 v0 v1 c => ?_⟩
  · rw [e v h0 h1, e _ (hr v h0 h1).1 (hr v h0 h1).2]; exact h.idm v h0 h1
  · obtain ⟨a0, b0, a1, b1⟩ := lbIn_iff.1 hin
    rw [e _ a0 a1, e _ b0 b1]; exact h.lnk x hx hin
  · rw [e u u0 u1, e v v0 v1] at c
    exact h.cls S hS u v u0 u1 v0 v1 c
theorem labOk_at (n : Nat) (lk : List Lnk) : ∀ k, k ≤ lk.length → LabOk n (lk.take k) (fun v => (lbAt n lk k).getD v.toNat 0)
  | 0, _ => (LabOk.init n).congr (fun v h0 h1 => by show (lbInit n).getD v.toNat 0 = v; exact lbInit_get h0 h1)
  | k + 1, hk => by
    have ih := labOk_at n lk k (by omega)
    have hlt : k < lk.length := by omega
    rw [List.take_add_one, List.getElem?_eq_getElem hlt]
    refine (ih.step lk[k]).congr (fun v h0 h1 => ?_)
    rw [lbAt_succ _ _ hlt]
    unfold lbStep fStep
    by_cases hin : lbIn n lk[k] = true
    · rw [if_pos hin, if_pos hin, lbMerge_get (by rw [lbAt_length]; omega)]
    · rw [if_neg hin, if_neg hin]

/-- The neighbours of the ids. -/
def adjStep (n : Nat) (nl : Int → List Int) (x : Lnk) : Int → List Int := if lbIn n x = true then fun v => if v = x.b then (if x.b = x.a then nl x.a ++ [x.b] else nl x.b) ++ [x.a] else if v = x.a then nl x.a ++ [x.b] else nl v else nl
def adjAt (n : Nat) (lk : List Lnk) (k : Nat) : Int → List Int := (lk.take k).foldl (adjStep n) (fun _ => [])
theorem adjAt_succ (n : Nat) (lk : List Lnk) {k : Nat} (hk : k < lk.length) : adjAt n lk (k + 1) = adjStep n (adjAt n lk k) lk[k] := by
  unfold adjAt
  rw [List.take_add_one, List.getElem?_eq_getElem hk, List.foldl_append]; rfl
theorem adj_mem (n : Nat) (lk : List Lnk) : ∀ k, k ≤ lk.length → ∀ v y, y ∈ adjAt n lk k v ↔ ∃ x ∈ lk.take k, lbIn n x = true ∧ ((x.a = v ∧ y = x.b) ∨ (x.b = v ∧ y = x.a))
  | 0, _, v, y => by simp [adjAt]
  | k + 1, hk, v, y => by
    have ih := adj_mem n lk k (by omega)
    have hlt : k < lk.length := by omega
    rw [adjAt_succ _ _ hlt, List.take_add_one, List.getElem?_eq_getElem hlt]
    generalize lk[k] = x
    have hsplit : (∃ z ∈ lk.take k ++ (some x).toList, lbIn n z = true ∧ ((z.a = v ∧ y = z.b) ∨ (z.b = v ∧ y = z.a))) ↔ (y ∈ adjAt n lk k v ∨ (lbIn n x = true ∧ ((x.a = v ∧ y = x.b) ∨ (x.b = v ∧ y = x.a)))) := by
      rw [ih v y]
      simp only [Option.toList_some, List.mem_append, List.mem_singleton]
      constructor
      · rintro ⟨z, hz | rfl, h⟩
        · exact .inl ⟨z, hz, h⟩
        · exact .inr h
      · rintro (⟨z, hz, h⟩ | h)
        · exact ⟨z, .inl hz, h⟩
        · exact ⟨x, .inr rfl, h⟩
    rw [hsplit]
    unfold adjStep
    by_cases hin : lbIn n x = true
    · rw [if_pos hin]
      by_cases c1 : v = x.b
      · subst c1
        rw [if_pos rfl]
        by_cases c2 : x.b = x.a
        · rw [if_pos c2, ← c2]; simp [hin] <;> try grind
        · rw [if_neg c2]; simp [hin] <;> try grind
      · rw [if_neg c1]
        by_cases c2 : v = x.a
        · subst c2; rw [if_pos rfl]; simp [hin] <;> try grind
        · rw [if_neg c2]; simp <;> try grind
    · rw [if_neg hin]; simp [hin]
theorem adj_len (n : Nat) (lk : List Lnk) : ∀ k, k ≤ lk.length → ∀ v, (adjAt n lk k v).length ≤ 2 * k
  | 0, _, v => by simp [adjAt]
  | k + 1, hk, v => by
    have ih := adj_len n lk k (by omega)
    have hlt : k < lk.length := by omega
    rw [adjAt_succ _ _ hlt]
    unfold adjStep
    have h1 := ih v
    have h2 := ih lk[k].a
    have h3 := ih lk[k].b
    by_cases hin : lbIn n lk[k] = true
    · rw [if_pos hin]
      by_cases c1 : v = lk[k].b
      · rw [if_pos c1]
        by_cases c2 : lk[k].b = lk[k].a
        · rw [if_pos c2, List.length_append, List.length_append, List.length_singleton, List.length_singleton]; omega
        · rw [if_neg c2, List.length_append, List.length_singleton]; omega
      · rw [if_neg c1]
        by_cases c2 : v = lk[k].a
        · rw [if_pos c2, List.length_append, List.length_singleton]; omega
        · rw [if_neg c2]; omega
    · rw [if_neg hin]; omega

/-- Between two searches. -/
structure OutI (n : Nat) (f : Int → Int) (i : Int) (rt : List Int) : Prop where
  len : rt.length = n
  done : ∀ v : Int, 0 ≤ v → v < n → f v < i → rt.getD v.toNat 0 = f v
  rest : ∀ v : Int, 0 ≤ v → v < n → ¬ f v < i → rt.getD v.toNat 0 = -1
/-- In a search from i: the ids of todo are still to be looked at, of the id 'x' the first q neighbours have been. -/
structure InI (n : Nat) (f : Int → Int) (nl : Int → List Int) (i : Int) (rt todo : List Int) (x : Int) (q : Nat) : Prop where
  len : rt.length = n
  ri : 0 ≤ i ∧ i < n ∧ f i = i ∧ rt.getD i.toNat 0 = i
  done : ∀ v : Int, 0 ≤ v → v < n → f v < i → rt.getD v.toNat 0 = f v
  val : ∀ v : Int, 0 ≤ v → v < n → rt.getD v.toNat 0 = -1 ∨ (rt.getD v.toNat 0 = f v ∧ f v ≤ i)
  tds : ∀ t ∈ todo, 0 ≤ t ∧ t < n ∧ f t = i ∧ rt.getD t.toNat 0 = i
  clos : ∀ v : Int, 0 ≤ v → v < n → rt.getD v.toNat 0 = i → v ∉ todo → (v = x → ∀ y ∈ (nl v).take q, rt.getD y.toNat 0 = i) ∧ (v ≠ x → ∀ y ∈ nl v, rt.getD y.toNat 0 = i)
theorem getD_set' (l : List Int) (i j : Nat) (v : Int) (hi : i < l.length) : (l.set i v).getD j 0 = if j = i then v else l.getD j 0 := by
  rw [List.getD_eq_getElem?_getD, List.getElem?_set]
  by_cases h : i = j
  · subst h; simp [hi]
  · rw [if_neg h, if_neg (fun e => h e.symm), List.getD_eq_getElem?_getD]
section
variable {n : Nat} {lk : List Lnk} {f : Int → Int} {nl : Int → List Int} {i x y : Int} {rt todo : List Int} {q : Nat}
theorem OutI.init (n : Nat) {f : Int → Int} (hf : ∀ v : Int, 0 ≤ v → v < n → 0 ≤ f v) : OutI n f 0 (List.replicate n (-1)) :=
  ⟨by simp, fun v h0 h1 h2 => by have := hf v h0 h1; omega, fun v h0 h1 _ => by rw [List.getD_eq_getElem?_getD, List.getElem?_replicate, if_pos (by omega)]; rfl⟩
theorem OutI.skip (hf : LabOk n lk f) (h : OutI n f i rt) (h0 : 0 ≤ i) (h1 : i < n) (hr : 0 ≤ rt.getD i.toNat 0) : OutI n f (i + 1) rt := by
  have hi : f i < i := by
    by_cases c : f i < i
    · exact c
    · have := h.rest i h0 h1 c; omega
  refine ⟨h.len, fun v v0 v1 c => ?_, fun v v0 v1 c => h.rest v v0 v1 (by omega)⟩
  have hid := hf.idm v v0 v1
  by_cases c2 : f v < i
  · exact h.done v v0 v1 c2
  · have e : f v = i := by omega
    rw [e] at hid; omega
theorem OutI.start (hf : LabOk n lk f) (h : OutI n f i rt) (h0 : 0 ≤ i) (h1 : i < n) (hr : ¬ 0 ≤ rt.getD i.toNat 0) (x : Int) (q : Nat) : InI n f nl i (rt.set i.toNat i) [i] x q := by
  have hi : ¬ f i < i := fun c => by have := h.done i h0 h1 c; have := hf.rng i h0 h1; omega
  have hfi : f i = i := by have := hf.rng i h0 h1; omega
  have hl : i.toNat < rt.length := by rw [h.len]; omega
  refine ⟨by rw [List.length_set, h.len], ⟨h0, h1, hfi, by rw [getD_set' _ _ _ _ hl, if_pos rfl]⟩, fun v v0 v1 c => ?_, fun v v0 v1 => ?_, fun t ht => ?_, fun v v0 v1 c hv => ?_⟩
  · rw [getD_set' _ _ _ _ hl]
    by_cases e : v.toNat = i.toNat
    · have : v = i := by omega
      subst this; omega
    · rw [if_neg e]; exact h.done v v0 v1 c
  · rw [getD_set' _ _ _ _ hl]
    by_cases e : v.toNat = i.toNat
    · have : v = i := by omega
      subst this; rw [if_pos rfl]; exact .inr ⟨hfi.symm, by omega⟩
    · rw [if_neg e]
      by_cases c : f v < i
      · exact .inr ⟨h.done v v0 v1 c, by omega⟩
      · exact .inl (h.rest v v0 v1 c)
  · obtain rfl : t = i := by simpa using ht
    exact ⟨h0, h1, hfi, by rw [getD_set' _ _ _ _ hl, if_pos rfl]⟩
  · exfalso
    rw [getD_set' _ _ _ _ hl] at c
    by_cases e : v.toNat = i.toNat
    · have : v = i := by omega
      exact hv (by rw [this]; exact List.mem_singleton.2 rfl)
    · rw [if_neg e] at c
      by_cases c2 : f v < i
      · have := h.done v v0 v1 c2; omega
      · have := h.rest v v0 v1 c2; omega
/-- The last of todo is taken. -/
theorem InI.pop (h : InI n f nl i rt (todo ++ [x]) y (nl y).length) : (0 ≤ x ∧ x < n ∧ f x = i) ∧ InI n f nl i rt todo x 0 := by
  have hx := h.tds x (List.mem_append_right _ (List.mem_singleton.2 rfl))
  refine ⟨⟨hx.1, hx.2.1, hx.2.2.1⟩, h.len, h.ri, h.done, h.val, fun t ht => h.tds t (List.mem_append_left _ ht), fun v v0 v1 c hv => ⟨fun _ z hz => (by simp at hz), fun hne z hz => ?_⟩⟩
  have h9 := h.clos v v0 v1 c (fun hm => by
    rw [List.mem_append, List.mem_singleton] at hm
    exact hm.elim hv hne)
  by_cases e : v = y
  · subst e; exact h9.1 rfl z (by rw [List.take_length]; exact hz)
  · exact h9.2 e z hz
/-- A neighbour that is marked already. -/
theorem InI.seen (h : InI n f nl i rt todo x q) (hq : q < (nl x).length) (hy : (nl x).getD q 0 = y) (hf : f y = i) (y0 : 0 ≤ y) (y1 : y < n) (hr : ¬ rt.getD y.toNat 0 < 0) : InI n f nl i rt todo x (q + 1) := by
  refine ⟨h.len, h.ri, h.done, h.val, h.tds, fun v v0 v1 c hv => ⟨fun e z hz => ?_, (h.clos v v0 v1 c hv).2⟩⟩
  subst e
  rw [List.take_add_one, List.mem_append] at hz
  rcases hz with hz | hz
  · exact (h.clos v v0 v1 c hv).1 rfl z hz
  · rw [List.getElem?_eq_getElem hq] at hz
    rw [List.getD_eq_getElem?_getD, List.getElem?_eq_getElem hq] at hy
    simp only [Option.getD_some] at hy
    simp only [Option.toList_some, List.mem_singleton] at hz
    rw [hz, hy]
    have := h.val y y0 y1
    omega
/-- A neighbour that is marked now. -/
theorem InI.mark (h : InI n f nl i rt todo x q) (hq : q < (nl x).length) (hy : (nl x).getD q 0 = y) (hf : f y = i) (y0 : 0 ≤ y) (y1 : y < n) (hr : rt.getD y.toNat 0 < 0) : InI n f nl i (rt.set y.toNat i) (todo ++ [y]) x (q + 1) := by
  have hl : y.toNat < rt.length := by rw [h.len]; omega
  have hri := h.ri
  refine ⟨by rw [List.length_set, h.len], ⟨hri.1, hri.2.1, hri.2.2.1, ?_⟩, fun v v0 v1 c => ?_, fun v v0 v1 => ?_, fun t ht => ?_, fun v v0 v1 c hv => ⟨fun e z hz => ?_, fun hne z hz => ?_⟩⟩
  · rw [getD_set' _ _ _ _ hl]
    split
    · rfl
    · exact hri.2.2.2
  · rw [getD_set' _ _ _ _ hl]
    by_cases e : v.toNat = y.toNat
    · have : v = y := by omega
      subst this; omega
    · rw [if_neg e]; exact h.done v v0 v1 c
  · rw [getD_set' _ _ _ _ hl]
    by_cases e : v.toNat = y.toNat
    · have : v = y := by omega
      subst this; rw [if_pos rfl]; exact .inr ⟨hf.symm, by omega⟩
    · rw [if_neg e]; exact h.val v v0 v1
  · rw [getD_set' _ _ _ _ hl]
    rw [List.mem_append, List.mem_singleton] at ht
    rcases ht with ht | rfl
    · have := h.tds t ht
      refine ⟨this.1, this.2.1, this.2.2.1, ?_⟩
      split
      · rfl
      · exact this.2.2.2
    · exact ⟨y0, y1, hf, by rw [if_pos rfl]⟩
  · rw [getD_set' _ _ _ _ hl] at c
    have hvy : v ≠ y := fun e2 => hv (by rw [e2]; exact List.mem_append_right _ (List.mem_singleton.2 rfl))
    have hvn : ¬ v.toNat = y.toNat := fun e2 => hvy (by omega)
    rw [if_neg hvn] at c
    have h9 := h.clos v v0 v1 c (fun hm => hv (List.mem_append_left _ hm))
    subst e
    rw [List.take_add_one, List.mem_append] at hz
    rw [getD_set' _ _ _ _ hl]
    rcases hz with hz | hz
    · split
      · rfl
      · exact h9.1 rfl z hz
    · rw [List.getElem?_eq_getElem hq] at hz
      rw [List.getD_eq_getElem?_getD, List.getElem?_eq_getElem hq] at hy
      simp only [Option.getD_some] at hy
      simp only [Option.toList_some, List.mem_singleton] at hz
      rw [hz, hy, if_pos rfl]
  · rw [getD_set' _ _ _ _ hl] at c ⊢
    have hvy : v ≠ y := fun e2 => hv (by rw [e2]; exact List.mem_append_right _ (List.mem_singleton.2 rfl))
    have hvn : ¬ v.toNat = y.toNat := fun e2 => hvy (by omega)
    rw [if_neg hvn] at c
    have h9 := h.clos v v0 v1 c (fun hm => hv (List.mem_append_left _ hm))
    split
    · rfl
    · exact h9.2 hne z hz
/-- A search ends. -/
theorem InI.stop (hf : LabOk n lk f) (hadj : ∀ x ∈ lk, lbIn n x = true → x.b ∈ nl x.a ∧ x.a ∈ nl x.b) (h : InI n f nl i rt [] y (nl y).length) : OutI n f (i + 1) rt := by
  obtain ⟨i0, i1, fi, ri⟩ := h.ri
  have clo : ∀ v : Int, 0 ≤ v → v < n → rt.getD v.toNat 0 = i → ∀ z ∈ nl v, rt.getD z.toNat 0 = i := fun v v0 v1 c z hz => by
    have h9 := h.clos v v0 v1 c (by simp)
    by_cases e : v = y
    · subst e; exact h9.1 rfl z (by rw [List.take_length]; exact hz)
    · exact h9.2 e z hz
  have all : ∀ v : Int, 0 ≤ v → v < n → f v = i → rt.getD v.toNat 0 = i := fun v v0 v1 e => by
    have := hf.cls (fun v => rt.getD v.toNat 0 = i) (fun x hx hin => by
      obtain ⟨a0, b0, a1, b1⟩ := lbIn_iff.1 hin
      exact ⟨fun ha => clo _ a0 a1 ha _ (hadj x hx hin).1, fun hb => clo _ b0 b1 hb _ (hadj x hx hin).2⟩) i v i0 i1 v0 v1 (by rw [fi, e])
    exact this.1 ri
  refine ⟨h.len, fun v v0 v1 c => ?_, fun v v0 v1 c => ?_⟩
  · by_cases c2 : f v < i
    · exact h.done v v0 v1 c2
    · have e : f v = i := by omega
      rw [e]; exact all v v0 v1 e
  · rcases h.val v v0 v1 with h9 | ⟨_, h9⟩
    · exact h9
    · omega
theorem OutI.all {lab : List Int} (h : OutI n f n rt) (hf : LabOk n lk f) (hl : lab.length = n) (he : ∀ v : Int, 0 ≤ v → v < n → f v = lab.getD v.toNat 0) : rt = lab := by
  apply List.ext_getElem (by rw [h.len, hl])
  intro j hj hj'
  have hjn : j < n := by rw [h.len] at hj; exact hj
  have h1 := h.done j (by omega) (by omega) (by have := hf.rng j (by omega) (by omega); omega)
  rw [he _ (by omega) (by omega)] at h1
  simp only [Int.toNat_natCast] at h1
  rw [List.getD_eq_getElem?_getD, List.getD_eq_getElem?_getD, List.getElem?_eq_getElem hj, List.getElem?_eq_getElem hj'] at h1
  simpa using h1
end
theorem adj_ok {n : Nat} {lk : List Lnk} {f : Int → Int} (hf : LabOk n lk f) {x y : Int} (h : y ∈ adjAt n lk lk.length x) : 0 ≤ y ∧ y < n ∧ f y = f x := by
  obtain ⟨z, hz, hin, h⟩ := (adj_mem n lk lk.length (Nat.le_refl _) x y).1 h
  rw [List.take_length] at hz
  have e := hf.lnk z hz hin
  obtain ⟨a0, b0, a1, b1⟩ := lbIn_iff.1 hin
  rcases h with ⟨rfl, rfl⟩ | ⟨rfl, rfl⟩
  · exact ⟨b0, b1, e.symm⟩
  · exact ⟨a0, a1, e⟩
theorem adj_all (n : Nat) (lk : List Lnk) : ∀ x ∈ lk, lbIn n x = true → x.b ∈ adjAt n lk lk.length x.a ∧ x.a ∈ adjAt n lk lk.length x.b := fun x hx hin =>
  ⟨(adj_mem n lk lk.length (Nat.le_refl _) _ _).2 ⟨x, by rw [List.take_length]; exact hx, hin, .inl ⟨rfl, rfl⟩⟩, (adj_mem n lk lk.length (Nat.le_refl _) _ _).2 ⟨x, by rw [List.take_length]; exact hx, hin, .inr ⟨rfl, rfl⟩⟩⟩
theorem labOk_all (n : Nat) (lk : List Lnk) : LabOk n lk (fun v => (lbAt n lk lk.length).getD v.toNat 0) := by
  have := labOk_at n lk lk.length (Nat.le_refl _)
  rw [List.take_length] at this
  exact this
/-- What a search still has to do. -/
def left2 (rt todo : List Int) : Nat := 2 * rt.countP (fun v => decide (v < 0)) + todo.length
theorem left2_mark {rt todo : List Int} {i y : Int} (hy : y.toNat < rt.length) (hi : 0 ≤ i) (hr : rt.getD y.toNat 0 < 0) : left2 (rt.set y.toNat i) (todo ++ [y]) + 1 = left2 rt todo := by
  unfold left2
  rw [List.countP_set hy]
  rw [List.getD_eq_getElem?_getD, List.getElem?_eq_getElem hy] at hr
  simp only [Option.getD_some] at hr
  have h1 : 0 < rt.countP (fun v => decide (v < 0)) := List.countP_pos_iff.2 ⟨rt[y.toNat], List.getElem_mem _, by simpa using hr⟩
  simp [hr, show ¬ i < 0 by omega]
  omega
end Go.Proofs.YtndfncaoejbkiaaGreatDoor
end
