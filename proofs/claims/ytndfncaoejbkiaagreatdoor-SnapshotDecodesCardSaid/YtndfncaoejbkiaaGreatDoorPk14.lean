import Derived.Test.YtndfncaoejbkiaaGreatDoorPk4
import Derived.Test.YtndfncaoejbkiaaGreatDoorPk7
import Derived.Test.YtndfncaoejbkiaaGreatDoorPk12
import Derived.Test.YtndfncaoejbkiaaGreatDoorPk13
set_option linter.all false
section
/- The walk of the reference's Decode (printed by gen_rr5.py). -/
namespace Go.Proofs.YtndfncaoejbkiaaGreatDoor
open Go.RowKit
set_option maxRecDepth 100000

theorem conv_ownR {B : Nat} {w : World} {p : Option Addr} {c : Nat} {l : List UInt8} (h : OwnY B w (.slice p l.length c) l) : (convert 27 9 (.slice p l.length c)).run Tryz.prog w = .ok (.string ⟨l.toArray⟩) w := by
  cases p with
  | none =>
    have hl : l = [] := by
      rcases OwnE.form' h with ⟨_, h2⟩ | ⟨g, cap, h1, _⟩
      · exact h2
      · cases h1
    subst hl
    exact run_convert_bytes_nil (P := Tryz.prog) (w := w) 27 5 Tryz.underlying27 Tryz.underlying5 0 c 9 Tryz.underlying9
  | some a =>
    have h1 := conv_take (c' := c) (OwnE.rd h (M := NoB) (fun _ _ h => h)) (k := l.length) (Nat.le_refl _)
    rw [List.take_length] at h1
    exact h1
/-- Where the reference's Decode stands. -/
structure DcR (w : World) (D C : Nat) (v : Value) (s : Option Nat) (sN sL sR : Value) (wr : World) : Prop where
  out : wr.heap[w.heap.size]? = some (.cells zeroD 26 (0, 0))
  dm : wr.heap[D]? = some (.cells (dumpCells sN sL sR) 26 (0, 0))
  rd : RCell wr C v s
  fr : Fr NoB w wr
  l1 : w.heap.size < D
  l2 : D < C
theorem DcR.step {w : World} {D C : Nat} {v : Value} {s : Option Nat} {sN sL sR : Value} {wr w' : World} {M : Nat → Prop} (h : DcR w D C v s sN sL sR wr) (hf : Fr M wr w') (hm : ∀ k, M k → C < k) : DcR w D C v s sN sL sR w' :=
  ⟨hf.at (fun e => by have := hm _ e; have := h.l1; have := h.l2; omega) h.out, hf.at (fun e => by have := hm _ e; have := h.l2; omega) h.dm, h.rd.fr hf (fun e => by have := hm _ e; omega), h.fr.trans' hf (fun k hk e => by have := hm k e; have := h.l1; have := h.l2; omega), h.l1, h.l2⟩
theorem DcR.read {w : World} {D C : Nat} {v : Value} {s s' : Option Nat} {sN sL sR : Value} {wr : World} {a : Option Addr} {m d : Nat} {z : Int} {b : Bool} (h : DcR w D C v s sN sL sR wr) (he : rV v s' = .agg #[.slice a m d, .int .i64 z, .bool b]) :
    let WF := ((wr.setCell ⟨C, 0, none⟩ (.slice a m d)).setCell ⟨C, 1, none⟩ (.int .i64 z)).setCell ⟨C, 2, none⟩ (.bool b)
    DcR w D C v s' sN sL sR WF ∧ Fr (fun k => k = C) wr WF := by
  intro WF
  obtain ⟨a0, m0, d0, z0, b0, _, h1⟩ := h.rd
  obtain ⟨h2, h3⟩ := st3 (x := .slice a m d) (y := .int .i64 z) (z := .bool b) h1
  have l1 := h.l1
  have l2 := h.l2
  exact ⟨⟨h3.at (fun e => by have e2 : w.heap.size = C := e; omega) h.out, h3.at (fun e => by have e2 : D = C := e; omega) h.dm, ⟨a, m, d, z, b, he, h2⟩, h.fr.trans' h3 (fun k hk e => by have e2 : k = C := e; omega), l1, l2⟩, h3⟩
theorem DcR.put {w : World} {D C : Nat} {v : Value} {s : Option Nat} {sN sL sR tN tL tR : Value} {wr : World} (h : DcR w D C v s sN sL sR wr) (j : Nat) (u : Value) (he : (dumpCells sN sL sR).setIfInBounds j u = dumpCells tN tL tR) :
    DcR w D C v s tN tL tR (wr.setCell ⟨D, j, none⟩ u) ∧ Fr (fun k => k = D) wr (wr.setCell ⟨D, j, none⟩ u) := by
  have f : Fr (fun k => k = D) wr (wr.setCell ⟨D, j, none⟩ u) := (Fr.refl (fun k => k = D) wr).setCell (p := ⟨D, j, none⟩) (fun _ => rfl) _
  have l1 := h.l1
  have l2 := h.l2
  refine ⟨⟨f.at (fun e => by have e2 : w.heap.size = D := e; omega) h.out, ?_, h.rd.fr f (fun e => by have e2 : C = D := e; omega), h.fr.trans' f (fun k hk e => by have e2 : k = D := e; omega), l1, l2⟩, f⟩
  rw [← he]
  exact set_at h.dm j u
/-- Where the reading of a link stands. -/
structure LkT (w : World) (D C : Nat) (wr : World) (LB : Nat) (v : Value) (s : Option Nat) (sN sL : Value) (x y z : Int) (wk : World) : Prop where
  dc : DcR w D C v s sN sL (.slice none 0 0) wk
  lk : wk.heap[LB]? = some (.cells #[.int .i64 x, .int .i64 y, .int .i64 z] 57 (0, 0))
  fr : Fr (fun k => k ≤ C) wr wk
theorem LkT.step {w : World} {D C : Nat} {wr : World} {LB : Nat} {v : Value} {s : Option Nat} {sN sL : Value} {x y z : Int} {wk w' : World} {M : Nat → Prop} (h : LkT w D C wr LB v s sN sL x y z wk) (hf : Fr M wk w') (hm : ∀ k, ¬ M k) : LkT w D C wr LB v s sN sL x y z w' :=
  ⟨h.dc.step hf (fun k hk => (hm k hk).elim), hf.at (hm _) h.lk, h.fr.trans (hf.mono (fun _ _ hk => (hm _ hk).elim))⟩
theorem LkT.read {w : World} {D C : Nat} {wr : World} {LB : Nat} {v : Value} {s s' : Option Nat} {sN sL : Value} {x y z : Int} {wk : World} {a : Option Addr} {m d : Nat} {t : Int} {b : Bool} (h : LkT w D C wr LB v s sN sL x y z wk) (he : rV v s' = .agg #[.slice a m d, .int .i64 t, .bool b]) (hL : C < LB) :
    LkT w D C wr LB v s' sN sL x y z (((wk.setCell ⟨C, 0, none⟩ (.slice a m d)).setCell ⟨C, 1, none⟩ (.int .i64 t)).setCell ⟨C, 2, none⟩ (.bool b)) := by
  obtain ⟨h1, h2⟩ := h.dc.read he
  exact ⟨h1, h2.at (fun e => by have e2 : LB = C := e; omega) h.lk, h.fr.trans (h2.mono (fun k _ e => by have e2 : k = C := e; show k ≤ C; omega))⟩
theorem LkT.put {w : World} {D C : Nat} {wr : World} {LB : Nat} {v : Value} {s : Option Nat} {sN sL : Value} {x y z x' y' z' : Int} {wk : World} (h : LkT w D C wr LB v s sN sL x y z wk) (j : Nat) (u : Int) (hL : wr.heap.size ≤ LB ∧ C < LB)
    (he : (#[.int .i64 x, .int .i64 y, .int .i64 z] : Array Value).setIfInBounds j (.int .i64 u) = #[.int .i64 x', .int .i64 y', .int .i64 z']) : LkT w D C wr LB v s sN sL x' y' z' (wk.setCell ⟨LB, j, none⟩ (.int .i64 u)) := by
  have f : Fr (fun k => k = LB) wk (wk.setCell ⟨LB, j, none⟩ (.int .i64 u)) := (Fr.refl (fun k => k = LB) wk).setCell (p := ⟨LB, j, none⟩) (fun _ => rfl) _
  refine ⟨h.dc.step f (fun k hk => by have e2 : k = LB := hk; omega), ?_, h.fr.trans' f (fun k hk e => by have e2 : k = LB := e; omega)⟩
  rw [← he]
  exact set_at h.lk j _
theorem nodes_kept {C : Nat} {w6 w7 : World} {u u' : Value} {d ax : List (Node × Value)} {y : Node × Value} {o : Obj} (hA : ∀ x ∈ d, RdI (fun k => k ≤ C ∨ u.ownBlock = some k) w6 x.2 x.1.args) (hN : RdI (fun k => k ≤ C ∨ u.ownBlock = some k) w6 y.2 y.1.args) (hx : ax = d ++ [y])
    (hf : Fr (fun b => u.ownBlock = some b) w6 w7) (hb : u'.ownBlock = u.ownBlock ∨ u'.ownBlock = some (w6.alloc o).heap.size) : ∀ x ∈ ax, RdI (fun k => k ≤ C ∨ u'.ownBlock = some k) w7 x.2 x.1.args := fun x hm => by
  have h9 : RdI (fun k => k ≤ C ∨ u.ownBlock = some k) w6 x.2 x.1.args := by
    rw [hx] at hm
    rcases List.mem_append.1 hm with hm | hm
    · exact hA x hm
    · obtain rfl := List.mem_singleton.1 hm
      exact hN
  have h10 : RdI (fun k => (k ≤ C ∨ u.ownBlock = some k) ∨ u'.ownBlock = some k) w6 x.2 x.1.args := h9.weaken (fun k hk e => by
    rcases e with e | e
    · exact e
    · rcases hb with h | h
      · rw [h] at e; exact .inr e
      · rw [h] at e
        simp only [World.size_alloc, Option.some.injEq] at e
        omega)
  exact (h10.fr hf (fun k _ e => .inl (.inr e))).weaken (fun k _ e => e.elim (fun e => .inl (.inl e)) .inr)
theorem take3 : {l : List UInt8} → (h : 3 ≤ l.length) → (nats l).take 3 = [(l[0]'(by omega)).toNat, (l[1]'(by omega)).toNat, (l[2]'(by omega)).toNat]
  | [], h => by simp at h
  | [_], h => by simp at h
  | [_, _], h => by simp at h
  | x :: y :: z :: t, _ => by simp
set_option maxHeartbeats 8000000 in
theorem refDecode_any (v : Value) (l : List UInt8) (w : World) (h : RdY NoB w v l) (hl : l.length ≤ 1000000) :
    Calls Tryz.prog 16 #[v] w (DecOut w (decR (decE (nats l)))) := by
  obtain ⟨pa, c, hv⟩ := RdY.form h
  subst hv
  have H := hid h
  clear h
  have F0 : Hid (Fr NoB w (w.alloc (.cells zeroD 26))) := (Fr.refl NoB w).alloc _
  have P0 : Hid ((w.alloc (.cells zeroD 26)).heap[w.heap.size]? = some (.cells zeroD 26 (0, 0))) := at_new w _
  obtain ⟨AN, hAN⟩ : ∃ A, Hid (decE (nats l) = A) := ⟨_, hid rfl⟩
  rw [hAN.out]
  by_cases h7 : l.length < 7
  · go_enter Tryz.func16, Tryz.ntmps16
    go_wp2
    obtain ⟨p0, p1, p2, pf, pl⟩ := three_of P0.out
    refine bodyPost_ret (v := .tuple #[dumpV (.slice none 0 0) (.slice none 0 0) (.slice none 0 0), .int .i64 19]) (by simp [results, Tryz.results16, go_sem, p0, p1, p2, dumpV]) rfl ?_
    have X : AN = .error 1 := by
      rw [← hAN.out]
      unfold decE
      rw [if_pos (.inl (by simpa using h7))]
    rw [X]
    exact ⟨_, _, _, emptyD, rfl, rdD_empty _ _, rfl, F0.out⟩
  · obtain ⟨b, off, hpp, e0⟩ := RdY.cell (RdE.step H.out F0.out) (show 0 < l.length by omega)
    obtain ⟨b', off', hpp', e1⟩ := RdY.cell (RdE.step H.out F0.out) (show 1 < l.length by omega)
    obtain ⟨b2, off2, hpp2, e2⟩ := RdY.cell (RdE.step H.out F0.out) (show 2 < l.length by omega)
    subst hpp
    cases hpp'
    cases hpp2
    obtain ⟨q0, hq0⟩ : ∃ q, q = l[0].toNat := ⟨_, rfl⟩
    obtain ⟨q1, hq1⟩ : ∃ q, q = l[1].toNat := ⟨_, rfl⟩
    obtain ⟨q2, hq2⟩ : ∃ q, q = l[2].toNat := ⟨_, rfl⟩
    rw [← hq0, Nat.add_zero] at e0
    rw [← hq1] at e1
    rw [← hq2] at e2
    have HT : Hid ((nats l).take 3 = [q0, q1, q2]) := by
      show _ = _
      rw [hq0, hq1, hq2]
      exact take3 (by omega)
    have hlc := H.out.cap.2
    clear hq0 hq1 hq2
    have h7' : ¬ ((l.length : Int) < 7) := by omega
    by_cases h0 : q0 = 69
    rotate_left
    · have g0 : ((q0 : Int) == 69) = false := by simp; omega
      have HQ := hid h0
      clear e1 e2
      go_enter Tryz.func16, Tryz.ntmps16
      go_wp2
      obtain ⟨p0, p1, p2, pf, pl⟩ := three_of P0.out
      refine bodyPost_ret (v := .tuple #[dumpV (.slice none 0 0) (.slice none 0 0) (.slice none 0 0), .int .i64 19]) (by simp [results, Tryz.results16, go_sem, p0, p1, p2, dumpV]) rfl ?_
      have X : AN = .error 1 := by
        rw [← hAN.out]
        unfold decE
        rw [if_pos (.inr (by rw [HT.out]; intro e; simp only [List.cons.injEq] at e; exact HQ.out e.1))]
      rw [X]
      exact ⟨_, _, _, emptyD, rfl, rdD_empty _ _, rfl, F0.out⟩
    have g0 : ((q0 : Int) == 69) = true := by simp; omega
    subst h0
    by_cases h1 : q1 = 71
    rotate_left
    · have g1 : ((q1 : Int) == 71) = false := by simp; omega
      have HQ := hid h1
      clear e2
      go_enter Tryz.func16, Tryz.ntmps16
      go_wp2
      obtain ⟨p0, p1, p2, pf, pl⟩ := three_of P0.out
      refine bodyPost_ret (v := .tuple #[dumpV (.slice none 0 0) (.slice none 0 0) (.slice none 0 0), .int .i64 19]) (by simp [results, Tryz.results16, go_sem, p0, p1, p2, dumpV]) rfl ?_
      have X : AN = .error 1 := by
        rw [← hAN.out]
        unfold decE
        rw [if_pos (.inr (by rw [HT.out]; intro e; simp only [List.cons.injEq] at e; exact HQ.out e.2.1))]
      rw [X]
      exact ⟨_, _, _, emptyD, rfl, rdD_empty _ _, rfl, F0.out⟩
    have g1 : ((q1 : Int) == 71) = true := by simp; omega
    subst h1
    by_cases h2 : q2 = 1
    rotate_left
    · have g2 : ((q2 : Int) == 1) = false := by simp; omega
      have HQ := hid h2
      go_enter Tryz.func16, Tryz.ntmps16
      go_wp2
      obtain ⟨p0, p1, p2, pf, pl⟩ := three_of P0.out
      refine bodyPost_ret (v := .tuple #[dumpV (.slice none 0 0) (.slice none 0 0) (.slice none 0 0), .int .i64 19]) (by simp [results, Tryz.results16, go_sem, p0, p1, p2, dumpV]) rfl ?_
      have X : AN = .error 1 := by
        rw [← hAN.out]
        unfold decE
        rw [if_pos (.inr (by rw [HT.out]; intro e; simp only [List.cons.injEq] at e; exact HQ.out e.2.2.1))]
      rw [X]
      exact ⟨_, _, _, emptyD, rfl, rdD_empty _ _, rfl, F0.out⟩
    have g2 : ((q2 : Int) == 1) = true := by simp; omega
    subst h2
    obtain ⟨k, hk⟩ : ∃ k, l.length = k + 4 := ⟨l.length - 4, by omega⟩
    have hkl : k ≤ l.length := by omega
    have hk3 : 3 ≤ k := by omega
    have RT : Hid (∀ W, Fr NoB w W → RdY NoB W (.slice (some ⟨b, off, none⟩) k c) (l.take k)) := fun W hf => RdY.takeF (RdE.step H.out hf) hkl
    have CVB : Hid (∀ W, Fr NoB w W → (convert 27 9 (.slice (some ⟨b, off, none⟩) (k + 4) c)).run Tryz.prog W = .ok (.string ⟨l.toArray⟩) W) := fun W hf => by
      rw [← hk]
      have h9 := conv_take (c' := c) (RdE.step H.out hf) (Nat.le_refl l.length)
      rw [List.take_of_length_le (Nat.le_refl _)] at h9
      exact h9
    have hlk : (l.take k).length = k := by rw [List.length_take]; omega
    have HLK := hid hlk
    have HK := hid hk
    clear hlk h7
    go_enter Tryz.func16, Tryz.ntmps16
    go_wp2
    clear e0 e1 e2
    obtain ⟨W1, hW1⟩ : ∃ W1, w.alloc (.cells zeroD 26) = W1 := ⟨_, rfl⟩
    rw [hW1] at F0 P0 ⊢
    clear hW1
    refine region_effG (fun w' => Hid (Fr NoB w w')) 6 [(0, 1), (3, 1), (4, 0), (1, 2), (2, 0), (5, 1)] (by kernel_rfl) (by kernel_rfl) ?_ ?_
    · exact F0.out.drew
    repeat (first | (refine effg_off (by rfl) (by rfl) ?_; (try simp only [Act.put, List.setIfInBounds_toArray, List.set_cons_zero, List.set_cons_succ])) | (refine effg_pu ?_ (by rfl) (by rfl) ?_ ?_; rotate_left; (focus (intro w'; go_simp; (try with_reducible rfl); done)); (try simp only [Act.put, List.setIfInBounds_toArray, List.set_cons_zero, List.set_cons_succ])) | (refine effg_rd ?_ (by rfl) (by rfl) ?_ ?_; rotate_left; (focus (intro w' hS; (try obtain ⟨hq1, hS⟩ := hS); (try obtain ⟨hq2, hS⟩ := hS); (try obtain ⟨hq3, hS⟩ := hS); (try obtain ⟨hq4, hS⟩ := hS); (try obtain ⟨hq5, hS⟩ := hS); (try obtain ⟨hq6, hS⟩ := hS); (try obtain ⟨hq7, hS⟩ := hS); (try obtain ⟨hq8, hS⟩ := hS); (try obtain ⟨hq9, hS⟩ := hS); (try obtain ⟨hq10, hS⟩ := hS); (try obtain ⟨hq11, hS⟩ := hS); (try obtain ⟨hq12, hS⟩ := hS); (try obtain ⟨hq13, hS⟩ := hS); (try obtain ⟨hq14, hS⟩ := hS); (try obtain ⟨hq15, hS⟩ := hS); (try obtain ⟨hq16, hS⟩ := hS); (try obtain ⟨hq17, hS⟩ := hS); (try obtain ⟨hq18, hS⟩ := hS); (try obtain ⟨hq19, hS⟩ := hS); (try dsimp only at hS); go_simp; (try with_reducible rfl); done)); (try simp only [Act.put, List.setIfInBounds_toArray, List.set_cons_zero, List.set_cons_succ])))
    refine effg_rd (.string ⟨l.toArray⟩) (by rfl) (by rfl) ?_ ?_
    · intro w' hS
      have h9 := CVB.out w' hS.out
      go_simp
    (try simp only [Act.put, List.setIfInBounds_toArray, List.set_cons_zero, List.set_cons_succ])
    repeat (first | (refine effg_off (by rfl) (by rfl) ?_; (try simp only [Act.put, List.setIfInBounds_toArray, List.set_cons_zero, List.set_cons_succ])) | (refine effg_pu ?_ (by rfl) (by rfl) ?_ ?_; rotate_left; (focus (intro w'; go_simp; (try with_reducible rfl); done)); (try simp only [Act.put, List.setIfInBounds_toArray, List.set_cons_zero, List.set_cons_succ])) | (refine effg_rd ?_ (by rfl) (by rfl) ?_ ?_; rotate_left; (focus (intro w' hS; (try obtain ⟨hq1, hS⟩ := hS); (try obtain ⟨hq2, hS⟩ := hS); (try obtain ⟨hq3, hS⟩ := hS); (try obtain ⟨hq4, hS⟩ := hS); (try obtain ⟨hq5, hS⟩ := hS); (try obtain ⟨hq6, hS⟩ := hS); (try obtain ⟨hq7, hS⟩ := hS); (try obtain ⟨hq8, hS⟩ := hS); (try obtain ⟨hq9, hS⟩ := hS); (try obtain ⟨hq10, hS⟩ := hS); (try obtain ⟨hq11, hS⟩ := hS); (try obtain ⟨hq12, hS⟩ := hS); (try obtain ⟨hq13, hS⟩ := hS); (try obtain ⟨hq14, hS⟩ := hS); (try obtain ⟨hq15, hS⟩ := hS); (try obtain ⟨hq16, hS⟩ := hS); (try obtain ⟨hq17, hS⟩ := hS); (try obtain ⟨hq18, hS⟩ := hS); (try obtain ⟨hq19, hS⟩ := hS); (try dsimp only at hS); go_simp; (try with_reducible rfl); done)); (try simp only [Act.put, List.setIfInBounds_toArray, List.set_cons_zero, List.set_cons_succ])))
    obtain ⟨m, hm⟩ : ∃ m, m = sealS (l.take k) := ⟨_, rfl⟩
    refine effg_call 17 #[.slice (some ⟨b, off, none⟩) k c] (by rfl) (by rfl) (by intro w'; go_simp) ?_
    refine (refSealed_any _ (l.take k) m _ (RT.out _ F0.out.drew) (by rw [HLK.out]; omega) hm).mono ?_
    rintro e w2 ⟨sp, sc, rfl, ho, hf⟩
    have F2 := hid (F0.out.drew.step hf)
    have P2 := hid (hf.at (fun h => h) (show W1.drew.heap[w.heap.size]? = _ from P0.out))
    have CV2 : Hid (∀ w', Fr NoB w2 w' → (convert 27 9 (.slice sp m.length sc)).run Tryz.prog w' = .ok (.string ⟨m.toArray⟩) w') := fun w' h => conv_ownR (OwnE.step ho h)
    have HM := hid hm
    clear ho hf hm F0 P0
    refine ⟨_, rfl, fun w' => Hid (Fr NoB w2 w'), fun w' h => F2.out.step h.out, fun _ => Fr.refl _ _, ?_⟩
    (try simp only [Act.put, List.setIfInBounds_toArray, List.set_cons_zero, List.set_cons_succ])
    refine effg_rd (.string ⟨m.toArray⟩) (by rfl) (by rfl) ?_ ?_
    · intro w' hS
      have h9 := CV2.out w' hS.out
      go_simp
    (try simp only [Act.put, List.setIfInBounds_toArray, List.set_cons_zero, List.set_cons_succ])
    clear CV2 CVB
    have HSE : Hid (m = l ↔ ¬ ((nats l).drop ((nats l).length - 4) ≠ bigE (sumS ((nats l).take ((nats l).length - 4))))) := by
      show _ ↔ _
      have e1 : (nats l).length - 4 = k := by rw [List.length_map]; omega
      rw [e1, Decidable.not_not, HM.out]
      have e2 : (nats l).take k = nats (l.take k) := by unfold nats; rw [List.map_take]
      have e3 : (nats l).drop k = nats (l.drop k) := by unfold nats; rw [List.map_drop]
      rw [e2, e3]
      unfold sealS
      constructor
      · intro h
        have h9 : l.take k ++ bN (bigE (sumS (nats (l.take k)))) = l.take k ++ l.drop k := by rw [h, List.take_append_drop]
        rw [← List.append_cancel_left h9]
        exact bN_toNat (bigE_byte _)
      · intro h
        have h4 : bN (nats (l.drop k)) = bN (bigE (sumS (nats (l.take k)))) := by rw [h]
        unfold nats bN at h4
        rw [List.map_map] at h4
        have : (UInt8.ofNat ∘ fun x : UInt8 => x.toNat) = id := by funext x; simp
        rw [this, List.map_id] at h4
        unfold nats bN
        rw [← h4, List.take_append_drop]
    have HHD : Hid (¬ ((nats l).length < 7 ∨ (nats l).take 3 ≠ [69, 71, 1])) := by
      show ¬ _
      rintro (h | h)
      · rw [List.length_map] at h; omega
      · exact h HT.out
    clear HT
    by_cases hml : m = l
    rotate_left
    · have X : Hid (AN = .error 2) := by
        show _ = _
        rw [← hAN.out]
        unfold decE
        rw [if_neg HHD.out, if_pos (Decidable.not_not.1 (fun h => hml (HSE.out.2 h)))]
      have hs : ¬ (⟨m.toArray⟩ : ByteArray) = ⟨l.toArray⟩ := fun e => hml (by
        have := congrArg (fun s : ByteArray => s.data.toList) e
        simpa using this)
      clear hml HSE
      obtain ⟨n1, hn1⟩ : ∃ n1 : ByteArray, (⟨m.toArray⟩ : ByteArray) = n1 := ⟨_, rfl⟩
      obtain ⟨n2, hn2⟩ : ∃ n2 : ByteArray, (⟨l.toArray⟩ : ByteArray) = n2 := ⟨_, rfl⟩
      rw [hn1, hn2] at hs ⊢
      have hs3 : (n1.toList == n2.toList) = false := by
        rw [beq_eq_false_iff_ne]; exact fun e => hs (toList_inj e)
      clear hn1 hn2 hs
      repeat (first | (refine effg_off (by rfl) (by rfl) ?_; (try simp only [Act.put, List.setIfInBounds_toArray, List.set_cons_zero, List.set_cons_succ])) | (refine effg_pu ?_ (by rfl) (by rfl) ?_ ?_; rotate_left; (focus (intro w'; go_simp; (try with_reducible rfl); done)); (try simp only [Act.put, List.setIfInBounds_toArray, List.set_cons_zero, List.set_cons_succ])) | (refine effg_rd ?_ (by rfl) (by rfl) ?_ ?_; rotate_left; (focus (intro w' hS; (try obtain ⟨hq1, hS⟩ := hS); (try obtain ⟨hq2, hS⟩ := hS); (try obtain ⟨hq3, hS⟩ := hS); (try obtain ⟨hq4, hS⟩ := hS); (try obtain ⟨hq5, hS⟩ := hS); (try obtain ⟨hq6, hS⟩ := hS); (try obtain ⟨hq7, hS⟩ := hS); (try obtain ⟨hq8, hS⟩ := hS); (try obtain ⟨hq9, hS⟩ := hS); (try obtain ⟨hq10, hS⟩ := hS); (try obtain ⟨hq11, hS⟩ := hS); (try obtain ⟨hq12, hS⟩ := hS); (try obtain ⟨hq13, hS⟩ := hS); (try obtain ⟨hq14, hS⟩ := hS); (try obtain ⟨hq15, hS⟩ := hS); (try obtain ⟨hq16, hS⟩ := hS); (try obtain ⟨hq17, hS⟩ := hS); (try obtain ⟨hq18, hS⟩ := hS); (try obtain ⟨hq19, hS⟩ := hS); (try dsimp only at hS); go_simp; (try with_reducible rfl); done)); (try simp only [Act.put, List.setIfInBounds_toArray, List.set_cons_zero, List.set_cons_succ])))
      refine effg_nil ?_
      obtain ⟨p0, p1, p2, pf, pl⟩ := three_of P2.out
      go_wp2
      obtain ⟨q1, q2⟩ := st3 (x := .slice none 0 0) (y := .slice none 0 0) (z := .slice none 0 0) P2.out
      obtain ⟨r0, r1, r2, rf, rl⟩ := three_of q1
      refine bodyPost_ret (v := .tuple #[dumpV (.slice none 0 0) (.slice none 0 0) (.slice none 0 0), .int .i64 20]) (by simp [results, Tryz.results16, go_sem, r0, r1, r2, dumpV]) rfl ?_
      rw [X.out]
      exact ⟨_, _, _, emptyD, rfl, rdD_empty _ _, rfl, F2.out.trans' q2 (fun q hq e => by have e2 : q = w.heap.size := e; omega)⟩
    · have X : Hid (AN = match pDec (l.take k) with | none => .error 1 | some d => .ok d) := by
        show _ = _
        rw [← hAN.out, pDec_eq (by rw [HLK.out]; exact hk3)]
        unfold decE
        have e1 : (nats l).length - 4 = k := by rw [List.length_map]; omega
        rw [if_neg HHD.out, if_neg (HSE.out.1 hml), e1]
        have e2 : (nats l).take k = nats (l.take k) := by unfold nats; rw [List.map_take]
        rw [e2]
        cases rdDm ((nats (l.take k)).drop 3) <;> rfl
      clear HSE HHD hAN HM
      subst hml
      repeat (first | (refine effg_off (by rfl) (by rfl) ?_; (try simp only [Act.put, List.setIfInBounds_toArray, List.set_cons_zero, List.set_cons_succ])) | (refine effg_pu ?_ (by rfl) (by rfl) ?_ ?_; rotate_left; (focus (intro w'; go_simp; (try with_reducible rfl); done)); (try simp only [Act.put, List.setIfInBounds_toArray, List.set_cons_zero, List.set_cons_succ])) | (refine effg_rd ?_ (by rfl) (by rfl) ?_ ?_; rotate_left; (focus (intro w' hS; (try obtain ⟨hq1, hS⟩ := hS); (try obtain ⟨hq2, hS⟩ := hS); (try obtain ⟨hq3, hS⟩ := hS); (try obtain ⟨hq4, hS⟩ := hS); (try obtain ⟨hq5, hS⟩ := hS); (try obtain ⟨hq6, hS⟩ := hS); (try obtain ⟨hq7, hS⟩ := hS); (try obtain ⟨hq8, hS⟩ := hS); (try obtain ⟨hq9, hS⟩ := hS); (try obtain ⟨hq10, hS⟩ := hS); (try obtain ⟨hq11, hS⟩ := hS); (try obtain ⟨hq12, hS⟩ := hS); (try obtain ⟨hq13, hS⟩ := hS); (try obtain ⟨hq14, hS⟩ := hS); (try obtain ⟨hq15, hS⟩ := hS); (try obtain ⟨hq16, hS⟩ := hS); (try obtain ⟨hq17, hS⟩ := hS); (try obtain ⟨hq18, hS⟩ := hS); (try obtain ⟨hq19, hS⟩ := hS); (try dsimp only at hS); go_simp; (try with_reducible rfl); done)); (try simp only [Act.put, List.setIfInBounds_toArray, List.set_cons_zero, List.set_cons_succ])))
      refine effg_nil ?_
      go_wp2_with fail
      obtain ⟨bd, hbd⟩ : ∃ bd, m.take k = bd := ⟨_, rfl⟩
      rw [hbd] at RT HLK X
      have hk0 : bd.length = k := HLK.out
      have hbl : bd.length ≤ 1000000 := by omega
      have hbc : bd.length < c := by omega
      clear hbd HLK
      subst hk0
      clear H HK hk hkl hl hlc h7'
      obtain ⟨s1, hs1⟩ : ∃ t, (pC bd (some 3)).1 = t := ⟨_, rfl⟩
      obtain ⟨n1, hn1⟩ : ∃ t, (pC bd (some 3)).2 = t := ⟨_, rfl⟩
      have HS1 : Hid (∀ p, s1 = some p → p ≤ bd.length) := fun p hp => pC_ok p (hs1.trans hp)
      obtain ⟨a1, m1, d1, z1, b1, hr1, hq1, hq2⟩ := rV_form (some ⟨b, off, none⟩) bd.length c s1
      clear hq1 hq2
      have HR1 := hid hr1
      have hn1l : n1 ≤ bd.length := by rw [← hn1]; exact pC_le _ _
      have HN1 : Hid (pNs bd (some 3) = pMany (pNode bd) n1 s1 []) := by show _ = _; rw [← hs1, ← hn1]; rfl
      have hc := count_any _ bd (some 3) _ (RT.out _ (F2.out.alloc (.cells zeroD 26))) (fun p hp => by cases hp; exact hk3) hbl
      rw [show rV (.slice (some ⟨b, off, none⟩) bd.length c) (some 3) = .agg #[.slice (some ⟨b, off, none⟩) bd.length c, .int .i64 3, .bool false] from rfl, hs1, hn1, hr1] at hc
      clear hs1 hn1 hr1
      refine hc.mono ?_
      clear hc
      rintro e w3 ⟨rfl, hf⟩
      have D0 := hid (hf.at (fun h => h) (at_new w2 (.cells zeroD 26)))
      have P3 := hid (hf.at (fun h => h) (at_old P2.out (.cells zeroD 26)))
      have F3 := hid ((F2.out.alloc (.cells zeroD 26)).step hf)
      have L2 : Hid (w.heap.size < w2.heap.size) := (Array.getElem?_eq_some_iff.1 P2.out).1
      have L3 : Hid (w2.heap.size < w3.heap.size) := (Array.getElem?_eq_some_iff.1 D0.out).1
      have S0 : Hid (DcR w w2.heap.size w3.heap.size (.slice (some ⟨b, off, none⟩) bd.length c) s1 (.slice none 0 0) (.slice none 0 0) (.slice none 0 0) (w3.alloc (.cells #[.slice a1 m1 d1, .int .i64 z1, .bool b1] 72))) :=
        ⟨at_old P3.out _, at_old D0.out _, ⟨a1, m1, d1, z1, b1, HR1.out, at_new w3 _⟩, F3.out.alloc _, L2.out, L3.out⟩
      clear hf D0 P3 F2 P2 F3
      go_wp2
      obtain ⟨W0, hW0⟩ : ∃ W0, w3.alloc (.cells #[.slice a1 m1 d1, .int .i64 z1, .bool b1] 72) = W0 := ⟨_, rfl⟩
      rw [hW0] at S0 ⊢
      clear hW0
      obtain ⟨D, hD⟩ : ∃ D, w2.heap.size = D := ⟨_, rfl⟩
      obtain ⟨C, hC⟩ : ∃ C, w3.heap.size = C := ⟨_, rfl⟩
      rw [hD, hC] at S0 ⊢
      clear hD hC L2 L3
      go_loopw [8] (fun i wr => ∃ (j : Nat) (s' : Option Nat) (sN : Value) (d : List (Node × Value)), j ≤ n1 ∧ i = .int .i64 j ∧ Hid (d.length = j) ∧ Hid (∀ p, s' = some p → p ≤ bd.length) ∧ Hid (DcR w D C (.slice (some ⟨b, off, none⟩) bd.length c) s' sN (.slice none 0 0) (.slice none 0 0) wr) ∧ Hid (OwnN (C + 1) wr sN d) ∧ Hid (∀ x ∈ d, RdI (fun k => k ≤ C ∨ sN.ownBlock = some k) wr x.2 x.1.args) ∧ Hid (pNs bd (some 3) = pMany (pNode bd) (n1 - j) s' (d.map (·.1)))) (fun i _ => n1 - (intOf i).toNat)
      case atStart => exact ⟨0, s1, _, [], Nat.zero_le _, rfl, rfl, HS1, S0, OwnE.nil _ _ _ _ _, fun x hx => by simp at hx, HN1⟩
      case round =>
        obtain ⟨j, s', sN, d, hj, rfl, HDL, HOK, SJ, OJ, AJ, HJ⟩ := hrel
        obtain ⟨np, nc, hsv⟩ := OwnE.form OJ.out
        subst hsv
        by_cases hlt : j < n1
        · cases s' with
          | none =>
            have HN : Hid (pNs bd (some 3) = (none, d.map (·.1))) := hid (by rw [HJ.out]; exact pMany_none _ _ _)
            have RN : Hid (RdN (fun k => k ≤ C) wr (.slice np d.length nc) d) := ⟨OwnE.rd OJ.out (fun k hk e => by have e2 : k ≤ C := e; have := (World.ownsRow.lt OJ.out k hk).1; omega), fun x hx => (AJ.out x hx).weaken (fun k _ e => .inl e)⟩
            have hcell := SJ.out.rd.bad
            have HV0 := hid (show rV (.slice (some ⟨b, off, none⟩) bd.length c) none = .agg #[.slice none 0 0, .int .i64 0, .bool true] from rfl)
            obtain ⟨s5, hs5⟩ : ∃ t, (pC bd (none)).1 = t := ⟨_, rfl⟩
            obtain ⟨n2, hn2⟩ : ∃ t, (pC bd (none)).2 = t := ⟨_, rfl⟩
            have HS5 : Hid (∀ p, s5 = some p → p ≤ bd.length) := fun p hp => pC_ok p (hs5.trans hp)
            obtain ⟨a5, m5, d5, z5, b5, hr5, hq1, hq2⟩ := rV_form (some ⟨b, off, none⟩) bd.length c s5
            clear hq1 hq2
            have HR5 := hid hr5
            have hn2l : n2 ≤ bd.length := by rw [← hn2]; exact pC_le _ _
            have HN2 : Hid (pLs bd (pNs bd (some 3)).1 = pMany (pLnk bd) n2 s5 []) := by show _ = _; rw [HN.out, ← hs5, ← hn2]; rfl
            have HC := hid (count_any (.slice (some ⟨b, off, none⟩) bd.length c) bd (none) wr (RT.out _ SJ.out.fr) HOK.out hbl)
            have HE5 := hid hs5
            have HX5 := hid hn2
            clear hs5 hn2 hr5
            obtain ⟨c0, c1, c2, cf, cl⟩ := three_of hcell
            clear hcell OJ AJ HJ
            go_wp2_with fail
            have hc := HC.out
            rw [HV0.out, HE5.out, HX5.out, HR5.out] at hc
            refine hc.mono ?_
            clear hc c0 c1 c2 cf cl HC
            rintro e w5 ⟨rfl, hf⟩
            have RN5 : Hid (RdN (fun k => k ≤ C) w5 (.slice np d.length nc) d) := RdN.fr RN.out hf (fun _ _ h => h.elim)
            have S5 := hid (SJ.out.step hf (fun _ h => h.elim))
            clear hf SJ RN
            obtain ⟨a9, m9, d9, z9, b9, _, hcell⟩ := S5.out.rd
            obtain ⟨c0, c1, c2, cf, cl⟩ := three_of hcell
            clear hcell
            obtain ⟨s6, f6⟩ := S5.out.read HR5.out
            have S6 := hid s6
            have RN6 : Hid (RdN (fun k => k ≤ C) _ (.slice np d.length nc) d) := hid (RdN.fr RN5.out f6 (fun k _ e => by have e2 : k = C := e; omega))
            clear s6 f6 S5 RN5
            go_wp2_with fail
            clear c0 c1 c2 cf cl
            obtain ⟨W10, hW10⟩ : ∃ W, ((w5.setCell ⟨C, 0, none⟩ (.slice a5 m5 d5)).setCell ⟨C, 1, none⟩ (.int .i64 z5)).setCell ⟨C, 2, none⟩ (.bool b5) = W := ⟨_, rfl⟩
            rw [hW10] at S6 RN6 ⊢
            clear hW10
            go_loopw [12] (fun i wr => ∃ (q : Nat) (s' : Option Nat) (t : Value) (ls : List Lnk), q ≤ n2 ∧ i = .int .i64 q ∧ Hid (ls.length = q) ∧ Hid (∀ p, s' = some p → p ≤ bd.length) ∧ Hid (DcR w D C (.slice (some ⟨b, off, none⟩) bd.length c) s' (.slice np d.length nc) t (.slice none 0 0) wr) ∧ Hid (OwnE lkCells 3 57 W10.heap.size wr t ls) ∧ Hid (Fr (fun k => k ≤ C) W10 wr) ∧ Hid (pLs bd (pNs bd (some 3)).1 = pMany (pLnk bd) (n2 - q) s' ls)) (fun i _ => n2 - (intOf i).toNat)
            case atStart => exact ⟨0, s5, _, [], Nat.zero_le _, rfl, rfl, HS5, S6, OwnE.nil _ _ _ _ _, Fr.refl _ _, HN2⟩
            case round =>
              obtain ⟨q, s', t, ls, hq, rfl, HQL, HOQ, SQ, OQ, FQ, HQ⟩ := hrel
              obtain ⟨tp, tc, htv⟩ := OwnE.form OQ.out
              subst htv
              by_cases hlt2 : q < n2
              · cases s' with
                | none =>
                  have HLS : Hid (pLs bd (pNs bd (some 3)).1 = (none, ls)) := hid (by rw [HQ.out]; exact pMany_none _ _ _)
                  have L10 : C < W10.heap.size := by
                    obtain ⟨_, _, _, _, _, _, h9⟩ := S6.out.rd
                    exact (Array.getElem?_eq_some_iff.1 h9).1
                  have RN7 : Hid (RdN (fun k => k ≤ C) wr (.slice np d.length nc) d) := hid (RdN.fr RN6.out FQ.out (fun k _ h => h))
                  have RL7 : Hid (RdE lkCells (fun k => k ≤ C) wr (.slice tp ls.length tc) ls) := hid (OwnE.rd OQ.out (fun k hk e => by have e2 : k ≤ C := e; have := (World.ownsRow.lt OQ.out k hk).1; omega))
                  have HWR : Hid (W10.heap.size ≤ wr.heap.size) := FQ.out.size
                  have LWR : C < wr.heap.size := Nat.lt_of_lt_of_le L10 HWR.out
                  have LWC : w.heap.size < C := by have := S6.out.l1; have := S6.out.l2; omega
                  have hcell := SQ.out.rd.bad
                  have HV0 := hid (show rV (.slice (some ⟨b, off, none⟩) bd.length c) none = .agg #[.slice none 0 0, .int .i64 0, .bool true] from rfl)
                  obtain ⟨s7, hs7⟩ : ∃ t, (pIs bd (none)).1 = t := ⟨_, rfl⟩
                  obtain ⟨rs, hrs⟩ : ∃ t, (pIs bd (none)).2 = t := ⟨_, rfl⟩
                  have HDX : Hid (pDec bd = if s7 = some bd.length then some ⟨d.map (·.1), ls, rs⟩ else none) := by
                    show _ = _
                    have e1 := HLS.out
                    rw [HN.out] at e1
                    unfold pDec
                    simp only [HN.out, e1, hs7, hrs]
                  have HC := hid (integers_any (.slice (some ⟨b, off, none⟩) bd.length c) bd (none) wr (RT.out _ SQ.out.fr) HOQ.out hbl)
                  have HS7 := hid hs7
                  have HRS := hid hrs
                  clear hs7 hrs
                  obtain ⟨c0, c1, c2, cf, cl⟩ := three_of hcell
                  clear hcell OQ HQ S6 RN6 FQ
                  go_wp2_with fail
                  have hc := HC.out
                  unfold RefIsOut at hc
                  rw [HV0.out, HS7.out, HRS.out] at hc
                  refine hc.mono ?_
                  clear hc c0 c1 c2 cf cl HC
                  rintro e w7 ⟨ra, rc, rfl, hrd, hf⟩
                  have RI8 := hid hrd
                  have RN8 : Hid (RdN (fun k => k ≤ C) w7 (.slice np d.length nc) d) := hid (RdN.fr RN7.out hf (fun _ _ h => h.elim))
                  have RL8 : Hid (RdE lkCells (fun k => k ≤ C) w7 (.slice tp ls.length tc) ls) := hid (RL7.out.step hf)
                  have S7 := hid (SQ.out.step hf (fun _ h => h.elim))
                  clear hf hrd SQ RN7 RL7
                  obtain ⟨a9, m9, d9, z9, b9, hr9, hcell⟩ := S7.out.rd
                  clear hr9
                  obtain ⟨c0, c1, c2, cf, cl⟩ := three_of hcell
                  clear hcell
                  obtain ⟨e0, e1, e2, ef, el⟩ := three_of S7.out.dm
                  obtain rfl : s7 = none := HS7.out.symm.trans (pIs_none bd)
                  have X : Hid (AN = .error 1) := by
                    show _ = _
                    rw [X.out, HDX.out, if_neg (by simp)]
                  clear HDX
                  rw [show rV (.slice (some ⟨b, off, none⟩) bd.length c) (none) = .agg #[.slice none 0 0, .int .i64 0, .bool true] from rfl]
                  have T8 := S7.out.read (s' := none) (a := none) (m := 0) (d := 0) (z := 0) (b := true) rfl
                  have S8 := hid T8.1
                  have F8 := hid T8.2
                  clear T8
                  obtain ⟨e0', e1', e2', ef', el'⟩ := three_of S8.out.dm
                  have T9 := S8.out.put (tN := .slice np d.length nc) (tL := .slice tp ls.length tc) (tR := .slice ra rs.length rc) 2 (.slice ra rs.length rc) rfl
                  have S9 := hid T9.1
                  have F9 := hid T9.2
                  clear T9
                  obtain ⟨g0, g1, g2, gf, gl⟩ := three_of S9.out.rd.bad
                  obtain ⟨p0, p1, p2, pf, pl⟩ := three_of S9.out.out
                  go_wp2_with fail
                  have SR := S9.out.out
                  have FR := S9.out.fr
                  obtain ⟨q1, q2⟩ := st3 (x := .slice none 0 0) (y := .slice none 0 0) (z := .slice none 0 0) SR
                  obtain ⟨r0, r1, r2, rf, rl⟩ := three_of q1
                  refine bodyPost_ret (v := .tuple #[dumpV (.slice none 0 0) (.slice none 0 0) (.slice none 0 0), .int .i64 19]) (by simp [results, Tryz.results16, go_sem, r0, r1, r2, dumpV]) rfl ?_
                  rw [X.out]
                  exact ⟨_, _, _, emptyD, rfl, rdD_empty _ _, rfl, FR.trans' q2 (fun q hq e => by have e2 : q = w.heap.size := e; omega)⟩
                | some p =>
                  have HST : Hid (pMany (pLnk bd) (n2 - q) (some p) ls = pMany (pLnk bd) (n2 - (q + 1)) (pLnk bd (some p)).1 (ls ++ [(pLnk bd (some p)).2])) := hid (pMany_step hlt2)
                  obtain ⟨t1, ht1⟩ : ∃ t, (pS bd (some p)).1 = t := ⟨_, rfl⟩
                  obtain ⟨x1, hx1⟩ : ∃ t, (pS bd (some p)).2 = t := ⟨_, rfl⟩
                  obtain ⟨t2, ht2⟩ : ∃ t, (pS bd t1).1 = t := ⟨_, rfl⟩
                  obtain ⟨x2, hx2⟩ : ∃ t, (pS bd t1).2 = t := ⟨_, rfl⟩
                  obtain ⟨t3, ht3⟩ : ∃ t, (pS bd t2).1 = t := ⟨_, rfl⟩
                  obtain ⟨x3, hx3⟩ : ∃ t, (pS bd t2).2 = t := ⟨_, rfl⟩
                  have HLK : Hid (pLnk bd (some p) = (t3, ⟨x1, x2, x3⟩)) := by
                    show _ = _
                    unfold pLnk
                    simp only
                    rw [ht1, hx1, ht2, hx2, ht3, hx3]
                  have HT1 : Hid (∀ p, t1 = some p → p ≤ bd.length) := fun p hp => pN_ok p (ht1.trans hp)
                  have HT2 : Hid (∀ p, t2 = some p → p ≤ bd.length) := fun p hp => pN_ok p (ht2.trans hp)
                  have HT3 : Hid (∀ p, t3 = some p → p ≤ bd.length) := fun p hp => pN_ok p (ht3.trans hp)
                  obtain ⟨e1, f1, g1, y1, h1, hr1, hq1, hq2⟩ := rV_form (some ⟨b, off, none⟩) bd.length c t1
                  obtain ⟨e2, f2, g2, y2, h2, hr2, hq3, hq4⟩ := rV_form (some ⟨b, off, none⟩) bd.length c t2
                  obtain ⟨e3, f3, g3, y3, h3, hr3, hq5, hq6⟩ := rV_form (some ⟨b, off, none⟩) bd.length c t3
                  clear hq1 hq2 hq3 hq4 hq5 hq6
                  have K1 := hid ht1
                  have V1 := hid hx1
                  have K2 := hid ht2
                  have V2 := hid hx2
                  have K3 := hid ht3
                  have V3 := hid hx3
                  have E1 := hid hr1
                  have E2 := hid hr2
                  have E3 := hid hr3
                  clear ht1 hx1 ht2 hx2 ht3 hx3 hr1 hr2 hr3
                  have S0 : Hid (LkT w D C wr wr.heap.size (.slice (some ⟨b, off, none⟩) bd.length c) (some p) (.slice np d.length nc) (.slice tp ls.length tc) 0 0 0 (wr.alloc (.cells #[.int .i64 0, .int .i64 0, .int .i64 0] 57))) :=
                    ⟨SQ.out.step ((Fr.refl NoB wr).alloc _) (fun _ h => h.elim), at_new wr _, (Fr.refl _ wr).alloc _⟩
                  have HLB : Hid (wr.heap.size ≤ wr.heap.size ∧ C < wr.heap.size) := by
                    obtain ⟨_, _, _, _, _, _, h9⟩ := SQ.out.rd
                    have := (Array.getElem?_eq_some_iff.1 h9).1
                    exact ⟨Nat.le_refl _, this⟩
                  obtain ⟨c0, c1, c2, cf, cl⟩ := three_of SQ.out.rd.good
                  go_wp2_with fail
                  have hc := integer_any (.slice (some ⟨b, off, none⟩) bd.length c) bd (some p) _ (RT.out _ S0.out.dc.fr) HOQ.out hbl
                  rw [show rV (.slice (some ⟨b, off, none⟩) bd.length c) (some p) = .agg #[.slice (some ⟨b, off, none⟩) bd.length c, .int .i64 p, .bool false] from rfl, K1.out, V1.out, E1.out] at hc
                  refine hc.mono ?_
                  clear hc c0 c1 c2 cf cl
                  rintro e v1 ⟨rfl, hf⟩
                  have T1 := hid (S0.out.step hf (fun _ h => h.elim))
                  clear hf S0
                  obtain ⟨a9, m9, d9, z9, b9, _, hcell⟩ := T1.out.dc.rd
                  obtain ⟨c0', c1', c2', cf', cl'⟩ := three_of hcell
                  clear hcell
                  have U1 := hid (T1.out.read E1.out HLB.out.2)
                  obtain ⟨l0, l1, l2, lf, ll⟩ := three_of U1.out.lk
                  have S1 := hid (U1.out.put 0 x1 (x' := x1) (y' := 0) (z' := 0) HLB.out rfl)
                  clear T1 U1
                  obtain ⟨a8, m8, d8, z8, b8, hv8, hcell⟩ := S1.out.dc.rd
                  have e8 := hv8.symm.trans E1.out
                  simp only [Value.agg.injEq, Array.mk.injEq, List.cons.injEq, Value.slice.injEq, Value.int.injEq, true_and, Value.bool.injEq, and_true] at e8
                  obtain ⟨⟨rfl, rfl, rfl⟩, rfl, rfl⟩ := e8
                  clear hv8
                  obtain ⟨c0, c1, c2, cf, cl⟩ := three_of hcell
                  clear hcell
                  go_wp2_with fail
                  have hc := integer_any (.slice (some ⟨b, off, none⟩) bd.length c) bd (t1) _ (RT.out _ S1.out.dc.fr) HT1.out hbl
                  rw [E1.out, K2.out, V2.out, E2.out] at hc
                  refine hc.mono ?_
                  clear hc c0 c1 c2 cf cl l0 l1 l2 lf ll c0' c1' c2' cf' cl'
                  rintro e v2 ⟨rfl, hf⟩
                  have T2 := hid (S1.out.step hf (fun _ h => h.elim))
                  clear hf S1
                  obtain ⟨a9, m9, d9, z9, b9, _, hcell⟩ := T2.out.dc.rd
                  obtain ⟨c0', c1', c2', cf', cl'⟩ := three_of hcell
                  clear hcell
                  have U2 := hid (T2.out.read E2.out HLB.out.2)
                  obtain ⟨l0, l1, l2, lf, ll⟩ := three_of U2.out.lk
                  have S2 := hid (U2.out.put 1 x2 (x' := x1) (y' := x2) (z' := 0) HLB.out rfl)
                  clear T2 U2
                  obtain ⟨a8, m8, d8, z8, b8, hv8, hcell⟩ := S2.out.dc.rd
                  have e8 := hv8.symm.trans E2.out
                  simp only [Value.agg.injEq, Array.mk.injEq, List.cons.injEq, Value.slice.injEq, Value.int.injEq, true_and, Value.bool.injEq, and_true] at e8
                  obtain ⟨⟨rfl, rfl, rfl⟩, rfl, rfl⟩ := e8
                  clear hv8
                  obtain ⟨c0, c1, c2, cf, cl⟩ := three_of hcell
                  clear hcell
                  go_wp2_with fail
                  have hc := integer_any (.slice (some ⟨b, off, none⟩) bd.length c) bd (t2) _ (RT.out _ S2.out.dc.fr) HT2.out hbl
                  rw [E2.out, K3.out, V3.out, E3.out] at hc
                  refine hc.mono ?_
                  clear hc c0 c1 c2 cf cl l0 l1 l2 lf ll c0' c1' c2' cf' cl'
                  rintro e v3 ⟨rfl, hf⟩
                  have T3 := hid (S2.out.step hf (fun _ h => h.elim))
                  clear hf S2
                  obtain ⟨a9, m9, d9, z9, b9, _, hcell⟩ := T3.out.dc.rd
                  obtain ⟨c0', c1', c2', cf', cl'⟩ := three_of hcell
                  clear hcell
                  have U3 := hid (T3.out.read E3.out HLB.out.2)
                  obtain ⟨l0, l1, l2, lf, ll⟩ := three_of U3.out.lk
                  have S3 := hid (U3.out.put 2 x3 (x' := x1) (y' := x2) (z' := x3) HLB.out rfl)
                  clear T3 U3
                  obtain ⟨a8, m8, d8, z8, b8, hv8, hcell⟩ := S3.out.dc.rd
                  have e8 := hv8.symm.trans E3.out
                  simp only [Value.agg.injEq, Array.mk.injEq, List.cons.injEq, Value.slice.injEq, Value.int.injEq, true_and, Value.bool.injEq, and_true] at e8
                  obtain ⟨⟨rfl, rfl, rfl⟩, rfl, rfl⟩ := e8
                  clear hv8
                  obtain ⟨c0, c1, c2, cf, cl⟩ := three_of hcell
                  clear hcell
                  have L10 : C < W10.heap.size := by
                    obtain ⟨_, _, _, _, _, _, h9⟩ := S6.out.rd
                    exact (Array.getElem?_eq_some_iff.1 h9).1
                  have HOW : Hid (∀ k, (Value.slice tp ls.length tc).ownBlock = some k → C < k) := fun k hk => by have := (World.ownsRow.lt OQ.out k hk).1; omega
                  have O3 := hid (OwnE.fr OQ.out S3.out.fr (fun k hk e => by have e2 : k ≤ C := e; have := HOW.out k hk; omega))
                  have F3 := hid (FQ.out.trans S3.out.fr)
                  have HF3 := hid F3.out.size
                  obtain ⟨p0, p1, p2, pf, pl⟩ := three_of S3.out.dc.dm
                  clear p0 p2 c0 c1 c2 cf cl
                  have g0 := S3.out.lk
                  obtain ⟨l0', l1', l2', lf', ll'⟩ := three_of g0
                  clear g0
                  go_wp2_with (at_builtin; go_loud (refine ap_lnk _ rfl _ _ rfl (.slice tp ls.length tc) ls rfl (OwnE.base (OwnE.step O3.out ((Fr.refl NoB _).alloc _)) (Nat.zero_le _)) _ [⟨x1, x2, x3⟩] rfl (rdL_lit ⟨x1, x2, x3⟩ (by simp)) ?_ ?_; (have := HQL.out; simp only [List.length_singleton]; omega); intro p6 q6 w6 ho6 hg6 hb6; have F9 := hid (Fr.grown ((Fr.refl (fun b => (Value.slice tp ls.length tc).ownBlock = some b) _).alloc _) hg6 (fun k hk _ => hk)); have S9 := hid (S3.out.dc.step F9.out (fun k hk => HOW.out k hk)); have O9 := hid ho6; have B9 := hid hb6; clear ho6 hg6 hb6; obtain ⟨d0', d1', d2', df', dl'⟩ := three_of S9.out.dm))
                  obtain ⟨ax, HAX⟩ : ∃ ax, Hid (ax = ls ++ [(⟨x1, x2, x3⟩ : Lnk)]) := ⟨_, hid rfl⟩
                  have hlx : ls.length + 1 = ax.length := by rw [HAX.out, List.length_append]; rfl
                  have P9 := O9.out
                  have Q9 := B9.out
                  rw [← HAX.out] at P9 Q9
                  have S10 := S9.out.put (tN := .slice np d.length nc) (tL := .slice p6 ax.length q6) (tR := .slice none 0 0) 1 (.slice p6 ax.length q6) rfl
                  have HS3 := HF3
                  have HOW9 : ∀ k, (Value.slice p6 ax.length q6).ownBlock = some k → C < k ∧ W10.heap.size ≤ k := fun k hk => by
                    rcases Q9 with h | h
                    · rw [h] at hk
                      exact ⟨HOW.out k hk, (World.ownsRow.lt OQ.out k hk).1⟩
                    · rw [h] at hk
                      have h8 := HS3.out
                      simp only [World.size_alloc, Option.some.injEq] at hk
                      constructor <;> omega
                  have O10 : OwnE lkCells 3 57 W10.heap.size (w6.setCell ⟨D, 1, none⟩ (.slice p6 ax.length q6)) (.slice p6 ax.length q6) ax :=
                    OwnE.rebase (OwnE.fr P9 S10.2 (fun k hk e => by have e2 : k = D := e; have := (HOW9 k hk).1; have := S9.out.l2; omega)) (fun k hk => (HOW9 k hk).2)
                  have F10 : Fr (fun k => k ≤ C) W10 (w6.setCell ⟨D, 1, none⟩ (.slice p6 ax.length q6)) := (F3.out.trans' F9.out (fun k hk e => by have := (World.ownsRow.lt OQ.out k e).1; omega)).trans (S10.2.mono (fun k _ e => by have e2 : k = D := e; have := S9.out.l2; show k ≤ C; omega))
                  go_roundw
                  case rel => exact ⟨q + 1, t3, _, ax, by omega, by go_num, by show _ = _; rw [← hlx, HQL.out], HT3.out, by rw [hlx]; exact S10.1, by rw [hlx]; exact O10, by rw [hlx]; exact F10, by show _ = _; rw [HQ.out, HST.out, HLK.out, HAX.out]⟩
                  case measure => simp [intOf]; omega
              · obtain rfl : q = n2 := by omega
                have HLS : Hid (pLs bd (pNs bd (some 3)).1 = (s', ls)) := hid (by rw [HQ.out, Nat.sub_self]; rfl)
                have L10 : C < W10.heap.size := by
                  obtain ⟨_, _, _, _, _, _, h9⟩ := S6.out.rd
                  exact (Array.getElem?_eq_some_iff.1 h9).1
                have RN7 : Hid (RdN (fun k => k ≤ C) wr (.slice np d.length nc) d) := hid (RdN.fr RN6.out FQ.out (fun k _ h => h))
                have RL7 : Hid (RdE lkCells (fun k => k ≤ C) wr (.slice tp ls.length tc) ls) := hid (OwnE.rd OQ.out (fun k hk e => by have e2 : k ≤ C := e; have := (World.ownsRow.lt OQ.out k hk).1; omega))
                have HWR : Hid (W10.heap.size ≤ wr.heap.size) := FQ.out.size
                have LWR : C < wr.heap.size := Nat.lt_of_lt_of_le L10 HWR.out
                have LWC : w.heap.size < C := by have := S6.out.l1; have := S6.out.l2; omega
                obtain ⟨a0, m0, d0, z0, b0, hv0, hcell⟩ := SQ.out.rd
                have HV0 := hid hv0
                obtain ⟨s7, hs7⟩ : ∃ t, (pIs bd (s')).1 = t := ⟨_, rfl⟩
                obtain ⟨rs, hrs⟩ : ∃ t, (pIs bd (s')).2 = t := ⟨_, rfl⟩
                have HDX : Hid (pDec bd = if s7 = some bd.length then some ⟨d.map (·.1), ls, rs⟩ else none) := by
                  show _ = _
                  have e1 := HLS.out
                  rw [HN.out] at e1
                  unfold pDec
                  simp only [HN.out, e1, hs7, hrs]
                have HC := hid (integers_any (.slice (some ⟨b, off, none⟩) bd.length c) bd (s') wr (RT.out _ SQ.out.fr) HOQ.out hbl)
                have HS7 := hid hs7
                have HRS := hid hrs
                clear hs7 hrs hv0
                obtain ⟨c0, c1, c2, cf, cl⟩ := three_of hcell
                clear hcell OQ HQ S6 RN6 FQ
                go_wp2_with fail
                have hc := HC.out
                unfold RefIsOut at hc
                rw [HV0.out, HS7.out, HRS.out] at hc
                refine hc.mono ?_
                clear hc c0 c1 c2 cf cl HC
                rintro e w7 ⟨ra, rc, rfl, hrd, hf⟩
                have RI8 := hid hrd
                have RN8 : Hid (RdN (fun k => k ≤ C) w7 (.slice np d.length nc) d) := hid (RdN.fr RN7.out hf (fun _ _ h => h.elim))
                have RL8 : Hid (RdE lkCells (fun k => k ≤ C) w7 (.slice tp ls.length tc) ls) := hid (RL7.out.step hf)
                have S7 := hid (SQ.out.step hf (fun _ h => h.elim))
                clear hf hrd SQ RN7 RL7
                obtain ⟨a9, m9, d9, z9, b9, hr9, hcell⟩ := S7.out.rd
                clear hr9
                obtain ⟨c0, c1, c2, cf, cl⟩ := three_of hcell
                clear hcell
                obtain ⟨e0, e1, e2, ef, el⟩ := three_of S7.out.dm

                cases s7 with
                | none =>
                  have X : Hid (AN = .error 1) := by
                    show _ = _
                    rw [X.out, HDX.out, if_neg (by simp)]
                  clear HDX
                  rw [show rV (.slice (some ⟨b, off, none⟩) bd.length c) (none) = .agg #[.slice none 0 0, .int .i64 0, .bool true] from rfl]
                  have T8 := S7.out.read (s' := none) (a := none) (m := 0) (d := 0) (z := 0) (b := true) rfl
                  have S8 := hid T8.1
                  have F8 := hid T8.2
                  clear T8
                  obtain ⟨e0', e1', e2', ef', el'⟩ := three_of S8.out.dm
                  have T9 := S8.out.put (tN := .slice np d.length nc) (tL := .slice tp ls.length tc) (tR := .slice ra rs.length rc) 2 (.slice ra rs.length rc) rfl
                  have S9 := hid T9.1
                  have F9 := hid T9.2
                  clear T9
                  obtain ⟨g0, g1, g2, gf, gl⟩ := three_of S9.out.rd.bad
                  obtain ⟨p0, p1, p2, pf, pl⟩ := three_of S9.out.out
                  go_wp2_with fail
                  have SR := S9.out.out
                  have FR := S9.out.fr
                  obtain ⟨q1, q2⟩ := st3 (x := .slice none 0 0) (y := .slice none 0 0) (z := .slice none 0 0) SR
                  obtain ⟨r0, r1, r2, rf, rl⟩ := three_of q1
                  refine bodyPost_ret (v := .tuple #[dumpV (.slice none 0 0) (.slice none 0 0) (.slice none 0 0), .int .i64 19]) (by simp [results, Tryz.results16, go_sem, r0, r1, r2, dumpV]) rfl ?_
                  rw [X.out]
                  exact ⟨_, _, _, emptyD, rfl, rdD_empty _ _, rfl, FR.trans' q2 (fun q hq e => by have e2 : q = w.heap.size := e; omega)⟩
                | some p7 =>
                  by_cases hp7 : p7 = bd.length
                  rotate_left
                  · have X : Hid (AN = .error 1) := by
                      show _ = _
                      rw [X.out, HDX.out, if_neg (by simpa using hp7)]
                    clear HDX
                    rw [show rV (.slice (some ⟨b, off, none⟩) bd.length c) (some p7) = .agg #[.slice (some ⟨b, off, none⟩) bd.length c, .int .i64 p7, .bool false] from rfl]
                    have T8 := S7.out.read (s' := some p7) (a := (some ⟨b, off, none⟩)) (m := bd.length) (d := c) (z := p7) (b := false) rfl
                    have S8 := hid T8.1
                    have F8 := hid T8.2
                    clear T8
                    obtain ⟨e0', e1', e2', ef', el'⟩ := three_of S8.out.dm
                    have T9 := S8.out.put (tN := .slice np d.length nc) (tL := .slice tp ls.length tc) (tR := .slice ra rs.length rc) 2 (.slice ra rs.length rc) rfl
                    have S9 := hid T9.1
                    have F9 := hid T9.2
                    clear T9
                    obtain ⟨g0, g1, g2, gf, gl⟩ := three_of S9.out.rd.good
                    obtain ⟨p0, p1, p2, pf, pl⟩ := three_of S9.out.out
                    have gp7 : ((p7 : Int) == (bd.length : Int)) = false := by simp only [beq_eq_false_iff_ne]; omega
                    have gp8 : ¬ ((p7 : Int) = (bd.length : Int)) := by omega
                    go_wp2_with fail
                    have SR := S9.out.out
                    have FR := S9.out.fr
                    obtain ⟨q1, q2⟩ := st3 (x := .slice none 0 0) (y := .slice none 0 0) (z := .slice none 0 0) SR
                    obtain ⟨r0, r1, r2, rf, rl⟩ := three_of q1
                    refine bodyPost_ret (v := .tuple #[dumpV (.slice none 0 0) (.slice none 0 0) (.slice none 0 0), .int .i64 19]) (by simp [results, Tryz.results16, go_sem, r0, r1, r2, dumpV]) rfl ?_
                    rw [X.out]
                    exact ⟨_, _, _, emptyD, rfl, rdD_empty _ _, rfl, FR.trans' q2 (fun q hq e => by have e2 : q = w.heap.size := e; omega)⟩
                  · have X : Hid (AN = .ok ⟨d.map (·.1), ls, rs⟩) := by
                      show _ = _
                      rw [X.out, HDX.out, if_pos (by rw [hp7])]
                    clear HDX
                    subst hp7
                    rw [show rV (.slice (some ⟨b, off, none⟩) bd.length c) (some bd.length) = .agg #[.slice (some ⟨b, off, none⟩) bd.length c, .int .i64 bd.length, .bool false] from rfl]
                    have T8 := S7.out.read (s' := some bd.length) (a := (some ⟨b, off, none⟩)) (m := bd.length) (d := c) (z := bd.length) (b := false) rfl
                    have S8 := hid T8.1
                    have F8 := hid T8.2
                    clear T8
                    obtain ⟨e0', e1', e2', ef', el'⟩ := three_of S8.out.dm
                    have T9 := S8.out.put (tN := .slice np d.length nc) (tL := .slice tp ls.length tc) (tR := .slice ra rs.length rc) 2 (.slice ra rs.length rc) rfl
                    have S9 := hid T9.1
                    have F9 := hid T9.2
                    clear T9
                    obtain ⟨g0, g1, g2, gf, gl⟩ := three_of S9.out.rd.good
                    obtain ⟨p0, p1, p2, pf, pl⟩ := three_of S9.out.out
                    obtain ⟨h0, h1, h2, hdf, hdl⟩ := three_of S9.out.dm
                    go_wp2_with fail
                    have SR := S9.out.out
                    have FR := S9.out.fr
                    obtain ⟨q1, q2⟩ := st3 (x := .slice np d.length nc) (y := .slice tp ls.length tc) (z := .slice ra rs.length rc) SR
                    have HF : Fr (fun k => k ≤ C) w7 _ := ((F8.out.mono (fun k _ e => by have e2 : k = C := e; show k ≤ C; omega)).trans (F9.out.mono (fun k _ e => by have e2 : k = D := e; have := S9.out.l2; show k ≤ C; omega))).trans (q2.mono (fun k _ e => by have e2 : k = w.heap.size := e; show k ≤ C; omega))
                    have RI9 := (RI8.out.weaken (M := fun k => k ≤ C) (fun k _ e => by have e2 : k ≤ C := e; show k < wr.heap.size; omega)).fr HF (fun _ _ h => h)
                    have RN9 := RdN.fr RN8.out HF (fun _ _ h => h)
                    have RL9 := RL8.out.fr HF (fun _ _ h => h)
                    obtain ⟨r0, r1, r2, rf, rl⟩ := three_of q1
                    refine bodyPost_ret (v := .tuple #[dumpV (.slice np d.length nc) (.slice tp ls.length tc) (.slice ra rs.length rc), .int .i64 0]) (by simp [results, Tryz.results16, go_sem, r0, r1, r2, dumpV]) rfl ?_
                    rw [X.out]
                    exact ⟨_, _, _, ⟨d, ls, rs⟩, rfl, ⟨RN9.weaken (fun _ _ h => h.elim), RL9.weaken (fun _ _ h => h.elim), RI9.weaken (fun _ _ h => h.elim)⟩, rfl, FR.trans' q2 (fun q hq e => by have e2 : q = w.heap.size := e; omega)⟩
          | some p =>
            obtain ⟨s4, hs4⟩ : ∃ t, (pNode bd (some p)).1 = t := ⟨_, rfl⟩
            obtain ⟨nd, hnd⟩ : ∃ t, (pNode bd (some p)).2 = t := ⟨_, rfl⟩
            have HS4 : Hid (∀ q, s4 = some q → q ≤ bd.length) := fun q hq => pNode_ok q (hs4.trans hq)
            have HST : Hid (pMany (pNode bd) (n1 - j) (some p) (d.map (·.1)) = pMany (pNode bd) (n1 - (j + 1)) s4 (d.map (·.1) ++ [nd])) := hid (by rw [← hs4, ← hnd]; exact pMany_step hlt)
            obtain ⟨a4, m4, d4, z4, b4, hr4, hq1, hq2⟩ := rV_form (some ⟨b, off, none⟩) bd.length c s4
            clear hq1 hq2
            have HI := hid (refNode_any ⟨b, off, none⟩ c bd (some p) wr (RT.out _ SJ.out.fr) HOK.out hbl hbc)
            have HE4 := hid hs4
            have HX4 := hid hnd
            have HR4 := hid hr4
            clear hs4 hnd hr4
            have hcg := SJ.out.rd.good
            obtain ⟨c0, c1, c2, cf, cl⟩ := three_of hcg
            clear hcg
            go_wp2_with fail
            have hc := HI.out
            unfold RefNodeOut at hc
            rw [HE4.out, HX4.out, HR4.out, show rV (.slice (some ⟨b, off, none⟩) bd.length c) (some p) = .agg #[.slice (some ⟨b, off, none⟩) bd.length c, .int .i64 p, .bool false] from rfl] at hc
            refine hc.mono ?_
            clear hc c0 c1 c2 cf cl HI
            rintro e w4 ⟨ia, ic, rfl, hrd, hf⟩
            have S4 := hid (SJ.out.step hf (fun _ h => h.elim))
            have O4 := hid (OwnE.step OJ.out hf)
            have A4 : Hid (∀ x ∈ d, RdI (fun k => k ≤ C ∨ (Value.slice np d.length nc).ownBlock = some k) w4 x.2 x.1.args) := fun x hx => (AJ.out x hx).fr hf (fun _ _ h => h.elim)
            have AN4 : Hid (RdI (fun k => k ≤ C ∨ (Value.slice np d.length nc).ownBlock = some k) w4 (.slice ia nd.args.length ic) nd.args) := RdI.weaken hrd (fun k _ e => by
              rcases e with e | e
              · obtain ⟨_, _, _, _, _, _, h9⟩ := SJ.out.rd
                have := (Array.getElem?_eq_some_iff.1 h9).1
                show k < _
                omega
              · exact (World.ownsRow.lt OJ.out k e).2)
            clear hf hrd SJ OJ AJ
            have hc4 := S4.out.rd.good
            obtain ⟨c0, c1, c2, cf, cl⟩ := three_of hc4
            have hne : ∀ q, (Value.slice np d.length nc).ownBlock = some q → ¬ q = C := fun q hq => by have := (World.ownsRow.lt O4.out q hq).1; omega
            obtain ⟨s5, g5⟩ := S4.out.read HR4.out
            have S6 := hid ((s5.step ((Fr.refl NoB _).alloc (.cells #[.slice a4 m4 d4, .int .i64 z4, .bool b4] 72)) (fun _ h => h.elim)).step ((Fr.refl NoB _).alloc (.cells (nodeCells nd (.slice ia nd.args.length ic)) 44)) (fun _ h => h.elim))
            have O6 := hid (OwnE.step (OwnE.step (OwnE.fr O4.out g5 (fun q hq e => hne q hq e)) ((Fr.refl NoB _).alloc (.cells #[.slice a4 m4 d4, .int .i64 z4, .bool b4] 72))) ((Fr.refl NoB _).alloc (.cells (nodeCells nd (.slice ia nd.args.length ic)) 44)))
            have RF : Hid (∀ x l, RdI (fun k => k ≤ C ∨ (Value.slice np d.length nc).ownBlock = some k) w4 x l → RdI (fun k => k ≤ C ∨ (Value.slice np d.length nc).ownBlock = some k) (((((w4.setCell ⟨C, 0, none⟩ (.slice a4 m4 d4)).setCell ⟨C, 1, none⟩ (.int .i64 z4)).setCell ⟨C, 2, none⟩ (.bool b4)).alloc (.cells #[.slice a4 m4 d4, .int .i64 z4, .bool b4] 72)).alloc (.cells (nodeCells nd (.slice ia nd.args.length ic)) 44)) x l) := fun x l h =>
              ((RdI.fr h g5 (fun k _ e => .inl (by have e2 : k = C := e; omega))).fr ((Fr.refl NoB _).alloc (.cells #[.slice a4 m4 d4, .int .i64 z4, .bool b4] 72)) (fun _ _ h => h.elim)).fr ((Fr.refl NoB _).alloc (.cells (nodeCells nd (.slice ia nd.args.length ic)) 44)) (fun _ _ h => h.elim)
            have A6 : Hid (∀ x ∈ d, RdI (fun k => k ≤ C ∨ (Value.slice np d.length nc).ownBlock = some k) (((((w4.setCell ⟨C, 0, none⟩ (.slice a4 m4 d4)).setCell ⟨C, 1, none⟩ (.int .i64 z4)).setCell ⟨C, 2, none⟩ (.bool b4)).alloc (.cells #[.slice a4 m4 d4, .int .i64 z4, .bool b4] 72)).alloc (.cells (nodeCells nd (.slice ia nd.args.length ic)) 44)) x.2 x.1.args) := fun x hx => RF.out _ _ (A4.out x hx)
            have AN6 : Hid (RdI (fun k => k ≤ C ∨ (Value.slice np d.length nc).ownBlock = some k) (((((w4.setCell ⟨C, 0, none⟩ (.slice a4 m4 d4)).setCell ⟨C, 1, none⟩ (.int .i64 z4)).setCell ⟨C, 2, none⟩ (.bool b4)).alloc (.cells #[.slice a4 m4 d4, .int .i64 z4, .bool b4] 72)).alloc (.cells (nodeCells nd (.slice ia nd.args.length ic)) 44)) (.slice ia nd.args.length ic) nd.args) := hid (RF.out _ _ AN4.out)
            have N6 : Hid ((((((w4.setCell ⟨C, 0, none⟩ (.slice a4 m4 d4)).setCell ⟨C, 1, none⟩ (.int .i64 z4)).setCell ⟨C, 2, none⟩ (.bool b4)).alloc (.cells #[.slice a4 m4 d4, .int .i64 z4, .bool b4] 72)).alloc (.cells (nodeCells nd (.slice ia nd.args.length ic)) 44)).heap[w4.heap.size + 1]? = some (.cells (nodeCells nd (.slice ia nd.args.length ic)) 44 (0, 0))) := at_new' (by simp)
            clear hc4 hne s5 g5 RF A4 AN4 O4 S4
            dsimp only
            repeat (first | go_values | go_skip | go_guarded | go_step | go_upon)
            obtain ⟨w6, hw6⟩ : ∃ w6, ((((w4.setCell ⟨C, 0, none⟩ (.slice a4 m4 d4)).setCell ⟨C, 1, none⟩ (.int .i64 z4)).setCell ⟨C, 2, none⟩ (.bool b4)).alloc (.cells #[.slice a4 m4 d4, .int .i64 z4, .bool b4] 72)).alloc (.cells (nodeCells nd (.slice ia nd.args.length ic)) 44) = w6 := ⟨_, rfl⟩
            rw [hw6] at S6 O6 A6 AN6 N6 ⊢
            clear hw6 c0 c1 c2 cf cl
            obtain ⟨e0, e1, e2, ef, el⟩ := three_of S6.out.dm
            obtain ⟨n0, n1', n2, n3, n4, nf, nl⟩ := five_of N6.out
            clear e1 e2
            go_simp
            go_wp2_with (at_builtin; go_loud (refine ap_nodes _ rfl _ _ rfl (C + 1) (.slice np d.length nc) d rfl (OwnE.step O6.out ((Fr.refl NoB w6).alloc _)) NoB _ [(nd, .slice ia nd.args.length ic)] rfl (rdN_lit (Fr.refl NoB _) ((AN6.out.weaken (fun _ _ h => h.elim)).fr ((Fr.refl NoB w6).alloc _) (fun _ _ h => h))) ?_ ?_ ?_; (have := HDL.out; simp only [List.length_singleton]; omega); (obtain ⟨_, _, _, _, _, _, h9⟩ := S6.out.rd; have := (Array.getElem?_eq_some_iff.1 h9).1; simp only [World.size_alloc]; omega); intro v6 w7 ho6 hg6 hb6; obtain ⟨ax, HAX⟩ : ∃ ax, Hid (ax = d ++ [(nd, Value.slice ia nd.args.length ic)]) := ⟨_, hid rfl⟩; rw [← HAX.out] at ho6; obtain ⟨p6, q6, hv6⟩ := OwnE.form ho6; subst hv6; have f6 : Fr (fun b => (Value.slice np d.length nc).ownBlock = some b) w6 w7 := Fr.grown ((Fr.refl _ w6).alloc _) hg6 (fun k hk _ => hk); have S7 := hid (S6.out.step f6 (fun q hq => by have := (World.ownsRow.lt O6.out q hq).1; omega)); have O7 := hid ho6; have A7 : Hid (∀ x ∈ ax, RdI (fun k => k ≤ C ∨ (Value.slice p6 ax.length q6).ownBlock = some k) w7 x.2 x.1.args) := fun x hx => nodes_kept A6.out AN6.out HAX.out f6 hb6 x hx; clear ho6 hg6 hb6 f6 S6 O6 A6 AN6; obtain ⟨e0', e1', e2', ef', el'⟩ := three_of S7.out.dm))
            obtain ⟨s8, f8⟩ := S7.out.put (tN := .slice p6 ax.length q6) (tL := .slice none 0 0) (tR := .slice none 0 0) 0 (.slice p6 ax.length q6) rfl
            have O8 : OwnN (C + 1) _ _ ax := OwnE.fr O7.out f8 (fun q hq e => by have := (World.ownsRow.lt O7.out q hq).1; have := S7.out.l2; have e2 : q = D := e; omega)
            have A8 : ∀ x ∈ ax, RdI (fun k => k ≤ C ∨ (Value.slice p6 ax.length q6).ownBlock = some k) _ x.2 x.1.args := fun x hx => (A7.out x hx).fr f8 (fun k _ e => .inl (by have e2 : k = D := e; have := S7.out.l2; omega))
            go_roundw
            case rel => exact ⟨j + 1, s4, _, ax, by omega, by go_num, by show _ = _; rw [HAX.out, List.length_append, HDL.out]; rfl, HS4.out, s8, O8, A8, by
              show _ = _
              rw [HJ.out, HST.out, HAX.out, List.map_append]; rfl⟩
            case measure => simp [intOf]; omega
        · obtain rfl : j = n1 := by omega
          have HN : Hid (pNs bd (some 3) = (s', d.map (·.1))) := hid (by rw [HJ.out, Nat.sub_self]; rfl)
          have RN : Hid (RdN (fun k => k ≤ C) wr (.slice np d.length nc) d) := ⟨OwnE.rd OJ.out (fun k hk e => by have e2 : k ≤ C := e; have := (World.ownsRow.lt OJ.out k hk).1; omega), fun x hx => (AJ.out x hx).weaken (fun k _ e => .inl e)⟩
          obtain ⟨a0, m0, d0, z0, b0, hv0, hcell⟩ := SJ.out.rd
          have HV0 := hid hv0
          obtain ⟨s5, hs5⟩ : ∃ t, (pC bd (s')).1 = t := ⟨_, rfl⟩
          obtain ⟨n2, hn2⟩ : ∃ t, (pC bd (s')).2 = t := ⟨_, rfl⟩
          have HS5 : Hid (∀ p, s5 = some p → p ≤ bd.length) := fun p hp => pC_ok p (hs5.trans hp)
          obtain ⟨a5, m5, d5, z5, b5, hr5, hq1, hq2⟩ := rV_form (some ⟨b, off, none⟩) bd.length c s5
          clear hq1 hq2
          have HR5 := hid hr5
          have hn2l : n2 ≤ bd.length := by rw [← hn2]; exact pC_le _ _
          have HN2 : Hid (pLs bd (pNs bd (some 3)).1 = pMany (pLnk bd) n2 s5 []) := by show _ = _; rw [HN.out, ← hs5, ← hn2]; rfl
          have HC := hid (count_any (.slice (some ⟨b, off, none⟩) bd.length c) bd (s') wr (RT.out _ SJ.out.fr) HOK.out hbl)
          have HE5 := hid hs5
          have HX5 := hid hn2
          clear hs5 hn2 hr5 hv0
          obtain ⟨c0, c1, c2, cf, cl⟩ := three_of hcell
          clear hcell OJ AJ HJ
          go_wp2_with fail
          have hc := HC.out
          rw [HV0.out, HE5.out, HX5.out, HR5.out] at hc
          refine hc.mono ?_
          clear hc c0 c1 c2 cf cl HC
          rintro e w5 ⟨rfl, hf⟩
          have RN5 : Hid (RdN (fun k => k ≤ C) w5 (.slice np d.length nc) d) := RdN.fr RN.out hf (fun _ _ h => h.elim)
          have S5 := hid (SJ.out.step hf (fun _ h => h.elim))
          clear hf SJ RN
          obtain ⟨a9, m9, d9, z9, b9, _, hcell⟩ := S5.out.rd
          obtain ⟨c0, c1, c2, cf, cl⟩ := three_of hcell
          clear hcell
          obtain ⟨s6, f6⟩ := S5.out.read HR5.out
          have S6 := hid s6
          have RN6 : Hid (RdN (fun k => k ≤ C) _ (.slice np d.length nc) d) := hid (RdN.fr RN5.out f6 (fun k _ e => by have e2 : k = C := e; omega))
          clear s6 f6 S5 RN5
          go_wp2_with fail
          clear c0 c1 c2 cf cl
          obtain ⟨W10, hW10⟩ : ∃ W, ((w5.setCell ⟨C, 0, none⟩ (.slice a5 m5 d5)).setCell ⟨C, 1, none⟩ (.int .i64 z5)).setCell ⟨C, 2, none⟩ (.bool b5) = W := ⟨_, rfl⟩
          rw [hW10] at S6 RN6 ⊢
          clear hW10
          go_loopw [12] (fun i wr => ∃ (q : Nat) (s' : Option Nat) (t : Value) (ls : List Lnk), q ≤ n2 ∧ i = .int .i64 q ∧ Hid (ls.length = q) ∧ Hid (∀ p, s' = some p → p ≤ bd.length) ∧ Hid (DcR w D C (.slice (some ⟨b, off, none⟩) bd.length c) s' (.slice np d.length nc) t (.slice none 0 0) wr) ∧ Hid (OwnE lkCells 3 57 W10.heap.size wr t ls) ∧ Hid (Fr (fun k => k ≤ C) W10 wr) ∧ Hid (pLs bd (pNs bd (some 3)).1 = pMany (pLnk bd) (n2 - q) s' ls)) (fun i _ => n2 - (intOf i).toNat)
          case atStart => exact ⟨0, s5, _, [], Nat.zero_le _, rfl, rfl, HS5, S6, OwnE.nil _ _ _ _ _, Fr.refl _ _, HN2⟩
          case round =>
            obtain ⟨q, s', t, ls, hq, rfl, HQL, HOQ, SQ, OQ, FQ, HQ⟩ := hrel
            obtain ⟨tp, tc, htv⟩ := OwnE.form OQ.out
            subst htv
            by_cases hlt2 : q < n2
            · cases s' with
              | none =>
                have HLS : Hid (pLs bd (pNs bd (some 3)).1 = (none, ls)) := hid (by rw [HQ.out]; exact pMany_none _ _ _)
                have L10 : C < W10.heap.size := by
                  obtain ⟨_, _, _, _, _, _, h9⟩ := S6.out.rd
                  exact (Array.getElem?_eq_some_iff.1 h9).1
                have RN7 : Hid (RdN (fun k => k ≤ C) wr (.slice np d.length nc) d) := hid (RdN.fr RN6.out FQ.out (fun k _ h => h))
                have RL7 : Hid (RdE lkCells (fun k => k ≤ C) wr (.slice tp ls.length tc) ls) := hid (OwnE.rd OQ.out (fun k hk e => by have e2 : k ≤ C := e; have := (World.ownsRow.lt OQ.out k hk).1; omega))
                have HWR : Hid (W10.heap.size ≤ wr.heap.size) := FQ.out.size
                have LWR : C < wr.heap.size := Nat.lt_of_lt_of_le L10 HWR.out
                have LWC : w.heap.size < C := by have := S6.out.l1; have := S6.out.l2; omega
                have hcell := SQ.out.rd.bad
                have HV0 := hid (show rV (.slice (some ⟨b, off, none⟩) bd.length c) none = .agg #[.slice none 0 0, .int .i64 0, .bool true] from rfl)
                obtain ⟨s7, hs7⟩ : ∃ t, (pIs bd (none)).1 = t := ⟨_, rfl⟩
                obtain ⟨rs, hrs⟩ : ∃ t, (pIs bd (none)).2 = t := ⟨_, rfl⟩
                have HDX : Hid (pDec bd = if s7 = some bd.length then some ⟨d.map (·.1), ls, rs⟩ else none) := by
                  show _ = _
                  have e1 := HLS.out
                  rw [HN.out] at e1
                  unfold pDec
                  simp only [HN.out, e1, hs7, hrs]
                have HC := hid (integers_any (.slice (some ⟨b, off, none⟩) bd.length c) bd (none) wr (RT.out _ SQ.out.fr) HOQ.out hbl)
                have HS7 := hid hs7
                have HRS := hid hrs
                clear hs7 hrs
                obtain ⟨c0, c1, c2, cf, cl⟩ := three_of hcell
                clear hcell OQ HQ S6 RN6 FQ
                go_wp2_with fail
                have hc := HC.out
                unfold RefIsOut at hc
                rw [HV0.out, HS7.out, HRS.out] at hc
                refine hc.mono ?_
                clear hc c0 c1 c2 cf cl HC
                rintro e w7 ⟨ra, rc, rfl, hrd, hf⟩
                have RI8 := hid hrd
                have RN8 : Hid (RdN (fun k => k ≤ C) w7 (.slice np d.length nc) d) := hid (RdN.fr RN7.out hf (fun _ _ h => h.elim))
                have RL8 : Hid (RdE lkCells (fun k => k ≤ C) w7 (.slice tp ls.length tc) ls) := hid (RL7.out.step hf)
                have S7 := hid (SQ.out.step hf (fun _ h => h.elim))
                clear hf hrd SQ RN7 RL7
                obtain ⟨a9, m9, d9, z9, b9, hr9, hcell⟩ := S7.out.rd
                clear hr9
                obtain ⟨c0, c1, c2, cf, cl⟩ := three_of hcell
                clear hcell
                obtain ⟨e0, e1, e2, ef, el⟩ := three_of S7.out.dm
                obtain rfl : s7 = none := HS7.out.symm.trans (pIs_none bd)
                have X : Hid (AN = .error 1) := by
                  show _ = _
                  rw [X.out, HDX.out, if_neg (by simp)]
                clear HDX
                rw [show rV (.slice (some ⟨b, off, none⟩) bd.length c) (none) = .agg #[.slice none 0 0, .int .i64 0, .bool true] from rfl]
                have T8 := S7.out.read (s' := none) (a := none) (m := 0) (d := 0) (z := 0) (b := true) rfl
                have S8 := hid T8.1
                have F8 := hid T8.2
                clear T8
                obtain ⟨e0', e1', e2', ef', el'⟩ := three_of S8.out.dm
                have T9 := S8.out.put (tN := .slice np d.length nc) (tL := .slice tp ls.length tc) (tR := .slice ra rs.length rc) 2 (.slice ra rs.length rc) rfl
                have S9 := hid T9.1
                have F9 := hid T9.2
                clear T9
                obtain ⟨g0, g1, g2, gf, gl⟩ := three_of S9.out.rd.bad
                obtain ⟨p0, p1, p2, pf, pl⟩ := three_of S9.out.out
                go_wp2_with fail
                have SR := S9.out.out
                have FR := S9.out.fr
                obtain ⟨q1, q2⟩ := st3 (x := .slice none 0 0) (y := .slice none 0 0) (z := .slice none 0 0) SR
                obtain ⟨r0, r1, r2, rf, rl⟩ := three_of q1
                refine bodyPost_ret (v := .tuple #[dumpV (.slice none 0 0) (.slice none 0 0) (.slice none 0 0), .int .i64 19]) (by simp [results, Tryz.results16, go_sem, r0, r1, r2, dumpV]) rfl ?_
                rw [X.out]
                exact ⟨_, _, _, emptyD, rfl, rdD_empty _ _, rfl, FR.trans' q2 (fun q hq e => by have e2 : q = w.heap.size := e; omega)⟩
              | some p =>
                have HST : Hid (pMany (pLnk bd) (n2 - q) (some p) ls = pMany (pLnk bd) (n2 - (q + 1)) (pLnk bd (some p)).1 (ls ++ [(pLnk bd (some p)).2])) := hid (pMany_step hlt2)
                obtain ⟨t1, ht1⟩ : ∃ t, (pS bd (some p)).1 = t := ⟨_, rfl⟩
                obtain ⟨x1, hx1⟩ : ∃ t, (pS bd (some p)).2 = t := ⟨_, rfl⟩
                obtain ⟨t2, ht2⟩ : ∃ t, (pS bd t1).1 = t := ⟨_, rfl⟩
                obtain ⟨x2, hx2⟩ : ∃ t, (pS bd t1).2 = t := ⟨_, rfl⟩
                obtain ⟨t3, ht3⟩ : ∃ t, (pS bd t2).1 = t := ⟨_, rfl⟩
                obtain ⟨x3, hx3⟩ : ∃ t, (pS bd t2).2 = t := ⟨_, rfl⟩
                have HLK : Hid (pLnk bd (some p) = (t3, ⟨x1, x2, x3⟩)) := by
                  show _ = _
                  unfold pLnk
                  simp only
                  rw [ht1, hx1, ht2, hx2, ht3, hx3]
                have HT1 : Hid (∀ p, t1 = some p → p ≤ bd.length) := fun p hp => pN_ok p (ht1.trans hp)
                have HT2 : Hid (∀ p, t2 = some p → p ≤ bd.length) := fun p hp => pN_ok p (ht2.trans hp)
                have HT3 : Hid (∀ p, t3 = some p → p ≤ bd.length) := fun p hp => pN_ok p (ht3.trans hp)
                obtain ⟨e1, f1, g1, y1, h1, hr1, hq1, hq2⟩ := rV_form (some ⟨b, off, none⟩) bd.length c t1
                obtain ⟨e2, f2, g2, y2, h2, hr2, hq3, hq4⟩ := rV_form (some ⟨b, off, none⟩) bd.length c t2
                obtain ⟨e3, f3, g3, y3, h3, hr3, hq5, hq6⟩ := rV_form (some ⟨b, off, none⟩) bd.length c t3
                clear hq1 hq2 hq3 hq4 hq5 hq6
                have K1 := hid ht1
                have V1 := hid hx1
                have K2 := hid ht2
                have V2 := hid hx2
                have K3 := hid ht3
                have V3 := hid hx3
                have E1 := hid hr1
                have E2 := hid hr2
                have E3 := hid hr3
                clear ht1 hx1 ht2 hx2 ht3 hx3 hr1 hr2 hr3
                have S0 : Hid (LkT w D C wr wr.heap.size (.slice (some ⟨b, off, none⟩) bd.length c) (some p) (.slice np d.length nc) (.slice tp ls.length tc) 0 0 0 (wr.alloc (.cells #[.int .i64 0, .int .i64 0, .int .i64 0] 57))) :=
                  ⟨SQ.out.step ((Fr.refl NoB wr).alloc _) (fun _ h => h.elim), at_new wr _, (Fr.refl _ wr).alloc _⟩
                have HLB : Hid (wr.heap.size ≤ wr.heap.size ∧ C < wr.heap.size) := by
                  obtain ⟨_, _, _, _, _, _, h9⟩ := SQ.out.rd
                  have := (Array.getElem?_eq_some_iff.1 h9).1
                  exact ⟨Nat.le_refl _, this⟩
                obtain ⟨c0, c1, c2, cf, cl⟩ := three_of SQ.out.rd.good
                go_wp2_with fail
                have hc := integer_any (.slice (some ⟨b, off, none⟩) bd.length c) bd (some p) _ (RT.out _ S0.out.dc.fr) HOQ.out hbl
                rw [show rV (.slice (some ⟨b, off, none⟩) bd.length c) (some p) = .agg #[.slice (some ⟨b, off, none⟩) bd.length c, .int .i64 p, .bool false] from rfl, K1.out, V1.out, E1.out] at hc
                refine hc.mono ?_
                clear hc c0 c1 c2 cf cl
                rintro e v1 ⟨rfl, hf⟩
                have T1 := hid (S0.out.step hf (fun _ h => h.elim))
                clear hf S0
                obtain ⟨a9, m9, d9, z9, b9, _, hcell⟩ := T1.out.dc.rd
                obtain ⟨c0', c1', c2', cf', cl'⟩ := three_of hcell
                clear hcell
                have U1 := hid (T1.out.read E1.out HLB.out.2)
                obtain ⟨l0, l1, l2, lf, ll⟩ := three_of U1.out.lk
                have S1 := hid (U1.out.put 0 x1 (x' := x1) (y' := 0) (z' := 0) HLB.out rfl)
                clear T1 U1
                obtain ⟨a8, m8, d8, z8, b8, hv8, hcell⟩ := S1.out.dc.rd
                have e8 := hv8.symm.trans E1.out
                simp only [Value.agg.injEq, Array.mk.injEq, List.cons.injEq, Value.slice.injEq, Value.int.injEq, true_and, Value.bool.injEq, and_true] at e8
                obtain ⟨⟨rfl, rfl, rfl⟩, rfl, rfl⟩ := e8
                clear hv8
                obtain ⟨c0, c1, c2, cf, cl⟩ := three_of hcell
                clear hcell
                go_wp2_with fail
                have hc := integer_any (.slice (some ⟨b, off, none⟩) bd.length c) bd (t1) _ (RT.out _ S1.out.dc.fr) HT1.out hbl
                rw [E1.out, K2.out, V2.out, E2.out] at hc
                refine hc.mono ?_
                clear hc c0 c1 c2 cf cl l0 l1 l2 lf ll c0' c1' c2' cf' cl'
                rintro e v2 ⟨rfl, hf⟩
                have T2 := hid (S1.out.step hf (fun _ h => h.elim))
                clear hf S1
                obtain ⟨a9, m9, d9, z9, b9, _, hcell⟩ := T2.out.dc.rd
                obtain ⟨c0', c1', c2', cf', cl'⟩ := three_of hcell
                clear hcell
                have U2 := hid (T2.out.read E2.out HLB.out.2)
                obtain ⟨l0, l1, l2, lf, ll⟩ := three_of U2.out.lk
                have S2 := hid (U2.out.put 1 x2 (x' := x1) (y' := x2) (z' := 0) HLB.out rfl)
                clear T2 U2
                obtain ⟨a8, m8, d8, z8, b8, hv8, hcell⟩ := S2.out.dc.rd
                have e8 := hv8.symm.trans E2.out
                simp only [Value.agg.injEq, Array.mk.injEq, List.cons.injEq, Value.slice.injEq, Value.int.injEq, true_and, Value.bool.injEq, and_true] at e8
                obtain ⟨⟨rfl, rfl, rfl⟩, rfl, rfl⟩ := e8
                clear hv8
                obtain ⟨c0, c1, c2, cf, cl⟩ := three_of hcell
                clear hcell
                go_wp2_with fail
                have hc := integer_any (.slice (some ⟨b, off, none⟩) bd.length c) bd (t2) _ (RT.out _ S2.out.dc.fr) HT2.out hbl
                rw [E2.out, K3.out, V3.out, E3.out] at hc
                refine hc.mono ?_
                clear hc c0 c1 c2 cf cl l0 l1 l2 lf ll c0' c1' c2' cf' cl'
                rintro e v3 ⟨rfl, hf⟩
                have T3 := hid (S2.out.step hf (fun _ h => h.elim))
                clear hf S2
                obtain ⟨a9, m9, d9, z9, b9, _, hcell⟩ := T3.out.dc.rd
                obtain ⟨c0', c1', c2', cf', cl'⟩ := three_of hcell
                clear hcell
                have U3 := hid (T3.out.read E3.out HLB.out.2)
                obtain ⟨l0, l1, l2, lf, ll⟩ := three_of U3.out.lk
                have S3 := hid (U3.out.put 2 x3 (x' := x1) (y' := x2) (z' := x3) HLB.out rfl)
                clear T3 U3
                obtain ⟨a8, m8, d8, z8, b8, hv8, hcell⟩ := S3.out.dc.rd
                have e8 := hv8.symm.trans E3.out
                simp only [Value.agg.injEq, Array.mk.injEq, List.cons.injEq, Value.slice.injEq, Value.int.injEq, true_and, Value.bool.injEq, and_true] at e8
                obtain ⟨⟨rfl, rfl, rfl⟩, rfl, rfl⟩ := e8
                clear hv8
                obtain ⟨c0, c1, c2, cf, cl⟩ := three_of hcell
                clear hcell
                have L10 : C < W10.heap.size := by
                  obtain ⟨_, _, _, _, _, _, h9⟩ := S6.out.rd
                  exact (Array.getElem?_eq_some_iff.1 h9).1
                have HOW : Hid (∀ k, (Value.slice tp ls.length tc).ownBlock = some k → C < k) := fun k hk => by have := (World.ownsRow.lt OQ.out k hk).1; omega
                have O3 := hid (OwnE.fr OQ.out S3.out.fr (fun k hk e => by have e2 : k ≤ C := e; have := HOW.out k hk; omega))
                have F3 := hid (FQ.out.trans S3.out.fr)
                have HF3 := hid F3.out.size
                obtain ⟨p0, p1, p2, pf, pl⟩ := three_of S3.out.dc.dm
                clear p0 p2 c0 c1 c2 cf cl
                have g0 := S3.out.lk
                obtain ⟨l0', l1', l2', lf', ll'⟩ := three_of g0
                clear g0
                go_wp2_with (at_builtin; go_loud (refine ap_lnk _ rfl _ _ rfl (.slice tp ls.length tc) ls rfl (OwnE.base (OwnE.step O3.out ((Fr.refl NoB _).alloc _)) (Nat.zero_le _)) _ [⟨x1, x2, x3⟩] rfl (rdL_lit ⟨x1, x2, x3⟩ (by simp)) ?_ ?_; (have := HQL.out; simp only [List.length_singleton]; omega); intro p6 q6 w6 ho6 hg6 hb6; have F9 := hid (Fr.grown ((Fr.refl (fun b => (Value.slice tp ls.length tc).ownBlock = some b) _).alloc _) hg6 (fun k hk _ => hk)); have S9 := hid (S3.out.dc.step F9.out (fun k hk => HOW.out k hk)); have O9 := hid ho6; have B9 := hid hb6; clear ho6 hg6 hb6; obtain ⟨d0', d1', d2', df', dl'⟩ := three_of S9.out.dm))
                obtain ⟨ax, HAX⟩ : ∃ ax, Hid (ax = ls ++ [(⟨x1, x2, x3⟩ : Lnk)]) := ⟨_, hid rfl⟩
                have hlx : ls.length + 1 = ax.length := by rw [HAX.out, List.length_append]; rfl
                have P9 := O9.out
                have Q9 := B9.out
                rw [← HAX.out] at P9 Q9
                have S10 := S9.out.put (tN := .slice np d.length nc) (tL := .slice p6 ax.length q6) (tR := .slice none 0 0) 1 (.slice p6 ax.length q6) rfl
                have HS3 := HF3
                have HOW9 : ∀ k, (Value.slice p6 ax.length q6).ownBlock = some k → C < k ∧ W10.heap.size ≤ k := fun k hk => by
                  rcases Q9 with h | h
                  · rw [h] at hk
                    exact ⟨HOW.out k hk, (World.ownsRow.lt OQ.out k hk).1⟩
                  · rw [h] at hk
                    have h8 := HS3.out
                    simp only [World.size_alloc, Option.some.injEq] at hk
                    constructor <;> omega
                have O10 : OwnE lkCells 3 57 W10.heap.size (w6.setCell ⟨D, 1, none⟩ (.slice p6 ax.length q6)) (.slice p6 ax.length q6) ax :=
                  OwnE.rebase (OwnE.fr P9 S10.2 (fun k hk e => by have e2 : k = D := e; have := (HOW9 k hk).1; have := S9.out.l2; omega)) (fun k hk => (HOW9 k hk).2)
                have F10 : Fr (fun k => k ≤ C) W10 (w6.setCell ⟨D, 1, none⟩ (.slice p6 ax.length q6)) := (F3.out.trans' F9.out (fun k hk e => by have := (World.ownsRow.lt OQ.out k e).1; omega)).trans (S10.2.mono (fun k _ e => by have e2 : k = D := e; have := S9.out.l2; show k ≤ C; omega))
                go_roundw
                case rel => exact ⟨q + 1, t3, _, ax, by omega, by go_num, by show _ = _; rw [← hlx, HQL.out], HT3.out, by rw [hlx]; exact S10.1, by rw [hlx]; exact O10, by rw [hlx]; exact F10, by show _ = _; rw [HQ.out, HST.out, HLK.out, HAX.out]⟩
                case measure => simp [intOf]; omega
            · obtain rfl : q = n2 := by omega
              have HLS : Hid (pLs bd (pNs bd (some 3)).1 = (s', ls)) := hid (by rw [HQ.out, Nat.sub_self]; rfl)
              have L10 : C < W10.heap.size := by
                obtain ⟨_, _, _, _, _, _, h9⟩ := S6.out.rd
                exact (Array.getElem?_eq_some_iff.1 h9).1
              have RN7 : Hid (RdN (fun k => k ≤ C) wr (.slice np d.length nc) d) := hid (RdN.fr RN6.out FQ.out (fun k _ h => h))
              have RL7 : Hid (RdE lkCells (fun k => k ≤ C) wr (.slice tp ls.length tc) ls) := hid (OwnE.rd OQ.out (fun k hk e => by have e2 : k ≤ C := e; have := (World.ownsRow.lt OQ.out k hk).1; omega))
              have HWR : Hid (W10.heap.size ≤ wr.heap.size) := FQ.out.size
              have LWR : C < wr.heap.size := Nat.lt_of_lt_of_le L10 HWR.out
              have LWC : w.heap.size < C := by have := S6.out.l1; have := S6.out.l2; omega
              obtain ⟨a0, m0, d0, z0, b0, hv0, hcell⟩ := SQ.out.rd
              have HV0 := hid hv0
              obtain ⟨s7, hs7⟩ : ∃ t, (pIs bd (s')).1 = t := ⟨_, rfl⟩
              obtain ⟨rs, hrs⟩ : ∃ t, (pIs bd (s')).2 = t := ⟨_, rfl⟩
              have HDX : Hid (pDec bd = if s7 = some bd.length then some ⟨d.map (·.1), ls, rs⟩ else none) := by
                show _ = _
                have e1 := HLS.out
                rw [HN.out] at e1
                unfold pDec
                simp only [HN.out, e1, hs7, hrs]
              have HC := hid (integers_any (.slice (some ⟨b, off, none⟩) bd.length c) bd (s') wr (RT.out _ SQ.out.fr) HOQ.out hbl)
              have HS7 := hid hs7
              have HRS := hid hrs
              clear hs7 hrs hv0
              obtain ⟨c0, c1, c2, cf, cl⟩ := three_of hcell
              clear hcell OQ HQ S6 RN6 FQ
              go_wp2_with fail
              have hc := HC.out
              unfold RefIsOut at hc
              rw [HV0.out, HS7.out, HRS.out] at hc
              refine hc.mono ?_
              clear hc c0 c1 c2 cf cl HC
              rintro e w7 ⟨ra, rc, rfl, hrd, hf⟩
              have RI8 := hid hrd
              have RN8 : Hid (RdN (fun k => k ≤ C) w7 (.slice np d.length nc) d) := hid (RdN.fr RN7.out hf (fun _ _ h => h.elim))
              have RL8 : Hid (RdE lkCells (fun k => k ≤ C) w7 (.slice tp ls.length tc) ls) := hid (RL7.out.step hf)
              have S7 := hid (SQ.out.step hf (fun _ h => h.elim))
              clear hf hrd SQ RN7 RL7
              obtain ⟨a9, m9, d9, z9, b9, hr9, hcell⟩ := S7.out.rd
              clear hr9
              obtain ⟨c0, c1, c2, cf, cl⟩ := three_of hcell
              clear hcell
              obtain ⟨e0, e1, e2, ef, el⟩ := three_of S7.out.dm

              cases s7 with
              | none =>
                have X : Hid (AN = .error 1) := by
                  show _ = _
                  rw [X.out, HDX.out, if_neg (by simp)]
                clear HDX
                rw [show rV (.slice (some ⟨b, off, none⟩) bd.length c) (none) = .agg #[.slice none 0 0, .int .i64 0, .bool true] from rfl]
                have T8 := S7.out.read (s' := none) (a := none) (m := 0) (d := 0) (z := 0) (b := true) rfl
                have S8 := hid T8.1
                have F8 := hid T8.2
                clear T8
                obtain ⟨e0', e1', e2', ef', el'⟩ := three_of S8.out.dm
                have T9 := S8.out.put (tN := .slice np d.length nc) (tL := .slice tp ls.length tc) (tR := .slice ra rs.length rc) 2 (.slice ra rs.length rc) rfl
                have S9 := hid T9.1
                have F9 := hid T9.2
                clear T9
                obtain ⟨g0, g1, g2, gf, gl⟩ := three_of S9.out.rd.bad
                obtain ⟨p0, p1, p2, pf, pl⟩ := three_of S9.out.out
                go_wp2_with fail
                have SR := S9.out.out
                have FR := S9.out.fr
                obtain ⟨q1, q2⟩ := st3 (x := .slice none 0 0) (y := .slice none 0 0) (z := .slice none 0 0) SR
                obtain ⟨r0, r1, r2, rf, rl⟩ := three_of q1
                refine bodyPost_ret (v := .tuple #[dumpV (.slice none 0 0) (.slice none 0 0) (.slice none 0 0), .int .i64 19]) (by simp [results, Tryz.results16, go_sem, r0, r1, r2, dumpV]) rfl ?_
                rw [X.out]
                exact ⟨_, _, _, emptyD, rfl, rdD_empty _ _, rfl, FR.trans' q2 (fun q hq e => by have e2 : q = w.heap.size := e; omega)⟩
              | some p7 =>
                by_cases hp7 : p7 = bd.length
                rotate_left
                · have X : Hid (AN = .error 1) := by
                    show _ = _
                    rw [X.out, HDX.out, if_neg (by simpa using hp7)]
                  clear HDX
                  rw [show rV (.slice (some ⟨b, off, none⟩) bd.length c) (some p7) = .agg #[.slice (some ⟨b, off, none⟩) bd.length c, .int .i64 p7, .bool false] from rfl]
                  have T8 := S7.out.read (s' := some p7) (a := (some ⟨b, off, none⟩)) (m := bd.length) (d := c) (z := p7) (b := false) rfl
                  have S8 := hid T8.1
                  have F8 := hid T8.2
                  clear T8
                  obtain ⟨e0', e1', e2', ef', el'⟩ := three_of S8.out.dm
                  have T9 := S8.out.put (tN := .slice np d.length nc) (tL := .slice tp ls.length tc) (tR := .slice ra rs.length rc) 2 (.slice ra rs.length rc) rfl
                  have S9 := hid T9.1
                  have F9 := hid T9.2
                  clear T9
                  obtain ⟨g0, g1, g2, gf, gl⟩ := three_of S9.out.rd.good
                  obtain ⟨p0, p1, p2, pf, pl⟩ := three_of S9.out.out
                  have gp7 : ((p7 : Int) == (bd.length : Int)) = false := by simp only [beq_eq_false_iff_ne]; omega
                  have gp8 : ¬ ((p7 : Int) = (bd.length : Int)) := by omega
                  go_wp2_with fail
                  have SR := S9.out.out
                  have FR := S9.out.fr
                  obtain ⟨q1, q2⟩ := st3 (x := .slice none 0 0) (y := .slice none 0 0) (z := .slice none 0 0) SR
                  obtain ⟨r0, r1, r2, rf, rl⟩ := three_of q1
                  refine bodyPost_ret (v := .tuple #[dumpV (.slice none 0 0) (.slice none 0 0) (.slice none 0 0), .int .i64 19]) (by simp [results, Tryz.results16, go_sem, r0, r1, r2, dumpV]) rfl ?_
                  rw [X.out]
                  exact ⟨_, _, _, emptyD, rfl, rdD_empty _ _, rfl, FR.trans' q2 (fun q hq e => by have e2 : q = w.heap.size := e; omega)⟩
                · have X : Hid (AN = .ok ⟨d.map (·.1), ls, rs⟩) := by
                    show _ = _
                    rw [X.out, HDX.out, if_pos (by rw [hp7])]
                  clear HDX
                  subst hp7
                  rw [show rV (.slice (some ⟨b, off, none⟩) bd.length c) (some bd.length) = .agg #[.slice (some ⟨b, off, none⟩) bd.length c, .int .i64 bd.length, .bool false] from rfl]
                  have T8 := S7.out.read (s' := some bd.length) (a := (some ⟨b, off, none⟩)) (m := bd.length) (d := c) (z := bd.length) (b := false) rfl
                  have S8 := hid T8.1
                  have F8 := hid T8.2
                  clear T8
                  obtain ⟨e0', e1', e2', ef', el'⟩ := three_of S8.out.dm
                  have T9 := S8.out.put (tN := .slice np d.length nc) (tL := .slice tp ls.length tc) (tR := .slice ra rs.length rc) 2 (.slice ra rs.length rc) rfl
                  have S9 := hid T9.1
                  have F9 := hid T9.2
                  clear T9
                  obtain ⟨g0, g1, g2, gf, gl⟩ := three_of S9.out.rd.good
                  obtain ⟨p0, p1, p2, pf, pl⟩ := three_of S9.out.out
                  obtain ⟨h0, h1, h2, hdf, hdl⟩ := three_of S9.out.dm
                  go_wp2_with fail
                  have SR := S9.out.out
                  have FR := S9.out.fr
                  obtain ⟨q1, q2⟩ := st3 (x := .slice np d.length nc) (y := .slice tp ls.length tc) (z := .slice ra rs.length rc) SR
                  have HF : Fr (fun k => k ≤ C) w7 _ := ((F8.out.mono (fun k _ e => by have e2 : k = C := e; show k ≤ C; omega)).trans (F9.out.mono (fun k _ e => by have e2 : k = D := e; have := S9.out.l2; show k ≤ C; omega))).trans (q2.mono (fun k _ e => by have e2 : k = w.heap.size := e; show k ≤ C; omega))
                  have RI9 := (RI8.out.weaken (M := fun k => k ≤ C) (fun k _ e => by have e2 : k ≤ C := e; show k < wr.heap.size; omega)).fr HF (fun _ _ h => h)
                  have RN9 := RdN.fr RN8.out HF (fun _ _ h => h)
                  have RL9 := RL8.out.fr HF (fun _ _ h => h)
                  obtain ⟨r0, r1, r2, rf, rl⟩ := three_of q1
                  refine bodyPost_ret (v := .tuple #[dumpV (.slice np d.length nc) (.slice tp ls.length tc) (.slice ra rs.length rc), .int .i64 0]) (by simp [results, Tryz.results16, go_sem, r0, r1, r2, dumpV]) rfl ?_
                  rw [X.out]
                  exact ⟨_, _, _, ⟨d, ls, rs⟩, rfl, ⟨RN9.weaken (fun _ _ h => h.elim), RL9.weaken (fun _ _ h => h.elim), RI9.weaken (fun _ _ h => h.elim)⟩, rfl, FR.trans' q2 (fun q hq e => by have e2 : q = w.heap.size := e; omega)⟩
end Go.Proofs.YtndfncaoejbkiaaGreatDoor
end
