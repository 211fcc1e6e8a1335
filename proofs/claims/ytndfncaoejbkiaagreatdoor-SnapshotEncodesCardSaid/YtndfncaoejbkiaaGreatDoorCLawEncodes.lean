/- SnapshotEncodes: Encode, Sum and Same answer what the reference answers, for all dumps within the bounds of few and at most 1000 bytes (beyond them the example alone is checked). Condition: the three listed tables of Go's library hold what the program's text lays in them (the card ties this). -/
import Derived.Test.YtndfncaoejbkiaaGreatDoorPk12
import Derived.Test.YtndfncaoejbkiaaGreatDoorCards
import Derived.Test.YtndfncaoejbkiaaGreatDoorTie
import Derived.SevenTiedAt
set_option linter.all false
namespace Go.Proofs.YtndfncaoejbkiaaGreatDoor.LawEncodes
open Go.ChangeShapes Go.WideShapes Go.ChangeAt Go.RowKit
set_option maxRecDepth 100000

set_option maxHeartbeats 8000000 in
theorem walk (sN sL sR tN tL tR u : Value) (d c : Dmp) (l : List UInt8) (w : World) (hd : RdD NoB w sN sL sR d) (hok : DmpOk d) (hc : RdD NoB w tN tL tR c) (hokc : DmpOk c) (hl : RdY NoB w u l) (ht : Tab w) : Calls Tryz.prog 3 #[dumpV sN sL sR, dumpV tN tL tR, u] w fun e w' => e = .returned (.bool true) ∧ Fr NoB w w' := by
  obtain ⟨pN, cN, hp⟩ := hd.nodes.form
  subst hp
  obtain ⟨pL, cL, hp⟩ := hd.links.form
  subst hp
  obtain ⟨pR, cR, hp⟩ := hd.roots.form
  subst hp
  obtain ⟨qN, kN, hp⟩ := hc.nodes.form
  subst hp
  obtain ⟨qL, kL, hp⟩ := hc.links.form
  subst hp
  obtain ⟨qR, kR, hp⟩ := hc.roots.form
  subst hp
  obtain ⟨pu, cu, hp⟩ := RdY.form hl
  subst hp
  have F0 : Hid (Fr NoB w ((w.alloc (.cells (dumpCells (.slice pN d.nodes.length cN) (.slice pL d.links.length cL) (.slice pR d.roots.length cR)) 26)).alloc (.cells (dumpCells (.slice qN c.nodes.length kN) (.slice qL c.links.length kL) (.slice qR c.roots.length kR)) 26))) := ((Fr.refl NoB w).alloc _).alloc _
  have B0 : Hid (((w.alloc (.cells (dumpCells (.slice pN d.nodes.length cN) (.slice pL d.links.length cL) (.slice pR d.roots.length cR)) 26)).alloc (.cells (dumpCells (.slice qN c.nodes.length kN) (.slice qL c.links.length kL) (.slice qR c.roots.length kR)) 26)).heap[w.heap.size]? = some (.cells (dumpCells (.slice pN d.nodes.length cN) (.slice pL d.links.length cL) (.slice pR d.roots.length cR)) 26 (0, 0))) := at_old (at_new w _) _
  have C0 : Hid (((w.alloc (.cells (dumpCells (.slice pN d.nodes.length cN) (.slice pL d.links.length cL) (.slice pR d.roots.length cR)) 26)).alloc (.cells (dumpCells (.slice qN c.nodes.length kN) (.slice qL c.links.length kL) (.slice qR c.roots.length kR)) 26)).heap[w.heap.size + 1]? = some (.cells (dumpCells (.slice qN c.nodes.length kN) (.slice qL c.links.length kL) (.slice qR c.roots.length kR)) 26 (0, 0))) := at_new' (by simp)
  have HD := hid hd
  have HC := hid hc
  have HL := hid hl
  have HT := hid ht
  have HOK := hid hok
  have HOKC := hid hokc
  clear hd hc hl ht hok hokc
  unfold dumpV
  go_enter Tryz.func3, Tryz.ntmps3
  go_wp2_with fail
  refine (few_any _ _ _ d _ (HD.out.step F0.out)).mono ?_
  rintro e w1 ⟨⟨b, rfl, hb⟩, hf⟩
  have F1 := hid (F0.out.step hf)
  have B1 := hid (hf.at (fun h => h) B0.out)
  have C1 := hid (hf.at (fun h => h) C0.out)
  have T1 := hid (HT.out.fr F1.out (fun h => h))
  have HBF := hid hb
  clear hb hf F0 B0 C0
  cases b with
  | false =>
    go_wp2_with fail
    refine (lives_any _ T1.out).mono ?_
    rintro e w9 ⟨rfl, hf⟩
    have F9 := hid (F1.out.step hf)
    clear hf
    go_wp2
    go_ret
    exact ⟨rfl, F9.out⟩
  | true =>
    have FP := hid (HBF.out rfl)
    have SZ := hid (dmpsz FP.out HOK.out)
    clear HBF
    obtain ⟨x0, x1, x2, xf, xl⟩ := three_of B1.out
    obtain ⟨y0, y1, y2, yf, yl⟩ := three_of C1.out
    go_wp2_with fail
    refine (few_any _ _ _ c _ (HC.out.step F1.out)).mono ?_
    rintro e w2 ⟨⟨b, rfl, hb⟩, hf⟩
    have F2 := hid (F1.out.step hf)
    have B2 := hid (hf.at (fun h => h) B1.out)
    have C2 := hid (hf.at (fun h => h) C1.out)
    have T2 := hid (HT.out.fr F2.out (fun h => h))
    have HBF := hid hb
    clear hb hf F1 B1 C1 T1 x0 x1 x2 xf xl y0 y1 y2 yf yl
    cases b with
    | false =>
      go_wp2_with fail
      refine (lives_any _ T2.out).mono ?_
      rintro e w9 ⟨rfl, hf⟩
      have F9 := hid (F2.out.step hf)
      clear hf
      go_wp2
      go_ret
      exact ⟨rfl, F9.out⟩
    | true =>
      have FPC := hid (HBF.out rfl)
      have SZC := hid (dmpsz FPC.out HOKC.out)
      clear HBF
      by_cases c3 : (1000 : Int) < (l.length : Int)
      · go_wp2_with fail
        refine (lives_any _ T2.out).mono ?_
        rintro e w9 ⟨rfl, hf⟩
        have F9 := hid (F2.out.step hf)
        clear hf
        go_wp2
        go_ret
        exact ⟨rfl, F9.out⟩
      have hll : l.length ≤ 1000 := by omega
      have EL := hid (head_len SZ.out)
      go_wp2
      obtain ⟨W0, hW0⟩ : ∃ W0, w2.drew = W0 := ⟨_, rfl⟩
      have F3 : Hid (Fr NoB w W0) := by show Fr _ _ _; rw [← hW0]; exact F2.out.drew
      have B3 : Hid (W0.heap[w.heap.size]? = some (.cells (dumpCells (.slice pN d.nodes.length cN) (.slice pL d.links.length cL) (.slice pR d.roots.length cR)) 26 (0, 0))) := by show _ = _; rw [← hW0]; exact B2.out
      have C3 : Hid (W0.heap[w.heap.size + 1]? = some (.cells (dumpCells (.slice qN c.nodes.length kN) (.slice qL c.links.length kL) (.slice qR c.roots.length kR)) 26 (0, 0))) := by show _ = _; rw [← hW0]; exact C2.out
      clear F2 B2 C2 T2 c3
      have HS : Hid (∀ W' w', Fr NoB W0 W' → Fr NoB W' w' → Hid (Fr NoB W' w') ∧ w'.cell? ⟨w.heap.size, 0, none⟩ = some (.slice pN d.nodes.length cN) ∧ w'.cell? ⟨w.heap.size, 1, none⟩ = some (.slice pL d.links.length cL) ∧ w'.cell? ⟨w.heap.size, 2, none⟩ = some (.slice pR d.roots.length cR) ∧ w'.cell? ⟨w.heap.size + 1, 0, none⟩ = some (.slice qN c.nodes.length kN) ∧ w'.cell? ⟨w.heap.size + 1, 1, none⟩ = some (.slice qL c.links.length kL) ∧ w'.cell? ⟨w.heap.size + 1, 2, none⟩ = some (.slice qR c.roots.length kR)) := fun W' w' h1 h2 => by
        have h3 := h1.step h2
        obtain ⟨x0, x1, x2, _, _⟩ := three_of (h3.at (fun h => h) B3.out)
        obtain ⟨y0, y1, y2, _, _⟩ := three_of (h3.at (fun h => h) C3.out)
        exact ⟨h2, x0, x1, x2, y0, y1, y2⟩
      refine region_effG (fun w' => Hid (Fr NoB W0 w') ∧ w'.cell? ⟨w.heap.size, 0, none⟩ = some (.slice pN d.nodes.length cN) ∧ w'.cell? ⟨w.heap.size, 1, none⟩ = some (.slice pL d.links.length cL) ∧ w'.cell? ⟨w.heap.size, 2, none⟩ = some (.slice pR d.roots.length cR) ∧ w'.cell? ⟨w.heap.size + 1, 0, none⟩ = some (.slice qN c.nodes.length kN) ∧ w'.cell? ⟨w.heap.size + 1, 1, none⟩ = some (.slice qL c.links.length kL) ∧ w'.cell? ⟨w.heap.size + 1, 2, none⟩ = some (.slice qR c.roots.length kR)) 27 [(0, 0), (3, 0), (1, 2), (2, 0), (4, 2), (5, 0), (6, 1), (7, 1), (8, 1), (10, 1), (9, 2), (11, 2), (12, 1), (13, 1), (14, 1), (15, 0), (16, 0), (18, 0), (19, 0), (17, 2), (20, 2), (21, 1), (22, 1), (23, 1), (24, 2), (25, 1), (26, 1)] (by kernel_rfl) (by kernel_rfl) ?_ ?_
      · rw [hW0]; exact HS.out W0 W0 (Fr.refl _ _) (Fr.refl _ _)
      rw [hW0]
      clear hW0
      repeat (first | (refine effg_off (by rfl) (by rfl) ?_; (try simp only [Act.put, List.setIfInBounds_toArray, List.set_cons_zero, List.set_cons_succ])) | (refine effg_pu ?_ (by rfl) (by rfl) ?_ ?_; rotate_left; (focus (intro w'; go_simp; (try with_reducible rfl); done)); (try simp only [Act.put, List.setIfInBounds_toArray, List.set_cons_zero, List.set_cons_succ])) | (refine effg_rd ?_ (by rfl) (by rfl) ?_ ?_; rotate_left; (focus (intro w' hS; (try obtain ⟨hq1, hS⟩ := hS); (try obtain ⟨hq2, hS⟩ := hS); (try obtain ⟨hq3, hS⟩ := hS); (try obtain ⟨hq4, hS⟩ := hS); (try obtain ⟨hq5, hS⟩ := hS); (try obtain ⟨hq6, hS⟩ := hS); (try obtain ⟨hq7, hS⟩ := hS); (try obtain ⟨hq8, hS⟩ := hS); (try obtain ⟨hq9, hS⟩ := hS); (try obtain ⟨hq10, hS⟩ := hS); (try obtain ⟨hq11, hS⟩ := hS); (try obtain ⟨hq12, hS⟩ := hS); (try obtain ⟨hq13, hS⟩ := hS); (try obtain ⟨hq14, hS⟩ := hS); (try obtain ⟨hq15, hS⟩ := hS); (try obtain ⟨hq16, hS⟩ := hS); (try obtain ⟨hq17, hS⟩ := hS); (try obtain ⟨hq18, hS⟩ := hS); (try obtain ⟨hq19, hS⟩ := hS); (try dsimp only at hS); go_simp; (try with_reducible rfl); done)); (try simp only [Act.put, List.setIfInBounds_toArray, List.set_cons_zero, List.set_cons_succ])))
      refine effg_call 9 #[dumpV (.slice pN d.nodes.length cN) (.slice pL d.links.length cL) (.slice pR d.roots.length cR)] (by rfl) (by rfl) (by intro w'; go_simp) ?_
      refine (encode_any _ _ _ d W0 (HD.out.step F3.out) SZ.out).mono ?_
      rintro e w4 ⟨v, rfl, ho, hf⟩
      obtain ⟨v1p, v1c, hv1⟩ := OwnE.form ho
      subst hv1
      have F4 : Hid (Fr NoB W0 w4) := hf
      have R4 := hid (OwnE.rd ho (M := NoB) (fun _ _ h => h))
      have CV4 : Hid (∀ w', Fr NoB w4 w' → (convert 27 9 (.slice v1p (bN (encE (dmOf d))).length v1c)).run Tryz.prog w' = .ok (.string ⟨(bN (encE (dmOf d))).toArray⟩) w') := fun w' h => conv_ownY (OwnE.step ho h)
      clear ho hf
      refine ⟨_, rfl, fun w' => Hid (Fr NoB w4 w') ∧ w'.cell? ⟨w.heap.size, 0, none⟩ = some (.slice pN d.nodes.length cN) ∧ w'.cell? ⟨w.heap.size, 1, none⟩ = some (.slice pL d.links.length cL) ∧ w'.cell? ⟨w.heap.size, 2, none⟩ = some (.slice pR d.roots.length cR) ∧ w'.cell? ⟨w.heap.size + 1, 0, none⟩ = some (.slice qN c.nodes.length kN) ∧ w'.cell? ⟨w.heap.size + 1, 1, none⟩ = some (.slice qL c.links.length kL) ∧ w'.cell? ⟨w.heap.size + 1, 2, none⟩ = some (.slice qR c.roots.length kR), fun w' h => ⟨F4.out.step h.1.out, h.2⟩, fun _ => HS.out w4 w4 F4.out (Fr.refl _ _), ?_⟩
      (try simp only [Act.put, List.setIfInBounds_toArray, List.set_cons_zero, List.set_cons_succ])
      refine effg_rd (.string ⟨(bN (encE (dmOf d))).toArray⟩) (by rfl) (by rfl) ?_ ?_
      · intro w' hS
        have h9 := CV4.out w' hS.1.out
        go_simp
      (try simp only [Act.put, List.setIfInBounds_toArray, List.set_cons_zero, List.set_cons_succ])
      repeat (first | (refine effg_off (by rfl) (by rfl) ?_; (try simp only [Act.put, List.setIfInBounds_toArray, List.set_cons_zero, List.set_cons_succ])) | (refine effg_pu ?_ (by rfl) (by rfl) ?_ ?_; rotate_left; (focus (intro w'; go_simp; (try with_reducible rfl); done)); (try simp only [Act.put, List.setIfInBounds_toArray, List.set_cons_zero, List.set_cons_succ])) | (refine effg_rd ?_ (by rfl) (by rfl) ?_ ?_; rotate_left; (focus (intro w' hS; (try obtain ⟨hq1, hS⟩ := hS); (try obtain ⟨hq2, hS⟩ := hS); (try obtain ⟨hq3, hS⟩ := hS); (try obtain ⟨hq4, hS⟩ := hS); (try obtain ⟨hq5, hS⟩ := hS); (try obtain ⟨hq6, hS⟩ := hS); (try obtain ⟨hq7, hS⟩ := hS); (try obtain ⟨hq8, hS⟩ := hS); (try obtain ⟨hq9, hS⟩ := hS); (try obtain ⟨hq10, hS⟩ := hS); (try obtain ⟨hq11, hS⟩ := hS); (try obtain ⟨hq12, hS⟩ := hS); (try obtain ⟨hq13, hS⟩ := hS); (try obtain ⟨hq14, hS⟩ := hS); (try obtain ⟨hq15, hS⟩ := hS); (try obtain ⟨hq16, hS⟩ := hS); (try obtain ⟨hq17, hS⟩ := hS); (try obtain ⟨hq18, hS⟩ := hS); (try obtain ⟨hq19, hS⟩ := hS); (try dsimp only at hS); go_simp; (try with_reducible rfl); done)); (try simp only [Act.put, List.setIfInBounds_toArray, List.set_cons_zero, List.set_cons_succ])))
      refine effg_call 10 #[dumpV (.slice pN d.nodes.length cN) (.slice pL d.links.length cL) (.slice pR d.roots.length cR)] (by rfl) (by rfl) (by intro w'; go_simp) ?_
      refine (refEncode_any _ _ _ d w4 (HD.out.step (F3.out.step F4.out)) SZ.out _ rfl (Nat.le_trans EL.out (by decide))).mono ?_
      rintro e w5 ⟨v2p, v2c, rfl, ho, hf⟩
      have F5 : Hid (Fr NoB W0 w5) := F4.out.step hf
      have G5 := hid hf
      have CV5 : Hid (∀ w', Fr NoB w5 w' → (convert 27 9 (.slice v2p (bN (encE (dmOf d))).length v2c)).run Tryz.prog w' = .ok (.string ⟨(bN (encE (dmOf d))).toArray⟩) w') := fun w' h => conv_ownY (OwnE.step ho h)
      clear ho hf
      refine ⟨_, rfl, fun w' => Hid (Fr NoB w5 w') ∧ w'.cell? ⟨w.heap.size, 0, none⟩ = some (.slice pN d.nodes.length cN) ∧ w'.cell? ⟨w.heap.size, 1, none⟩ = some (.slice pL d.links.length cL) ∧ w'.cell? ⟨w.heap.size, 2, none⟩ = some (.slice pR d.roots.length cR) ∧ w'.cell? ⟨w.heap.size + 1, 0, none⟩ = some (.slice qN c.nodes.length kN) ∧ w'.cell? ⟨w.heap.size + 1, 1, none⟩ = some (.slice qL c.links.length kL) ∧ w'.cell? ⟨w.heap.size + 1, 2, none⟩ = some (.slice qR c.roots.length kR), fun w' h => ⟨G5.out.step h.1.out, h.2⟩, fun _ => HS.out w5 w5 F5.out (Fr.refl _ _), ?_⟩
      (try simp only [Act.put, List.setIfInBounds_toArray, List.set_cons_zero, List.set_cons_succ])
      refine effg_rd (.string ⟨(bN (encE (dmOf d))).toArray⟩) (by rfl) (by rfl) ?_ ?_
      · intro w' hS
        have h9 := CV5.out w' hS.1.out
        go_simp
      (try simp only [Act.put, List.setIfInBounds_toArray, List.set_cons_zero, List.set_cons_succ])
      repeat (first | (refine effg_off (by rfl) (by rfl) ?_; (try simp only [Act.put, List.setIfInBounds_toArray, List.set_cons_zero, List.set_cons_succ])) | (refine effg_pu ?_ (by rfl) (by rfl) ?_ ?_; rotate_left; (focus (intro w'; go_simp; (try with_reducible rfl); done)); (try simp only [Act.put, List.setIfInBounds_toArray, List.set_cons_zero, List.set_cons_succ])) | (refine effg_rd ?_ (by rfl) (by rfl) ?_ ?_; rotate_left; (focus (intro w' hS; (try obtain ⟨hq1, hS⟩ := hS); (try obtain ⟨hq2, hS⟩ := hS); (try obtain ⟨hq3, hS⟩ := hS); (try obtain ⟨hq4, hS⟩ := hS); (try obtain ⟨hq5, hS⟩ := hS); (try obtain ⟨hq6, hS⟩ := hS); (try obtain ⟨hq7, hS⟩ := hS); (try obtain ⟨hq8, hS⟩ := hS); (try obtain ⟨hq9, hS⟩ := hS); (try obtain ⟨hq10, hS⟩ := hS); (try obtain ⟨hq11, hS⟩ := hS); (try obtain ⟨hq12, hS⟩ := hS); (try obtain ⟨hq13, hS⟩ := hS); (try obtain ⟨hq14, hS⟩ := hS); (try obtain ⟨hq15, hS⟩ := hS); (try obtain ⟨hq16, hS⟩ := hS); (try obtain ⟨hq17, hS⟩ := hS); (try obtain ⟨hq18, hS⟩ := hS); (try obtain ⟨hq19, hS⟩ := hS); (try dsimp only at hS); go_simp; (try with_reducible rfl); done)); (try simp only [Act.put, List.setIfInBounds_toArray, List.set_cons_zero, List.set_cons_succ])))
      have RL5 := hid (RdE.step HL.out (F3.out.step F5.out))
      refine effg_call 11 #[.slice pu l.length cu] (by rfl) (by rfl) (by intro w'; go_simp) ?_
      refine (sum_any _ l w5 RL5.out (by omega)).mono ?_
      rintro e w' ⟨rfl, h9⟩
      have h9 := h9.symm
      subst h9
      refine ⟨_, rfl, _, fun w' h => h, fun _ => HS.out w5 w5 F5.out (Fr.refl _ _), ?_⟩
      (try simp only [Act.put, List.setIfInBounds_toArray, List.set_cons_zero, List.set_cons_succ])
      refine effg_call 12 #[.slice pu l.length cu] (by rfl) (by rfl) (by intro w'; go_simp) ?_
      refine (refSum22_any _ l w5 RL5.out (by omega)).mono ?_
      rintro e w' ⟨rfl, h9⟩
      have h9 := h9.symm
      subst h9
      refine ⟨_, rfl, _, fun w' h => h, fun _ => HS.out w5 w5 F5.out (Fr.refl _ _), ?_⟩
      (try simp only [Act.put, List.setIfInBounds_toArray, List.set_cons_zero, List.set_cons_succ])
      repeat (first | (refine effg_off (by rfl) (by rfl) ?_; (try simp only [Act.put, List.setIfInBounds_toArray, List.set_cons_zero, List.set_cons_succ])) | (refine effg_pu ?_ (by rfl) (by rfl) ?_ ?_; rotate_left; (focus (intro w'; go_simp; (try with_reducible rfl); done)); (try simp only [Act.put, List.setIfInBounds_toArray, List.set_cons_zero, List.set_cons_succ])) | (refine effg_rd ?_ (by rfl) (by rfl) ?_ ?_; rotate_left; (focus (intro w' hS; (try obtain ⟨hq1, hS⟩ := hS); (try obtain ⟨hq2, hS⟩ := hS); (try obtain ⟨hq3, hS⟩ := hS); (try obtain ⟨hq4, hS⟩ := hS); (try obtain ⟨hq5, hS⟩ := hS); (try obtain ⟨hq6, hS⟩ := hS); (try obtain ⟨hq7, hS⟩ := hS); (try obtain ⟨hq8, hS⟩ := hS); (try obtain ⟨hq9, hS⟩ := hS); (try obtain ⟨hq10, hS⟩ := hS); (try obtain ⟨hq11, hS⟩ := hS); (try obtain ⟨hq12, hS⟩ := hS); (try obtain ⟨hq13, hS⟩ := hS); (try obtain ⟨hq14, hS⟩ := hS); (try obtain ⟨hq15, hS⟩ := hS); (try obtain ⟨hq16, hS⟩ := hS); (try obtain ⟨hq17, hS⟩ := hS); (try obtain ⟨hq18, hS⟩ := hS); (try obtain ⟨hq19, hS⟩ := hS); (try dsimp only at hS); go_simp; (try with_reducible rfl); done)); (try simp only [Act.put, List.setIfInBounds_toArray, List.set_cons_zero, List.set_cons_succ])))
      have F6 := hid (F3.out.step F5.out)
      refine effg_call 13 #[dumpV (.slice pN d.nodes.length cN) (.slice pL d.links.length cL) (.slice pR d.roots.length cR), dumpV (.slice qN c.nodes.length kN) (.slice qL c.links.length kL) (.slice qR c.roots.length kR)] (by rfl) (by rfl) (by intro w'; go_simp) ?_
      refine (same_any _ _ _ _ _ _ d c w5 (HD.out.step F6.out) (HC.out.step F6.out) (by have := SZ.out.nn; omega) (by have := SZ.out.nl; omega) (by have := SZ.out.nr; omega) (args_sz SZ.out) (args_sz SZC.out)).mono ?_
      rintro e w6 ⟨rfl, hf⟩
      have F7 : Hid (Fr NoB W0 w6) := F5.out.step hf
      have G7 := hid hf
      clear hf
      refine ⟨_, rfl, fun w' => Hid (Fr NoB w6 w') ∧ w'.cell? ⟨w.heap.size, 0, none⟩ = some (.slice pN d.nodes.length cN) ∧ w'.cell? ⟨w.heap.size, 1, none⟩ = some (.slice pL d.links.length cL) ∧ w'.cell? ⟨w.heap.size, 2, none⟩ = some (.slice pR d.roots.length cR) ∧ w'.cell? ⟨w.heap.size + 1, 0, none⟩ = some (.slice qN c.nodes.length kN) ∧ w'.cell? ⟨w.heap.size + 1, 1, none⟩ = some (.slice qL c.links.length kL) ∧ w'.cell? ⟨w.heap.size + 1, 2, none⟩ = some (.slice qR c.roots.length kR), fun w' h => ⟨G7.out.step h.1.out, h.2⟩, fun _ => HS.out w6 w6 F7.out (Fr.refl _ _), ?_⟩
      (try simp only [Act.put, List.setIfInBounds_toArray, List.set_cons_zero, List.set_cons_succ])
      repeat (first | (refine effg_off (by rfl) (by rfl) ?_; (try simp only [Act.put, List.setIfInBounds_toArray, List.set_cons_zero, List.set_cons_succ])) | (refine effg_pu ?_ (by rfl) (by rfl) ?_ ?_; rotate_left; (focus (intro w'; go_simp; (try with_reducible rfl); done)); (try simp only [Act.put, List.setIfInBounds_toArray, List.set_cons_zero, List.set_cons_succ])) | (refine effg_rd ?_ (by rfl) (by rfl) ?_ ?_; rotate_left; (focus (intro w' hS; (try obtain ⟨hq1, hS⟩ := hS); (try obtain ⟨hq2, hS⟩ := hS); (try obtain ⟨hq3, hS⟩ := hS); (try obtain ⟨hq4, hS⟩ := hS); (try obtain ⟨hq5, hS⟩ := hS); (try obtain ⟨hq6, hS⟩ := hS); (try obtain ⟨hq7, hS⟩ := hS); (try obtain ⟨hq8, hS⟩ := hS); (try obtain ⟨hq9, hS⟩ := hS); (try obtain ⟨hq10, hS⟩ := hS); (try obtain ⟨hq11, hS⟩ := hS); (try obtain ⟨hq12, hS⟩ := hS); (try obtain ⟨hq13, hS⟩ := hS); (try obtain ⟨hq14, hS⟩ := hS); (try obtain ⟨hq15, hS⟩ := hS); (try obtain ⟨hq16, hS⟩ := hS); (try obtain ⟨hq17, hS⟩ := hS); (try obtain ⟨hq18, hS⟩ := hS); (try obtain ⟨hq19, hS⟩ := hS); (try dsimp only at hS); go_simp; (try with_reducible rfl); done)); (try simp only [Act.put, List.setIfInBounds_toArray, List.set_cons_zero, List.set_cons_succ])))
      have F8 := hid (F3.out.step F7.out)
      refine effg_call 14 #[dumpV (.slice pN d.nodes.length cN) (.slice pL d.links.length cL) (.slice pR d.roots.length cR), dumpV (.slice qN c.nodes.length kN) (.slice qL c.links.length kL) (.slice qR c.roots.length kR)] (by rfl) (by rfl) (by intro w'; go_simp) ?_
      refine (refSameD_any _ _ _ _ _ _ d c w6 (HD.out.step F8.out) (HC.out.step F8.out) (by have := SZ.out.nn; omega) (by have := SZ.out.nl; omega) (by have := SZ.out.nr; omega) (args_sz SZ.out) (args_sz SZC.out)).mono ?_
      rintro e w7 ⟨rfl, hf⟩
      have F9 : Hid (Fr NoB W0 w7) := F7.out.step hf
      have G9 := hid hf
      clear hf
      refine ⟨_, rfl, fun w' => Hid (Fr NoB w7 w') ∧ w'.cell? ⟨w.heap.size, 0, none⟩ = some (.slice pN d.nodes.length cN) ∧ w'.cell? ⟨w.heap.size, 1, none⟩ = some (.slice pL d.links.length cL) ∧ w'.cell? ⟨w.heap.size, 2, none⟩ = some (.slice pR d.roots.length cR) ∧ w'.cell? ⟨w.heap.size + 1, 0, none⟩ = some (.slice qN c.nodes.length kN) ∧ w'.cell? ⟨w.heap.size + 1, 1, none⟩ = some (.slice qL c.links.length kL) ∧ w'.cell? ⟨w.heap.size + 1, 2, none⟩ = some (.slice qR c.roots.length kR), fun w' h => ⟨G9.out.step h.1.out, h.2⟩, fun _ => HS.out w7 w7 F9.out (Fr.refl _ _), ?_⟩
      (try simp only [Act.put, List.setIfInBounds_toArray, List.set_cons_zero, List.set_cons_succ])
      generalize sameS (dmOf d) (dmOf c) = sb
      cases sb with
      | false =>
        repeat (first | (refine effg_off (by rfl) (by rfl) ?_; (try simp only [Act.put, List.setIfInBounds_toArray, List.set_cons_zero, List.set_cons_succ])) | (refine effg_pu ?_ (by rfl) (by rfl) ?_ ?_; rotate_left; (focus (intro w'; go_simp; (try with_reducible rfl); done)); (try simp only [Act.put, List.setIfInBounds_toArray, List.set_cons_zero, List.set_cons_succ])) | (refine effg_rd ?_ (by rfl) (by rfl) ?_ ?_; rotate_left; (focus (intro w' hS; (try obtain ⟨hq1, hS⟩ := hS); (try obtain ⟨hq2, hS⟩ := hS); (try obtain ⟨hq3, hS⟩ := hS); (try obtain ⟨hq4, hS⟩ := hS); (try obtain ⟨hq5, hS⟩ := hS); (try obtain ⟨hq6, hS⟩ := hS); (try obtain ⟨hq7, hS⟩ := hS); (try obtain ⟨hq8, hS⟩ := hS); (try obtain ⟨hq9, hS⟩ := hS); (try obtain ⟨hq10, hS⟩ := hS); (try obtain ⟨hq11, hS⟩ := hS); (try obtain ⟨hq12, hS⟩ := hS); (try obtain ⟨hq13, hS⟩ := hS); (try obtain ⟨hq14, hS⟩ := hS); (try obtain ⟨hq15, hS⟩ := hS); (try obtain ⟨hq16, hS⟩ := hS); (try obtain ⟨hq17, hS⟩ := hS); (try obtain ⟨hq18, hS⟩ := hS); (try obtain ⟨hq19, hS⟩ := hS); (try dsimp only at hS); go_simp; (try with_reducible rfl); done)); (try simp only [Act.put, List.setIfInBounds_toArray, List.set_cons_zero, List.set_cons_succ])))
        have T9 := hid (HT.out.fr (F3.out.step F9.out) (fun h => h))
        refine effg_call 8 #[] (by rfl) (by rfl) (by intro w'; go_simp) ?_
        refine (lives_any w7 T9.out).mono ?_
        rintro e w8 ⟨rfl, hf⟩
        have F10 : Hid (Fr NoB W0 w8) := F9.out.step hf
        have G10 := hid hf
        clear hf
        refine ⟨_, rfl, fun w' => Hid (Fr NoB w8 w') ∧ w'.cell? ⟨w.heap.size, 0, none⟩ = some (.slice pN d.nodes.length cN) ∧ w'.cell? ⟨w.heap.size, 1, none⟩ = some (.slice pL d.links.length cL) ∧ w'.cell? ⟨w.heap.size, 2, none⟩ = some (.slice pR d.roots.length cR) ∧ w'.cell? ⟨w.heap.size + 1, 0, none⟩ = some (.slice qN c.nodes.length kN) ∧ w'.cell? ⟨w.heap.size + 1, 1, none⟩ = some (.slice qL c.links.length kL) ∧ w'.cell? ⟨w.heap.size + 1, 2, none⟩ = some (.slice qR c.roots.length kR), fun w' h => ⟨G10.out.step h.1.out, h.2⟩, fun _ => HS.out w8 w8 F10.out (Fr.refl _ _), ?_⟩
        (try simp only [Act.put, List.setIfInBounds_toArray, List.set_cons_zero, List.set_cons_succ])
        repeat (first | (refine effg_off (by rfl) (by rfl) ?_; (try simp only [Act.put, List.setIfInBounds_toArray, List.set_cons_zero, List.set_cons_succ])) | (refine effg_pu ?_ (by rfl) (by rfl) ?_ ?_; rotate_left; (focus (intro w'; go_simp; (try with_reducible rfl); done)); (try simp only [Act.put, List.setIfInBounds_toArray, List.set_cons_zero, List.set_cons_succ])) | (refine effg_rd ?_ (by rfl) (by rfl) ?_ ?_; rotate_left; (focus (intro w' hS; (try obtain ⟨hq1, hS⟩ := hS); (try obtain ⟨hq2, hS⟩ := hS); (try obtain ⟨hq3, hS⟩ := hS); (try obtain ⟨hq4, hS⟩ := hS); (try obtain ⟨hq5, hS⟩ := hS); (try obtain ⟨hq6, hS⟩ := hS); (try obtain ⟨hq7, hS⟩ := hS); (try obtain ⟨hq8, hS⟩ := hS); (try obtain ⟨hq9, hS⟩ := hS); (try obtain ⟨hq10, hS⟩ := hS); (try obtain ⟨hq11, hS⟩ := hS); (try obtain ⟨hq12, hS⟩ := hS); (try obtain ⟨hq13, hS⟩ := hS); (try obtain ⟨hq14, hS⟩ := hS); (try obtain ⟨hq15, hS⟩ := hS); (try obtain ⟨hq16, hS⟩ := hS); (try obtain ⟨hq17, hS⟩ := hS); (try obtain ⟨hq18, hS⟩ := hS); (try obtain ⟨hq19, hS⟩ := hS); (try dsimp only at hS); go_simp; (try with_reducible rfl); done)); (try simp only [Act.put, List.setIfInBounds_toArray, List.set_cons_zero, List.set_cons_succ])))
        refine effg_nil ?_
        have FF := hid (F3.out.step F10.out)
        go_wp2
        go_ret
        exact ⟨by first | rfl | (simp; done), FF.out⟩
      | true =>
        repeat (first | (refine effg_off (by rfl) (by rfl) ?_; (try simp only [Act.put, List.setIfInBounds_toArray, List.set_cons_zero, List.set_cons_succ])) | (refine effg_pu ?_ (by rfl) (by rfl) ?_ ?_; rotate_left; (focus (intro w'; go_simp; (try with_reducible rfl); done)); (try simp only [Act.put, List.setIfInBounds_toArray, List.set_cons_zero, List.set_cons_succ])) | (refine effg_rd ?_ (by rfl) (by rfl) ?_ ?_; rotate_left; (focus (intro w' hS; (try obtain ⟨hq1, hS⟩ := hS); (try obtain ⟨hq2, hS⟩ := hS); (try obtain ⟨hq3, hS⟩ := hS); (try obtain ⟨hq4, hS⟩ := hS); (try obtain ⟨hq5, hS⟩ := hS); (try obtain ⟨hq6, hS⟩ := hS); (try obtain ⟨hq7, hS⟩ := hS); (try obtain ⟨hq8, hS⟩ := hS); (try obtain ⟨hq9, hS⟩ := hS); (try obtain ⟨hq10, hS⟩ := hS); (try obtain ⟨hq11, hS⟩ := hS); (try obtain ⟨hq12, hS⟩ := hS); (try obtain ⟨hq13, hS⟩ := hS); (try obtain ⟨hq14, hS⟩ := hS); (try obtain ⟨hq15, hS⟩ := hS); (try obtain ⟨hq16, hS⟩ := hS); (try obtain ⟨hq17, hS⟩ := hS); (try obtain ⟨hq18, hS⟩ := hS); (try obtain ⟨hq19, hS⟩ := hS); (try dsimp only at hS); go_simp; (try with_reducible rfl); done)); (try simp only [Act.put, List.setIfInBounds_toArray, List.set_cons_zero, List.set_cons_succ])))
        have T9 := hid (HT.out.fr (F3.out.step F9.out) (fun h => h))
        refine effg_call 8 #[] (by rfl) (by rfl) (by intro w'; go_simp) ?_
        refine (lives_any w7 T9.out).mono ?_
        rintro e w8 ⟨rfl, hf⟩
        have F10 : Hid (Fr NoB W0 w8) := F9.out.step hf
        have G10 := hid hf
        clear hf
        refine ⟨_, rfl, fun w' => Hid (Fr NoB w8 w') ∧ w'.cell? ⟨w.heap.size, 0, none⟩ = some (.slice pN d.nodes.length cN) ∧ w'.cell? ⟨w.heap.size, 1, none⟩ = some (.slice pL d.links.length cL) ∧ w'.cell? ⟨w.heap.size, 2, none⟩ = some (.slice pR d.roots.length cR) ∧ w'.cell? ⟨w.heap.size + 1, 0, none⟩ = some (.slice qN c.nodes.length kN) ∧ w'.cell? ⟨w.heap.size + 1, 1, none⟩ = some (.slice qL c.links.length kL) ∧ w'.cell? ⟨w.heap.size + 1, 2, none⟩ = some (.slice qR c.roots.length kR), fun w' h => ⟨G10.out.step h.1.out, h.2⟩, fun _ => HS.out w8 w8 F10.out (Fr.refl _ _), ?_⟩
        (try simp only [Act.put, List.setIfInBounds_toArray, List.set_cons_zero, List.set_cons_succ])
        repeat (first | (refine effg_off (by rfl) (by rfl) ?_; (try simp only [Act.put, List.setIfInBounds_toArray, List.set_cons_zero, List.set_cons_succ])) | (refine effg_pu ?_ (by rfl) (by rfl) ?_ ?_; rotate_left; (focus (intro w'; go_simp; (try with_reducible rfl); done)); (try simp only [Act.put, List.setIfInBounds_toArray, List.set_cons_zero, List.set_cons_succ])) | (refine effg_rd ?_ (by rfl) (by rfl) ?_ ?_; rotate_left; (focus (intro w' hS; (try obtain ⟨hq1, hS⟩ := hS); (try obtain ⟨hq2, hS⟩ := hS); (try obtain ⟨hq3, hS⟩ := hS); (try obtain ⟨hq4, hS⟩ := hS); (try obtain ⟨hq5, hS⟩ := hS); (try obtain ⟨hq6, hS⟩ := hS); (try obtain ⟨hq7, hS⟩ := hS); (try obtain ⟨hq8, hS⟩ := hS); (try obtain ⟨hq9, hS⟩ := hS); (try obtain ⟨hq10, hS⟩ := hS); (try obtain ⟨hq11, hS⟩ := hS); (try obtain ⟨hq12, hS⟩ := hS); (try obtain ⟨hq13, hS⟩ := hS); (try obtain ⟨hq14, hS⟩ := hS); (try obtain ⟨hq15, hS⟩ := hS); (try obtain ⟨hq16, hS⟩ := hS); (try obtain ⟨hq17, hS⟩ := hS); (try obtain ⟨hq18, hS⟩ := hS); (try obtain ⟨hq19, hS⟩ := hS); (try dsimp only at hS); go_simp; (try with_reducible rfl); done)); (try simp only [Act.put, List.setIfInBounds_toArray, List.set_cons_zero, List.set_cons_succ])))
        refine effg_nil ?_
        have FF := hid (F3.out.step F10.out)
        go_wp2
        go_ret
        exact ⟨by first | rfl | (simp; done), FF.out⟩
/-- What the walk gives, for every argument and every world that holds the tables. -/
theorem contract (H : Type) (enc : TypeId × Value → H) (W : World) (base : Nat) (args : Array Value) (ds gs : List (DataW H)) (before : List MemPlace)
    (hval : ∀ (j : Nat) t v, Tryz.f3.params[j]? = some t → args[j]? = some v → Value.okWide Tryz.prog W .any base t v)
    (hW : DataW.Whole enc Tryz.prog Tryz.f3.params.toList Rows.snapshotEncodesSpec.vars false W args.toList ds gs before) (hL : laidMetH Tryz.prog Rows.snapshotEncodesRow.laid W) :
    Calls Tryz.prog 3 args W fun e W' => ∃ v, e = .returned v ∧ Rows.snapshotEncodesSpec.post enc Tryz.prog Tryz.f3 false true false false W args v W' := by
  have hW' := hW
  obtain ⟨p, q, hA0, hV, rfl, hfz, hnd⟩ := hW
  have hA : DataW.TrodAll enc Tryz.prog W 0 (fun _ => true) true Tryz.f3.params.toList args.toList ds p := hA0
  rw [Tryz.params3] at hA hval
  obtain ⟨v0, vs0, d0, ds0, p0, q0, hargs, rfl, rfl, h0, r0⟩ := trodAll_cons hA
  obtain ⟨v1, vs1, d1, ds1, p1, q1, rfl, rfl, rfl, h1, r1⟩ := trodAll_cons r0
  obtain ⟨v2, vs2, d2, ds2, p2, q2, rfl, rfl, rfl, h2, r2⟩ := trodAll_cons r1
  obtain ⟨rfl, rfl, rfl⟩ := trodAll_nil r2
  obtain rfl : args = #[v0, v1, v2] := by cases args; simp_all
  obtain ⟨rfl, rfl⟩ := trodVars_none hV
  have lt0 : ∀ x ∈ p0, x.block < W.heap.size := by obtain ⟨m, hm⟩ := h0; exact DataW.trod_lt m _ _ _ hm
  have lt1 : ∀ x ∈ p1, x.block < W.heap.size := by obtain ⟨m, hm⟩ := h1; exact DataW.trod_lt m _ _ _ hm
  have lt2 : ∀ x ∈ p2, x.block < W.heap.size := by obtain ⟨m, hm⟩ := h2; exact DataW.trod_lt m _ _ _ hm
  have k0 := h0
  have hv0 := hval 0 26 v0 rfl rfl
  have k1 := h1
  have hv1 := hval 1 26 v1 rfl rfl
  have k2 := h2
  have hv2 := hval 2 27 v2 rfl rfl
  obtain ⟨sN0, sL0, sR0, D0, rfl, hd0, ok0⟩ := open_dump2 hv0 h0
  obtain ⟨sN1, sL1, sR1, D1, rfl, hd1, ok1⟩ := open_dump2 hv1 h1
  obtain ⟨a2, n2, c2, rfl⟩ := okWide_slice Tryz.underlying27 hv2
  obtain ⟨m2, hm2⟩ := h2
  obtain ⟨l2, rl2⟩ := rdY_of_trod hm2 NoB (fun _ _ h => h)
  clear hA0
  have htab := tab_of_laid hL
  refine (walk sN0 sL0 sR0 sN1 sL1 sR1 _ D0 D1 l2 W hd0 ok0 hd1 ok1 rl2 htab).mono fun e W' ⟨he, hf⟩ => ?_
  subst he
  have bel := hf.below
  exact ⟨_, rfl, _, _, _, [], _, [], hW', trodAll_mk1 (shut_bool Tryz.underlying4 _), (trodAll_cons_mk (Below.trod laidOut (by kernel_rfl) (of_decide_eq_true (by kernel_rfl)) k0 bel lt0) (trodAll_cons_mk (Below.trod laidOut (by kernel_rfl) (of_decide_eq_true (by kernel_rfl)) k1 bel lt1) (trodAll_cons_mk (Below.trod laidOut (by kernel_rfl) (of_decide_eq_true (by kernel_rfl)) k2 bel lt2) trodAll_mk0))), rfl, bel.frame _, fun h => by cases h⟩

theorem laid_met (os : Os) : laidMet Tryz.prog Rows.snapshotEncodesRow.laid ((laidWorld os).forCall (fun _ _ => 0) ⟨#[], #[.agg #[.slice none 0 0, .slice none 0 0, .slice none 0 0], .agg #[.slice none 0 0, .slice none 0 0, .slice none 0 0], .slice none 0 0], []⟩).memory :=
  laidMet_of_run' 8 (by kernel_rfl) (by kernel_rfl)
theorem reads (os : Os) {H : Type} (enc : TypeId × Value → H) : ∃ places, DataW.whole enc Tryz.prog ((laidWorld os).forCall (fun _ _ => 0) ⟨#[], #[.agg #[.slice none 0 0, .slice none 0 0, .slice none 0 0], .agg #[.slice none 0 0, .slice none 0 0, .slice none 0 0], .slice none 0 0], []⟩).memory Tryz.f3.params.toList Rows.snapshotEncodesSpec.vars false #[.agg #[.slice none 0 0, .slice none 0 0, .slice none 0 0], .agg #[.slice none 0 0, .slice none 0 0, .slice none 0 0], .slice none 0 0].toList 8 = some ([.agg [.nil, .nil, .nil], .agg [.nil, .nil, .nil], .nil], [], places) :=
  ⟨[], by kernel_rfl⟩

set_option maxRecDepth 100000 in
theorem lifted (os : Os) (started : os.Started) (H : Type) (enc : TypeId × Value → H) (F : Stop.Interp) :
    ReturnsInHanded {} Tryz.checked os 3 .any ((OpenSpec.ofChange Rows.snapshotEncodesSpec).preRow enc Tryz.prog Tryz.f3 Rows.snapshotEncodesRow.domain false Rows.snapshotEncodesRow.laid) (((OpenSpec.ofChange Rows.snapshotEncodesSpec).at F).post enc Tryz.prog Tryz.f3 false true false false) := by
  obtain ⟨places, hx⟩ := reads os enc
  refine returnsInHanded_of_row (C := Tryz.checked) (s := OpenSpec.ofChange Rows.snapshotEncodesSpec) own started (by kernel_rfl) Tryz.func3
    (witness_row_at (enc := enc) (C := Tryz.checked) false (laidWorld os) #[.agg #[.slice none 0 0, .slice none 0 0, .slice none 0 0], .agg #[.slice none 0 0, .slice none 0 0, .slice none 0 0], .slice none 0 0] rfl (by kernel_rfl) (by kernel_rfl) (by kernel_rfl)
      (OpenSpec.preRow_of_cond 8 hx (by kernel_rfl) (fun k hk => by cases hk) (by kernel_rfl) (laid_met os))) ?_
  intro W base args ds gs before hval hW _ hcond _ hL _ _
  exact contract H enc W base args ds gs before hval hW hL

theorem said : Rows.SnapshotEncodesSaid :=
  OpenClaim.holds_of_cond 3 Tryz.f3 rfl rfl rfl rfl rfl rfl rfl ⟨rfl, rfl, rfl, rfl, rfl⟩ rfl rfl rfl rfl rfl (by kernel_rfl) Tryz.func3 (by kernel_rfl)
    (of_decide_eq_true (by kernel_rfl)) (by unfold Func.isWrapper; first | (rw [if_pos (by decide +kernel)]; kernel_rfl) | (rw [if_neg (by decide +kernel)]; exact ⟨rfl, rfl⟩))
    (fun os started H enc _ F => by rw [OpenClaim.pre_eq_preRow]; exact lifted os started H enc F)

theorem plain (f : FuncId) (fn : Func) (hf : Tryz.pinned.checked.prog.funcNamed "saturate/saturatelaw22.SnapshotEncodes" = some f) (hfn : Tryz.pinned.checked.prog.funcs[f]? = some fn) :
    true = Tryz.pinned.checked.prog.looks [] ∧ ∀ (j : Nat) t, fn.params[j]? = some t → Tryz.pinned.checked.prog.wantsStandIn t = false := by
  obtain rfl : f = 3 := Option.some.inj ((show Tryz.prog.funcNamed "saturate/saturatelaw22.SnapshotEncodes" = some 3 by kernel_rfl).symm.trans hf) |>.symm
  obtain rfl : fn = Tryz.f3 := (Option.some.inj (Tryz.func3.symm.trans hfn)).symm
  refine ⟨by kernel_rfl, fun j t ht => ?_⟩
  rw [Tryz.params3] at ht
  have hm : t ∈ [26, 26, 27] := by have := Array.mem_of_getElem? ht; simpa using this
  have q0 : Tryz.prog.wantsStandIn 26 = false := by kernel_rfl
  have q1 : Tryz.prog.wantsStandIn 27 = false := by kernel_rfl
  simp only [List.mem_cons, List.not_mem_nil, or_false] at hm
  rcases hm with rfl | rfl | rfl
  · exact q0
  · exact q0
  · exact q1

theorem card : Rows.SnapshotEncodesCardSaid :=
  Claim7.holds_tied_plain_at .later [] _ _ _ _ said (fun _ h => by cases h) (by kernel_rfl) (fun _ h => by cases h) snapshotEncodes_row_tie rfl ⟨rfl, rfl⟩ (by kernel_rfl) rfl plain (by kernel_rfl)
#print axioms card

end Go.Proofs.YtndfncaoejbkiaaGreatDoor.LawEncodes
