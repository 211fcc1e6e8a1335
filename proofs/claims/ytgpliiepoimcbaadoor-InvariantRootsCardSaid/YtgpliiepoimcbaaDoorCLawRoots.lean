/- InvariantRoots: for every dump Roots2 answers as the reference's Labels, and Sound answers whether the reference finds no flaw (where the dump is too large for the law's guard it checks three dumps alone). Condition: the three listed tables of Go's library hold what the program's text lays in them (the card ties this). -/
import Derived.Test.YtgpliiepoimcbaaDoorPk10
import Derived.Test.YtgpliiepoimcbaaDoorCards
import Derived.Test.YtgpliiepoimcbaaDoorTie
import Derived.SevenTiedAt
set_option linter.all false
namespace Go.Proofs.YtgpliiepoimcbaaDoor.LawRoots
open Go.ChangeShapes Go.WideShapes Go.ChangeAt Go.RowKit
set_option maxRecDepth 100000

set_option maxHeartbeats 4000000 in
theorem walk (sN sL sR : Value) (d : Dmp) (w : World) (hd : RdD NoB w sN sL sR d) (hok : ∀ x ∈ d.nodes, NodeOk x.1) (ht : Tab w) : Calls Tryd.prog 4 #[dumpV sN sL sR] w fun e w' => e = .returned (.bool true) ∧ Fr NoB w w' := by
  have D0 := hid (DbS.start hd)
  have HT := hid (ht.fr D0.out.fr (fun h => h))
  have HOK := hid hok
  have HVO : Hid (∀ x ∈ d.nodes, 0 ≤ x.1.val ∧ x.1.val < 18446744073709551616) := fun x hx => (hok x hx).val
  obtain ⟨p, c, hp⟩ := hd.nodes.form
  subst hp
  obtain ⟨pl, cl, hp⟩ := hd.links.form3
  subst hp
  obtain ⟨pr, cr, hp⟩ := hd.roots.form
  subst hp
  clear hd ht hok
  obtain ⟨d0, d1, d2, df, dl⟩ := three_of D0.out.box
  unfold dumpV
  obtain ⟨w0, hw0⟩ : ∃ w0, w.alloc (.cells (dumpCells (.slice p d.nodes.length c) (.slice pl d.links.length cl) (.slice pr d.roots.length cr)) 26) = w0 := ⟨_, rfl⟩
  rw [hw0] at D0 HT d0 d1 d2 df dl
  go_enter Tryd.func4, Tryd.ntmps4
  go_wp2_with fail
  refine (light_any _ _ _ d _ D0.out.rd).mono ?_
  rintro e w1 ⟨⟨b, rfl, hb⟩, hf⟩
  have D1 := hid (D0.out.step hf)
  have T1 := hid (HT.out.fr hf (fun h => h))
  have HB := hid hb
  clear hb hf hw0 d0 d1 d2 df dl
  cases b with
  | false =>
    go_wp2_with fail
    refine (lives_any _ T1.out).mono ?_
    rintro e w2 ⟨rfl, hf⟩
    have D2 := hid (D1.out.step hf)
    clear hf
    go_wp2
    go_ret
    exact ⟨rfl, D2.out.fr⟩
  | true =>
    have L := hid (HB.out rfl)
    have l1 : d.nodes.length ≤ 1000000 := Nat.le_trans L.out.nodes (by omega)
    have l2 : d.links.length ≤ 1000000 := Nat.le_trans L.out.links (by omega)
    have l3 : d.roots.length ≤ 1000000 := Nat.le_trans L.out.roots (by omega)
    have HL1 : Hid (∀ x ∈ d.nodes, x.1.args.length ≤ 100000) := fun x hx => Nat.le_trans (L.out.args x hx) (by omega)
    have HL2 : Hid (∀ x ∈ d.nodes, x.1.args.length ≤ 1000000) := fun x hx => Nat.le_trans (L.out.args x hx) (by omega)
    clear HB
    obtain ⟨d0, d1, d2, df, dl⟩ := three_of D1.out.box
    go_wp2_with fail
    clear d0 d1 d2 df dl
    refine (labels_any _ _ _ d _ D1.out.rd d.links.length (Nat.le_refl _) l1 l2).mono ?_
    rintro e w9 ⟨v, rfl, ho, hf⟩
    obtain ⟨lp, lc, hv⟩ := ho.form
    obtain ⟨lab, hlab⟩ : ∃ lab, lbAt d.nodes.length d.links d.links.length = lab := ⟨_, rfl⟩
    have HLB := hid hlab
    have hll : lab.length ≤ 1000000 := by rw [← hlab, lbAt_length]; exact l1
    rw [hlab] at ho hv
    subst hv
    have D9 := hid (D1.out.step hf)
    have T9 := hid (T1.out.fr hf (fun h => h))
    have R9 := hid (ho.rd (M := NoB) (fun _ _ h => h))
    have HLL := hid hll
    clear ho hf hlab hll D1 T1
    go_wp2
    obtain ⟨WW, hWW⟩ : ∃ WW, w9.drew = WW := ⟨_, rfl⟩
    have D2 : Hid (DbS w (.slice p d.nodes.length c) (.slice pl d.links.length cl) (.slice pr d.roots.length cr) d WW) := by
      show DbS _ _ _ _ _ _
      rw [← hWW]; exact D9.out.step (Fr.refl NoB w9).drew
    have T2 : Hid (Tab WW) := by
      show Tab _
      rw [← hWW]; exact T9.out.fr (Fr.refl NoB w9).drew (fun h => h)
    have R2 : Hid (RdI NoB WW (.slice lp lab.length lc) lab) := by
      show RdI _ _ _ _
      rw [← hWW]; exact R9.out.fr (Fr.refl NoB w9).drew (fun _ _ h => h)
    have HS : Hid (∀ W', Fr NoB WW W' → W'.cell? ⟨w.heap.size, 0, none⟩ = some (.slice p d.nodes.length c) ∧ W'.cell? ⟨w.heap.size, 1, none⟩ = some (.slice pl d.links.length cl) ∧ W'.cell? ⟨w.heap.size, 2, none⟩ = some (.slice pr d.roots.length cr)) := fun W' hf => by
      obtain ⟨y0, y1, y2, _⟩ := three_of (hf.at (fun h => h) D2.out.box)
      exact ⟨y0, y1, y2⟩
    have HR : Hid (∀ W', Fr NoB WW W' → RdD NoB W' (.slice p d.nodes.length c) (.slice pl d.links.length cl) (.slice pr d.roots.length cr) d) := fun W' hf => D2.out.rd.step hf
    obtain ⟨q0, q1, q2⟩ := HS.out WW (Fr.refl _ _)
    rw [← hWW] at q0 q1 q2
    clear D9 T9 R9 D0 HT
    refine region_eff (fun W' => (W'.cell? ⟨w.heap.size, 0, none⟩ = some (.slice p d.nodes.length c) ∧ W'.cell? ⟨w.heap.size, 1, none⟩ = some (.slice pl d.links.length cl) ∧ W'.cell? ⟨w.heap.size, 2, none⟩ = some (.slice pr d.roots.length cr))) 17 [(0, 0), (2, 1), (1, 2), (3, 2), (4, 1), (5, 0), (7, 0), (6, 2), (8, 2), (9, 1), (10, 1), (11, 1), (12, 1), (13, 1), (14, 2), (15, 1), (16, 1)] (by kernel_rfl) (by kernel_rfl) ?_ ?_
    · exact ⟨q0, q1, q2⟩
    rw [hWW]
    clear q0 q1 q2 hWW
    repeat (first | (refine eff_off (by rfl) (by rfl) ?_; (try simp only [Act.put, List.setIfInBounds_toArray, List.set_cons_zero, List.set_cons_succ])) | (refine eff_off0 (by rfl) (by rfl) ?_; (try simp only [Act.put, List.setIfInBounds_toArray, List.set_cons_zero, List.set_cons_succ])) | (refine eff_pu ?_ (by rfl) (by rfl) ?_ ?_; rotate_left; (focus (intro w'; go_simp; (try with_reducible rfl); done)); (try simp only [Act.put, List.setIfInBounds_toArray, List.set_cons_zero, List.set_cons_succ])) | (refine eff_rd ?_ (by rfl) (by rfl) ?_ ?_; rotate_left; (focus (intro w' hS; (try obtain ⟨hq1, hS⟩ := hS); (try obtain ⟨hq2, hS⟩ := hS); (try obtain ⟨hq3, hS⟩ := hS); (try obtain ⟨hq4, hS⟩ := hS); (try obtain ⟨hq5, hS⟩ := hS); (try obtain ⟨hq6, hS⟩ := hS); (try obtain ⟨hq7, hS⟩ := hS); (try obtain ⟨hq8, hS⟩ := hS); (try obtain ⟨hq9, hS⟩ := hS); (try obtain ⟨hq10, hS⟩ := hS); (try obtain ⟨hq11, hS⟩ := hS); (try obtain ⟨hq12, hS⟩ := hS); (try obtain ⟨hq13, hS⟩ := hS); (try obtain ⟨hq14, hS⟩ := hS); (try obtain ⟨hq15, hS⟩ := hS); (try obtain ⟨hq16, hS⟩ := hS); (try obtain ⟨hq17, hS⟩ := hS); (try obtain ⟨hq18, hS⟩ := hS); (try obtain ⟨hq19, hS⟩ := hS); (try dsimp only at hS); go_simp; (try with_reducible rfl); done)); (try simp only [Act.put, List.setIfInBounds_toArray, List.set_cons_zero, List.set_cons_succ])))
    refine eff_call 13 #[dumpV (.slice p d.nodes.length c) (.slice pl d.links.length cl) (.slice pr d.roots.length cr)] (by rfl) (by rfl) (by intro w'; go_simp) ?_
    refine (roots2_any _ _ _ d _ (HR.out _ (Fr.refl _ _)) l1 l2).mono ?_
    rintro e w2 ⟨v, rfl, ho, hf⟩
    have F2 : Hid (Fr NoB WW w2) := hf
    rw [HLB.out] at ho
    obtain ⟨pa, ca, hp⟩ := ho.form
    subst hp
    have R3 := hid (ho.rd (M := NoB) (fun _ _ h => h))
    have R2' := hid (R2.out.fr hf (fun _ _ h => h))
    clear ho hf R2
    refine ⟨_, rfl, fun _ => HS.out _ F2.out, ?_⟩
    (try simp only [Act.put, List.setIfInBounds_toArray, List.set_cons_zero, List.set_cons_succ])
    repeat (first | (refine eff_off (by rfl) (by rfl) ?_; (try simp only [Act.put, List.setIfInBounds_toArray, List.set_cons_zero, List.set_cons_succ])) | (refine eff_off0 (by rfl) (by rfl) ?_; (try simp only [Act.put, List.setIfInBounds_toArray, List.set_cons_zero, List.set_cons_succ])) | (refine eff_pu ?_ (by rfl) (by rfl) ?_ ?_; rotate_left; (focus (intro w'; go_simp; (try with_reducible rfl); done)); (try simp only [Act.put, List.setIfInBounds_toArray, List.set_cons_zero, List.set_cons_succ])) | (refine eff_rd ?_ (by rfl) (by rfl) ?_ ?_; rotate_left; (focus (intro w' hS; (try obtain ⟨hq1, hS⟩ := hS); (try obtain ⟨hq2, hS⟩ := hS); (try obtain ⟨hq3, hS⟩ := hS); (try obtain ⟨hq4, hS⟩ := hS); (try obtain ⟨hq5, hS⟩ := hS); (try obtain ⟨hq6, hS⟩ := hS); (try obtain ⟨hq7, hS⟩ := hS); (try obtain ⟨hq8, hS⟩ := hS); (try obtain ⟨hq9, hS⟩ := hS); (try obtain ⟨hq10, hS⟩ := hS); (try obtain ⟨hq11, hS⟩ := hS); (try obtain ⟨hq12, hS⟩ := hS); (try obtain ⟨hq13, hS⟩ := hS); (try obtain ⟨hq14, hS⟩ := hS); (try obtain ⟨hq15, hS⟩ := hS); (try obtain ⟨hq16, hS⟩ := hS); (try obtain ⟨hq17, hS⟩ := hS); (try obtain ⟨hq18, hS⟩ := hS); (try obtain ⟨hq19, hS⟩ := hS); (try dsimp only at hS); go_simp; (try with_reducible rfl); done)); (try simp only [Act.put, List.setIfInBounds_toArray, List.set_cons_zero, List.set_cons_succ])))
    refine eff_call 12 #[.slice pa lab.length ca, .slice lp lab.length lc] (by rfl) (by rfl) (by intro w'; go_simp) ?_
    refine (sameInts_any _ _ lab lab _ R3.out R2'.out (by have := HLL.out; omega)).mono ?_
    rintro e w3 ⟨rfl, hf⟩
    have F3 : Hid (Fr NoB WW w3) := F2.out.step hf
    rw [show decide (lab = lab) = true from decide_eq_true rfl]
    clear hf R3 R2'
    refine ⟨_, rfl, fun _ => HS.out _ F3.out, ?_⟩
    (try simp only [Act.put, List.setIfInBounds_toArray, List.set_cons_zero, List.set_cons_succ])
    obtain ⟨LL, hLL⟩ : ∃ LL, allF (nsOf d) d.links d.roots = LL := ⟨_, rfl⟩
    have HA := hid hLL
    clear hLL
    repeat (first | (refine eff_off (by rfl) (by rfl) ?_; (try simp only [Act.put, List.setIfInBounds_toArray, List.set_cons_zero, List.set_cons_succ])) | (refine eff_off0 (by rfl) (by rfl) ?_; (try simp only [Act.put, List.setIfInBounds_toArray, List.set_cons_zero, List.set_cons_succ])) | (refine eff_pu ?_ (by rfl) (by rfl) ?_ ?_; rotate_left; (focus (intro w'; go_simp; (try with_reducible rfl); done)); (try simp only [Act.put, List.setIfInBounds_toArray, List.set_cons_zero, List.set_cons_succ])) | (refine eff_rd ?_ (by rfl) (by rfl) ?_ ?_; rotate_left; (focus (intro w' hS; (try obtain ⟨hq1, hS⟩ := hS); (try obtain ⟨hq2, hS⟩ := hS); (try obtain ⟨hq3, hS⟩ := hS); (try obtain ⟨hq4, hS⟩ := hS); (try obtain ⟨hq5, hS⟩ := hS); (try obtain ⟨hq6, hS⟩ := hS); (try obtain ⟨hq7, hS⟩ := hS); (try obtain ⟨hq8, hS⟩ := hS); (try obtain ⟨hq9, hS⟩ := hS); (try obtain ⟨hq10, hS⟩ := hS); (try obtain ⟨hq11, hS⟩ := hS); (try obtain ⟨hq12, hS⟩ := hS); (try obtain ⟨hq13, hS⟩ := hS); (try obtain ⟨hq14, hS⟩ := hS); (try obtain ⟨hq15, hS⟩ := hS); (try obtain ⟨hq16, hS⟩ := hS); (try obtain ⟨hq17, hS⟩ := hS); (try obtain ⟨hq18, hS⟩ := hS); (try obtain ⟨hq19, hS⟩ := hS); (try dsimp only at hS); go_simp; (try with_reducible rfl); done)); (try simp only [Act.put, List.setIfInBounds_toArray, List.set_cons_zero, List.set_cons_succ])))
    refine eff_call 14 #[dumpV (.slice p d.nodes.length c) (.slice pl d.links.length cl) (.slice pr d.roots.length cr)] (by rfl) (by rfl) (by intro w'; go_simp) ?_
    refine (sound_any _ _ _ d _ (HR.out _ F3.out) l1 l2 l3 HL1.out HOK.out (T2.out.fr F3.out (fun h => h))).mono ?_
    rintro e w4 ⟨rfl, hf⟩
    have F4 : Hid (Fr NoB WW w4) := F3.out.step hf
    rw [HA.out]
    clear hf
    refine ⟨_, rfl, fun _ => HS.out _ F4.out, ?_⟩
    (try simp only [Act.put, List.setIfInBounds_toArray, List.set_cons_zero, List.set_cons_succ])
    repeat (first | (refine eff_off (by rfl) (by rfl) ?_; (try simp only [Act.put, List.setIfInBounds_toArray, List.set_cons_zero, List.set_cons_succ])) | (refine eff_off0 (by rfl) (by rfl) ?_; (try simp only [Act.put, List.setIfInBounds_toArray, List.set_cons_zero, List.set_cons_succ])) | (refine eff_pu ?_ (by rfl) (by rfl) ?_ ?_; rotate_left; (focus (intro w'; go_simp; (try with_reducible rfl); done)); (try simp only [Act.put, List.setIfInBounds_toArray, List.set_cons_zero, List.set_cons_succ])) | (refine eff_rd ?_ (by rfl) (by rfl) ?_ ?_; rotate_left; (focus (intro w' hS; (try obtain ⟨hq1, hS⟩ := hS); (try obtain ⟨hq2, hS⟩ := hS); (try obtain ⟨hq3, hS⟩ := hS); (try obtain ⟨hq4, hS⟩ := hS); (try obtain ⟨hq5, hS⟩ := hS); (try obtain ⟨hq6, hS⟩ := hS); (try obtain ⟨hq7, hS⟩ := hS); (try obtain ⟨hq8, hS⟩ := hS); (try obtain ⟨hq9, hS⟩ := hS); (try obtain ⟨hq10, hS⟩ := hS); (try obtain ⟨hq11, hS⟩ := hS); (try obtain ⟨hq12, hS⟩ := hS); (try obtain ⟨hq13, hS⟩ := hS); (try obtain ⟨hq14, hS⟩ := hS); (try obtain ⟨hq15, hS⟩ := hS); (try obtain ⟨hq16, hS⟩ := hS); (try obtain ⟨hq17, hS⟩ := hS); (try obtain ⟨hq18, hS⟩ := hS); (try obtain ⟨hq19, hS⟩ := hS); (try dsimp only at hS); go_simp; (try with_reducible rfl); done)); (try simp only [Act.put, List.setIfInBounds_toArray, List.set_cons_zero, List.set_cons_succ])))
    refine eff_call 15 #[dumpV (.slice p d.nodes.length c) (.slice pl d.links.length cl) (.slice pr d.roots.length cr)] (by rfl) (by rfl) (by intro w'; go_simp) ?_
    refine (all_any _ _ _ d _ (HR.out _ F4.out) l1 l2 l3 HL2.out HVO.out).mono ?_
    rintro e w5 ⟨v, rfl, ho, hf⟩
    have F5 : Hid (Fr NoB WW w5) := F4.out.step hf
    rw [HA.out] at ho
    obtain ⟨pb, cb, hp⟩ := OwnE.form ho
    subst hp
    have HEQ : Hid ((decide (LL = []) == ((LL.length : Int) == 0)) = true) := by
      show _ = _
      cases LL with
      | nil => rfl
      | cons a b =>
        have h1 : (((a :: b).length : Int) == 0) = false := by simp; omega
        rw [h1]; rfl
    clear ho hf
    refine ⟨_, rfl, fun _ => HS.out _ F5.out, ?_⟩
    (try simp only [Act.put, List.setIfInBounds_toArray, List.set_cons_zero, List.set_cons_succ])
    repeat (first | (refine eff_off (by rfl) (by rfl) ?_; (try simp only [Act.put, List.setIfInBounds_toArray, List.set_cons_zero, List.set_cons_succ])) | (refine eff_off0 (by rfl) (by rfl) ?_; (try simp only [Act.put, List.setIfInBounds_toArray, List.set_cons_zero, List.set_cons_succ])) | (refine eff_pu ?_ (by rfl) (by rfl) ?_ ?_; rotate_left; (focus (intro w'; go_simp; (try with_reducible rfl); done)); (try simp only [Act.put, List.setIfInBounds_toArray, List.set_cons_zero, List.set_cons_succ])) | (refine eff_rd ?_ (by rfl) (by rfl) ?_ ?_; rotate_left; (focus (intro w' hS; (try obtain ⟨hq1, hS⟩ := hS); (try obtain ⟨hq2, hS⟩ := hS); (try obtain ⟨hq3, hS⟩ := hS); (try obtain ⟨hq4, hS⟩ := hS); (try obtain ⟨hq5, hS⟩ := hS); (try obtain ⟨hq6, hS⟩ := hS); (try obtain ⟨hq7, hS⟩ := hS); (try obtain ⟨hq8, hS⟩ := hS); (try obtain ⟨hq9, hS⟩ := hS); (try obtain ⟨hq10, hS⟩ := hS); (try obtain ⟨hq11, hS⟩ := hS); (try obtain ⟨hq12, hS⟩ := hS); (try obtain ⟨hq13, hS⟩ := hS); (try obtain ⟨hq14, hS⟩ := hS); (try obtain ⟨hq15, hS⟩ := hS); (try obtain ⟨hq16, hS⟩ := hS); (try obtain ⟨hq17, hS⟩ := hS); (try obtain ⟨hq18, hS⟩ := hS); (try obtain ⟨hq19, hS⟩ := hS); (try dsimp only at hS); go_simp; (try with_reducible rfl); done)); (try simp only [Act.put, List.setIfInBounds_toArray, List.set_cons_zero, List.set_cons_succ])))
    rw [HEQ.out]
    refine eff_call 7 #[] (by rfl) (by rfl) (by intro w'; go_simp) ?_
    refine (lives_any _ (T2.out.fr F5.out (fun h => h))).mono ?_
    rintro e w6 ⟨rfl, hf⟩
    have F6 : Hid (Fr NoB WW w6) := F5.out.step hf
    clear hf
    refine ⟨_, rfl, fun _ => HS.out _ F6.out, ?_⟩
    (try simp only [Act.put, List.setIfInBounds_toArray, List.set_cons_zero, List.set_cons_succ])
    repeat (first | (refine eff_off (by rfl) (by rfl) ?_; (try simp only [Act.put, List.setIfInBounds_toArray, List.set_cons_zero, List.set_cons_succ])) | (refine eff_off0 (by rfl) (by rfl) ?_; (try simp only [Act.put, List.setIfInBounds_toArray, List.set_cons_zero, List.set_cons_succ])) | (refine eff_pu ?_ (by rfl) (by rfl) ?_ ?_; rotate_left; (focus (intro w'; go_simp; (try with_reducible rfl); done)); (try simp only [Act.put, List.setIfInBounds_toArray, List.set_cons_zero, List.set_cons_succ])) | (refine eff_rd ?_ (by rfl) (by rfl) ?_ ?_; rotate_left; (focus (intro w' hS; (try obtain ⟨hq1, hS⟩ := hS); (try obtain ⟨hq2, hS⟩ := hS); (try obtain ⟨hq3, hS⟩ := hS); (try obtain ⟨hq4, hS⟩ := hS); (try obtain ⟨hq5, hS⟩ := hS); (try obtain ⟨hq6, hS⟩ := hS); (try obtain ⟨hq7, hS⟩ := hS); (try obtain ⟨hq8, hS⟩ := hS); (try obtain ⟨hq9, hS⟩ := hS); (try obtain ⟨hq10, hS⟩ := hS); (try obtain ⟨hq11, hS⟩ := hS); (try obtain ⟨hq12, hS⟩ := hS); (try obtain ⟨hq13, hS⟩ := hS); (try obtain ⟨hq14, hS⟩ := hS); (try obtain ⟨hq15, hS⟩ := hS); (try obtain ⟨hq16, hS⟩ := hS); (try obtain ⟨hq17, hS⟩ := hS); (try obtain ⟨hq18, hS⟩ := hS); (try obtain ⟨hq19, hS⟩ := hS); (try dsimp only at hS); go_simp; (try with_reducible rfl); done)); (try simp only [Act.put, List.setIfInBounds_toArray, List.set_cons_zero, List.set_cons_succ])))
    refine eff_nil ?_
    go_wp2
    go_ret
    exact ⟨rfl, D2.out.fr.step F6.out⟩

/-- What the walk gives, for every argument and every world that holds the tables. -/
theorem contract (H : Type) (enc : TypeId × Value → H) (W : World) (base : Nat) (args : Array Value) (ds gs : List (DataW H)) (before : List MemPlace)
    (hval : ∀ (j : Nat) t v, Tryd.f4.params[j]? = some t → args[j]? = some v → Value.okWide Tryd.prog W .any base t v)
    (hW : DataW.Whole enc Tryd.prog Tryd.f4.params.toList Rows.invariantRootsSpec.vars false W args.toList ds gs before) (hL : laidMetH Tryd.prog Rows.invariantRootsRow.laid W) :
    Calls Tryd.prog 4 args W fun e W' => ∃ v, e = .returned v ∧ Rows.invariantRootsSpec.post enc Tryd.prog Tryd.f4 false true false false W args v W' := by
  have hW' := hW
  obtain ⟨p, q, hA0, hV, rfl, hfz, hnd⟩ := hW
  have hA : DataW.TrodAll enc Tryd.prog W 0 (fun _ => true) true Tryd.f4.params.toList args.toList ds p := hA0
  rw [Tryd.params4] at hA hval
  obtain ⟨v0, vs0, d0, ds0, p0, q0, hargs, rfl, rfl, h0, r0⟩ := trodAll_cons hA
  obtain ⟨rfl, rfl, rfl⟩ := trodAll_nil r0
  obtain rfl : args = #[v0] := by cases args; simp_all
  obtain ⟨rfl, rfl⟩ := trodVars_none hV
  have lt0 : ∀ x ∈ p0, x.block < W.heap.size := by obtain ⟨m, hm⟩ := h0; exact DataW.trod_lt m _ _ _ hm
  have k0 := h0
  have hv0 := hval 0 26 v0 rfl rfl
  obtain ⟨sN, sL, sR, D, rfl, hd0, ok0⟩ := open_dump hv0 h0
  clear hA0
  have htab := tab_of_laid hL
  refine (walk sN sL sR D W hd0 ok0 htab).mono fun e W' ⟨he, hf⟩ => ?_
  subst he
  have bel := hf.below
  exact ⟨_, rfl, _, _, _, [], _, [], hW', trodAll_mk1 (shut_bool Tryd.underlying4 _), (trodAll_cons_mk (Below.trod laidOut (by kernel_rfl) (of_decide_eq_true (by kernel_rfl)) k0 bel lt0) trodAll_mk0), rfl, bel.frame _, fun h => by cases h⟩

theorem laid_met (os : Os) : laidMet Tryd.prog Rows.invariantRootsRow.laid ((laidWorld os).forCall (fun _ _ => 0) ⟨#[], #[.agg #[.slice none 0 0, .slice none 0 0, .slice none 0 0]], []⟩).memory :=
  laidMet_of_run' 8 (by kernel_rfl) (by kernel_rfl)
theorem reads (os : Os) {H : Type} (enc : TypeId × Value → H) : ∃ places, DataW.whole enc Tryd.prog ((laidWorld os).forCall (fun _ _ => 0) ⟨#[], #[.agg #[.slice none 0 0, .slice none 0 0, .slice none 0 0]], []⟩).memory Tryd.f4.params.toList Rows.invariantRootsSpec.vars false #[.agg #[.slice none 0 0, .slice none 0 0, .slice none 0 0]].toList 8 = some ([.agg [.nil, .nil, .nil]], [], places) :=
  ⟨[], by kernel_rfl⟩

set_option maxRecDepth 100000 in
theorem lifted (os : Os) (started : os.Started) (H : Type) (enc : TypeId × Value → H) (F : Stop.Interp) :
    ReturnsInHanded {} Tryd.checked os 4 .any ((OpenSpec.ofChange Rows.invariantRootsSpec).preRow enc Tryd.prog Tryd.f4 Rows.invariantRootsRow.domain false Rows.invariantRootsRow.laid) (((OpenSpec.ofChange Rows.invariantRootsSpec).at F).post enc Tryd.prog Tryd.f4 false true false false) := by
  obtain ⟨places, hx⟩ := reads os enc
  refine returnsInHanded_of_row (C := Tryd.checked) (s := OpenSpec.ofChange Rows.invariantRootsSpec) own started (by kernel_rfl) Tryd.func4
    (witness_row_at (enc := enc) (C := Tryd.checked) false (laidWorld os) #[.agg #[.slice none 0 0, .slice none 0 0, .slice none 0 0]] rfl (by kernel_rfl) (by kernel_rfl) (by kernel_rfl)
      (OpenSpec.preRow_of_cond 8 hx (by kernel_rfl) (fun k hk => by cases hk) (by kernel_rfl) (laid_met os))) ?_
  intro W base args ds gs before hval hW _ hcond _ hL _ _
  exact contract H enc W base args ds gs before hval hW hL

theorem said : Rows.InvariantRootsSaid :=
  OpenClaim.holds_of_cond 4 Tryd.f4 rfl rfl rfl rfl rfl rfl rfl ⟨rfl, rfl, rfl, rfl, rfl⟩ rfl rfl rfl rfl rfl (by kernel_rfl) Tryd.func4 (by kernel_rfl)
    (of_decide_eq_true (by kernel_rfl)) (by unfold Func.isWrapper; first | (rw [if_pos (by decide +kernel)]; kernel_rfl) | (rw [if_neg (by decide +kernel)]; exact ⟨rfl, rfl⟩))
    (fun os started H enc _ F => by rw [OpenClaim.pre_eq_preRow]; exact lifted os started H enc F)

theorem plain (f : FuncId) (fn : Func) (hf : Tryd.pinned.checked.prog.funcNamed "saturate/saturatelaw21.InvariantRoots" = some f) (hfn : Tryd.pinned.checked.prog.funcs[f]? = some fn) :
    false = Tryd.pinned.checked.prog.looks [] ∧ ∀ (j : Nat) t, fn.params[j]? = some t → Tryd.pinned.checked.prog.wantsStandIn t = false := by
  obtain rfl : f = 4 := Option.some.inj ((show Tryd.prog.funcNamed "saturate/saturatelaw21.InvariantRoots" = some 4 by kernel_rfl).symm.trans hf) |>.symm
  obtain rfl : fn = Tryd.f4 := (Option.some.inj (Tryd.func4.symm.trans hfn)).symm
  refine ⟨by kernel_rfl, fun j t ht => ?_⟩
  rw [Tryd.params4] at ht
  have hm : t ∈ [26] := by have := Array.mem_of_getElem? ht; simpa using this
  have q0 : Tryd.prog.wantsStandIn 26 = false := by kernel_rfl
  simp only [List.mem_cons, List.not_mem_nil, or_false] at hm
  rcases hm with rfl
  · exact q0

theorem card : Rows.InvariantRootsCardSaid :=
  Claim7.holds_tied_plain_at .later [] _ _ _ _ said (fun _ h => by cases h) (by kernel_rfl) (fun _ h => by cases h) invariantRoots_row_tie rfl ⟨rfl, rfl⟩ (by kernel_rfl) rfl plain (by kernel_rfl)
#print axioms card

end Go.Proofs.YtgpliiepoimcbaaDoor.LawRoots
