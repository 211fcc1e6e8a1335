import Derived.Test.YtndfncaoejbkiaaGreatDoorPk1
import Derived.Test.YtndfncaoejbkiaaGreatDoorPk2
import Derived.Test.YtndfncaoejbkiaaGreatDoorPk4
import Derived.Laws.DeepNot64
set_option linter.all false
section
/- The walks of slices.Equal at ints and links, of the references' Equal and Same, of EqualFunc at nodes, of both Sames of dumps. Printed by gen_sn9.py. -/
namespace Go.Proofs.YtndfncaoejbkiaaGreatDoor
open Go.RowKit
set_option maxRecDepth 100000

instance : DecidableEq Lnk := fun a b => if h : a.a = b.a ∧ a.b = b.b ∧ a.why = b.why then isTrue (by cases a; cases b; simp only at h; obtain ⟨rfl, rfl, rfl⟩ := h; rfl) else isFalse (fun e => h (by subst e; exact ⟨rfl, rfl, rfl⟩))
theorem RdI.cellN' {M : Nat → Prop} {w : World} {p : Option Addr} {n c : Nat} {l : List Int} (h : RdI M w (.slice p n c) l) {k : Nat} (hk : k < l.length) : ∃ b off, p = some ⟨b, off, none⟩ ∧ w.cell? ⟨b, off + k, none⟩ = some (.int .i64 l[k]) := by
  obtain ⟨b, off, h1, h2⟩ := h.cellK hk
  rw [getD_eq hk] at h2
  exact ⟨b, off, h1, h2⟩
def eqNs : List Node → List Node → Bool
  | [], [] => true
  | a :: l, b :: m => (nodeCmp a b == 0) && eqNs l m
  | _, _ => false
theorem eqNs_iff : ∀ {l m : List Node}, eqNs l m = true ↔ l = m
  | [], [] => by simp [eqNs]
  | [], _ :: _ => by simp [eqNs]
  | _ :: _, [] => by simp [eqNs]
  | a :: l, b :: m => by
    rw [eqNs, Bool.and_eq_true, eqNs_iff (l := l), beq_iff_eq, nodeCmp_zero, List.cons.injEq]
theorem eqNs_no {l m : List Node} (h : l ≠ m) : eqNs l m = false := by
  cases e : eqNs l m with
  | false => rfl
  | true => exact absurd (eqNs_iff.1 e) h
def sameS (d c : Dm) : Bool := eqNs d.nodes c.nodes && (decide (d.links = c.links) && decide (d.roots = c.roots))
theorem sameS_self (d : Dm) : sameS d d = true := by unfold sameS; simp [eqNs_iff.2 rfl]
set_option maxHeartbeats 4000000 in
theorem eqI_any (v u : Value) (l m : List Int) (w : World) (h : RdI NoB w v l) (h' : RdI NoB w u m) (hl : l.length ≤ 1000000000) :
    Calls Tryz.prog 27 #[v, u] w fun e w' => e = .returned (.bool (decide (l = m))) ∧ Fr NoB w w' := by
  obtain ⟨pa, ca, hp⟩ := h.form
  subst hp
  obtain ⟨pb, cb, hp⟩ := h'.form
  subst hp
  have HL := hid h
  have HM := hid h'
  clear h h'
  go_enter Tryz.func27, Tryz.ntmps27
  by_cases hne : l.length = m.length
  rotate_left
  · go_wp2
    all_goals (go_ret; refine ⟨ret_bool ?_, Fr.refl _ _⟩; exact (decide_eq_false (fun e => hne (by rw [e]))).symm)
  · have HNE := hid hne
    rw [← hne]
    have HM2 := HM.out
    rw [← hne] at HM2
    have HM' := hid HM2
    clear HM HM2 hne
    go_wp2
    go_loopw [13] (fun j wr => ∃ (k : Nat), k ≤ l.length ∧ j = .int .i64 k ∧ Fr NoB w wr ∧ l.take k = m.take k) (fun j _ => l.length - (intOf j).toNat)
    case atStart => exact ⟨0, Nat.zero_le _, rfl, Fr.refl _ _, rfl⟩
    case round =>
      obtain ⟨k, hk, rfl, hf, htk⟩ := hrel
      have F := hid hf
      have HT := hid htk
      by_cases hlt : k < l.length
      · have hltm : k < m.length := by rw [← HNE.out]; exact hlt
        obtain ⟨b, off, rfl, e0⟩ := (HL.out.fr hf (fun _ _ h => h)).cellN' hlt
        obtain ⟨b', off', rfl, g0⟩ := (HM'.out.fr hf (fun _ _ h => h)).cellN' hltm
        have HGL := hid (List.getElem?_eq_getElem hlt)
        have HGM := hid (List.getElem?_eq_getElem hltm)
        generalize l[k] = x at e0 HGL
        generalize m[k] = y at g0 HGM
        have db := lt_of_cell e0
        have db' := lt_of_cell g0
        clear hf htk hltm
        by_cases hxy : x = y
        · have HXY := hid hxy
          subst hxy
          go_wp2
          refine region_txt (Fr NoB _) (by kernel_rfl) (by kernel_rfl) ((Fr.refl NoB _).drew) ?_
          repeat (first | (refine txt_off (by rfl) ?_; (try simp only [Act.put, List.setIfInBounds_toArray, List.set_cons_zero, List.set_cons_succ])) | (refine txt_read ?_ (by rfl) ?_ ?_; rotate_left; (focus (intro W hW; have hWc := Fr.cq hW; clear hW; go_simp; (try with_reducible rfl); done)); (try simp only [Act.put, List.setIfInBounds_toArray, List.set_cons_zero, List.set_cons_succ])))
          refine txt_nil ?_
          intro W hW
          have F2 := hid (F.out.step hW)
          clear hW e0 g0 db db'
          go_wp2
          go_roundw
          case rel => exact ⟨k + 1, by omega, by go_num, F2.out, by rw [List.take_add_one, List.take_add_one, HT.out, HGL.out, HGM.out]⟩
          case measure => simp [intOf]; omega
        · have HXY := hid hxy
          go_wp2
          refine region_txt (Fr NoB _) (by kernel_rfl) (by kernel_rfl) ((Fr.refl NoB _).drew) ?_
          repeat (first | (refine txt_off (by rfl) ?_; (try simp only [Act.put, List.setIfInBounds_toArray, List.set_cons_zero, List.set_cons_succ])) | (refine txt_read ?_ (by rfl) ?_ ?_; rotate_left; (focus (intro W hW; have hWc := Fr.cq hW; clear hW; go_simp; (try with_reducible rfl); done)); (try simp only [Act.put, List.setIfInBounds_toArray, List.set_cons_zero, List.set_cons_succ])))
          refine txt_nil ?_
          intro W hW
          have F2 := hid (F.out.step hW)
          clear hW e0 g0 db db'
          go_wp2
          go_ret
          refine ⟨ret_bool ?_, F2.out⟩
          refine (decide_eq_false (fun e => HXY.out ?_)).symm
          have h1 := HGL.out
          rw [e, HGM.out] at h1
          exact (Option.some.inj h1).symm
      · obtain rfl : k = l.length := by omega
        go_wp2
        go_ret
        refine ⟨ret_bool ?_, F.out⟩
        have h9 := HT.out
        rw [List.take_length, List.take_of_length_le (by rw [HNE.out]; exact Nat.le_refl _)] at h9
        exact (decide_eq_true h9).symm
set_option maxHeartbeats 4000000 in
theorem eqRefI_any (v u : Value) (l m : List Int) (w : World) (h : RdI NoB w v l) (h' : RdI NoB w u m) (hl : l.length ≤ 1000000000) :
    Calls Tryz.prog 32 #[v, u] w fun e w' => e = .returned (.bool (decide (l = m))) ∧ Fr NoB w w' := by
  obtain ⟨pa, ca, hp⟩ := h.form
  subst hp
  obtain ⟨pb, cb, hp⟩ := h'.form
  subst hp
  have HL := hid h
  have HM := hid h'
  clear h h'
  go_enter Tryz.func32, Tryz.ntmps32
  by_cases hne : l.length = m.length
  rotate_left
  · go_wp2
    all_goals (go_ret; refine ⟨ret_bool ?_, Fr.refl _ _⟩; exact (decide_eq_false (fun e => hne (by rw [e]))).symm)
  · have HNE := hid hne
    rw [← hne]
    have HM2 := HM.out
    rw [← hne] at HM2
    have HM' := hid HM2
    clear HM HM2 hne
    go_wp2
    go_loopw [5] (fun j wr => ∃ (k : Nat), k ≤ l.length ∧ j = .int .i64 k ∧ Fr NoB w wr ∧ l.take k = m.take k) (fun j _ => l.length - (intOf j).toNat)
    case atStart => exact ⟨0, Nat.zero_le _, rfl, Fr.refl _ _, rfl⟩
    case round =>
      obtain ⟨k, hk, rfl, hf, htk⟩ := hrel
      have F := hid hf
      have HT := hid htk
      by_cases hlt : k < l.length
      · have hltm : k < m.length := by rw [← HNE.out]; exact hlt
        obtain ⟨b, off, rfl, e0⟩ := (HL.out.fr hf (fun _ _ h => h)).cellN' hlt
        obtain ⟨b', off', rfl, g0⟩ := (HM'.out.fr hf (fun _ _ h => h)).cellN' hltm
        have HGL := hid (List.getElem?_eq_getElem hlt)
        have HGM := hid (List.getElem?_eq_getElem hltm)
        generalize l[k] = x at e0 HGL
        generalize m[k] = y at g0 HGM
        have db := lt_of_cell e0
        have db' := lt_of_cell g0
        clear hf htk hltm
        by_cases hxy : x = y
        · have HXY := hid hxy
          subst hxy
          go_wp2
          refine region_txt (Fr NoB _) (by kernel_rfl) (by kernel_rfl) ((Fr.refl NoB _).drew) ?_
          repeat (first | (refine txt_off (by rfl) ?_; (try simp only [Act.put, List.setIfInBounds_toArray, List.set_cons_zero, List.set_cons_succ])) | (refine txt_read ?_ (by rfl) ?_ ?_; rotate_left; (focus (intro W hW; have hWc := Fr.cq hW; clear hW; go_simp; (try with_reducible rfl); done)); (try simp only [Act.put, List.setIfInBounds_toArray, List.set_cons_zero, List.set_cons_succ])))
          refine txt_nil ?_
          intro W hW
          have F2 := hid (F.out.step hW)
          clear hW e0 g0 db db'
          go_wp2
          go_roundw
          case rel => exact ⟨k + 1, by omega, by go_num, F2.out, by rw [List.take_add_one, List.take_add_one, HT.out, HGL.out, HGM.out]⟩
          case measure => simp [intOf]; omega
        · have HXY := hid hxy
          go_wp2
          refine region_txt (Fr NoB _) (by kernel_rfl) (by kernel_rfl) ((Fr.refl NoB _).drew) ?_
          repeat (first | (refine txt_off (by rfl) ?_; (try simp only [Act.put, List.setIfInBounds_toArray, List.set_cons_zero, List.set_cons_succ])) | (refine txt_read ?_ (by rfl) ?_ ?_; rotate_left; (focus (intro W hW; have hWc := Fr.cq hW; clear hW; go_simp; (try with_reducible rfl); done)); (try simp only [Act.put, List.setIfInBounds_toArray, List.set_cons_zero, List.set_cons_succ])))
          refine txt_nil ?_
          intro W hW
          have F2 := hid (F.out.step hW)
          clear hW e0 g0 db db'
          go_wp2
          go_ret
          refine ⟨ret_bool ?_, F2.out⟩
          refine (decide_eq_false (fun e => HXY.out ?_)).symm
          have h1 := HGL.out
          rw [e, HGM.out] at h1
          exact (Option.some.inj h1).symm
      · obtain rfl : k = l.length := by omega
        go_wp2
        go_ret
        refine ⟨ret_bool ?_, F.out⟩
        have h9 := HT.out
        rw [List.take_length, List.take_of_length_le (by rw [HNE.out]; exact Nat.le_refl _)] at h9
        exact (decide_eq_true h9).symm
set_option maxHeartbeats 4000000 in
theorem eqL_any (v u : Value) (l m : List Lnk) (w : World) (h : RdE lkCells NoB w v l) (h' : RdE lkCells NoB w u m) (hl : l.length ≤ 1000000000) :
    Calls Tryz.prog 29 #[v, u] w fun e w' => e = .returned (.bool (decide (l = m))) ∧ Fr NoB w w' := by
  obtain ⟨pa, ca, hp⟩ := h.form
  subst hp
  obtain ⟨pb, cb, hp⟩ := h'.form
  subst hp
  have HL := hid h
  have HM := hid h'
  clear h h'
  go_enter Tryz.func29, Tryz.ntmps29
  by_cases hne : l.length = m.length
  rotate_left
  · go_wp2
    all_goals (go_ret; refine ⟨ret_bool ?_, Fr.refl _ _⟩; exact (decide_eq_false (fun e => hne (by rw [e]))).symm)
  · have HNE := hid hne
    rw [← hne]
    have HM2 := HM.out
    rw [← hne] at HM2
    have HM' := hid HM2
    clear HM HM2 hne
    go_wp2
    go_loopw [13] (fun j wr => ∃ (k : Nat), k ≤ l.length ∧ j = .int .i64 k ∧ Fr NoB w wr ∧ l.take k = m.take k) (fun j _ => l.length - (intOf j).toNat)
    case atStart => exact ⟨0, Nat.zero_le _, rfl, Fr.refl _ _, rfl⟩
    case round =>
      obtain ⟨k, hk, rfl, hf, htk⟩ := hrel
      have F := hid hf
      have HT := hid htk
      by_cases hlt : k < l.length
      · have hltm : k < m.length := by rw [← HNE.out]; exact hlt
        obtain ⟨b, off, rfl, hq1, e0, e1, e2⟩ := (HL.out.fr hf (fun _ _ h => h)).lkK hlt
        obtain ⟨b', off', rfl, hq2, g0, g1, g2⟩ := (HM'.out.fr hf (fun _ _ h => h)).lkK hltm
        clear hq1 hq2
        have HGL := hid (List.getElem?_eq_getElem hlt)
        have HGM := hid (List.getElem?_eq_getElem hltm)
        generalize l[k] = x at e0 e1 e2 HGL
        generalize m[k] = y at g0 g1 g2 HGM
        have db := lt_of_cell e0
        have db' := lt_of_cell g0
        clear hf htk hltm
        by_cases hxy : x = y
        · have HXY := hid hxy
          subst hxy
          go_wp2
          refine region_txt (Fr NoB _) (by kernel_rfl) (by kernel_rfl) ((Fr.refl NoB _).drew) ?_
          repeat (first | (refine txt_off (by rfl) ?_; (try simp only [Act.put, List.setIfInBounds_toArray, List.set_cons_zero, List.set_cons_succ])) | (refine txt_read ?_ (by rfl) ?_ ?_; rotate_left; (focus (intro W hW; have hWc := Fr.cq hW; clear hW; go_simp; (try with_reducible rfl); done)); (try simp only [Act.put, List.setIfInBounds_toArray, List.set_cons_zero, List.set_cons_succ])))
          refine txt_nil ?_
          intro W hW
          have F2 := hid (F.out.step hW)
          clear hW e0 e1 e2 g0 g1 g2 db db'
          go_wp2
          go_roundw
          case rel => exact ⟨k + 1, by omega, by go_num, F2.out, by rw [List.take_add_one, List.take_add_one, HT.out, HGL.out, HGM.out]⟩
          case measure => simp [intOf]; omega
        · have HXY := hid hxy
          clear hxy
          go_wp2
          refine region_txt (Fr NoB _) (by kernel_rfl) (by kernel_rfl) ((Fr.refl NoB _).drew) ?_
          repeat (first | (refine txt_off (by rfl) ?_; (try simp only [Act.put, List.setIfInBounds_toArray, List.set_cons_zero, List.set_cons_succ])) | (refine txt_read ?_ (by rfl) ?_ ?_; rotate_left; (focus (intro W hW; have hWc := Fr.cq hW; clear hW; go_simp; (try with_reducible rfl); done)); (try simp only [Act.put, List.setIfInBounds_toArray, List.set_cons_zero, List.set_cons_succ])))
          refine txt_read (.bool true) (by rfl) ?_ ?_
          · intro W hW
            go_simp
            intro h1 h2 h3
            refine HXY.out ?_
            obtain ⟨a1, a2, a3⟩ := x
            obtain ⟨b1, b2, b3⟩ := y
            simp only at h1 h2 h3
            rw [h1, h2, h3]
          (try simp only [Act.put, List.setIfInBounds_toArray, List.set_cons_zero, List.set_cons_succ])
          repeat (first | (refine txt_off (by rfl) ?_; (try simp only [Act.put, List.setIfInBounds_toArray, List.set_cons_zero, List.set_cons_succ])) | (refine txt_read ?_ (by rfl) ?_ ?_; rotate_left; (focus (intro W hW; have hWc := Fr.cq hW; clear hW; go_simp; (try with_reducible rfl); done)); (try simp only [Act.put, List.setIfInBounds_toArray, List.set_cons_zero, List.set_cons_succ])))
          refine txt_nil ?_
          intro W hW
          have F2 := hid (F.out.step hW)
          clear hW e0 e1 e2 g0 g1 g2 db db'
          go_wp2
          go_ret
          refine ⟨ret_bool ?_, F2.out⟩
          refine (decide_eq_false (fun e => HXY.out ?_)).symm
          have h1 := HGL.out
          rw [e, HGM.out] at h1
          exact (Option.some.inj h1).symm
      · obtain rfl : k = l.length := by omega
        go_wp2
        go_ret
        refine ⟨ret_bool ?_, F.out⟩
        have h9 := HT.out
        rw [List.take_length, List.take_of_length_le (by rw [HNE.out]; exact Nat.le_refl _)] at h9
        exact (decide_eq_true h9).symm
set_option maxHeartbeats 4000000 in
theorem eqRefL_any (v u : Value) (l m : List Lnk) (w : World) (h : RdE lkCells NoB w v l) (h' : RdE lkCells NoB w u m) (hl : l.length ≤ 1000000000) :
    Calls Tryz.prog 31 #[v, u] w fun e w' => e = .returned (.bool (decide (l = m))) ∧ Fr NoB w w' := by
  obtain ⟨pa, ca, hp⟩ := h.form
  subst hp
  obtain ⟨pb, cb, hp⟩ := h'.form
  subst hp
  have HL := hid h
  have HM := hid h'
  clear h h'
  go_enter Tryz.func31, Tryz.ntmps31
  by_cases hne : l.length = m.length
  rotate_left
  · go_wp2
    all_goals (go_ret; refine ⟨ret_bool ?_, Fr.refl _ _⟩; exact (decide_eq_false (fun e => hne (by rw [e]))).symm)
  · have HNE := hid hne
    rw [← hne]
    have HM2 := HM.out
    rw [← hne] at HM2
    have HM' := hid HM2
    clear HM HM2 hne
    go_wp2
    go_loopw [5] (fun j wr => ∃ (k : Nat), k ≤ l.length ∧ j = .int .i64 k ∧ Fr NoB w wr ∧ l.take k = m.take k) (fun j _ => l.length - (intOf j).toNat)
    case atStart => exact ⟨0, Nat.zero_le _, rfl, Fr.refl _ _, rfl⟩
    case round =>
      obtain ⟨k, hk, rfl, hf, htk⟩ := hrel
      have F := hid hf
      have HT := hid htk
      by_cases hlt : k < l.length
      · have hltm : k < m.length := by rw [← HNE.out]; exact hlt
        obtain ⟨b, off, rfl, hq1, e0, e1, e2⟩ := (HL.out.fr hf (fun _ _ h => h)).lkK hlt
        obtain ⟨b', off', rfl, hq2, g0, g1, g2⟩ := (HM'.out.fr hf (fun _ _ h => h)).lkK hltm
        clear hq1 hq2
        have HGL := hid (List.getElem?_eq_getElem hlt)
        have HGM := hid (List.getElem?_eq_getElem hltm)
        generalize l[k] = x at e0 e1 e2 HGL
        generalize m[k] = y at g0 g1 g2 HGM
        have db := lt_of_cell e0
        have db' := lt_of_cell g0
        clear hf htk hltm
        by_cases hxy : x = y
        · have HXY := hid hxy
          subst hxy
          go_wp2
          refine region_txt (Fr NoB _) (by kernel_rfl) (by kernel_rfl) ((Fr.refl NoB _).drew) ?_
          repeat (first | (refine txt_off (by rfl) ?_; (try simp only [Act.put, List.setIfInBounds_toArray, List.set_cons_zero, List.set_cons_succ])) | (refine txt_read ?_ (by rfl) ?_ ?_; rotate_left; (focus (intro W hW; have hWc := Fr.cq hW; clear hW; go_simp; (try with_reducible rfl); done)); (try simp only [Act.put, List.setIfInBounds_toArray, List.set_cons_zero, List.set_cons_succ])))
          refine txt_nil ?_
          intro W hW
          have F2 := hid (F.out.step hW)
          clear hW e0 e1 e2 g0 g1 g2 db db'
          go_wp2
          go_roundw
          case rel => exact ⟨k + 1, by omega, by go_num, F2.out, by rw [List.take_add_one, List.take_add_one, HT.out, HGL.out, HGM.out]⟩
          case measure => simp [intOf]; omega
        · have HXY := hid hxy
          clear hxy
          go_wp2
          refine region_txt (Fr NoB _) (by kernel_rfl) (by kernel_rfl) ((Fr.refl NoB _).drew) ?_
          repeat (first | (refine txt_off (by rfl) ?_; (try simp only [Act.put, List.setIfInBounds_toArray, List.set_cons_zero, List.set_cons_succ])) | (refine txt_read ?_ (by rfl) ?_ ?_; rotate_left; (focus (intro W hW; have hWc := Fr.cq hW; clear hW; go_simp; (try with_reducible rfl); done)); (try simp only [Act.put, List.setIfInBounds_toArray, List.set_cons_zero, List.set_cons_succ])))
          refine txt_read (.bool true) (by rfl) ?_ ?_
          · intro W hW
            go_simp
            intro h1 h2 h3
            refine HXY.out ?_
            obtain ⟨a1, a2, a3⟩ := x
            obtain ⟨b1, b2, b3⟩ := y
            simp only at h1 h2 h3
            rw [h1, h2, h3]
          (try simp only [Act.put, List.setIfInBounds_toArray, List.set_cons_zero, List.set_cons_succ])
          repeat (first | (refine txt_off (by rfl) ?_; (try simp only [Act.put, List.setIfInBounds_toArray, List.set_cons_zero, List.set_cons_succ])) | (refine txt_read ?_ (by rfl) ?_ ?_; rotate_left; (focus (intro W hW; have hWc := Fr.cq hW; clear hW; go_simp; (try with_reducible rfl); done)); (try simp only [Act.put, List.setIfInBounds_toArray, List.set_cons_zero, List.set_cons_succ])))
          refine txt_nil ?_
          intro W hW
          have F2 := hid (F.out.step hW)
          clear hW e0 e1 e2 g0 g1 g2 db db'
          go_wp2
          go_ret
          refine ⟨ret_bool ?_, F2.out⟩
          refine (decide_eq_false (fun e => HXY.out ?_)).symm
          have h1 := HGL.out
          rw [e, HGM.out] at h1
          exact (Option.some.inj h1).symm
      · obtain rfl : k = l.length := by omega
        go_wp2
        go_ret
        refine ⟨ret_bool ?_, F.out⟩
        have h9 := HT.out
        rw [List.take_length, List.take_of_length_le (by rw [HNE.out]; exact Nat.le_refl _)] at h9
        exact (decide_eq_true h9).symm
set_option maxHeartbeats 4000000 in
theorem sameClo_any (a b : Node) (v u : Value) (w : World) (h : RdI NoB w v a.args) (h' : RdI NoB w u b.args) (hl : a.args.length ≤ 1000000000) :
    Calls Tryz.prog 26 #[nodeV a v, nodeV b u] w fun e w' => e = .returned (.bool (nodeCmp a b == 0)) ∧ Fr NoB w w' := by
  obtain ⟨pa, ca, hp⟩ := h.form
  subst hp
  obtain ⟨pb, cb, hp⟩ := h'.form
  subst hp
  have FA : Hid (Fr NoB w ((w.alloc (.cells (nodeCells a (.slice pa a.args.length ca)) 44)).alloc (.cells (nodeCells b (.slice pb b.args.length cb)) 44))) := ((Fr.refl NoB w).alloc _).alloc _
  have H := hid (h.fr FA.out (fun _ _ h => h))
  have H' := hid (h'.fr FA.out (fun _ _ h => h))
  clear h h'
  have no : ∀ {x y : Node}, x ≠ y → (nodeCmp x y == 0) = false := fun h => by
    rw [beq_eq_false_iff_ne]; exact fun e => h (nodeCmp_zero.1 e)
  have NO : Hid (∀ {x y : Node}, x ≠ y → (nodeCmp x y == 0) = false) := no
  clear no
  unfold nodeV
  go_enter Tryz.func26, Tryz.ntmps26
  by_cases h1 : a.op = b.op
  rotate_left
  · have H1 := hid h1
    go_wp2
    go_ret
    exact ⟨ret_bool (NO.out (fun e => H1.out (by rw [e]))).symm, FA.out⟩
  obtain ⟨ao, aw, av, an, aa⟩ := a
  obtain ⟨bo, bw, bv, bn, ba⟩ := b
  simp only at h1 H H' FA hl ⊢
  subst h1
  by_cases h2 : aw = bw
  rotate_left
  · have H1 := hid h2
    go_wp2
    go_ret
    exact ⟨ret_bool (NO.out (fun e => H1.out (by injection e))).symm, FA.out⟩
  subst h2
  by_cases h3 : av = bv
  rotate_left
  · have H1 := hid h3
    go_wp2
    go_ret
    exact ⟨ret_bool (NO.out (fun e => H1.out (by injection e))).symm, FA.out⟩
  subst h3
  by_cases h4 : an.toList = bn.toList
  rotate_left
  · have H1 := hid h4
    go_wp2
    go_ret
    exact ⟨ret_bool (NO.out (fun e => H1.out (by injection e with _ _ _ e4 _; rw [e4]))).symm, FA.out⟩
  have H4 := hid h4
  go_wp2_with fail
  refine (eqI_any _ _ aa ba _ H.out H'.out hl).mono ?_
  rintro e w2 ⟨rfl, hf⟩
  have F2 := hid (FA.out.step hf)
  clear hf
  go_wp2
  go_ret
  refine ⟨ret_bool ?_, F2.out⟩
  by_cases h5 : aa = ba
  · subst h5
    rw [toList_inj H4.out, nodeCmp_zero.2 rfl]
    simp
  · rw [decide_eq_false h5, NO.out (fun e => h5 (by injection e))]
set_option maxHeartbeats 4000000 in
theorem eqFN_any (v u : Value) (l m : List (Node × Value)) (w : World) (h : RdN NoB w v l) (h' : RdN NoB w u m) (hl : l.length ≤ 1000000) (ha : ∀ x ∈ l, x.1.args.length ≤ 1000000) (ha' : ∀ x ∈ m, x.1.args.length ≤ 1000000) :
    Calls Tryz.prog 28 #[v, u, .func (.func 26) #[] #[]] w fun e w' => e = .returned (.bool (eqNs (l.map (·.1)) (m.map (·.1)))) ∧ Fr NoB w w' := by
  obtain ⟨pa, ca, hp⟩ := h.form
  subst hp
  obtain ⟨pb, cb, hp⟩ := h'.form
  subst hp
  have HL := hid h
  have HM := hid h'
  have HAL := hid ha
  have HAM := hid ha'
  clear h h' ha ha'
  go_enter Tryz.func28, Tryz.ntmps28
  by_cases hne : l.length = m.length
  rotate_left
  · have HNE := hid hne
    go_wp2
    all_goals (go_ret; refine ⟨ret_bool ?_, Fr.refl _ _⟩; exact (eqNs_no (fun e => HNE.out (by have := congrArg List.length e; simpa using this))).symm)
  · have HNE := hid hne
    rw [← hne]
    have HM2 := HM.out
    rw [← hne] at HM2
    have HM' := hid HM2
    clear HM HM2 hne
    go_wp2
    go_loopw [17] (fun j wr => ∃ (k : Nat), k ≤ l.length ∧ j = .int .i64 k ∧ Fr NoB w wr ∧ (l.map (·.1)).take k = (m.map (·.1)).take k) (fun j _ => l.length - (intOf j).toNat)
    case atStart => exact ⟨0, Nat.zero_le _, rfl, Fr.refl _ _, rfl⟩
    case round =>
      obtain ⟨k, hk, rfl, hf, htk⟩ := hrel
      have F := hid hf
      have HT := hid htk
      by_cases hlt : k < l.length
      · have hltm : k < m.length := by rw [← HNE.out]; exact hlt
        obtain ⟨b, off, rfl, e0, e1, e2, e3, e4, ha⟩ := (HL.out.step hf).nodeK hlt
        obtain ⟨b', off', rfl, g0, g1, g2, g3, g4, hb⟩ := (HM'.out.step hf).nodeK hltm
        have HGL : Hid ((l.map (·.1))[k]? = some l[k].1) := by show _ = _; rw [List.getElem?_map, List.getElem?_eq_getElem hlt]; rfl
        have HGM : Hid ((m.map (·.1))[k]? = some m[k].1) := by show _ = _; rw [List.getElem?_map, List.getElem?_eq_getElem hltm]; rfl
        have la := HAL.out _ (List.getElem_mem hlt)
        have lb := HAM.out _ (List.getElem_mem hltm)
        generalize l[k] = x at e0 e1 e2 e3 e4 ha HGL la
        generalize m[k] = y at g0 g1 g2 g3 g4 hb HGM lb
        obtain ⟨xn, xs⟩ := x
        obtain ⟨yn, ys⟩ := y
        simp only at e0 e1 e2 e3 e4 ha HGL la g0 g1 g2 g3 g4 hb HGM lb
        obtain ⟨ax, cx, rfl⟩ := ha.form
        obtain ⟨ay, cy, rfl⟩ := hb.form
        have HA := hid ha
        have HB := hid hb
        have db := lt_of_cell e0
        have db' := lt_of_cell g0
        have FB : Hid (Fr NoB wr ((wr.alloc (.cells (nodeCells xn (.slice ax xn.args.length cx)) 44)).alloc (.cells (nodeCells yn (.slice ay yn.args.length cy)) 44))) := ((Fr.refl NoB wr).alloc _).alloc _
        clear hf htk hltm ha hb
        go_wp2_with fail
        refine (sameClo_any xn yn _ _ _ (HA.out.fr FB.out (fun _ _ h => h)) (HB.out.fr FB.out (fun _ _ h => h)) (by omega)).mono ?_
        rintro e w2 ⟨rfl, h2⟩
        have F2 := hid ((F.out.step FB.out).step h2)
        clear h2
        cases hc : (nodeCmp xn yn == 0) with
        | true =>
          have HXY : Hid (xn = yn) := nodeCmp_zero.1 (by simpa using hc)
          clear hc
          clear e0 e1 e2 e3 e4 g0 g1 g2 g3 g4 db db' la lb
          go_wp2
          go_roundw
          case rel => exact ⟨k + 1, by omega, by go_num, F2.out, by rw [List.take_add_one, List.take_add_one, HT.out, HGL.out, HGM.out, HXY.out]⟩
          case measure => simp [intOf]; omega
        | false =>
          have HXY : Hid (xn ≠ yn) := fun e => by rw [nodeCmp_zero.2 e] at hc; simp at hc
          clear hc
          clear e0 e1 e2 e3 e4 g0 g1 g2 g3 g4 db db' la lb
          go_wp2
          go_ret
          refine ⟨ret_bool ?_, F2.out⟩
          refine (eqNs_no (fun e => HXY.out ?_)).symm
          have h1 := HGL.out
          rw [e, HGM.out] at h1
          exact (Option.some.inj h1).symm
      · obtain rfl : k = l.length := by omega
        go_wp2
        go_ret
        refine ⟨ret_bool ?_, F.out⟩
        have h9 := HT.out
        rw [List.take_of_length_le (by simp), List.take_of_length_le (by simp [HNE.out])] at h9
        exact (eqNs_iff.2 h9).symm
set_option maxHeartbeats 4000000 in
theorem eqRefN_any (v u : Value) (l m : List (Node × Value)) (w : World) (h : RdN NoB w v l) (h' : RdN NoB w u m) (hl : l.length ≤ 1000000) (ha : ∀ x ∈ l, x.1.args.length ≤ 1000000) (ha' : ∀ x ∈ m, x.1.args.length ≤ 1000000) :
    Calls Tryz.prog 30 #[v, u] w fun e w' => e = .returned (.bool (eqNs (l.map (·.1)) (m.map (·.1)))) ∧ Fr NoB w w' := by
  obtain ⟨pa, ca, hp⟩ := h.form
  subst hp
  obtain ⟨pb, cb, hp⟩ := h'.form
  subst hp
  have HL := hid h
  have HM := hid h'
  have HAL := hid ha
  have HAM := hid ha'
  clear h h' ha ha'
  go_enter Tryz.func30, Tryz.ntmps30
  by_cases hne : l.length = m.length
  rotate_left
  · have HNE := hid hne
    go_wp2
    all_goals (go_ret; refine ⟨ret_bool ?_, Fr.refl _ _⟩; exact (eqNs_no (fun e => HNE.out (by have := congrArg List.length e; simpa using this))).symm)
  · have HNE := hid hne
    rw [← hne]
    have HM2 := HM.out
    rw [← hne] at HM2
    have HM' := hid HM2
    clear HM HM2 hne
    go_wp2
    go_loopw [5] (fun j wr => ∃ (k : Nat), k ≤ l.length ∧ j = .int .i64 k ∧ Fr NoB w wr ∧ (l.map (·.1)).take k = (m.map (·.1)).take k) (fun j _ => l.length - (intOf j).toNat)
    case atStart => exact ⟨0, Nat.zero_le _, rfl, Fr.refl _ _, rfl⟩
    case round =>
      obtain ⟨k, hk, rfl, hf, htk⟩ := hrel
      have F := hid hf
      have HT := hid htk
      by_cases hlt : k < l.length
      · have hltm : k < m.length := by rw [← HNE.out]; exact hlt
        obtain ⟨b, off, rfl, e0, e1, e2, e3, e4, ha⟩ := (HL.out.step hf).nodeK hlt
        obtain ⟨b', off', rfl, g0, g1, g2, g3, g4, hb⟩ := (HM'.out.step hf).nodeK hltm
        have HGL : Hid ((l.map (·.1))[k]? = some l[k].1) := by show _ = _; rw [List.getElem?_map, List.getElem?_eq_getElem hlt]; rfl
        have HGM : Hid ((m.map (·.1))[k]? = some m[k].1) := by show _ = _; rw [List.getElem?_map, List.getElem?_eq_getElem hltm]; rfl
        have la := HAL.out _ (List.getElem_mem hlt)
        have lb := HAM.out _ (List.getElem_mem hltm)
        generalize l[k] = x at e0 e1 e2 e3 e4 ha HGL la
        generalize m[k] = y at g0 g1 g2 g3 g4 hb HGM lb
        obtain ⟨xn, xs⟩ := x
        obtain ⟨yn, ys⟩ := y
        simp only at e0 e1 e2 e3 e4 ha HGL la g0 g1 g2 g3 g4 hb HGM lb
        obtain ⟨ax, cx, rfl⟩ := ha.form
        obtain ⟨ay, cy, rfl⟩ := hb.form
        have HA := hid ha
        have HB := hid hb
        have db := lt_of_cell e0
        have db' := lt_of_cell g0
        clear hf htk hltm ha hb
        go_wp2
        refine region_txt (Fr NoB _) (by kernel_rfl) (by kernel_rfl) ((Fr.refl NoB _).drew) ?_
        repeat (first | (refine txt_off (by rfl) ?_; (try simp only [Act.put, List.setIfInBounds_toArray, List.set_cons_zero, List.set_cons_succ])) | (refine txt_read ?_ (by rfl) ?_ ?_; rotate_left; (focus (intro W hW; have hWc := Fr.cq hW; clear hW; go_simp; (try with_reducible rfl); done)); (try simp only [Act.put, List.setIfInBounds_toArray, List.set_cons_zero, List.set_cons_succ])))
        (refine txt_call (.bool (nodeCmp xn yn == 0)) ?_ ?_ (by rfl) ?_ ?_ ?_; rotate_left; rotate_left; (focus (intro W; go_simp; (first | done | (refine And.intro ?_ ?_ <;> with_reducible rfl) | with_reducible rfl); done)); (focus (exact (fun W hW => (refSame_any NoB xn yn _ _ W (HA.out.fr hW (fun _ _ h => h)) (HB.out.fr hW (fun _ _ h => h)) (by omega) (by omega)).mono fun e w' h => ⟨h.1, hW.step h.2⟩))); (try simp only [Act.put, List.setIfInBounds_toArray, List.set_cons_zero, List.set_cons_succ]))
        cases hc : (nodeCmp xn yn == 0) with
        | true =>
          have HXY : Hid (xn = yn) := nodeCmp_zero.1 (by simpa using hc)
          clear hc
          repeat (first | (refine txt_off (by rfl) ?_; (try simp only [Act.put, List.setIfInBounds_toArray, List.set_cons_zero, List.set_cons_succ])) | (refine txt_read ?_ (by rfl) ?_ ?_; rotate_left; (focus (intro W hW; have hWc := Fr.cq hW; clear hW; go_simp; (try with_reducible rfl); done)); (try simp only [Act.put, List.setIfInBounds_toArray, List.set_cons_zero, List.set_cons_succ])))
          refine txt_nil ?_
          intro W hW
          have F2 := hid (F.out.step hW)
          clear hW
          clear e0 e1 e2 e3 e4 g0 g1 g2 g3 g4 db db' la lb
          go_wp2
          go_roundw
          case rel => exact ⟨k + 1, by omega, by go_num, F2.out, by rw [List.take_add_one, List.take_add_one, HT.out, HGL.out, HGM.out, HXY.out]⟩
          case measure => simp [intOf]; omega
        | false =>
          have HXY : Hid (xn ≠ yn) := fun e => by rw [nodeCmp_zero.2 e] at hc; simp at hc
          clear hc
          repeat (first | (refine txt_off (by rfl) ?_; (try simp only [Act.put, List.setIfInBounds_toArray, List.set_cons_zero, List.set_cons_succ])) | (refine txt_read ?_ (by rfl) ?_ ?_; rotate_left; (focus (intro W hW; have hWc := Fr.cq hW; clear hW; go_simp; (try with_reducible rfl); done)); (try simp only [Act.put, List.setIfInBounds_toArray, List.set_cons_zero, List.set_cons_succ])))
          refine txt_nil ?_
          intro W hW
          have F2 := hid (F.out.step hW)
          clear hW
          clear e0 e1 e2 e3 e4 g0 g1 g2 g3 g4 db db' la lb
          go_wp2
          go_ret
          refine ⟨ret_bool ?_, F2.out⟩
          refine (eqNs_no (fun e => HXY.out ?_)).symm
          have h1 := HGL.out
          rw [e, HGM.out] at h1
          exact (Option.some.inj h1).symm
      · obtain rfl : k = l.length := by omega
        go_wp2
        go_ret
        refine ⟨ret_bool ?_, F.out⟩
        have h9 := HT.out
        rw [List.take_of_length_le (by simp), List.take_of_length_le (by simp [HNE.out])] at h9
        exact (eqNs_iff.2 h9).symm
set_option maxHeartbeats 4000000 in
theorem same_any (sN sL sR tN tL tR : Value) (d c : Dmp) (w : World) (hd : RdD NoB w sN sL sR d) (hc : RdD NoB w tN tL tR c) (h1 : d.nodes.length ≤ 1000000) (h2 : d.links.length ≤ 1000000) (h3 : d.roots.length ≤ 1000000) (ha : ∀ x ∈ d.nodes, x.1.args.length ≤ 1000000) (ha' : ∀ x ∈ c.nodes, x.1.args.length ≤ 1000000) :
    Calls Tryz.prog 13 #[dumpV sN sL sR, dumpV tN tL tR] w fun e w' => e = .returned (.bool (sameS (dmOf d) (dmOf c))) ∧ Fr NoB w w' := by
  have FA : Hid (Fr NoB w ((w.alloc (.cells (dumpCells sN sL sR) 26)).alloc (.cells (dumpCells tN tL tR) 26))) := ((Fr.refl NoB w).alloc _).alloc _
  have HD := hid (hd.step FA.out)
  have HC := hid (hc.step FA.out)
  have HA := hid ha
  have HA' := hid ha'
  have BD := hid (at_old (at_new w (.cells (dumpCells sN sL sR) 26)) (.cells (dumpCells tN tL tR) 26))
  have BC : Hid (((w.alloc (.cells (dumpCells sN sL sR) 26)).alloc (.cells (dumpCells tN tL tR) 26)).heap[w.heap.size + 1]? = some (.cells (dumpCells tN tL tR) 26 (0, 0))) := at_new' (by simp)
  obtain ⟨pd, cd, hp⟩ := hd.nodes.form
  subst hp
  obtain ⟨pc, cc, hp⟩ := hc.nodes.form
  subst hp
  clear hd hc ha ha'
  unfold dumpV
  go_enter Tryz.func13, Tryz.ntmps13
  go_wp2_with fail
  refine (eqFN_any _ _ d.nodes c.nodes _ HD.out.nodes HC.out.nodes h1 HA.out HA'.out).mono ?_
  rintro e w1 ⟨rfl, hf⟩
  have HD1 := hid (HD.out.step hf)
  have HC1 := hid (HC.out.step hf)
  have F1 := hid (FA.out.step hf)
  obtain ⟨x0, x1, x2, xf, xl⟩ := three_of (hf.at (fun h => h) BD.out)
  obtain ⟨y0, y1, y2, yf, yl⟩ := three_of (hf.at (fun h => h) BC.out)
  have BD1 := hid (hf.at (fun h => h) BD.out)
  have BC1 := hid (hf.at (fun h => h) BC.out)
  clear hf
  cases hq : eqNs (d.nodes.map (·.1)) (c.nodes.map (·.1)) with
  | false =>
    have HQ := hid hq
    clear hq
    go_wp2
    go_ret
    refine ⟨ret_bool ?_, F1.out⟩
    unfold sameS dmOf
    simp only [HQ.out, Bool.false_and]
  | true =>
    have HQ := hid hq
    clear hq
    go_wp2_with fail
    refine (eqL_any _ _ d.links c.links _ HD1.out.links HC1.out.links (by omega)).mono ?_
    rintro e w2 ⟨rfl, hf⟩
    have HD2 := hid (HD1.out.step hf)
    have HC2 := hid (HC1.out.step hf)
    have F2 := hid (F1.out.step hf)
    clear x0 x1 x2 xf xl y0 y1 y2 yf yl
    obtain ⟨x0, x1, x2, xf, xl⟩ := three_of (hf.at (fun h => h) BD1.out)
    obtain ⟨y0, y1, y2, yf, yl⟩ := three_of (hf.at (fun h => h) BC1.out)
    clear hf
    by_cases hq : d.links = c.links
    · have HQ2 := hid hq
      rw [decide_eq_true hq]
      clear hq
      go_wp2_with fail
      refine (eqI_any _ _ d.roots c.roots _ HD2.out.roots HC2.out.roots (by omega)).mono ?_
      rintro e w3 ⟨rfl, hf⟩
      have F3 := hid (F2.out.step hf)
      clear hf x0 x1 x2 xf xl y0 y1 y2 yf yl
      go_wp2
      go_ret
      refine ⟨ret_bool ?_, F3.out⟩
      unfold sameS dmOf
      simp only [HQ.out, decide_eq_true HQ2.out, Bool.true_and]
    · have HQ2 := hid hq
      rw [decide_eq_false hq]
      clear hq
      go_wp2
      go_ret
      refine ⟨ret_bool ?_, F2.out⟩
      unfold sameS dmOf
      simp only [HQ.out, decide_eq_false HQ2.out, Bool.true_and, Bool.false_and]
set_option maxHeartbeats 4000000 in
theorem refSameD_any (sN sL sR tN tL tR : Value) (d c : Dmp) (w : World) (hd : RdD NoB w sN sL sR d) (hc : RdD NoB w tN tL tR c) (h1 : d.nodes.length ≤ 1000000) (h2 : d.links.length ≤ 1000000) (h3 : d.roots.length ≤ 1000000) (ha : ∀ x ∈ d.nodes, x.1.args.length ≤ 1000000) (ha' : ∀ x ∈ c.nodes, x.1.args.length ≤ 1000000) :
    Calls Tryz.prog 14 #[dumpV sN sL sR, dumpV tN tL tR] w fun e w' => e = .returned (.bool (sameS (dmOf d) (dmOf c))) ∧ Fr NoB w w' := by
  have FA : Hid (Fr NoB w ((w.alloc (.cells (dumpCells sN sL sR) 26)).alloc (.cells (dumpCells tN tL tR) 26))) := ((Fr.refl NoB w).alloc _).alloc _
  have HD := hid (hd.step FA.out)
  have HC := hid (hc.step FA.out)
  have HA := hid ha
  have HA' := hid ha'
  have BD := hid (at_old (at_new w (.cells (dumpCells sN sL sR) 26)) (.cells (dumpCells tN tL tR) 26))
  have BC : Hid (((w.alloc (.cells (dumpCells sN sL sR) 26)).alloc (.cells (dumpCells tN tL tR) 26)).heap[w.heap.size + 1]? = some (.cells (dumpCells tN tL tR) 26 (0, 0))) := at_new' (by simp)
  obtain ⟨pd, cd, hp⟩ := hd.nodes.form
  subst hp
  obtain ⟨pc, cc, hp⟩ := hc.nodes.form
  subst hp
  clear hd hc ha ha'
  unfold dumpV
  go_enter Tryz.func14, Tryz.ntmps14
  go_wp2_with fail
  refine (eqRefN_any _ _ d.nodes c.nodes _ HD.out.nodes HC.out.nodes h1 HA.out HA'.out).mono ?_
  rintro e w1 ⟨rfl, hf⟩
  have HD1 := hid (HD.out.step hf)
  have HC1 := hid (HC.out.step hf)
  have F1 := hid (FA.out.step hf)
  obtain ⟨x0, x1, x2, xf, xl⟩ := three_of (hf.at (fun h => h) BD.out)
  obtain ⟨y0, y1, y2, yf, yl⟩ := three_of (hf.at (fun h => h) BC.out)
  have BD1 := hid (hf.at (fun h => h) BD.out)
  have BC1 := hid (hf.at (fun h => h) BC.out)
  clear hf
  cases hq : eqNs (d.nodes.map (·.1)) (c.nodes.map (·.1)) with
  | false =>
    have HQ := hid hq
    clear hq
    go_wp2
    go_ret
    refine ⟨ret_bool ?_, F1.out⟩
    unfold sameS dmOf
    simp only [HQ.out, Bool.false_and]
  | true =>
    have HQ := hid hq
    clear hq
    go_wp2_with fail
    refine (eqRefL_any _ _ d.links c.links _ HD1.out.links HC1.out.links (by omega)).mono ?_
    rintro e w2 ⟨rfl, hf⟩
    have HD2 := hid (HD1.out.step hf)
    have HC2 := hid (HC1.out.step hf)
    have F2 := hid (F1.out.step hf)
    clear x0 x1 x2 xf xl y0 y1 y2 yf yl
    obtain ⟨x0, x1, x2, xf, xl⟩ := three_of (hf.at (fun h => h) BD1.out)
    obtain ⟨y0, y1, y2, yf, yl⟩ := three_of (hf.at (fun h => h) BC1.out)
    clear hf
    by_cases hq : d.links = c.links
    · have HQ2 := hid hq
      rw [decide_eq_true hq]
      clear hq
      go_wp2_with fail
      refine (eqRefI_any _ _ d.roots c.roots _ HD2.out.roots HC2.out.roots (by omega)).mono ?_
      rintro e w3 ⟨rfl, hf⟩
      have F3 := hid (F2.out.step hf)
      clear hf x0 x1 x2 xf xl y0 y1 y2 yf yl
      go_wp2
      go_ret
      refine ⟨ret_bool ?_, F3.out⟩
      unfold sameS dmOf
      simp only [HQ.out, decide_eq_true HQ2.out, Bool.true_and]
    · have HQ2 := hid hq
      rw [decide_eq_false hq]
      clear hq
      go_wp2
      go_ret
      refine ⟨ret_bool ?_, F2.out⟩
      unfold sameS dmOf
      simp only [HQ.out, decide_eq_false HQ2.out, Bool.true_and, Bool.false_and]
end Go.Proofs.YtndfncaoejbkiaaGreatDoor
end
section
/- The walk of the reader's number, signed, count. -/
namespace Go.Proofs.YtndfncaoejbkiaaGreatDoor
open Go.RowKit
set_option maxRecDepth 100000

/-- The reader at br has the bytes ns left. -/
def RrN (w : World) (br : Nat) (ns : List Nat) : Prop := ∃ a c l, w.heap[br]? = some (.cells #[.slice (some a) l.length c] 69 (0, 0)) ∧ RdY (fun k => br ≤ k) w (.slice (some a) l.length c) l ∧ nats l = ns
/-- What the reader gives up with. -/
abbrev badC : List PanicEntry := [{ v := .iface 67 (.agg #[]), recovered := false }]
/-- A reading's outcome. -/
def RdOut {α : Type} (val : α → Value) (w : World) (br : Nat) (r : Option (α × List Nat)) (e : Ending) (w' : World) : Prop :=
  match r with
  | some p => e = .returned (val p.1) ∧ RrN w' br p.2 ∧ Fr (fun k => k = br) w w'
  | none => e = .panicked badC ∧ Fr (fun k => k = br) w w'
theorem rd_or {acc q k : Nat} {P : Int} (hP : P = ((2 ^ (7 * k) : Nat) : Int)) (ha : acc < 2 ^ (7 * k)) (hk : k ≤ 9) (hq : q < 256) (h9 : k = 9 → q ≤ 1) :
    bits BinOp.or IntKind.u64 (acc : Int) (IntKind.u64.wrap (IntKind.u64.wrap (bits BinOp.and IntKind.u8 (q : Int) 127) * P)) = ((acc + q % 128 * 2 ^ (7 * k) : Nat) : Int) := by
  have e1 : bits BinOp.and IntKind.u8 (q : Int) 127 = ((q % 128 : Nat) : Int) := by
    have h := u8_and_nat q 127 hq (by decide)
    rw [Nat.and_two_pow_sub_one_eq_mod q 7] at h
    exact h
  have h1 : q % 128 < 128 := Nat.mod_lt _ (by decide)
  have hlt : q % 128 * 2 ^ (7 * k) < 18446744073709551616 := by
    by_cases e : k = 9
    · subst e
      have := h9 rfl
      have h2 : q % 128 ≤ 1 := by omega
      have h3 : q % 128 * 2 ^ (7 * 9) ≤ 1 * 2 ^ (7 * 9) := Nat.mul_le_mul_right _ h2
      exact Nat.lt_of_le_of_lt h3 (by decide)
    · have h2 : 2 ^ (7 * k) ≤ 2 ^ 56 := Nat.pow_le_pow_right (by decide) (by omega)
      have h3 : q % 128 * 2 ^ (7 * k) ≤ 127 * 2 ^ 56 := Nat.mul_le_mul (by omega) h2
      exact Nat.lt_of_le_of_lt h3 (by decide)
  have ha2 : acc < 18446744073709551616 := Nat.lt_of_lt_of_le ha (by
    have h2 : 2 ^ (7 * k) ≤ 2 ^ 63 := Nat.pow_le_pow_right (by decide) (by omega)
    exact Nat.le_trans h2 (by decide))
  rw [e1, hP]
  have e2 : IntKind.u64.wrap ((q % 128 : Nat) : Int) = ((q % 128 : Nat) : Int) := by rw [IntKind.wrap_u64]; omega
  rw [e2, ← Int.natCast_mul]
  have e3 : IntKind.u64.wrap ((q % 128 * 2 ^ (7 * k) : Nat) : Int) = ((q % 128 * 2 ^ (7 * k) : Nat) : Int) := by
    rw [IntKind.wrap_u64]
    generalize q % 128 * 2 ^ (7 * k) = z at hlt
    omega
  rw [e3, u64_or_nat _ _ ha2 hlt, acc_or ha]
theorem rd_done {w : World} {br b off c : Nat} {l : List UInt8} {k acc q : Nat} {z : Int} {v' : Value} (HB : w.heap[br]? = some (.cells #[.slice (some ⟨b, off, none⟩) l.length c] 69 (0, 0))) (HR : RdY (fun k => br ≤ k) w (.slice (some ⟨b, off, none⟩) l.length c) l)
    (HA : rdN (nats l) = rdAt (nats l) k acc) (hk : k < l.length) (HC : rdAt (nats l) k acc = some (acc + q % 128 * 2 ^ (7 * k), (nats l).drop (k + 1))) (hz : z = ((acc + q % 128 * 2 ^ (7 * k) : Nat) : Int))
    (hv : v' = .slice (some ⟨b, off + (k + 1), none⟩) (l.length - (k + 1)) (c - (k + 1)) ∨ (c = k + 1 ∧ v' = .slice (some ⟨b, off, none⟩) (l.length - (k + 1)) 0)) :
    RdOut (fun x : Nat => .int .u64 x) w br (rdN (nats l)) (.returned (.int .u64 z)) (w.setCell ⟨br, 0, none⟩ v') := by
  rw [HA, HC, hz]
  have f7 : Fr (fun k => k = br) w (w.setCell ⟨br, 0, none⟩ v') := (Fr.refl (fun k => k = br) w).setCell (p := ⟨br, 0, none⟩) (fun _ => rfl) _
  have hdl : l.length - (k + 1) = (l.drop (k + 1)).length := by rw [List.length_drop]
  obtain ⟨a, c', rfl, hcap⟩ : ∃ a c', v' = .slice (some a) (l.drop (k + 1)).length c' ∧ ((a = ⟨b, off + (k + 1), none⟩ ∧ c' = c - (k + 1)) ∨ (c = k + 1 ∧ c' = 0)) := by
    rcases hv with rfl | ⟨hc, rfl⟩
    · exact ⟨_, _, by rw [hdl], .inl ⟨rfl, rfl⟩⟩
    · exact ⟨_, _, by rw [hdl], .inr ⟨hc, rfl⟩⟩
  refine ⟨rfl, ⟨a, c', l.drop (k + 1), set_at HB 0 _, ?_, by unfold nats; rw [List.map_drop]⟩, f7⟩
  by_cases h0 : l.length = k + 1
  · have hd : l.drop (k + 1) = [] := List.drop_eq_nil_of_le (by omega)
    rw [hd]
    exact .inl ⟨⟨_, _, rfl, fun h => (by cases h)⟩, rfl⟩
  · rcases HR with ⟨_, rfl⟩ | ⟨b', off', cap', e, h2, h3, h4, h5⟩
    · simp at hk
    · simp only [Value.slice.injEq, Option.some.injEq, Addr.mk.injEq, and_true] at e
      obtain ⟨⟨rfl, rfl⟩, _, rfl⟩ := e
      rcases hcap with ⟨rfl, rfl⟩ | ⟨hc, rfl⟩
      · refine .inr ⟨b, off + (k + 1), _, rfl, Nat.lt_of_lt_of_le h2 f7.size, h3, by rw [List.length_drop]; omega, fun j u hj => ?_⟩
        have hj2 := h5 (k + 1 + j) u (by rw [flatE_by] at hj ⊢; rw [List.map_drop, List.getElem?_drop] at hj; exact hj)
        rw [← Nat.add_assoc off] at hj2
        rw [f7.cell (p := ⟨b, off + (k + 1) + j, none⟩) h2 (fun e => h3 (by have e2 : b = br := e; omega))]
        exact hj2
      · omega
set_option maxHeartbeats 2000000 in
theorem rnum_any (br : Nat) (ns : List Nat) (w : World) (h : RrN w br ns) (hl : ns.length ≤ 1000000000) :
    Calls Tryz.prog 56 #[.pointer (some ⟨br, 0, none⟩)] w (RdOut (fun x : Nat => .int .u64 x) w br (rdN ns)) := by
  obtain ⟨p, c, l, hb, hr, hn⟩ := h
  subst hn
  have c0 : w.cell? ⟨br, 0, none⟩ = some (.slice (some p) l.length c) := by simp [World.cell?, hb]
  have f0 : w.frozen? ⟨br, 0, none⟩ = false := by simp [World.frozen?, hb]
  have HB := hid hb
  have HR := hid hr
  have hll : l.length ≤ 1000000000 := by simpa using hl
  clear hb hr hl
  go_enter Tryz.func56, Tryz.ntmps56
  go_wp2
  go_loopw [3, 11] (fun x i wr => ∃ (k acc : Nat), k ≤ l.length ∧ k ≤ 9 ∧ acc < 2 ^ (7 * k) ∧ i = .int .i64 k ∧ x = .int .u64 acc ∧ wr = w ∧ Hid (rdN (nats l) = rdAt (nats l) k acc)) (fun _ i _ => l.length - (intOf i).toNat)
  case atStart => exact ⟨0, 0, Nat.zero_le _, by omega, by decide, rfl, rfl, rfl, rdAt_start _⟩
  case round =>
    obtain ⟨k, acc, hk, hk9, hacc, rfl, rfl, hw, HA⟩ := hrel
    subst hw
    by_cases hlt : k < l.length
    · obtain ⟨b, off, hpp, e0⟩ := HR.out.cell hlt
      simp only [Option.some.injEq] at hpp
      subst hpp
      have hcl := l[k].toNat_lt
      have hcons := rdAt_cons (l := nats l) (i := k) (acc := acc) (by simpa using hlt)
      have hgk : (nats l)[k]'(by simpa using hlt) = l[k].toNat := by simp
      rw [hgk] at hcons
      obtain ⟨q, hq⟩ : ∃ q, l[k].toNat = q := ⟨_, rfl⟩
      rw [hq] at hcons hcl e0
      have HC := hid hcons
      clear hcons hgk hq
      by_cases hbad : (k = 9 ∧ 1 < q) ∨ (0 < k ∧ q = 0)
      · have HBAD := hid hbad
        have hcs : (k = 9 ∧ 1 < q) ∨ (¬ k = 9 ∧ 0 < k ∧ q = 0) ∨ (k = 9 ∧ q = 0) := by omega
        clear hbad
        rcases hcs with ⟨h1, h2⟩ | ⟨h1, h2, h3⟩ | ⟨h1, h2⟩
        · subst h1
          have h2' : (1 : Int) < (q : Int) := by omega
          go_wp2
          all_goals (refine And.intro rfl ?_; rw [HA.out, HC.out, if_pos HBAD.out]; exact ⟨rfl, Fr.refl _ _⟩)
        · subst h3
          have h1' : ((k : Int) == 9) = false := by simp; omega
          have h2' : (0 : Int) < (k : Int) := by omega
          go_wp2
          all_goals (refine And.intro rfl ?_; rw [HA.out, HC.out, if_pos HBAD.out]; exact ⟨rfl, Fr.refl _ _⟩)
        · subst h1
          subst h2
          go_wp2
          all_goals (refine And.intro rfl ?_; rw [HA.out, HC.out, if_pos HBAD.out]; exact ⟨rfl, Fr.refl _ _⟩)
      · have HBAD := hid hbad
        have hcs : (k = 9 ∧ q = 1) ∨ (¬ k = 9 ∧ 0 < k ∧ 0 < q) ∨ k = 0 := by omega
        have HG : Hid (q < 128 → rdAt (nats l) k acc = some (acc + q % 128 * 2 ^ (7 * k), (nats l).drop (k + 1))) := fun h => by rw [HC.out, if_neg HBAD.out, if_pos h]
        clear hbad
        rcases hcs with ⟨h1, h2⟩ | ⟨h1, h2, h3⟩ | h1
        · have HG1 := hid (HG.out (by omega))
          have HO := hid (rd_or (acc := acc) (q := q) (k := k) (P := 2 ^ (7 * k)) (by simp) hacc hk9 (by omega) (by omega))
          subst h1
          subst h2
          go_wp2
          all_goals
            go_ret
            refine rd_done (q := 1) HB.out HR.out HA.out hlt HG1.out HO.out ?_
            first | exact .inl rfl | exact .inr ⟨by omega, rfl⟩
        · have h1' : ((k : Int) == 9) = false := by simp; omega
          have h2' : (0 : Int) < (k : Int) := by omega
          have h3' : ((q : Int) == 0) = false := by simp; omega
          have hk8 : k ≤ 8 := by omega
          have HK := hid h1
          by_cases hq : q < 128
          · go_wp2
            all_goals
              go_ret
              refine rd_done HB.out HR.out HA.out hlt (HG.out hq) (rd_or ?_ hacc hk9 (by omega) (by omega)) ?_
              · first | rfl | (simp; done)
              · first | exact .inl rfl | exact .inr ⟨by omega, rfl⟩
          · have HO := hid (rd_or (acc := acc) (q := q) (k := k) (P := 2 ^ (7 * k)) (by simp) hacc hk9 (by omega) (by omega))
            go_wp2
            all_goals
              go_roundw
              case rel => exact ⟨k + 1, _, by omega, by omega, acc_lt (c := q) hacc, by go_num, by rw [HO.out], by first | rfl | trivial, by
                show _ = _
                rw [HA.out, HC.out, if_neg HBAD.out, if_neg hq]⟩
              case measure => simp [intOf]; omega
        · have h1' : ((k : Int) == 9) = false := by simp; omega
          have h2' : ¬ (0 : Int) < (k : Int) := by omega
          have hk8 : k ≤ 8 := by omega
          have HK := hid h1
          clear h1
          by_cases hq : q < 128
          · go_wp2
            all_goals
              go_ret
              refine rd_done HB.out HR.out HA.out hlt (HG.out hq) (rd_or ?_ hacc hk9 (by omega) (by omega)) ?_
              · first | rfl | (simp; done)
              · first | exact .inl rfl | exact .inr ⟨by omega, rfl⟩
          · have HO := hid (rd_or (acc := acc) (q := q) (k := k) (P := 2 ^ (7 * k)) (by simp) hacc hk9 (by omega) (by omega))
            go_wp2
            all_goals
              go_roundw
              case rel => exact ⟨k + 1, _, by omega, by omega, acc_lt (c := q) hacc, by go_num, by rw [HO.out], by first | rfl | trivial, by
                show _ = _
                rw [HA.out, HC.out, if_neg HBAD.out, if_neg hq]⟩
              case measure => simp [intOf]; omega
    · obtain rfl : k = l.length := by omega
      go_wp2
      refine And.intro rfl ?_
      rw [HA.out, rdAt_end (by simp)]
      exact ⟨rfl, Fr.refl _ _⟩
end Go.Proofs.YtndfncaoejbkiaaGreatDoor
end
section
/- The walks of the reader's signed and count. -/
namespace Go.Proofs.YtndfncaoejbkiaaGreatDoor
open Go.RowKit
set_option maxRecDepth 100000

theorem RrN.byte {w : World} {br : Nat} {ns : List Nat} (h : RrN w br ns) : ∀ c ∈ ns, c < 256 := fun c hc => by
  obtain ⟨_, _, l, _, _, rfl⟩ := h
  obtain ⟨x, _, rfl⟩ := List.mem_map.1 hc
  exact x.toNat_lt
theorem odd_and (x : Nat) (hx : x < 18446744073709551616) : bits BinOp.and IntKind.u64 (x : Int) 1 = ((x % 2 : Nat) : Int) := by
  have h := u64_and_nat x 1 hx (by decide)
  rw [Nat.and_one_is_mod] at h
  exact h
theorem xor_neg {y : Nat} (hy : y < 9223372036854775808) : bits BinOp.xor IntKind.i64 (-1) (y : Int) = -(y : Int) - 1 := by
  rw [i64_not y hy]; omega
set_option maxHeartbeats 2000000 in
theorem rsgn_any (br : Nat) (ns : List Nat) (w : World) (h : RrN w br ns) (hl : ns.length ≤ 1000000000) :
    Calls Tryz.prog 48 #[.pointer (some ⟨br, 0, none⟩)] w (RdOut (fun x : Int => .int .i64 x) w br (rdS ns)) := by
  have H := hid h
  clear h
  go_enter Tryz.func48, Tryz.ntmps48
  go_wp2_with fail
  refine (rnum_any br ns w H.out hl).mono ?_
  intro e w1 h1
  unfold RdOut at h1
  cases hr : rdN ns with
  | none =>
    rw [hr] at h1
    obtain ⟨rfl, hf⟩ := h1
    have HR := hid hr
    have F := hid hf
    clear hr hf
    go_wp2
    refine And.intro (by first | rfl | trivial) ?_
    unfold RdOut rdS
    rw [HR.out]
    exact ⟨rfl, F.out⟩
  | some p =>
    obtain ⟨x, ns1⟩ := p
    rw [hr] at h1
    obtain ⟨rfl, hn, hf⟩ := h1
    have hx := rdN_val H.out.byte hr
    simp only at hx
    have HO := hid (odd_and x hx)
    have HR := hid hr
    have F := hid hf
    have N := hid hn
    clear hr hf hn
    by_cases hod : x % 2 = 0
    · have h1' : bits BinOp.and IntKind.u64 (x : Int) 1 = 0 := by rw [HO.out, hod]; rfl
      go_wp2
      go_ret
      unfold RdOut rdS
      rw [HR.out]
      refine ⟨ret_int ?_, N.out, F.out⟩
      show _ = sgnD x
      unfold sgnD
      rw [if_pos hod]
      omega
    · have h1' : bits BinOp.and IntKind.u64 (x : Int) 1 = 1 := by rw [HO.out]; omega
      go_wp2
      · go_ret
        unfold RdOut rdS
        rw [HR.out]
        refine ⟨ret_int ?_, N.out, F.out⟩
        show _ = sgnD x
        unfold sgnD
        rw [if_neg hod]
        have h := xor_neg (y := x / 2) (by omega)
        rw [← h]
        rfl
set_option maxHeartbeats 2000000 in
theorem rcnt_any (br : Nat) (ns : List Nat) (w : World) (h : RrN w br ns) (hl : ns.length ≤ 1000000000) :
    Calls Tryz.prog 46 #[.pointer (some ⟨br, 0, none⟩)] w (RdOut (fun x : Nat => .int .i64 x) w br (rdC ns)) := by
  have H := hid h
  clear h
  go_enter Tryz.func46, Tryz.ntmps46
  go_wp2_with fail
  refine (rnum_any br ns w H.out hl).mono ?_
  intro e w1 h1
  unfold RdOut at h1
  cases hr : rdN ns with
  | none =>
    rw [hr] at h1
    obtain ⟨rfl, hf⟩ := h1
    have HR := hid hr
    have F := hid hf
    clear hr hf
    go_wp2
    refine And.intro (by first | rfl | trivial) ?_
    unfold RdOut rdC
    rw [HR.out]
    exact ⟨rfl, F.out⟩
  | some p =>
    obtain ⟨x, ns1⟩ := p
    rw [hr] at h1
    obtain ⟨rfl, hn, hf⟩ := h1
    have hx := rdN_val H.out.byte hr
    simp only at hx
    obtain ⟨j, _, _, hj⟩ := rdN_rest hr
    have hlen : ns1.length ≤ 1000000000 := by
      simp only at hj
      rw [hj, List.length_drop]; omega
    have HR := hid hr
    have F := hid hf
    have N := hid hn
    obtain ⟨p, c, l, hb, hry, rfl⟩ := hn
    have c0 : w1.cell? ⟨br, 0, none⟩ = some (.slice (some p) l.length c) := by simp [World.cell?, hb]
    have hll : l.length ≤ 1000000000 := by simpa using hlen
    clear hr hf hb hry hj hlen
    by_cases hle : x ≤ l.length
    · have hle' : ¬ (l.length : Int) < (x : Int) := by omega
      go_wp2
      go_ret
      unfold RdOut rdC
      rw [HR.out]
      simp only [Option.bind_some, List.length_map]
      rw [if_pos hle]
      exact ⟨by first | rfl | trivial, N.out, F.out⟩
    · have hle' : (l.length : Int) < (x : Int) := by omega
      go_wp2
      refine And.intro (by first | rfl | trivial) ?_
      unfold RdOut rdC
      rw [HR.out]
      simp only [Option.bind_some, List.length_map]
      rw [if_neg hle]
      exact ⟨by first | rfl | trivial, F.out⟩
end Go.Proofs.YtndfncaoejbkiaaGreatDoor
end
section
/- Drawn regions that write, where a call may panic: as Eff, but an operation that turns the world may also leave by a panic, of which Pp says what is known. -/
namespace Go.Proofs.YtndfncaoejbkiaaGreatDoor
open Go.RowKit
set_option maxRecDepth 100000

section
variable {P : Program} {ops : Array Oper} {S : World → Prop} {Q : Exit → Act → World → Prop} {md : Region.Mode} {brk : Nat} {D : List Deferred} {Pp : List PanicEntry → World → Prop}

theorem put_defers (a : Act) (d : Option Nat) (v : Value) : (a.put d v).defers = a.defers := by cases d <;> rfl
def QFp (D : List Deferred) (Pp : List PanicEntry → World → Prop) (K : Act → World → Prop) (x : Exit) (a : Act) (W : World) : Prop := (x = .normal ∧ K a W) ∨ ∃ c, x = .panic c ∧ a.defers = D ∧ Pp c W
def effLP (P : Program) (ops : Array Oper) (S : World → Prop) (brk : Nat) (D : List Deferred) (Pp : List PanicEntry → World → Prop) (R : Act → World → Prop) : List (Nat × Nat) → Act → World → Prop
  | [], a, W => R a W
  | (i, 0) :: s, a, W => ∃ o v, ops[i]? = some o ∧ YieldsIf P ops S o v a ∧ effLP P ops S brk D Pp R s (a.put o.dst v) W
  | (i, 1) :: s, a, W => ∃ o v, ops[i]? = some o ∧ YieldsIf P ops AnyW o v a ∧ effLP P ops S brk D Pp R s (a.put o.dst v) W
  | (i, _ + 2) :: s, a, W => ∃ o, ops[i]? = some o ∧ wpList P ops (QFp D Pp (fun a' W' => (i ≠ brk → S W') ∧ effLP P ops S brk D Pp R s a' W')) [o] a W

theorem effLP_one {K : Act → World → Prop} {i : Nat} {o : Oper} {a : Act} {W : World} (hQ : ∀ c a w, a.defers = D → Pp c w → Q (.panic c) a w) (hi : ops[i]? = some o) (h : wpList P ops (QFp D Pp K) [o] a W) : Go.wpOp P ops Q i K a W := by
  have nout : ∀ {b W'}, ¬ QFp D Pp K .outgrown b W' := fun h => by
    rcases h with ⟨h, _⟩ | ⟨_, h, _⟩ <;> cases h
  have nrm : ∀ {b W'}, QFp D Pp K .normal b W' → K b W' := fun h => by
    rcases h with ⟨_, h⟩ | ⟨_, h, _⟩
    · exact h
    · cases h
  have pan : ∀ {c b W'}, QFp D Pp K (.panic c) b W' → Q (.panic c) b W' := fun h => by
    rcases h with ⟨h, _⟩ | ⟨c, h, h1, h2⟩
    · cases h
    · cases h; exact hQ _ _ _ h1 h2
  unfold Go.wpOp
  simp only [hi]
  unfold wpList at h
  by_cases hw : Region.wanted o (yielded ops a.tmps) = true
  · rw [if_pos hw] at h ⊢
    rcases h with h | ⟨_, a', W', h1⟩
    · refine .inl ?_
      unfold Oper.wp at h ⊢
      generalize (execOp a.eval o).run P W = r at *
      cases r with
      | ok n w' =>
        cases n <;> simp only [Oper.upon, wpList] at h ⊢
        case value u => exact nrm h
        case skip => exact nrm h
        case defer d => exact nrm h
        case enter f args =>
          refine Calls.mono h fun e w'' he => ?_
          cases e with
          | returned u => exact nrm he
          | panicked c => exact pan he
          | outgrown => obtain ⟨_, _, h1⟩ := he; exact absurd h1 nout
        case row row args => exact Rows.mono h fun u w'' he => nrm he
      | halt x w' =>
        cases x <;> simp only [Oper.upon] at h ⊢
        case panic u => exact pan h
    · exact absurd h1 nout
  · rw [if_neg hw] at h ⊢
    exact nrm h

theorem effLP_any {R : Act → World → Prop} (hs : Region.noSelect ops = true) (hR : ∀ a w, R a w → Q .normal a w) (hQ : ∀ c a w, a.defers = D → Pp c w → Q (.panic c) a w) (hQ2 : ∀ c a w, Q (.panic c) a w → a.defers = D ∧ Pp c w) :
    ∀ (s : List (Nat × Nat)) (listed : Array Bool) (a : Act) (w : World), effB md ops brk s listed = true → TT S brk listed w → effLP P ops S brk D Pp R s a w → wpAnyT P md ops Q S brk s.length listed a w
  | [], listed, a, w, hB, _, h => ⟨by simpa [effB] using hB, hR _ _ h⟩
  | (i, 0) :: s, listed, a, w, hB, hT, h => by
    simp only [effB, Bool.and_eq_true, bne_iff_ne, ne_eq, Bool.not_eq_true'] at hB
    obtain ⟨⟨⟨⟨⟨h1, h2⟩, h3⟩, h4⟩, h5⟩, h6⟩ := hB
    obtain ⟨o, v, hi, hy, hk⟩ := h
    cases hb : ops[brk]? with
    | none =>
      have hn : ∀ listed : Array Bool, listed.getD i true = false → brk ∉ Region.ready md ops listed := fun listed _ hr => by
        obtain ⟨_, o, ho, _⟩ := mem_ready.1 hr
        rw [hb] at ho; cases ho
      exact wpAnyT_first (S' := S) hi (Region.noSelect_spec hs) (fun c a w h => hQ c _ _ ((put_defers _ _ _).symm.trans (hQ2 c _ _ h).1) (hQ2 c _ _ h).2) h3 (.inr ⟨hn, fun w h => h⟩) s.length listed a w (Region.free_spec hi h1) (by simpa using h2) hy hT (.inr h4)
        (effLP_any hs hR hQ hQ2 s _ _ _ h6 (by unfold TT; rw [getD_set_ne' h3]; exact hT) hk)
    | some ob =>
      exact wpAnyT_first (S' := S) hi (Region.noSelect_spec hs) (fun c a w h => hQ c _ _ ((put_defers _ _ _).symm.trans (hQ2 c _ _ h).1) (hQ2 c _ _ h).2) h3 (.inr ⟨anch_spec hb h5, fun w h => h⟩) s.length listed a w (Region.free_spec hi h1) (by simpa using h2) hy hT (.inr h4)
        (effLP_any hs hR hQ hQ2 s _ _ _ h6 (by unfold TT; rw [getD_set_ne' h3]; exact hT) hk)
  | (i, 1) :: s, listed, a, w, hB, hT, h => by
    simp only [effB, Bool.and_eq_true, bne_iff_ne, ne_eq] at hB
    obtain ⟨⟨⟨h1, h2⟩, h3⟩, h6⟩ := hB
    obtain ⟨o, v, hi, hy, hk⟩ := h
    exact wpAnyT_first (S' := AnyW) hi (Region.noSelect_spec hs) (fun c a w h => hQ c _ _ ((put_defers _ _ _).symm.trans (hQ2 c _ _ h).1) (hQ2 c _ _ h).2) h3 (.inl (fun _ => trivial)) s.length listed a w (Region.free_spec hi h1) (by simpa using h2) hy hT (.inl (fun _ => trivial))
      (effLP_any hs hR hQ hQ2 s _ _ _ h6 (by unfold TT; rw [getD_set_ne' h3]; exact hT) hk)
  | (i, n + 2) :: s, listed, a, w, hB, hT, h => by
    simp only [effB, Bool.and_eq_true, beq_iff_eq, decide_eq_true_eq, Bool.not_eq_true'] at hB
    obtain ⟨⟨⟨h1, h2⟩, h4⟩, h6⟩ := hB
    obtain ⟨o, hi, hk⟩ := h
    refine ⟨fun h0 => (by rw [h1] at h0; cases h0), fun j hj => ?_⟩
    rw [h1] at hj
    obtain rfl : j = i := by simpa using hj
    refine wpOp_mono (fun a' w' hh => ?_) (effLP_one hQ hi hk)
    have hT' : TT S brk (listed.setIfInBounds j true) w' := by
      by_cases e : j = brk
      · subst e; exact .inl (by simp [h2])
      · exact .inr (hh.1 e)
    exact ⟨hT', effLP_any hs hR hQ hQ2 s _ _ _ h6 hT' hh.2⟩

/-- The region, by the order s: (number, kind); where it panics Pp holds. -/
theorem region_effP (S : World → Prop) (Pp : List PanicEntry → World → Prop) (brk : Nat) (s : List (Nat × Nat)) {id : Nat} {a : Act} {w : World} {l : List Oper} (hm : P.follows .mixedOrders = true)
    (hB : (Region.noSelect l.toArray && (s.length == l.length) && effB .any l.toArray brk s (Array.replicate l.length false)) = true) (hP : ∀ c a' w', a'.defers = a.defers → Pp c w' → Q (.panic c) a' w') (hS : S w.drew)
    (h : effLP P l.toArray S brk a.defers Pp (fun a' W' => Q .normal a' W') s a w.drew) : (Code.region id l.toArray true).wp P Q a w := by
  simp only [Bool.and_eq_true, beq_iff_eq] at hB
  obtain ⟨⟨h1, h2⟩, h3⟩ := hB
  refine wp_mono (Q := QFp a.defers Pp (fun a w => Q .normal a w)) (wp_region_any hm (wpAny_of_T (S := S) (brk := brk) _ _ _ _ ?_)) (fun e b w hh => by
    rcases hh with ⟨rfl, hh⟩ | ⟨c, rfl, h4, h5⟩
    · exact hh
    · exact hP _ _ _ h4 h5)
  have := effLP_any (md := .any) (Q := QFp a.defers Pp (fun a w => Q .normal a w)) h1 (fun a w hh => .inl ⟨rfl, hh⟩) (fun c b w h4 h5 => .inr ⟨c, rfl, h4, h5⟩) (fun c b w hh => by
    rcases hh with ⟨hh, _⟩ | ⟨c', hh, h4, h5⟩
    · cases hh
    · cases hh; exact ⟨h4, h5⟩) s _ a w.drew h3 (.inr hS) h
  rw [h2] at this
  simpa using this
variable {R : Act → World → Prop} {a : Act} {W W' : World} {i : Nat} {s : List (Nat × Nat)} {o : Oper} {l : List Oper}
theorem effp_nil (h : R a W) : effLP P l.toArray S brk D Pp R [] a W := h
theorem effp_off (hi : l[i]? = some o) (hw : Region.wanted o (yielded l.toArray a.tmps) = false) (h : effLP P l.toArray S brk D Pp R s (a.put o.dst undef) W) : effLP P l.toArray S brk D Pp R ((i, 1) :: s) a W :=
  ⟨o, undef, at_l hi, .inr ⟨hw, rfl⟩, h⟩
theorem effp_rd (v : Value) (hi : l[i]? = some o) (hw : Region.wanted o (yielded l.toArray a.tmps) = true) (hy : ∀ w', S w' → (execOp a.eval o).run P w' = .ok (.value v) w') (h : effLP P l.toArray S brk D Pp R s (a.put o.dst v) W) :
    effLP P l.toArray S brk D Pp R ((i, 0) :: s) a W := ⟨o, v, at_l hi, .inl ⟨hw, hy⟩, h⟩
theorem effp_pu (v : Value) (hi : l[i]? = some o) (hw : Region.wanted o (yielded l.toArray a.tmps) = true) (hy : ∀ w', (execOp a.eval o).run P w' = .ok (.value v) w') (h : effLP P l.toArray S brk D Pp R s (a.put o.dst v) W) :
    effLP P l.toArray S brk D Pp R ((i, 1) :: s) a W := ⟨o, v, at_l hi, .inl ⟨hw, fun w _ => hy w⟩, h⟩
theorem effp_do (hi : l[i]? = some o) (h : wpList P l.toArray (QFp D Pp (fun a' W' => (i ≠ brk → S W') ∧ effLP P l.toArray S brk D Pp R s a' W')) [o] a W) : effLP P l.toArray S brk D Pp R ((i, 2) :: s) a W := ⟨o, at_l hi, h⟩
theorem effp_done {K : Act → World → Prop} {ops : Array Oper} (h : K a W) : wpList P ops (QFp D Pp K) [] a W := by
  unfold wpList
  exact .inl ⟨rfl, h⟩
/-- A call, that goes through or panics as its contract says. -/
theorem effp_call (f : FuncId) (args : Array Value) (hi : l[i]? = some o) (hw : Region.wanted o (yielded l.toArray a.tmps) = true) (hy : ∀ w', (execOp a.eval o).run P w' = .ok (.enter f args) w') (hD : a.defers = D)
    (hc : Calls P f args W (fun e W' => (∃ v, e = .returned v ∧ (i ≠ brk → S W') ∧ effLP P l.toArray S brk D Pp R s (a.put o.dst v) W') ∨ ∃ c, e = .panicked c ∧ Pp c W')) : effLP P l.toArray S brk D Pp R ((i, 2) :: s) a W := by
  refine ⟨o, at_l hi, ?_⟩
  unfold wpList
  rw [if_pos hw]
  refine .inl ?_
  unfold Oper.wp
  rw [hy W]
  simp only [Oper.upon, wpList]
  refine Calls.mono hc fun e w' he => ?_
  rcases he with ⟨v, rfl, h1, h2⟩ | ⟨c, rfl, h1⟩
  · exact .inl ⟨rfl, h1, h2⟩
  · exact .inr ⟨c, rfl, hD, h1⟩
/-- An operation with a value, that turns the world. -/
theorem effp_run {v : Value} (hi : l[i]? = some o) (hw : Region.wanted o (yielded l.toArray a.tmps) = true) (hy : (execOp a.eval o).run P W = .ok (.value v) W') (hS : i ≠ brk → S W') (h : effLP P l.toArray S brk D Pp R s (a.put o.dst v) W') : effLP P l.toArray S brk D Pp R ((i, 2) :: s) a W := by
  refine ⟨o, at_l hi, ?_⟩
  unfold wpList
  rw [if_pos hw]
  refine .inl ?_
  unfold Oper.wp
  rw [hy]
  simp only [Oper.upon, wpList]
  exact .inl ⟨rfl, hS, h⟩
theorem effp_skip (hi : l[i]? = some o) (hw : Region.wanted o (yielded l.toArray a.tmps) = true) (hy : (execOp a.eval o).run P W = .ok .skip W') (hS : i ≠ brk → S W') (h : effLP P l.toArray S brk D Pp R s (a.put o.dst undef) W') : effLP P l.toArray S brk D Pp R ((i, 2) :: s) a W := by
  refine ⟨o, at_l hi, ?_⟩
  unfold wpList
  rw [if_pos hw]
  refine .inl ?_
  unfold Oper.wp
  rw [hy]
  simp only [Oper.upon, wpList]
  exact .inl ⟨rfl, hS, h⟩
end
end Go.Proofs.YtndfncaoejbkiaaGreatDoor
end
