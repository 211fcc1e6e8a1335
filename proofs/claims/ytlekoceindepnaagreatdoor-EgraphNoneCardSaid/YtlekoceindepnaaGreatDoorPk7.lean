import Derived.Test.YtlekoceindepnaaGreatDoorPk3
import Derived.Test.YtlekoceindepnaaGreatDoorPk4
import Derived.Test.YtlekoceindepnaaGreatDoorPk5
import Derived.Test.YtlekoceindepnaaGreatDoorPk6
import Derived.Deep.DeepCutAuto
set_option linter.all false
section
/- The walk of egraph's Undo. -/
namespace Go.Proofs.YtlekoceindepnaaGreatDoor
open Go.RowKit
set_option maxRecDepth 100000

section
variable {c0 c c' : Col} {w W W' W6 : World} {bg bc : Nat} {h h' : GH} {s s' : GS}
theorem eundo_out (h0 : GrAt c0 w bg s) (ht : Tab w) (htb : c0 TB = 0) (m : Int) (hm : ¬ (0 ≤ m ∧ m < (s.marks.length : Int))) :
    Calls Tryz.prog 23 #[.pointer (some ⟨bg, 0, none⟩), .int .i64 m] w fun e w' => e = .returned (.bool false) ∧ w' = w := by
  obtain ⟨bc, h, a0⟩ := AdW.start h0 ht htb
  have A1 := hid a0
  clear h0 ht htb a0
  go_enter Tryz.func23, Tryz.ntmps23
  go_wp2_with fail
  refine (emade_any A1.out.done).mono ?_
  rintro e w' ⟨rfl, h9⟩
  subst h9
  have g0 := cells_at A1.out.gr 0
  have gl := (Array.getElem?_eq_some_iff.1 A1.out.gr).1
  simp only [List.getElem?_toArray, List.getElem?_cons_zero] at g0
  obtain ⟨k0, k1, k2, k3, k4, k5, k6, k7, k8, k9, k10, kf, kl⟩ := A1.out.g.cells
  clear k0 k1 k2 k3 k4 k5 k6 k7 k8 k9
  obtain ⟨d, h1, h2, _, _⟩ := A1.out.g.marks
  have hdl : d.length = s.marks.length := by rw [← h1, List.length_map]
  obtain ⟨np, nc, hv⟩ := OwnE.form h2
  rw [hdl] at hv
  rw [hv] at k10
  obtain ⟨nl, hnl⟩ : ∃ k, s.marks.length = k := ⟨_, rfl⟩
  rw [hnl] at k10 hm
  have HX := hid hm
  clear h1 h2 hdl hv hnl hm
  by_cases x0 : m < 0
  · go_wp2
    go_ret
    exact ⟨rfl, rfl⟩
  have x0' : 0 ≤ m := by omega
  have x1 : (nl : Int) ≤ m := by have := HX.out; omega
  go_wp2
  go_ret
  exact ⟨rfl, rfl⟩
set_option maxHeartbeats 16000000 in
theorem eundo_any (h0 : GrAt c0 w bg s) (ht : Tab w) (htb : c0 TB = 0) (m : Nat) (hm : m < s.marks.length) (hg : GOk s) (hL : s.links.length ≤ 1000000) (hf : FOk s.links)
    (h1 : (s.marks.getD m St.none).nodes ≤ s.nodes.length) (h2 : (s.marks.getD m St.none).links ≤ s.links.length) (h3 : (s.marks.getD m St.none).sets ≤ s.uf.tr.length)
    (h4 : (s.marks.getD m St.none).keys.length ≤ 1000000) (h5 : (s.marks.getD m St.none).todo.length ≤ 1000000000) (h6 : ∀ k ∈ (s.marks.getD m St.none).keys, NodeOk k ∧ NodeSm k) (h7 : s.nodes.length ≤ 1000000) (h8 : s.marks.length ≤ 1000000000) :
    Calls Tryz.prog 23 #[.pointer (some ⟨bg, 0, none⟩), .int .i64 m] w fun e w' => e = .returned (.bool true) ∧ (∃ c', GrAt c' w' bg (undoS s m) ∧ Ext c0 c' w) ∧ Fr (Mut c0) w w' := by
  obtain ⟨bc, h, a0⟩ := AdW.start h0 ht htb
  have A1 := hid a0
  obtain ⟨b, cap, vk, vt, hvm, hcap, e0, e1, e2, e3, e4, e5, hks, hts⟩ := a0.markAt hm
  obtain ⟨R, hR⟩ : ∃ R, Hid (R = undoS s m) := ⟨_, hid rfl⟩
  rw [← hR.out]
  obtain ⟨st, hst⟩ : ∃ q, s.marks.getD m St.none = q := ⟨_, rfl⟩
  rw [hst] at e0 e1 e2 e5 hks hts h1 h2 h3 h4 h5 h6
  have HST := hid hst
  have HG := hid hg
  have HLF := hid (And.intro hL hf)
  have HNL := hid (And.intro h7 h8)
  have HB := hid (And.intro h1 (And.intro h2 (And.intro h3 (And.intro h4 (And.intro h5 h6)))))
  have HKS := hid hks
  have HTS := hid hts
  have HVM := hid hvm
  have HM := hid hm
  obtain ⟨dk, hdk, hrd⟩ := hks
  obtain ⟨kp, kn, kq, hvk⟩ : ∃ p n q, vk = .slice p n q := by
    rcases hrd.row with ⟨⟨a, q, e, _⟩, _⟩ | ⟨b, off, q, e, _⟩
    · exact ⟨_, _, _, e⟩
    · exact ⟨_, _, _, e⟩
  subst hvk
  obtain ⟨tp, tc, hvt⟩ := hts.form
  subst hvt
  obtain ⟨nl, hnl⟩ : ∃ k, s.marks.length = k := ⟨_, rfl⟩
  have k10 : w.cell? ⟨bc, 10, none⟩ = some h.vm := cells_at a0.g.head 10
  rw [hvm, hnl] at k10
  rw [hnl] at hm hcap
  have kf := A1.out.g.cells.2.2.2.2.2.2.2.2.2.2.2.1
  have kl := A1.out.g.lb
  have lb := lt_of_cell e0
  have m0 : ¬ (m : Int) < 0 := by omega
  have m1 : ¬ (nl : Int) ≤ (m : Int) := by omega
  have m2 : ¬ nl ≤ m := by omega
  have m3 : (m : Int) < (nl : Int) := by omega
  have m4 : m ≤ cap := by omega
  have m5 : (m : Int) ≤ (cap : Int) := by omega
  clear h0 ht htb a0 hst hg hL hf h1 h2 h3 h4 h5 h6 h7 h8 hts hvm hdk hrd hnl hcap
  go_enter Tryz.func23, Tryz.ntmps23
  go_wp2_with fail
  refine (emade_any A1.out.done).mono ?_
  rintro e w' ⟨rfl, h9⟩
  subst h9
  have g0 := cells_at A1.out.gr 0
  have gl := (Array.getElem?_eq_some_iff.1 A1.out.gr).1
  simp only [List.getElem?_toArray, List.getElem?_cons_zero] at g0
  obtain ⟨y0, y1, y2, y3, y4, y5, yf, yl⟩ := six_of (at_new w' (.cells #[.int .i64 st.nodes, .int .i64 st.links, .int .i64 st.sets, .slice kp kn kq, .slice tp st.todo.length tc, .bool st.dirty] 76))
  go_upto_region 6 with fail
  obtain ⟨c2, a2, f2, x2⟩ := A1.out.cutM HVM.out (k := m) (Nat.le_of_lt HM.out)
  have hs1 : (w'.setCell ⟨bc, 10, none⟩ (.slice (some ⟨b, 0, none⟩) m cap)).heap.size = w'.heap.size := by simp [World.setCell]
  obtain ⟨w1, hw1⟩ : ∃ q, w'.setCell ⟨bc, 10, none⟩ (.slice (some ⟨b, 0, none⟩) m cap) = q := ⟨_, rfl⟩
  rw [hw1] at a2 f2 hs1 ⊢
  obtain ⟨q, hq⟩ : ∃ q, w'.heap.size = q := ⟨_, rfl⟩
  rw [hq] at hs1 ⊢
  clear y0 y1 y2 y3 y4 y5 yf yl e0 e1 e2 e3 e4 e5 k10 kf kl lb gl g0 hw1 m0 m1 m2 m3 m4 m5 hm
  have fq : Fr NoB w1 (w1.alloc (.cells #[.int .i64 st.nodes, .int .i64 st.links, .int .i64 st.sets, .slice kp kn kq, .slice tp st.todo.length tc, .bool st.dirty] 76)) := (Fr.refl NoB w1).alloc _
  have L2 : Hid (LocS c2 (w1.alloc (.cells #[.int .i64 st.nodes, .int .i64 st.links, .int .i64 st.sets, .slice kp kn kq, .slice tp st.todo.length tc, .bool st.dirty] 76)) q st (.slice kp kn kq) (.slice tp st.todo.length tc)) := by
    obtain ⟨dq, e6, r6⟩ := HKS.out
    rw [← hs1]
    exact ⟨at_new w1 _, Decidable.byContradiction fun hc => by have := a2.g.lt _ hc; omega, ⟨dq, e6, keep_rdN (keep_rdN r6 f2 x2 (fun k _ hm => hm.2.1)) fq (Ext.refl _ _) (fun _ _ e => e.elim)⟩, keep_rd (keep_rd HTS.out f2 x2 (fun k _ hm => hm.2.1)) fq (Ext.refl _ _) (fun _ _ e => e.elim)⟩
  have A2 := hid (a2.quiet fq)
  obtain ⟨w2, hw2⟩ : ∃ q, w1.alloc (.cells #[.int .i64 st.nodes, .int .i64 st.links, .int .i64 st.sets, .slice kp kn kq, .slice tp st.todo.length tc, .bool st.dirty] 76) = q := ⟨_, rfl⟩
  rw [hw2] at L2 A2 ⊢
  obtain ⟨s1, HS1⟩ : ∃ x : GS, Hid (x = { s with marks := s.marks.take m }) := ⟨_, hid rfl⟩
  rw [← HS1.out] at A2
  obtain ⟨h2, hh2⟩ : ∃ x : GH, ({ h with vm := Value.slice (some ⟨b, 0, none⟩) m cap } : GH) = x := ⟨_, rfl⟩
  rw [hh2] at A2
  clear fq a2 f2 x2 hs1 hw2 hh2 hq HTS HKS HVM A1
  have HG1 : Hid (GOk s1) := by
    have hg := HG.out
    show GOk s1
    rw [HS1.out]; exact ⟨hg.keys, hg.users, hg.nok, hg.args, hg.rows⟩
  obtain ⟨lo, hlo⟩ : ∃ k, st.nodes = k := ⟨_, rfl⟩
  have HLO := hid hlo
  obtain ⟨N, hN⟩ : ∃ k, s.nodes.length = k := ⟨_, rfl⟩
  have HN := hid hN
  have HLN : Hid (lo ≤ N ∧ N ≤ 1000000) := ⟨by rw [← hlo, ← hN]; exact HB.out.1, by rw [← hN]; exact HNL.out.1⟩
  have HN1 : Hid (s1.nodes.length = N) := by show _ = _; rw [HS1.out]; exact hN
  obtain ⟨k0, k1, k2, k3, k4, k5, k6, k7, k8, k9, k10, kf, kl⟩ := A2.out.g.cells
  clear k0 k2 k3 k4 k5 k6 k7 k8 k9 k10 kf
  obtain ⟨np, nq, hvn⟩ : ∃ p q, h2.vn = .slice p N q := by
    obtain ⟨dn, hn1, hn2, _, _⟩ := A2.out.g.nodes
    obtain ⟨np, nq, hv⟩ := OwnE.form hn2
    rw [show dn.length = N by rw [← HN1.out, ← hn1, List.length_map]] at hv
    exact ⟨np, nq, hv⟩
  rw [hvn] at k1
  have hn9 : N ≤ 1000000 := HLN.out.2
  have w9 : IntKind.i64.wrap ((N : Int) - 1) = (N : Int) - 1 := by rw [IntKind.wrap_i64]; omega
  obtain ⟨S2, HS2⟩ : ∃ x : GS, Hid (dropsS s1 lo (N - lo) = x) := ⟨_, hid rfl⟩
  have HSM : Hid (S2.uf = s.uf ∧ S2.links = s.links) := by
    show _ ∧ _
    obtain ⟨e6, e7, _⟩ := dropsS_same (N - lo) s1 lo
    rw [← HS2.out, e6, e7, HS1.out]; exact ⟨rfl, rfl⟩
  have HRR : Hid (R = undoF2 S2 st) := by
    show _ = _
    rw [hR.out]
    unfold undoS
    rw [HST.out, ← HS2.out, HS1.out, HLO.out, HN.out]
  clear hlo hN hvn
  go_wp2
  clear w9 k1 kl
  go_loopg [7] (N - lo) (fun g i wr => ∃ (c4 : Col) (h4 : GH) (s4 : GS), i = .int .i64 (((lo + g : Nat) : Int) - 1) ∧ lo + g ≤ N ∧ Hid (dropsS s4 lo g = S2) ∧ Hid (AdW c0 w' bg bc c4 wr h4 s4) ∧ Hid (GOk s4 ∧ s4.nodes.length = lo + g) ∧ Hid (LocS c4 wr q st (.slice kp kn kq) (.slice tp st.todo.length tc)))
  case atStart =>
    have hln := HLN.out
    have e9 : lo + (N - lo) = N := by omega
    exact ⟨c2, h2, s1, by rw [e9], by omega, HS2, A2, ⟨HG1.out, by rw [e9]; exact HN1.out⟩, L2⟩
  case round =>
    obtain ⟨c4, h4, s4, rfl, hle, HD4, A4, HG4, L4⟩ := hrel
    have hln := HLN.out
    obtain ⟨y0, y1, y2, y3, y4, y5, yf, yl⟩ := six_of L4.out.box
    rw [HLO.out] at y0
    clear y1 y2 y3 y4 y5 yf
    cases gk with
    | succ g =>
      have hi9 : (((lo + (g + 1) : Nat) : Int) - 1) = ((lo + g : Nat) : Int) := by omega
      rw [hi9]
      have HLE := hid hle
      obtain ⟨id, hid9⟩ : ∃ k, lo + g = k := ⟨_, rfl⟩
      have HID := hid hid9
      have hidm : id ≤ 1000000 := by omega
      clear hi9 hle
      have hge : (lo : Int) ≤ (id : Int) := by omega
      have hge2 : lo ≤ id := by omega
      have w9 : IntKind.i64.wrap ((id : Int) - 1) = (id : Int) - 1 := by rw [IntKind.wrap_i64]; omega
      rw [hid9]
      have HD5 : Hid (dropsS (dropS s4 id) lo g = S2) := by show _ = _; rw [← hid9]; exact HD4.out
      have HL4 : Hid (id + 1 = s4.nodes.length) := by show _ = _; rw [HG4.out.2, ← hid9]; omega
      have HOK4 := hid (HG4.out.1.nok _ (nodeAt_mem (ns := s4.nodes) (p := id) (by rw [← HL4.out]; omega)))
      have HAR4 : Hid (∀ x ∈ (nodeAt s4.nodes id).args, 0 ≤ x ∧ x < (s4.users.length : Int)) := fun x hx => by
        have h9 := HG4.out.1.args id (by rw [← HL4.out]; omega) x hx
        have e8 := HG4.out.1.users
        have e9 := HL4.out
        omega
      clear hid9
      go_wp2_with fail
      refine (drop_any A4.out.self id (by rw [← HL4.out]; omega) HG4.out.1.keys HG4.out.1.users HOK4.out HAR4.out (fun l hl => Nat.le_trans (HG4.out.1.rows l hl) (by omega))).mono ?_
      rintro e w5 ⟨rfl, c5, h5, b5⟩
      have A5 := hid (A4.out.comp b5)
      have L5 := hid (L4.out.turn b5.fr b5.ext)
      have G5 := hid (HG4.out.1.drop HL4.out)
      clear b5 y0 yl
      go_wp2
      go_roundg g
      case rel => exact ⟨c5, h5, dropS s4 id, by rw [HID.out], by have := HLE.out; omega, HD5, A5, ⟨G5.out.1, by rw [G5.out.2, HID.out]⟩, L5⟩
      case measure => omega
    | zero =>
      have hb : ¬ (lo : Int) ≤ ((lo : Int) - 1) := by omega
      rw [Nat.add_zero]
      have HE4 : Hid (s4 = S2) := HD4.out
      have hlom : lo ≤ 1000000 := by omega
      clear HD4 hle hln HG4
      go_wp2
      clear y0 yl hb
      have HS10 : Hid (∀ W', Fr NoB wr W' → W'.cell? ⟨bc, 0, none⟩ = some (.pointer (some ⟨h4.bs, 0, none⟩)) ∧ W'.cell? ⟨q, 2, none⟩ = some (.int .i64 st.sets)) := fun W' hf => by
        obtain ⟨_, _, x2, _⟩ := six_of (L4.out.quiet hf).box
        exact ⟨(A4.out.quiet hf).g.cells.1, x2⟩
      refine region_eff (fun W' => W'.cell? ⟨bc, 0, none⟩ = some (.pointer (some ⟨h4.bs, 0, none⟩)) ∧ W'.cell? ⟨q, 2, none⟩ = some (.int .i64 st.sets)) 6 [(0, 1), (1, 1), (2, 1), (3, 0), (4, 1), (5, 0), (6, 2)] (by kernel_rfl) (by kernel_rfl) ?_ ?_
      · exact HS10.out wr.drew (Fr.refl _ _).drew
      repeat (first | (refine eff_off (by rfl) (by rfl) ?_; (try simp only [Act.put, List.setIfInBounds_toArray, List.set_cons_zero, List.set_cons_succ])) | (refine eff_off0 (by rfl) (by rfl) ?_; (try simp only [Act.put, List.setIfInBounds_toArray, List.set_cons_zero, List.set_cons_succ])) | (refine eff_pu ?_ (by rfl) (by rfl) ?_ ?_; rotate_left; (focus (intro w'; go_simp; (try with_reducible rfl); done)); (try simp only [Act.put, List.setIfInBounds_toArray, List.set_cons_zero, List.set_cons_succ])) | (refine eff_rd ?_ (by rfl) (by rfl) ?_ ?_; rotate_left; (focus (intro w' hS; (try obtain ⟨hq1, hS⟩ := hS); (try obtain ⟨hq2, hS⟩ := hS); (try obtain ⟨hq3, hS⟩ := hS); (try obtain ⟨hq4, hS⟩ := hS); (try obtain ⟨hq5, hS⟩ := hS); (try obtain ⟨hq6, hS⟩ := hS); (try obtain ⟨hq7, hS⟩ := hS); (try obtain ⟨hq8, hS⟩ := hS); (try obtain ⟨hq9, hS⟩ := hS); (try obtain ⟨hq10, hS⟩ := hS); (try obtain ⟨hq11, hS⟩ := hS); (try obtain ⟨hq12, hS⟩ := hS); (try obtain ⟨hq13, hS⟩ := hS); (try obtain ⟨hq14, hS⟩ := hS); (try obtain ⟨hq15, hS⟩ := hS); (try obtain ⟨hq16, hS⟩ := hS); (try obtain ⟨hq17, hS⟩ := hS); (try obtain ⟨hq18, hS⟩ := hS); (try obtain ⟨hq19, hS⟩ := hS); (try dsimp only at hS); go_simp; (try with_reducible rfl); done)); (try simp only [Act.put, List.setIfInBounds_toArray, List.set_cons_zero, List.set_cons_succ])))
      refine eff_call 48 #[.pointer (some ⟨h4.bs, 0, none⟩), .int .i64 st.sets] (by rfl) (by rfl) (by intro w'; go_simp) ?_
      refine ((A4.out.quiet (Fr.refl NoB wr).drew).self.undoU st.sets (by rw [HE4.out, HSM.out.1]; exact HB.out.2.2.1)).mono ?_
      rintro e w5 ⟨rfl, c5, b5, f5, x5⟩
      have A5 := hid ((A4.out.quiet (Fr.refl NoB wr).drew).comp b5)
      have L5 := hid ((L4.out.quiet (Fr.refl NoB wr).drew).turn f5 x5)
      refine ⟨_, rfl, fun h => absurd rfl h, ?_⟩
      (try simp only [Act.put, List.setIfInBounds_toArray, List.set_cons_zero, List.set_cons_succ])
      refine eff_nil ?_
      clear b5 f5 x5 HS10 A4 L4
      obtain ⟨s5, HS5⟩ : ∃ x : GS, Hid (x = { s4 with uf := s4.uf.undo st.sets }) := ⟨_, hid rfl⟩
      rw [← HS5.out] at A5
      go_wp2
      have HS11 : Hid (∀ W', Fr NoB w5 W' → W'.cell? ⟨bc, 6, none⟩ = some (.pointer (some ⟨h4.bf, 0, none⟩)) ∧ W'.cell? ⟨q, 1, none⟩ = some (.int .i64 st.links)) := fun W' hf => by
        obtain ⟨_, x1, _⟩ := six_of (L5.out.quiet hf).box
        obtain ⟨_, _, _, _, _, _, q6, _⟩ := (A5.out.quiet hf).g.cells
        exact ⟨q6, x1⟩
      refine region_eff (fun W' => W'.cell? ⟨bc, 6, none⟩ = some (.pointer (some ⟨h4.bf, 0, none⟩)) ∧ W'.cell? ⟨q, 1, none⟩ = some (.int .i64 st.links)) 6 [(0, 1), (1, 1), (2, 1), (3, 0), (4, 1), (5, 0), (6, 2)] (by kernel_rfl) (by kernel_rfl) ?_ ?_
      · exact HS11.out w5.drew (Fr.refl _ _).drew
      repeat (first | (refine eff_off (by rfl) (by rfl) ?_; (try simp only [Act.put, List.setIfInBounds_toArray, List.set_cons_zero, List.set_cons_succ])) | (refine eff_off0 (by rfl) (by rfl) ?_; (try simp only [Act.put, List.setIfInBounds_toArray, List.set_cons_zero, List.set_cons_succ])) | (refine eff_pu ?_ (by rfl) (by rfl) ?_ ?_; rotate_left; (focus (intro w'; go_simp; (try with_reducible rfl); done)); (try simp only [Act.put, List.setIfInBounds_toArray, List.set_cons_zero, List.set_cons_succ])) | (refine eff_rd ?_ (by rfl) (by rfl) ?_ ?_; rotate_left; (focus (intro w' hS; (try obtain ⟨hq1, hS⟩ := hS); (try obtain ⟨hq2, hS⟩ := hS); (try obtain ⟨hq3, hS⟩ := hS); (try obtain ⟨hq4, hS⟩ := hS); (try obtain ⟨hq5, hS⟩ := hS); (try obtain ⟨hq6, hS⟩ := hS); (try obtain ⟨hq7, hS⟩ := hS); (try obtain ⟨hq8, hS⟩ := hS); (try obtain ⟨hq9, hS⟩ := hS); (try obtain ⟨hq10, hS⟩ := hS); (try obtain ⟨hq11, hS⟩ := hS); (try obtain ⟨hq12, hS⟩ := hS); (try obtain ⟨hq13, hS⟩ := hS); (try obtain ⟨hq14, hS⟩ := hS); (try obtain ⟨hq15, hS⟩ := hS); (try obtain ⟨hq16, hS⟩ := hS); (try obtain ⟨hq17, hS⟩ := hS); (try obtain ⟨hq18, hS⟩ := hS); (try obtain ⟨hq19, hS⟩ := hS); (try dsimp only at hS); go_simp; (try with_reducible rfl); done)); (try simp only [Act.put, List.setIfInBounds_toArray, List.set_cons_zero, List.set_cons_succ])))
      refine eff_call 49 #[.pointer (some ⟨h4.bf, 0, none⟩), .int .i64 st.links] (by rfl) (by rfl) (by intro w'; go_simp) ?_
      have HL5 : Hid (s5.links = s.links) := by show _ = _; rw [HS5.out, HE4.out]; exact HSM.out.2
      refine ((A5.out.quiet (Fr.refl NoB w5).drew).self.undoL st.links (by rw [HL5.out]; exact HB.out.2.1) (by rw [HL5.out]; exact HLF.out.1) (by rw [HL5.out]; exact HLF.out.2)).mono ?_
      rintro e w6 ⟨rfl, c6, b6, f6, x6⟩
      have A6 := hid ((A5.out.quiet (Fr.refl NoB w5).drew).comp b6)
      have L6 := hid ((L5.out.quiet (Fr.refl NoB w5).drew).turn f6 x6)
      refine ⟨_, rfl, fun h => absurd rfl h, ?_⟩
      (try simp only [Act.put, List.setIfInBounds_toArray, List.set_cons_zero, List.set_cons_succ])
      refine eff_nil ?_
      clear b6 f6 x6 HS11 A5 L5
      obtain ⟨s6, HS6⟩ : ∃ x : GS, Hid (x = { s5 with links := s5.links.take st.links, lr := forR (s5.links.take st.links) }) := ⟨_, hid rfl⟩
      rw [← HS6.out] at A6
      -- the keys
      obtain ⟨dk6, hd6, hr6⟩ := L6.out.keys
      have HD6 := hid hd6
      have HR6 := hid hr6
      have HDL : Hid (dk6.length = st.keys.length) := by show _ = _; rw [← hd6, List.length_map]
      obtain ⟨y0, y1, y2, y3, y4, y5, yf, yl⟩ := six_of L6.out.box
      clear y0 y1 y2 y5 hd6 hr6 y4 yf
      go_upto_region 13 with (at_builtin; go_loud (refine ap_nodes _ rfl _ _ rfl 0 (.slice (some ⟨w6.heap.size, 0, none⟩) 0 0) [] rfl (own_none w6 0 (Nat.zero_le _)) NoB _ dk6 rfl ⟨(HR6.out.row.fr ((Fr.refl NoB w6).alloc _) (fun _ _ e => e.elim)).weaken (fun _ _ e => e.elim), fun x hx => ((HR6.out.args x hx).fr ((Fr.refl NoB w6).alloc _) (fun _ _ e => e.elim)).weaken (fun _ _ e => e.elim)⟩ (by have := HB.out.2.2.2.1; rw [HDL.out]; simp only [List.length_nil]; omega) (Nat.zero_le _) ?_; intro v9 W7 ho9 hg9 hb9; rw [List.nil_append] at ho9; obtain ⟨p9, q9, hv9⟩ := OwnE.form ho9; rw [HDL.out] at hv9; subst hv9; have F7 : Hid (Fr NoB w6 W7) := Fr.grown ((Fr.refl NoB w6).alloc _) hg9 (fun k e hk => by have e2 : w6.heap.size = k := Option.some.inj e; omega); obtain ⟨c7, b7, f7, x7⟩ := A6.out.self.newK F7.out ho9 (by rcases hb9 with e | e; exact ⟨_, e, Nat.le_refl _⟩; exact ⟨_, e, by simp only [World.size_alloc]; omega⟩) HD6.out HR6.out.args; have A7 := hid (A6.out.comp b7); have L7 := hid (L6.out.turn f7 x7); obtain ⟨_, _, k2, _, _, _, _, _, _, _, _, kf, kl⟩ := (A6.out.quiet F7.out).g.cells; clear ho9 hg9 hb9 b7 f7 x7 y3 yl))
      obtain ⟨w8, hw8⟩ : ∃ q, W7.setCell ⟨bc, 2, none⟩ (.slice p9 st.keys.length q9) = q := ⟨_, rfl⟩
      rw [hw8] at A7 L7 ⊢
      obtain ⟨h8, HH8⟩ : ∃ x : GH, Hid (x = { h4 with vk := .slice p9 st.keys.length q9 }) := ⟨_, hid rfl⟩
      obtain ⟨s8, HS8⟩ : ∃ x : GS, Hid (x = { s6 with keys := st.keys }) := ⟨_, hid rfl⟩
      rw [← HH8.out, ← HS8.out] at A7
      clear hw8 k2 kf kl A6 L6 F7 HR6
      -- todo
      obtain ⟨y0, y1, y2, y3, y4, y5, yf, yl⟩ := six_of L7.out.box
      clear y0 y1 y2 y5 y3 yf
      go_upto_region 14 with (at_builtin; go_loud (refine ap_ints_at _ rfl _ _ rfl 0 (.slice (some ⟨w8.heap.size, 0, none⟩) 0 0) [] rfl (own_noneI w8 0 (Nat.zero_le _)) NoB _ st.todo rfl ((L7.out.todo.fr ((Fr.refl NoB w8).alloc _) (fun _ _ e => e.elim)).weaken (fun _ _ e => e.elim)) (by have := HB.out.2.2.2.2.1; simp only [List.length_nil]; omega) (Nat.zero_le _) ?_; intro v9 W9 ho9 hg9 hb9; rw [List.nil_append] at ho9; obtain ⟨p10, q10, hv9⟩ := OwnI.form ho9; subst hv9; have F9 : Hid (Fr NoB w8 W9) := Fr.grown ((Fr.refl NoB w8).alloc _) hg9 (fun k e hk => by have e2 : w8.heap.size = k := Option.some.inj e; omega); obtain ⟨c9, b9, f9, x9⟩ := A7.out.self.newT F9.out ho9 (by rcases hb9 with e | e; exact ⟨_, e, Nat.le_refl _⟩; exact ⟨_, e, by simp only [World.size_alloc]; omega⟩); have A9 := hid (A7.out.comp b9); have L9 := hid (L7.out.turn f9 x9); obtain ⟨_, _, _, _, _, _, _, _, k8, _, _, kf, kl⟩ := (A7.out.quiet F9.out).g.cells; clear ho9 hg9 hb9 b9 f9 x9 y4 yl))
      obtain ⟨w9, hw9⟩ : ∃ q, W9.setCell ⟨bc, 8, none⟩ (.slice p10 st.todo.length q10) = q := ⟨_, rfl⟩
      rw [hw9] at A9 L9 ⊢
      obtain ⟨h9, HH9⟩ : ∃ x : GH, Hid (x = { h8 with vt := .slice p10 st.todo.length q10 }) := ⟨_, hid rfl⟩
      obtain ⟨s9, HS9⟩ : ∃ x : GS, Hid (x = { s8 with todo := st.todo }) := ⟨_, hid rfl⟩
      rw [← HH9.out, ← HS9.out] at A9
      clear hw9 k8 kf kl A7 L7 F9
      -- dirty
      obtain ⟨y0, y1, y2, y3, y4, y5, yf, yl⟩ := six_of L9.out.box
      clear y0 y1 y2 y3 y4 yf
      obtain ⟨k0, k1, k2, k3, k4, k5, k6, k7, k8, k9, k10, kf, kl⟩ := A9.out.g.cells
      clear k0 k1 k2 k3 k4 k5 k6 k7 k8 k10
      have A10 := hid (A9.out.setDirty st.dirty)
      go_upto_region 15 with fail
      obtain ⟨w10, hw10⟩ : ∃ q, w9.setCell ⟨bc, 9, none⟩ (.bool st.dirty) = q := ⟨_, rfl⟩
      rw [hw10] at A10 ⊢
      obtain ⟨s10, HS10⟩ : ∃ x : GS, Hid (x = { s9 with dirty := st.dirty }) := ⟨_, hid rfl⟩
      rw [← HS10.out] at A10
      clear hw10 y5 yl k9 kf kl A9 L9
      -- the table
      go_wp2_with fail
      refine (new_any w10).mono ?_
      rintro e w11 ⟨bm, bt, rfl, h1, h2, h3, h5, f11⟩
      obtain ⟨c11, b11, _, _⟩ := A10.out.self.newTbl f11 h1 h2 h3 h5
      have A11 := hid (A10.out.comp b11)
      obtain ⟨k0, k1, k2, k3, k4, k5, k6, k7, k8, k9, k10, kf, kl⟩ := (A10.out.quiet f11).g.cells
      clear k0 k1 k2 k3 k4 k6 k7 k8 k9 k10 h1 h2 h3 h5 f11 b11
      go_upto_region 16 with fail
      obtain ⟨w12, hw12⟩ : ∃ q, w11.setCell ⟨bc, 5, none⟩ (.pointer (some ⟨bt, 0, none⟩)) = q := ⟨_, rfl⟩
      rw [hw12] at A11 ⊢
      obtain ⟨h11, HH11⟩ : ∃ x : GH, Hid (x = { h9 with bt := bt }) := ⟨_, hid rfl⟩
      obtain ⟨s11, HS11⟩ : ∃ x : GS, Hid (x = { s10 with table := [] }) := ⟨_, hid rfl⟩
      rw [← HH11.out, ← HS11.out] at A11
      clear hw12 k5 kf kl A10
      have HVK : Hid (h11.vk = .slice p9 st.keys.length q9) := by show _ = _; rw [HH11.out, HH9.out, HH8.out]
      have HBT : Hid (h11.bt = bt) := by show _ = _; rw [HH11.out]
      have HKE : Hid (s11.keys = st.keys) := by show _ = _; rw [HS11.out, HS10.out, HS9.out, HS8.out]
      have HTE : Hid (s11.table = []) := by show _ = _; rw [HS11.out]
      have HRE : Hid (R = { s11 with table := tputs [] 0 st.keys }) := by
        show _ = _
        rw [HRR.out, HS11.out, HS10.out, HS9.out, HS8.out, HS6.out, HS5.out, HE4.out]; rfl
      obtain ⟨k0, k1, k2, k3, k4, k5, k6, k7, k8, k9, k10, kf, kl⟩ := A11.out.g.cells
      rw [HVK.out] at k2
      clear k0 k1 k3 k4 k5 k6 k7 k8 k9 k10 kf
      have hkl9 : st.keys.length ≤ 1000000 := HB.out.2.2.2.1
      have U0 : Hid (AdW c0 w' bg bc c11 w12 h11 { s11 with table := tputs [] 0 (st.keys.take 0) }) := by
        have h := A11.out
        show AdW _ _ _ _ _ _ _ _
        rw [show ({ s11 with table := tputs [] 0 (st.keys.take 0) } : GS) = s11 by
          have e := HTE.out
          obtain ⟨z0, z1, z2, z3, z4, z5, z6, z7, z8, z9, z10, z11⟩ := s11
          simp only at e
          rw [e]; rfl]
        exact h
      go_wp2
      clear k2 kl
      go_loopg [106] st.keys.length (fun g i wr => ∃ (k : Nat) (c4 : Col), k + g = st.keys.length ∧ i = .int .i64 k ∧ Hid (AdW c0 w' bg bc c4 wr h11 { s11 with table := tputs [] 0 (st.keys.take k) }))
      case atStart => exact ⟨0, c11, by omega, rfl, U0⟩
      case round =>
        obtain ⟨k, c12, hk, rfl, MK⟩ := hrel
        cases gk with
        | zero =>
          obtain rfl : k = st.keys.length := by omega
          have hnl : ¬ (st.keys.length : Int) < (st.keys.length : Int) := by omega
          clear hk
          rw [List.take_length, ← HRE.out] at MK
          go_wp2
          go_ret
          exact ⟨rfl, ⟨c12, MK.out.done, MK.out.ext⟩, MK.out.fr⟩
        | succ g =>
          have hlt : k < st.keys.length := by omega
          have hlt' : (k : Int) < (st.keys.length : Int) := by omega
          obtain ⟨tb, htb⟩ : ∃ x, tputs [] 0 (st.keys.take k) = x := ⟨_, rfl⟩
          have HTS : Hid (tputs [] 0 (st.keys.take (k + 1)) = tputS tb (nodeAt st.keys k) k) := by show _ = _; rw [tputs_take hlt, htb]
          rw [htb] at MK
          obtain ⟨s12, HS12⟩ : ∃ x : GS, Hid (x = { s11 with table := tb }) := ⟨_, hid rfl⟩
          rw [← HS12.out] at MK
          obtain ⟨dn, hd1, hd2, hd3, hd4⟩ := MK.out.g.keys
          have hd1' : dn.map (·.1) = st.keys := by rw [hd1, HS12.out]; exact HKE.out
          have hdl : dn.length = st.keys.length := by rw [← hd1', List.length_map]
          have hpl : k < dn.length := by rw [hdl]; exact hlt
          have hrdn : RdN NoB wr h11.vk dn := OwnE.rdN hd2 (fun _ _ h => h) (fun x hx => (hd4 x hx).weaken (fun _ _ h => h.elim))
          rw [HVK.out] at hrdn
          obtain ⟨b9, off, hpp, e0, e1, e2, e3, e4, hargs⟩ := hrdn.nodeK hpl
          subst hpp
          obtain ⟨n, hn⟩ : ∃ n, Hid (nodeAt st.keys k = n) := ⟨_, hid rfl⟩
          have hnd : dn[k].1 = n := (nodeAt_of hd1' hpl).symm.trans hn.out
          obtain ⟨sl, hsl⟩ : ∃ sl, dn[k].2 = sl := ⟨_, rfl⟩
          rw [hnd] at e0 e1 e2 e3 hargs
          rw [hsl] at e4 hargs
          obtain ⟨va, vc, hvv⟩ := hargs.form
          subst hvv
          have HNO : Hid (NodeOk n ∧ NodeSm n) := HB.out.2.2.2.2.2 n (by rw [← hn.out]; exact nodeAt_mem hlt)
          have hw9 : IntKind.i64.wrap ((k : Int) + 1) = (k : Int) + 1 := by rw [IntKind.wrap_i64]; omega
          have lb9 := lt_of_cell e0
          have FQ : Fr NoB wr (wr.alloc (.cells (nodeCells n (.slice va n.args.length vc)) 30)) := (Fr.refl NoB wr).alloc _
          have A13 := hid (MK.out.quiet FQ)
          have HAR := hid (hargs.fr FQ (fun _ _ h => h.elim))
          have BX := hid (at_new wr (.cells (nodeCells n (.slice va n.args.length vc)) 30))
          have HKG := hid hk
          clear hd1 hd2 hd3 hd4 hd1' hdl hpl hrdn hnd hsl hargs FQ htb hk hlt MK
          go_upto_region 19 with fail
          obtain ⟨w13, hw13⟩ : ∃ q, wr.alloc (.cells (nodeCells n (.slice va n.args.length vc)) 30) = q := ⟨_, rfl⟩
          have hw13' := hw13
          simp only [nodeCells] at hw13'
          try rw [hw13']
          rw [hw13] at A13 HAR BX
          obtain ⟨qb, hqb⟩ : ∃ q, wr.heap.size = q := ⟨_, rfl⟩
          rw [hqb] at BX ⊢
          clear hw13 hw13' hqb e0 e1 e2 e3 e4 lb9
          have HS19 : Hid (∀ W', Fr NoB w13 W' → W'.cell? ⟨bc, 5, none⟩ = some (.pointer (some ⟨h11.bt, 0, none⟩)) ∧ W'.cell? ⟨qb, 0, none⟩ = some (.int .i64 n.op) ∧ W'.cell? ⟨qb, 1, none⟩ = some (.int .i64 n.width) ∧ W'.cell? ⟨qb, 2, none⟩ = some (.int .u64 n.val) ∧ W'.cell? ⟨qb, 3, none⟩ = some (.string n.name) ∧ W'.cell? ⟨qb, 4, none⟩ = some (.slice va n.args.length vc)) := fun W' hf => by
            obtain ⟨x0, x1, x2, x3, x4, _, _⟩ := five_of (hf.at (fun e => e) BX.out)
            obtain ⟨_, _, _, _, _, q5, _⟩ := (A13.out.quiet hf).g.cells
            exact ⟨q5, x0, x1, x2, x3, x4⟩
          refine region_eff (fun W' => W'.cell? ⟨bc, 5, none⟩ = some (.pointer (some ⟨h11.bt, 0, none⟩)) ∧ W'.cell? ⟨qb, 0, none⟩ = some (.int .i64 n.op) ∧ W'.cell? ⟨qb, 1, none⟩ = some (.int .i64 n.width) ∧ W'.cell? ⟨qb, 2, none⟩ = some (.int .u64 n.val) ∧ W'.cell? ⟨qb, 3, none⟩ = some (.string n.name) ∧ W'.cell? ⟨qb, 4, none⟩ = some (.slice va n.args.length vc)) 6 [(0, 1), (1, 1), (2, 1), (3, 0), (4, 0), (5, 1), (6, 2)] (by kernel_rfl) (by kernel_rfl) ?_ ?_
          · exact HS19.out w13.drew (Fr.refl _ _).drew
          repeat (first | (refine eff_off (by rfl) (by rfl) ?_; (try simp only [Act.put, List.setIfInBounds_toArray, List.set_cons_zero, List.set_cons_succ])) | (refine eff_off0 (by rfl) (by rfl) ?_; (try simp only [Act.put, List.setIfInBounds_toArray, List.set_cons_zero, List.set_cons_succ])) | (refine eff_pu ?_ (by rfl) (by rfl) ?_ ?_; rotate_left; (focus (intro w'; go_simp; (try with_reducible rfl); done)); (try simp only [Act.put, List.setIfInBounds_toArray, List.set_cons_zero, List.set_cons_succ])) | (refine eff_rd ?_ (by rfl) (by rfl) ?_ ?_; rotate_left; (focus (intro w' hS; (try obtain ⟨hq1, hS⟩ := hS); (try obtain ⟨hq2, hS⟩ := hS); (try obtain ⟨hq3, hS⟩ := hS); (try obtain ⟨hq4, hS⟩ := hS); (try obtain ⟨hq5, hS⟩ := hS); (try obtain ⟨hq6, hS⟩ := hS); (try obtain ⟨hq7, hS⟩ := hS); (try obtain ⟨hq8, hS⟩ := hS); (try obtain ⟨hq9, hS⟩ := hS); (try obtain ⟨hq10, hS⟩ := hS); (try obtain ⟨hq11, hS⟩ := hS); (try obtain ⟨hq12, hS⟩ := hS); (try obtain ⟨hq13, hS⟩ := hS); (try obtain ⟨hq14, hS⟩ := hS); (try obtain ⟨hq15, hS⟩ := hS); (try obtain ⟨hq16, hS⟩ := hS); (try obtain ⟨hq17, hS⟩ := hS); (try obtain ⟨hq18, hS⟩ := hS); (try obtain ⟨hq19, hS⟩ := hS); (try dsimp only at hS); go_simp; (try with_reducible rfl); done)); (try simp only [Act.put, List.setIfInBounds_toArray, List.set_cons_zero, List.set_cons_succ])))
          refine eff_call 32 #[.pointer (some ⟨h11.bt, 0, none⟩), nodeV n (.slice va n.args.length vc), .int .i64 k] (by rfl) (by rfl) (by intro w'; go_simp) ?_
          refine ((A13.out.quiet (Fr.refl NoB w13).drew).putTs n (.slice va n.args.length vc) k (HAR.out.fr (Fr.refl NoB w13).drew (fun _ _ h => h.elim)) HNO.out.1 HNO.out.2).mono ?_
          rintro e w14 ⟨⟨bb, rfl⟩, c14, N14, _, _⟩
          have A14 : Hid (AdW c0 w' bg bc c14 w14 h11 { s11 with table := tputs [] 0 (st.keys.take (k + 1)) }) := by
            show AdW _ _ _ _ _ _ _ _
            rw [HTS.out, hn.out]
            rw [HS12.out] at N14
            exact N14
          refine ⟨_, rfl, fun h => absurd rfl h, ?_⟩
          (try simp only [Act.put, List.setIfInBounds_toArray, List.set_cons_zero, List.set_cons_succ])
          refine eff_nil ?_
          clear N14 HS19
          go_wp2
          go_roundg g
          case rel => exact ⟨k + 1, c14, by have := HKG.out; omega, by go_num, A14⟩
          case measure => omega
end
end Go.Proofs.YtlekoceindepnaaGreatDoor
end
section
/- The walk of egraph's Add (printed by gen_add.py). -/
namespace Go.Proofs.YtlekoceindepnaaGreatDoor
open Go.RowKit
set_option maxRecDepth 100000

/-- The sizes that Add wants. -/
structure GSz (s : GS) : Prop where
  par : s.uf.par.length = s.nodes.length
  users : s.users.length = s.nodes.length
  keys : s.keys.length = s.nodes.length
  tr : s.uf.tr.length < 2900000
  links : s.links.length ≤ 1000000
  rows : ∀ l ∈ s.users, l.length ≤ 1000000
set_option maxHeartbeats 16000000 in
theorem eadd_any {c0 : Col} {w : World} {bg : Nat} {s : GS} (h0 : GrAt c0 w bg s) (ht : Tab w) (htb : c0 TB = 0) (hz : GSz s) (n : Node) (v : Value) (hv : RdI (fun k => c0 k ≠ 0) w v n.args) (hok : NodeOk n) (hsm : NodeSm n) :
    Calls Tryz.prog 4 #[.pointer (some ⟨bg, 0, none⟩), nodeV n v] w fun e w' => e = .returned (.tuple #[.int .i64 (addS s n).2.1, .int .i64 (addS s n).2.2]) ∧ (∃ c', GrAt c' w' bg (addS s n).1 ∧ Ext c0 c' w) ∧ Fr (Mut c0) w w' := by
  obtain ⟨bc, h, a0⟩ := AdW.start h0 ht htb
  obtain ⟨va, vc, hvv⟩ := hv.form
  subst hvv
  have F1 : Fr NoB w (w.alloc (.cells (nodeCells n (.slice va n.args.length vc)) 30)) := (Fr.refl NoB w).alloc _
  have A1 := hid (a0.quiet F1)
  have L1 : Hid (BoxA c0 w (w.alloc (.cells (nodeCells n (.slice va n.args.length vc)) 30)) n (.slice va n.args.length vc)) :=
    ⟨at_new w _, (hv.weaken (fun k hk hm => hm.elim (fun h => by omega) id)).fr F1 (fun _ _ h => h.elim)⟩
  obtain ⟨R, hR⟩ : ∃ R, Hid (R = addS s n) := ⟨_, hid rfl⟩
  rw [← hR.out]
  have HIR : Hid (flawS s n = 0 → ∀ a ∈ n.args, 0 ≤ a ∧ a < (s.nodes.length : Int)) := fun h9 => flaw_in h9
  obtain ⟨fl, hfl⟩ : ∃ fl, Hid (flawS s n = fl) := ⟨_, hid rfl⟩
  have hla : n.args.length ≤ 1000000 := by have := hsm.args; omega
  have HB := hid (show w.heap.size < (w.alloc (.cells (nodeCells n (.slice va n.args.length vc)) 30)).heap.size by simp)
  have HC00 := hid (show c0 w.heap.size = 0 from Decidable.byContradiction fun hc => by have := h0.lt _ hc; omega)
  clear h0 ht htb hv F1 a0
  unfold nodeV
  go_enter Tryz.func4, Tryz.ntmps4
  go_wp2_with fail
  obtain ⟨w1, hw1⟩ : ∃ w1, w.alloc (.cells (nodeCells n (.slice va n.args.length vc)) 30) = w1 := ⟨_, rfl⟩
  have hw1' := hw1
  simp only [nodeCells] at hw1'
  rw [hw1']
  rw [hw1] at A1 L1 HB
  clear hw1 hw1'
  refine (emade_any A1.out.done).mono ?_
  rintro e w' ⟨rfl, h9⟩
  subst h9
  have g0 := cells_at A1.out.gr 0
  have gl := (Array.getElem?_eq_some_iff.1 A1.out.gr).1
  simp only [List.getElem?_toArray, List.getElem?_cons_zero] at g0
  obtain ⟨x0, x1, x2, x3, x4, xf, xl⟩ := five_of L1.out.box
  go_wp2_with fail
  refine (A1.out.flaw_any n (.slice va n.args.length vc) L1.out.rd hla).mono ?_
  rintro e w2 ⟨rfl, hf⟩
  rw [hfl.out]
  have A2 := hid (A1.out.quiet hf)
  have L2 := hid (L1.out.quiet hf)
  clear hf A1 L1 g0 gl x0 x1 x2 x3 x4 xf xl
  by_cases hfz : fl = 0
  rotate_left
  · have hb : (fl == 0) = false := by simpa using hfz
    have HR := hid hfz
    go_wp2
    go_ret2
    have e1 : R = (s, 0, fl) := by
      rw [hR.out]
      unfold addS
      rw [hfl.out, if_pos HR.out]
    rw [e1]
    exact ⟨rfl, ⟨_, A2.out.done, A2.out.ext⟩, A2.out.fr⟩
  subst hfz
  obtain ⟨k0, k1, k2, k3, k4, k5, k6, k7, k8, k9, k10, kf, kl⟩ := A2.out.g.cells
  obtain ⟨x0, x1, x2, x3, x4, xf, xl⟩ := five_of L2.out.box
  obtain ⟨xo, hxo⟩ : ∃ xo, Hid (tgetS s.exact n = xo) := ⟨_, hid rfl⟩
  have CG : Hid (∀ W, Fr NoB w2 W → Calls Tryz.prog 27 #[.pointer (some ⟨h.be, 0, none⟩), nodeV n (.slice va n.args.length vc)] W fun e w' => e = .returned (.tuple #[.int .i64 (xo.getD 0), .bool xo.isSome]) ∧ Fr NoB w2 w') := fun W hW => by
    refine ((A2.out.quiet hW).g.exact.get_any n (.slice va n.args.length vc) (L2.out.quiet hW).rd hok hsm (A2.out.quiet hW).tab).mono ?_
    rintro e w' ⟨rfl, hf⟩
    rw [hxo.out]
    exact ⟨rfl, hW.step hf⟩
  go_wp2
  refine region_txt (Fr NoB _) (by kernel_rfl) (by kernel_rfl) ((Fr.refl NoB _).drew) ?_
  repeat (first | (refine txt_off (by rfl) ?_; (try simp only [Act.put, List.setIfInBounds_toArray, List.set_cons_zero, List.set_cons_succ])) | (refine txt_read ?_ (by rfl) ?_ ?_; rotate_left; (focus (intro W hW; have hWc := Fr.cq hW; clear hW; go_simp; (try with_reducible rfl); done)); (try simp only [Act.put, List.setIfInBounds_toArray, List.set_cons_zero, List.set_cons_succ])))
  (refine txt_call (.tuple #[.int .i64 (xo.getD 0), .bool xo.isSome]) ?_ ?_ (by rfl) ?_ ?_ ?_; rotate_left; rotate_left; (focus (intro W; go_simp; (first | done | (refine And.intro ?_ ?_ <;> with_reducible rfl) | with_reducible rfl); done)); (focus (exact (fun W hW => CG.out W hW))); (try simp only [Act.put, List.setIfInBounds_toArray, List.set_cons_zero, List.set_cons_succ]))
  repeat (first | (refine txt_off (by rfl) ?_; (try simp only [Act.put, List.setIfInBounds_toArray, List.set_cons_zero, List.set_cons_succ])) | (refine txt_read ?_ (by rfl) ?_ ?_; rotate_left; (focus (intro W hW; have hWc := Fr.cq hW; clear hW; go_simp; (try with_reducible rfl); done)); (try simp only [Act.put, List.setIfInBounds_toArray, List.set_cons_zero, List.set_cons_succ])))
  refine txt_nil ?_
  intro W hW
  have A3 := hid (A2.out.quiet hW)
  have L3 := hid (L2.out.quiet hW)
  clear hW A2 L2 k0 k1 k2 k3 k4 k5 k6 k7 k8 k9 k10 kf kl x0 x1 x2 x3 x4 xf xl
  cases xo with
  | some id0 =>
    simp only [Option.getD_some, Option.isSome_some]
    go_wp2
    go_ret2
    have e1 : R = (s, id0, 0) := by
      rw [hR.out]
      unfold addS
      rw [hfl.out, if_neg (by simp), hxo.out]
    rw [e1]
    exact ⟨rfl, ⟨_, A3.out.done, A3.out.ext⟩, A3.out.fr⟩
  | none =>
    simp only [Option.getD_none, Option.isSome_none]
    obtain ⟨k0, k1, k2, k3, k4, k5, k6, k7, k8, k9, k10, kf, kl⟩ := A3.out.g.cells
    obtain ⟨dn, hd1, hd2, hd3, hd4⟩ := A3.out.g.nodes
    have hdl : dn.length = s.nodes.length := by rw [← hd1, List.length_map]
    obtain ⟨np, nc, hvn⟩ := OwnE.form hd2
    rw [hdl] at hvn
    have k1' := k1
    rw [hvn] at k1'
    clear hd2 hd3 hd4 k1
    by_cases hfull : 65536 ≤ s.nodes.length
    · have hb : (65536 : Int) ≤ (s.nodes.length : Int) := by omega
      go_wp2
      go_ret2
      have e1 : R = (s, 0, 10) := by
        rw [hR.out]
        unfold addS
        rw [hfl.out, if_neg (by simp), hxo.out]
        simp only
        rw [if_pos hfull]
      rw [e1]
      exact ⟨rfl, ⟨_, A3.out.done, A3.out.ext⟩, A3.out.fr⟩
    have hb : ¬ (65536 : Int) ≤ (s.nodes.length : Int) := by omega
    have HR : Hid (R = (addJoin (addIn s n) (canonU s.uf.make.par n) s.uf.par.length, (s.uf.par.length : Int), 0)) := by
      show _ = _
      rw [hR.out]
      unfold addS
      rw [hfl.out, if_neg (by simp), hxo.out]
      simp only
      rw [if_neg hfull]
    have HIN : Hid (∀ a ∈ n.args, 0 ≤ a ∧ a < (s.nodes.length : Int)) := HIR.out hfl.out
    clear hR hfl HIR
    go_wp2_with fail
    refine (A3.out.make_any (by have := hz.par; omega) (by have := hz.tr; omega)).mono ?_
    rintro e w4 ⟨rfl, c4, A4', f4, x4⟩
    obtain ⟨s7, HS7⟩ : ∃ s7, Hid (s7 = { s with uf := s.uf.make }) := ⟨_, hid rfl⟩
    rw [← HS7.out] at A4'
    have A4 := hid A4'
    have HC0 : Hid (c0 w.heap.size = 0) := HC00
    have L4 := hid (L3.out.turn A3.out HC0.out f4)
    have HC4 : Hid (c4 w.heap.size = 0) := by show _ = _; rw [x4 _ L3.out.lt]; exact HC0.out
    clear A4' f4 x4 A3 L3 k0 k1' k2 k3 k4 k5 k6 k7 k8 k9 k10 kf kl
    obtain ⟨x0, x1, x2, x3, x4, xf, xl⟩ := five_of L4.out.box
    go_wp2_with fail
    refine (hcCopy_any NoB n (.slice va n.args.length vc) w4 L4.out.rd (by omega)).mono ?_
    rintro e w5 ⟨oa, oc, rfl, ho, hf⟩
    have A5 := hid (A4.out.fresh 12 hf)
    have L5 := hid (L4.out.quiet hf)
    have HC5 : Hid (paint c4 w4 w5 12 w.heap.size = 0) := by show _ = _; rw [paint_old L4.out.lt]; exact HC4.out
    have O5 := hid (own_paint ho rfl c4)
    obtain ⟨c5, hc5⟩ : ∃ c5, paint c4 w4 w5 12 = c5 := ⟨_, rfl⟩
    rw [hc5] at A5 O5 HC5
    have B5 : Hid (Loc c5 (w5.alloc (.cells (nodeCells n (.slice oa n.args.length oc)) 30)) w5.heap.size n (.slice oa n.args.length oc) 12) :=
      ⟨at_new w5 _, Decidable.byContradiction fun hc => by have := A5.out.g.lt _ hc; omega, O5.out.fr ((Fr.refl NoB w5).alloc _) (fun _ _ h => h.elim)⟩
    have A6 := hid (A5.out.quiet ((Fr.refl NoB w5).alloc (.cells (nodeCells n (.slice oa n.args.length oc)) 30)))
    have L6 := hid (L5.out.quiet ((Fr.refl NoB w5).alloc (.cells (nodeCells n (.slice oa n.args.length oc)) 30)))
    have HOB := hid L5.out.lt
    clear ho hf hc5 A4 L4 A5 L5 O5 x0 x1 x2 x3 x4 xf xl
    go_upto_region 14 with fail
    obtain ⟨w6, hw6⟩ : ∃ w6, w5.alloc (.cells (nodeCells n (.slice oa n.args.length oc)) 30) = w6 := ⟨_, rfl⟩
    obtain ⟨ob, hob⟩ : ∃ ob, w5.heap.size = ob := ⟨_, rfl⟩
    have hw6' := hw6
    simp only [nodeCells] at hw6'
    try rw [hw6']
    rw [hw6] at A6 L6 B5
    rw [hob] at B5 HOB ⊢
    clear hw6 hw6' hob
    have CF : Hid (∀ W', Fr NoB w6 W' → Calls Tryz.prog 30 #[nodeV n (.slice va n.args.length vc), .func (.func 31) #[.pointer (some ⟨h.bs, 0, none⟩)] #[]] W' fun e w' => ∃ a' c', e = .returned (nodeV (canonU s7.uf.par n) (.slice a' n.args.length c')) ∧ OwnI W'.heap.size w' (.slice a' n.args.length c') (n.args.map (findS s7.uf.par)) ∧ Fr NoB W' w') :=
      fun W' hf => findCanon_any (A6.out.quiet hf).g.sets n (.slice va n.args.length vc) (L6.out.quiet hf).rd hla
    go_cut [12] (fun s12 wx => ∃ kb ka kc c7, s12 = .pointer (some ⟨kb, 0, none⟩) ∧ Hid (AddM c0 w bg bc n (.slice va n.args.length vc) ob (.slice oa n.args.length oc) kb (canonU s7.uf.par n) (.slice ka n.args.length kc) c7 wx h s7))
    case first =>
      have HS : Hid (∀ W', Fr NoB w6 W' → W'.cell? ⟨bc, 0, none⟩ = some (.pointer (some ⟨h.bs, 0, none⟩)) ∧ W'.cell? ⟨w.heap.size, 0, none⟩ = some (.int .i64 n.op) ∧ W'.cell? ⟨w.heap.size, 1, none⟩ = some (.int .i64 n.width) ∧ W'.cell? ⟨w.heap.size, 2, none⟩ = some (.int .u64 n.val) ∧ W'.cell? ⟨w.heap.size, 3, none⟩ = some (.string n.name) ∧ W'.cell? ⟨w.heap.size, 4, none⟩ = some (.slice va n.args.length vc)) := fun W' hf => by
        obtain ⟨x0, x1, x2, x3, x4, _, _⟩ := five_of (L6.out.quiet hf).box
        exact ⟨(A6.out.quiet hf).g.cells.1, x0, x1, x2, x3, x4⟩
      obtain ⟨k0, x0, x1, x2, x3, x4⟩ := HS.out w6 (Fr.refl _ _)
      have q1 : bc ≠ w6.heap.size := by have := A6.out.g.lb; omega
      have q2 : w.heap.size ≠ w6.heap.size := by have := L6.out.lt; omega
      have q3 := q1.symm
      have q4 := q2.symm
      go_region_held3 (fun W' => W'.cell? ⟨bc, 0, none⟩ = some (.pointer (some ⟨h.bs, 0, none⟩)) ∧ W'.cell? ⟨w.heap.size, 0, none⟩ = some (.int .i64 n.op) ∧ W'.cell? ⟨w.heap.size, 1, none⟩ = some (.int .i64 n.width) ∧ W'.cell? ⟨w.heap.size, 2, none⟩ = some (.int .u64 n.val) ∧ W'.cell? ⟨w.heap.size, 3, none⟩ = some (.string n.name) ∧ W'.cell? ⟨w.heap.size, 4, none⟩ = some (.slice va n.args.length vc)) (go_keep)
        (first
          | (go_at_call 30; have X := CF.out w6.drew (Fr.refl NoB w6).drew; unfold nodeV at X; (with_reducible refine X.mono ?_); clear X; rintro e w7 ⟨ka, kc, rfl, ho7, hf7⟩; have F7 : Hid (Fr NoB w6 w7) := (Fr.refl NoB w6).drew.step hf7; have O7 : Hid (RdI (fun k => paint c5 w6 w7 12 k ≠ 12) w7 (.slice ka n.args.length kc) (canonU s7.uf.par n).args) := own_paint (W := w6) ho7 rfl c5; clear ho7 hf7 k0 x0 x1 x2 x3 x4; obtain ⟨k0, x0, x1, x2, x3, x4⟩ := HS.out w7 F7.out)
          | (go_at_call 30; have X := CF.out (w6.alloc (.cells #[.int .i64 0, .int .i64 0, .int .u64 0, .string ⟨#[]⟩, .slice none 0 0] 30)).drew ((Fr.refl NoB w6).alloc _).drew; unfold nodeV at X; (with_reducible refine X.mono ?_); clear X; rintro e w7 ⟨ka, kc, rfl, ho7, hf7⟩; have F7 : Hid (Fr NoB w6 w7) := ((Fr.refl NoB w6).alloc _).drew.step hf7; have F77 := hid hf7; have O7 : Hid (RdI (fun k => paint c5 (w6.alloc (.cells #[.int .i64 0, .int .i64 0, .int .u64 0, .string ⟨#[]⟩, .slice none 0 0] 30)).drew w7 12 k ≠ 12) w7 (.slice ka n.args.length kc) (canonU s7.uf.par n).args) := own_paint ho7 rfl c5; have K7 : Hid (w7.heap[w6.heap.size]? = some (.cells #[.int .i64 0, .int .i64 0, .int .u64 0, .string ⟨#[]⟩, .slice none 0 0] 30 (0, 0))) := hf7.at (fun h => h) (at_new w6 (.cells #[.int .i64 0, .int .i64 0, .int .u64 0, .string ⟨#[]⟩, .slice none 0 0] 30)); clear ho7 hf7 k0 x0 x1 x2 x3 x4; obtain ⟨k0, x0, x1, x2, x3, x4⟩ := HS.out w7 F7.out; obtain ⟨y0, y1, y2, y3, y4, yf, yl⟩ := five_of K7.out))
      all_goals (go_wp2_with fail; go_meet)
      · exact ⟨_, ka, kc, _, rfl, AddM.mk1 A6.out HC5.out L6.out B5.out F7.out O7.out⟩
      all_goals exact ⟨_, ka, kc, _, rfl, AddM.mk2 A6.out HC5.out L6.out B5.out F77.out O7.out⟩
    case rest =>
      obtain ⟨kb, ka, kc, c7, rfl, M7⟩ := hcut
      obtain ⟨key, HKEY⟩ : ∃ key, Hid (key = canonU s7.uf.par n) := ⟨_, hid rfl⟩
      rw [← HKEY.out] at M7
      have HPK : Hid (NodeOk key ∧ NodeSm key) := by
        show _ ∧ _
        rw [HKEY.out]
        exact ⟨canon_ok2 M7.out.a.g.sets.ok.par M7.out.a.g.sets.small.1 hok, canon_sm2 hsm⟩
      have HL7 : Hid (s7.nodes.length < 65536 ∧ s7.keys.length < 65536 ∧ s7.users.length < 65536) := by
        show _ ∧ _ ∧ _
        have h1 := hz.keys
        have h2 := hz.users
        rw [HS7.out]
        refine ⟨?_, ?_, ?_⟩ <;> simp only <;> omega
      clear CF A6 L6 B5 HC5 HOB HC0 HC00 HC4 CG HB hvn hd1 hdl
      obtain ⟨dn7, hd1, hd2, hd3, hd4⟩ := M7.out.a.g.nodes
      have HD1 := hid hd1
      have HD2 := hid hd2
      have HD4 := hid hd4
      have HDL : Hid (dn7.length ≤ 70000) := by
        show _ ≤ _
        have h9 := congrArg List.length hd1
        rw [List.length_map] at h9
        rw [h9]
        have := HL7.out.1; omega
      have HS : Hid (∀ w', Fr (fun b => h.vn.ownBlock = some b) wc w' → w'.cell? ⟨bc, 1, none⟩ = some h.vn ∧ w'.cell? ⟨ob, 0, none⟩ = some (.int .i64 n.op) ∧ w'.cell? ⟨ob, 1, none⟩ = some (.int .i64 n.width) ∧ w'.cell? ⟨ob, 2, none⟩ = some (.int .u64 n.val) ∧ w'.cell? ⟨ob, 3, none⟩ = some (.string n.name) ∧ w'.cell? ⟨ob, 4, none⟩ = some (Value.slice oa n.args.length oc)) := fun w' hf => by
        have hM : ∀ b, h.vn.ownBlock = some b → _ := hd3
        obtain ⟨x0, x1, x2, x3, x4⟩ := M7.out.own.see hf (fun b hb => by rw [hd3 b hb]; decide)
        exact ⟨cells_at (M7.out.a.g.see hf (fun b hb => by rw [hd3 b hb]; decide)) 1, x0, x1, x2, x3, x4⟩
      have HFZ : Hid (∀ w', Fr (fun b => h.vn.ownBlock = some b) wc w' → (∀ o, w'.frozen? ⟨bc, o, none⟩ = false)) := fun w' hf o => frozen_at (M7.out.a.g.see hf (fun b hb => by rw [hd3 b hb]; decide)) o
      clear hd1 hd2 hd3 hd4
      go_wp2
      refine region_eff (fun w' => w'.cell? ⟨bc, 1, none⟩ = some h.vn ∧ w'.cell? ⟨ob, 0, none⟩ = some (.int .i64 n.op) ∧ w'.cell? ⟨ob, 1, none⟩ = some (.int .i64 n.width) ∧ w'.cell? ⟨ob, 2, none⟩ = some (.int .u64 n.val) ∧ w'.cell? ⟨ob, 3, none⟩ = some (.string n.name) ∧ w'.cell? ⟨ob, 4, none⟩ = some (Value.slice oa n.args.length oc)) 10 [(0, 1), (1, 1), (2, 1), (3, 1), (4, 0), (5, 0), (6, 2), (7, 2), (8, 1), (9, 1), (10, 2)] (by kernel_rfl) (by kernel_rfl) ?_ ?_
      · exact HS.out wc.drew (Fr.refl _ _).drew
      repeat (first | (refine eff_off (by rfl) (by rfl) ?_; (try simp only [Act.put, List.setIfInBounds_toArray, List.set_cons_zero, List.set_cons_succ])) | (refine eff_off0 (by rfl) (by rfl) ?_; (try simp only [Act.put, List.setIfInBounds_toArray, List.set_cons_zero, List.set_cons_succ])) | (refine eff_pu ?_ (by rfl) (by rfl) ?_ ?_; rotate_left; (focus (intro w'; go_simp; (try with_reducible rfl); done)); (try simp only [Act.put, List.setIfInBounds_toArray, List.set_cons_zero, List.set_cons_succ])) | (refine eff_rd ?_ (by rfl) (by rfl) ?_ ?_; rotate_left; (focus (intro w' hS; (try obtain ⟨hq1, hS⟩ := hS); (try obtain ⟨hq2, hS⟩ := hS); (try obtain ⟨hq3, hS⟩ := hS); (try obtain ⟨hq4, hS⟩ := hS); (try obtain ⟨hq5, hS⟩ := hS); (try obtain ⟨hq6, hS⟩ := hS); (try obtain ⟨hq7, hS⟩ := hS); (try obtain ⟨hq8, hS⟩ := hS); (try obtain ⟨hq9, hS⟩ := hS); (try obtain ⟨hq10, hS⟩ := hS); (try obtain ⟨hq11, hS⟩ := hS); (try obtain ⟨hq12, hS⟩ := hS); (try obtain ⟨hq13, hS⟩ := hS); (try obtain ⟨hq14, hS⟩ := hS); (try obtain ⟨hq15, hS⟩ := hS); (try obtain ⟨hq16, hS⟩ := hS); (try obtain ⟨hq17, hS⟩ := hS); (try obtain ⟨hq18, hS⟩ := hS); (try obtain ⟨hq19, hS⟩ := hS); (try dsimp only at hS); go_simp; (try with_reducible rfl); done)); (try simp only [Act.put, List.setIfInBounds_toArray, List.set_cons_zero, List.set_cons_succ])))
      refine eff_run (v := .slice (some ⟨wc.heap.size, 0, none⟩) 1 1) (W' := wc.drew.alloc (.cells #[.int .i64 n.op, .int .i64 n.width, .int .u64 n.val, .string n.name, (Value.slice oa n.args.length oc)] 30)) (by rfl) (by rfl) (by go_simp) (fun _ => HS.out _ ((Fr.refl _ _).drew.alloc _)) ?_
      (try simp only [Act.put, List.setIfInBounds_toArray, List.set_cons_zero, List.set_cons_succ])
      refine eff_do (by rfl) ?_
      refine ap_nodes _ rfl _ _ rfl 0 h.vn dn7 rfl (OwnE.step HD2.out ((Fr.refl NoB wc).drew.alloc _)) NoB _ [(n, (Value.slice oa n.args.length oc))] rfl (rdN_lit (w := wc.drew) (Fr.refl NoB _) (M7.out.own.rd.fr ((Fr.refl NoB wc).drew.alloc _) (fun _ _ h => h))) ?_ (Nat.zero_le _) ?_
      · have := HDL.out; simp only [List.length_singleton]; omega
      intro v6 W6 ho6 hg6 hb6
      obtain ⟨p6, q6, hv6⟩ := OwnE.form ho6
      obtain ⟨m6, hm6⟩ : ∃ m, (dn7 ++ [(n, (Value.slice oa n.args.length oc))]).length = m := ⟨_, rfl⟩
      rw [hm6] at hv6
      subst hv6
      clear hm6
      have f6 : Fr (fun b => h.vn.ownBlock = some b) wc W6 := Fr.grown ((Fr.refl _ wc).drew.alloc _) hg6 (fun k hk _ => hk)
      obtain ⟨s1, s2, s3, s4, s5, s6⟩ := HS.out W6 f6
      have fz := HFZ.out W6 f6
      have N6 := hid (AddM.pushN M7.out HD1.out HD4.out f6 ho6 (grown_own (W := wc.drew) hb6))
      refine wpList_nil ⟨rfl, fun _ => ⟨s1, s2, s3, s4, s5, s6⟩, ?_⟩
      (try simp only [Act.put, List.setIfInBounds_toArray, List.set_cons_zero, List.set_cons_succ])
      clear hg6 f6 ho6 hb6 s2 s3 s4 s5 s6
      repeat (first | (refine eff_off (by rfl) (by rfl) ?_; (try simp only [Act.put, List.setIfInBounds_toArray, List.set_cons_zero, List.set_cons_succ])) | (refine eff_off0 (by rfl) (by rfl) ?_; (try simp only [Act.put, List.setIfInBounds_toArray, List.set_cons_zero, List.set_cons_succ])) | (refine eff_pu ?_ (by rfl) (by rfl) ?_ ?_; rotate_left; (focus (intro w'; go_simp; (try with_reducible rfl); done)); (try simp only [Act.put, List.setIfInBounds_toArray, List.set_cons_zero, List.set_cons_succ])) | (refine eff_rd ?_ (by rfl) (by rfl) ?_ ?_; rotate_left; (focus (intro w' hS; (try obtain ⟨hq1, hS⟩ := hS); (try obtain ⟨hq2, hS⟩ := hS); (try obtain ⟨hq3, hS⟩ := hS); (try obtain ⟨hq4, hS⟩ := hS); (try obtain ⟨hq5, hS⟩ := hS); (try obtain ⟨hq6, hS⟩ := hS); (try obtain ⟨hq7, hS⟩ := hS); (try obtain ⟨hq8, hS⟩ := hS); (try obtain ⟨hq9, hS⟩ := hS); (try obtain ⟨hq10, hS⟩ := hS); (try obtain ⟨hq11, hS⟩ := hS); (try obtain ⟨hq12, hS⟩ := hS); (try obtain ⟨hq13, hS⟩ := hS); (try obtain ⟨hq14, hS⟩ := hS); (try obtain ⟨hq15, hS⟩ := hS); (try obtain ⟨hq16, hS⟩ := hS); (try obtain ⟨hq17, hS⟩ := hS); (try obtain ⟨hq18, hS⟩ := hS); (try obtain ⟨hq19, hS⟩ := hS); (try dsimp only at hS); go_simp; (try with_reducible rfl); done)); (try simp only [Act.put, List.setIfInBounds_toArray, List.set_cons_zero, List.set_cons_succ])))
      refine eff_skip (W' := W6.setCell ⟨bc, 1, none⟩ (.slice p6 m6 q6)) (by rfl) (by rfl) (by go_simp) (fun h => absurd rfl h) ?_
      (try simp only [Act.put, List.setIfInBounds_toArray, List.set_cons_zero, List.set_cons_succ])
      refine eff_nil ?_
      clear s1 fz HS HFZ HD1 HD2 HD4 HDL
      obtain ⟨W8, hW⟩ : ∃ W9, W6.setCell ⟨bc, 1, none⟩ (.slice p6 m6 q6) = W9 := ⟨_, rfl⟩
      obtain ⟨h8, hh⟩ : ∃ h9 : GH, ({ h with vn := Value.slice p6 m6 q6 } : GH) = h9 := ⟨_, rfl⟩
      obtain ⟨c8, hc⟩ : ∃ c9, paint c7 wc W6 9 = c9 := ⟨_, rfl⟩
      obtain ⟨s8, HS8⟩ : ∃ s9 : GS, Hid (s9 = { s7 with nodes := s7.nodes ++ [n] }) := ⟨_, hid rfl⟩
      rw [hW, hh, hc, ← HS8.out] at N6
      rw [hW]
      have M8 := N6
      clear hW hh hc N6 M7
      obtain ⟨dn8, hd1, hd2, hd3, hd4⟩ := M8.out.a.g.keys
      have HD1 := hid hd1
      have HD2 := hid hd2
      have HD4 := hid hd4
      have HDL : Hid (dn8.length ≤ 70000) := by
        show _ ≤ _
        have h9 := congrArg List.length hd1
        rw [List.length_map] at h9
        rw [h9]
        rw [HS8.out]; have := HL7.out.2.1; show s7.keys.length ≤ _; omega
      have HS : Hid (∀ w', Fr (fun b => h8.vk.ownBlock = some b) W8 w' → w'.cell? ⟨bc, 2, none⟩ = some h8.vk ∧ w'.cell? ⟨kb, 0, none⟩ = some (.int .i64 key.op) ∧ w'.cell? ⟨kb, 1, none⟩ = some (.int .i64 key.width) ∧ w'.cell? ⟨kb, 2, none⟩ = some (.int .u64 key.val) ∧ w'.cell? ⟨kb, 3, none⟩ = some (.string key.name) ∧ w'.cell? ⟨kb, 4, none⟩ = some (Value.slice ka n.args.length kc)) := fun w' hf => by
        have hM : ∀ b, h8.vk.ownBlock = some b → _ := hd3
        obtain ⟨x0, x1, x2, x3, x4⟩ := M8.out.key.see hf (fun b hb => by rw [hd3 b hb]; decide)
        exact ⟨cells_at (M8.out.a.g.see hf (fun b hb => by rw [hd3 b hb]; decide)) 2, x0, x1, x2, x3, x4⟩
      have HFZ : Hid (∀ w', Fr (fun b => h8.vk.ownBlock = some b) W8 w' → (∀ o, w'.frozen? ⟨bc, o, none⟩ = false)) := fun w' hf o => frozen_at (M8.out.a.g.see hf (fun b hb => by rw [hd3 b hb]; decide)) o
      clear hd1 hd2 hd3 hd4
      go_wp2
      refine region_eff (fun w' => w'.cell? ⟨bc, 2, none⟩ = some h8.vk ∧ w'.cell? ⟨kb, 0, none⟩ = some (.int .i64 key.op) ∧ w'.cell? ⟨kb, 1, none⟩ = some (.int .i64 key.width) ∧ w'.cell? ⟨kb, 2, none⟩ = some (.int .u64 key.val) ∧ w'.cell? ⟨kb, 3, none⟩ = some (.string key.name) ∧ w'.cell? ⟨kb, 4, none⟩ = some (Value.slice ka n.args.length kc)) 10 [(0, 1), (1, 1), (2, 1), (3, 1), (4, 0), (5, 0), (6, 2), (7, 2), (8, 1), (9, 1), (10, 2)] (by kernel_rfl) (by kernel_rfl) ?_ ?_
      · exact HS.out W8.drew (Fr.refl _ _).drew
      repeat (first | (refine eff_off (by rfl) (by rfl) ?_; (try simp only [Act.put, List.setIfInBounds_toArray, List.set_cons_zero, List.set_cons_succ])) | (refine eff_off0 (by rfl) (by rfl) ?_; (try simp only [Act.put, List.setIfInBounds_toArray, List.set_cons_zero, List.set_cons_succ])) | (refine eff_pu ?_ (by rfl) (by rfl) ?_ ?_; rotate_left; (focus (intro w'; go_simp; (try with_reducible rfl); done)); (try simp only [Act.put, List.setIfInBounds_toArray, List.set_cons_zero, List.set_cons_succ])) | (refine eff_rd ?_ (by rfl) (by rfl) ?_ ?_; rotate_left; (focus (intro w' hS; (try obtain ⟨hq1, hS⟩ := hS); (try obtain ⟨hq2, hS⟩ := hS); (try obtain ⟨hq3, hS⟩ := hS); (try obtain ⟨hq4, hS⟩ := hS); (try obtain ⟨hq5, hS⟩ := hS); (try obtain ⟨hq6, hS⟩ := hS); (try obtain ⟨hq7, hS⟩ := hS); (try obtain ⟨hq8, hS⟩ := hS); (try obtain ⟨hq9, hS⟩ := hS); (try obtain ⟨hq10, hS⟩ := hS); (try obtain ⟨hq11, hS⟩ := hS); (try obtain ⟨hq12, hS⟩ := hS); (try obtain ⟨hq13, hS⟩ := hS); (try obtain ⟨hq14, hS⟩ := hS); (try obtain ⟨hq15, hS⟩ := hS); (try obtain ⟨hq16, hS⟩ := hS); (try obtain ⟨hq17, hS⟩ := hS); (try obtain ⟨hq18, hS⟩ := hS); (try obtain ⟨hq19, hS⟩ := hS); (try dsimp only at hS); go_simp; (try with_reducible rfl); done)); (try simp only [Act.put, List.setIfInBounds_toArray, List.set_cons_zero, List.set_cons_succ])))
      refine eff_run (v := .slice (some ⟨W8.heap.size, 0, none⟩) 1 1) (W' := W8.drew.alloc (.cells #[.int .i64 key.op, .int .i64 key.width, .int .u64 key.val, .string key.name, (Value.slice ka n.args.length kc)] 30)) (by rfl) (by rfl) (by go_simp) (fun _ => HS.out _ ((Fr.refl _ _).drew.alloc _)) ?_
      (try simp only [Act.put, List.setIfInBounds_toArray, List.set_cons_zero, List.set_cons_succ])
      refine eff_do (by rfl) ?_
      refine ap_nodes _ rfl _ _ rfl 0 h8.vk dn8 rfl (OwnE.step HD2.out ((Fr.refl NoB W8).drew.alloc _)) NoB _ [(key, (Value.slice ka n.args.length kc))] rfl (rdN_lit (w := W8.drew) (Fr.refl NoB _) (M8.out.key.rd.fr ((Fr.refl NoB W8).drew.alloc _) (fun _ _ h => h))) ?_ (Nat.zero_le _) ?_
      · have := HDL.out; simp only [List.length_singleton]; omega
      intro v6 W6 ho6 hg6 hb6
      obtain ⟨p6, q6, hv6⟩ := OwnE.form ho6
      obtain ⟨m6, hm6⟩ : ∃ m, (dn8 ++ [(key, (Value.slice ka n.args.length kc))]).length = m := ⟨_, rfl⟩
      rw [hm6] at hv6
      subst hv6
      clear hm6
      have f6 : Fr (fun b => h8.vk.ownBlock = some b) W8 W6 := Fr.grown ((Fr.refl _ W8).drew.alloc _) hg6 (fun k hk _ => hk)
      obtain ⟨s1, s2, s3, s4, s5, s6⟩ := HS.out W6 f6
      have fz := HFZ.out W6 f6
      have N6 := hid (AddM.pushK M8.out HD1.out HD4.out f6 ho6 (grown_own (W := W8.drew) hb6))
      refine wpList_nil ⟨rfl, fun _ => ⟨s1, s2, s3, s4, s5, s6⟩, ?_⟩
      (try simp only [Act.put, List.setIfInBounds_toArray, List.set_cons_zero, List.set_cons_succ])
      clear hg6 f6 ho6 hb6 s2 s3 s4 s5 s6
      repeat (first | (refine eff_off (by rfl) (by rfl) ?_; (try simp only [Act.put, List.setIfInBounds_toArray, List.set_cons_zero, List.set_cons_succ])) | (refine eff_off0 (by rfl) (by rfl) ?_; (try simp only [Act.put, List.setIfInBounds_toArray, List.set_cons_zero, List.set_cons_succ])) | (refine eff_pu ?_ (by rfl) (by rfl) ?_ ?_; rotate_left; (focus (intro w'; go_simp; (try with_reducible rfl); done)); (try simp only [Act.put, List.setIfInBounds_toArray, List.set_cons_zero, List.set_cons_succ])) | (refine eff_rd ?_ (by rfl) (by rfl) ?_ ?_; rotate_left; (focus (intro w' hS; (try obtain ⟨hq1, hS⟩ := hS); (try obtain ⟨hq2, hS⟩ := hS); (try obtain ⟨hq3, hS⟩ := hS); (try obtain ⟨hq4, hS⟩ := hS); (try obtain ⟨hq5, hS⟩ := hS); (try obtain ⟨hq6, hS⟩ := hS); (try obtain ⟨hq7, hS⟩ := hS); (try obtain ⟨hq8, hS⟩ := hS); (try obtain ⟨hq9, hS⟩ := hS); (try obtain ⟨hq10, hS⟩ := hS); (try obtain ⟨hq11, hS⟩ := hS); (try obtain ⟨hq12, hS⟩ := hS); (try obtain ⟨hq13, hS⟩ := hS); (try obtain ⟨hq14, hS⟩ := hS); (try obtain ⟨hq15, hS⟩ := hS); (try obtain ⟨hq16, hS⟩ := hS); (try obtain ⟨hq17, hS⟩ := hS); (try obtain ⟨hq18, hS⟩ := hS); (try obtain ⟨hq19, hS⟩ := hS); (try dsimp only at hS); go_simp; (try with_reducible rfl); done)); (try simp only [Act.put, List.setIfInBounds_toArray, List.set_cons_zero, List.set_cons_succ])))
      refine eff_skip (W' := W6.setCell ⟨bc, 2, none⟩ (.slice p6 m6 q6)) (by rfl) (by rfl) (by go_simp) (fun h => absurd rfl h) ?_
      (try simp only [Act.put, List.setIfInBounds_toArray, List.set_cons_zero, List.set_cons_succ])
      refine eff_nil ?_
      clear s1 fz HS HFZ HD1 HD2 HD4 HDL
      obtain ⟨W9, hW⟩ : ∃ W9, W6.setCell ⟨bc, 2, none⟩ (.slice p6 m6 q6) = W9 := ⟨_, rfl⟩
      obtain ⟨h9, hh⟩ : ∃ h9 : GH, ({ h8 with vk := Value.slice p6 m6 q6 } : GH) = h9 := ⟨_, rfl⟩
      obtain ⟨c9, hc⟩ : ∃ c9, paint c8 W8 W6 8 = c9 := ⟨_, rfl⟩
      obtain ⟨s9, HS9⟩ : ∃ s9 : GS, Hid (s9 = { s8 with keys := s8.keys ++ [key] }) := ⟨_, hid rfl⟩
      rw [hW, hh, hc, ← HS9.out] at N6
      rw [hW]
      have M9 := N6
      clear hW hh hc N6 M8
      obtain ⟨svs, hu⟩ := M9.out.a.g.users
      have HU := hid hu
      have HUL : Hid (s9.users.length = s.nodes.length) := by show _ = _; rw [HS9.out, HS8.out, HS7.out]; exact hz.users
      clear hu
      obtain ⟨k0, k1, k2, k3, k4, k5, k6, k7, k8, k9, k10, kf, kl⟩ := M9.out.a.g.cells
      clear k0 k1 k2 k4 k5 k6 k7 k8 k9 k10
      obtain ⟨x0, x1, x2, x3, x4, xf, xl⟩ := five_of M9.out.box.box
      clear x0 x1 x2 x3 x4 xf xl
      go_wp2_with (at_builtin; go_loud (refine ap_users _ rfl _ _ rfl h9.vu svs rfl (OwnE.step HU.out.row ((Fr.refl NoB W9).alloc _)) _ rfl (rdU_lit rfl) ?_ ?_; (have := HU.out.len; have := HUL.out; omega); intro p6 q6 W6 ho6 hg6 hb6; have f6 : Fr (fun b => h9.vu.ownBlock = some b) W9 W6 := Fr.grown ((Fr.refl _ W9).alloc _) hg6 (fun k hk _ => hk); have hh6 := M9.out.a.g.see f6 (fun b hb => by rw [HU.out.col b hb]; decide); have e3 : W6.cell? ⟨bc, 3, none⟩ = some h9.vu := cells_at hh6 3; have ef := frozen_at hh6; have N6 := hid (AddM.pushU M9.out HU.out f6 ho6 (grown_own (W := W9) hb6)); have B6 := hid (five_of N6.out.box.box); clear ho6 hg6 hb6 f6 hh6 k3 kf kl; obtain ⟨x0, x1, x2, x3, x4, xf, xl⟩ := B6.out))
      clear x0 x1 x2 x3 x4 xf xl e3 ef
      obtain ⟨W10, hW⟩ : ∃ W, W6.setCell ⟨bc, 3, none⟩ (.slice p6 (svs.length + 1) q6) = W := ⟨_, rfl⟩
      obtain ⟨h10, hh⟩ : ∃ h : GH, ({ h9 with vu := Value.slice p6 (svs.length + 1) q6 } : GH) = h := ⟨_, rfl⟩
      obtain ⟨c10, hc⟩ : ∃ c, paint c9 W9 W6 3 = c := ⟨_, rfl⟩
      obtain ⟨s10, HS10⟩ : ∃ x : GS, Hid (x = { s9 with users := s9.users ++ [[]] }) := ⟨_, hid rfl⟩
      rw [hW, hh, hc, ← HS10.out] at N6
      rw [hW]
      have HUL10 : Hid (s10.users.length = s.nodes.length + 1) := by show _ = _; rw [HS10.out]; simp only [List.length_append, List.length_singleton]; rw [HUL.out]
      have M10 := N6
      clear hW hh hc N6 M9 B6 HU HUL
      obtain ⟨id, hid9⟩ : ∃ id : Int, (s.uf.par.length : Int) = id := ⟨_, rfl⟩
      have HID := hid hid9
      rw [hid9] at HR ⊢
      clear hid9
      go_loopw [94] (fun i wr => ∃ (k : Nat) (c : Col) (hh : GH), k ≤ n.args.length ∧ i = .int .i64 k ∧ Hid (AddM c0 w bg bc n (.slice va n.args.length vc) ob (.slice oa n.args.length oc) kb key (.slice ka n.args.length kc) c wr hh { s10 with users := addUsers s10.users id (n.args.take k) })) (fun i _ => n.args.length - (intOf i).toNat)
      case atStart => exact ⟨0, c10, h10, Nat.zero_le _, rfl, M10⟩
      case round =>
        obtain ⟨k, c, hh, hk, rfl, MK⟩ := hrel
        obtain ⟨us, hus⟩ : ∃ us, addUsers s10.users id (n.args.take k) = us := ⟨_, rfl⟩
        have HUS := hid hus
        rw [hus] at MK
        have HUSL : Hid (us.length = s.nodes.length + 1) := by
          show _ = _
          rw [← hus]
          have : ∀ (l : List Int) (u : List (List Int)), (addUsers u id l).length = u.length := fun l => by
            induction l with
            | nil => intro u; rfl
            | cons a l ih => intro u; exact (ih (addUser u id a)).trans (addUser_len u id a)
          rw [this]; exact HUL10.out
        clear hus
        by_cases hlt : k < n.args.length
        · obtain ⟨ba, oa', hpp, ka⟩ := MK.out.box.rd.cellK hlt
          subst hpp
          obtain ⟨y, hy⟩ : ∃ y, n.args.getD k 0 = y := ⟨_, rfl⟩
          have hyr := HIN.out _ (getD_mem hlt)
          rw [hy] at ka hyr
          have HY := hid hy
          clear hy
          obtain ⟨yn, rfl⟩ : ∃ yn : Nat, y = yn := ⟨y.toNat, by omega⟩
          have hyn : yn < us.length := by have := HUSL.out; omega
          obtain ⟨gb, gcap, rp, rq, hvu, hcell, hrow, hrc, hcont⟩ := MK.out.a.g.look (a := yn) hyn
          simp only at hvu hcell hrow hrc hcont
          obtain ⟨L, hL⟩ : ∃ L, us.getD yn [] = L := ⟨_, rfl⟩
          rw [hL] at hcell hrow hrc hcont
          have HL := hid hL
          have HCO := hid hcont
          have HRO := hid hrow
          have HRC := hid hrc
          have HVU := hid hvu
          have k3 : wr.cell? ⟨bc, 3, none⟩ = some hh.vu := cells_at MK.out.a.g.head 3
          rw [hvu] at k3
          have kl := MK.out.a.g.lb
          have HC9 := hid hcell
          have kz : wr.frozen? ⟨gb, yn, none⟩ = false := by
            have := (hcont wr (.slice rp L.length rq) L (Fr.refl _ _) hrow (.inl rfl)).1
            exact this
          clear hL hcont hrow hrc hvu kz
          have HLL : Hid (L.length ≤ 2000000) := by
            show _ ≤ _
            have h1 := addUsers_rows id (n.args.take k) s10.users 1000000 (fun l hl => by
              rw [HS10.out] at hl
              rcases List.mem_append.1 hl with h2 | h2
              · rw [HS9.out, HS8.out, HS7.out] at h2; exact hz.rows l h2
              · obtain rfl := List.mem_singleton.1 h2; exact Nat.zero_le _)
            rw [HUS.out] at h1
            have h2 := h1 L (by rw [← HL.out, List.getD_eq_getElem?_getD, List.getElem?_eq_getElem hyn]; exact List.getElem_mem _)
            rw [List.length_take] at h2
            omega
          have HLK : Hid (∀ w', Fr (fun b => (Value.slice rp L.length rq).ownBlock = some b) wr w' → w'.cell? ⟨gb, yn, none⟩ = some (.slice rp L.length rq)) := fun w' hf => by
            obtain ⟨svs9, u9⟩ := MK.out.a.g.users
            obtain ⟨cur, hcur⟩ := OwnE.head u9.row (b := gb) (by rw [HVU.out]; rfl)
            have hne : ¬ (Value.slice rp L.length rq).ownBlock = some gb := fun e => by
              obtain ⟨cur', hc'⟩ := HRO.out.head e
              exact ne_of_types hc' hcur (by decide) rfl
            rw [hf.cell (p := ⟨gb, yn, none⟩) (Array.getElem?_eq_some_iff.1 hcur).1 hne]
            exact HC9.out
          by_cases hL0 : L.length = 0
          · have hb0 : ((L.length : Int) == 0) = true := by simp [hL0]
            have HLn : Hid (L = []) := List.eq_nil_of_length_eq_zero hL0
            clear hL0
            have HST : Hid (addUsers s10.users id (n.args.take (k + 1)) = us.set yn (L ++ [id])) := by
              show _ = _
              rw [addUsers_snoc _ _ hlt, HUS.out, HY.out]
              unfold addUser
              rw [Int.toNat_natCast, HL.out, if_neg (by rw [HLn.out]; simp)]
            have HS : Hid (∀ w', Fr (fun b => (Value.slice rp L.length rq).ownBlock = some b) wr w' → w'.cell? ⟨bc, 3, none⟩ = some (.slice (some ⟨gb, 0, none⟩) us.length gcap) ∧ w'.cell? ⟨gb, yn, none⟩ = some (.slice rp L.length rq)) := fun w' hf => by
              have e3 : w'.cell? ⟨bc, 3, none⟩ = some hh.vu := cells_at (MK.out.a.g.see hf (fun b hb => by rw [HRC.out b hb]; decide)) 3
              rw [HVU.out] at e3
              exact ⟨e3, (HLK.out w' hf)⟩
            go_wp2
            refine region_eff (fun w' => w'.cell? ⟨bc, 3, none⟩ = some (.slice (some ⟨gb, 0, none⟩) us.length gcap) ∧ w'.cell? ⟨gb, yn, none⟩ = some (.slice rp L.length rq)) 16 [(0, 1), (1, 1), (2, 1), (3, 0), (4, 1), (5, 1), (6, 1), (7, 1), (8, 0), (9, 1), (10, 1), (11, 0), (12, 1), (13, 2), (14, 2), (15, 1), (16, 2)] (by kernel_rfl) (by kernel_rfl) ?_ ?_
            · exact HS.out wr.drew (Fr.refl _ _).drew
            repeat (first | (refine eff_off (by rfl) (by rfl) ?_; (try simp only [Act.put, List.setIfInBounds_toArray, List.set_cons_zero, List.set_cons_succ])) | (refine eff_off0 (by rfl) (by rfl) ?_; (try simp only [Act.put, List.setIfInBounds_toArray, List.set_cons_zero, List.set_cons_succ])) | (refine eff_pu ?_ (by rfl) (by rfl) ?_ ?_; rotate_left; (focus (intro w'; go_simp; (try with_reducible rfl); done)); (try simp only [Act.put, List.setIfInBounds_toArray, List.set_cons_zero, List.set_cons_succ])) | (refine eff_rd ?_ (by rfl) (by rfl) ?_ ?_; rotate_left; (focus (intro w' hS; (try obtain ⟨hq1, hS⟩ := hS); (try obtain ⟨hq2, hS⟩ := hS); (try obtain ⟨hq3, hS⟩ := hS); (try obtain ⟨hq4, hS⟩ := hS); (try obtain ⟨hq5, hS⟩ := hS); (try obtain ⟨hq6, hS⟩ := hS); (try obtain ⟨hq7, hS⟩ := hS); (try obtain ⟨hq8, hS⟩ := hS); (try obtain ⟨hq9, hS⟩ := hS); (try obtain ⟨hq10, hS⟩ := hS); (try obtain ⟨hq11, hS⟩ := hS); (try obtain ⟨hq12, hS⟩ := hS); (try obtain ⟨hq13, hS⟩ := hS); (try obtain ⟨hq14, hS⟩ := hS); (try obtain ⟨hq15, hS⟩ := hS); (try obtain ⟨hq16, hS⟩ := hS); (try obtain ⟨hq17, hS⟩ := hS); (try obtain ⟨hq18, hS⟩ := hS); (try obtain ⟨hq19, hS⟩ := hS); (try dsimp only at hS); go_simp; (try with_reducible rfl); done)); (try simp only [Act.put, List.setIfInBounds_toArray, List.set_cons_zero, List.set_cons_succ])))
            refine eff_run (v := .slice (some ⟨wr.heap.size, 0, none⟩) 1 1) (W' := wr.drew.alloc (.cells #[.int .i64 id] 3)) (by rfl) (by rfl) (by go_simp) (fun _ => HS.out _ ((Fr.refl _ _).drew.alloc _)) ?_
            (try simp only [Act.put, List.setIfInBounds_toArray, List.set_cons_zero, List.set_cons_succ])
            refine eff_do (by rfl) ?_
            refine ap_ints_at _ rfl _ _ rfl 0 (.slice rp L.length rq) L rfl (OwnI.fr HRO.out ((Fr.refl NoB wr).drew.alloc _) (fun _ _ h => h)) NoB _ [id] rfl (rdI_lit' (l := [id]) rfl rfl rfl (fun h => h)) ?_ (Nat.zero_le _) ?_
            · have := HLL.out; simp only [List.length_singleton]; omega
            intro v6 W6 ho6 hg6 hb6
            have f6 : Fr (fun b => (Value.slice rp L.length rq).ownBlock = some b) wr W6 := Fr.grown ((Fr.refl _ wr).drew.alloc _) hg6 (fun k hk _ => hk)
            obtain ⟨s1, s2⟩ := HS.out W6 f6
            obtain ⟨t1, t2, t3, t4⟩ := HCO.out W6 v6 (L ++ [id]) f6 ho6 (grown_own (W := wr.drew) hb6)
            have N6 := hid (MK.out.addU t3 t4)
            obtain ⟨p6, q6, hv6⟩ := ho6.form
            obtain ⟨m6, hm6⟩ : ∃ m, (L ++ [id]).length = m := ⟨_, rfl⟩
            rw [hm6] at hv6
            subst hv6
            refine wpList_nil ⟨rfl, fun _ => ⟨s1, s2⟩, ?_⟩
            (try simp only [Act.put, List.setIfInBounds_toArray, List.set_cons_zero, List.set_cons_succ])
            clear hg6 f6 ho6 hb6 s1 t2 t3 t4 hm6
            repeat (first | (refine eff_off (by rfl) (by rfl) ?_; (try simp only [Act.put, List.setIfInBounds_toArray, List.set_cons_zero, List.set_cons_succ])) | (refine eff_off0 (by rfl) (by rfl) ?_; (try simp only [Act.put, List.setIfInBounds_toArray, List.set_cons_zero, List.set_cons_succ])) | (refine eff_pu ?_ (by rfl) (by rfl) ?_ ?_; rotate_left; (focus (intro w'; go_simp; (try with_reducible rfl); done)); (try simp only [Act.put, List.setIfInBounds_toArray, List.set_cons_zero, List.set_cons_succ])) | (refine eff_rd ?_ (by rfl) (by rfl) ?_ ?_; rotate_left; (focus (intro w' hS; (try obtain ⟨hq1, hS⟩ := hS); (try obtain ⟨hq2, hS⟩ := hS); (try obtain ⟨hq3, hS⟩ := hS); (try obtain ⟨hq4, hS⟩ := hS); (try obtain ⟨hq5, hS⟩ := hS); (try obtain ⟨hq6, hS⟩ := hS); (try obtain ⟨hq7, hS⟩ := hS); (try obtain ⟨hq8, hS⟩ := hS); (try obtain ⟨hq9, hS⟩ := hS); (try obtain ⟨hq10, hS⟩ := hS); (try obtain ⟨hq11, hS⟩ := hS); (try obtain ⟨hq12, hS⟩ := hS); (try obtain ⟨hq13, hS⟩ := hS); (try obtain ⟨hq14, hS⟩ := hS); (try obtain ⟨hq15, hS⟩ := hS); (try obtain ⟨hq16, hS⟩ := hS); (try obtain ⟨hq17, hS⟩ := hS); (try obtain ⟨hq18, hS⟩ := hS); (try obtain ⟨hq19, hS⟩ := hS); (try dsimp only at hS); go_simp; (try with_reducible rfl); done)); (try simp only [Act.put, List.setIfInBounds_toArray, List.set_cons_zero, List.set_cons_succ])))
            refine eff_skip (W' := W6.setCell ⟨gb, yn, none⟩ (.slice p6 m6 q6)) (by rfl) (by rfl) (by go_simp) (fun h => absurd rfl h) ?_
            (try simp only [Act.put, List.setIfInBounds_toArray, List.set_cons_zero, List.set_cons_succ])
            refine eff_nil ?_
            clear s2 t1
            go_wp2
            go_roundw
            case rel => exact ⟨k + 1, _, hh, by omega, by go_num, by rw [HST.out]; exact N6⟩
            case measure => simp [intOf]; omega
          · obtain ⟨m, hm⟩ : ∃ m, L.length = m + 1 := ⟨L.length - 1, by omega⟩
            have hlast := last_at hm
            obtain ⟨z, hzl⟩ : ∃ z, L.getD m 0 = z := ⟨_, rfl⟩
            rw [hzl] at hlast
            have HLA := hid hlast
            obtain ⟨rb, hrs⟩ : ∃ rb, rp = some ⟨rb, 0, none⟩ := by
              rcases HRO.out.form' with ⟨_, h2⟩ | ⟨g, cap, h3, _⟩
              · rw [h2] at hL0; exact absurd rfl hL0
              · cases h3; exact ⟨g, rfl⟩
            subst hrs
            have cz := HRO.out.cell (i := m) (by omega)
            rw [hzl] at cz
            have hb0 : ((L.length : Int) == 0) = false := beq_eq_false_iff_ne.2 (by omega)
            have hLb : L.length ≤ 2000000 := HLL.out
            have hm1 : ((L.length : Int) - 1) = (m : Int) := by omega
            have hlm : (m : Int) < (L.length : Int) := by omega
            have hlm2 : m < L.length := by omega
            have HM := hid hm
            clear hzl hlast hm hL0
            by_cases hzi : z = id
            · have hb1 : (z == id) = true := by simp [hzi]
              have HST : Hid (addUsers s10.users id (n.args.take (k + 1)) = us) := by
                show _ = _
                rw [addUsers_snoc _ _ hlt, HUS.out, HY.out]
                unfold addUser
                rw [Int.toNat_natCast, HL.out, if_pos (by rw [HLA.out, hzi])]
              subst hzi
              go_wp2
              go_roundw
              case rel => exact ⟨k + 1, _, hh, by omega, by go_num, by rw [HST.out]; exact MK⟩
              case measure => simp [intOf]; omega
            · have hb1 : (z == id) = false := by simpa using hzi
              have HZI := hid hzi
              clear hzi
              have hz1 : (z != id) = true := by simpa using HZI.out
              have HST : Hid (addUsers s10.users id (n.args.take (k + 1)) = us.set yn (L ++ [id])) := by
                show _ = _
                rw [addUsers_snoc _ _ hlt, HUS.out, HY.out]
                unfold addUser
                rw [Int.toNat_natCast, HL.out, if_neg (by rw [HLA.out]; intro e; cases e; exact HZI.out rfl)]
              have HS : Hid (∀ w', Fr (fun b => (Value.slice (some ⟨rb, 0, none⟩) L.length rq).ownBlock = some b) wr w' → w'.cell? ⟨bc, 3, none⟩ = some (.slice (some ⟨gb, 0, none⟩) us.length gcap) ∧ w'.cell? ⟨gb, yn, none⟩ = some (.slice (some ⟨rb, 0, none⟩) L.length rq)) := fun w' hf => by
                have e3 : w'.cell? ⟨bc, 3, none⟩ = some hh.vu := cells_at (MK.out.a.g.see hf (fun b hb => by rw [HRC.out b hb]; decide)) 3
                rw [HVU.out] at e3
                exact ⟨e3, (HLK.out w' hf)⟩
              go_wp2
              refine region_eff (fun w' => w'.cell? ⟨bc, 3, none⟩ = some (.slice (some ⟨gb, 0, none⟩) us.length gcap) ∧ w'.cell? ⟨gb, yn, none⟩ = some (.slice (some ⟨rb, 0, none⟩) L.length rq)) 16 [(0, 1), (1, 1), (2, 1), (3, 0), (4, 1), (5, 1), (6, 1), (7, 1), (8, 0), (9, 1), (10, 1), (11, 0), (12, 1), (13, 2), (14, 2), (15, 1), (16, 2)] (by kernel_rfl) (by kernel_rfl) ?_ ?_
              · exact HS.out wr.drew (Fr.refl _ _).drew
              repeat (first | (refine eff_off (by rfl) (by rfl) ?_; (try simp only [Act.put, List.setIfInBounds_toArray, List.set_cons_zero, List.set_cons_succ])) | (refine eff_off0 (by rfl) (by rfl) ?_; (try simp only [Act.put, List.setIfInBounds_toArray, List.set_cons_zero, List.set_cons_succ])) | (refine eff_pu ?_ (by rfl) (by rfl) ?_ ?_; rotate_left; (focus (intro w'; go_simp; (try with_reducible rfl); done)); (try simp only [Act.put, List.setIfInBounds_toArray, List.set_cons_zero, List.set_cons_succ])) | (refine eff_rd ?_ (by rfl) (by rfl) ?_ ?_; rotate_left; (focus (intro w' hS; (try obtain ⟨hq1, hS⟩ := hS); (try obtain ⟨hq2, hS⟩ := hS); (try obtain ⟨hq3, hS⟩ := hS); (try obtain ⟨hq4, hS⟩ := hS); (try obtain ⟨hq5, hS⟩ := hS); (try obtain ⟨hq6, hS⟩ := hS); (try obtain ⟨hq7, hS⟩ := hS); (try obtain ⟨hq8, hS⟩ := hS); (try obtain ⟨hq9, hS⟩ := hS); (try obtain ⟨hq10, hS⟩ := hS); (try obtain ⟨hq11, hS⟩ := hS); (try obtain ⟨hq12, hS⟩ := hS); (try obtain ⟨hq13, hS⟩ := hS); (try obtain ⟨hq14, hS⟩ := hS); (try obtain ⟨hq15, hS⟩ := hS); (try obtain ⟨hq16, hS⟩ := hS); (try obtain ⟨hq17, hS⟩ := hS); (try obtain ⟨hq18, hS⟩ := hS); (try obtain ⟨hq19, hS⟩ := hS); (try dsimp only at hS); go_simp; (try with_reducible rfl); done)); (try simp only [Act.put, List.setIfInBounds_toArray, List.set_cons_zero, List.set_cons_succ])))
              refine eff_run (v := .slice (some ⟨wr.heap.size, 0, none⟩) 1 1) (W' := wr.drew.alloc (.cells #[.int .i64 id] 3)) (by rfl) (by rfl) (by go_simp) (fun _ => HS.out _ ((Fr.refl _ _).drew.alloc _)) ?_
              (try simp only [Act.put, List.setIfInBounds_toArray, List.set_cons_zero, List.set_cons_succ])
              refine eff_do (by rfl) ?_
              refine ap_ints_at _ rfl _ _ rfl 0 (.slice (some ⟨rb, 0, none⟩) L.length rq) L rfl (OwnI.fr HRO.out ((Fr.refl NoB wr).drew.alloc _) (fun _ _ h => h)) NoB _ [id] rfl (rdI_lit' (l := [id]) rfl rfl rfl (fun h => h)) ?_ (Nat.zero_le _) ?_
              · have := HLL.out; simp only [List.length_singleton]; omega
              intro v6 W6 ho6 hg6 hb6
              have f6 : Fr (fun b => (Value.slice (some ⟨rb, 0, none⟩) L.length rq).ownBlock = some b) wr W6 := Fr.grown ((Fr.refl _ wr).drew.alloc _) hg6 (fun k hk _ => hk)
              obtain ⟨s1, s2⟩ := HS.out W6 f6
              obtain ⟨t1, t2, t3, t4⟩ := HCO.out W6 v6 (L ++ [id]) f6 ho6 (grown_own (W := wr.drew) hb6)
              have N6 := hid (MK.out.addU t3 t4)
              obtain ⟨p6, q6, hv6⟩ := ho6.form
              obtain ⟨m6, hm6⟩ : ∃ m, (L ++ [id]).length = m := ⟨_, rfl⟩
              rw [hm6] at hv6
              subst hv6
              refine wpList_nil ⟨rfl, fun _ => ⟨s1, s2⟩, ?_⟩
              (try simp only [Act.put, List.setIfInBounds_toArray, List.set_cons_zero, List.set_cons_succ])
              clear hg6 f6 ho6 hb6 s1 t2 t3 t4 hm6
              repeat (first | (refine eff_off (by rfl) (by rfl) ?_; (try simp only [Act.put, List.setIfInBounds_toArray, List.set_cons_zero, List.set_cons_succ])) | (refine eff_off0 (by rfl) (by rfl) ?_; (try simp only [Act.put, List.setIfInBounds_toArray, List.set_cons_zero, List.set_cons_succ])) | (refine eff_pu ?_ (by rfl) (by rfl) ?_ ?_; rotate_left; (focus (intro w'; go_simp; (try with_reducible rfl); done)); (try simp only [Act.put, List.setIfInBounds_toArray, List.set_cons_zero, List.set_cons_succ])) | (refine eff_rd ?_ (by rfl) (by rfl) ?_ ?_; rotate_left; (focus (intro w' hS; (try obtain ⟨hq1, hS⟩ := hS); (try obtain ⟨hq2, hS⟩ := hS); (try obtain ⟨hq3, hS⟩ := hS); (try obtain ⟨hq4, hS⟩ := hS); (try obtain ⟨hq5, hS⟩ := hS); (try obtain ⟨hq6, hS⟩ := hS); (try obtain ⟨hq7, hS⟩ := hS); (try obtain ⟨hq8, hS⟩ := hS); (try obtain ⟨hq9, hS⟩ := hS); (try obtain ⟨hq10, hS⟩ := hS); (try obtain ⟨hq11, hS⟩ := hS); (try obtain ⟨hq12, hS⟩ := hS); (try obtain ⟨hq13, hS⟩ := hS); (try obtain ⟨hq14, hS⟩ := hS); (try obtain ⟨hq15, hS⟩ := hS); (try obtain ⟨hq16, hS⟩ := hS); (try obtain ⟨hq17, hS⟩ := hS); (try obtain ⟨hq18, hS⟩ := hS); (try obtain ⟨hq19, hS⟩ := hS); (try dsimp only at hS); go_simp; (try with_reducible rfl); done)); (try simp only [Act.put, List.setIfInBounds_toArray, List.set_cons_zero, List.set_cons_succ])))
              refine eff_skip (W' := W6.setCell ⟨gb, yn, none⟩ (.slice p6 m6 q6)) (by rfl) (by rfl) (by go_simp) (fun h => absurd rfl h) ?_
              (try simp only [Act.put, List.setIfInBounds_toArray, List.set_cons_zero, List.set_cons_succ])
              refine eff_nil ?_
              clear s2 t1
              go_wp2
              go_roundw
              case rel => exact ⟨k + 1, _, hh, by omega, by go_num, by rw [HST.out]; exact N6⟩
              case measure => simp [intOf]; omega
        · obtain rfl : k = n.args.length := by omega
          obtain ⟨h12, hh12⟩ : ∃ h, hh = h := ⟨_, rfl⟩
          rw [hh12] at MK
          clear hh12
          obtain ⟨s11, HS11⟩ : ∃ x : GS, Hid (x = { s10 with users := us }) := ⟨_, hid rfl⟩
          rw [← HS11.out] at MK
          have HX11 : Hid (tgetS s11.exact n = none) := by show _ = _; rw [HS11.out, HS10.out, HS9.out, HS8.out, HS7.out]; exact hxo.out
          have kl := MK.out.a.g.lb
          have obl := (Array.getElem?_eq_some_iff.1 MK.out.own.box).1
          have HS : Hid (∀ w', Fr NoB wr w' → w'.cell? ⟨bc, 4, none⟩ = some (.pointer (some ⟨h12.be, 0, none⟩)) ∧ w'.cell? ⟨ob, 0, none⟩ = some (.int .i64 n.op) ∧ w'.cell? ⟨ob, 1, none⟩ = some (.int .i64 n.width) ∧ w'.cell? ⟨ob, 2, none⟩ = some (.int .u64 n.val) ∧ w'.cell? ⟨ob, 3, none⟩ = some (.string n.name) ∧ w'.cell? ⟨ob, 4, none⟩ = some (Value.slice oa n.args.length oc)) := fun w' hf => by
            obtain ⟨x0, x1, x2, x3, x4⟩ := MK.out.own.see hf (fun b hb => hb.elim)
            exact ⟨cells_at (MK.out.a.g.see hf (fun b hb => hb.elim)) 4, x0, x1, x2, x3, x4⟩
          go_wp2
          refine region_eff (fun w' => w'.cell? ⟨bc, 4, none⟩ = some (.pointer (some ⟨h12.be, 0, none⟩)) ∧ w'.cell? ⟨ob, 0, none⟩ = some (.int .i64 n.op) ∧ w'.cell? ⟨ob, 1, none⟩ = some (.int .i64 n.width) ∧ w'.cell? ⟨ob, 2, none⟩ = some (.int .u64 n.val) ∧ w'.cell? ⟨ob, 3, none⟩ = some (.string n.name) ∧ w'.cell? ⟨ob, 4, none⟩ = some (Value.slice oa n.args.length oc)) 6 [(0, 1), (1, 1), (2, 1), (3, 0), (4, 0), (5, 1), (6, 2)] (by kernel_rfl) (by kernel_rfl) ?_ ?_
          · exact HS.out wr.drew (Fr.refl _ _).drew
          repeat (first | (refine eff_off (by rfl) (by rfl) ?_; (try simp only [Act.put, List.setIfInBounds_toArray, List.set_cons_zero, List.set_cons_succ])) | (refine eff_off0 (by rfl) (by rfl) ?_; (try simp only [Act.put, List.setIfInBounds_toArray, List.set_cons_zero, List.set_cons_succ])) | (refine eff_pu ?_ (by rfl) (by rfl) ?_ ?_; rotate_left; (focus (intro w'; go_simp; (try with_reducible rfl); done)); (try simp only [Act.put, List.setIfInBounds_toArray, List.set_cons_zero, List.set_cons_succ])) | (refine eff_rd ?_ (by rfl) (by rfl) ?_ ?_; rotate_left; (focus (intro w' hS; (try obtain ⟨hq1, hS⟩ := hS); (try obtain ⟨hq2, hS⟩ := hS); (try obtain ⟨hq3, hS⟩ := hS); (try obtain ⟨hq4, hS⟩ := hS); (try obtain ⟨hq5, hS⟩ := hS); (try obtain ⟨hq6, hS⟩ := hS); (try obtain ⟨hq7, hS⟩ := hS); (try obtain ⟨hq8, hS⟩ := hS); (try obtain ⟨hq9, hS⟩ := hS); (try obtain ⟨hq10, hS⟩ := hS); (try obtain ⟨hq11, hS⟩ := hS); (try obtain ⟨hq12, hS⟩ := hS); (try obtain ⟨hq13, hS⟩ := hS); (try obtain ⟨hq14, hS⟩ := hS); (try obtain ⟨hq15, hS⟩ := hS); (try obtain ⟨hq16, hS⟩ := hS); (try obtain ⟨hq17, hS⟩ := hS); (try obtain ⟨hq18, hS⟩ := hS); (try obtain ⟨hq19, hS⟩ := hS); (try dsimp only at hS); go_simp; (try with_reducible rfl); done)); (try simp only [Act.put, List.setIfInBounds_toArray, List.set_cons_zero, List.set_cons_succ])))
          refine eff_call 32 #[.pointer (some ⟨h12.be, 0, none⟩), nodeV n (Value.slice oa n.args.length oc), .int .i64 id] (by rfl) (by rfl) (by intro w'; go_simp) ?_
          refine ((MK.out.quiet (Fr.refl NoB wr).drew).a.putX_any n (Value.slice oa n.args.length oc) id ((MK.out.quiet (Fr.refl NoB wr).drew).own.rd) hok hsm (by exact HX11.out)).mono ?_
          rintro e w12 ⟨rfl, ht⟩
          obtain ⟨c12, N12⟩ := (MK.out.quiet (Fr.refl NoB wr).drew).to ht
          have M12 := hid N12
          refine ⟨_, rfl, fun h => absurd rfl h, ?_⟩
          (try simp only [Act.put, List.setIfInBounds_toArray, List.set_cons_zero, List.set_cons_succ])
          refine eff_nil ?_
          clear ht N12 HS
          obtain ⟨s12, HS12⟩ : ∃ x : GS, Hid (x = { s11 with exact := s11.exact ++ [(n, id)] }) := ⟨_, hid rfl⟩
          rw [← HS12.out] at M12
          clear HX11 MK kl obl
          obtain ⟨x0, x1, x2, x3, x4, xf, xl⟩ := five_of M12.out.box.box
          by_cases hop : n.op = 1
          · have hopb : (n.op == 1) = true := by simp [hop]
            have HOP := hid hop
            clear x2 x4 xf
            have HS' : Hid (∀ w', Fr NoB w12 w' → w'.cell? ⟨bc, 7, none⟩ = some (.map (some h12.bv)) ∧ w'.cell? ⟨w.heap.size, 1, none⟩ = some (.int .i64 n.width) ∧ w'.cell? ⟨w.heap.size, 3, none⟩ = some (.string n.name)) := fun w' hf => by
              obtain ⟨x0, x1, x2, x3, x4, _, _⟩ := five_of (M12.out.box.quiet hf).box
              exact ⟨cells_at (M12.out.a.g.see hf (fun b hb => hb.elim)) 7, x1, x3⟩
            go_wp2
            refine region_eff (fun w' => w'.cell? ⟨bc, 7, none⟩ = some (.map (some h12.bv)) ∧ w'.cell? ⟨w.heap.size, 1, none⟩ = some (.int .i64 n.width) ∧ w'.cell? ⟨w.heap.size, 3, none⟩ = some (.string n.name)) 8 [(0, 1), (1, 1), (2, 1), (3, 0), (4, 1), (5, 0), (6, 1), (7, 0), (8, 2)] (by kernel_rfl) (by kernel_rfl) ?_ ?_
            · exact HS'.out w12.drew (Fr.refl _ _).drew
            repeat (first | (refine eff_off (by rfl) (by rfl) ?_; (try simp only [Act.put, List.setIfInBounds_toArray, List.set_cons_zero, List.set_cons_succ])) | (refine eff_off0 (by rfl) (by rfl) ?_; (try simp only [Act.put, List.setIfInBounds_toArray, List.set_cons_zero, List.set_cons_succ])) | (refine eff_pu ?_ (by rfl) (by rfl) ?_ ?_; rotate_left; (focus (intro w'; go_simp; (try with_reducible rfl); done)); (try simp only [Act.put, List.setIfInBounds_toArray, List.set_cons_zero, List.set_cons_succ])) | (refine eff_rd ?_ (by rfl) (by rfl) ?_ ?_; rotate_left; (focus (intro w' hS; (try obtain ⟨hq1, hS⟩ := hS); (try obtain ⟨hq2, hS⟩ := hS); (try obtain ⟨hq3, hS⟩ := hS); (try obtain ⟨hq4, hS⟩ := hS); (try obtain ⟨hq5, hS⟩ := hS); (try obtain ⟨hq6, hS⟩ := hS); (try obtain ⟨hq7, hS⟩ := hS); (try obtain ⟨hq8, hS⟩ := hS); (try obtain ⟨hq9, hS⟩ := hS); (try obtain ⟨hq10, hS⟩ := hS); (try obtain ⟨hq11, hS⟩ := hS); (try obtain ⟨hq12, hS⟩ := hS); (try obtain ⟨hq13, hS⟩ := hS); (try obtain ⟨hq14, hS⟩ := hS); (try obtain ⟨hq15, hS⟩ := hS); (try obtain ⟨hq16, hS⟩ := hS); (try obtain ⟨hq17, hS⟩ := hS); (try obtain ⟨hq18, hS⟩ := hS); (try obtain ⟨hq19, hS⟩ := hS); (try dsimp only at hS); go_simp; (try with_reducible rfl); done)); (try simp only [Act.put, List.setIfInBounds_toArray, List.set_cons_zero, List.set_cons_succ])))
            obtain ⟨w13, e1, e2⟩ := (M12.out.quiet (Fr.refl NoB w12).drew).putV n.name n.width
            have N13 := hid e2
            refine eff_skip (W' := w13) (by rfl) (by rfl) (by go_simp) (fun h => absurd rfl h) ?_
            (try simp only [Act.put, List.setIfInBounds_toArray, List.set_cons_zero, List.set_cons_succ])
            refine eff_nil ?_
            clear e1 e2 HS' M12
            obtain ⟨s13, HS13⟩ : ∃ x : GS, Hid (x = { s12 with vars := vput s12.vars n.name n.width }) := ⟨_, hid rfl⟩
            rw [← HS13.out] at N13
            have M13 := N13
            clear N13
            have HADD : Hid (addIn s n = s13) := by
              show _ = _
              rw [HS13.out, HS12.out, HS11.out, ← HUS.out, List.take_length, HS10.out, HS9.out, HS8.out, HKEY.out, HS7.out]
              unfold addIn
              simp only [HID.out, if_pos HOP.out]
            obtain ⟨xt, hxt⟩ : ∃ xt, Hid (tgetS s13.table key = xt) := ⟨_, hid rfl⟩
            have HUF : Hid (s13.uf.tr.length < 3000000 ∧ s13.links.length ≤ 1000000) := by
              show _ ∧ _
              rw [← HADD.out]
              have h1 := hz.tr
              have h2 := hz.links
              refine ⟨?_, h2⟩
              show (s.uf.tr ++ [(true, (s.uf.par.length : Int))]).length < 3000000
              rw [List.length_append, List.length_singleton]; omega
            have CG2 : Hid (∀ W, Fr NoB w13 W → Calls Tryz.prog 27 #[.pointer (some ⟨h12.bt, 0, none⟩), nodeV key (.slice ka n.args.length kc)] W fun e w' => e = .returned (.tuple #[.int .i64 (xt.getD 0), .bool xt.isSome]) ∧ Fr NoB w13 w') := fun W hW => by
              refine ((M13.out.quiet hW).a.g.table.get_any key (.slice ka n.args.length kc) (M13.out.quiet hW).key.rd HPK.out.1 HPK.out.2 (M13.out.quiet hW).a.tab).mono ?_
              rintro e w' ⟨rfl, hf⟩
              rw [hxt.out]
              exact ⟨rfl, hW.step hf⟩
            obtain ⟨k0, k1, k2, k3, k4, k5, k6, k7, k8, k9, k10, kf, kl⟩ := M13.out.a.g.cells
            clear k0 k1 k2 k3 k4 k6 k7 k8 k9 k10 kf
            obtain ⟨y0, y1, y2, y3, y4, yf, yl⟩ := five_of M13.out.key.box
            go_wp2
            refine region_txt (Fr NoB _) (by kernel_rfl) (by kernel_rfl) ((Fr.refl NoB _).drew) ?_
            repeat (first | (refine txt_off (by rfl) ?_; (try simp only [Act.put, List.setIfInBounds_toArray, List.set_cons_zero, List.set_cons_succ])) | (refine txt_read ?_ (by rfl) ?_ ?_; rotate_left; (focus (intro W hW; have hWc := Fr.cq hW; clear hW; go_simp; (try with_reducible rfl); done)); (try simp only [Act.put, List.setIfInBounds_toArray, List.set_cons_zero, List.set_cons_succ])))
            (refine txt_call (.tuple #[.int .i64 (xt.getD 0), .bool xt.isSome]) ?_ ?_ (by rfl) ?_ ?_ ?_; rotate_left; rotate_left; (focus (intro W; go_simp; (first | done | (refine And.intro ?_ ?_ <;> with_reducible rfl) | with_reducible rfl); done)); (focus (exact (fun W hW => CG2.out W hW))); (try simp only [Act.put, List.setIfInBounds_toArray, List.set_cons_zero, List.set_cons_succ]))
            repeat (first | (refine txt_off (by rfl) ?_; (try simp only [Act.put, List.setIfInBounds_toArray, List.set_cons_zero, List.set_cons_succ])) | (refine txt_read ?_ (by rfl) ?_ ?_; rotate_left; (focus (intro W hW; have hWc := Fr.cq hW; clear hW; go_simp; (try with_reducible rfl); done)); (try simp only [Act.put, List.setIfInBounds_toArray, List.set_cons_zero, List.set_cons_succ])))
            refine txt_nil ?_
            intro w14 hW
            have M14 := hid (M13.out.quiet hW)
            clear hW k5 kl y0 y1 y2 y3 y4 yf yl CG2 M13
            cases xt with
            | some other =>
              simp only [Option.getD_some, Option.isSome_some]
              obtain ⟨k0, k1, k2, k3, k4, k5, k6, k7, k8, k9, k10, kf, kl⟩ := M14.out.a.g.cells
              clear k1 k2 k3 k4 k5 k6 k7 k8 k9 k10 kf
              go_wp2_with fail
              refine (M14.out.a.union_any other id HUF.out.1).mono ?_
              rintro e w15 ⟨rfl, ht⟩
              obtain ⟨c15, N15⟩ := M14.out.to ht
              have M15 := hid N15
              clear ht N15 M14 k0 kl
              obtain ⟨k0, k1, k2, k3, k4, k5, k6, k7, k8, k9, k10, kf, kl⟩ := M15.out.a.g.cells
              clear k0 k1 k2 k3 k4 k5 k7 k8 k9 k10 kf
              go_wp2_with fail
              refine (M15.out.a.link_any other id (-1) HUF.out.2).mono ?_
              rintro e w16 ⟨rfl, ht⟩
              obtain ⟨c16, N16⟩ := M15.out.to ht
              have M16 := hid N16
              clear ht N16 M15 k6 kl
              go_wp2
              go_ret2
              have e1 : R = (linkS { s13 with uf := (s13.uf.union other id).1 } other id (-1), id, 0) := by
                rw [HR.out]
                unfold addJoin
                rw [HADD.out]
                have hkk : canonU s.uf.make.par n = key := by rw [HKEY.out, HS7.out]
                rw [hkk, hxt.out]

              rw [e1]
              exact ⟨rfl, ⟨_, M16.out.a.done, M16.out.a.ext⟩, M16.out.a.fr⟩
            | none =>
              simp only [Option.getD_none, Option.isSome_none]
              have kl := M14.out.a.g.lb
              have obl := (Array.getElem?_eq_some_iff.1 M14.out.key.box).1
              have HS : Hid (∀ w', Fr NoB w14 w' → w'.cell? ⟨bc, 5, none⟩ = some (.pointer (some ⟨h12.bt, 0, none⟩)) ∧ w'.cell? ⟨kb, 0, none⟩ = some (.int .i64 key.op) ∧ w'.cell? ⟨kb, 1, none⟩ = some (.int .i64 key.width) ∧ w'.cell? ⟨kb, 2, none⟩ = some (.int .u64 key.val) ∧ w'.cell? ⟨kb, 3, none⟩ = some (.string key.name) ∧ w'.cell? ⟨kb, 4, none⟩ = some (Value.slice ka n.args.length kc)) := fun w' hf => by
                obtain ⟨x0, x1, x2, x3, x4⟩ := M14.out.key.see hf (fun b hb => hb.elim)
                exact ⟨cells_at (M14.out.a.g.see hf (fun b hb => hb.elim)) 5, x0, x1, x2, x3, x4⟩
              go_wp2
              refine region_eff (fun w' => w'.cell? ⟨bc, 5, none⟩ = some (.pointer (some ⟨h12.bt, 0, none⟩)) ∧ w'.cell? ⟨kb, 0, none⟩ = some (.int .i64 key.op) ∧ w'.cell? ⟨kb, 1, none⟩ = some (.int .i64 key.width) ∧ w'.cell? ⟨kb, 2, none⟩ = some (.int .u64 key.val) ∧ w'.cell? ⟨kb, 3, none⟩ = some (.string key.name) ∧ w'.cell? ⟨kb, 4, none⟩ = some (Value.slice ka n.args.length kc)) 6 [(0, 1), (1, 1), (2, 1), (3, 0), (4, 0), (5, 1), (6, 2)] (by kernel_rfl) (by kernel_rfl) ?_ ?_
              · exact HS.out w14.drew (Fr.refl _ _).drew
              repeat (first | (refine eff_off (by rfl) (by rfl) ?_; (try simp only [Act.put, List.setIfInBounds_toArray, List.set_cons_zero, List.set_cons_succ])) | (refine eff_off0 (by rfl) (by rfl) ?_; (try simp only [Act.put, List.setIfInBounds_toArray, List.set_cons_zero, List.set_cons_succ])) | (refine eff_pu ?_ (by rfl) (by rfl) ?_ ?_; rotate_left; (focus (intro w'; go_simp; (try with_reducible rfl); done)); (try simp only [Act.put, List.setIfInBounds_toArray, List.set_cons_zero, List.set_cons_succ])) | (refine eff_rd ?_ (by rfl) (by rfl) ?_ ?_; rotate_left; (focus (intro w' hS; (try obtain ⟨hq1, hS⟩ := hS); (try obtain ⟨hq2, hS⟩ := hS); (try obtain ⟨hq3, hS⟩ := hS); (try obtain ⟨hq4, hS⟩ := hS); (try obtain ⟨hq5, hS⟩ := hS); (try obtain ⟨hq6, hS⟩ := hS); (try obtain ⟨hq7, hS⟩ := hS); (try obtain ⟨hq8, hS⟩ := hS); (try obtain ⟨hq9, hS⟩ := hS); (try obtain ⟨hq10, hS⟩ := hS); (try obtain ⟨hq11, hS⟩ := hS); (try obtain ⟨hq12, hS⟩ := hS); (try obtain ⟨hq13, hS⟩ := hS); (try obtain ⟨hq14, hS⟩ := hS); (try obtain ⟨hq15, hS⟩ := hS); (try obtain ⟨hq16, hS⟩ := hS); (try obtain ⟨hq17, hS⟩ := hS); (try obtain ⟨hq18, hS⟩ := hS); (try obtain ⟨hq19, hS⟩ := hS); (try dsimp only at hS); go_simp; (try with_reducible rfl); done)); (try simp only [Act.put, List.setIfInBounds_toArray, List.set_cons_zero, List.set_cons_succ])))
              refine eff_call 32 #[.pointer (some ⟨h12.bt, 0, none⟩), nodeV key (Value.slice ka n.args.length kc), .int .i64 id] (by rfl) (by rfl) (by intro w'; go_simp) ?_
              refine ((M14.out.quiet (Fr.refl NoB w14).drew).a.putT_any key (Value.slice ka n.args.length kc) id ((M14.out.quiet (Fr.refl NoB w14).drew).key.rd) HPK.out.1 HPK.out.2 (by exact hxt.out)).mono ?_
              rintro e w9 ⟨rfl, ht⟩
              obtain ⟨c15, N15⟩ := (M14.out.quiet (Fr.refl NoB w14).drew).to ht
              have M15 := hid N15
              refine ⟨_, rfl, fun h => absurd rfl h, ?_⟩
              (try simp only [Act.put, List.setIfInBounds_toArray, List.set_cons_zero, List.set_cons_succ])
              refine eff_nil ?_
              clear ht N15 HS kl obl M14
              go_wp2
              go_ret2
              have e1 : R = ({ s13 with table := s13.table ++ [(key, id)] }, id, 0) := by
                rw [HR.out]
                unfold addJoin
                rw [HADD.out]
                have hkk : canonU s.uf.make.par n = key := by rw [HKEY.out, HS7.out]
                rw [hkk, hxt.out]

              rw [e1]
              exact ⟨rfl, ⟨_, M15.out.a.done, M15.out.a.ext⟩, M15.out.a.fr⟩
          · have hopb : (n.op == 1) = false := by simpa using hop
            have HOP := hid hop
            obtain ⟨s13, HS13⟩ : ∃ x : GS, Hid (x = s12) := ⟨_, hid rfl⟩
            rw [← HS13.out] at M12
            obtain ⟨w13, hw13⟩ : ∃ w, w12 = w := ⟨_, rfl⟩
            subst hw13
            have M13 := M12
            clear M12 x1 x2 x3 x4 xf
            have HADD : Hid (addIn s n = s13) := by
              show _ = _
              rw [HS13.out, HS12.out, HS11.out, ← HUS.out, List.take_length, HS10.out, HS9.out, HS8.out, HKEY.out, HS7.out]
              unfold addIn
              simp only [HID.out, if_neg HOP.out]
            obtain ⟨xt, hxt⟩ : ∃ xt, Hid (tgetS s13.table key = xt) := ⟨_, hid rfl⟩
            have HUF : Hid (s13.uf.tr.length < 3000000 ∧ s13.links.length ≤ 1000000) := by
              show _ ∧ _
              rw [← HADD.out]
              have h1 := hz.tr
              have h2 := hz.links
              refine ⟨?_, h2⟩
              show (s.uf.tr ++ [(true, (s.uf.par.length : Int))]).length < 3000000
              rw [List.length_append, List.length_singleton]; omega
            have CG2 : Hid (∀ W, Fr NoB w12 W → Calls Tryz.prog 27 #[.pointer (some ⟨h12.bt, 0, none⟩), nodeV key (.slice ka n.args.length kc)] W fun e w' => e = .returned (.tuple #[.int .i64 (xt.getD 0), .bool xt.isSome]) ∧ Fr NoB w12 w') := fun W hW => by
              refine ((M13.out.quiet hW).a.g.table.get_any key (.slice ka n.args.length kc) (M13.out.quiet hW).key.rd HPK.out.1 HPK.out.2 (M13.out.quiet hW).a.tab).mono ?_
              rintro e w' ⟨rfl, hf⟩
              rw [hxt.out]
              exact ⟨rfl, hW.step hf⟩
            obtain ⟨k0, k1, k2, k3, k4, k5, k6, k7, k8, k9, k10, kf, kl⟩ := M13.out.a.g.cells
            clear k0 k1 k2 k3 k4 k6 k7 k8 k9 k10 kf
            obtain ⟨y0, y1, y2, y3, y4, yf, yl⟩ := five_of M13.out.key.box
            go_wp2
            refine region_txt (Fr NoB _) (by kernel_rfl) (by kernel_rfl) ((Fr.refl NoB _).drew) ?_
            repeat (first | (refine txt_off (by rfl) ?_; (try simp only [Act.put, List.setIfInBounds_toArray, List.set_cons_zero, List.set_cons_succ])) | (refine txt_read ?_ (by rfl) ?_ ?_; rotate_left; (focus (intro W hW; have hWc := Fr.cq hW; clear hW; go_simp; (try with_reducible rfl); done)); (try simp only [Act.put, List.setIfInBounds_toArray, List.set_cons_zero, List.set_cons_succ])))
            (refine txt_call (.tuple #[.int .i64 (xt.getD 0), .bool xt.isSome]) ?_ ?_ (by rfl) ?_ ?_ ?_; rotate_left; rotate_left; (focus (intro W; go_simp; (first | done | (refine And.intro ?_ ?_ <;> with_reducible rfl) | with_reducible rfl); done)); (focus (exact (fun W hW => CG2.out W hW))); (try simp only [Act.put, List.setIfInBounds_toArray, List.set_cons_zero, List.set_cons_succ]))
            repeat (first | (refine txt_off (by rfl) ?_; (try simp only [Act.put, List.setIfInBounds_toArray, List.set_cons_zero, List.set_cons_succ])) | (refine txt_read ?_ (by rfl) ?_ ?_; rotate_left; (focus (intro W hW; have hWc := Fr.cq hW; clear hW; go_simp; (try with_reducible rfl); done)); (try simp only [Act.put, List.setIfInBounds_toArray, List.set_cons_zero, List.set_cons_succ])))
            refine txt_nil ?_
            intro w14 hW
            have M14 := hid (M13.out.quiet hW)
            clear hW k5 kl y0 y1 y2 y3 y4 yf yl CG2 M13
            cases xt with
            | some other =>
              simp only [Option.getD_some, Option.isSome_some]
              obtain ⟨k0, k1, k2, k3, k4, k5, k6, k7, k8, k9, k10, kf, kl⟩ := M14.out.a.g.cells
              clear k1 k2 k3 k4 k5 k6 k7 k8 k9 k10 kf
              go_wp2_with fail
              refine (M14.out.a.union_any other id HUF.out.1).mono ?_
              rintro e w15 ⟨rfl, ht⟩
              obtain ⟨c15, N15⟩ := M14.out.to ht
              have M15 := hid N15
              clear ht N15 M14 k0 kl
              obtain ⟨k0, k1, k2, k3, k4, k5, k6, k7, k8, k9, k10, kf, kl⟩ := M15.out.a.g.cells
              clear k0 k1 k2 k3 k4 k5 k7 k8 k9 k10 kf
              go_wp2_with fail
              refine (M15.out.a.link_any other id (-1) HUF.out.2).mono ?_
              rintro e w16 ⟨rfl, ht⟩
              obtain ⟨c16, N16⟩ := M15.out.to ht
              have M16 := hid N16
              clear ht N16 M15 k6 kl
              go_wp2
              go_ret2
              have e1 : R = (linkS { s13 with uf := (s13.uf.union other id).1 } other id (-1), id, 0) := by
                rw [HR.out]
                unfold addJoin
                rw [HADD.out]
                have hkk : canonU s.uf.make.par n = key := by rw [HKEY.out, HS7.out]
                rw [hkk, hxt.out]

              rw [e1]
              exact ⟨rfl, ⟨_, M16.out.a.done, M16.out.a.ext⟩, M16.out.a.fr⟩
            | none =>
              simp only [Option.getD_none, Option.isSome_none]
              have kl := M14.out.a.g.lb
              have obl := (Array.getElem?_eq_some_iff.1 M14.out.key.box).1
              have HS : Hid (∀ w', Fr NoB w14 w' → w'.cell? ⟨bc, 5, none⟩ = some (.pointer (some ⟨h12.bt, 0, none⟩)) ∧ w'.cell? ⟨kb, 0, none⟩ = some (.int .i64 key.op) ∧ w'.cell? ⟨kb, 1, none⟩ = some (.int .i64 key.width) ∧ w'.cell? ⟨kb, 2, none⟩ = some (.int .u64 key.val) ∧ w'.cell? ⟨kb, 3, none⟩ = some (.string key.name) ∧ w'.cell? ⟨kb, 4, none⟩ = some (Value.slice ka n.args.length kc)) := fun w' hf => by
                obtain ⟨x0, x1, x2, x3, x4⟩ := M14.out.key.see hf (fun b hb => hb.elim)
                exact ⟨cells_at (M14.out.a.g.see hf (fun b hb => hb.elim)) 5, x0, x1, x2, x3, x4⟩
              go_wp2
              refine region_eff (fun w' => w'.cell? ⟨bc, 5, none⟩ = some (.pointer (some ⟨h12.bt, 0, none⟩)) ∧ w'.cell? ⟨kb, 0, none⟩ = some (.int .i64 key.op) ∧ w'.cell? ⟨kb, 1, none⟩ = some (.int .i64 key.width) ∧ w'.cell? ⟨kb, 2, none⟩ = some (.int .u64 key.val) ∧ w'.cell? ⟨kb, 3, none⟩ = some (.string key.name) ∧ w'.cell? ⟨kb, 4, none⟩ = some (Value.slice ka n.args.length kc)) 6 [(0, 1), (1, 1), (2, 1), (3, 0), (4, 0), (5, 1), (6, 2)] (by kernel_rfl) (by kernel_rfl) ?_ ?_
              · exact HS.out w14.drew (Fr.refl _ _).drew
              repeat (first | (refine eff_off (by rfl) (by rfl) ?_; (try simp only [Act.put, List.setIfInBounds_toArray, List.set_cons_zero, List.set_cons_succ])) | (refine eff_off0 (by rfl) (by rfl) ?_; (try simp only [Act.put, List.setIfInBounds_toArray, List.set_cons_zero, List.set_cons_succ])) | (refine eff_pu ?_ (by rfl) (by rfl) ?_ ?_; rotate_left; (focus (intro w'; go_simp; (try with_reducible rfl); done)); (try simp only [Act.put, List.setIfInBounds_toArray, List.set_cons_zero, List.set_cons_succ])) | (refine eff_rd ?_ (by rfl) (by rfl) ?_ ?_; rotate_left; (focus (intro w' hS; (try obtain ⟨hq1, hS⟩ := hS); (try obtain ⟨hq2, hS⟩ := hS); (try obtain ⟨hq3, hS⟩ := hS); (try obtain ⟨hq4, hS⟩ := hS); (try obtain ⟨hq5, hS⟩ := hS); (try obtain ⟨hq6, hS⟩ := hS); (try obtain ⟨hq7, hS⟩ := hS); (try obtain ⟨hq8, hS⟩ := hS); (try obtain ⟨hq9, hS⟩ := hS); (try obtain ⟨hq10, hS⟩ := hS); (try obtain ⟨hq11, hS⟩ := hS); (try obtain ⟨hq12, hS⟩ := hS); (try obtain ⟨hq13, hS⟩ := hS); (try obtain ⟨hq14, hS⟩ := hS); (try obtain ⟨hq15, hS⟩ := hS); (try obtain ⟨hq16, hS⟩ := hS); (try obtain ⟨hq17, hS⟩ := hS); (try obtain ⟨hq18, hS⟩ := hS); (try obtain ⟨hq19, hS⟩ := hS); (try dsimp only at hS); go_simp; (try with_reducible rfl); done)); (try simp only [Act.put, List.setIfInBounds_toArray, List.set_cons_zero, List.set_cons_succ])))
              refine eff_call 32 #[.pointer (some ⟨h12.bt, 0, none⟩), nodeV key (Value.slice ka n.args.length kc), .int .i64 id] (by rfl) (by rfl) (by intro w'; go_simp) ?_
              refine ((M14.out.quiet (Fr.refl NoB w14).drew).a.putT_any key (Value.slice ka n.args.length kc) id ((M14.out.quiet (Fr.refl NoB w14).drew).key.rd) HPK.out.1 HPK.out.2 (by exact hxt.out)).mono ?_
              rintro e w9 ⟨rfl, ht⟩
              obtain ⟨c15, N15⟩ := (M14.out.quiet (Fr.refl NoB w14).drew).to ht
              have M15 := hid N15
              refine ⟨_, rfl, fun h => absurd rfl h, ?_⟩
              (try simp only [Act.put, List.setIfInBounds_toArray, List.set_cons_zero, List.set_cons_succ])
              refine eff_nil ?_
              clear ht N15 HS kl obl M14
              go_wp2
              go_ret2
              have e1 : R = ({ s13 with table := s13.table ++ [(key, id)] }, id, 0) := by
                rw [HR.out]
                unfold addJoin
                rw [HADD.out]
                have hkk : canonU s.uf.make.par n = key := by rw [HKEY.out, HS7.out]
                rw [hkk, hxt.out]

              rw [e1]
              exact ⟨rfl, ⟨_, M15.out.a.done, M15.out.a.ext⟩, M15.out.a.fr⟩
end Go.Proofs.YtlekoceindepnaaGreatDoor
end
section
/- The example of the chapter egraph, as states. -/
namespace Go.Proofs.YtlekoceindepnaaGreatDoor
open Go.RowKit
set_option maxRecDepth 100000

namespace Lv
def nA : Node := ⟨1, 8, 0, ⟨#[97]⟩, []⟩
def nB : Node := ⟨1, 8, 0, ⟨#[98]⟩, []⟩
def nC : Node := ⟨3, 8, 0, ⟨#[]⟩, [0]⟩
def nD : Node := ⟨3, 8, 0, ⟨#[]⟩, [1]⟩
def nX : Node := ⟨3, 4, 0, ⟨#[]⟩, [0]⟩
def g1 : GS := (addS GS.new nA).1
def g2 : GS := (addS g1 nB).1
def g3 : GS := (addS g2 nC).1
def g4 : GS := (addS g3 nD).1
def gm : GS := markS g4
def gu : GS := (unionG gm 0 1 5).1
def gr : GS × Int := (rebuildF 10 gu 0).getD (gu, 0)
def g6 : GS := { gr.1 with dirty := false }
def g7 : GS := undoS g6 0
theorem e1 : (addS GS.new nA).2 = (0, 0) := by decide +kernel
theorem e2 : (addS g1 nB).2 = (1, 0) := by decide +kernel
theorem e3 : (addS g2 nC).2 = (2, 0) := by decide +kernel
theorem e4 : (addS g3 nD).2 = (3, 0) := by decide +kernel
theorem e5 : (unionG gm 0 1 5).2 = (true, 0) := by decide +kernel
theorem e6 : (rebuildF 10 gu 0).isSome = true := by decide +kernel
theorem e6b : gr.2 = 1 := by decide +kernel
theorem e7 : (addS g6 nX).2 = (0, 3) := by decide +kernel
theorem e8 : (unionG g6 0 9 5).2 = (false, 2) := by decide +kernel
theorem e9 : (pWalk g6.links 3 10 2 (-1)).map (fun x => x.map (fun l => l.map (fun y => (y.a, y.b, y.why)))) = some (some [(2, 3, -1)]) := by decide +kernel
theorem e10 : findS gu.uf.par 3 = 3 ∧ gu.dirty = true := by decide +kernel
theorem e11 : findS g6.uf.par 3 = 2 ∧ g6.dirty = false ∧ (rootsS g6.uf.par).length = 2 ∧ g6.nodes.length = 4 ∧ g6.marks.length = 1 := by decide +kernel
theorem e12 : g6.lr 2 = g6.lr 3 := by decide +kernel
theorem e13 : (rootsS g7.uf.par).length = 4 ∧ g7.marks.length = 0 := by decide +kernel
end Lv
end Go.Proofs.YtlekoceindepnaaGreatDoor
end
section
/- An e-graph as its user has it: the contracts of its methods, over its state alone. -/
namespace Go.Proofs.YtlekoceindepnaaGreatDoor
open Go.RowKit
set_option maxRecDepth 100000

/-- What a recorded state keeps to. -/
structure MOk (s : GS) (st : St) : Prop where
  nodes : st.nodes ≤ s.nodes.length
  links : st.links ≤ s.links.length
  sets : st.sets ≤ s.uf.tr.length
  keys : st.keys.length = st.nodes
  todo : st.todo.length ≤ 1000000
  kok : ∀ k ∈ st.keys, NodeOk k ∧ NodeSm k
/-- What the state of an e-graph keeps to, for its methods to answer as they are said to. -/
structure SOk (s : GS) : Prop where
  par : s.uf.par.length = s.nodes.length
  users : s.users.length = s.nodes.length
  keys : s.keys.length = s.nodes.length
  size : s.nodes.length ≤ 100000
  tr : s.uf.tr.length < 2900000
  links : s.links.length ≤ 1000000
  rows : ∀ l ∈ s.users, l.length ≤ 1000000
  nok : ∀ n ∈ s.nodes, NodeOk n ∧ NodeSm n
  kok : ∀ n ∈ s.keys, NodeOk n ∧ NodeSm n
  args : ∀ i, i < s.nodes.length → ∀ x ∈ (nodeAt s.nodes i).args, 0 ≤ x ∧ x < (i : Int)
  todo : s.todo.length ≤ 1000000
  fok : FOk s.links
  marks : s.marks.length ≤ 1000000
  mok : ∀ st ∈ s.marks, MOk s st
theorem SOk.gsz {s : GS} (h : SOk s) : GSz s := ⟨h.par, h.users, h.keys, h.tr, h.links, h.rows⟩
theorem SOk.gok {s : GS} (h : SOk s) : GOk s := ⟨h.keys, h.users, h.nok, h.args, h.rows⟩
theorem SOk.reb {s : GS} (h : SOk s) : RebOk s := ⟨by rw [h.users, h.par], fun l hl => Nat.le_trans (h.rows l hl) (by omega), h.keys, h.nok, h.kok⟩

/-- At bg lies an e-graph in state s that was made since w0; nothing of w0 was turned. -/
def GrS (w0 w : World) (bg : Nat) (s : GS) : Prop := ∃ c, GrAt c w bg s ∧ (∀ k, k < w0.heap.size → c k = 0) ∧ Fr NoB w0 w
section
variable {w0 w9 w w' : World} {bg : Nat} {s s' : GS}
theorem GrS.fr (g : GrS w0 w bg s) : Fr NoB w0 w := by obtain ⟨_, _, _, h⟩ := g; exact h
theorem GrS.quiet (g : GrS w0 w bg s) (hf : Fr NoB w w') : GrS w0 w' bg s := by
  obtain ⟨c, h1, h2, h3⟩ := g
  exact ⟨c, h1.quiet hf, h2, h3.step hf⟩
theorem GrS.turn {c : Col} (h2 : ∀ k, k < w0.heap.size → c k = 0) (h3 : Fr NoB w0 w) (h : ∃ c', GrAt c' w' bg s' ∧ Ext c c' w) (hf : Fr (Mut c) w w') : GrS w0 w' bg s' := by
  obtain ⟨c', h4, h5⟩ := h
  refine ⟨c', h4, fun k hk => by rw [h5 k (Nat.lt_of_lt_of_le hk h3.size)]; exact h2 k hk, h3.trans' hf (fun k hk e => e.1 (h2 k hk))⟩
theorem gs_new (w : World) : Calls Tryz.prog 50 #[] w fun e w' => ∃ bg, e = .returned (.pointer (some ⟨bg, 0, none⟩)) ∧ GrS w w' bg GS.new := by
  refine (enew_any w).mono ?_
  rintro e w' ⟨bg, c, rfl, h1, h2, _, h4⟩
  exact ⟨bg, rfl, c, h1, h2, h4⟩
theorem gs_add (g : GrS w0 w9 bg s) (ht : Tab w0) (hs : SOk s) (hf : Fr NoB w9 w) (n : Node) (v : Value) (hv : RdI (fun k => k < w9.heap.size ∧ w0.heap.size ≤ k) w v n.args) (hok : NodeOk n) (hsm : NodeSm n) :
    Calls Tryz.prog 4 #[.pointer (some ⟨bg, 0, none⟩), nodeV n v] w fun e w' => e = .returned (.tuple #[.int .i64 (addS s n).2.1, .int .i64 (addS s n).2.2]) ∧ GrS w0 w' bg (addS s n).1 := by
  obtain ⟨c, h1, h2, h3⟩ := g
  have hlt : ∀ k, c k ≠ 0 → k < w9.heap.size := by obtain ⟨_, _, _, g9, _⟩ := h1; exact g9.lt
  refine (eadd_any (h1.quiet hf) (ht.fr (h3.step hf) (fun e => e)) (h2 TB ht.lt) hs.gsz n v (hv.weaken (fun k _ hk => ⟨hlt k hk, Nat.le_of_not_lt (fun e => hk (h2 k e))⟩)) hok hsm).mono ?_
  rintro e w' ⟨rfl, h4, h5⟩
  exact ⟨rfl, GrS.turn h2 (h3.step hf) h4 h5⟩
theorem gs_union (g : GrS w0 w bg s) (ht : Tab w0) (hs : SOk s) (x y why : Int) :
    Calls Tryz.prog 6 #[.pointer (some ⟨bg, 0, none⟩), .int .i64 x, .int .i64 y, .int .i64 why] w fun e w' => e = .returned (.tuple #[.bool (unionG s x y why).2.1, .int .i64 (unionG s x y why).2.2]) ∧ GrS w0 w' bg (unionG s x y why).1 := by
  obtain ⟨c, h1, h2, h3⟩ := g
  refine (eunion_any h1 (ht.fr h3 (fun e => e)) (h2 TB ht.lt) x y why (Nat.lt_trans hs.tr (by decide)) hs.links (Nat.le_trans hs.todo (by decide))).mono ?_
  rintro e w' ⟨rfl, h4, h5⟩
  exact ⟨rfl, GrS.turn h2 h3 h4 h5⟩
theorem gs_rebuild (g : GrS w0 w bg s) (ht : Tab w0) (hs : SOk s) (f : Nat) (R : GS × Int) (hR : rebuildF f s 0 = some R) :
    Calls Tryz.prog 11 #[.pointer (some ⟨bg, 0, none⟩)] w fun e w' => e = .returned (.int .i64 R.2) ∧ GrS w0 w' bg { R.1 with dirty := false } := by
  obtain ⟨c, h1, h2, h3⟩ := g
  refine (rebuild_any h1 (ht.fr h3 (fun e => e)) (h2 TB ht.lt) hs.reb f R hR).mono ?_
  rintro e w' ⟨rfl, h4, h5⟩
  exact ⟨rfl, GrS.turn h2 h3 h4 h5⟩
theorem gs_mark (g : GrS w0 w bg s) (ht : Tab w0) (hs : SOk s) :
    Calls Tryz.prog 22 #[.pointer (some ⟨bg, 0, none⟩)] w fun e w' => e = .returned (.int .i64 s.marks.length) ∧ GrS w0 w' bg (markS s) := by
  obtain ⟨c, h1, h2, h3⟩ := g
  refine (emark_any h1 (ht.fr h3 (fun e => e)) (h2 TB ht.lt) (by rw [hs.keys]; exact Nat.le_trans hs.size (by decide)) (Nat.le_trans hs.todo (by decide)) hs.marks).mono ?_
  rintro e w' ⟨rfl, h4, h5⟩
  exact ⟨rfl, GrS.turn h2 h3 h4 h5⟩
theorem gs_undo (g : GrS w0 w bg s) (ht : Tab w0) (hs : SOk s) (m : Nat) (hm : m < s.marks.length) :
    Calls Tryz.prog 23 #[.pointer (some ⟨bg, 0, none⟩), .int .i64 m] w fun e w' => e = .returned (.bool true) ∧ GrS w0 w' bg (undoS s m) := by
  obtain ⟨c, h1, h2, h3⟩ := g
  have hst : s.marks.getD m St.none ∈ s.marks := by
    rw [List.getD_eq_getElem?_getD, List.getElem?_eq_getElem hm]; exact List.getElem_mem _
  have mo := hs.mok _ hst
  refine (eundo_any h1 (ht.fr h3 (fun e => e)) (h2 TB ht.lt) m hm hs.gok hs.links hs.fok mo.nodes mo.links mo.sets (by rw [mo.keys]; exact Nat.le_trans mo.nodes (Nat.le_trans hs.size (by decide))) (Nat.le_trans mo.todo (by decide)) mo.kok (Nat.le_trans hs.size (by decide)) (Nat.le_trans hs.marks (by decide))).mono ?_
  rintro e w' ⟨rfl, h4, h5⟩
  exact ⟨rfl, GrS.turn h2 h3 h4 h5⟩
theorem gs_undo_out (g : GrS w0 w bg s) (ht : Tab w0) (m : Int) (hm : ¬ (0 ≤ m ∧ m < (s.marks.length : Int))) :
    Calls Tryz.prog 23 #[.pointer (some ⟨bg, 0, none⟩), .int .i64 m] w fun e w' => e = .returned (.bool false) ∧ GrS w0 w' bg s := by
  obtain ⟨c, h1, h2, h3⟩ := g
  refine (eundo_out h1 (ht.fr h3 (fun e => e)) (h2 TB ht.lt) m hm).mono ?_
  rintro e w' ⟨rfl, rfl⟩
  exact ⟨rfl, c, h1, h2, h3⟩
theorem gs_dirty (g : GrS w0 w bg s) : Calls Tryz.prog 12 #[.pointer (some ⟨bg, 0, none⟩)] w fun e w' => e = .returned (.bool s.dirty) ∧ w' = w := by
  obtain ⟨c, h1, h2, h3⟩ := g
  exact edirty_any h1
theorem gs_find (g : GrS w0 w bg s) (x : Int) : Calls Tryz.prog 13 #[.pointer (some ⟨bg, 0, none⟩), .int .i64 x] w fun e w' => e = .returned (.int .i64 (findS s.uf.par x)) ∧ w' = w := by
  obtain ⟨c, h1, h2, h3⟩ := g
  exact efind_any h1 x
theorem gs_same (g : GrS w0 w bg s) (x y : Int) : Calls Tryz.prog 14 #[.pointer (some ⟨bg, 0, none⟩), .int .i64 x, .int .i64 y] w fun e w' => e = .returned (.bool (sameS2 s.uf.par x y)) ∧ w' = w := by
  obtain ⟨c, h1, h2, h3⟩ := g
  exact esame_any h1 x y
theorem gs_len (g : GrS w0 w bg s) : Calls Tryz.prog 15 #[.pointer (some ⟨bg, 0, none⟩)] w fun e w' => e = .returned (.int .i64 s.nodes.length) ∧ w' = w := by
  obtain ⟨c, h1, h2, h3⟩ := g
  exact elen_any h1
theorem gs_count (g : GrS w0 w bg s) : Calls Tryz.prog 16 #[.pointer (some ⟨bg, 0, none⟩)] w fun e w' => e = .returned (.int .i64 (rootsS s.uf.par).length) ∧ GrS w0 w' bg s ∧ Fr NoB w w' := by
  have g9 := g
  obtain ⟨c, h1, h2, h3⟩ := g
  refine (ecount_any h1).mono ?_
  rintro e w' ⟨rfl, hf⟩
  exact ⟨rfl, g9.quiet hf, hf⟩
theorem gs_classes (g : GrS w0 w bg s) : Calls Tryz.prog 17 #[.pointer (some ⟨bg, 0, none⟩)] w fun e w' => ∃ p q, e = .returned (.slice p (rootsS s.uf.par).length q) ∧ OwnI w.heap.size w' (.slice p (rootsS s.uf.par).length q) (rootsS s.uf.par) ∧ GrS w0 w' bg s ∧ Fr NoB w w' := by
  have g9 := g
  obtain ⟨c, h1, h2, h3⟩ := g
  refine (eclasses_any h1).mono ?_
  rintro e w' ⟨p, q, rfl, ho, hf⟩
  exact ⟨p, q, rfl, ho, g9.quiet hf, hf⟩
theorem gs_links (g : GrS w0 w bg s) (hs : SOk s) : Calls Tryz.prog 21 #[.pointer (some ⟨bg, 0, none⟩)] w fun e w' => ∃ p q, e = .returned (.slice p s.links.length q) ∧ OwnE lkCells 3 81 w.heap.size w' (.slice p s.links.length q) s.links ∧ GrS w0 w' bg s ∧ Fr NoB w w' := by
  have g9 := g
  obtain ⟨c, h1, h2, h3⟩ := g
  refine (elinks_any h1 (Nat.le_trans hs.links (by decide))).mono ?_
  rintro e w' ⟨p, q, rfl, ho, hf⟩
  exact ⟨p, q, rfl, ho, g9.quiet hf, hf⟩
theorem gs_path_out (g : GrS w0 w bg s) (ht : Tab w0) (x y : Int) (hx : ¬ (0 ≤ x ∧ 0 ≤ y ∧ x < (s.nodes.length : Int) ∧ y < (s.nodes.length : Int))) :
    Calls Tryz.prog 9 #[.pointer (some ⟨bg, 0, none⟩), .int .i64 x, .int .i64 y] w fun e w' => e = .returned (.tuple #[.slice none 0 0, .bool false]) ∧ w' = w := by
  obtain ⟨c, h1, h2, h3⟩ := g
  exact epath_out h1 (ht.fr h3 (fun e => e)) (h2 TB ht.lt) x y hx
theorem gs_path_yes (g : GrS w0 w bg s) (ht : Tab w0) (x y : Nat) (hx : x < s.nodes.length) (hy : y < s.nodes.length) (hr : s.lr x = s.lr y) (n : Nat) (res : Option (List Lnk)) (hp : pWalk s.links y n x (-1) = some res) (hl : n ≤ 10000000) :
    Calls Tryz.prog 9 #[.pointer (some ⟨bg, 0, none⟩), .int .i64 x, .int .i64 y] w fun e w' => ∃ p q, e = .returned (.tuple #[.slice p (res.getD []).length q, .bool true]) ∧ RdE lkCells (fun k => k < w.heap.size) w' (.slice p (res.getD []).length q) (res.getD []) ∧ GrS w0 w' bg s := by
  obtain ⟨c, h1, h2, h3⟩ := g
  refine (epath_yes h1 (ht.fr h3 (fun e => e)) (h2 TB ht.lt) x y hx hy hr n res hp hl).mono ?_
  rintro e w' ⟨p, q, rfl, h4, h5, h6⟩
  exact ⟨p, q, rfl, h4, GrS.turn h2 h3 ⟨c, h5, Ext.refl _ _⟩ h6⟩
theorem gs_path_no (g : GrS w0 w bg s) (ht : Tab w0) (x y : Nat) (hx : x < s.nodes.length) (hy : y < s.nodes.length) (hr : s.lr x ≠ s.lr y) :
    Calls Tryz.prog 9 #[.pointer (some ⟨bg, 0, none⟩), .int .i64 x, .int .i64 y] w fun e w' => e = .returned (.tuple #[.slice none 0 0, .bool false]) ∧ GrS w0 w' bg s := by
  obtain ⟨c, h1, h2, h3⟩ := g
  refine (epath_no h1 (ht.fr h3 (fun e => e)) (h2 TB ht.lt) x y hx hy hr).mono ?_
  rintro e w' ⟨rfl, h5, h6⟩
  exact ⟨rfl, GrS.turn h2 h3 ⟨c, h5, Ext.refl _ _⟩ h6⟩
end

-- the same by reckoning
def nodeOkB (n : Node) : Bool := decide (-9223372036854775808 ≤ n.op) && decide (n.op < 9223372036854775808) && decide (-9223372036854775808 ≤ n.width) && decide (n.width < 9223372036854775808) && decide (0 ≤ n.val) && decide (n.val < 18446744073709551616) &&
  n.args.all (fun a => decide (-9223372036854775808 ≤ a) && decide (a < 9223372036854775808)) && decide (n.args.length ≤ 100000) && decide (n.name.size ≤ 100000000)
theorem nodeOkB_ok {n : Node} (h : nodeOkB n = true) : NodeOk n ∧ NodeSm n := by
  unfold nodeOkB at h
  simp only [Bool.and_eq_true, decide_eq_true_eq, List.all_eq_true] at h
  obtain ⟨⟨⟨⟨⟨⟨⟨⟨h1, h2⟩, h3⟩, h4⟩, h5⟩, h6⟩, h7⟩, h8⟩, h9⟩ := h
  refine ⟨⟨⟨by omega, by omega⟩, ⟨by omega, by omega⟩, ⟨h5, h6⟩, fun i hi => ?_⟩, ⟨h8, h9⟩⟩
  have := h7 _ (getD_mem hi)
  exact ⟨by omega, by omega⟩
def mokB (s : GS) (st : St) : Bool := decide (st.nodes ≤ s.nodes.length) && decide (st.links ≤ s.links.length) && decide (st.sets ≤ s.uf.tr.length) && decide (st.keys.length = st.nodes) && decide (st.todo.length ≤ 1000000) && st.keys.all nodeOkB
def fokB (L : List Lnk) : Bool := (List.range L.length).all (fun k => match L[k]? with
  | some l => decide (forR (L.take k) l.a ≠ forR (L.take k) l.b)
  | none => true)
theorem fokB_ok {L : List Lnk} (h : fokB L = true) : FOk L := fun k l hl => by
  unfold fokB at h
  rw [List.all_eq_true] at h
  have := h k (List.mem_range.2 (List.getElem?_eq_some_iff.1 hl).1)
  rw [hl] at this
  simpa using this
def sokB (s : GS) : Bool := decide (s.uf.par.length = s.nodes.length) && decide (s.users.length = s.nodes.length) && decide (s.keys.length = s.nodes.length) && decide (s.nodes.length ≤ 100000) && decide (s.uf.tr.length < 2900000) && decide (s.links.length ≤ 1000000) &&
  s.users.all (fun l => decide (l.length ≤ 1000000)) && s.nodes.all nodeOkB && s.keys.all nodeOkB && (List.range s.nodes.length).all (fun i => (nodeAt s.nodes i).args.all (fun x => decide (0 ≤ x) && decide (x < (i : Int)))) && decide (s.todo.length ≤ 1000000) && fokB s.links && decide (s.marks.length ≤ 1000000) && s.marks.all (mokB s)
theorem sokB_ok {s : GS} (h : sokB s = true) : SOk s := by
  unfold sokB at h
  simp only [Bool.and_eq_true, decide_eq_true_eq, List.all_eq_true, List.mem_range] at h
  obtain ⟨⟨⟨⟨⟨⟨⟨⟨⟨⟨⟨⟨⟨h1, h2⟩, h3⟩, h4⟩, h5⟩, h6⟩, h7⟩, h8⟩, h9⟩, h10⟩, h11⟩, h12⟩, h13⟩, h14⟩ := h
  refine ⟨h1, h2, h3, h4, h5, h6, h7, fun n hn => nodeOkB_ok (h8 n hn), fun n hn => nodeOkB_ok (h9 n hn), h10, h11, fokB_ok h12, h13, fun st hst => ?_⟩
  have h15 := h14 st hst
  unfold mokB at h15
  simp only [Bool.and_eq_true, decide_eq_true_eq, List.all_eq_true] at h15
  obtain ⟨⟨⟨⟨⟨a1, a2⟩, a3⟩, a4⟩, a5⟩, a6⟩ := h15
  exact ⟨a1, a2, a3, a4, a5, fun k hk => nodeOkB_ok (a6 k hk)⟩
end Go.Proofs.YtlekoceindepnaaGreatDoor
end
section
/- The answers of a nil e-graph. -/
namespace Go.Proofs.YtlekoceindepnaaGreatDoor
open Go.RowKit
set_option maxRecDepth 100000

theorem eqPtrG (w : World) (r : Option Addr) : (binOp .neq 22 (.pointer r) (.pointer none)).run Tryz.prog w = .ok (.bool (!r.isNone)) w := by
  cases r <;> kernel_rfl
theorem emade_nil (w : World) : Calls Tryz.prog 25 #[.pointer none] w fun e w' => e = .returned (.bool false) ∧ w' = w := by
  have ep := eqPtrG
  go_enter Tryz.func25, Tryz.ntmps25
  go_wp2
  go_ret
  exact ⟨rfl, rfl⟩

theorem eadd_nil (w : World) (n : Node) (v : Value) : Calls Tryz.prog 4 #[.pointer none, nodeV n v] w fun e w' => e = .returned (.tuple #[.int .i64 (-1), .int .i64 11]) ∧ Fr NoB w w' := by
  unfold nodeV
  go_enter Tryz.func4, Tryz.ntmps4
  go_wp2_with fail
  refine (emade_nil _).mono ?_
  rintro e w1 ⟨rfl, h9⟩
  subst h9
  go_wp2
  go_ret2
  exact ⟨rfl, (Fr.refl NoB w).alloc _⟩
theorem eunion_nil (w : World) (x y z : Int) : Calls Tryz.prog 6 #[.pointer none, .int .i64 x, .int .i64 y, .int .i64 z] w fun e w' => e = .returned (.tuple #[.bool false, .int .i64 11]) ∧ Fr NoB w w' := by
  go_enter Tryz.func6, Tryz.ntmps6
  go_wp2_with fail
  refine (emade_nil _).mono ?_
  rintro e w1 ⟨rfl, h9⟩
  subst h9
  go_wp2
  go_ret2
  exact ⟨rfl, Fr.refl _ _⟩
theorem enode_nil (w : World) (x : Int) : Calls Tryz.prog 7 #[.pointer none, .int .i64 x] w fun e w' => e = .returned (.tuple #[.agg #[.int .i64 0, .int .i64 0, .int .u64 0, .string ⟨#[]⟩, .slice none 0 0], .bool false]) ∧ Fr NoB w w' := by
  go_enter Tryz.func7, Tryz.ntmps7
  go_wp2_with fail
  refine (emade_nil _).mono ?_
  rintro e w1 ⟨rfl, h9⟩
  subst h9
  obtain ⟨r0, r1, r2, r3, r4, rf, rl⟩ := five_of (at_new w (.cells #[.int .i64 0, .int .i64 0, .int .u64 0, .string ⟨#[]⟩, .slice none 0 0] 30))
  go_wp2
  refine bodyPost_ret (v := .tuple #[.agg #[.int .i64 0, .int .i64 0, .int .u64 0, .string ⟨#[]⟩, .slice none 0 0], .bool false]) (by simp [results, Tryz.results7, go_sem, r0, r1, r2, r3, r4]) rfl ?_
  exact ⟨rfl, (Fr.refl NoB w).alloc _⟩
theorem elookup_nil (w : World) (n : Node) (v : Value) : Calls Tryz.prog 8 #[.pointer none, nodeV n v] w fun e w' => e = .returned (.tuple #[.int .i64 0, .bool false]) ∧ Fr NoB w w' := by
  unfold nodeV
  go_enter Tryz.func8, Tryz.ntmps8
  go_wp2_with fail
  refine (emade_nil _).mono ?_
  rintro e w1 ⟨rfl, h9⟩
  subst h9
  go_wp2
  go_ret2
  exact ⟨rfl, (Fr.refl NoB w).alloc _⟩
theorem epath_nil (w : World) (x y : Int) : Calls Tryz.prog 9 #[.pointer none, .int .i64 x, .int .i64 y] w fun e w' => e = .returned (.tuple #[.slice none 0 0, .bool false]) ∧ Fr NoB w w' := by
  go_enter Tryz.func9, Tryz.ntmps9
  go_wp2_with fail
  refine (emade_nil _).mono ?_
  rintro e w1 ⟨rfl, h9⟩
  subst h9
  go_wp2
  go_ret2
  exact ⟨rfl, Fr.refl _ _⟩
theorem edump_nil (w : World) : Calls Tryz.prog 10 #[.pointer none] w fun e w' => e = .returned (.agg #[.slice none 0 0, .slice none 0 0, .slice none 0 0]) ∧ Fr NoB w w' := by
  go_enter Tryz.func10, Tryz.ntmps10
  go_wp2_with fail
  refine (emade_nil _).mono ?_
  rintro e w1 ⟨rfl, h9⟩
  subst h9
  obtain ⟨r0, r1, r2, rf, rl⟩ := three_of (at_new w (.cells #[.slice none 0 0, .slice none 0 0, .slice none 0 0] 43))
  go_wp2
  refine bodyPost_ret (v := .agg #[.slice none 0 0, .slice none 0 0, .slice none 0 0]) (by simp [results, Tryz.results10, go_sem, r0, r1, r2]) rfl ?_
  exact ⟨rfl, (Fr.refl NoB w).alloc _⟩
theorem erebuild_nil (w : World) : Calls Tryz.prog 11 #[.pointer none] w fun e w' => e = .returned (.int .i64 0) ∧ Fr NoB w w' := by
  go_enter Tryz.func11, Tryz.ntmps11
  go_wp2_with fail
  refine (emade_nil _).mono ?_
  rintro e w1 ⟨rfl, h9⟩
  subst h9
  go_wp2
  go_ret
  exact ⟨rfl, Fr.refl _ _⟩
theorem edirty_nil (w : World) : Calls Tryz.prog 12 #[.pointer none] w fun e w' => e = .returned (.bool false) ∧ Fr NoB w w' := by
  go_enter Tryz.func12, Tryz.ntmps12
  go_wp2_with fail
  refine (emade_nil _).mono ?_
  rintro e w1 ⟨rfl, h9⟩
  subst h9
  go_wp2
  go_ret
  exact ⟨rfl, Fr.refl _ _⟩
theorem efind_nil (w : World) (x : Int) : Calls Tryz.prog 13 #[.pointer none, .int .i64 x] w fun e w' => e = .returned (.int .i64 (-1)) ∧ Fr NoB w w' := by
  go_enter Tryz.func13, Tryz.ntmps13
  go_wp2_with fail
  refine (emade_nil _).mono ?_
  rintro e w1 ⟨rfl, h9⟩
  subst h9
  go_wp2
  go_ret
  exact ⟨rfl, Fr.refl _ _⟩
theorem esame_nil (w : World) (x y : Int) : Calls Tryz.prog 14 #[.pointer none, .int .i64 x, .int .i64 y] w fun e w' => e = .returned (.bool false) ∧ Fr NoB w w' := by
  go_enter Tryz.func14, Tryz.ntmps14
  go_wp2_with fail
  refine (emade_nil _).mono ?_
  rintro e w1 ⟨rfl, h9⟩
  subst h9
  go_wp2
  go_ret
  exact ⟨rfl, Fr.refl _ _⟩
theorem elen_nil (w : World) : Calls Tryz.prog 15 #[.pointer none] w fun e w' => e = .returned (.int .i64 0) ∧ Fr NoB w w' := by
  go_enter Tryz.func15, Tryz.ntmps15
  go_wp2_with fail
  refine (emade_nil _).mono ?_
  rintro e w1 ⟨rfl, h9⟩
  subst h9
  go_wp2
  go_ret
  exact ⟨rfl, Fr.refl _ _⟩
theorem eclasses_nil (w : World) : Calls Tryz.prog 17 #[.pointer none] w fun e w' => e = .returned (.slice none 0 0) ∧ Fr NoB w w' := by
  go_enter Tryz.func17, Tryz.ntmps17
  go_wp2_with fail
  refine (emade_nil _).mono ?_
  rintro e w1 ⟨rfl, h9⟩
  subst h9
  go_wp2
  go_ret
  exact ⟨rfl, Fr.refl _ _⟩
theorem ecount_nil (w : World) : Calls Tryz.prog 16 #[.pointer none] w fun e w' => e = .returned (.int .i64 0) ∧ Fr NoB w w' := by
  go_enter Tryz.func16, Tryz.ntmps16
  go_wp2_with fail
  refine (eclasses_nil _).mono ?_
  rintro e w1 ⟨rfl, hf⟩
  have F1 := hid hf
  clear hf
  go_wp2
  go_ret
  exact ⟨rfl, F1.out⟩
theorem enodes_nil (w : World) (x : Int) : Calls Tryz.prog 18 #[.pointer none, .int .i64 x] w fun e w' => e = .returned (.slice none 0 0) ∧ Fr NoB w w' := by
  go_enter Tryz.func18, Tryz.ntmps18
  go_wp2_with fail
  refine (emade_nil _).mono ?_
  rintro e w1 ⟨rfl, h9⟩
  subst h9
  go_wp2
  go_ret
  exact ⟨rfl, Fr.refl _ _⟩
theorem ewidth_nil (w : World) (x : Int) : Calls Tryz.prog 19 #[.pointer none, .int .i64 x] w fun e w' => e = .returned (.int .i64 (-1)) ∧ Fr NoB w w' := by
  go_enter Tryz.func19, Tryz.ntmps19
  go_wp2_with fail
  refine (emade_nil _).mono ?_
  rintro e w1 ⟨rfl, h9⟩
  subst h9
  go_wp2
  go_ret
  exact ⟨rfl, Fr.refl _ _⟩
theorem eparents_nil (w : World) (x : Int) : Calls Tryz.prog 20 #[.pointer none, .int .i64 x] w fun e w' => e = .returned (.slice none 0 0) ∧ Fr NoB w w' := by
  go_enter Tryz.func20, Tryz.ntmps20
  go_wp2_with fail
  refine (emade_nil _).mono ?_
  rintro e w1 ⟨rfl, h9⟩
  subst h9
  go_wp2
  go_ret
  exact ⟨rfl, Fr.refl _ _⟩
theorem elinks_nil (w : World) : Calls Tryz.prog 21 #[.pointer none] w fun e w' => e = .returned (.slice none 0 0) ∧ Fr NoB w w' := by
  go_enter Tryz.func21, Tryz.ntmps21
  go_wp2_with fail
  refine (emade_nil _).mono ?_
  rintro e w1 ⟨rfl, h9⟩
  subst h9
  go_wp2
  go_ret
  exact ⟨rfl, Fr.refl _ _⟩
theorem emark_nil (w : World) : Calls Tryz.prog 22 #[.pointer none] w fun e w' => e = .returned (.int .i64 (-1)) ∧ Fr NoB w w' := by
  go_enter Tryz.func22, Tryz.ntmps22
  go_wp2_with fail
  refine (emade_nil _).mono ?_
  rintro e w1 ⟨rfl, h9⟩
  subst h9
  go_wp2
  go_ret
  exact ⟨rfl, Fr.refl _ _⟩
theorem eundo_nil (w : World) (x : Int) : Calls Tryz.prog 23 #[.pointer none, .int .i64 x] w fun e w' => e = .returned (.bool false) ∧ Fr NoB w w' := by
  go_enter Tryz.func23, Tryz.ntmps23
  go_wp2_with fail
  refine (emade_nil _).mono ?_
  rintro e w1 ⟨rfl, h9⟩
  subst h9
  go_wp2
  go_ret
  exact ⟨rfl, Fr.refl _ _⟩
end Go.Proofs.YtlekoceindepnaaGreatDoor
end
