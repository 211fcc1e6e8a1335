import Derived.Test.YtlekoceindepnaaGreatDoorPk1
import Derived.Test.YtlekoceindepnaaGreatDoorPk4
import Derived.Deep.DeepCutAuto
import Derived.Deep.LoopGhost
set_option linter.all false
section
/- The walk of Sets.Undo. -/
namespace Go.Proofs.YtlekoceindepnaaGreatDoor
open Go.RowKit
set_option maxRecDepth 100000

theorem OwnE.takeN {α : Type} {enc : α → List Value} {sz : Nat} {e : TypeId} {B : Nat} {w : World} {a : Option Addr} {n c : Nat} {l : List α} (hk : ∀ x, (enc x).length = sz) (h : OwnE enc sz e B w (.slice a n c) l) {k : Nat} (hkl : k ≤ l.length) : OwnE enc sz e B w (.slice a k c) (l.take k) := by
  obtain ⟨h1, h2⟩ := h
  have hl : (l.take k).length = k := by rw [List.length_take]; omega
  refine ⟨by rw [flatE_length enc hk], ?_⟩
  rw [hl]
  rcases h2 with ⟨h2, h3⟩ | ⟨g, cap, cur, e, hb, hg, hn, hc, hs, ht⟩
  · obtain rfl : k = 0 := by omega
    cases h2
    exact .inl ⟨rfl, rfl⟩
  · simp only [Value.slice.injEq] at e
    obtain ⟨rfl, rfl, rfl⟩ := e
    refine .inr ⟨g, _, cur, rfl, hb, hg, by omega, hc, hs, ?_⟩
    rw [flatE_take enc hk l k hkl, ← ht, List.take_take, Nat.min_eq_left (Nat.mul_le_mul_right _ hkl)]
theorem OwnI.takeN {B : Nat} {w : World} {a : Option Addr} {n c : Nat} {l : List Int} (h : OwnI B w (.slice a n c) l) {k : Nat} (hkl : k ≤ l.length) : OwnI B w (.slice a k c) (l.take k) := by
  obtain ⟨h1, h2⟩ := h
  have hl : (l.take k).length = k := by rw [List.length_take]; omega
  refine ⟨by rw [List.length_map, Nat.mul_one], ?_⟩
  rw [hl]
  rcases h2 with ⟨h2, h3⟩ | ⟨g, cap, cur, e, hb, hg, hn, hc, hs, ht⟩
  · obtain rfl : k = 0 := by omega
    cases h2
    exact .inl ⟨rfl, rfl⟩
  · simp only [Value.slice.injEq] at e
    obtain ⟨rfl, rfl, rfl⟩ := e
    refine .inr ⟨g, _, cur, rfl, hb, hg, by omega, hc, hs, ?_⟩
    rw [List.map_take, ← ht, List.take_take, Nat.mul_one, Nat.mul_one, Nat.min_eq_left hkl]
section
variable {N : Nat → Prop} {w W W6 : World} {bs : Nat} {sP sT v6 : Value} {p p' : List Int} {t t' : List Stp}
theorem UfAt.par0 (h : UfAt N w W bs sP sT p t) (ho : OwnI 0 W v6 p') (hb : v6.ownBlock = sP.ownBlock) : UfAt N w (W.setCell ⟨bs, 1, none⟩ v6) bs v6 sT p' t := by
  have f7 : Fr (fun k => k = bs) W (W.setCell ⟨bs, 1, none⟩ v6) := (Fr.refl (fun k => k = bs) W).setCell (p := ⟨bs, 1, none⟩) (fun _ => rfl) _
  exact ⟨set_at h.hd 1 v6, ho.fr f7 (fun b hb9 e => h.neP (by rw [← hb]; exact hb9) e), OwnE.fr h.ot f7 (fun b hb9 e => h.neT hb9 e), fun b hb9 => (h.np b (by rw [← hb]; exact hb9)).step f7.size, fun b hb9 => (h.nt b hb9).step f7.size, h.fr.trans' f7 (fun k _ e => by rw [show k = bs from e]; exact h.nb), h.nb⟩
theorem UfAt.trl0 (h : UfAt N w W bs sP sT p t) (ho : OwnS W v6 t') (hb : v6.ownBlock = sT.ownBlock) : UfAt N w (W.setCell ⟨bs, 2, none⟩ v6) bs sP v6 p t' := by
  have f7 : Fr (fun k => k = bs) W (W.setCell ⟨bs, 2, none⟩ v6) := (Fr.refl (fun k => k = bs) W).setCell (p := ⟨bs, 2, none⟩) (fun _ => rfl) _
  exact ⟨set_at h.hd 2 v6, h.op.fr f7 (fun b hb9 e => h.neP hb9 e), OwnE.fr ho f7 (fun b hb9 e => h.neT (by rw [← hb]; exact hb9) e), fun b hb9 => (h.np b hb9).step f7.size, fun b hb9 => (h.nt b (by rw [← hb]; exact hb9)).step f7.size, h.fr.trans' f7 (fun k _ e => by rw [show k = bs from e]; exact h.nb), h.nb⟩
theorem undoF_all : ∀ (t : List Stp) (p : List Int), Uf.undoF p t t.length = p
  | [], _ => rfl
  | s :: t, p => by unfold Uf.undoF; rw [if_pos (by simp)]
theorem undoF_step : ∀ (t : List Stp) (p : List Int) (n : Nat) (st : Stp), n < t.length → t[t.length - 1 - n]? = some st → Uf.undoF p t n = Uf.back (Uf.undoF p t (n + 1)) st
  | [], p, n, st, h, _ => by simp at h
  | s :: t, p, n, st, h, hs => by
    simp only [List.length_cons] at h hs
    by_cases e : n = t.length
    · subst e
      have h0 : t.length + 1 - 1 - t.length = 0 := by omega
      rw [h0] at hs
      cases hs
      rw [Uf.undoF, if_neg (by omega), undoF_all, Uf.undoF, if_pos (by omega)]
    · have h0 : t.length + 1 - 1 - n = (t.length - 1 - n) + 1 := by omega
      rw [h0, List.getElem?_cons_succ] at hs
      rw [Uf.undoF, if_neg (by omega), Uf.undoF, if_neg (by omega)]
      exact undoF_step t _ n st (by omega) hs
theorem undo_step (u : Uf) {n : Nat} (hn : n < u.tr.length) : u.undo n = ⟨Uf.back (u.undo (n + 1)).par u.tr[n], u.tr.take n⟩ := by
  unfold Uf.undo
  simp only
  rw [undoF_step u.tr.reverse u.par n u.tr[n] (by simpa using hn) (by
    rw [List.length_reverse, List.getElem?_reverse (by omega)]
    have : u.tr.length - 1 - (u.tr.length - 1 - n) = n := by omega
    rw [this, List.getElem?_eq_getElem hn])]
theorem undoF_len : ∀ (t : List Stp) (p : List Int) (n : Nat), (Uf.undoF p t n).length ≤ p.length
  | [], p, n => Nat.le_refl _
  | s :: t, p, n => by
    unfold Uf.undoF
    split
    · exact Nat.le_refl _
    · refine Nat.le_trans (undoF_len t _ n) ?_
      unfold Uf.back
      split
      · rw [List.length_take]; omega
      · rw [List.length_set]; exact Nat.le_refl _
theorem undo_last (u : Uf) {m : Nat} (hm : m < u.tr.length) (hk : UfOk (u.undo (m + 1))) : 0 ≤ u.tr[m].2 ∧ u.tr[m].2 < (u.undo (m + 1)).par.length := by
  have h1 := hk.tr
  have e : (u.undo (m + 1)).tr.reverse = u.tr[m] :: (u.tr.take m).reverse := by
    show (u.tr.take (m + 1)).reverse = _
    rw [List.take_succ_eq_append_getElem hm, List.reverse_append]; rfl
  rw [e] at h1
  exact ⟨h1.1, h1.2.1⟩
theorem undo_all (u : Uf) : u.undo u.tr.length = u := by
  unfold Uf.undo
  rw [← List.length_reverse, undoF_all, List.length_reverse, List.take_length]
set_option maxHeartbeats 8000000 in
theorem ufundo_any {u : Uf} (h : SetsAt N w bs u) (n : Nat) (hn : n ≤ u.tr.length) :
    Calls Tryz.prog 48 #[.pointer (some ⟨bs, 0, none⟩), .int .i64 n] w fun e w' => e = .returned (.bool true) ∧ SetsAt (Grow N w w') w' bs (u.undo n) ∧ Fr N w w' := by
  have H := hid h
  obtain ⟨sP, sT, hm⟩ := h.at
  have U := hid hm
  have HSM := hid h.small
  have HOK0 := hid h.ok
  have HOKU := hid (h.ok.undo hn)
  obtain ⟨c0, c1, c2, cf, cl⟩ := three_of hm.hd
  obtain ⟨tp, tc, hv⟩ := OwnE.form hm.ot
  subst hv
  have h0 : ¬ (n : Int) < 0 := by omega
  have h1 : ¬ (u.tr.length : Int) < (n : Int) := by omega
  have HN := hid hn
  clear h hm hn
  go_enter Tryz.func48, Tryz.ntmps48
  go_wp2_with fail
  refine (ufvalid_any H.out).mono ?_
  rintro e w' ⟨rfl, h9⟩
  subst h9
  go_wp2
  clear c0 c1 c2 cf cl h0 h1
  go_loopg [] (u.tr.length - n) (fun k wr => ∃ (sP sT : Value), n + k ≤ u.tr.length ∧ Hid (UfAt N w' wr bs sP sT (u.undo (n + k)).par (u.undo (n + k)).tr))
  case atStart => exact ⟨sP, _, by have := HN.out; omega, by rw [show n + (u.tr.length - n) = u.tr.length by have := HN.out; omega, undo_all]; exact U⟩
  case round =>
    obtain ⟨sP, sT, hk, U1⟩ := hrel
    obtain ⟨tp, tc, hv⟩ := OwnE.form U1.out.ot
    have hlen : (u.undo (n + gk)).tr.length = n + gk := by show (u.tr.take (n + gk)).length = _; rw [List.length_take]; omega
    rw [hlen] at hv
    subst hv
    obtain ⟨c0, c1, c2, cf, cl⟩ := three_of U1.out.hd
    clear c0 c1 hlen
    cases gk with
    | zero =>
      have hb : ¬ ((n : Int) < ((n + 0 : Nat) : Int)) := by omega
      go_wp2
      go_ret
      exact ⟨rfl, U1.out.done (s := u.undo n) HOKU.out ⟨Nat.le_trans (undoF_len _ _ _) HSM.out.1, by show (u.tr.take n).length ≤ _; rw [List.length_take]; have := HSM.out.2; omega⟩, U1.out.fr⟩
    | succ g =>
      have hm : n + g < u.tr.length := by omega
      have hlast := undo_last u hm (HOK0.out.undo (by omega))
      have HST := hid (undo_step u hm)
      obtain ⟨A, hA⟩ : ∃ A, u.undo (n + (g + 1)) = A := ⟨_, rfl⟩
      rw [show n + g + 1 = n + (g + 1) from rfl] at hlast HST
      rw [hA] at U1 hlast HST
      have hAt : A.tr = u.tr.take (n + (g + 1)) := by rw [← hA]; rfl
      obtain ⟨⟨mk, rt⟩, hst⟩ : ∃ st, u.tr[n + g] = st := ⟨_, rfl⟩
      rw [hst] at hlast HST
      obtain ⟨M, hM⟩ : ∃ M, n + g = M := ⟨_, rfl⟩
      have hM1 : n + (g + 1) = M + 1 := by omega
      rw [hM1] at U1 c2 hk hAt
      rw [hM] at HST
      have hATl : A.tr.length = M + 1 := by rw [hAt, List.length_take]; omega
      have hAg : A.tr[M]? = some (mk, rt) := by
        rw [hAt, List.getElem?_take, if_pos (by omega)]
        rw [List.getElem?_eq_getElem (by omega)]
        congr 1
        simp only [← hM]
        exact hst
      obtain ⟨gt, htp, htc⟩ : ∃ g, tp = some ⟨g, 0, none⟩ ∧ M + 1 ≤ tc := by
        rcases OwnE.form' U1.out.ot with ⟨_, h2⟩ | ⟨g, cap, h3, _, _, hc⟩
        · rw [h2] at hATl; simp at hATl
        · simp only [Value.slice.injEq] at h3
          exact ⟨g, h3.1, by rw [h3.2.2, ← hATl]; exact hc⟩
      subst htp
      have hcs := OwnE.cells U1.out.ot
      have hM2 : M < A.tr.length := by omega
      have hAe : A.tr[M] = (mk, rt) := by rw [List.getElem?_eq_getElem hM2] at hAg; exact Option.some.inj hAg
      have s0 := hcs (M * 2) (.bool mk) (by
        have := flatE_get stpC (k := 2) stpC_len A.tr M hM2 0 (by omega)
        rw [Nat.add_zero] at this
        rw [this, hAe]; rfl)
      have s1 := hcs (M * 2 + 1) (.int .i64 rt) (by
        have := flatE_get stpC (k := 2) stpC_len A.tr M hM2 1 (by omega)
        rw [this, hAe]; rfl)
      rw [Nat.zero_add] at s0 s1
      obtain ⟨r0, r1⟩ := hlast
      simp only at r0 r1
      obtain ⟨rn, rfl⟩ : ∃ rn : Nat, rt = rn := ⟨rt.toNat, by omega⟩
      have hT := hid (OwnE.takeN stpC_len U1.out.ot (k := M) (by omega))
      have HAT : Hid (A.tr.take M = u.tr.take M) := by show _ = _; rw [hAt, List.take_take]; congr 1; omega
      have hgtb : (n : Int) < ((M : Int) + 1) := by omega
      have hml : M ≤ 3000000 := by have := HSM.out.2; omega
      have lgt := lt_of_cell s0
      have hnt : gt ≠ bs := U1.out.neT rfl
      clear hcs hAe hAg hst hAt hATl hM2 hA
      have w1 : IntKind.i64.wrap ((M : Int) + 1 - 1) = (M : Int) := by rw [IntKind.wrap_i64]; omega
      have w2 : IntKind.i64.wrap (M : Int) = (M : Int) := by rw [IntKind.wrap_i64]; omega
      have w3 : (M : Int) < (M : Int) + 1 := by omega
      have w4 : M < M + 1 := by omega
      have htc2 : M ≤ tc := by omega
      have htc3 : (M : Int) ≤ (tc : Int) := by omega
      go_wp2
      have HC4 : Hid (∀ w', Fr NoB wr w' → w'.cell? ⟨bs, 2, none⟩ = some (.slice (some ⟨gt, 0, none⟩) (M + 1) tc) ∧ w'.cell? ⟨gt, M * 2, none⟩ = some (.bool mk) ∧ w'.cell? ⟨gt, M * 2 + 1, none⟩ = some (.int .i64 rn)) := fun w' hf => ⟨hf.cf c2, hf.cf s0, hf.cf s1⟩
      refine region_eff (fun w' => w'.cell? ⟨bs, 2, none⟩ = some (.slice (some ⟨gt, 0, none⟩) (M + 1) tc) ∧ w'.cell? ⟨gt, M * 2, none⟩ = some (.bool mk) ∧ w'.cell? ⟨gt, M * 2 + 1, none⟩ = some (.int .i64 rn)) 13 [(0, 1), (1, 1), (2, 1), (3, 0), (4, 1), (5, 1), (6, 1), (7, 0), (8, 1), (9, 1), (10, 1), (11, 0), (12, 2), (13, 2)] (by kernel_rfl) (by kernel_rfl) ?_ ?_
      · exact HC4.out wr.drew (Fr.refl _ _).drew
      repeat (first | (refine eff_off (by rfl) (by rfl) ?_; (try simp only [Act.put, List.setIfInBounds_toArray, List.set_cons_zero, List.set_cons_succ])) | (refine eff_off0 (by rfl) (by rfl) ?_; (try simp only [Act.put, List.setIfInBounds_toArray, List.set_cons_zero, List.set_cons_succ])) | (refine eff_pu ?_ (by rfl) (by rfl) ?_ ?_; rotate_left; (focus (intro w'; go_simp; (try with_reducible rfl); done)); (try simp only [Act.put, List.setIfInBounds_toArray, List.set_cons_zero, List.set_cons_succ])) | (refine eff_rd ?_ (by rfl) (by rfl) ?_ ?_; rotate_left; (focus (intro w' hS; (try obtain ⟨hq1, hS⟩ := hS); (try obtain ⟨hq2, hS⟩ := hS); (try obtain ⟨hq3, hS⟩ := hS); (try obtain ⟨hq4, hS⟩ := hS); (try obtain ⟨hq5, hS⟩ := hS); (try obtain ⟨hq6, hS⟩ := hS); (try obtain ⟨hq7, hS⟩ := hS); (try obtain ⟨hq8, hS⟩ := hS); (try obtain ⟨hq9, hS⟩ := hS); (try obtain ⟨hq10, hS⟩ := hS); (try obtain ⟨hq11, hS⟩ := hS); (try obtain ⟨hq12, hS⟩ := hS); (try obtain ⟨hq13, hS⟩ := hS); (try obtain ⟨hq14, hS⟩ := hS); (try obtain ⟨hq15, hS⟩ := hS); (try obtain ⟨hq16, hS⟩ := hS); (try obtain ⟨hq17, hS⟩ := hS); (try obtain ⟨hq18, hS⟩ := hS); (try obtain ⟨hq19, hS⟩ := hS); (try dsimp only at hS); go_simp; (try with_reducible rfl); done)); (try simp only [Act.put, List.setIfInBounds_toArray, List.set_cons_zero, List.set_cons_succ])))
      refine eff_run (v := .pointer (some ⟨wr.heap.size, 0, none⟩)) (W' := wr.drew.alloc (.cells #[.bool false, .int .i64 0] 97)) (by rfl) (by rfl) (by go_simp) (fun _ => HC4.out _ ((Fr.refl _ _).drew.alloc _)) ?_
      (try simp only [Act.put, List.setIfInBounds_toArray, List.set_cons_zero, List.set_cons_succ])
      repeat (first | (refine eff_off (by rfl) (by rfl) ?_; (try simp only [Act.put, List.setIfInBounds_toArray, List.set_cons_zero, List.set_cons_succ])) | (refine eff_off0 (by rfl) (by rfl) ?_; (try simp only [Act.put, List.setIfInBounds_toArray, List.set_cons_zero, List.set_cons_succ])) | (refine eff_pu ?_ (by rfl) (by rfl) ?_ ?_; rotate_left; (focus (intro w'; go_simp; (try with_reducible rfl); done)); (try simp only [Act.put, List.setIfInBounds_toArray, List.set_cons_zero, List.set_cons_succ])) | (refine eff_rd ?_ (by rfl) (by rfl) ?_ ?_; rotate_left; (focus (intro w' hS; (try obtain ⟨hq1, hS⟩ := hS); (try obtain ⟨hq2, hS⟩ := hS); (try obtain ⟨hq3, hS⟩ := hS); (try obtain ⟨hq4, hS⟩ := hS); (try obtain ⟨hq5, hS⟩ := hS); (try obtain ⟨hq6, hS⟩ := hS); (try obtain ⟨hq7, hS⟩ := hS); (try obtain ⟨hq8, hS⟩ := hS); (try obtain ⟨hq9, hS⟩ := hS); (try obtain ⟨hq10, hS⟩ := hS); (try obtain ⟨hq11, hS⟩ := hS); (try obtain ⟨hq12, hS⟩ := hS); (try obtain ⟨hq13, hS⟩ := hS); (try obtain ⟨hq14, hS⟩ := hS); (try obtain ⟨hq15, hS⟩ := hS); (try obtain ⟨hq16, hS⟩ := hS); (try obtain ⟨hq17, hS⟩ := hS); (try obtain ⟨hq18, hS⟩ := hS); (try obtain ⟨hq19, hS⟩ := hS); (try dsimp only at hS); go_simp; (try with_reducible rfl); done)); (try simp only [Act.put, List.setIfInBounds_toArray, List.set_cons_zero, List.set_cons_succ])))
      refine eff_skip (W' := wr.drew.alloc (.cells #[.bool mk, .int .i64 rn] 97)) (by rfl) (by rfl) (by go_simp) (fun h => absurd rfl h) ?_
      (try simp only [Act.put, List.setIfInBounds_toArray, List.set_cons_zero, List.set_cons_succ])
      refine eff_nil ?_
      have fq : Fr NoB wr (wr.drew.alloc (.cells #[.bool mk, .int .i64 rn] 97)) := (Fr.refl _ _).drew.alloc _
      have U2 := hid (U1.out.quiet fq)
      have hT2 := hid (OwnE.step hT.out fq)
      have Q2 := hid (at_new wr.drew (.cells #[.bool mk, .int .i64 rn] 97))
      have hQb : wr.heap.size ≠ bs := by omega
      obtain ⟨w5, hw5⟩ : ∃ q, wr.drew.alloc (.cells #[.bool mk, .int .i64 rn] 97) = q := ⟨_, rfl⟩
      obtain ⟨Q, hQ⟩ : ∃ q, wr.heap.size = q := ⟨_, rfl⟩
      rw [hw5] at U2 hT2 Q2 ⊢
      rw [show wr.drew.heap.size = wr.heap.size from rfl, hQ] at Q2
      rw [hQ] at hQb ⊢
      clear hw5 hQ fq HC4 c2 s0 s1 cf cl lgt U1 hT
      obtain ⟨c0, c1, c2, cf, cl⟩ := three_of U2.out.hd
      have U3 := hid ((U2.out.quiet (Fr.refl NoB w5).drew).trl0 (OwnE.step hT2.out (Fr.refl NoB w5).drew) rfl)
      have HC5 : Hid (∀ w', Fr NoB w5 w' → w'.cell? ⟨bs, 2, none⟩ = some (.slice (some ⟨gt, 0, none⟩) (M + 1) tc)) := fun w' hf => hf.cf c2
      go_wp2
      refine region_eff (fun w' => w'.cell? ⟨bs, 2, none⟩ = some (.slice (some ⟨gt, 0, none⟩) (M + 1) tc)) 14 [(0, 1), (1, 1), (2, 1), (3, 1), (4, 0), (5, 1), (6, 1), (7, 1), (8, 0), (9, 1), (10, 1), (11, 1), (12, 1), (13, 1), (14, 2)] (by kernel_rfl) (by kernel_rfl) ?_ ?_
      · exact HC5.out w5.drew (Fr.refl _ _).drew
      repeat (first | (refine eff_off (by rfl) (by rfl) ?_; (try simp only [Act.put, List.setIfInBounds_toArray, List.set_cons_zero, List.set_cons_succ])) | (refine eff_off0 (by rfl) (by rfl) ?_; (try simp only [Act.put, List.setIfInBounds_toArray, List.set_cons_zero, List.set_cons_succ])) | (refine eff_pu ?_ (by rfl) (by rfl) ?_ ?_; rotate_left; (focus (intro w'; go_simp; (try with_reducible rfl); done)); (try simp only [Act.put, List.setIfInBounds_toArray, List.set_cons_zero, List.set_cons_succ])) | (refine eff_rd ?_ (by rfl) (by rfl) ?_ ?_; rotate_left; (focus (intro w' hS; (try obtain ⟨hq1, hS⟩ := hS); (try obtain ⟨hq2, hS⟩ := hS); (try obtain ⟨hq3, hS⟩ := hS); (try obtain ⟨hq4, hS⟩ := hS); (try obtain ⟨hq5, hS⟩ := hS); (try obtain ⟨hq6, hS⟩ := hS); (try obtain ⟨hq7, hS⟩ := hS); (try obtain ⟨hq8, hS⟩ := hS); (try obtain ⟨hq9, hS⟩ := hS); (try obtain ⟨hq10, hS⟩ := hS); (try obtain ⟨hq11, hS⟩ := hS); (try obtain ⟨hq12, hS⟩ := hS); (try obtain ⟨hq13, hS⟩ := hS); (try obtain ⟨hq14, hS⟩ := hS); (try obtain ⟨hq15, hS⟩ := hS); (try obtain ⟨hq16, hS⟩ := hS); (try obtain ⟨hq17, hS⟩ := hS); (try obtain ⟨hq18, hS⟩ := hS); (try obtain ⟨hq19, hS⟩ := hS); (try dsimp only at hS); go_simp; (try with_reducible rfl); done)); (try simp only [Act.put, List.setIfInBounds_toArray, List.set_cons_zero, List.set_cons_succ])))
      refine eff_skip (W' := w5.drew.setCell ⟨bs, 2, none⟩ (.slice (some ⟨gt, 0, none⟩) M tc)) (by rfl) (by rfl) (by go_simp) (fun h => absurd rfl h) ?_
      (try simp only [Act.put, List.setIfInBounds_toArray, List.set_cons_zero, List.set_cons_succ])
      refine eff_nil ?_
      have f6 : Fr (fun k => k = bs) w5 (w5.drew.setCell ⟨bs, 2, none⟩ (.slice (some ⟨gt, 0, none⟩) M tc)) := (Fr.refl (fun k => k = bs) w5).drew.setCell (p := ⟨bs, 2, none⟩) (fun _ => rfl) _
      have Q3 := hid (f6.at hQb Q2.out)
      obtain ⟨w6, hw6⟩ : ∃ q, w5.drew.setCell ⟨bs, 2, none⟩ (.slice (some ⟨gt, 0, none⟩) M tc) = q := ⟨_, rfl⟩
      rw [hw6] at U3 Q3 ⊢
      clear hw6 f6 HC5 c0 c1 c2 cf cl U2 Q2 hT2 w1 w2
      have q0 : w6.cell? ⟨Q, 0, none⟩ = some (.bool mk) := by simp [World.cell?, Q3.out]
      have q1 : w6.cell? ⟨Q, 1, none⟩ = some (.int .i64 rn) := by simp [World.cell?, Q3.out]
      have lq := lt_of_cell q0
      obtain ⟨pp, pq, hsp⟩ := U3.out.op.form
      subst hsp
      obtain ⟨gp, hpp, hpc⟩ : ∃ g, pp = some ⟨g, 0, none⟩ ∧ A.par.length ≤ pq := by
        rcases U3.out.op.form' with ⟨_, h2⟩ | ⟨g, cap, h3, _, _, hc⟩
        · rw [h2] at r1; simp at r1; omega
        · simp only [Value.slice.injEq] at h3
          exact ⟨g, h3.1, by rw [h3.2.2]; exact hc⟩
      subst hpp
      obtain ⟨c0, c1, c2, cf, cl⟩ := three_of U3.out.hd
      clear c0 c2
      have HMN : Hid (n + g = M) := hM
      obtain ⟨pl, hpl⟩ : ∃ k, A.par.length = k := ⟨_, rfl⟩
      have HPL := hid hpl
      rw [hpl] at c1 r1 hpc
      clear hM hM1 hpl
      have HAT2 : Hid (A.tr.take M = (u.undo M).tr) := by show _ = _; rw [HAT.out, HST.out]
      cases mk with
      | true =>
        have hrc : rn ≤ pq := by omega
        have hrc2 : (rn : Int) ≤ (pq : Int) := by omega
        have U4 := hid ((U3.out.quiet (Fr.refl NoB w6).drew).par0 (p' := A.par.take rn) (v6 := .slice (some ⟨gp, 0, none⟩) rn pq) (OwnI.takeN (U3.out.op.fr (Fr.refl NoB w6).drew (fun _ _ h => h)) (by rw [HPL.out]; omega)) rfl)
        have HB : Hid ((u.undo M).par = A.par.take rn) := by show _ = _; rw [HST.out]; unfold Uf.back; simp
        have HC7 : Hid (∀ w', Fr NoB w6 w' → w'.cell? ⟨bs, 1, none⟩ = some (.slice (some ⟨gp, 0, none⟩) A.par.length pq) ∧ w'.cell? ⟨Q, 1, none⟩ = some (.int .i64 rn)) := fun w' hf => ⟨by rw [HPL.out]; exact hf.cf c1, hf.cf q1⟩
        go_wp2
        refine region_eff (fun w' => w'.cell? ⟨bs, 1, none⟩ = some (.slice (some ⟨gp, 0, none⟩) A.par.length pq) ∧ w'.cell? ⟨Q, 1, none⟩ = some (.int .i64 rn)) 10 [(0, 1), (1, 1), (2, 1), (3, 1), (4, 0), (5, 1), (6, 0), (7, 1), (8, 1), (9, 1), (10, 2)] (by kernel_rfl) (by kernel_rfl) ?_ ?_
        · exact HC7.out w6.drew (Fr.refl _ _).drew
        repeat (first | (refine eff_off (by rfl) (by rfl) ?_; (try simp only [Act.put, List.setIfInBounds_toArray, List.set_cons_zero, List.set_cons_succ])) | (refine eff_off0 (by rfl) (by rfl) ?_; (try simp only [Act.put, List.setIfInBounds_toArray, List.set_cons_zero, List.set_cons_succ])) | (refine eff_pu ?_ (by rfl) (by rfl) ?_ ?_; rotate_left; (focus (intro w'; go_simp; (try with_reducible rfl); done)); (try simp only [Act.put, List.setIfInBounds_toArray, List.set_cons_zero, List.set_cons_succ])) | (refine eff_rd ?_ (by rfl) (by rfl) ?_ ?_; rotate_left; (focus (intro w' hS; (try obtain ⟨hq1, hS⟩ := hS); (try obtain ⟨hq2, hS⟩ := hS); (try obtain ⟨hq3, hS⟩ := hS); (try obtain ⟨hq4, hS⟩ := hS); (try obtain ⟨hq5, hS⟩ := hS); (try obtain ⟨hq6, hS⟩ := hS); (try obtain ⟨hq7, hS⟩ := hS); (try obtain ⟨hq8, hS⟩ := hS); (try obtain ⟨hq9, hS⟩ := hS); (try obtain ⟨hq10, hS⟩ := hS); (try obtain ⟨hq11, hS⟩ := hS); (try obtain ⟨hq12, hS⟩ := hS); (try obtain ⟨hq13, hS⟩ := hS); (try obtain ⟨hq14, hS⟩ := hS); (try obtain ⟨hq15, hS⟩ := hS); (try obtain ⟨hq16, hS⟩ := hS); (try obtain ⟨hq17, hS⟩ := hS); (try obtain ⟨hq18, hS⟩ := hS); (try obtain ⟨hq19, hS⟩ := hS); (try dsimp only at hS); go_simp; (try with_reducible rfl); done)); (try simp only [Act.put, List.setIfInBounds_toArray, List.set_cons_zero, List.set_cons_succ])))
        refine eff_skip (W' := w6.drew.setCell ⟨bs, 1, none⟩ (.slice (some ⟨gp, 0, none⟩) rn pq)) (by rfl) (by rfl) (by go_simp) (fun h => absurd rfl h) ?_
        (try simp only [Act.put, List.setIfInBounds_toArray, List.set_cons_zero, List.set_cons_succ])
        refine eff_nil ?_
        clear c1 q0 q1 lq cf cl HC7
        go_wp2
        go_roundg g
        case rel => exact ⟨_, _, by have := HMN.out; omega, by rw [HMN.out, HB.out, ← HAT2.out]; exact U4⟩
        case measure => omega
      | false =>
        have hri : (rn : Int) < (pl : Int) := r1
        have hrn : rn < pl := by omega
        have cz := U3.out.op.cell (i := rn) (by rw [HPL.out]; omega)
        have fz := U3.out.op.frozen rn
        have U4 := hid ((U3.out.quiet (Fr.refl NoB w6).drew).put rn rn)
        have HB : Hid ((u.undo M).par = A.par.set rn rn) := by show _ = _; rw [HST.out]; unfold Uf.back; simp
        have HC7 : Hid (∀ w', Fr NoB w6 w' → w'.cell? ⟨bs, 1, none⟩ = some (.slice (some ⟨gp, 0, none⟩) pl pq) ∧ w'.cell? ⟨Q, 1, none⟩ = some (.int .i64 rn)) := fun w' hf => ⟨hf.cf c1, hf.cf q1⟩
        have lg := lt_of_cell cz
        go_wp2
        refine region_eff (fun w' => w'.cell? ⟨bs, 1, none⟩ = some (.slice (some ⟨gp, 0, none⟩) pl pq) ∧ w'.cell? ⟨Q, 1, none⟩ = some (.int .i64 rn)) 9 [(0, 1), (1, 1), (2, 1), (3, 0), (4, 1), (5, 0), (6, 1), (7, 0), (8, 1), (9, 2)] (by kernel_rfl) (by kernel_rfl) ?_ ?_
        · exact HC7.out w6.drew (Fr.refl _ _).drew
        repeat (first | (refine eff_off (by rfl) (by rfl) ?_; (try simp only [Act.put, List.setIfInBounds_toArray, List.set_cons_zero, List.set_cons_succ])) | (refine eff_off0 (by rfl) (by rfl) ?_; (try simp only [Act.put, List.setIfInBounds_toArray, List.set_cons_zero, List.set_cons_succ])) | (refine eff_pu ?_ (by rfl) (by rfl) ?_ ?_; rotate_left; (focus (intro w'; go_simp; (try with_reducible rfl); done)); (try simp only [Act.put, List.setIfInBounds_toArray, List.set_cons_zero, List.set_cons_succ])) | (refine eff_rd ?_ (by rfl) (by rfl) ?_ ?_; rotate_left; (focus (intro w' hS; (try obtain ⟨hq1, hS⟩ := hS); (try obtain ⟨hq2, hS⟩ := hS); (try obtain ⟨hq3, hS⟩ := hS); (try obtain ⟨hq4, hS⟩ := hS); (try obtain ⟨hq5, hS⟩ := hS); (try obtain ⟨hq6, hS⟩ := hS); (try obtain ⟨hq7, hS⟩ := hS); (try obtain ⟨hq8, hS⟩ := hS); (try obtain ⟨hq9, hS⟩ := hS); (try obtain ⟨hq10, hS⟩ := hS); (try obtain ⟨hq11, hS⟩ := hS); (try obtain ⟨hq12, hS⟩ := hS); (try obtain ⟨hq13, hS⟩ := hS); (try obtain ⟨hq14, hS⟩ := hS); (try obtain ⟨hq15, hS⟩ := hS); (try obtain ⟨hq16, hS⟩ := hS); (try obtain ⟨hq17, hS⟩ := hS); (try obtain ⟨hq18, hS⟩ := hS); (try obtain ⟨hq19, hS⟩ := hS); (try dsimp only at hS); go_simp; (try with_reducible rfl); done)); (try simp only [Act.put, List.setIfInBounds_toArray, List.set_cons_zero, List.set_cons_succ])))
        refine eff_skip (W' := w6.drew.setCell ⟨gp, rn, none⟩ (.int .i64 rn)) (by rfl) (by rfl) (by go_simp) (fun h => absurd rfl h) ?_
        (try simp only [Act.put, List.setIfInBounds_toArray, List.set_cons_zero, List.set_cons_succ])
        refine eff_nil ?_
        clear c1 q0 q1 lq cf cl HC7 cz fz lg
        go_wp2
        go_roundg g
        case rel => exact ⟨_, _, by have := HMN.out; omega, by rw [HMN.out, HB.out, ← HAT2.out]; exact U4⟩
        case measure => omega
end
end Go.Proofs.YtlekoceindepnaaGreatDoor
end
section
/- The walk of egraph's drop. -/
namespace Go.Proofs.YtlekoceindepnaaGreatDoor
open Go.RowKit
set_option maxRecDepth 100000

def dropUser (us : List (List Int)) (id a : Int) : List (List Int) := if (us.getD a.toNat []).getLast? = some id then us.set a.toNat (us.getD a.toNat []).dropLast else us
def dropUsers (us : List (List Int)) (id : Int) (l : List Int) : List (List Int) := l.foldl (fun us a => dropUser us id a) us
theorem dropUser_len (us : List (List Int)) (id a : Int) : (dropUser us id a).length = us.length := by unfold dropUser; split <;> simp
theorem dropUsers_len (id : Int) : ∀ (l : List Int) (us : List (List Int)), (dropUsers us id l).length = us.length
  | [], _ => rfl
  | a :: l, us => (dropUsers_len id l (dropUser us id a)).trans (dropUser_len us id a)
theorem dropUsers_snoc (us : List (List Int)) (id : Int) {l : List Int} {k : Nat} (hk : k < l.length) : dropUsers us id (l.take (k + 1)) = dropUser (dropUsers us id (l.take k)) id (l.getD k 0) := by
  unfold dropUsers
  rw [List.take_add_one, List.foldl_append, List.getElem?_eq_getElem hk]
  simp [List.getD_eq_getElem?_getD, List.getElem?_eq_getElem hk]
def vdel (vs : List (ByteArray × Int)) (nm : ByteArray) : List (ByteArray × Int) := vs.filter (fun p => decide (p.1 ≠ nm))
theorem vdel_mdel (vs : List (ByteArray × Int)) (nm : ByteArray) : mdel (vs.map fun p => (p.1, Value.int .i64 p.2)) nm = (vdel vs nm).map fun p => (p.1, Value.int .i64 p.2) := by
  unfold mdel vdel
  rw [List.filter_map]; rfl
def drop1 (s : GS) (n : Node) : GS := { s with exact := tdelS s.exact n, vars := if n.op = 1 then vdel s.vars n.name else s.vars }
def drop2 (s : GS) (n : Node) (id : Nat) : GS := { s with users := dropUsers s.users id n.args }
def cutS (s : GS) (id : Nat) : GS := { s with nodes := s.nodes.take id, keys := s.keys.take id, users := s.users.take id }
def dropS (s : GS) (id : Nat) : GS := cutS (drop2 (drop1 s (nodeAt s.nodes id)) (nodeAt s.nodes id) id) id
section
variable {c0 c c' : Col} {w W W' : World} {bg bc : Nat} {h h' : GH} {s s' : GS}
theorem AdW.delX_any (a : AdW c0 w bg bc c W h s) (n : Node) (v : Value) (hr : RdI NoB W v n.args) (hok : NodeOk n) (hsm : NodeSm n) :
    Calls Tryz.prog 67 #[.pointer (some ⟨h.be, 0, none⟩), nodeV n v] W fun e w' => (∃ b, e = .returned (.bool b)) ∧ TurnTo c0 w bg bc c W h { s with exact := tdelS s.exact n } w' ∧ ∃ bm, c bm = 5 ∧ Fr (fun k => k = bm) W w' := by
  obtain ⟨bm, l, h1, h2, h3, h4, h5⟩ := a.g.exact
  cases hg : tget l n with
  | none =>
    refine (del_none _ NoB W h.be bm l h1 n v hr hok hsm a.tab hg).mono ?_
    rintro e w' ⟨rfl, hf⟩
    have hn : tgetS s.exact n = none := by rw [tgetS_of h2, hg]; rfl
    refine ⟨⟨_, rfl⟩, ⟨c, ?_, hf.mono (fun _ _ h => h.elim), Ext.refl _ _⟩, bm, h4, hf.mono (fun _ _ h => h.elim)⟩
    rw [tdelS_none hn]
    exact a.quiet hf
  | some x =>
    refine (del_some _ NoB W h.be bm l (tbl_old h1) n v hr hok hsm a.tab x hg ⟨h1.map.lt, by rw [h4]; decide⟩ h5).mono ?_
    rintro e w' ⟨rfl, h6, h7⟩
    have f : Fr (Mut c) W w' := h7.mono (fun k _ hk => by rw [show k = bm from hk]; exact Mut.of (by decide) h4)
    exact ⟨⟨_, rfl⟩, ⟨_, a.turn (a.g.setExact h6 h7 h3 h4 h5 (tdelS_of h2 n) h1.lt h1.map.lt) f (Ext.paint _ _ _ _), f, Ext.paint _ _ _ _⟩, bm, h4, h7⟩
theorem AdW.delV (a : AdW c0 w bg bc c W h s) (nm : ByteArray) (ty : TypeId) :
    ∃ w', (Builtin.delete_ #[63, 9] ty #[.map (some h.bv), .string nm]).run Tryz.prog W = .ok (.tuple #[]) w' ∧ AdW c0 w bg bc c w' h { s with vars := vdel s.vars nm } ∧ Fr (fun k => k = h.bv) W w' := by
  obtain ⟨w', e1, e2, e3⟩ := a.g.vars.1.del (P := Tryz.prog) kkString Tryz.underlying63 Tryz.underlying9 nm ty 9
  rw [vdel_mdel] at e2
  have f : Fr (Mut c) W w' := e3.mono (fun q _ hq => by rw [show q = h.bv from hq]; exact Mut.of (by decide) a.g.vars.2)
  exact ⟨w', e1, a.turn (a.g.setVars e2 e3) f (Ext.refl _ _), e3⟩
theorem AdW.cutN (a : AdW c0 w bg bc c W h s) {p : Option Addr} {n q k : Nat} (hv : h.vn = .slice p n q) (hk : k ≤ s.nodes.length) :
    ∃ c', AdW c0 w bg bc c' (W.setCell ⟨bc, 1, none⟩ (.slice p k q)) { h with vn := .slice p k q } { s with nodes := s.nodes.take k } := by
  obtain ⟨d, e1, e2, e3, e4⟩ := a.g.nodes
  have hdl : d.length = s.nodes.length := by rw [← e1, List.length_map]
  rw [hv] at e2
  have hb : (Value.slice p k q).ownBlock = h.vn.ownBlock := by rw [hv]; cases p <;> rfl
  obtain ⟨K, g'⟩ := a.g.setNodes (W6 := W) (Fr.refl _ _) (OwnE.takeN nsLen e2 (k := k) (by omega)) (.inl hb) (d' := d.take k) (ns' := s.nodes.take k) (by rw [List.map_take, e1]) (fun x hx => e4 x (List.mem_of_mem_take hx))
  exact ⟨_, a.turn g' K.fr K.ext⟩
theorem AdW.cutK (a : AdW c0 w bg bc c W h s) {p : Option Addr} {n q k : Nat} (hv : h.vk = .slice p n q) (hk : k ≤ s.keys.length) :
    ∃ c', AdW c0 w bg bc c' (W.setCell ⟨bc, 2, none⟩ (.slice p k q)) { h with vk := .slice p k q } { s with keys := s.keys.take k } := by
  obtain ⟨d, e1, e2, e3, e4⟩ := a.g.keys
  have hdl : d.length = s.keys.length := by rw [← e1, List.length_map]
  rw [hv] at e2
  have hb : (Value.slice p k q).ownBlock = h.vk.ownBlock := by rw [hv]; cases p <;> rfl
  obtain ⟨K, g'⟩ := a.g.setKeys (W6 := W) (Fr.refl _ _) (OwnE.takeN nsLen e2 (k := k) (by omega)) (.inl hb) (d' := d.take k) (ns' := s.keys.take k) (by rw [List.map_take, e1]) (fun x hx => e4 x (List.mem_of_mem_take hx))
  exact ⟨_, a.turn g' K.fr K.ext⟩
theorem getD_takeA {α : Type} {l : List α} {d : α} {k i : Nat} (h : i < k) : (l.take k).getD i d = l.getD i d := by
  rw [List.getD_eq_getElem?_getD, List.getD_eq_getElem?_getD, List.getElem?_take, if_pos h]
theorem AdW.cutU (a : AdW c0 w bg bc c W h s) {p : Option Addr} {n q k : Nat} (hv : h.vu = .slice p n q) (hk : k ≤ s.users.length) :
    ∃ c', AdW c0 w bg bc c' (W.setCell ⟨bc, 3, none⟩ (.slice p k q)) { h with vu := .slice p k q } { s with users := s.users.take k } := by
  obtain ⟨svs, u⟩ := a.g.users
  have e2 := u.row
  rw [hv] at e2
  have hb : (Value.slice p k q).ownBlock = h.vu.ownBlock := by rw [hv]; cases p <;> rfl
  have hsl := u.len
  have hul : (s.users.take k).length = k := by rw [List.length_take]; omega
  obtain ⟨K, g'⟩ := a.g.setUsers (W6 := W) (svs' := svs.take k) (us' := s.users.take k) u.col (fun b hb => OwnE.head u.row hb) (Fr.refl _ _) (OwnE.takeN (enc := rowC) (sz := 1) (fun _ => rfl) e2 (k := k) (by omega)) (.inl hb) (by rw [List.length_take, List.length_take, hsl])
    (fun i hi => by rw [hul] at hi; rw [getD_takeA hi, getD_takeA hi]; exact u.rows i (by omega))
    (fun i j hi hj hij => by rw [hul] at hi hj; rw [getD_takeA hi, getD_takeA hj]; exact u.apart i j (by omega) (by omega) hij)
  exact ⟨_, a.turn g' K.fr K.ext⟩
theorem dropUser_rows {us : List (List Int)} {id a : Int} {B : Nat} (h : ∀ l ∈ us, l.length ≤ B) : ∀ l ∈ dropUser us id a, l.length ≤ B := fun l hl => by
  unfold dropUser at hl
  split at hl
  · next e =>
    rcases List.mem_or_eq_of_mem_set hl with h9 | h9
    · exact h l h9
    · rw [h9, List.length_dropLast]
      by_cases e9 : a.toNat < us.length
      · have h8 := h _ (List.getElem_mem e9)
        have e8 : us.getD a.toNat [] = us[a.toNat] := by rw [List.getD_eq_getElem?_getD, List.getElem?_eq_getElem e9]; rfl
        rw [e8]; omega
      · rw [List.getD_eq_getElem?_getD, List.getElem?_eq_none (by omega)]; simp
  · exact h l hl
theorem dropUsers_rows (id : Int) (B : Nat) : ∀ (al : List Int) (us : List (List Int)), (∀ l ∈ us, l.length ≤ B) → ∀ l ∈ dropUsers us id al, l.length ≤ B
  | [], us, h => h
  | a :: al, us, h => dropUsers_rows id B al (dropUser us id a) (dropUser_rows h)
theorem AdW.turnU (a : AdW c0 w bg bc c W h s) {us : List (List Int)} (t3 : GIs (paint c W W 3) W' bc h { s with users := us }) (t4 : Fr (fun k => c k = 3) W W') : AdW c0 w bg bc (paint c W W 3) W' h { s with users := us } :=
  a.turn t3 (t4.mono (fun _ _ e => Mut.of (by decide) e)) (Ext.paint _ _ _ _)
theorem NodesAt.slice {c : Col} {i : Nat} {w : World} {v : Value} {ns : List Node} (h : NodesAt c i w v ns) : ∃ p n q, v = .slice p n q ∧ ns.length ≤ q := by
  obtain ⟨d, h1, h2, _⟩ := h
  have hl : d.length = ns.length := by rw [← h1, List.length_map]
  rcases OwnE.form' h2 with ⟨h3, h4⟩ | ⟨g, cap, h3, _, _, hc⟩
  · exact ⟨_, _, _, h3, by rw [← hl, h4]; exact Nat.zero_le _⟩
  · exact ⟨_, _, _, h3, by rw [← hl]; exact hc⟩
theorem UsersAt.slice {c : Col} {w : World} {v : Value} {us : List (List Int)} (h : UsersAt c w v us) : ∃ p n q, v = .slice p n q ∧ us.length ≤ q := by
  obtain ⟨svs, u⟩ := h
  rcases OwnE.form' u.row with ⟨h3, h4⟩ | ⟨g, cap, h3, _, _, hc⟩
  · exact ⟨_, _, _, h3, by rw [← u.len, h4]; exact Nat.zero_le _⟩
  · exact ⟨_, _, _, h3, by rw [← u.len]; exact hc⟩
set_option maxHeartbeats 16000000 in
theorem drop_any (a : AdW c W bg bc c W h s) (id : Nat) (hid9 : id < s.nodes.length) (hkl : s.keys.length = s.nodes.length) (hul : s.users.length = s.nodes.length) (hok : NodeOk (nodeAt s.nodes id) ∧ NodeSm (nodeAt s.nodes id)) (hin : ∀ x ∈ (nodeAt s.nodes id).args, 0 ≤ x ∧ x < (s.users.length : Int)) (hrw : ∀ l ∈ s.users, l.length ≤ 1000000000) :
    Calls Tryz.prog 47 #[.pointer (some ⟨bc, 0, none⟩), .int .i64 id] W fun e w' => e = .returned (.tuple #[]) ∧ ∃ c' h', AdW c W bg bc c' w' h' (dropS s id) := by
  have A1 := hid a
  obtain ⟨R, hR⟩ : ∃ R, Hid (R = dropS s id) := ⟨_, hid rfl⟩
  rw [← hR.out]
  have HKL := hid hkl
  have HUL := hid hul
  have HRW := hid hrw
  obtain ⟨n, hn⟩ : ∃ n, Hid (nodeAt s.nodes id = n) := ⟨_, hid rfl⟩
  rw [hn.out] at hok hin
  have HIN := hid hin
  have HOK := hid hok
  obtain ⟨dn, hd1, hd2, hd3, hd4⟩ := A1.out.g.nodes
  have hdl : dn.length = s.nodes.length := by rw [← hd1, List.length_map]
  have hpl : id < dn.length := by rw [hdl]; exact hid9
  have HID := hid hid9
  obtain ⟨np, nc, hvn⟩ := OwnE.form hd2
  have hrdn : RdN NoB W h.vn dn := OwnE.rdN hd2 (fun _ _ h => h) (fun x hx => (hd4 x hx).weaken (fun _ _ h => h.elim))
  rw [hvn] at hrdn
  obtain ⟨b, off, hpp, e0, e1, e2, e3, e4, hargs⟩ := hrdn.nodeK hpl
  subst hpp
  have hnd : dn[id].1 = n := (nodeAt_of hd1 hpl).symm.trans hn.out
  obtain ⟨sl, hsl⟩ : ∃ sl, dn[id].2 = sl := ⟨_, rfl⟩
  have harg12 : RdI (fun k => c k ≠ 12) W sl n.args := by
    have := hd4 _ (List.getElem_mem hpl)
    rw [hnd, hsl] at this; exact this
  rw [hnd] at e0 e1 e2 e3 hargs
  rw [hsl] at e4 hargs
  obtain ⟨va, vc, hvv⟩ := hargs.form
  subst hvv
  have hla : n.args.length ≤ 1000000 := by have := hok.2.args; omega
  rw [hdl] at hvn
  obtain ⟨nl, hnl⟩ : ∃ k, s.nodes.length = k := ⟨_, rfl⟩
  rw [hnl] at hvn hid9
  have hpi : (id : Int) < (nl : Int) := by omega
  have HVN := hid hvn
  have k1 : W.cell? ⟨bc, 1, none⟩ = some h.vn := cells_at A1.out.g.head 1
  rw [hvn] at k1
  have kl := A1.out.g.lb
  have lb := lt_of_cell e0
  have FQ : Fr NoB W (W.alloc (.cells (nodeCells n (.slice va n.args.length vc)) 30)) := (Fr.refl NoB W).alloc _
  have A2 := hid (A1.out.quiet FQ)
  have L2 : Hid (Loc c (W.alloc (.cells (nodeCells n (.slice va n.args.length vc)) 30)) W.heap.size n (.slice va n.args.length vc) 12) :=
    ⟨at_new W _, Decidable.byContradiction fun hc => by have := A1.out.g.lt _ hc; omega, harg12.fr FQ (fun _ _ h => h.elim)⟩
  obtain ⟨y0, y1, y2, y3, y4, yf, yl⟩ := five_of (at_new W (.cells (nodeCells n (.slice va n.args.length vc)) 30))
  clear a hkl hul hok hin hrw hd1 hd2 hd3 hd4 hdl hpl hvn hrdn hnd hsl harg12 hargs FQ hnl A1
  go_enter Tryz.func47, Tryz.ntmps47
  go_wp2_with fail
  obtain ⟨w1, hw1⟩ : ∃ q, W.alloc (.cells (nodeCells n (.slice va n.args.length vc)) 30) = q := ⟨_, rfl⟩
  have hw1' := hw1
  simp only [nodeCells] at hw1'
  try rw [hw1']
  rw [hw1] at A2 L2
  obtain ⟨q, hq⟩ : ∃ q, W.heap.size = q := ⟨_, rfl⟩
  rw [hq] at L2 ⊢
  clear hw1 hw1' y0 y1 y2 y3 y4 yf yl e0 e1 e2 e3 e4 k1 kl lb hq
  have HS : Hid (∀ W', Fr NoB w1 W' → W'.cell? ⟨bc, 4, none⟩ = some (.pointer (some ⟨h.be, 0, none⟩)) ∧ W'.cell? ⟨q, 0, none⟩ = some (.int .i64 n.op) ∧ W'.cell? ⟨q, 1, none⟩ = some (.int .i64 n.width) ∧ W'.cell? ⟨q, 2, none⟩ = some (.int .u64 n.val) ∧ W'.cell? ⟨q, 3, none⟩ = some (.string n.name) ∧ W'.cell? ⟨q, 4, none⟩ = some (.slice va n.args.length vc)) := fun W' hf => by
    obtain ⟨x0, x1, x2, x3, x4⟩ := L2.out.see hf (fun b hb => hb.elim)
    exact ⟨cells_at (A2.out.g.see hf (fun b hb => hb.elim)) 4, x0, x1, x2, x3, x4⟩
  refine region_eff (fun W' => W'.cell? ⟨bc, 4, none⟩ = some (.pointer (some ⟨h.be, 0, none⟩)) ∧ W'.cell? ⟨q, 0, none⟩ = some (.int .i64 n.op) ∧ W'.cell? ⟨q, 1, none⟩ = some (.int .i64 n.width) ∧ W'.cell? ⟨q, 2, none⟩ = some (.int .u64 n.val) ∧ W'.cell? ⟨q, 3, none⟩ = some (.string n.name) ∧ W'.cell? ⟨q, 4, none⟩ = some (.slice va n.args.length vc)) 5 [(0, 1), (1, 1), (2, 1), (3, 0), (4, 0), (5, 2)] (by kernel_rfl) (by kernel_rfl) ?_ ?_
  · exact HS.out w1.drew (Fr.refl _ _).drew
  repeat (first | (refine eff_off (by rfl) (by rfl) ?_; (try simp only [Act.put, List.setIfInBounds_toArray, List.set_cons_zero, List.set_cons_succ])) | (refine eff_off0 (by rfl) (by rfl) ?_; (try simp only [Act.put, List.setIfInBounds_toArray, List.set_cons_zero, List.set_cons_succ])) | (refine eff_pu ?_ (by rfl) (by rfl) ?_ ?_; rotate_left; (focus (intro w'; go_simp; (try with_reducible rfl); done)); (try simp only [Act.put, List.setIfInBounds_toArray, List.set_cons_zero, List.set_cons_succ])) | (refine eff_rd ?_ (by rfl) (by rfl) ?_ ?_; rotate_left; (focus (intro w' hS; (try obtain ⟨hq1, hS⟩ := hS); (try obtain ⟨hq2, hS⟩ := hS); (try obtain ⟨hq3, hS⟩ := hS); (try obtain ⟨hq4, hS⟩ := hS); (try obtain ⟨hq5, hS⟩ := hS); (try obtain ⟨hq6, hS⟩ := hS); (try obtain ⟨hq7, hS⟩ := hS); (try obtain ⟨hq8, hS⟩ := hS); (try obtain ⟨hq9, hS⟩ := hS); (try obtain ⟨hq10, hS⟩ := hS); (try obtain ⟨hq11, hS⟩ := hS); (try obtain ⟨hq12, hS⟩ := hS); (try obtain ⟨hq13, hS⟩ := hS); (try obtain ⟨hq14, hS⟩ := hS); (try obtain ⟨hq15, hS⟩ := hS); (try obtain ⟨hq16, hS⟩ := hS); (try obtain ⟨hq17, hS⟩ := hS); (try obtain ⟨hq18, hS⟩ := hS); (try obtain ⟨hq19, hS⟩ := hS); (try dsimp only at hS); go_simp; (try with_reducible rfl); done)); (try simp only [Act.put, List.setIfInBounds_toArray, List.set_cons_zero, List.set_cons_succ])))
  refine eff_call 67 #[.pointer (some ⟨h.be, 0, none⟩), nodeV n (.slice va n.args.length vc)] (by rfl) (by rfl) (by intro w'; go_simp) ?_
  refine ((A2.out.quiet (Fr.refl NoB w1).drew).delX_any n (.slice va n.args.length vc) ((L2.out.quiet (Fr.refl NoB w1).drew (.inr rfl)).rd) HOK.out.1 HOK.out.2).mono ?_
  rintro e w2 ⟨⟨bb, rfl⟩, ⟨c2, N2, f2, x2⟩, bm, hbm, fbm⟩
  have A3 := hid N2
  have L3 := hid ((L2.out.quiet (Fr.refl NoB w1).drew (.inr rfl)).turn f2 x2 (.inr rfl))
  refine ⟨_, rfl, fun h => absurd rfl h, ?_⟩
  (try simp only [Act.put, List.setIfInBounds_toArray, List.set_cons_zero, List.set_cons_succ])
  refine eff_nil ?_
  clear fbm hbm N2 f2 x2 HS A2 L2
  obtain ⟨y0, y1, y2, y3, y4, yf, yl⟩ := five_of L3.out.box
  clear y1 y2 yf
  go_upto_if 23 with fail
  go_cut [] (fun wx => ∃ c3, Hid (AdW c W bg bc c3 wx h (drop1 s n)) ∧ Hid (Loc c3 wx q n (.slice va n.args.length vc) 12))
  case first =>
    by_cases hop : n.op = 1
    · have hopb : (n.op == 1) = true := by simp [hop]
      have E1 : Hid (drop1 s n = { { s with exact := tdelS s.exact n } with vars := vdel s.vars n.name }) := by
        show _ = _
        unfold drop1
        rw [if_pos hop]
      have HS7 : Hid (∀ W', Fr NoB w2 W' → W'.cell? ⟨bc, 7, none⟩ = some (.map (some h.bv)) ∧ W'.cell? ⟨q, 3, none⟩ = some (.string n.name)) := fun W' hf => by
        obtain ⟨x0, x1, x2, x3, x4⟩ := L3.out.see hf (fun b hb => hb.elim)
        exact ⟨cells_at (A3.out.g.see hf (fun b hb => hb.elim)) 7, x3⟩
      clear hop
      go_wp2
      refine region_eff (fun W' => W'.cell? ⟨bc, 7, none⟩ = some (.map (some h.bv)) ∧ W'.cell? ⟨q, 3, none⟩ = some (.string n.name)) 6 [(0, 1), (1, 1), (2, 1), (3, 0), (4, 1), (5, 0), (6, 2)] (by kernel_rfl) (by kernel_rfl) ?_ ?_
      · exact HS7.out w2.drew (Fr.refl _ _).drew
      repeat (first | (refine eff_off (by rfl) (by rfl) ?_; (try simp only [Act.put, List.setIfInBounds_toArray, List.set_cons_zero, List.set_cons_succ])) | (refine eff_off0 (by rfl) (by rfl) ?_; (try simp only [Act.put, List.setIfInBounds_toArray, List.set_cons_zero, List.set_cons_succ])) | (refine eff_pu ?_ (by rfl) (by rfl) ?_ ?_; rotate_left; (focus (intro w'; go_simp; (try with_reducible rfl); done)); (try simp only [Act.put, List.setIfInBounds_toArray, List.set_cons_zero, List.set_cons_succ])) | (refine eff_rd ?_ (by rfl) (by rfl) ?_ ?_; rotate_left; (focus (intro w' hS; (try obtain ⟨hq1, hS⟩ := hS); (try obtain ⟨hq2, hS⟩ := hS); (try obtain ⟨hq3, hS⟩ := hS); (try obtain ⟨hq4, hS⟩ := hS); (try obtain ⟨hq5, hS⟩ := hS); (try obtain ⟨hq6, hS⟩ := hS); (try obtain ⟨hq7, hS⟩ := hS); (try obtain ⟨hq8, hS⟩ := hS); (try obtain ⟨hq9, hS⟩ := hS); (try obtain ⟨hq10, hS⟩ := hS); (try obtain ⟨hq11, hS⟩ := hS); (try obtain ⟨hq12, hS⟩ := hS); (try obtain ⟨hq13, hS⟩ := hS); (try obtain ⟨hq14, hS⟩ := hS); (try obtain ⟨hq15, hS⟩ := hS); (try obtain ⟨hq16, hS⟩ := hS); (try obtain ⟨hq17, hS⟩ := hS); (try obtain ⟨hq18, hS⟩ := hS); (try obtain ⟨hq19, hS⟩ := hS); (try dsimp only at hS); go_simp; (try with_reducible rfl); done)); (try simp only [Act.put, List.setIfInBounds_toArray, List.set_cons_zero, List.set_cons_succ])))
      obtain ⟨w3, d1, d2, d3⟩ := (A3.out.quiet (Fr.refl NoB w2).drew).delV n.name 0
      have A4 := hid d2
      have L4 := hid ((L3.out.quiet (Fr.refl NoB w2).drew (.inr rfl)).turn (d3.mono (fun k _ e => by rw [show k = h.bv from e]; exact Mut.of (by decide) A3.out.g.vars.2)) (Ext.refl _ _) (.inr rfl))
      clear d2 d3
      refine eff_run (v := .tuple #[]) (W' := w3) (by rfl) (by rfl) (by go_simp) (fun h => absurd rfl h) ?_
      (try simp only [Act.put, List.setIfInBounds_toArray, List.set_cons_zero, List.set_cons_succ])
      refine eff_nil ?_
      clear d1
      go_wp2
      go_meet
      rw [E1.out]
      exact ⟨c2, A4, L4⟩
    · have hopb : (n.op == 1) = false := by simpa using hop
      have E1 : Hid (drop1 s n = { s with exact := tdelS s.exact n }) := by
        show _ = _
        unfold drop1
        rw [if_neg hop]
      clear hop
      go_wp2
      go_meet
      rw [E1.out]
      exact ⟨c2, A3, L3⟩
  case rest =>
    obtain ⟨c3, A4, L4⟩ := hcut
    clear A3 L3 y0 y3 y4 yl
    obtain ⟨s3, HS3⟩ : ∃ x : GS, Hid (x = drop1 s n) := ⟨_, hid rfl⟩
    rw [← HS3.out] at A4
    obtain ⟨y0, y1, y2, y3, y4, yf, yl⟩ := five_of L4.out.box
    clear y0 y1 y2 y3 yf
    have U0 : Hid (AdW c W bg bc c3 wc h { s3 with users := dropUsers s3.users id (n.args.take 0) }) := A4
    go_wp2
    clear y4 yl
    go_loopg [33] n.args.length (fun g i wr => ∃ (k : Nat) (c4 : Col), k + g = n.args.length ∧ i = .int .i64 k ∧ Hid (AdW c W bg bc c4 wr h { s3 with users := dropUsers s3.users id (n.args.take k) }) ∧ Hid (Loc c4 wr q n (.slice va n.args.length vc) 12))
    case atStart => exact ⟨0, c3, by omega, rfl, U0, L4⟩
    case round =>
      obtain ⟨k, c4, hk, rfl, MK, LK⟩ := hrel
      obtain ⟨us, hus⟩ : ∃ us, dropUsers s3.users id (n.args.take k) = us := ⟨_, rfl⟩
      have HUS := hid hus
      rw [hus] at MK
      have HUSL : Hid (us.length = s.users.length) := by
        show _ = _
        rw [← hus, dropUsers_len, HS3.out]; rfl
      have HURW : Hid (∀ l ∈ us, l.length ≤ 1000000000) := by
        show ∀ l ∈ us, _
        rw [← hus]
        exact dropUsers_rows _ _ _ _ (by rw [HS3.out]; exact HRW.out)
      clear hus
      cases gk with
      | succ g =>
        have hlt : k < n.args.length := by omega
        have hlt' : (k : Int) < (n.args.length : Int) := by omega
        obtain ⟨ba, oa', hpp, ka⟩ := LK.out.rd.cellK hlt
        subst hpp
        obtain ⟨y, hy⟩ : ∃ y, n.args.getD k 0 = y := ⟨_, rfl⟩
        have hyr := HIN.out _ (getD_mem hlt)
        rw [hy] at ka hyr
        have HY := hid hy
        have HKG := hid hk
        have HLT := hid hlt
        clear hy hk
        obtain ⟨yn, rfl⟩ : ∃ yn : Nat, y = yn := ⟨y.toNat, by omega⟩
        have hyn : yn < us.length := by have := HUSL.out; omega
        obtain ⟨gb, gcap, rp, rq, hvu, hcell, hrow, hrc, hcont⟩ := MK.out.g.look (a := yn) hyn
        simp only at hvu hcell hrow hrc hcont
        obtain ⟨L, hL⟩ : ∃ L, us.getD yn [] = L := ⟨_, rfl⟩
        rw [hL] at hcell hrow hrc hcont
        have HL := hid hL
        have HCO := hid hcont
        have HRO := hid hrow
        have HRC := hid hrc
        have HVU := hid hvu
        have k3 : wr.cell? ⟨bc, 3, none⟩ = some h.vu := cells_at MK.out.g.head 3
        rw [hvu] at k3
        have kl := MK.out.g.lb
        have HLL : Hid (L.length ≤ 1000000000) := by
          show _ ≤ _
          exact HURW.out L (by rw [← HL.out, List.getD_eq_getElem?_getD, List.getElem?_eq_getElem hyn]; exact List.getElem_mem _)
        have hw9 : IntKind.i64.wrap ((k : Int) + 1) = (k : Int) + 1 := by rw [IntKind.wrap_i64]; omega
        have hyn2 : (yn : Int) < (us.length : Int) := by omega
        clear hL hcont hrow hrc hvu hyr
        by_cases hL0 : L.length = 0
        · have HLn : Hid (L = []) := List.eq_nil_of_length_eq_zero hL0
          have hb0 : ¬ (0 : Int) < (L.length : Int) := by omega
          have HST : Hid (dropUsers s3.users id (n.args.take (k + 1)) = us) := by
            show _ = _
            rw [dropUsers_snoc _ _ HLT.out, HUS.out, HY.out]
            unfold dropUser
            rw [Int.toNat_natCast, HL.out, if_neg (by rw [HLn.out]; simp)]
          clear hL0 hlt
          go_wp2
          go_roundg g
          case rel => exact ⟨k + 1, _, by have := HKG.out; omega, by go_num, by rw [HST.out]; exact MK, LK⟩
          case measure => omega
        · obtain ⟨m, hm⟩ : ∃ m, L.length = m + 1 := ⟨L.length - 1, by omega⟩
          have hlast := last_at hm
          obtain ⟨z, hzl⟩ : ∃ z, L.getD m 0 = z := ⟨_, rfl⟩
          rw [hzl] at hlast
          have HLA := hid hlast
          obtain ⟨rb, hrs, hcap⟩ : ∃ rb, rp = some ⟨rb, 0, none⟩ ∧ L.length ≤ rq := by
            rcases HRO.out.form' with ⟨_, h2⟩ | ⟨g, cap, h3, _, _, hc⟩
            · rw [h2] at hL0; exact absurd rfl hL0
            · simp only [Value.slice.injEq] at h3
              exact ⟨g, h3.1, by rw [h3.2.2]; exact hc⟩
          subst hrs
          have cz := HRO.out.cell (i := m) (by omega)
          rw [hzl] at cz
          have HTK := hid (HRO.out.takeN (k := m) (by omega))
          have HDL : Hid (L.take m = L.dropLast) := by show _ = _; rw [List.dropLast_eq_take, hm]; rfl
          have hLb : L.length ≤ 1000000000 := HLL.out
          rw [hm] at hcell hLb hcap
          have HM := hid hm
          have hb0 : (0 : Int) < (m : Int) + 1 := by omega
          have hlm : (m : Int) < (m : Int) + 1 := by omega
          have hlm2 : m < m + 1 := by omega
          have w1 : IntKind.i64.wrap ((m : Int) + 1 - 1) = (m : Int) := by rw [IntKind.wrap_i64]; omega
          have w2 : IntKind.i64.wrap (m : Int) = (m : Int) := by rw [IntKind.wrap_i64]; omega
          have hc2 : m ≤ rq := by omega
          have hc3 : (m : Int) ≤ (rq : Int) := by omega
          clear hzl hlast hm hL0 hlt
          by_cases hzi : z = (id : Int)
          · have hb1 : (z == (id : Int)) = true := by simp [hzi]
            have HST : Hid (dropUsers s3.users id (n.args.take (k + 1)) = us.set yn L.dropLast) := by
              show _ = _
              rw [dropUsers_snoc _ _ HLT.out, HUS.out, HY.out]
              unfold dropUser
              rw [Int.toNat_natCast, HL.out, if_pos (by rw [HLA.out, hzi])]
            have HS : Hid (∀ w', Fr NoB wr w' → w'.cell? ⟨bc, 3, none⟩ = some (.slice (some ⟨gb, 0, none⟩) us.length gcap)) := fun w' hf => by
              have e3 : w'.cell? ⟨bc, 3, none⟩ = some h.vu := cells_at (MK.out.g.see hf (fun b hb => hb.elim)) 3
              rw [HVU.out] at e3
              exact e3
            obtain ⟨t1, t2, t3, t4⟩ := HCO.out wr.drew (.slice (some ⟨rb, 0, none⟩) m rq) L.dropLast (Fr.refl _ _).drew (by rw [← HDL.out]; exact HTK.out.fr (Fr.refl NoB wr).drew (fun _ _ h => h)) (.inl rfl)
            obtain ⟨z8, t2⟩ := t2
            have A5 : Hid (AdW c W bg bc (paint c4 wr wr.drew 3) (wr.drew.setCell ⟨gb, yn, none⟩ (.slice (some ⟨rb, 0, none⟩) m rq)) h { s3 with users := us.set yn L.dropLast }) := MK.out.turn t3 (t4.mono (fun _ _ e => Mut.of (by decide) e)) (Ext.paint _ _ _ _)
            have L5 := hid (LK.out.turn (t4.mono (fun _ _ e => Mut.of (by decide) e)) (Ext.paint c4 wr wr.drew 3) (.inr rfl))
            clear t3 t4
            go_wp2
            refine region_eff (fun w' => w'.cell? ⟨bc, 3, none⟩ = some (.slice (some ⟨gb, 0, none⟩) us.length gcap)) 11 [(0, 1), (1, 1), (2, 1), (3, 0), (4, 1), (5, 1), (6, 1), (7, 1), (8, 1), (9, 1), (10, 1), (11, 2)] (by kernel_rfl) (by kernel_rfl) ?_ ?_
            · exact HS.out wr.drew (Fr.refl _ _).drew
            repeat (first | (refine eff_off (by rfl) (by rfl) ?_; (try simp only [Act.put, List.setIfInBounds_toArray, List.set_cons_zero, List.set_cons_succ])) | (refine eff_off0 (by rfl) (by rfl) ?_; (try simp only [Act.put, List.setIfInBounds_toArray, List.set_cons_zero, List.set_cons_succ])) | (refine eff_pu ?_ (by rfl) (by rfl) ?_ ?_; rotate_left; (focus (intro w'; go_simp; (try with_reducible rfl); done)); (try simp only [Act.put, List.setIfInBounds_toArray, List.set_cons_zero, List.set_cons_succ])) | (refine eff_rd ?_ (by rfl) (by rfl) ?_ ?_; rotate_left; (focus (intro w' hS; (try obtain ⟨hq1, hS⟩ := hS); (try obtain ⟨hq2, hS⟩ := hS); (try obtain ⟨hq3, hS⟩ := hS); (try obtain ⟨hq4, hS⟩ := hS); (try obtain ⟨hq5, hS⟩ := hS); (try obtain ⟨hq6, hS⟩ := hS); (try obtain ⟨hq7, hS⟩ := hS); (try obtain ⟨hq8, hS⟩ := hS); (try obtain ⟨hq9, hS⟩ := hS); (try obtain ⟨hq10, hS⟩ := hS); (try obtain ⟨hq11, hS⟩ := hS); (try obtain ⟨hq12, hS⟩ := hS); (try obtain ⟨hq13, hS⟩ := hS); (try obtain ⟨hq14, hS⟩ := hS); (try obtain ⟨hq15, hS⟩ := hS); (try obtain ⟨hq16, hS⟩ := hS); (try obtain ⟨hq17, hS⟩ := hS); (try obtain ⟨hq18, hS⟩ := hS); (try obtain ⟨hq19, hS⟩ := hS); (try dsimp only at hS); go_simp; (try with_reducible rfl); done)); (try simp only [Act.put, List.setIfInBounds_toArray, List.set_cons_zero, List.set_cons_succ])))
            refine eff_skip (W' := wr.drew.setCell ⟨gb, yn, none⟩ (.slice (some ⟨rb, 0, none⟩) m rq)) (by rfl) (by rfl) (by go_simp) (fun h => absurd rfl h) ?_
            (try simp only [Act.put, List.setIfInBounds_toArray, List.set_cons_zero, List.set_cons_succ])
            refine eff_nil ?_
            clear t1 t2 k3 hcell cz ka
            go_wp2
            go_roundg g
            case rel => exact ⟨k + 1, _, by have := HKG.out; omega, by go_num, by rw [HST.out]; exact A5, L5⟩
            case measure => omega
          · have hb1 : (z == (id : Int)) = false := by simpa using hzi
            have HST : Hid (dropUsers s3.users id (n.args.take (k + 1)) = us) := by
              show _ = _
              rw [dropUsers_snoc _ _ HLT.out, HUS.out, HY.out]
              unfold dropUser
              rw [Int.toNat_natCast, HL.out, if_neg (by rw [HLA.out]; intro e; exact hzi (Option.some.inj e))]
            clear hzi
            go_wp2
            go_roundg g
            case rel => exact ⟨k + 1, _, by have := HKG.out; omega, by go_num, by rw [HST.out]; exact MK, LK⟩
            case measure => omega
      | zero =>
        obtain rfl : k = n.args.length := by omega
        have hnl : ¬ (n.args.length : Int) < (n.args.length : Int) := by omega
        clear hk
        obtain ⟨k0, k1, k2, k3, k4, k5, k6, k7, k8, k9, k10, kf, kl⟩ := MK.out.g.cells
        clear k0 k4 k5 k6 k7 k8 k9 k10
        obtain ⟨s4, HS4⟩ : ∃ x : GS, Hid (x = { s3 with users := us }) := ⟨_, hid rfl⟩
        rw [← HS4.out] at MK
        have HL4 : Hid (id ≤ s4.nodes.length ∧ id ≤ s4.keys.length ∧ id ≤ s4.users.length) := by
          show _ ∧ _ ∧ _
          rw [HS4.out, HS3.out]
          have e1 := HID.out
          refine ⟨Nat.le_of_lt e1, ?_, ?_⟩
          · show id ≤ s.keys.length
            rw [HKL.out]; exact Nat.le_of_lt e1
          · show id ≤ us.length
            rw [HUSL.out, HUL.out]; exact Nat.le_of_lt e1
        obtain ⟨pn, nn, qn, hvn, hcn⟩ := MK.out.g.nodes.slice
        obtain ⟨pk, nk, qk, hvk, hck⟩ := MK.out.g.keys.slice
        obtain ⟨pu, nu, qu, hvu, hcu⟩ := MK.out.g.users.slice
        obtain ⟨c5, N5⟩ := MK.out.cutN hvn HL4.out.1
        obtain ⟨c6, N6⟩ := N5.cutK hvk HL4.out.2.1
        obtain ⟨c7, N7⟩ := N6.cutU hvu HL4.out.2.2
        have A7 := hid N7
        have ln : id ≤ qn := Nat.le_trans HL4.out.1 hcn
        have lk : id ≤ qk := Nat.le_trans HL4.out.2.1 hck
        have lu : id ≤ qu := Nat.le_trans HL4.out.2.2 hcu
        rw [hvn] at k1
        rw [hvk] at k2
        rw [hvu] at k3
        clear N5 N6 N7 hvn hvk hvu hcn hck hcu hid9 hpi
        have ln' : (id : Int) ≤ (qn : Int) := by omega
        have lk' : (id : Int) ≤ (qk : Int) := by omega
        have lu' : (id : Int) ≤ (qu : Int) := by omega
        go_wp2
        go_end0
        have e1 : R = { { { s4 with nodes := s4.nodes.take id } with keys := s4.keys.take id } with users := s4.users.take id } := by
          rw [hR.out]
          unfold dropS
          rw [hn.out, HS4.out]
          unfold cutS drop2
          rw [← HUS.out, List.take_length, HS3.out]
        rw [e1]
        exact ⟨rfl, _, _, A7.out⟩
end
end Go.Proofs.YtlekoceindepnaaGreatDoor
end
section
/- The walk of Forest.Undo. -/
namespace Go.Proofs.YtlekoceindepnaaGreatDoor
open Go.RowKit
set_option maxRecDepth 100000

def addR (r : Int → Int) (l : Lnk) : Int → Int := fun k => if r k = r l.a then r l.b else r k
/-- The roots behind the links L, laid one after the other. -/
def forR (L : List Lnk) : Int → Int := L.foldl addR (fun x => x)
/-- Each link joins two trees. -/
def FOk (L : List Lnk) : Prop := ∀ k l, L[k]? = some l → forR (L.take k) l.a ≠ forR (L.take k) l.b
theorem forR_snoc {L : List Lnk} {k : Nat} {l : Lnk} (h : L[k]? = some l) : forR (L.take (k + 1)) = addR (forR (L.take k)) l := by
  unfold forR
  rw [List.take_add_one, h, List.foldl_append]; rfl
theorem ForAt.quiet2 {M : Nat → Prop} {w w' : World} {bf : Nat} {L : List Lnk} {r : Int → Int} (h : ForAt M w bf L r) (hf : Fr NoB w w') : ForAt M w' bf L r := by
  obtain ⟨⟨bn, bu, sl, g, rk, h1, h2, h3, h4, h5, h6, h7, m1, m2, m3⟩, h8⟩ := h
  exact ⟨⟨bn, bu, sl, g, rk, h1.fr hf (fun h => h), OwnE.fr h2 hf (fun _ _ h => h), h3, h4.fr hf (fun h => h) (fun _ _ h => h), h5.fr hf (fun h => h), h6, h7, m1, m2, m3⟩, fun k hk => Nat.lt_of_lt_of_le (h8 k hk) hf.size⟩
set_option maxHeartbeats 8000000 in
theorem fundo_any (M : Nat → Prop) (w : World) (bf : Nat) (L : List Lnk) (r : Int → Int) (h : ForAt M w bf L r) (n : Nat) (hn : n ≤ L.length) (hL : L.length ≤ 1000000) (hok : FOk L) :
    Calls Tryz.prog 49 #[.pointer (some ⟨bf, 0, none⟩), .int .i64 n] w fun e w' => e = .returned (.bool true) ∧ (∃ M', ForAt M' w' bf (L.take n) (forR (L.take n)) ∧ ∀ k, M' k → M k ∨ w.heap.size ≤ k) ∧ Fr M w w' := by
  have hmm := @run_makeMap Tryz.prog
  obtain ⟨bn, bu, sl, g, rk, h1, h2, h3, h4, h5, h6, h7, m1, m2, m3⟩ := h.ex
  have HLT := hid h.lt
  have MB := hid m1
  obtain ⟨lp, lc, hv⟩ := OwnE.form h2
  subst hv
  have HCAP : Hid (L.length ≤ lc) := by
    rcases OwnE.form' h2 with ⟨h8, h9⟩ | ⟨g9, cap, h8, _, _, hc⟩
    · rw [h9]; exact Nat.zero_le _
    · simp only [Value.slice.injEq] at h8
      show _ ≤ _
      rw [h8.2.2]; exact hc
  have hbfl : bf < w.heap.size := h1.cells.2.2.2.2.2
  have KEEP : Hid (RdE lkCells (fun q => q = bf ∨ w.heap.size ≤ q) w (.slice lp n lc) (L.take n)) := by
    have h9 := OwnE.takeN (sz := 3) lkLen h2 hn
    have hl : (L.take n).length = n := by rw [List.length_take]; omega
    refine OwnE.rd h9 (fun b hb hm => ?_)
    have hb2 : (Value.slice lp L.length lc).ownBlock = some b := by cases lp <;> exact hb
    obtain ⟨cur, hc⟩ := OwnE.head h2 hb2
    rcases hm with rfl | hm
    · exact ne_of_types hc h1 (by decide) rfl
    · have := (Array.getElem?_eq_some_iff.1 hc).1; omega
  obtain ⟨c0, c1, c2, c3, cf, cl⟩ := h1.cells
  have H1 := hid h1
  have ep := eqPtrF
  have hc1 := HCAP.out
  have n0 : ¬ (n : Int) < 0 := by omega
  have n1 : ¬ (L.length : Int) < (n : Int) := by omega
  have n2 : n ≤ lc := by omega
  have n3 : (n : Int) ≤ (lc : Int) := by omega
  have HN := hid hn
  clear h h1 h2 h3 h4 h5 h6 h7 m1 m2 m3 hc1
  go_enter Tryz.func49, Tryz.ntmps49
  go_wp2_with fail
  obtain ⟨w1, hw1⟩ : ∃ q, ((w.setCell ⟨bf, 1, none⟩ (.slice none 0 0)).setCell ⟨bf, 2, none⟩ (.map (some w.heap.size))).setCell ⟨bf, 3, none⟩ (.map (some (w.heap.size + 1))) = q := ⟨_, rfl⟩
  have hs1 : w1.heap.size = w.heap.size := by rw [← hw1]; simp [World.setCell]
  have hh1 : w1.heap[bf]? = some (.cells #[.bool true, .slice none 0 0, .map (some w.heap.size), .map (some (w.heap.size + 1))] 102 (0, 0)) := by
    rw [← hw1]; exact set_at (set_at (set_at H1.out 1 _) 2 _) 3 _
  have f1 : Fr (fun q => q = bf) w w1 := by
    rw [← hw1]
    exact (((Fr.refl (fun q => q = bf) w).setCell (p := ⟨bf, 1, none⟩) (fun _ => rfl) _).setCell (p := ⟨bf, 2, none⟩) (fun _ => rfl) _).setCell (p := ⟨bf, 3, none⟩) (fun _ => rfl) _
  rw [hw1]
  have f2 : Fr NoB w1 ((w1.alloc (.map #[] 0)).alloc (.map #[] 0)) := ((Fr.refl NoB w1).alloc _).alloc _
  have FA0 : Hid (ForAt (fun q => q = bf ∨ (w.heap.size ≤ q ∧ q < w.heap.size + 2)) ((w1.alloc (.map #[] 0)).alloc (.map #[] 0)) bf [] (fun x => x)) := by
    refine ⟨⟨w.heap.size, w.heap.size + 1, .slice none 0 0, fun _ => none, fun _ => 0, f2.at (fun h => h) hh1, OwnE.nil _ _ _ _ _, fun b hb => (by cases hb), ?_, ?_, ⟨fun _ _ => rfl, fun _ _ h => (by cases h)⟩, by omega, .inl rfl, .inr ⟨by omega, by omega⟩, .inr ⟨by omega, by omega⟩⟩, fun q hq => by simp only [World.size_alloc]; omega⟩
    · have h := MapIs.new (.int .i64) (Value.int .i64) w1
      rw [hs1] at h
      exact ⟨[], h.fr ((Fr.refl NoB _).alloc _) (fun h => h), fun k _ => rfl, fun k v h => (by cases h), fun k k' v v' _ h => (by cases h)⟩
    · have h := MapIs.new (.int .i64) (Value.int .i64) (w1.alloc (.map #[] 0))
      rw [World.size_alloc, hs1] at h
      exact ⟨[], h, fun k => rfl⟩
  have FF : Hid (Fr (fun q => q = bf ∨ w.heap.size ≤ q) w ((w1.alloc (.map #[] 0)).alloc (.map #[] 0))) := (f1.mono (fun q _ e => .inl e)).step f2
  obtain ⟨w2, hw2⟩ : ∃ q, (w1.alloc (.map #[] 0)).alloc (.map #[] 0) = q := ⟨_, rfl⟩
  rw [hw2] at FA0 FF ⊢
  clear hw1 hs1 hh1 f1 f2 hw2 c0 c1 c2 c3 cf cl hmm H1
  have HK := hid hok
  have hln : n ≤ 1000000 := by omega
  have HTL : Hid ((L.take n).length = n) := by show _ = _; rw [List.length_take]; have := HN.out; omega
  clear hok
  go_loopw [49] (fun i wr => ∃ (k : Nat) (M' : Nat → Prop), k ≤ n ∧ i = .int .i64 k ∧ Hid (ForAt M' wr bf (L.take k) (forR (L.take k))) ∧ Hid (∀ q, M' q → q = bf ∨ w.heap.size ≤ q) ∧ Hid (Fr (fun q => q = bf ∨ w.heap.size ≤ q) w wr)) (fun i _ => n - (intOf i).toNat)
  case atStart => exact ⟨0, _, Nat.zero_le _, rfl, FA0, fun q hq => hq.imp id (·.1), FF⟩
  case round =>
    obtain ⟨k, M', hk, rfl, FK, HM, FW⟩ := hrel
    by_cases hlt : k < n
    · have hlt' : (k : Int) < (n : Int) := by omega
      have hr := KEEP.out.fr FW.out (fun _ _ h => h)
      have hkl : k < (L.take n).length := by rw [HTL.out]; exact hlt
      obtain ⟨b, off, hpp, -, e0, e1, e2⟩ := hr.lkK hkl
      subst hpp
      obtain ⟨⟨la, lb, lw⟩, hl⟩ : ∃ l, (L.take n)[k] = l := ⟨_, rfl⟩
      rw [hl] at e0 e1 e2
      have hlk : L[k]? = some ⟨la, lb, lw⟩ := by
        have h9 : (L.take n)[k]? = some ⟨la, lb, lw⟩ := by rw [List.getElem?_eq_getElem hkl, hl]
        rw [List.getElem?_take, if_pos hlt] at h9; exact h9
      have HLK := hid hlk
      have hne := HK.out k _ hlk
      have HNE := hid hne
      have HNX := hid (forR_snoc hlk)
      have HTK : Hid (L.take (k + 1) = L.take k ++ [⟨la, lb, lw⟩]) := by show _ = _; rw [List.take_add_one, hlk]; rfl
      simp only at e0 e1 e2
      have lbk := lt_of_cell e0
      clear hr hkl hl hlk hne
      have FK2 := hid (FK.out.quiet2 ((Fr.refl NoB wr).alloc (.cells #[.int .i64 la, .int .i64 lb, .int .i64 lw] 81)))
      obtain ⟨z0, z1, z2, zf, zl⟩ := three_of (at_new wr (.cells #[.int .i64 la, .int .i64 lb, .int .i64 lw] 81))
      go_wp2_with fail
      refine (fadd_any M' _ bf (L.take k) (forR (L.take k)) ⟨la, lb, lw⟩ FK2.out (by rw [List.length_take]; omega) HNE.out (fun e => HNE.out (by rw [show la = lb from e]))).mono ?_
      rintro e w5 ⟨rfl, ⟨M5, h5, h6⟩, h7⟩
      have FK5 : Hid (ForAt M5 w5 bf (L.take (k + 1)) (forR (L.take (k + 1)))) := by show ForAt _ _ _ _ _; rw [HNX.out, HTK.out]; exact h5
      have HM5 : Hid (∀ q, M5 q → q = bf ∨ w.heap.size ≤ q) := fun q hq => by
        rcases h6 q hq with h8 | h8
        · exact HM.out q h8
        · have := FW.out.size
          simp only [World.size_alloc] at h8
          exact .inr (by omega)
      have FW5 : Hid (Fr (fun q => q = bf ∨ w.heap.size ≤ q) w w5) := (FW.out.alloc _).trans (h7.mono (fun q _ hq => HM.out q hq))
      clear h5 h6 h7 e0 e1 e2 z0 z1 z2 zf zl lbk
      go_wp2
      go_roundw
      case rel => exact ⟨k + 1, M5, by omega, by go_num, FK5, HM5, FW5⟩
      case measure => simp [intOf]; omega
    · obtain rfl : k = n := by omega
      go_wp2
      go_ret
      exact ⟨rfl, ⟨M', FK.out, fun q hq => (HM.out q hq).imp (fun e => by rw [e]; exact MB.out) id⟩, FW.out.os, FW.out.tape, FW.out.output, FW.out.size, fun q hq hn => FW.out.block q hq (fun hm => hm.elim (fun e => hn (by rw [e]; exact MB.out)) (fun e => by omega))⟩
end Go.Proofs.YtlekoceindepnaaGreatDoor
end
section
/- What Rebuild does to an e-graph's state; its walk. -/
namespace Go.Proofs.YtlekoceindepnaaGreatDoor
open Go.RowKit
set_option maxRecDepth 100000

def fitB (s : GS) (j p : Int) : Bool := decide (s.uf.tr.length < 3000000) && decide (s.links.length ≤ 1000000) && decide (s.todo.length ≤ 1000000000) && decide (0 ≤ p) && decide (p < (s.nodes.length : Int)) && decide (0 ≤ j) && decide (j ≤ 1000000000)
def repAllF : GS → Int → List Int → Option (GS × Int)
  | s, j, [] => some (s, j)
  | s, j, p :: ps => if fitB s j p = true then repAllF (repairS s p.toNat).1 (j + (repairS s p.toNat).2) ps else none
def popS (s : GS) : GS := { s with todo := s.todo.dropLast }
def rebuildF : Nat → GS → Int → Option (GS × Int)
  | 0, s, j => if s.todo = [] then some (s, j) else none
  | f + 1, s, j => match s.todo.getLast? with
    | none => some (s, j)
    | some id => (repAllF (popS s) j (parentsS (popS s) id)).bind fun r => rebuildF f r.1 r.2
theorem OwnI.pop2 {B : Nat} {w : World} {a : Option Addr} {n c : Nat} {l : List Int} {x : Int} (h : OwnI B w (.slice a n c) (l ++ [x])) : OwnI B w (.slice a l.length c) l := by
  obtain ⟨h1, h2⟩ := h
  refine ⟨by simp, ?_⟩
  rcases h2 with ⟨_, h2⟩ | ⟨g, cap, cur, e, hb, hg, hn, hc, hs, ht⟩
  · simp at h2
  · simp only [Value.slice.injEq] at e
    obtain ⟨rfl, rfl, rfl⟩ := e
    refine .inr ⟨g, _, cur, rfl, hb, hg, by simp at hn; omega, hc, hs, ?_⟩
    have := congrArg (List.take l.length) ht
    rw [List.take_take] at this
    simp only [List.length_append, List.length_singleton, Nat.mul_one, List.map_append, List.map_cons, List.map_nil] at this
    rw [Nat.min_eq_left (by omega), List.take_append_of_le_length (by simp)] at this
    rw [Nat.mul_one, this, List.take_of_length_le (by simp)]
theorem own_max {B : Nat} {w : World} {v : Value} {l : List Int} (h : OwnI B w v l) : l.length ≤ 9223372036854775807 := by
  rcases h.2 with ⟨_, h2⟩ | ⟨g, cap, cur, _, _, _, h3, h4, _⟩
  · omega
  · unfold maxLen at h4; omega
structure RebOk (s : GS) : Prop where
  users : s.users.length = s.uf.par.length
  rows : ∀ l ∈ s.users, l.length ≤ 2000000
  keys : s.keys.length = s.nodes.length
  nok : ∀ n ∈ s.nodes, NodeOk n ∧ NodeSm n
  kok : ∀ n ∈ s.keys, NodeOk n ∧ NodeSm n
theorem union_len (u : Uf) (a b : Int) : (u.union a b).1.par.length = u.par.length := by
  unfold Uf.union
  simp only
  split
  · rfl
  · split
    · rfl
    · simp
theorem linkS_same (s : GS) (a b w : Int) : (linkS s a b w).uf = s.uf ∧ (linkS s a b w).nodes = s.nodes ∧ (linkS s a b w).keys = s.keys ∧ (linkS s a b w).users = s.users := by
  unfold linkS
  split <;> exact ⟨rfl, rfl, rfl, rfl⟩
theorem joinS_same (s : GS) (a b w : Int) : (joinS s a b w).uf.par.length = s.uf.par.length ∧ (joinS s a b w).nodes = s.nodes ∧ (joinS s a b w).keys = s.keys ∧ (joinS s a b w).users = s.users := by
  unfold joinS
  simp only
  obtain ⟨e1, e2, e3, e4⟩ := linkS_same { s with uf := (s.uf.union a b).1 } a b w
  exact ⟨by rw [e1]; exact union_len _ _ _, e2, e3, e4⟩
theorem RebOk.of {s s' : GS} (h : RebOk s) (e1 : s'.uf.par.length = s.uf.par.length) (e2 : s'.nodes = s.nodes) (e3 : s'.keys = s.keys) (e4 : s'.users = s.users) : RebOk s' :=
  ⟨by rw [e4, e1]; exact h.users, by rw [e4]; exact h.rows, by rw [e3, e2]; exact h.keys, by rw [e2]; exact h.nok, by rw [e3]; exact h.kok⟩
theorem nodeAt_mem {ns : List Node} {p : Nat} (h : p < ns.length) : nodeAt ns p ∈ ns := by
  unfold nodeAt
  rw [List.getD_eq_getElem?_getD, List.getElem?_eq_getElem h]; exact List.getElem_mem _
theorem RebOk.repair {s : GS} (h : RebOk s) (hp : POk s.uf.par) (hl : s.uf.par.length ≤ 1000000) {p : Nat} (hpn : p < s.nodes.length) : RebOk (repairS s p).1 := by
  have h1 : RebOk (repair1 s p) := by
    unfold repair1
    simp only
    split
    · exact h
    · refine ⟨h.users, h.rows, by rw [List.length_set]; exact h.keys, h.nok, fun n hn => ?_⟩
      rcases List.mem_or_eq_of_mem_set hn with hn | rfl
      · exact h.kok n hn
      · have h9 := h.nok _ (nodeAt_mem hpn)
        exact ⟨canon_ok2 hp hl h9.1, canon_sm2 h9.2⟩
  unfold repairS repair2
  split
  · exact h1.of rfl rfl rfl rfl
  · split
    · exact h1
    · obtain ⟨e1, e2, e3, e4⟩ := joinS_same (repair1 s p) _ p (-1)
      exact h1.of e1 e2 e3 e4
theorem repAllF_cons {s : GS} {j p : Int} {ps : List Int} {R : GS × Int} (h : repAllF s j (p :: ps) = some R) : fitB s j p = true ∧ repAllF (repairS s p.toNat).1 (j + (repairS s p.toNat).2) ps = some R := by
  rw [repAllF] at h
  split at h
  · next hc => exact ⟨hc, h⟩
  · cases h
section
variable {c0 c c' : Col} {w W W' : World} {bg bc : Nat} {h h' : GH} {s s' : GS}
theorem AdW.pop (a : AdW c0 w bg bc c W h s) {p : Option Addr} {q : Nat} {l : List Int} {x : Int} (ht : s.todo = l ++ [x]) (hv : h.vt = .slice p (l.length + 1) q) :
    ∃ c', AdW c0 w bg bc c' (W.setCell ⟨bc, 8, none⟩ (.slice p l.length q)) { h with vt := .slice p l.length q } { s with todo := l } := by
  have ho := a.g.todo.1
  rw [hv, ht] at ho
  exact ⟨_, a.pushT (W6 := W) (Fr.refl _ _) (OwnI.pop2 ho) (.inl (by rw [hv]; cases p <;> rfl))⟩
set_option maxHeartbeats 16000000 in
theorem rebuild_any (h0 : GrAt c0 w bg s) (ht : Tab w) (htb : c0 TB = 0) (hr : RebOk s) (f : Nat) (R : GS × Int) (hR : rebuildF f s 0 = some R) :
    Calls Tryz.prog 11 #[.pointer (some ⟨bg, 0, none⟩)] w fun e w' => e = .returned (.int .i64 R.2) ∧ (∃ c', GrAt c' w' bg { R.1 with dirty := false } ∧ Ext c0 c' w) ∧ Fr (Mut c0) w w' := by
  obtain ⟨bc, h, a0⟩ := AdW.start h0 ht htb
  have A1 := hid a0
  have HRO := hid hr
  have HR0 := hid hR
  clear h0 ht htb a0 hr hR
  go_enter Tryz.func11, Tryz.ntmps11
  go_wp2_with fail
  refine (emade_any A1.out.done).mono ?_
  rintro e w' ⟨rfl, hw9⟩
  subst hw9
  have g0 := cells_at A1.out.gr 0
  have gl := (Array.getElem?_eq_some_iff.1 A1.out.gr).1
  simp only [List.getElem?_toArray, List.getElem?_cons_zero] at g0
  go_wp2
  clear g0 gl
  go_loopg [4] f (fun k jv wr => ∃ (s1 : GS) (j : Int) (c1 : Col) (h1 : GH), jv = .int .i64 j ∧ Hid (rebuildF k s1 j = some R) ∧ Hid (AdW c0 w' bg bc c1 wr h1 s1) ∧ Hid (RebOk s1))
  case atStart => exact ⟨s, 0, c0, h, rfl, HR0, A1, HRO⟩
  case round =>
    obtain ⟨s1, j, c1, h1, rfl, HF, A, HO⟩ := hrel
    rcases List.eq_nil_or_concat s1.todo with htd | ⟨l, x, htd⟩
    · have e1 : R = (s1, j) := by
        have h9 := HF.out
        cases gk with
        | zero => unfold rebuildF at h9; rw [if_pos htd] at h9; cases h9; rfl
        | succ g => unfold rebuildF at h9; rw [htd] at h9; cases h9; rfl
      have E1 := hid e1
      obtain ⟨tp, tq, hvt⟩ := A.out.g.todo.1.form
      rw [htd] at hvt
      obtain ⟨k0, k1, k2, k3, k4, k5, k6, k7, k8, k9, k10, kf, kl⟩ := A.out.g.cells
      rw [hvt] at k8
      have A9 := hid (A.out.setDirty false)
      clear e1 htd k0 k1 k2 k3 k4 k5 k6 k7 k10 hvt
      simp only [List.length_nil] at k8
      go_wp2
      go_ret
      rw [E1.out]
      exact ⟨rfl, ⟨_, A9.out.done, A9.out.ext⟩, A9.out.fr⟩
    · rw [List.concat_eq_append] at htd
      obtain ⟨g, hg⟩ : ∃ g, gk = g + 1 := by
        cases gk with
        | zero => have h9 := HF.out; unfold rebuildF at h9; rw [htd] at h9; simp at h9
        | succ g => exact ⟨g, rfl⟩
      subst hg
      obtain ⟨s2, HS2⟩ : ∃ q : GS, Hid (q = { s1 with todo := l }) := ⟨_, hid rfl⟩
      obtain ⟨r, hr1, hr2⟩ : ∃ r, repAllF s2 j (parentsS s2 x) = some r ∧ rebuildF g r.1 r.2 = some R := by
        have h9 := HF.out
        unfold rebuildF at h9
        have hl : s1.todo.getLast? = some x := by rw [htd]; simp
        rw [hl] at h9
        have hp : popS s1 = s2 := by unfold popS; rw [HS2.out, htd, List.dropLast_concat]
        simp only [hp] at h9
        exact Option.bind_eq_some_iff.1 h9
      have HR1 := hid hr1
      have HR2 := hid hr2
      clear hr1 hr2
      have hto := A.out.g.todo.1
      obtain ⟨tp, tq, hvt⟩ := hto.form
      rw [htd] at hto hvt
      obtain ⟨gb, htp⟩ : ∃ g, tp = some ⟨g, 0, none⟩ := by
        rcases hto.form' with ⟨_, h2⟩ | ⟨g, cap, h3, _⟩
        · simp at h2
        · rw [hvt] at h3; simp only [Value.slice.injEq] at h3; exact ⟨g, h3.1⟩
      subst htp
      rw [show (l ++ [x]).length = l.length + 1 by simp] at hvt
      rw [hvt] at hto
      have cx := hto.cell (i := l.length) (by simp)
      have hxx : (l ++ [x]).getD l.length 0 = x := by simp
      rw [hxx] at cx
      have HTD := hid htd
      have HVT := hid hvt
      have hmax := own_max hto
      rw [List.length_append, List.length_singleton] at hmax
      have HO2 : Hid (RebOk s2) := by show RebOk s2; rw [HS2.out]; exact HO.out.of rfl rfl rfl rfl
      obtain ⟨k0, k1, k2, k3, k4, k5, k6, k7, k8, k9, k10, kf, kl⟩ := A.out.g.cells
      rw [hvt] at k8
      have HK8 := hid k8
      have hll : l.length ≤ 9223372036854775806 := by omega
      have hcap : l.length + 1 ≤ tq := by
        rcases hto.form' with ⟨_, h2⟩ | ⟨g, cap, h3, _, _, hc⟩
        · simp at h2
        · simp only [Value.slice.injEq] at h3
          rw [h3.2.2]
          simpa using hc
      obtain ⟨m, hm⟩ : ∃ m, l.length = m := ⟨_, rfl⟩
      have HM := hid hm
      rw [hm] at k8 cx HK8 hll hcap
      have hcap2 : m ≤ tq := by omega
      have hcap3 : (m : Int) ≤ (tq : Int) := by omega
      clear htd hto hxx hmax k0 k1 k2 k3 k4 k5 k6 k7 k9 k10 hvt hm
      have w1 : IntKind.i64.wrap ((m : Int) + 1 - 1) = (m : Int) := by rw [IntKind.wrap_i64]; omega
      have w2 : IntKind.i64.wrap (m : Int) = (m : Int) := by rw [IntKind.wrap_i64]; omega
      have w3 : (0 : Int) < (m : Int) + 1 := by omega
      have w4 : (m : Int) < (m : Int) + 1 := by omega
      have w5 : m < m + 1 := by omega
      have lb := lt_of_cell cx
      go_wp2
      refine region_txt (Fr NoB _) (by kernel_rfl) (by kernel_rfl) ((Fr.refl NoB _).drew) ?_
      repeat (first | (refine txt_off (by rfl) ?_; (try simp only [Act.put, List.setIfInBounds_toArray, List.set_cons_zero, List.set_cons_succ])) | (refine txt_read ?_ (by rfl) ?_ ?_; rotate_left; (focus (intro W hW; have hWc := Fr.cq hW; clear hW; go_simp; (try with_reducible rfl); done)); (try simp only [Act.put, List.setIfInBounds_toArray, List.set_cons_zero, List.set_cons_succ])))
      refine txt_nil ?_
      intro W hW
      have A3 := hid (A.out.quiet hW)
      clear hW k8 cx lb
      obtain ⟨c2, A2'⟩ := (A3.out.quiet (Fr.refl NoB W).drew).pop HTD.out HVT.out
      rw [← HS2.out, HM.out] at A2'
      have A2 := hid A2'
      have HC8 : Hid (∀ w', Fr NoB W w' → w'.cell? ⟨bc, 8, none⟩ = some (.slice (some ⟨gb, 0, none⟩) (m + 1) tq)) := fun w' hf => by
        obtain ⟨q0, q1, q2, q3, q4, q5, q6, q7, q8, _⟩ := (A3.out.quiet hf).g.cells
        rw [HVT.out, HM.out] at q8
        exact q8
      have cz := (A3.out.g.cells).2.2.2.2.2.2.2.2.2.2.2.1
      have kl := A3.out.g.lb
      clear A2'
      go_wp2
      refine region_eff (fun w' => w'.cell? ⟨bc, 8, none⟩ = some (.slice (some ⟨gb, 0, none⟩) (m + 1) tq)) 14 [(0, 1), (1, 1), (2, 1), (3, 1), (4, 0), (5, 1), (6, 1), (7, 1), (8, 0), (9, 1), (10, 1), (11, 1), (12, 1), (13, 1), (14, 2)] (by kernel_rfl) (by kernel_rfl) ?_ ?_
      · exact HC8.out W.drew (Fr.refl _ _).drew
      have c8 := HC8.out W.drew (Fr.refl _ _).drew
      repeat (first | (refine eff_off (by rfl) (by rfl) ?_; (try simp only [Act.put, List.setIfInBounds_toArray, List.set_cons_zero, List.set_cons_succ])) | (refine eff_off0 (by rfl) (by rfl) ?_; (try simp only [Act.put, List.setIfInBounds_toArray, List.set_cons_zero, List.set_cons_succ])) | (refine eff_pu ?_ (by rfl) (by rfl) ?_ ?_; rotate_left; (focus (intro w'; go_simp; (try with_reducible rfl); done)); (try simp only [Act.put, List.setIfInBounds_toArray, List.set_cons_zero, List.set_cons_succ])) | (refine eff_rd ?_ (by rfl) (by rfl) ?_ ?_; rotate_left; (focus (intro w' hS; (try obtain ⟨hq1, hS⟩ := hS); (try obtain ⟨hq2, hS⟩ := hS); (try obtain ⟨hq3, hS⟩ := hS); (try obtain ⟨hq4, hS⟩ := hS); (try obtain ⟨hq5, hS⟩ := hS); (try obtain ⟨hq6, hS⟩ := hS); (try obtain ⟨hq7, hS⟩ := hS); (try obtain ⟨hq8, hS⟩ := hS); (try obtain ⟨hq9, hS⟩ := hS); (try obtain ⟨hq10, hS⟩ := hS); (try obtain ⟨hq11, hS⟩ := hS); (try obtain ⟨hq12, hS⟩ := hS); (try obtain ⟨hq13, hS⟩ := hS); (try obtain ⟨hq14, hS⟩ := hS); (try obtain ⟨hq15, hS⟩ := hS); (try obtain ⟨hq16, hS⟩ := hS); (try obtain ⟨hq17, hS⟩ := hS); (try obtain ⟨hq18, hS⟩ := hS); (try obtain ⟨hq19, hS⟩ := hS); (try dsimp only at hS); go_simp; (try with_reducible rfl); done)); (try simp only [Act.put, List.setIfInBounds_toArray, List.set_cons_zero, List.set_cons_succ])))
      refine eff_skip (W' := W.drew.setCell ⟨bc, 8, none⟩ (.slice (some ⟨gb, 0, none⟩) m tq)) (by rfl) (by rfl) (by go_simp) (fun h => absurd rfl h) ?_
      (try simp only [Act.put, List.setIfInBounds_toArray, List.set_cons_zero, List.set_cons_succ])
      refine eff_nil ?_
      clear c8 cz kl HC8 A3
      obtain ⟨w4', hw4⟩ : ∃ q, W.drew.setCell ⟨bc, 8, none⟩ (.slice (some ⟨gb, 0, none⟩) m tq) = q := ⟨_, rfl⟩
      obtain ⟨h2, hh2⟩ : ∃ q : GH, ({ h1 with vt := Value.slice (some ⟨gb, 0, none⟩) m tq } : GH) = q := ⟨_, rfl⟩
      rw [hw4, hh2] at A2
      rw [hw4]
      clear hw4 hh2 w1 w2 w3 w4 w5
      go_wp2_with fail
      refine (parents_any A2.out x HO2.out.users HO2.out.rows).mono ?_
      rintro e w5 ⟨pp, pq, rfl, ho5, hf5⟩
      obtain ⟨ps, hps⟩ : ∃ ps, Hid (parentsS s2 x = ps) := ⟨_, hid rfl⟩
      rw [hps.out] at ho5 HR1 ⊢
      have A5 := hid (A2.out.quiet hf5)
      have OP := hid (OwnI.rd ho5 (M := fun q => q < w4'.heap.size) (fun q h1 h2 => by omega))
      have OP2 : Hid (RdI (Mut c2) w5 (.slice pp ps.length pq) ps) := OP.out.weaken (fun q hq hm => A2.out.g.lt q hm.1)
      have hpl := own_max ho5
      clear ho5 hf5 OP
      go_wp2
      go_loopw [4, 51] (fun jv i wr => ∃ (k : Nat) (s3 : GS) (j3 : Int) (c3 : Col) (h3 : GH), k ≤ ps.length ∧ i = .int .i64 k ∧ jv = .int .i64 j3 ∧ Hid (repAllF s3 j3 (ps.drop k) = some r) ∧ Hid (AdW c2 w5 bg bc c3 wr h3 s3) ∧ Hid (RebOk s3)) (fun _ i _ => ps.length - (intOf i).toNat)
      case atStart => exact ⟨0, s2, j, c2, h2, Nat.zero_le _, rfl, rfl, HR1, A5.out.self, HO2⟩
      case round =>
        obtain ⟨k, s3, j3, c3, h3, hk, rfl, rfl, HF3, A6, HO3⟩ := hrel
        by_cases hlt : k < ps.length
        · have hlt' : (k : Int) < (ps.length : Int) := by omega
          obtain ⟨ba, oa, hpp, ka⟩ := (OP2.out.fr A6.out.fr (fun _ _ h => h)).cellK hlt
          subst hpp
          obtain ⟨y, hy⟩ : ∃ y, ps.getD k 0 = y := ⟨_, rfl⟩
          rw [hy] at ka
          have hdr : ps.drop k = y :: ps.drop (k + 1) := by
            rw [← hy, List.getD_eq_getElem?_getD, List.getElem?_eq_getElem hlt]
            exact List.drop_eq_getElem_cons hlt
          have h9 := HF3.out
          rw [hdr] at h9
          obtain ⟨hfit, hnx⟩ := repAllF_cons h9
          unfold fitB at hfit
          simp only [Bool.and_eq_true, decide_eq_true_eq] at hfit
          obtain ⟨⟨⟨⟨⟨⟨f1, f2⟩, f3⟩, f4⟩, f5⟩, f6⟩, f7⟩ := hfit
          obtain ⟨yn, rfl⟩ : ∃ yn : Nat, y = yn := ⟨y.toNat, by omega⟩
          rw [Int.toNat_natCast] at hnx
          have HNX := hid hnx
          have HFT := hid (And.intro f1 (And.intro f2 (And.intro f3 (show yn < s3.nodes.length by omega))))
          have HOX := hid (HO3.out.repair A6.out.g.sets.ok.par A6.out.g.sets.small.1 HFT.out.2.2.2)
          clear hy hdr h9 hnx f1 f2 f3 f4 f5
          obtain ⟨Q, hQ⟩ : ∃ Q, repairS s3 yn = Q := ⟨_, rfl⟩
          rw [hQ] at HNX HOX
          have HQ := hid hQ
          clear hQ
          go_wp2_with fail
          refine (repair_any A6.out.self yn HFT.out.2.2.2 HO3.out.keys HO3.out.nok HO3.out.kok HFT.out.1 HFT.out.2.1 HFT.out.2.2.1).mono ?_
          rw [HQ.out]
          rintro e w7 ⟨rfl, c7, h7, b7⟩
          have A7 := hid (A6.out.comp b7)
          have HQ1 : Hid (Q.2 = 0 ∨ Q.2 = 1) := by
            show _ ∨ _
            rw [← HQ.out]
            unfold repairS repair2
            split
            · exact .inl rfl
            · split
              · exact .inl rfl
              · exact .inr rfl
          clear b7
          obtain ⟨Q1, Q2⟩ := Q
          simp only at HNX HOX A7 HQ1 ⊢
          have hq := HQ1.out
          go_wp2
          go_roundw
          case rel => exact ⟨k + 1, Q1, j3 + Q2, c7, h7, by omega, by go_num, by go_num, HNX, A7, HOX⟩
          case measure => simp [intOf]; omega
        · obtain rfl : k = ps.length := by omega
          have e1 : r = (s3, j3) := by
            have h9 := HF3.out
            rw [List.drop_length] at h9
            unfold repAllF at h9
            cases h9; rfl
          subst e1
          have A8 := hid (A5.out.comp A6.out)
          go_wp2
          go_roundg g
          case rel => exact ⟨s3, j3, c3, h3, rfl, HR2, A8, HO3⟩
          case measure => omega
end
end Go.Proofs.YtlekoceindepnaaGreatDoor
end
section
/- The walk of Forest.Path's closure. -/
namespace Go.Proofs.YtlekoceindepnaaGreatDoor
open Go.RowKit
set_option maxRecDepth 100000

/-- A link as it is read from one of its ends. -/
def turnL (x : Int) (l : Lnk) : Lnk := if l.a = x then l else ⟨l.b, l.a, l.why⟩
def pRow (f : Int → Int → Option (Option (List Lnk))) (L : List Lnk) (x y : Int) : List Int → Option (Option (List Lnk))
  | [] => some none
  | k :: ks => if k = y then pRow f L x y ks else
    match L[k.toNat]? with
    | none => none
    | some l =>
      match f (turnL x l).b k with
      | none => none
      | some (some p) => some (some (turnL x l :: p))
      | some none => pRow f L x y ks
/-- The links from an id to b that the search finds (some none: none; none: the fuel is gone). -/
def pWalk (L : List Lnk) (b : Int) : Nat → Int → Int → Option (Option (List Lnk))
  | 0, _, _ => none
  | n + 1, x, y => if x = b then some (some []) else pRow (pWalk L b n) L x y (nearL L x)
theorem nearL_mem {L : List Lnk} {x k : Int} (h : k ∈ nearL L x) : 0 ≤ k ∧ k.toNat < L.length := by
  unfold nearL at h
  obtain ⟨i, hi, rfl⟩ := List.mem_map.1 h
  have := List.mem_range.1 (List.mem_filter.1 hi).1
  exact ⟨by omega, by omega⟩
abbrev PMq (bo B0 : Nat) : Nat → Prop := fun q => q = bo ∨ B0 ≤ q
abbrev pthFn (bb bF bo bw : Nat) : Value := .func (.func 64) #[] #[.pointer (some ⟨bb, 0, none⟩), .pointer (some ⟨bF, 0, none⟩), .pointer (some ⟨bo, 0, none⟩), .pointer (some ⟨bw, 0, none⟩)]
structure PthC (N : Nat → Prop) (B0 bf bb bF bo bw bn bu : Nat) (sl : Value) (L : List Lnk) (b : Int) (W : World) : Prop where
  boxB : W.heap[bb]? = some (.cells #[.int .i64 b] 3 (0, 0))
  boxF : W.heap[bF]? = some (.cells #[.pointer (some ⟨bf, 0, none⟩)] 62 (0, 0))
  boxW : W.heap[bw]? = some (.cells #[pthFn bb bF bo bw] 48 (0, 0))
  head : FHead W bf bn bu sl
  links : RdE lkCells (PMq bo B0) W sl L
  near : NearIs N W bn (nearL L)
  nN : ∀ k, N k → ¬ PMq bo B0 k
  n1 : ¬ PMq bo B0 bb
  n2 : ¬ PMq bo B0 bF
  n3 : ¬ PMq bo B0 bw
  n4 : ¬ PMq bo B0 bf
  n5 : ¬ PMq bo B0 bn
  n6 : bo < B0
  n7 : B0 ≤ W.heap.size
theorem PthC.fr {N : Nat → Prop} {B0 bf bb bF bo bw bn bu : Nat} {sl : Value} {L : List Lnk} {b : Int} {W W' : World} (h : PthC N B0 bf bb bF bo bw bn bu sl L b W) (hf : Fr (PMq bo B0) W W') : PthC N B0 bf bb bF bo bw bn bu sl L b W' :=
  ⟨hf.at h.n1 h.boxB, hf.at h.n2 h.boxF, hf.at h.n3 h.boxW, h.head.fr hf h.n4, h.links.fr hf (fun _ _ e => e), h.near.fr hf h.n5 h.nN, h.nN, h.n1, h.n2, h.n3, h.n4, h.n5, h.n6, Nat.le_trans h.n7 hf.size⟩
structure PthS (N : Nat → Prop) (B0 bf bb bF bo bw bn bu : Nat) (sl : Value) (L : List Lnk) (b : Int) (W : World) (vo : Value) (o : List Lnk) : Prop where
  c : PthC N B0 bf bb bF bo bw bn bu sl L b W
  boxO : W.heap[bo]? = some (.cells #[vo] 38 (0, 0))
  own : OwnL W vo o
  hi : ∀ g, vo.ownBlock = some g → B0 ≤ g
theorem one_of {w : World} {b : Nat} {x : Value} {e : TypeId} (h1 : w.heap[b]? = some (.cells #[x] e (0, 0))) : w.cell? ⟨b, 0, none⟩ = some x ∧ (∀ o, w.frozen? ⟨b, o, none⟩ = false) ∧ b < w.heap.size :=
  ⟨by simp [World.cell?, h1], fun o => by simp [World.frozen?, h1], (Array.getElem?_eq_some_iff.1 h1).1⟩
variable {N : Nat → Prop} {B0 bf bb bF bo bw bn bu : Nat} {sl : Value} {L : List Lnk} {b : Int}
theorem PthS.quiet {W W' : World} {vo : Value} {o : List Lnk} (h : PthS N B0 bf bb bF bo bw bn bu sl L b W vo o) (hf : Fr NoB W W') : PthS N B0 bf bb bF bo bw bn bu sl L b W' vo o :=
  ⟨h.c.fr (hf.mono (fun _ _ e => e.elim)), hf.at (fun e => e) h.boxO, h.own.step hf, h.hi⟩
/-- The row out is pushed, and stored. -/
theorem PthS.push {W W1 W6 : World} {vo v6 : Value} {o : List Lnk} {l : Lnk} (h : PthS N B0 bf bb bF bo bw bn bu sl L b W vo o) (hf : Fr NoB W W1) (hg : W1.grownBy W6 vo.ownBlock) (ho : OwnL W6 v6 (o ++ [l])) (hb : v6.ownBlock = vo.ownBlock ∨ v6.ownBlock = some W1.heap.size) :
    PthS N B0 bf bb bF bo bw bn bu sl L b (W6.setCell ⟨bo, 0, none⟩ v6) v6 (o ++ [l]) ∧ Fr (PMq bo B0) W (W6.setCell ⟨bo, 0, none⟩ v6) ∧ W6.heap[bo]? = some (.cells #[vo] 38 (0, 0)) := by
  have fg : Fr (fun k => vo.ownBlock = some k) W1 W6 := Fr.grown (Fr.refl _ W1) hg (fun k hk _ => hk)
  have f6 : Fr (fun k => vo.ownBlock = some k) W W6 := (hf.mono (fun _ _ e => e.elim)).trans fg
  have hbo : W6.heap[bo]? = some (.cells #[vo] 38 (0, 0)) := f6.at (fun e => by have := h.hi _ e; have := h.c.n6; omega) h.boxO
  have f7 : Fr (fun q => q = bo) W6 (W6.setCell ⟨bo, 0, none⟩ v6) := (Fr.refl (fun q => q = bo) W6).setCell (p := ⟨bo, 0, none⟩) (fun _ => rfl) _
  have f8 : Fr (PMq bo B0) W (W6.setCell ⟨bo, 0, none⟩ v6) := (f6.mono (fun k _ e => .inr (h.hi k e))).trans' f7 (fun k _ e => .inl e)
  have hi6 : ∀ g, v6.ownBlock = some g → B0 ≤ g := fun g hg9 => by
    rcases hb with e | e
    · rw [e] at hg9; exact h.hi g hg9
    · rw [e] at hg9; cases hg9
      exact Nat.le_trans h.c.n7 hf.size
  exact ⟨⟨h.c.fr f8, set_at hbo 0 v6, ho.fr f7 (fun k hk e => by have := hi6 k hk; have := h.c.n6; omega), hi6⟩, f8, hbo⟩
/-- The row out loses its last link. -/
theorem PthS.pop {W : World} {p : Option Addr} {q n : Nat} {o : List Lnk} {l : Lnk} (h : PthS N B0 bf bb bF bo bw bn bu sl L b W (.slice p n q) (o ++ [l])) :
    PthS N B0 bf bb bF bo bw bn bu sl L b (W.setCell ⟨bo, 0, none⟩ (.slice p o.length q)) (.slice p o.length q) o ∧ Fr (PMq bo B0) W (W.setCell ⟨bo, 0, none⟩ (.slice p o.length q)) := by
  have f7 : Fr (fun k => k = bo) W (W.setCell ⟨bo, 0, none⟩ (.slice p o.length q)) := (Fr.refl (fun k => k = bo) W).setCell (p := ⟨bo, 0, none⟩) (fun _ => rfl) _
  have hb2 : (Value.slice p o.length q).ownBlock = (Value.slice p n q).ownBlock := by cases p <;> rfl
  have h9 := OwnE.takeN (sz := 3) lkLen h.own (k := o.length) (by simp)
  rw [List.take_left' rfl] at h9
  exact ⟨⟨h.c.fr (f7.mono (fun k _ e => .inl e)), set_at h.boxO 0 _, h9.fr f7 (fun k hk e => by rw [hb2] at hk; have := h.hi k hk; have := h.c.n6; omega), fun g hg => by rw [hb2] at hg; exact h.hi g hg⟩, f7.mono (fun k _ e => .inl e)⟩
set_option maxHeartbeats 8000000 in
theorem walk_any : ∀ (n : Nat) (x y : Int) (r : Option (List Lnk)) (W : World) (vo : Value) (o : List Lnk), PthS N B0 bf bb bF bo bw bn bu sl L b W vo o → pWalk L b n x y = some r → o.length + n ≤ 10000000 →
    Calls Tryz.prog 64 #[.int .i64 x, .int .i64 y, .pointer (some ⟨bb, 0, none⟩), .pointer (some ⟨bF, 0, none⟩), .pointer (some ⟨bo, 0, none⟩), .pointer (some ⟨bw, 0, none⟩)] W fun e w' => e = .returned (.bool r.isSome) ∧ (∃ vo', PthS N B0 bf bb bF bo bw bn bu sl L b w' vo' (o ++ r.getD [])) ∧ Fr (PMq bo B0) W w'
  | 0, _, _, _, _, _, _, _, h, _ => by cases h
  | n + 1, x, y, r, W, vo, o, hs, hp, hn => by
    have IH := hid (@walk_any n)
    have HS := hid hs
    obtain ⟨b0, _, b1⟩ := one_of hs.c.boxB
    by_cases hx : x = b
    · subst hx
      have HP : Hid (r = some []) := by
        show _ = _
        unfold pWalk at hp
        rw [if_pos rfl] at hp
        exact (Option.some.inj hp).symm
      clear hs hp
      go_enter Tryz.func64, Tryz.ntmps64
      go_wp2_with fail
      go_ret
      rw [HP.out]
      exact ⟨rfl, ⟨vo, by rw [show o ++ (some ([] : List Lnk)).getD [] = o by simp]; exact HS.out⟩, Fr.refl _ _⟩
    · have HP : Hid (pRow (pWalk L b n) L x y (nearL L x) = some r) := by
        show _ = _
        unfold pWalk at hp
        rw [if_neg hx] at hp
        exact hp
      have hxb : (x == b) = false := by simpa using hx
      obtain ⟨f0, _, f1⟩ := one_of hs.c.boxF
      obtain ⟨_, _, d2, _, _, dl⟩ := hs.c.head.cells
      obtain ⟨p, c, lkO, ho, hN, _⟩ := hs.c.near.look x
      have lk := lkO W rfl
      clear lkO
      have hrl := own_max ho
      have KEEP : Hid (RdI (PMq bo B0) W (.slice p (nearL L x).length c) (nearL L x)) := RdI.weaken' (ho.rd (M := NoB) (fun _ _ h => h)) (fun k hk => hs.c.nN k (hN k hk))
      have HX := hid hx
      have HN := hid hn
      have HLL : Hid (∀ k ∈ nearL L x, 0 ≤ k ∧ k.toNat < L.length) := fun k hk => nearL_mem hk
      obtain ⟨row, hrow⟩ : ∃ row, nearL L x = row := ⟨_, rfl⟩
      rw [hrow] at lk KEEP HP HLL hrl
      have HRL := hid hrl
      clear hs hp ho hN hrow hx hn hrl
      go_enter Tryz.func64, Tryz.ntmps64
      go_wp2_with fail
      clear b0 f0 d2 lk b1 f1 dl
      go_loopg [22] row.length (fun g i wr => ∃ (k : Nat) (vo' : Value), k + g = row.length ∧ i = .int .i64 k ∧ Hid (PthS N B0 bf bb bF bo bw bn bu sl L b wr vo' o) ∧ Hid (pRow (pWalk L b n) L x y (row.drop k) = some r) ∧ Hid (Fr (PMq bo B0) W wr))
      case atStart => exact ⟨0, vo, by omega, rfl, HS, by show _ = _; rw [List.drop_zero]; exact HP.out, Fr.refl _ _⟩
      case round =>
        obtain ⟨k, vo', hk, rfl, SK, HK, FK⟩ := hrel
        cases gk with
        | succ g =>
          have hlt : k < row.length := by omega
          have hlt' : (k : Int) < (row.length : Int) := by omega
          have hr := KEEP.out.fr FK.out (fun _ _ h => h)
          obtain ⟨b9, off, hpp, e0⟩ := hr.cellK hlt
          subst hpp
          obtain ⟨z, hz⟩ : ∃ z, row.getD k 0 = z := ⟨_, rfl⟩
          rw [hz] at e0
          have hdr : row.drop k = z :: row.drop (k + 1) := by
            rw [List.drop_eq_getElem_cons hlt, ← hz, List.getD_eq_getElem?_getD, List.getElem?_eq_getElem hlt]; rfl
          have hzm : z ∈ row := by
            rw [← hz, List.getD_eq_getElem?_getD, List.getElem?_eq_getElem hlt]
            exact List.getElem_mem hlt
          obtain ⟨hz0, hz1⟩ := HLL.out z hzm
          have HK2 : Hid (pRow (pWalk L b n) L x y (z :: row.drop (k + 1)) = some r) := by show _ = _; rw [← hdr]; exact HK.out
          have l9 := lt_of_cell e0
          have HRLk := HRL.out
          have hw9 : IntKind.i64.wrap ((k : Int) + 1) = (k : Int) + 1 := by rw [IntKind.wrap_i64]; omega
          have HKG := hid hk
          clear hr hdr hzm HRLk hk
          clear hz
          by_cases hzy : z = y
          · have hzyb : (z == y) = true := by simpa using hzy
            have HK3 : Hid (pRow (pWalk L b n) L x y (row.drop (k + 1)) = some r) := by
              have h := HK2.out
              unfold pRow at h
              rw [if_pos hzy] at h
              exact h
            clear hzy
            go_wp2
            go_roundg g
            case rel => exact ⟨k + 1, vo', by have := HKG.out; omega, by go_num, SK, HK3, FK⟩
            case measure => omega
          · have hzyb : (z == y) = false := by simpa using hzy
            obtain ⟨zn, rfl⟩ : ∃ zn : Nat, z = zn := ⟨z.toNat, by omega⟩
            have hzn : zn < L.length := by simpa using hz1
            obtain ⟨sp, sc, hsl⟩ := RdE.form3 SK.out.c.links
            have hLK : RdE lkCells (PMq bo B0) wr (.slice sp L.length sc) L := by rw [← hsl]; exact SK.out.c.links
            obtain ⟨bl, ofl, hpp, -, q0, q1, q2⟩ := hLK.lkK hzn
            subst hpp
            obtain ⟨⟨la, lb, lw⟩, hl⟩ : ∃ l, L[zn] = l := ⟨_, rfl⟩
            rw [hl] at q0 q1 q2
            simp only at q0 q1 q2
            obtain ⟨fb, _, fl⟩ := one_of SK.out.c.boxF
            obtain ⟨_, g1, _, _, _, gl⟩ := SK.out.c.head.cells
            rw [hsl] at g1
            obtain ⟨⟨ta, tb, tw⟩, HT⟩ : ∃ l, Hid (turnL x ⟨la, lb, lw⟩ = l) := ⟨_, hid rfl⟩
            have HK3 : Hid ((match pWalk L b n tb zn with
              | none => none
              | some (some p) => some (some (⟨ta, tb, tw⟩ :: p))
              | some none => pRow (pWalk L b n) L x y (row.drop (k + 1))) = some r) := by
              show _ = _
              have h := HK2.out
              unfold pRow at h
              rw [if_neg hzy, Int.toNat_natCast, List.getElem?_eq_getElem hzn, hl] at h
              simp only [HT.out] at h
              exact h
            have ll := lt_of_cell q0
            have hz5 : (zn : Int) < (L.length : Int) := by omega
            clear hLK hl hzy HK2 HK hsl hz0 hz1
            have HNB : Hid (∀ W', Fr NoB wr W' → PthS N B0 bf bb bF bo bw bn bu sl L b W' vo' o) := fun W' hf => SK.out.quiet hf
            go_upto_if 39 with fail
            go_cut [] (fun wx => Hid (Fr NoB wr wx) ∧ Hid (wx.heap[wr.heap.size]? = some (.cells #[.int .i64 ta, .int .i64 tb, .int .i64 tw] 81 (0, 0))))
            case first =>
              by_cases hla : la = x
              · have hlb : (la != x) = false := by simpa using hla
                have HE : Hid (la = ta ∧ lb = tb ∧ lw = tw) := by
                  have h := HT.out
                  unfold turnL at h
                  rw [if_pos hla] at h
                  cases h; exact ⟨rfl, rfl, rfl⟩
                clear hla
                go_wp2
                go_meet
                obtain ⟨e1, e2, e3⟩ := HE.out
                rw [← e1, ← e2, ← e3]
                exact ⟨hid ((Fr.refl NoB wr).alloc _), hid (at_new wr (.cells #[.int .i64 la, .int .i64 lb, .int .i64 lw] 81))⟩
              · have hlb : (la != x) = true := by simpa using hla
                have HE : Hid (lb = ta ∧ la = tb ∧ lw = tw) := by
                  have h := HT.out
                  unfold turnL at h
                  rw [if_neg hla] at h
                  cases h; exact ⟨rfl, rfl, rfl⟩
                clear hla
                obtain ⟨z0, z1, z2, zf, zl⟩ := three_of (at_new wr (.cells #[.int .i64 la, .int .i64 lb, .int .i64 lw] 81))
                go_wp2
                go_meet
                obtain ⟨e1, e2, e3⟩ := HE.out
                rw [← e1, ← e2, ← e3]
                exact ⟨hid ((Fr.refl NoB wr).alloc _), hid (at_new wr (.cells #[.int .i64 lb, .int .i64 la, .int .i64 lw] 81))⟩
            case rest =>
              obtain ⟨FX, BX⟩ := hcut
              have SX := hid (HNB.out wc FX.out)
              have HOL : Hid (∀ g, vo'.ownBlock = some g → g < wr.heap.size) := fun g hg => (World.ownsRow.lt SK.out.own g hg).2
              have HBO : Hid (bo < wr.heap.size) := (one_of SK.out.boxO).2.2
              obtain ⟨q, hq⟩ : ∃ q, wr.heap.size = q := ⟨_, rfl⟩
              have HQ := hid hq
              rw [hq] at BX HOL HBO ⊢
              have FC : Hid (Fr (PMq bo B0) W wc) := FK.out.trans (FX.out.mono (fun _ _ e => e.elim))
              clear hq q0 q1 q2 fb fl g1 gl ll e0 l9 HNB SK FX FK hz5 hzn
              obtain ⟨vp, vc, hvo⟩ := OwnE.form SX.out.own
              subst hvo
              obtain ⟨m, hm⟩ : ∃ m, o.length = m := ⟨_, rfl⟩
              rw [hm] at SX HOL
              have HM := hid hm
              clear hm
              have hml : m ≤ 10000000 := by have := HN.out; rw [HM.out] at this; omega
              obtain ⟨o0, of, ol⟩ := one_of SX.out.boxO
              obtain ⟨x0, x1, x2, xf, xl⟩ := three_of BX.out
              obtain ⟨rr, hrr⟩ : ∃ rr, Hid (pWalk L b n tb zn = rr) := ⟨_, hid rfl⟩
              rw [hrr.out] at HK3
              go_wp2_with (at_builtin; go_loud (refine ap_lnk _ rfl _ _ rfl (.slice vp m vc) o rfl (OwnE.step SX.out.own ((Fr.refl NoB _).alloc _)) _ [⟨ta, tb, tw⟩] rfl (rdL_lit ⟨ta, tb, tw⟩ (by simp)) ?_ ?_; (rw [HM.out]; simp only [List.length_singleton]; omega); intro p6 q6 w6 ho6 hg6 hb6; have PX := SX.out.push ((Fr.refl NoB wc).alloc _) hg6 ho6 hb6; rw [show (o ++ [(⟨ta, tb, tw⟩ : Lnk)]).length = m + 1 by rw [List.length_append, HM.out]; rfl] at PX ⊢; have F6 : Hid (Fr (fun k => (Value.slice vp m vc).ownBlock = some k) wc w6) := Fr.grown ((Fr.refl _ wc).alloc _) hg6 (fun k hk _ => hk); obtain ⟨o6, of6, ol6⟩ := one_of PX.2.2; have PH := hid PX; have wc7 := (one_of PX.1.c.boxW).1; have HB6 : Hid ((w6.setCell ⟨bo, 0, none⟩ (.slice p6 (m + 1) q6)).heap[q]? = some (.cells #[.int .i64 ta, .int .i64 tb, .int .i64 tw] 81 (0, 0))) := ((Fr.refl (fun k => k = bo) w6).setCell (p := ⟨bo, 0, none⟩) (fun _ => rfl) _).at (fun e => by have := HBO.out; omega) (F6.out.at (fun e => by have := HOL.out q e; omega) BX.out); obtain ⟨y0, y1, y2, yf, yl⟩ := three_of HB6.out; unfold pthFn at wc7; clear PX ho6 hg6 hb6 o0 of ol x0 x1 x2 xf xl y0 y2 yf))
              cases rr with
              | none => exact absurd HK3.out (by intro h; cases h)
              | some rv =>
                refine (IH.out tb zn rv _ _ _ PH.out.1 hrr.out (by have := HN.out; rw [List.length_append, HM.out, List.length_singleton]; rw [HM.out] at this; omega)).mono ?_
                have FP := hid PH.out.2.1
                clear o6 of6 ol6 wc7 HB6 y1 yl PH F6 SX
                rintro e w8 ⟨rfl, ⟨v8, h8⟩, f8⟩
                have S8 := hid h8
                have F8 : Hid (Fr (PMq bo B0) W w8) := (FC.out.trans FP.out).trans f8
                clear h8 f8 FP
                cases rv with
                | some p =>
                  have HR : Hid (r = some (⟨ta, tb, tw⟩ :: p)) := by
                    have h := HK3.out
                    exact (Option.some.inj h).symm
                  simp only [Option.isSome_some]
                  go_wp2
                  go_ret
                  rw [HR.out]
                  exact ⟨rfl, ⟨v8, by have h := S8.out; rw [List.append_assoc] at h; exact h⟩, F8.out⟩
                | none =>
                  have HK4 : Hid (pRow (pWalk L b n) L x y (row.drop (k + 1)) = some r) := HK3.out
                  have S9 : Hid (PthS N B0 bf bb bF bo bw bn bu sl L b w8 v8 (o ++ [⟨ta, tb, tw⟩])) := by have h := S8.out; simp only [Option.getD_none, List.append_nil] at h; exact h
                  clear S8 HK3
                  obtain ⟨vp8, vc8, hv8⟩ := OwnE.form S9.out.own
                  rw [show (o ++ [(⟨ta, tb, tw⟩ : Lnk)]).length = m + 1 by rw [List.length_append, HM.out]; rfl] at hv8
                  subst hv8
                  obtain ⟨g8, hvp, hcap⟩ : ∃ g, vp8 = some ⟨g, 0, none⟩ ∧ m + 1 ≤ vc8 := by
                    rcases OwnE.form' S9.out.own with ⟨_, h2⟩ | ⟨g, cap, h3, _, _, hc⟩
                    · simp at h2
                    · simp only [Value.slice.injEq] at h3
                      refine ⟨g, h3.1, ?_⟩
                      rw [List.length_append, HM.out] at hc
                      rw [h3.2.2]; exact hc
                  subst hvp
                  have SP := S9.out.pop
                  rw [HM.out] at SP
                  have HSP := hid SP
                  obtain ⟨o8, of8, ol8⟩ := one_of S9.out.boxO
                  clear SP S9
                  have w1 : IntKind.i64.wrap ((m : Int) + 1 - 1) = (m : Int) := by rw [IntKind.wrap_i64]; omega
                  have w2 : IntKind.i64.wrap (m : Int) = (m : Int) := by rw [IntKind.wrap_i64]; omega
                  have hc2 : m ≤ vc8 := by omega
                  have hc3 : (m : Int) ≤ (vc8 : Int) := by omega
                  simp only [Option.isSome_none]
                  go_wp2
                  go_roundg g
                  case rel => exact ⟨k + 1, _, by have := HKG.out; omega, by go_num, HSP.out.1, HK4, F8.out.trans HSP.out.2⟩
                  case measure => omega
        | zero =>
          obtain rfl : k = row.length := by omega
          have HR : Hid (r = none) := by
            show _ = _
            have h := HK.out
            rw [List.drop_length, pRow] at h
            exact (Option.some.inj h).symm
          have hnl : ¬ (row.length : Int) < (row.length : Int) := by omega
          clear hk
          go_wp2
          go_ret
          rw [HR.out]
          exact ⟨rfl, ⟨vo', by rw [show o ++ (none : Option (List Lnk)).getD [] = o by simp]; exact SK.out⟩, FK.out⟩
end Go.Proofs.YtlekoceindepnaaGreatDoor
end
section
/- The walks of Forest.Path and Forest.Links. -/
namespace Go.Proofs.YtlekoceindepnaaGreatDoor
open Go.RowKit
set_option maxRecDepth 100000

theorem fpath_no (M : Nat → Prop) (w : World) (bf : Nat) (L : List Lnk) (r : Int → Int) (x y : Int) (h : ForAt M w bf L r) (hn : ¬ (0 ≤ x ∧ 0 ≤ y ∧ r x = r y)) :
    Calls Tryz.prog 37 #[.pointer (some ⟨bf, 0, none⟩), .int .i64 x, .int .i64 y] w fun e w' => e = .returned (.tuple #[.slice none 0 0, .bool false]) ∧ ForAt M w' bf L r ∧ Fr M w w' := by
  have hf2 : Fr NoB w ((w.alloc (.cells #[.pointer (some ⟨bf, 0, none⟩)] 62)).alloc (.cells #[.int .i64 y] 3)) := ((Fr.refl NoB w).alloc _).alloc _
  have H2 := hid (h.quiet2 hf2)
  have F2 := hid hf2
  have HN := hid hn
  clear h hn hf2
  go_enter Tryz.func37, Tryz.ntmps37
  go_wp2_with fail
  refine (fsame_any M _ bf L r x y H2.out).mono ?_
  rintro e w3 ⟨rfl, h3, f3⟩
  rw [decide_eq_false HN.out]
  have H3 := hid h3
  have F3 := hid ((F2.out.mono (fun _ _ e => e.elim)).trans f3)
  clear h3 f3
  go_wp2
  go_ret2
  exact ⟨rfl, H3.out, F3.out⟩
set_option maxHeartbeats 4000000 in
theorem fpath_yes (M : Nat → Prop) (w : World) (bf : Nat) (L : List Lnk) (r : Int → Int) (x y : Int) (h : ForAt M w bf L r) (hn : 0 ≤ x ∧ 0 ≤ y ∧ r x = r y) (n : Nat) (res : Option (List Lnk)) (hp : pWalk L y n x (-1) = some res) (hl : n ≤ 10000000) :
    Calls Tryz.prog 37 #[.pointer (some ⟨bf, 0, none⟩), .int .i64 x, .int .i64 y] w fun e w' => ∃ p q, e = .returned (.tuple #[.slice p (res.getD []).length q, .bool true]) ∧ RdE lkCells (fun k => k < w.heap.size) w' (.slice p (res.getD []).length q) (res.getD []) ∧ ForAt M w' bf L r ∧ Fr M w w' := by
  have hf2 : Fr NoB w ((w.alloc (.cells #[.pointer (some ⟨bf, 0, none⟩)] 62)).alloc (.cells #[.int .i64 y] 3)) := ((Fr.refl NoB w).alloc _).alloc _
  have H2 := hid (h.quiet2 hf2)
  have F2 := hid hf2
  have HLT := hid h.lt
  have HN := hid hn
  have HP := hid hp
  have HL := hid hl
  obtain ⟨R, hR⟩ : ∃ R, Hid (res.getD [] = R) := ⟨_, hid rfl⟩
  rw [hR.out]
  have BF := hid (at_old (at_new w (.cells #[.pointer (some ⟨bf, 0, none⟩)] 62)) (.cells #[.int .i64 y] 3))
  have BB := hid (at_new (w.alloc (.cells #[.pointer (some ⟨bf, 0, none⟩)] 62)) (.cells #[.int .i64 y] 3))
  rw [World.size_alloc] at BB
  clear h hn hf2 hp hl
  go_enter Tryz.func37, Tryz.ntmps37
  go_wp2_with fail
  refine (fsame_any M _ bf L r x y H2.out).mono ?_
  rintro e w3 ⟨rfl, h3, f3⟩
  rw [decide_eq_true HN.out]
  have no1 : ¬ M w.heap.size := fun e => Nat.lt_irrefl _ (HLT.out _ e)
  have no2 : ¬ M (w.heap.size + 1) := fun e => by have := HLT.out _ e; omega
  have B1 := hid (f3.at no1 BF.out)
  have B2 := hid (f3.at no2 BB.out)
  have H3 := hid h3
  have F3 := hid ((F2.out.mono (fun _ _ e => e.elim)).trans f3)
  have HSZ : Hid (w.heap.size + 2 ≤ w3.heap.size) := by
    show _ ≤ _
    have := f3.size
    simp only [World.size_alloc] at this
    omega
  clear h3 f3 no1 no2 BF BB H2 F2
  obtain ⟨W4, HW4⟩ : ∃ q, Hid (q = (w3.alloc (.cells #[.slice none 0 0] 38)).alloc (.cells #[.nilFunc] 48)) := ⟨_, hid rfl⟩
  have F4 : Hid (Fr NoB w3 W4) := by show Fr _ _ _; rw [HW4.out]; exact ((Fr.refl NoB w3).alloc _).alloc _
  have o1 : W4.heap[w3.heap.size + 1]? = some (.cells #[.nilFunc] 48 (0, 0)) := by
    rw [HW4.out]
    have := at_new (w3.alloc (.cells #[.slice none 0 0] 38)) (.cells #[.nilFunc] 48)
    rw [World.size_alloc] at this; exact this
  have o2 : W4.heap[w3.heap.size]? = some (.cells #[.slice none 0 0] 38 (0, 0)) := by
    rw [HW4.out]
    exact at_old (at_new w3 (.cells #[.slice none 0 0] 38)) _
  have hs4 : W4.heap.size = w3.heap.size + 2 := by rw [HW4.out]; simp only [World.size_alloc]
  have O1 := hid o1
  have O2 := hid o2
  have HS4 := hid hs4
  obtain ⟨p0, pf, pl⟩ := one_of o1
  clear o1 o2 hs4
  have rsf : ∀ (W : World) (a : Addr) (fn : Fn) (x y : Array Value) (m : Mode), (store a (.func fn x y) m).run Tryz.prog W = stored Tryz.prog W a (.func fn x y) m := fun W a fn x y m => run_store Tryz.prog W a _ m rfl
  go_wp2_with (rw [← HW4.out])
  clear rsf p0 pf pl
  have F5 : Hid (Fr (fun k => k = w3.heap.size + 1) W4 (W4.setCell ⟨w3.heap.size + 1, 0, none⟩ (pthFn (w.heap.size + 1) w.heap.size w3.heap.size (w3.heap.size + 1)))) := (Fr.refl (fun k => k = w3.heap.size + 1) W4).setCell (p := ⟨w3.heap.size + 1, 0, none⟩) (fun _ => rfl) _
  have HW5 := hid (set_at O1.out 0 (pthFn (w.heap.size + 1) w.heap.size w3.heap.size (w3.heap.size + 1)))
  unfold pthFn at F5 HW5
  obtain ⟨W5, hw5⟩ : ∃ q, W4.setCell ⟨w3.heap.size + 1, 0, none⟩ (.func (.func 64) #[] #[.pointer (some ⟨w.heap.size + 1, 0, none⟩), .pointer (some ⟨w.heap.size, 0, none⟩), .pointer (some ⟨w3.heap.size, 0, none⟩), .pointer (some ⟨w3.heap.size + 1, 0, none⟩)]) = q := ⟨_, rfl⟩
  rw [hw5] at F5 HW5 ⊢
  clear hw5
  have hM3 : ∀ k, M k → k < w3.heap.size := H3.out.lt
  have F35 : Fr (fun k => k = w3.heap.size + 1) w3 W5 := (F4.out.mono (fun _ _ e => e.elim)).trans F5.out
  have H5 := H3.out.fr F35 (fun k hk e => by have := hM3 k hk; omega)
  have hz5 : w3.heap.size + 2 ≤ W5.heap.size := by rw [← HS4.out]; exact F5.out.size
  have H5' := hid H5
  have hsz := HSZ.out
  obtain ⟨⟨bn, bu, sl, g, rk, h1, h2, h3, h4, h5, h6, h7, m1, m2, m3⟩, h8⟩ := H5
  have no : ∀ k, M k → ¬ PMq w3.heap.size (w3.heap.size + 2) k := fun k hk e => by
    have := hM3 k hk
    rcases e with e | e <;> omega
  have S5 : PthS M (w3.heap.size + 2) bf (w.heap.size + 1) w.heap.size w3.heap.size (w3.heap.size + 1) bn bu sl L y W5 (.slice none 0 0) [] := by
    refine ⟨⟨F35.at (fun e => by omega) B2.out, F35.at (fun e => by omega) B1.out, HW5.out, h1, OwnE.rd h2 (fun b hb hm => no b (h3 b hb) hm), h4, no, fun e => ?_, fun e => ?_, fun e => ?_, no _ m1, no _ m2, by omega, hz5⟩, F5.out.at (fun e => by omega) O2.out, OwnE.nil _ _ _ _ _, fun g hg => by cases hg⟩
    · rcases e with e | e <;> omega
    · rcases e with e | e <;> omega
    · rcases e with e | e <;> omega
  have HNO := hid no
  have HF := hid F35
  have HR := hid (walk_any n x (-1) res W5 (.slice none 0 0) [] S5 HP.out (by simpa using HL.out))
  clear F35 hM3 h1 h2 h3 h4 h5 h6 h7 m1 m2 m3 h8 no S5 hz5 hsz
  refine HR.out.mono ?_
  rintro e w6 ⟨rfl, ⟨v6, h6⟩, f6⟩
  rw [hR.out] at h6
  have S6 : Hid (PthS M (w3.heap.size + 2) bf (w.heap.size + 1) w.heap.size w3.heap.size (w3.heap.size + 1) bn bu sl L y w6 v6 R) := h6
  have H6 := hid (H5'.out.fr f6 HNO.out)
  have hsz := HSZ.out
  have F6 : Hid (Fr M w w6) := (F3.out.trans' HF.out (fun k hk e => by have e2 : k = w3.heap.size + 1 := e; omega)).trans' f6 (fun k hk e => by
    rcases e with e | e
    · omega
    · omega)
  clear hsz
  clear h6 f6
  obtain ⟨p6, q6, hv6⟩ := OwnE.form S6.out.own
  subst hv6
  obtain ⟨o0, of, ol⟩ := one_of S6.out.boxO
  have S7 := hid (OwnE.rd S6.out.own (M := fun k => k < w.heap.size) (fun j hj e => by have := S6.out.hi j hj; have := HSZ.out; omega))
  clear S6
  go_wp2
  go_ret2
  exact ⟨p6, q6, rfl, S7.out, H6.out, F6.out⟩
end Go.Proofs.YtlekoceindepnaaGreatDoor
end
section
/- The walks of egraph's Dirty, Find, Same, Len, Classes, Count; Mark of the sets, Len of the forest. -/
namespace Go.Proofs.YtlekoceindepnaaGreatDoor
open Go.RowKit
set_option maxRecDepth 100000

section
variable {c0 : Col} {w : World} {bg : Nat} {s : GS}
theorem GrAt.open (h0 : GrAt c0 w bg s) : ∃ bc h, GIs c0 w bc h s ∧ w.cell? ⟨bg, 0, none⟩ = some (.pointer (some ⟨bc, 0, none⟩)) ∧ bg < w.heap.size := by
  obtain ⟨bc, h, h1, h2, _⟩ := h0
  exact ⟨bc, h, h2, by simp [World.cell?, h1], (Array.getElem?_eq_some_iff.1 h1).1⟩
theorem edirty_any (h0 : GrAt c0 w bg s) : Calls Tryz.prog 12 #[.pointer (some ⟨bg, 0, none⟩)] w fun e w' => e = .returned (.bool s.dirty) ∧ w' = w := by
  obtain ⟨d, hd⟩ : ∃ d, Hid (s.dirty = d) := ⟨_, hid rfl⟩
  rw [hd.out]
  obtain ⟨bc, h, g, g0, gl⟩ := h0.open
  have H0 := hid h0
  have G := hid g
  obtain ⟨k0, k1, k2, k3, k4, k5, k6, k7, k8, k9, k10, kf, kl⟩ := g.cells
  clear k0 k1 k2 k3 k4 k5 k6 k7 k8 k10 kf
  clear h0 g
  go_enter Tryz.func12, Tryz.ntmps12
  go_wp2_with fail
  refine (emade_any H0.out).mono ?_
  rintro e w' ⟨rfl, h9⟩
  subst h9
  rw [hd.out] at k9
  go_wp2
  go_ret
  exact ⟨rfl, rfl⟩
theorem efind_any (h0 : GrAt c0 w bg s) (x : Int) : Calls Tryz.prog 13 #[.pointer (some ⟨bg, 0, none⟩), .int .i64 x] w fun e w' => e = .returned (.int .i64 (findS s.uf.par x)) ∧ w' = w := by
  obtain ⟨bc, h, g, g0, gl⟩ := h0.open
  have H0 := hid h0
  have G := hid g
  obtain ⟨k0, k1, k2, k3, k4, k5, k6, k7, k8, k9, k10, kf, kl⟩ := g.cells
  clear k1 k2 k3 k4 k5 k6 k7 k8 k9 k10 kf
  clear h0 g
  go_enter Tryz.func13, Tryz.ntmps13
  go_wp2_with fail
  refine (emade_any H0.out).mono ?_
  rintro e w' ⟨rfl, h9⟩
  subst h9
  go_wp2_with fail
  refine (uffind_any x G.out.sets).mono ?_
  rintro e w' ⟨rfl, h9⟩
  subst h9
  go_wp2
  go_ret
  exact ⟨rfl, rfl⟩
theorem esame_any (h0 : GrAt c0 w bg s) (x y : Int) : Calls Tryz.prog 14 #[.pointer (some ⟨bg, 0, none⟩), .int .i64 x, .int .i64 y] w fun e w' => e = .returned (.bool (sameS2 s.uf.par x y)) ∧ w' = w := by
  obtain ⟨r, hr⟩ : ∃ r, Hid (sameS2 s.uf.par x y = r) := ⟨_, hid rfl⟩
  rw [hr.out]
  obtain ⟨bc, h, g, g0, gl⟩ := h0.open
  have H0 := hid h0
  have G := hid g
  obtain ⟨k0, k1, k2, k3, k4, k5, k6, k7, k8, k9, k10, kf, kl⟩ := g.cells
  clear k1 k2 k3 k4 k5 k6 k7 k8 k9 k10 kf
  clear h0 g
  go_enter Tryz.func14, Tryz.ntmps14
  go_wp2_with fail
  refine (emade_any H0.out).mono ?_
  rintro e w' ⟨rfl, h9⟩
  subst h9
  go_wp2_with fail
  refine (ufsame_any x y G.out.sets).mono ?_
  rintro e w' ⟨rfl, h9⟩
  subst h9
  rw [hr.out]
  go_wp2
  go_ret
  exact ⟨rfl, rfl⟩
theorem elen_any (h0 : GrAt c0 w bg s) : Calls Tryz.prog 15 #[.pointer (some ⟨bg, 0, none⟩)] w fun e w' => e = .returned (.int .i64 s.nodes.length) ∧ w' = w := by
  obtain ⟨bc, h, g, g0, gl⟩ := h0.open
  have H0 := hid h0
  have G := hid g
  obtain ⟨k0, k1, k2, k3, k4, k5, k6, k7, k8, k9, k10, kf, kl⟩ := g.cells
  clear k0 k2 k3 k4 k5 k6 k7 k8 k9 k10 kf
  clear h0 g
  go_enter Tryz.func15, Tryz.ntmps15
  go_wp2_with fail
  refine (emade_any H0.out).mono ?_
  rintro e w' ⟨rfl, h9⟩
  subst h9
  obtain ⟨d, hd1, hd2, hd3, hd4⟩ := G.out.nodes
  have hdl : d.length = s.nodes.length := by rw [← hd1, List.length_map]
  obtain ⟨np, nc, hvn⟩ := OwnE.form hd2
  rw [hdl] at hvn
  rw [hvn] at k1
  clear hd1 hd2 hd3 hd4 hdl hvn
  go_wp2
  go_ret
  exact ⟨rfl, rfl⟩
theorem eclasses_any (h0 : GrAt c0 w bg s) : Calls Tryz.prog 17 #[.pointer (some ⟨bg, 0, none⟩)] w fun e w' => ∃ p q, e = .returned (.slice p (rootsS s.uf.par).length q) ∧ OwnI w.heap.size w' (.slice p (rootsS s.uf.par).length q) (rootsS s.uf.par) ∧ Fr NoB w w' := by
  obtain ⟨l, hl⟩ : ∃ l, Hid (rootsS s.uf.par = l) := ⟨_, hid rfl⟩
  rw [hl.out]
  obtain ⟨bc, h, g, g0, gl⟩ := h0.open
  have H0 := hid h0
  have G := hid g
  obtain ⟨k0, k1, k2, k3, k4, k5, k6, k7, k8, k9, k10, kf, kl⟩ := g.cells
  clear k1 k2 k3 k4 k5 k6 k7 k8 k9 k10 kf
  clear h0 g
  go_enter Tryz.func17, Tryz.ntmps17
  go_wp2_with fail
  refine (emade_any H0.out).mono ?_
  rintro e w' ⟨rfl, h9⟩
  subst h9
  go_wp2_with fail
  refine (roots_any G.out.sets).mono ?_
  rw [hl.out]
  rintro e w2 ⟨p, q, rfl, ho, hf⟩
  have HO := hid ho
  have HF := hid hf
  clear ho hf
  go_wp2
  go_ret
  exact ⟨p, q, rfl, HO.out, HF.out⟩
theorem ecount_any (h0 : GrAt c0 w bg s) : Calls Tryz.prog 16 #[.pointer (some ⟨bg, 0, none⟩)] w fun e w' => e = .returned (.int .i64 (rootsS s.uf.par).length) ∧ Fr NoB w w' := by
  have H0 := hid h0
  clear h0
  obtain ⟨l, hl⟩ : ∃ l, Hid (rootsS s.uf.par = l) := ⟨_, hid rfl⟩
  rw [hl.out]
  go_enter Tryz.func16, Tryz.ntmps16
  go_wp2_with fail
  refine (eclasses_any H0.out).mono ?_
  rw [hl.out]
  rintro e w2 ⟨p, q, rfl, ho, hf⟩
  have HF := hid hf
  clear ho hf
  go_wp2
  go_ret
  exact ⟨rfl, HF.out⟩
theorem ufmark_any {N : Nat → Prop} {bs : Nat} {u : Uf} (h : SetsAt N w bs u) : Calls Tryz.prog 46 #[.pointer (some ⟨bs, 0, none⟩)] w fun e w' => e = .returned (.int .i64 u.tr.length) ∧ w' = w := by
  have H := hid h
  obtain ⟨sP, sT, h1, h2, h3, _⟩ := h.ex
  obtain ⟨pp, pc, hv⟩ := OwnE.form h3
  subst hv
  obtain ⟨c0, c1, c2, cf, cl⟩ := three_of h1
  clear h h1 h2 h3
  go_enter Tryz.func46, Tryz.ntmps46
  go_wp2_with fail
  refine (ufvalid_any H.out).mono ?_
  rintro e w' ⟨rfl, h9⟩
  subst h9
  go_wp2
  go_ret
  exact ⟨rfl, rfl⟩
theorem flen_any {M : Nat → Prop} {bf : Nat} {L : List Lnk} {r : Int → Int} (h : ForAt M w bf L r) : Calls Tryz.prog 45 #[.pointer (some ⟨bf, 0, none⟩)] w fun e w' => e = .returned (.int .i64 L.length) ∧ w' = w := by
  obtain ⟨bn, bu, sl, g, rk, h1, h2, _⟩ := h.ex
  obtain ⟨pp, pc, hv⟩ := OwnE.form h2
  subst hv
  obtain ⟨c0, c1, c2, c3, cf, cl⟩ := h1.cells
  have ep := eqPtrF
  clear h h1 h2
  go_enter Tryz.func45, Tryz.ntmps45
  go_wp2
  go_ret
  exact ⟨rfl, rfl⟩
end
end Go.Proofs.YtlekoceindepnaaGreatDoor
end
section
/- The walks of Forest.Links and of egraph's Links and Path. -/
namespace Go.Proofs.YtlekoceindepnaaGreatDoor
open Go.RowKit
set_option maxRecDepth 100000

theorem ap_lnkB (B : Nat) (w : World) {ops : Array Oper} {rest : List Oper} {o : Oper} {a : Act} {Q : Exit → Act → World → Prop} (hg : o.guard = none) (s x : Operand)
    (ho : o.op = .call { callee := .builtin .append, args := #[s, x], argTypes := #[38, 38] }) (v : Value) (l : List Lnk) (hs : a.eval s = v) (hown : OwnE lkCells 3 81 B w v l) (hB : B ≤ w.heap.size)
    (u : Value) (m : List Lnk) (hx : a.eval x = u) (hrd : RdE lkCells NoB w u m) (hlen : l.length + m.length ≤ 1000000000)
    (h : ∀ p q w', OwnE lkCells 3 81 B w' (.slice p (l ++ m).length q) (l ++ m) → w.grownBy w' v.ownBlock → ((Value.slice p (l ++ m).length q).ownBlock = v.ownBlock ∨ (Value.slice p (l ++ m).length q).ownBlock = some w.heap.size) → wpList Tryz.prog ops Q rest (a.put o.dst (.slice p (l ++ m).length q)) w') : wpList Tryz.prog ops Q (o :: rest) a w := by
  refine ap_rows (z := .agg #[.int .i64 0, .int .i64 0, .int .i64 0]) (bytes := 24) w lkLen (by decide) Tryz.underlying38 infoLnk rfl hg s x ho B v l hs hown NoB u m hx hrd (fun y hy u hu => ?_) (by omega) (by omega) hB (fun v' w' h1 h2 h3 => ?_)
  · simp only [lkCells, List.mem_cons, List.not_mem_nil, or_false] at hu
    rcases hu with rfl | rfl | rfl <;> rfl
  · obtain ⟨p, q, hv⟩ := OwnE.form h1
    subst hv
    exact h p q w' h1 h2 h3
theorem own_none {α : Type} {enc : α → List Value} {k : Nat} {e : TypeId} (w : World) (B : Nat) (hB : B ≤ w.heap.size) : OwnE enc k e B (w.alloc (.cells #[] e)) (.slice (some ⟨w.heap.size, 0, none⟩) 0 0) [] := by
  have h := World.ownsRow_lit (base := B) (e := e) (size := k) w #[] 0 hB (by unfold maxLen; omega) (by simp)
  simpa [OwnE, flatE] using h
theorem eqSlL (w : World) (r : Option Addr) (n c : Nat) : (binOp .eql 38 (.slice r n c) (.slice none 0 0)).run Tryz.prog w = .ok (.bool r.isNone) w := by
  cases r <;> kernel_rfl
theorem cloneL_any (w : World) (a : Option Addr) (n c : Nat) (l : List Lnk) (h : OwnL w (.slice a n c) l) (hl : l.length ≤ 1000000000) :
    Calls Tryz.prog 73 #[.slice a n c] w fun e w' => ∃ p q, e = .returned (.slice p l.length q) ∧ OwnE lkCells 3 81 w.heap.size w' (.slice p l.length q) l ∧ Fr NoB w w' := by
  have H := hid h
  have HL := hid hl
  have es := eqSlL
  rcases OwnE.form' h with ⟨h1, h2⟩ | ⟨g, cap, h3, _, _, hc⟩
  · cases h1
    subst h2
    clear h hl
    go_enter Tryz.func73, Tryz.ntmps73
    go_wp2
    go_ret
    exact ⟨none, 0, rfl, OwnE.nil _ _ _ _ _, Fr.refl _ _⟩
  · simp only [Value.slice.injEq] at h3
    obtain ⟨rfl, rfl, rfl⟩ := h3
    clear h hl hc
    go_enter Tryz.func73, Tryz.ntmps73
    have ho0 : OwnE lkCells 3 81 w.heap.size (w.alloc (.cells #[] 81)) (.slice (some ⟨w.heap.size, 0, none⟩) 0 0) [] := own_none w w.heap.size (Nat.le_refl _)
    go_wp2_with (at_builtin; go_loud (refine ap_lnkB w.heap.size _ rfl _ _ rfl (.slice (some ⟨w.heap.size, 0, none⟩) 0 0) [] rfl ho0 (by simp only [World.size_alloc]; omega) _ l rfl (OwnE.rd (OwnE.step H.out ((Fr.refl NoB w).alloc _)) (fun _ _ e => e)) ?_ ?_; (have := HL.out; simp only [List.length_nil]; omega); intro p6 q6 w6 ho6 hg6 hb6; have F6 : Hid (Fr NoB w w6) := Fr.grown ((Fr.refl NoB w).alloc _) hg6 (fun k e hk => by have e2 : w.heap.size = k := Option.some.inj e; omega); have O6 := hid ho6; clear ho6 hg6 hb6 ho0))
    go_ret
    exact ⟨p6, q6, rfl, O6.out, F6.out⟩
theorem flinks_any {M : Nat → Prop} {w : World} {bf : Nat} {L : List Lnk} {r : Int → Int} (h : ForAt M w bf L r) (hl : L.length ≤ 1000000000) : Calls Tryz.prog 44 #[.pointer (some ⟨bf, 0, none⟩)] w fun e w' => ∃ p q, e = .returned (.slice p L.length q) ∧ OwnE lkCells 3 81 w.heap.size w' (.slice p L.length q) L ∧ Fr NoB w w' := by
  obtain ⟨bn, bu, sl, g, rk, h1, h2, _⟩ := h.ex
  obtain ⟨pp, pc, hv⟩ := OwnE.form h2
  subst hv
  obtain ⟨c0, c1, c2, c3, cf, cl⟩ := h1.cells
  have ep := eqPtrF
  have CL := hid (cloneL_any w pp L.length pc L h2 hl)
  clear h h1 h2
  go_enter Tryz.func44, Tryz.ntmps44
  go_wp2_with fail
  refine CL.out.mono ?_
  rintro e w' ⟨p, q, rfl, ho, hf⟩
  have HO := hid ho
  have HF := hid hf
  clear ho hf CL
  go_wp2
  go_ret
  exact ⟨p, q, rfl, HO.out, HF.out⟩
section
variable {c0 : Col} {w : World} {bg : Nat} {s : GS}
theorem elinks_any (h0 : GrAt c0 w bg s) (hl : s.links.length ≤ 1000000000) : Calls Tryz.prog 21 #[.pointer (some ⟨bg, 0, none⟩)] w fun e w' => ∃ p q, e = .returned (.slice p s.links.length q) ∧ OwnE lkCells 3 81 w.heap.size w' (.slice p s.links.length q) s.links ∧ Fr NoB w w' := by
  obtain ⟨l, hll⟩ : ∃ l, Hid (s.links = l) := ⟨_, hid rfl⟩
  obtain ⟨bc, h, g, g0, gl⟩ := h0.open
  have H0 := hid h0
  have CL := hid (flinks_any g.proofs hl)
  rw [hll.out] at CL ⊢
  obtain ⟨k0, k1, k2, k3, k4, k5, k6, k7, k8, k9, k10, kf, kl⟩ := g.cells
  clear k0 k1 k2 k3 k4 k5 k7 k8 k9 k10 kf
  clear h0 g
  go_enter Tryz.func21, Tryz.ntmps21
  go_wp2_with fail
  refine (emade_any H0.out).mono ?_
  rintro e w' ⟨rfl, h9⟩
  subst h9
  go_wp2_with fail
  refine CL.out.mono ?_
  rintro e w' ⟨p, q, rfl, ho, hf⟩
  have HO := hid ho
  have HF := hid hf
  clear ho hf CL
  go_wp2
  go_ret
  exact ⟨p, q, rfl, HO.out, HF.out⟩
end
end Go.Proofs.YtlekoceindepnaaGreatDoor
end
section
/- The walk of egraph's Path. -/
namespace Go.Proofs.YtlekoceindepnaaGreatDoor
open Go.RowKit
set_option maxRecDepth 100000

section
variable {c c' : Col} {W W6 : World} {bc : Nat} {h : GH} {c0 : Col} {w : World} {bg : Nat} {s : GS}
/-- The forest has turned inside: its links are the same. -/
theorem GIs.turnFor (g : GIs c W bc h s) (hs : ForAt (fun k => c k = 2) W6 h.bf s.links s.lr) (hf : Fr (fun k => c k = 2) W W6) : GIs c W6 bc h s := by
  have K := keep_of (c := c) (c' := c) hf (Ext.refl _ _) (fun k _ h => h) (by decide)
  have lt : ∀ b, c b ≠ 0 → b < W6.heap.size := fun b hb => Nat.lt_of_lt_of_le (g.lt b hb) hf.size
  exact ⟨hf.at (fun hm => by have h1 : c bc = 2 := hm; rw [g.own] at h1; exact absurd h1 (by decide)) g.head, g.sets.keep (K 1 (by decide)), g.nodes.keep (K 9 (by decide)), g.keys.keep (K 8 (by decide)), g.users.keep (K 3 (by decide)), g.exact.keep (K 5 (by decide)), g.table.keep (K 6 (by decide)),
    hs, g.vars.keep (K 7 (by decide)), g.todo.keep (K 4 (by decide)), g.marks.keep (K 10 (by decide)), g.own, lt⟩
theorem AdW.turnFor {w0 : World} (a : AdW c0 w0 bg bc c W h s) (hs : ForAt (fun k => c k = 2) W6 h.bf s.links s.lr) (hf : Fr (fun k => c k = 2) W W6) : AdW c0 w0 bg bc c W6 h s :=
  a.turn (a.g.turnFor hs hf) (hf.mono (fun k _ e => Mut.of (by decide) e)) (Ext.refl _ _)
/-- What the walks of Path know of the ids. -/
theorem epath_out (h0 : GrAt c0 w bg s) (ht : Tab w) (htb : c0 TB = 0) (x y : Int) (hx : ¬ (0 ≤ x ∧ 0 ≤ y ∧ x < (s.nodes.length : Int) ∧ y < (s.nodes.length : Int))) :
    Calls Tryz.prog 9 #[.pointer (some ⟨bg, 0, none⟩), .int .i64 x, .int .i64 y] w fun e w' => e = .returned (.tuple #[.slice none 0 0, .bool false]) ∧ w' = w := by
  obtain ⟨bc, h, a0⟩ := AdW.start h0 ht htb
  have A1 := hid a0
  clear h0 ht htb a0
  go_enter Tryz.func9, Tryz.ntmps9
  go_wp2_with fail
  refine (emade_any A1.out.done).mono ?_
  rintro e w' ⟨rfl, h9⟩
  subst h9
  have g0 := cells_at A1.out.gr 0
  have gl := (Array.getElem?_eq_some_iff.1 A1.out.gr).1
  simp only [List.getElem?_toArray, List.getElem?_cons_zero] at g0
  obtain ⟨k0, k1, k2, k3, k4, k5, k6, k7, k8, k9, k10, kf, kl⟩ := A1.out.g.cells
  clear k0 k2 k3 k4 k5 k6 k7 k8 k9 k10
  obtain ⟨dn, hd1, hd2, hd3, hd4⟩ := A1.out.g.nodes
  have hdl : dn.length = s.nodes.length := by rw [← hd1, List.length_map]
  obtain ⟨np, nc, hvn⟩ := OwnE.form hd2
  rw [hdl] at hvn
  rw [hvn] at k1
  obtain ⟨nl, hnl⟩ : ∃ k, s.nodes.length = k := ⟨_, rfl⟩
  rw [hnl] at k1 hx
  have HX := hid hx
  clear hd1 hd2 hd3 hd4 hdl hvn hnl hx
  by_cases x0 : x < 0
  · go_wp2
    go_ret2
    exact ⟨rfl, rfl⟩
  have x0' : 0 ≤ x := by omega
  by_cases y0 : y < 0
  · go_wp2
    go_ret2
    exact ⟨rfl, rfl⟩
  have y0' : 0 ≤ y := by omega
  by_cases x1 : (nl : Int) ≤ x
  · go_wp2
    go_ret2
    exact ⟨rfl, rfl⟩
  have x1' : x < (nl : Int) := by omega
  have y1 : (nl : Int) ≤ y := by have := HX.out; omega
  go_wp2
  go_ret2
  exact ⟨rfl, rfl⟩
theorem epath_in (h0 : GrAt c0 w bg s) (ht : Tab w) (htb : c0 TB = 0) (x y : Nat) (hx : x < s.nodes.length) (hy : y < s.nodes.length) (R : Ending → World → Prop)
    (hcall : ∀ bc h, AdW c0 w bg bc c0 w h s → Calls Tryz.prog 37 #[.pointer (some ⟨h.bf, 0, none⟩), .int .i64 x, .int .i64 y] w fun e w' => ∃ p n q b, e = .returned (.tuple #[.slice p n q, .bool b]) ∧ R (.returned (.tuple #[.slice p n q, .bool b])) w') :
    Calls Tryz.prog 9 #[.pointer (some ⟨bg, 0, none⟩), .int .i64 x, .int .i64 y] w R := by
  obtain ⟨bc, h, a0⟩ := AdW.start h0 ht htb
  have A1 := hid a0
  have HC := hid (hcall bc h a0)
  clear h0 ht htb a0 hcall
  go_enter Tryz.func9, Tryz.ntmps9
  go_wp2_with fail
  refine (emade_any A1.out.done).mono ?_
  rintro e w' ⟨rfl, h9⟩
  subst h9
  have g0 := cells_at A1.out.gr 0
  have gl := (Array.getElem?_eq_some_iff.1 A1.out.gr).1
  simp only [List.getElem?_toArray, List.getElem?_cons_zero] at g0
  obtain ⟨k0, k1, k2, k3, k4, k5, k6, k7, k8, k9, k10, kf, kl⟩ := A1.out.g.cells
  clear k0 k2 k3 k4 k5 k7 k8 k9 k10
  obtain ⟨dn, hd1, hd2, hd3, hd4⟩ := A1.out.g.nodes
  have hdl : dn.length = s.nodes.length := by rw [← hd1, List.length_map]
  obtain ⟨np, nc, hvn⟩ := OwnE.form hd2
  rw [hdl] at hvn
  rw [hvn] at k1
  obtain ⟨nl, hnl⟩ : ∃ k, s.nodes.length = k := ⟨_, rfl⟩
  rw [hnl] at k1 hx hy
  clear hd1 hd2 hd3 hd4 hdl hvn hnl
  have x0 : ¬ (x : Int) < 0 := by omega
  have y0 : ¬ (y : Int) < 0 := by omega
  have x1 : ¬ (nl : Int) ≤ (x : Int) := by omega
  have y1 : ¬ (nl : Int) ≤ (y : Int) := by omega
  have x2 : ¬ nl ≤ x := by omega
  have y2 : ¬ nl ≤ y := by omega
  clear hx hy
  go_wp2_with fail
  refine HC.out.mono ?_
  rintro e w2 ⟨p, n, q, b, rfl, hr⟩
  have HR := hid hr
  clear hr
  go_wp2
  exact HR.out
theorem epath_yes (h0 : GrAt c0 w bg s) (ht : Tab w) (htb : c0 TB = 0) (x y : Nat) (hx : x < s.nodes.length) (hy : y < s.nodes.length) (hr : s.lr x = s.lr y) (n : Nat) (res : Option (List Lnk)) (hp : pWalk s.links y n x (-1) = some res) (hl : n ≤ 10000000) :
    Calls Tryz.prog 9 #[.pointer (some ⟨bg, 0, none⟩), .int .i64 x, .int .i64 y] w fun e w' => ∃ p q, e = .returned (.tuple #[.slice p (res.getD []).length q, .bool true]) ∧ RdE lkCells (fun k => k < w.heap.size) w' (.slice p (res.getD []).length q) (res.getD []) ∧ GrAt c0 w' bg s ∧ Fr (Mut c0) w w' := by
  refine epath_in h0 ht htb x y hx hy _ (fun bc h a => ?_)
  refine (fpath_yes (fun k => c0 k = 2) w h.bf s.links s.lr x y a.g.proofs ⟨by omega, by omega, hr⟩ n res hp hl).mono ?_
  rintro e w' ⟨p, q, rfl, h1, h2, h3⟩
  exact ⟨_, _, _, _, rfl, p, q, rfl, h1, (a.turnFor h2 h3).done, (a.turnFor h2 h3).fr⟩
theorem epath_no (h0 : GrAt c0 w bg s) (ht : Tab w) (htb : c0 TB = 0) (x y : Nat) (hx : x < s.nodes.length) (hy : y < s.nodes.length) (hr : s.lr x ≠ s.lr y) :
    Calls Tryz.prog 9 #[.pointer (some ⟨bg, 0, none⟩), .int .i64 x, .int .i64 y] w fun e w' => e = .returned (.tuple #[.slice none 0 0, .bool false]) ∧ GrAt c0 w' bg s ∧ Fr (Mut c0) w w' := by
  refine epath_in h0 ht htb x y hx hy _ (fun bc h a => ?_)
  refine (fpath_no (fun k => c0 k = 2) w h.bf s.links s.lr x y a.g.proofs (fun h => hr h.2.2)).mono ?_
  rintro e w' ⟨rfl, h2, h3⟩
  exact ⟨_, _, _, _, rfl, rfl, (a.turnFor h2 h3).done, (a.turnFor h2 h3).fr⟩
end
end Go.Proofs.YtlekoceindepnaaGreatDoor
end
