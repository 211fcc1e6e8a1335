import Derived.Test.YtgpliiepoimcbaaDoorPk0
import Derived.BigQuiet
import Derived.Deep.QuietTactic
import Derived.Deep.RegionHeld3
import Derived.KernelRfl
import Derived.Lib.RabinKarpLaws
import Derived.Maps.AppendAt
import Derived.StillTailTactics
import Derived.Test.YtgpliiepoimcbaaDoorProg
set_option linter.all false
section
/- The walk of the reference's Width. -/
namespace Go.Proofs.YtgpliiepoimcbaaDoor
open Go.RowKit
set_option maxRecDepth 100000

theorem RdI.lit3 {M : Nat → Prop} {w : World} {p : Option Addr} {n c : Nat} {l : List Int} (h : RdI M w (.slice p n c) l) (hn : 0 < l.length) : ∃ b off, p = some ⟨b, off, none⟩ ∧ b < w.heap.size ∧ ∀ i, i < l.length → w.cell? ⟨b, off + i, none⟩ = some (.int .i64 (l.getD i 0)) := by
  rcases h with ⟨_, h2⟩ | ⟨b, off, cap, h1, h2, _, _, hc⟩
  · rw [h2] at hn; simp at hn
  · simp only [Value.slice.injEq] at h1
    obtain ⟨rfl, rfl, rfl⟩ := h1
    exact ⟨b, off, rfl, h2, hc⟩
theorem cell_in {w W : World} {b off : Nat} (F : Fr NoB w W) (hb : b < w.heap.size) {l : List Int} (hc : ∀ i, i < l.length → w.cell? ⟨b, off + i, none⟩ = some (.int .i64 (l.getD i 0))) (hin : ∀ y ∈ l, 0 ≤ y ∧ y ≤ 64) {k : Nat} (hk : k < l.length) :
    ∃ y, W.cell? ⟨b, off + k, none⟩ = some (.int .i64 y) ∧ insideS y = true :=
  ⟨_, F.c hb (fun h => h) (hc k hk), insideS_iff.2 (hin _ (getD_mem hk))⟩

set_option maxHeartbeats 2000000 in
theorem refWidth_leaf (M : Nat → Prop) (op x val : Int) (hv : 0 ≤ val ∧ val < 18446744073709551616) (v : Value) (w : World) (h : RdI M w v []) (hop : op = 1 ∨ op = 2 ∨ op = 24 ∨ op = 25) (hk : knownS op = true) (ha : ariS op = 0) :
    Calls Tryd.prog 61 #[.int .i64 op, .int .i64 x, .int .u64 val, v] w fun e w' => e = .returned (pairV (opW op x val [])) ∧ Fr NoB w w' := by
  obtain ⟨p, c, rfl⟩ := h.form
  simp only [List.length_nil] at *
  have HV := hid hv
  clear hv
  rw [opW_ok (a := []) hk (by simpa using ha) (by simp)]
  have HOP := hid hop
  have hlf : leafOp op = true := by unfold leafOp; simp; omega
  have F : Hid (Fr NoB w w) := Fr.refl NoB w
  clear hop hk
  go_enter Tryd.func61, Tryd.ntmps61
  go_wp2_with (go_at_call 58; refine (refArity_any op _).mono ?_; rintro e w9 ⟨rfl, hf⟩; have F := hid (F.out.step hf); clear hf)
  go_loop [23] (fun i => ∃ k : Nat, k ≤ 0 ∧ i = .int .i64 k) (fun i => 0 - (intOf i).toNat)
  case atStart => exact ⟨0, Nat.zero_le _, rfl⟩
  case round =>
    obtain ⟨k, hkn, rfl⟩ := hrel
    by_cases hlt : k < 0
    · omega
    · obtain rfl : k = 0 := by omega
      go_wp2_with fail
      refine (refLeafOp_any op _).mono ?_
      rintro e w9 ⟨rfl, hf⟩
      have F := hid (F.out.step hf)
      clear hf
      rcases HOP.out with rfl | rfl | rfl | rfl <;>
      · go_wp2_with (go_at_call 76; refine (refLeaf_any _ x val _ HV.out).mono ?_; rintro e w9 ⟨rfl, h9⟩; have h9 := h9.symm; subst h9)
        go_ret2
        exact ⟨rfl, F.out⟩
set_option maxHeartbeats 2000000 in
theorem refWidth_un (M : Nat → Prop) (op x val : Int) (v : Value) (w : World) (a0 : Int) (h : RdI M w v [a0]) (hop : op = 3 ∨ op = 4 ∨ op = 26) (hk : knownS op = true) (ha : ariS op = 1) (h0 : 0 ≤ a0 ∧ a0 ≤ 64) :
    Calls Tryd.prog 61 #[.int .i64 op, .int .i64 x, .int .u64 val, v] w fun e w' => e = .returned (pairV (opW op x val [a0])) ∧ Fr NoB w w' := by
  obtain ⟨p, c, rfl⟩ := h.form
  simp only [List.length_cons, List.length_nil, Nat.zero_add] at *
  obtain ⟨b, off, rfl, hb, hc⟩ := h.lit3 (by simp)
  have HC := hid hc
  have HIN : Hid (∀ y ∈ [a0], 0 ≤ y ∧ y ≤ 64) := by show ∀ y ∈ [a0], 0 ≤ y ∧ y ≤ 64; simp [h0]
  have c0 := hc 0 (by simp)
  simp only [List.getD_cons_zero, Nat.add_zero] at c0
  clear hc h
  have C0 := hid c0
  clear c0
  rw [opW_ok (a := [a0]) hk (by simpa using ha) (by simp [h0])]
  have H0 := hid h0
  have HOP := hid hop
  have hlf : leafOp op = false := by unfold leafOp; simp; omega
  have F : Hid (Fr NoB w w) := Fr.refl NoB w
  clear hop hk h0
  go_enter Tryd.func61, Tryd.ntmps61
  go_wp2_with (go_at_call 58; refine (refArity_any op _).mono ?_; rintro e w9 ⟨rfl, hf⟩; have F := hid (F.out.step hf); clear hf)
  have c0 := F.out.c hb (fun h => h) C0.out
  go_loop [23] (fun i => ∃ k : Nat, k ≤ 1 ∧ i = .int .i64 k) (fun i => 1 - (intOf i).toNat)
  case atStart => exact ⟨0, Nat.zero_le _, rfl⟩
  case round =>
    obtain ⟨k, hkn, rfl⟩ := hrel
    by_cases hlt : k < 1
    · obtain ⟨y, hy, hin⟩ := cell_in F.out hb HC.out HIN.out (k := k) (by simpa using hlt)
      go_wp2_with (go_at_call 75; refine (refWidth_any y _).mono ?_; rintro e w9 ⟨rfl, h9⟩; have h9 := h9.symm; subst h9)
      go_round
      case rel => exact ⟨k + 1, by omega, by go_num⟩
      case measure => simp [intOf]; omega
    · obtain rfl : k = 1 := by omega
      clear c0
      go_wp2_with fail
      refine (refLeafOp_any op _).mono ?_
      rintro e w9 ⟨rfl, hf⟩
      have F := hid (F.out.step hf)
      clear hf
      have c0 := F.out.c hb (fun h => h) C0.out
      rcases HOP.out with rfl | rfl | rfl <;>
      · go_wp2
        go_ret2
        exact ⟨rfl, F.out⟩
set_option maxHeartbeats 2000000 in
theorem refWidth_ext (M : Nat → Prop) (op x val : Int) (v : Value) (w : World) (a0 : Int) (h : RdI M w v [a0]) (hop : op = 21 ∨ op = 22 ∨ op = 23) (hk : knownS op = true) (ha : ariS op = 1) (h0 : 0 ≤ a0 ∧ a0 ≤ 64) :
    Calls Tryd.prog 61 #[.int .i64 op, .int .i64 x, .int .u64 val, v] w fun e w' => e = .returned (pairV (opW op x val [a0])) ∧ Fr NoB w w' := by
  obtain ⟨p, c, rfl⟩ := h.form
  simp only [List.length_cons, List.length_nil, Nat.zero_add] at *
  obtain ⟨b, off, rfl, hb, hc⟩ := h.lit3 (by simp)
  have HC := hid hc
  have HIN : Hid (∀ y ∈ [a0], 0 ≤ y ∧ y ≤ 64) := by show ∀ y ∈ [a0], 0 ≤ y ∧ y ≤ 64; simp [h0]
  have c0 := hc 0 (by simp)
  simp only [List.getD_cons_zero, Nat.add_zero] at c0
  clear hc h
  have C0 := hid c0
  clear c0
  rw [opW_ok (a := [a0]) hk (by simpa using ha) (by simp [h0])]
  have H0 := hid h0
  have HOP := hid hop
  have hlf : leafOp op = false := by unfold leafOp; simp; omega
  have F : Hid (Fr NoB w w) := Fr.refl NoB w
  clear hop hk h0
  go_enter Tryd.func61, Tryd.ntmps61
  go_wp2_with (go_at_call 58; refine (refArity_any op _).mono ?_; rintro e w9 ⟨rfl, hf⟩; have F := hid (F.out.step hf); clear hf)
  have c0 := F.out.c hb (fun h => h) C0.out
  go_loop [23] (fun i => ∃ k : Nat, k ≤ 1 ∧ i = .int .i64 k) (fun i => 1 - (intOf i).toNat)
  case atStart => exact ⟨0, Nat.zero_le _, rfl⟩
  case round =>
    obtain ⟨k, hkn, rfl⟩ := hrel
    by_cases hlt : k < 1
    · obtain ⟨y, hy, hin⟩ := cell_in F.out hb HC.out HIN.out (k := k) (by simpa using hlt)
      go_wp2_with (go_at_call 75; refine (refWidth_any y _).mono ?_; rintro e w9 ⟨rfl, h9⟩; have h9 := h9.symm; subst h9)
      go_round
      case rel => exact ⟨k + 1, by omega, by go_num⟩
      case measure => simp [intOf]; omega
    · obtain rfl : k = 1 := by omega
      clear c0
      go_wp2_with fail
      refine (refLeafOp_any op _).mono ?_
      rintro e w9 ⟨rfl, hf⟩
      have F := hid (F.out.step hf)
      clear hf
      have c0 := F.out.c hb (fun h => h) C0.out
      rcases HOP.out with rfl | rfl | rfl <;>
      · go_wp2_with (go_at_call 77; refine (refParts_any _ x val a0 _ H0.out.2).mono ?_; rintro e w9 ⟨rfl, h9⟩; have h9 := h9.symm; subst h9)
        go_ret2
        exact ⟨rfl, F.out⟩
set_option maxHeartbeats 2000000 in
theorem refWidth_ite (M : Nat → Prop) (op x val : Int) (v : Value) (w : World) (a0 a1 a2 : Int) (h : RdI M w v [a0, a1, a2]) (hop : op = 19) (hk : knownS op = true) (ha : ariS op = 3) (h0 : 0 ≤ a0 ∧ a0 ≤ 64) (h1 : 0 ≤ a1 ∧ a1 ≤ 64) (h2 : 0 ≤ a2 ∧ a2 ≤ 64) :
    Calls Tryd.prog 61 #[.int .i64 op, .int .i64 x, .int .u64 val, v] w fun e w' => e = .returned (pairV (opW op x val [a0, a1, a2])) ∧ Fr NoB w w' := by
  obtain ⟨p, c, rfl⟩ := h.form
  simp only [List.length_cons, List.length_nil, Nat.zero_add, Nat.reduceAdd] at *
  obtain ⟨b, off, rfl, hb, hc⟩ := h.lit3 (by simp)
  have HC := hid hc
  have HIN : Hid (∀ y ∈ [a0, a1, a2], 0 ≤ y ∧ y ≤ 64) := by show ∀ y ∈ [a0, a1, a2], 0 ≤ y ∧ y ≤ 64; simp [h0, h1, h2]
  have c0 := hc 0 (by simp)
  have c1 := hc 1 (by simp)
  have c2 := hc 2 (by simp)
  simp only [List.getD_cons_zero, List.getD_cons_succ, Nat.add_zero] at c0 c1 c2
  clear hc h
  have C0 := hid c0
  have C1 := hid c1
  have C2 := hid c2
  clear c0 c1 c2
  rw [opW_ok (a := [a0, a1, a2]) hk (by simpa using ha) (by simp [h0, h1, h2])]
  have H0 := hid h0
  have H1 := hid h1
  have H2 := hid h2
  have HOP := hid hop
  have hlf : leafOp op = false := by unfold leafOp; simp; omega
  have F : Hid (Fr NoB w w) := Fr.refl NoB w
  clear hop hk h0 h1 h2
  go_enter Tryd.func61, Tryd.ntmps61
  go_wp2_with (go_at_call 58; refine (refArity_any op _).mono ?_; rintro e w9 ⟨rfl, hf⟩; have F := hid (F.out.step hf); clear hf)
  have c0 := F.out.c hb (fun h => h) C0.out
  have c1 := F.out.c hb (fun h => h) C1.out
  have c2 := F.out.c hb (fun h => h) C2.out
  go_loop [23] (fun i => ∃ k : Nat, k ≤ 3 ∧ i = .int .i64 k) (fun i => 3 - (intOf i).toNat)
  case atStart => exact ⟨0, Nat.zero_le _, rfl⟩
  case round =>
    obtain ⟨k, hkn, rfl⟩ := hrel
    by_cases hlt : k < 3
    · obtain ⟨y, hy, hin⟩ := cell_in F.out hb HC.out HIN.out (k := k) (by simpa using hlt)
      go_wp2_with (go_at_call 75; refine (refWidth_any y _).mono ?_; rintro e w9 ⟨rfl, h9⟩; have h9 := h9.symm; subst h9)
      go_round
      case rel => exact ⟨k + 1, by omega, by go_num⟩
      case measure => simp [intOf]; omega
    · obtain rfl : k = 3 := by omega
      clear c0 c1 c2
      go_wp2_with fail
      refine (refLeafOp_any op _).mono ?_
      rintro e w9 ⟨rfl, hf⟩
      have F := hid (F.out.step hf)
      clear hf
      have c0 := F.out.c hb (fun h => h) C0.out
      have c1 := F.out.c hb (fun h => h) C1.out
      have c2 := F.out.c hb (fun h => h) C2.out
      have hop := HOP.out
      subst hop
      by_cases e0 : a0 = 1
      · have q0 : (a0 != 1) = false := by simpa using e0
        have E0 := hid e0
        clear e0
        by_cases e1 : a1 = a2
        · have q1 : (a1 != a2) = false := by simpa using e1
          have E1 := hid e1
          clear e1
          go_wp2
          go_quiet (fail)
          go_wp2
          go_ret2
          refine ⟨ret_pair (by simp [opC, E0.out, E1.out]), ?_⟩
          repeat (first | exact F.out | refine Fr.drewN ?_ _)
        · have q1 : (a1 != a2) = true := by simpa using e1
          have E1 := hid e1
          clear e1
          go_wp2
          go_quiet (fail)
          go_wp2
          go_ret2
          refine ⟨ret_pair (by simp [opC, E0.out, E1.out]), ?_⟩
          repeat (first | exact F.out | refine Fr.drewN ?_ _)
      · have q0 : (a0 != 1) = true := by simpa using e0
        have E0 := hid e0
        clear e0
        go_wp2
        go_quiet (fail)
        go_wp2
        go_ret2
        refine ⟨ret_pair (by simp [opC, E0.out]), ?_⟩
        repeat (first | exact F.out | refine Fr.drewN ?_ _)
set_option maxHeartbeats 2000000 in
theorem refWidth_cat (M : Nat → Prop) (op x val : Int) (v : Value) (w : World) (a0 a1 : Int) (h : RdI M w v [a0, a1]) (hop : op = 20) (hk : knownS op = true) (ha : ariS op = 2) (h0 : 0 ≤ a0 ∧ a0 ≤ 64) (h1 : 0 ≤ a1 ∧ a1 ≤ 64) :
    Calls Tryd.prog 61 #[.int .i64 op, .int .i64 x, .int .u64 val, v] w fun e w' => e = .returned (pairV (opW op x val [a0, a1])) ∧ Fr NoB w w' := by
  obtain ⟨p, c, rfl⟩ := h.form
  simp only [List.length_cons, List.length_nil, Nat.zero_add, Nat.reduceAdd] at *
  obtain ⟨b, off, rfl, hb, hc⟩ := h.lit3 (by simp)
  have HC := hid hc
  have HIN : Hid (∀ y ∈ [a0, a1], 0 ≤ y ∧ y ≤ 64) := by show ∀ y ∈ [a0, a1], 0 ≤ y ∧ y ≤ 64; simp [h0, h1]
  have c0 := hc 0 (by simp)
  have c1 := hc 1 (by simp)
  simp only [List.getD_cons_zero, List.getD_cons_succ, Nat.add_zero] at c0 c1
  clear hc h
  have C0 := hid c0
  have C1 := hid c1
  clear c0 c1
  rw [opW_ok (a := [a0, a1]) hk (by simpa using ha) (by simp [h0, h1])]
  have H0 := hid h0
  have H1 := hid h1
  have HOP := hid hop
  have hlf : leafOp op = false := by unfold leafOp; simp; omega
  have F : Hid (Fr NoB w w) := Fr.refl NoB w
  clear hop hk h0 h1
  go_enter Tryd.func61, Tryd.ntmps61
  go_wp2_with (go_at_call 58; refine (refArity_any op _).mono ?_; rintro e w9 ⟨rfl, hf⟩; have F := hid (F.out.step hf); clear hf)
  have c0 := F.out.c hb (fun h => h) C0.out
  have c1 := F.out.c hb (fun h => h) C1.out
  go_loop [23] (fun i => ∃ k : Nat, k ≤ 2 ∧ i = .int .i64 k) (fun i => 2 - (intOf i).toNat)
  case atStart => exact ⟨0, Nat.zero_le _, rfl⟩
  case round =>
    obtain ⟨k, hkn, rfl⟩ := hrel
    by_cases hlt : k < 2
    · obtain ⟨y, hy, hin⟩ := cell_in F.out hb HC.out HIN.out (k := k) (by simpa using hlt)
      go_wp2_with (go_at_call 75; refine (refWidth_any y _).mono ?_; rintro e w9 ⟨rfl, h9⟩; have h9 := h9.symm; subst h9)
      go_round
      case rel => exact ⟨k + 1, by omega, by go_num⟩
      case measure => simp [intOf]; omega
    · obtain rfl : k = 2 := by omega
      clear c0 c1
      go_wp2_with fail
      refine (refLeafOp_any op _).mono ?_
      rintro e w9 ⟨rfl, hf⟩
      have F := hid (F.out.step hf)
      clear hf
      have c0 := F.out.c hb (fun h => h) C0.out
      have c1 := F.out.c hb (fun h => h) C1.out
      have hop := HOP.out
      subst hop
      have b0 := H0.out
      have b1 := H1.out
      have w0 : IntKind.i64.wrap (a0 + a1) = a0 + a1 := by rw [IntKind.wrap_i64]; omega
      have w1 : wrap64 (a0 + a1) = a0 + a1 := by unfold wrap64; omega
      clear b0 b1
      by_cases e0 : 1 ≤ a0
      · have q0 : decide (a0 < 1) = false := by simpa using e0
        have E0 := hid e0
        clear e0
        by_cases e1 : 1 ≤ a1
        · have q1 : decide (a1 < 1) = false := by simpa using e1
          have E1 := hid e1
          clear e1
          by_cases e2 : a0 + a1 ≤ 64
          · have q2 : decide (64 < a0 + a1) = false := by simpa using e2
            have E2 := hid e2
            clear e2
            go_wp2
            go_quiet (fail)
            go_wp2
            go_quiet (fail)
            go_wp2
            go_ret2
            refine ⟨ret_pair (by have f0 := E0.out; have f1 := E1.out; have f2 := E2.out; unfold opC; rw [if_neg (by omega), if_neg (by omega), if_neg (by omega), if_neg (by omega), if_pos rfl]; simp only [List.getD_cons_zero, List.getD_cons_succ]; split <;> first | rfl | (exfalso; omega)), ?_⟩
            repeat (first | exact F.out | refine Fr.drewN ?_ _)
          · have q2 : 64 < a0 + a1 := by omega
            have E2 := hid e2
            clear e2
            go_wp2
            go_quiet (fail)
            go_wp2
            go_ret2
            refine ⟨ret_pair (by have f0 := E0.out; have f1 := E1.out; have f2 := E2.out; unfold opC; rw [if_neg (by omega), if_neg (by omega), if_neg (by omega), if_neg (by omega), if_pos rfl]; simp only [List.getD_cons_zero, List.getD_cons_succ]; split <;> first | rfl | (exfalso; omega)), ?_⟩
            repeat (first | exact F.out | refine Fr.drewN ?_ _)
        · have q1 : a1 < 1 := by omega
          have E1 := hid e1
          clear e1
          go_wp2
          go_quiet (fail)
          go_wp2
          go_ret2
          refine ⟨ret_pair (by have f0 := E0.out; have f1 := E1.out; unfold opC; rw [if_neg (by omega), if_neg (by omega), if_neg (by omega), if_neg (by omega), if_pos rfl]; simp only [List.getD_cons_zero, List.getD_cons_succ]; split <;> first | rfl | (exfalso; omega)), ?_⟩
          repeat (first | exact F.out | refine Fr.drewN ?_ _)
      · have q0 : a0 < 1 := by omega
        have E0 := hid e0
        clear e0
        go_wp2
        go_quiet (fail)
        go_wp2
        go_ret2
        refine ⟨ret_pair (by have f0 := E0.out; unfold opC; rw [if_neg (by omega), if_neg (by omega), if_neg (by omega), if_neg (by omega), if_pos rfl]; simp only [List.getD_cons_zero, List.getD_cons_succ]; split <;> first | rfl | (exfalso; omega)), ?_⟩
        repeat (first | exact F.out | refine Fr.drewN ?_ _)
set_option maxHeartbeats 2000000 in
theorem refWidth_cmp (M : Nat → Prop) (op x val : Int) (v : Value) (w : World) (a0 a1 : Int) (h : RdI M w v [a0, a1]) (hop : op = 16 ∨ op = 17 ∨ op = 18) (hk : knownS op = true) (ha : ariS op = 2) (h0 : 0 ≤ a0 ∧ a0 ≤ 64) (h1 : 0 ≤ a1 ∧ a1 ≤ 64) :
    Calls Tryd.prog 61 #[.int .i64 op, .int .i64 x, .int .u64 val, v] w fun e w' => e = .returned (pairV (opW op x val [a0, a1])) ∧ Fr NoB w w' := by
  obtain ⟨p, c, rfl⟩ := h.form
  simp only [List.length_cons, List.length_nil, Nat.zero_add, Nat.reduceAdd] at *
  obtain ⟨b, off, rfl, hb, hc⟩ := h.lit3 (by simp)
  have HC := hid hc
  have HIN : Hid (∀ y ∈ [a0, a1], 0 ≤ y ∧ y ≤ 64) := by show ∀ y ∈ [a0, a1], 0 ≤ y ∧ y ≤ 64; simp [h0, h1]
  have c0 := hc 0 (by simp)
  have c1 := hc 1 (by simp)
  simp only [List.getD_cons_zero, List.getD_cons_succ, Nat.add_zero] at c0 c1
  clear hc h
  have C0 := hid c0
  have C1 := hid c1
  clear c0 c1
  rw [opW_ok (a := [a0, a1]) hk (by simpa using ha) (by simp [h0, h1])]
  have H0 := hid h0
  have H1 := hid h1
  have HOP := hid hop
  have hlf : leafOp op = false := by unfold leafOp; simp; omega
  have F : Hid (Fr NoB w w) := Fr.refl NoB w
  clear hop hk h0 h1
  go_enter Tryd.func61, Tryd.ntmps61
  go_wp2_with (go_at_call 58; refine (refArity_any op _).mono ?_; rintro e w9 ⟨rfl, hf⟩; have F := hid (F.out.step hf); clear hf)
  have c0 := F.out.c hb (fun h => h) C0.out
  have c1 := F.out.c hb (fun h => h) C1.out
  go_loop [23] (fun i => ∃ k : Nat, k ≤ 2 ∧ i = .int .i64 k) (fun i => 2 - (intOf i).toNat)
  case atStart => exact ⟨0, Nat.zero_le _, rfl⟩
  case round =>
    obtain ⟨k, hkn, rfl⟩ := hrel
    by_cases hlt : k < 2
    · obtain ⟨y, hy, hin⟩ := cell_in F.out hb HC.out HIN.out (k := k) (by simpa using hlt)
      go_wp2_with (go_at_call 75; refine (refWidth_any y _).mono ?_; rintro e w9 ⟨rfl, h9⟩; have h9 := h9.symm; subst h9)
      go_round
      case rel => exact ⟨k + 1, by omega, by go_num⟩
      case measure => simp [intOf]; omega
    · obtain rfl : k = 2 := by omega
      clear c0 c1
      go_wp2_with fail
      refine (refLeafOp_any op _).mono ?_
      rintro e w9 ⟨rfl, hf⟩
      have F := hid (F.out.step hf)
      clear hf
      have c0 := F.out.c hb (fun h => h) C0.out
      have c1 := F.out.c hb (fun h => h) C1.out
      rcases HOP.out with rfl | rfl | rfl <;>
      · by_cases e0 : a0 = a1
        · have q0 : (a0 != a1) = false := by simpa using e0
          have E0 := hid e0
          clear e0
          go_wp2
          go_quiet (fail)
          go_wp2
          go_ret2
          refine ⟨ret_pair (by simp [opC, E0.out]), ?_⟩
          repeat (first | exact F.out | refine Fr.drewN ?_ _)
        · have q0 : (a0 != a1) = true := by simpa using e0
          have E0 := hid e0
          clear e0
          go_wp2
          go_quiet (fail)
          go_wp2
          go_ret2
          refine ⟨ret_pair (by simp [opC, E0.out]), ?_⟩
          repeat (first | exact F.out | refine Fr.drewN ?_ _)
set_option maxHeartbeats 2000000 in
theorem refWidth_bin (M : Nat → Prop) (op x val : Int) (v : Value) (w : World) (a0 a1 : Int) (h : RdI M w v [a0, a1]) (hop : 5 ≤ op ∧ op ≤ 15) (hk : knownS op = true) (ha : ariS op = 2) (h0 : 0 ≤ a0 ∧ a0 ≤ 64) (h1 : 0 ≤ a1 ∧ a1 ≤ 64) :
    Calls Tryd.prog 61 #[.int .i64 op, .int .i64 x, .int .u64 val, v] w fun e w' => e = .returned (pairV (opW op x val [a0, a1])) ∧ Fr NoB w w' := by
  obtain ⟨p, c, rfl⟩ := h.form
  simp only [List.length_cons, List.length_nil, Nat.zero_add, Nat.reduceAdd] at *
  obtain ⟨b, off, rfl, hb, hc⟩ := h.lit3 (by simp)
  have HC := hid hc
  have HIN : Hid (∀ y ∈ [a0, a1], 0 ≤ y ∧ y ≤ 64) := by show ∀ y ∈ [a0, a1], 0 ≤ y ∧ y ≤ 64; simp [h0, h1]
  have c0 := hc 0 (by simp)
  have c1 := hc 1 (by simp)
  simp only [List.getD_cons_zero, List.getD_cons_succ, Nat.add_zero] at c0 c1
  clear hc h
  have C0 := hid c0
  have C1 := hid c1
  clear c0 c1
  rw [opW_ok (a := [a0, a1]) hk (by simpa using ha) (by simp [h0, h1])]
  have H0 := hid h0
  have H1 := hid h1
  have HOP := hid hop
  have hlf : leafOp op = false := by unfold leafOp; simp; omega
  have F : Hid (Fr NoB w w) := Fr.refl NoB w
  clear hop hk h0 h1
  go_enter Tryd.func61, Tryd.ntmps61
  go_wp2_with (go_at_call 58; refine (refArity_any op _).mono ?_; rintro e w9 ⟨rfl, hf⟩; have F := hid (F.out.step hf); clear hf)
  have c0 := F.out.c hb (fun h => h) C0.out
  have c1 := F.out.c hb (fun h => h) C1.out
  go_loop [23] (fun i => ∃ k : Nat, k ≤ 2 ∧ i = .int .i64 k) (fun i => 2 - (intOf i).toNat)
  case atStart => exact ⟨0, Nat.zero_le _, rfl⟩
  case round =>
    obtain ⟨k, hkn, rfl⟩ := hrel
    by_cases hlt : k < 2
    · obtain ⟨y, hy, hin⟩ := cell_in F.out hb HC.out HIN.out (k := k) (by simpa using hlt)
      go_wp2_with (go_at_call 75; refine (refWidth_any y _).mono ?_; rintro e w9 ⟨rfl, h9⟩; have h9 := h9.symm; subst h9)
      go_round
      case rel => exact ⟨k + 1, by omega, by go_num⟩
      case measure => simp [intOf]; omega
    · obtain rfl : k = 2 := by omega
      clear c0 c1
      go_wp2_with fail
      refine (refLeafOp_any op _).mono ?_
      rintro e w9 ⟨rfl, hf⟩
      have F := hid (F.out.step hf)
      clear hf
      have c0 := F.out.c hb (fun h => h) C0.out
      have c1 := F.out.c hb (fun h => h) C1.out
      obtain ⟨o1, o2⟩ := HOP.out
      have t16 : (op == 16) = false := by simp; omega
      have t17 : (op == 17) = false := by simp; omega
      have t18 : (op == 18) = false := by simp; omega
      have t19 : (op == 19) = false := by simp; omega
      have t20 : (op == 20) = false := by simp; omega
      have t21 : (op == 21) = false := by simp; omega
      have t22 : (op == 22) = false := by simp; omega
      have t23 : (op == 23) = false := by simp; omega
      by_cases e0 : a0 = a1
      · have q0 : (a0 != a1) = false := by simpa using e0
        have E0 := hid e0
        clear e0
        go_wp2
        go_quiet (fail)
        go_wp2
        go_ret2
        refine ⟨ret_pair (by unfold opC; rw [if_neg (by omega), if_neg (by omega), if_neg (by omega), if_neg (by omega), if_neg (by omega), if_neg (by omega)]; simp [E0.out]), ?_⟩
        repeat (first | exact F.out | refine Fr.drewN ?_ _)
      · have q0 : (a0 != a1) = true := by simpa using e0
        have E0 := hid e0
        clear e0
        go_wp2
        go_quiet (fail)
        go_wp2
        go_ret2
        refine ⟨ret_pair (by unfold opC; rw [if_neg (by omega), if_neg (by omega), if_neg (by omega), if_neg (by omega), if_neg (by omega), if_neg (by omega)]; simp [E0.out]), ?_⟩
        repeat (first | exact F.out | refine Fr.drewN ?_ _)

end Go.Proofs.YtgpliiepoimcbaaDoor
end
section
/- The walk of the reference's Width, whole. -/
namespace Go.Proofs.YtgpliiepoimcbaaDoor
open Go.RowKit
set_option maxRecDepth 100000

theorem ari_unknown {op : Int} (h : knownS op = false) : ariS op = -1 := by
  simp only [knownS, decide_eq_false_iff_not] at h
  unfold ariS
  rw [if_pos (by omega)]
theorem ari_nonneg {op : Int} (h : knownS op = true) : 0 ≤ ariS op := by
  rcases ari_cases op h with ⟨e, _⟩ | ⟨e, _⟩ | ⟨e, _⟩ | ⟨e, _⟩ | ⟨e, _⟩ | ⟨e, _⟩ | ⟨e, _⟩ <;> omega

set_option maxHeartbeats 2000000 in
theorem refWidthAll_any (M : Nat → Prop) (op x val : Int) (hv : 0 ≤ val ∧ val < 18446744073709551616) (v : Value) (w : World) (a : List Int) (h : RdI M w v a) (hl : a.length ≤ 1000000) :
    Calls Tryd.prog 61 #[.int .i64 op, .int .i64 x, .int .u64 val, v] w fun e w' => e = .returned (pairV (opW op x val a)) ∧ Fr NoB w w' := by
  by_cases hk : knownS op = true
  rotate_left
  · have hk : knownS op = false := by simpa using hk
    obtain ⟨p, c, rfl⟩ := h.form
    rw [opW_un (.inl hk)]
    have ha := ari_unknown hk
    clear h hv hk
    go_enter Tryd.func61, Tryd.ntmps61
    go_wp2_with fail
    refine (refArity_any op _).mono ?_
    rintro e w1 ⟨rfl, hf⟩
    rw [ha]
    clear ha
    go_wp2
    go_ret2
    exact ⟨rfl, hf⟩
  have hn := ari_nonneg hk
  by_cases ha : (a.length : Int) = ariS op
  rotate_left
  · obtain ⟨p, c, rfl⟩ := h.form
    rw [opW_un (.inr ha)]
    have F : Hid (Fr NoB w w) := Fr.refl NoB w
    have hq : ((a.length : Int) != ariS op) = true := by simpa using ha
    have hd : decide (ariS op < 0) = false := by simp; omega
    clear h hv hk ha hn
    go_enter Tryd.func61, Tryd.ntmps61
    go_wp2_with (go_at_call 58; refine (refArity_any op _).mono ?_; rintro e w9 ⟨rfl, hf⟩; have F := hid (F.out.step hf); clear hf)
    go_ret2
    exact ⟨rfl, F.out⟩
  by_cases hin : ∀ k, k < a.length → insideS (a.getD k 0) = true
  · have hb := all_of hin
    clear hin
    rcases ari_cases op hk with ⟨e, hop⟩ | ⟨e, hop⟩ | ⟨e, hop⟩ | ⟨e, hop⟩ | ⟨e, hop⟩ | ⟨e, hop⟩ | ⟨e, hop⟩
    · obtain rfl := len0 (a := a) (by omega)
      exact refWidth_leaf M op x val hv v w h hop hk e
    · obtain ⟨y, rfl⟩ := len1 (a := a) (by omega)
      exact refWidth_un M op x val v w y h hop hk e (hb y (by simp))
    · obtain ⟨y, rfl⟩ := len1 (a := a) (by omega)
      exact refWidth_ext M op x val v w y h hop hk e (hb y (by simp))
    · obtain ⟨y, z, u, rfl⟩ := len3 (a := a) (by omega)
      exact refWidth_ite M op x val v w y z u h hop hk e (hb y (by simp)) (hb z (by simp)) (hb u (by simp))
    · obtain ⟨y, z, rfl⟩ := len2 (a := a) (by omega)
      exact refWidth_cat M op x val v w y z h hop hk e (hb y (by simp)) (hb z (by simp))
    · obtain ⟨y, z, rfl⟩ := len2 (a := a) (by omega)
      exact refWidth_cmp M op x val v w y z h hop hk e (hb y (by simp)) (hb z (by simp))
    · obtain ⟨y, z, rfl⟩ := len2 (a := a) (by omega)
      exact refWidth_bin M op x val v w y z h hop hk e (hb y (by simp)) (hb z (by simp))
  · have HIN := hid hin
    have HA := hid ha
    have HH := hid h
    have hq : ((a.length : Int) != ariS op) = false := by simpa using ha
    have hd : decide (ariS op < 0) = false := by simp; omega
    have F : Hid (Fr NoB w w) := Fr.refl NoB w
    obtain ⟨p, c, rfl⟩ := h.form
    clear h hin ha hv hn
    go_enter Tryd.func61, Tryd.ntmps61
    go_wp2_with (go_at_call 58; refine (refArity_any op _).mono ?_; rintro e w9 ⟨rfl, hf⟩; have F := hid (F.out.step hf); clear hf)
    go_loop [23] (fun i => ∃ k : Nat, k ≤ a.length ∧ i = .int .i64 k ∧ ∀ j, j < k → insideS (a.getD j 0) = true) (fun i => a.length - (intOf i).toNat)
    case atStart => exact ⟨0, Nat.zero_le _, rfl, fun j h => by omega⟩
    case round =>
      obtain ⟨k, hkn, rfl, hall⟩ := hrel
      have HALL := hid hall
      clear hall
      by_cases hlt : k < a.length
      · obtain ⟨b, off, rfl, hb, hc⟩ := HH.out.lit3 (by omega)
        have hck := F.out.c hb (fun h => h) (hc k hlt)
        clear hc
        obtain ⟨y, hy⟩ : ∃ y, a.getD k 0 = y := ⟨_, rfl⟩
        rw [hy] at hck
        have HY := hid hy
        clear hy
        cases hyi : insideS y with
        | true =>
          go_wp2_with (go_at_call 75; refine (refWidth_any y _).mono ?_; rintro e w9 ⟨rfl, h9⟩; have h9 := h9.symm; subst h9)
          go_round
          case rel => exact ⟨k + 1, by omega, by go_num, fun j hj => by
            by_cases e : j = k
            · subst e; rw [HY.out]; exact hyi
            · exact HALL.out j (by omega)⟩
          case measure => simp [intOf]; omega
        | false =>
          have HFF := hid hyi
          go_wp2_with (go_at_call 75; refine (refWidth_any y _).mono ?_; rintro e w9 ⟨rfl, h9⟩; have h9 := h9.symm; subst h9)
          go_ret2
          exact ⟨ret_pair (opW_out hk HA.out hlt (by rw [HY.out]; exact HFF.out)), F.out⟩
      · exact absurd (fun j hj => HALL.out j (by omega)) HIN.out

end Go.Proofs.YtgpliiepoimcbaaDoor
end
section
/- Comparing integers, byte strings, lists and nodes: plain functions, no program in sight. -/
namespace Go.Proofs.YtgpliiepoimcbaaDoor
open Go.RowKit

def cmpI (a b : Int) : Int := if a < b then -1 else if b < a then 1 else 0
def cmpB (a b : ByteArray) : Int := if Op.bytesLess a.toList b.toList then -1 else if Op.bytesLess a.toList b.toList || a.toList == b.toList then 0 else 1
def cmpL : List Int → List Int → Int
  | [], [] => 0
  | [], _ :: _ => -1
  | _ :: _, [] => 1
  | a :: x, b :: y => if cmpI a b = 0 then cmpL x y else cmpI a b

/-- The first number that is not 0, or 0. -/
def orI : List Int → Int
  | [] => 0
  | a :: l => if a = 0 then orI l else a

def nodeCmp (a b : Node) : Int :=
  orI [cmpI a.op b.op, cmpI a.width b.width, cmpI a.val b.val, cmpB a.name b.name, cmpI a.args.length b.args.length, cmpL a.args b.args]

theorem cmpI_zero {a b : Int} : cmpI a b = 0 ↔ a = b := by unfold cmpI; split <;> (try split) <;> omega
theorem cmpI_self (a : Int) : cmpI a a = 0 := by simp [cmpI]
theorem cmpI_cases (a b : Int) : cmpI a b = -1 ∨ cmpI a b = 0 ∨ cmpI a b = 1 := by unfold cmpI; split <;> (try split) <;> simp
theorem cmpI_neg (a b : Int) : cmpI b a = - cmpI a b := by unfold cmpI; split <;> split <;> (try split) <;> omega

theorem bytesLess_irrefl : ∀ l : List UInt8, Op.bytesLess l l = false
  | [] => rfl
  | a :: l => by simp [Op.bytesLess, bytesLess_irrefl l]
theorem bytesLess_asymm : ∀ a b : List UInt8, Op.bytesLess a b = true → Op.bytesLess b a = false
  | [], [] => by simp [Op.bytesLess]
  | [], _ :: _ => by simp [Op.bytesLess]
  | _ :: _, [] => by simp [Op.bytesLess]
  | a :: x, b :: y => by
    have ih := bytesLess_asymm x y
    simp only [Op.bytesLess, Bool.or_eq_true, Bool.and_eq_true, decide_eq_true_eq, beq_iff_eq, Bool.or_eq_false_iff, Bool.and_eq_false_iff, decide_eq_false_iff_not, UInt8.lt_iff_toNat_lt]
    rintro (h | ⟨h, h2⟩)
    · exact ⟨by omega, .inl (by simp only [beq_eq_false_iff_ne, ne_eq]; rintro rfl; omega)⟩
    · subst h; exact ⟨by omega, .inr (ih h2)⟩
theorem bytesLess_total : ∀ a b : List UInt8, Op.bytesLess a b = false → Op.bytesLess b a = false → a = b
  | [], [] => by simp
  | [], _ :: _ => by simp [Op.bytesLess]
  | _ :: _, [] => by simp [Op.bytesLess]
  | a :: x, b :: y => by
    have ih := bytesLess_total x y
    simp only [Op.bytesLess, Bool.or_eq_false_iff, Bool.and_eq_false_iff, decide_eq_false_iff_not, UInt8.lt_iff_toNat_lt, beq_eq_false_iff_ne, ne_eq]
    rintro ⟨h1, h2⟩ ⟨h3, h4⟩
    have e : a = b := UInt8.toNat_inj.1 (by omega)
    subst e
    simp only [not_true, false_or] at h2 h4
    rw [ih h2 h4]
theorem bytesLess_trans : ∀ a b c : List UInt8, Op.bytesLess a b = true → Op.bytesLess b c = true → Op.bytesLess a c = true
  | [], [], _ => by simp [Op.bytesLess]
  | _ :: _, [], _ => by simp [Op.bytesLess]
  | _, _ :: _, [] => by simp [Op.bytesLess]
  | [], _ :: _, _ :: _ => by simp [Op.bytesLess]
  | a :: x, b :: y, c :: z => by
    have ih := bytesLess_trans x y z
    simp only [Op.bytesLess, Bool.or_eq_true, Bool.and_eq_true, decide_eq_true_eq, beq_iff_eq, UInt8.lt_iff_toNat_lt]
    rintro (h | ⟨h, h2⟩) (k | ⟨k, k2⟩)
    · exact .inl (by omega)
    · subst k; exact .inl h
    · subst h; exact .inl k
    · subst h; subst k; exact .inr ⟨rfl, ih h2 k2⟩

theorem toList_data (s : ByteArray) : s.toList = s.data.toList := ByteArray.toList_eq s

theorem toList_inj {a b : ByteArray} (h : a.toList = b.toList) : a = b := by
  rw [toList_data, toList_data] at h
  cases a; cases b; simp_all [Array.toList_inj]

theorem cmpB_zero {a b : ByteArray} : cmpB a b = 0 ↔ a = b := by
  unfold cmpB
  constructor
  · intro h
    by_cases h1 : Op.bytesLess a.toList b.toList = true
    · simp [h1] at h
    · by_cases h2 : (a.toList == b.toList) = true
      · exact toList_inj (by simpa using h2)
      · simp [h1, h2] at h
  · rintro rfl
    simp [bytesLess_irrefl]
theorem cmpB_cases (a b : ByteArray) : cmpB a b = -1 ∨ cmpB a b = 0 ∨ cmpB a b = 1 := by unfold cmpB; split <;> (try split) <;> simp
theorem cmpB_neg (a b : ByteArray) : cmpB b a = - cmpB a b := by
  by_cases h : a = b
  · subst h; rw [cmpB_zero.2 rfl]; rfl
  · have hn : ¬ a.toList = b.toList := fun e => h (toList_inj e)
    have hn' : ¬ b.toList = a.toList := fun e => hn e.symm
    unfold cmpB
    by_cases h1 : Op.bytesLess a.toList b.toList = true
    · simp [h1, bytesLess_asymm _ _ h1, hn']
    · have h2 : Op.bytesLess b.toList a.toList = true := by
        rcases hb : Op.bytesLess b.toList a.toList with _ | _
        · exact absurd (bytesLess_total _ _ (by simpa using h1) hb) hn
        · rfl
      simp [h1, h2, hn]

theorem cmpL_zero : ∀ {a b : List Int}, cmpL a b = 0 ↔ a = b
  | [], [] => by simp [cmpL]
  | [], _ :: _ => by simp [cmpL]
  | _ :: _, [] => by simp [cmpL]
  | a :: x, b :: y => by
    unfold cmpL
    by_cases h : cmpI a b = 0
    · rw [if_pos h, cmpL_zero, cmpI_zero.1 h]; simp
    · rw [if_neg h]; simp only [List.cons.injEq]; exact ⟨fun e => absurd e h, fun e => absurd (cmpI_zero.2 e.1) h⟩
theorem cmpL_cases : ∀ (a b : List Int), cmpL a b = -1 ∨ cmpL a b = 0 ∨ cmpL a b = 1
  | [], [] => by simp [cmpL]
  | [], _ :: _ => by simp [cmpL]
  | _ :: _, [] => by simp [cmpL]
  | a :: x, b :: y => by unfold cmpL; split; exact cmpL_cases x y; exact cmpI_cases a b
theorem cmpL_neg : ∀ (a b : List Int), cmpL b a = - cmpL a b
  | [], [] => by simp [cmpL]
  | [], _ :: _ => by simp [cmpL]
  | _ :: _, [] => by simp [cmpL]
  | a :: x, b :: y => by
    unfold cmpL
    rw [cmpI_neg a b, cmpL_neg x y]
    by_cases h : cmpI a b = 0 <;> simp [h]

theorem orI_nil : orI [] = 0 := rfl

/-- What a comparison by parts needs of each part: three answers, and the signs turn with the sides. -/
theorem orI_neg : ∀ (l m : List Int), l.length = m.length → (∀ i, m.getD i 0 = - l.getD i 0) → orI m = - orI l
  | [], [], _, _ => rfl
  | a :: l, b :: m, hl, h => by
    have h0 : b = -a := by simpa using h 0
    unfold orI
    rw [orI_neg l m (by simpa using hl) (fun i => by simpa using h (i + 1)), h0]
    by_cases h0 : a = 0 <;> simp [h0]

theorem nodeCmp_neg (a b : Node) : nodeCmp b a = - nodeCmp a b := by
  unfold nodeCmp
  refine orI_neg _ _ rfl (fun i => ?_)
  match i with
  | 0 => exact cmpI_neg _ _
  | 1 => exact cmpI_neg _ _
  | 2 => exact cmpI_neg _ _
  | 3 => exact cmpB_neg _ _
  | 4 => exact cmpI_neg _ _
  | 5 => exact cmpL_neg _ _
  | _ + 6 => simp

theorem orI_zero : ∀ (l : List Int), orI l = 0 ↔ ∀ x ∈ l, x = 0
  | [] => by simp [orI]
  | a :: l => by
    unfold orI
    by_cases h : a = 0
    · simp [h, orI_zero l]
    · simp [h]
theorem orI_cases : ∀ (l : List Int), (∀ x ∈ l, x = -1 ∨ x = 0 ∨ x = 1) → orI l = -1 ∨ orI l = 0 ∨ orI l = 1
  | [], _ => by simp [orI]
  | a :: l, h => by
    unfold orI
    split
    · exact orI_cases l (fun x hx => h x (by simp [hx]))
    · exact h a (by simp)

theorem node_ext {a b : Node} (h1 : a.op = b.op) (h2 : a.width = b.width) (h3 : a.val = b.val) (h4 : a.name = b.name) (h5 : a.args = b.args) : a = b := by
  cases a; cases b; simp_all

theorem nodeCmp_zero {a b : Node} : nodeCmp a b = 0 ↔ a = b := by
  unfold nodeCmp
  rw [orI_zero]
  simp only [List.mem_cons, List.not_mem_nil, or_false, forall_eq_or_imp, forall_eq, cmpI_zero, cmpB_zero, cmpL_zero]
  exact ⟨fun ⟨h1, h2, h3, h4, _, h5⟩ => node_ext h1 h2 h3 h4 h5, by rintro rfl; simp⟩
theorem nodeCmp_cases (a b : Node) : nodeCmp a b = -1 ∨ nodeCmp a b = 0 ∨ nodeCmp a b = 1 := by
  refine orI_cases _ fun x hx => ?_
  simp only [List.mem_cons, List.not_mem_nil, or_false] at hx
  rcases hx with rfl | rfl | rfl | rfl | rfl | rfl
  · exact cmpI_cases _ _
  · exact cmpI_cases _ _
  · exact cmpI_cases _ _
  · exact cmpB_cases _ _
  · exact cmpI_cases _ _
  · exact cmpL_cases _ _

/-- less or equal, by parts, is transitive: a strict step anywhere stays strict. -/
def LeT (x y z : Int) : Prop := x ≤ 0 → y ≤ 0 → z ≤ 0 ∧ (x < 0 ∨ y < 0 → z < 0)

theorem tr_core {p q r p' q' r' : Int} (h : LeT p q r) (hz : p = 0 → q = 0 → r = 0) (ih : LeT p' q' r') : LeT (if p = 0 then p' else p) (if q = 0 then q' else q) (if r = 0 then r' else r) := by
  intro h1 h2
  by_cases hp : p = 0 <;> by_cases hq : q = 0
  · rw [if_pos hp] at h1 ⊢; rw [if_pos hq] at h2 ⊢; rw [if_pos (hz hp hq)]; exact ih h1 h2
  all_goals
    simp only [hp, hq, if_true, if_false] at h1 h2 ⊢
    obtain ⟨h3, h4⟩ := h (by omega) (by omega)
    have h5 := h4 (by omega)
    rw [if_neg (by omega)]
    exact ⟨by omega, fun _ => h5⟩
theorem cmpI_tr (a b c : Int) : LeT (cmpI a b) (cmpI b c) (cmpI a c) := by
  unfold LeT cmpI; split <;> (try split) <;> split <;> (try split) <;> (try split) <;> (try split) <;> omega
theorem cmpB_lt {a b : ByteArray} : cmpB a b < 0 ↔ Op.bytesLess a.toList b.toList = true := by
  unfold cmpB; split <;> (try split) <;> simp_all
theorem cmpB_le {a b : ByteArray} : cmpB a b ≤ 0 ↔ (Op.bytesLess a.toList b.toList = true ∨ a = b) := by
  constructor
  · intro h
    rcases cmpB_cases a b with e | e | e
    · exact .inl (cmpB_lt.1 (by omega))
    · exact .inr (cmpB_zero.1 e)
    · omega
  · rintro (h | rfl)
    · have := cmpB_lt.2 h; omega
    · rw [cmpB_zero.2 rfl]; omega
theorem cmpB_tr (a b c : ByteArray) : LeT (cmpB a b) (cmpB b c) (cmpB a c) := by
  intro h1 h2
  rcases cmpB_le.1 h1 with h1' | rfl
  · rcases cmpB_le.1 h2 with h2' | rfl
    · have := cmpB_lt.2 (bytesLess_trans _ _ _ h1' h2'); exact ⟨by omega, fun _ => this⟩
    · have := cmpB_lt.2 h1'; exact ⟨by omega, fun _ => this⟩
  · refine ⟨h2, fun h => ?_⟩
    rw [cmpB_zero.2 rfl] at h; omega
theorem cmpL_tr : ∀ (a b c : List Int), LeT (cmpL a b) (cmpL b c) (cmpL a c)
  | [], [], [] => by simp [LeT, cmpL]
  | [], [], _ :: _ => by simp [LeT, cmpL]
  | [], _ :: _, [] => by simp [LeT, cmpL]
  | [], _ :: _, _ :: _ => by simp [LeT, cmpL]
  | _ :: _, [], _ => by simp [LeT, cmpL]
  | _ :: _, _ :: _, [] => by simp [LeT, cmpL]
  | a :: x, b :: y, c :: z => by
    have ih := cmpL_tr x y z
    have h := cmpI_tr a b c
    have hz : cmpI a b = 0 → cmpI b c = 0 → cmpI a c = 0 := fun e1 e2 => cmpI_zero.2 ((cmpI_zero.1 e1).trans (cmpI_zero.1 e2))
    unfold cmpL
    exact tr_core h hz ih

theorem orI_tr : ∀ (l m n : List Int), l.length = m.length → m.length = n.length → (∀ i, LeT (l.getD i 0) (m.getD i 0) (n.getD i 0)) → (∀ i, l.getD i 0 = 0 → m.getD i 0 = 0 → n.getD i 0 = 0) → LeT (orI l) (orI m) (orI n)
  | [], [], [], _, _, _, _ => by simp [LeT, orI]
  | a :: l, b :: m, c :: n, h1, h2, h, hz => by
    have ih := orI_tr l m n (by simpa using h1) (by simpa using h2) (fun i => by simpa using h (i + 1)) (fun i => by simpa using hz (i + 1))
    have h0 : LeT a b c := by simpa using h 0
    have z0 : a = 0 → b = 0 → c = 0 := by simpa using hz 0
    unfold orI
    exact tr_core h0 z0 ih

theorem nodeCmp_tr (a b c : Node) : LeT (nodeCmp a b) (nodeCmp b c) (nodeCmp a c) := by
  unfold nodeCmp
  refine orI_tr _ _ _ rfl rfl (fun i => ?_) (fun i => ?_)
  · match i with
    | 0 => exact cmpI_tr _ _ _
    | 1 => exact cmpI_tr _ _ _
    | 2 => exact cmpI_tr _ _ _
    | 3 => exact cmpB_tr _ _ _
    | 4 => exact cmpI_tr _ _ _
    | 5 => exact cmpL_tr _ _ _
    | _ + 6 => simp [LeT]
  · match i with
    | 0 => simp only [List.getD_cons_zero, cmpI_zero]; exact fun h k => h.trans k
    | 1 => simp only [List.getD_cons_zero, List.getD_cons_succ, cmpI_zero]; exact fun h k => h.trans k
    | 2 => simp only [List.getD_cons_zero, List.getD_cons_succ, cmpI_zero]; exact fun h k => h.trans k
    | 3 => simp only [List.getD_cons_zero, List.getD_cons_succ, cmpB_zero]; exact fun h k => h.trans k
    | 4 => simp only [List.getD_cons_zero, List.getD_cons_succ, cmpI_zero]; exact fun h k => h.trans k
    | 5 => simp only [List.getD_cons_zero, List.getD_cons_succ, cmpL_zero]; exact fun h k => h.trans k
    | _ + 6 => simp

end Go.Proofs.YtgpliiepoimcbaaDoor
end
section
/- The walks of the comparing functions: cmp.Compare, cmp.Or, slices.Compare, hashcons.Compare, hashcons.Same, and of the reference. -/
namespace Go.Proofs.YtgpliiepoimcbaaDoor
open Go.RowKit

theorem orI_take (l : List Int) : ∀ k, k ≤ l.length → (∀ i, i < k → l.getD i 0 = 0) → orI l = orI (l.drop k) := by
  intro k
  induction k with
  | zero => intro _ _; rfl
  | succ k ih =>
    intro hk h
    rw [ih (by omega) (fun i hi => h i (by omega))]
    have hd : l.drop k = l[k] :: l.drop (k + 1) := List.drop_eq_getElem_cons (by omega)
    have h0 := h k (by omega)
    rw [List.getD_eq_getElem?_getD, List.getElem?_eq_getElem (by omega)] at h0
    rw [hd, orI, if_pos (by simpa using h0)]

theorem getD_eq {l : List Int} {k : Nat} (h : k < l.length) : l.getD k 0 = l[k] := by
  rw [List.getD_eq_getElem?_getD, List.getElem?_eq_getElem h]; rfl

theorem cmpL_take : ∀ (l m : List Int) (k : Nat), k ≤ l.length → k ≤ m.length → (∀ i, i < k → cmpI (l.getD i 0) (m.getD i 0) = 0) → cmpL l m = cmpL (l.drop k) (m.drop k)
  | l, m, 0, _, _, _ => rfl
  | a :: l, b :: m, k + 1, hl, hm, h => by
    have h0 : cmpI a b = 0 := by simpa using h 0 (by omega)
    rw [cmpL, if_pos h0, List.drop_succ_cons, List.drop_succ_cons]
    exact cmpL_take l m k (by simpa using hl) (by simpa using hm) (fun i hi => by simpa using h (i + 1) (by omega))

end Go.Proofs.YtgpliiepoimcbaaDoor
end
section
/- The walks of hashcons.Compare and Same, and of the reference's Compare and Same. -/
namespace Go.Proofs.YtgpliiepoimcbaaDoor
open Go.RowKit

theorem region_tail {P : Program} {id : Nat} {Q : Exit → Act → World → Prop} {a : Act} {w : World} {l : List Oper} (n : Nat) (hm : P.follows .mixedOrders = true) (hB : Region.lexTailB .any l.toArray n = true)
    (h : wpStill P l.toArray w.drew (fun a' => wpList P l.toArray Q (l.drop n) a' w.drew) (l.take n) a) : (Code.region id l.toArray true).wp P Q a w := wp_region_still_tail n hm hB h

theorem region_still {P : Program} {id : Nat} {Q : Exit → Act → World → Prop} {a : Act} {w : World} {l : List Oper} (hm : P.follows .mixedOrders = true) (hB : Region.lexB .any l.toArray = true)
    (h : wpStill P l.toArray w.drew (fun a' => Q .normal a' w.drew) l a) : (Code.region id l.toArray true).wp P Q a w := wp_region_still_lit hm hB h

end Go.Proofs.YtgpliiepoimcbaaDoor
end
section
/- The walks of the reference's Compare and Same of nodes. -/
namespace Go.Proofs.YtgpliiepoimcbaaDoor
open Go.RowKit

def sgnB (x : Bool) : Int := if x = true then -1 else 1

theorem cmpI_of_ne {a b : Int} (h : a ≠ b) : sgnB (decide (a < b)) = cmpI a b := by
  unfold cmpI sgnB
  by_cases h1 : a < b
  · simp [h1]
  · rw [if_neg (by simpa using h1), if_neg h1, if_pos (by omega)]
theorem cmpB_of_ne {a b : ByteArray} (h : (a.toList == b.toList) = false) : sgnB (Op.bytesLess a.toList b.toList) = cmpB a b := by
  unfold cmpB sgnB
  cases Op.bytesLess a.toList b.toList <;> simp [h]

end Go.Proofs.YtgpliiepoimcbaaDoor
end
section
/- The walks of slices.Clone, hashcons.Canon and Copy, and of the reference's Copy, Find, Canon, Few. -/
namespace Go.Proofs.YtgpliiepoimcbaaDoor
open Go.RowKit
set_option maxRecDepth 100000

theorem clone_any (M : Nat → Prop) (v : Value) (l : List Int) (w : World) (h : RdI M w v l) (hl : l.length ≤ 17592186044416) :
    Calls Tryd.prog 57 #[v] w fun e w' => ∃ a' c', e = .returned (.slice a' l.length c') ∧ OwnI w.heap.size w' (.slice a' l.length c') l ∧ Fr NoB w w' := by
  have qs := eqlNilI
  have h0 : (v = .slice none 0 0 ∧ l = []) ∨ (∃ a cap, v = .slice (some a) l.length cap) := by
    rcases h with ⟨⟨a, cap, rfl, hcap⟩, rfl⟩ | ⟨b, off, cap, rfl, _⟩
    · cases a with
      | none => obtain rfl := hcap rfl; exact .inl ⟨rfl, rfl⟩
      | some a => exact .inr ⟨a, cap, rfl⟩
    · exact .inr ⟨_, cap, rfl⟩
  rcases h0 with ⟨rfl, rfl⟩ | ⟨a, cap, rfl⟩
  · go_enter Tryd.func57, Tryd.ntmps57
    go_wp2
    go_ret
    exact ⟨_, _, rfl, OwnI.nil _ _, Fr.refl _ _⟩
  · have hrd := hid (show RdI M (w.alloc (.cells #[] 3)) (.slice (some a) l.length cap) l from RdI.fr h ((Fr.refl NoB w).alloc _) (fun _ _ h => h.elim))
    have hown := hid (show OwnI w.heap.size (w.alloc (.cells #[] 3)) (.slice (some ⟨w.heap.size, 0, none⟩) 0 0) [] from OwnI.lit w.heap.size w [] (Nat.le_refl _) (by simp))
    clear h
    go_enter Tryd.func57, Tryd.ntmps57
    go_wp2_with (at_builtin; refine ap_ints _ rfl _ _ rfl w.heap.size (.slice (some ⟨w.heap.size, 0, none⟩) 0 0) [] rfl hown.out M _ l rfl hrd.out (by simpa using hl) (by simp) ?_; intro v' w1 h1 h2)
    go_ret
    obtain ⟨a', c', rfl⟩ := h1.form
    exact ⟨a', c', rfl, by simpa using h1, ((Fr.refl NoB w).alloc _).grown h2 (fun k hk hlt => by simp [Value.ownBlock] at hk; subst hk; exact absurd hlt (Nat.lt_irrefl _))⟩

theorem canonNil_any (M : Nat → Prop) (n : Node) (v : Value) (w : World) (h : RdI M w v n.args) (hl : n.args.length ≤ 17592186044416) :
    Calls Tryd.prog 40 #[nodeV n v, .nilFunc] w fun e w' => ∃ a' c', e = .returned (nodeV n (.slice a' n.args.length c')) ∧ OwnI w.heap.size w' (.slice a' n.args.length c') n.args ∧ Fr NoB w w' := by
  obtain ⟨a, cap, rfl⟩ := h.form
  have h' := hid (h.fr (((Fr.refl NoB w).alloc (.cells (nodeCells n (.slice a n.args.length cap)) 40)).alloc (.cells #[.int .i64 0, .int .i64 0, .int .u64 0, .string ⟨#[]⟩, .slice none 0 0] 40)) (fun _ _ h => h.elim))
  clear h
  unfold nodeV
  have qf := neqNilFn0
  go_enter Tryd.func40, Tryd.ntmps40
  go_wp2_with (go_at_call 57; refine (clone_any M _ n.args _ h'.out hl).mono ?_; rintro e w1 ⟨a', c', rfl, ho, hf⟩; obtain ⟨c0, c1, c2, c3, c4, cf, cl⟩ := hf.five (fun h => h) (at_old (at_new w _) _); obtain ⟨r0, r1, r2, r3, r4, rf, rl⟩ := hf.five (b := w.heap.size + 1) (fun h => h) (at_new' (by simp)); have HF := hid hf; have HO := hid ho; clear hf ho)
  refine bodyPost_ret (v := nodeV n (.slice a' n.args.length c')) (by simp [results, Tryd.results40, go_sem, r0, r1, r2, r3, r4, nodeV]) rfl ?_
  refine ⟨a', c', rfl, OwnI.keep HO.out ?_ ?_, ?_⟩
  · simp only [World.size_alloc]; omega
  · repeat (refine Fr.setCell ?_ (fun _ => by simp <;> omega) _)
    exact Fr.refl _ _
  · repeat (refine Fr.setCell ?_ (fun h => absurd h (by simp)) _)
    exact (((Fr.refl NoB w).alloc _).alloc _).step HF.out

/-- What a function value must do for Canon: Pr are the blocks that it must leave alone. -/
structure FindOk (F : FuncId) (first caps : Array Value) (I : (Nat → Prop) → Nat → World → Prop) (l : List Int) (φ : Int → Int) : Prop where
  enter : ∀ (args : Array Value) (w : World), (callFunc F args).run Tryd.prog w = .ok (.enter F args) w
  stable : ∀ Pr k w w', I Pr k w → Fr Pr w w' → I Pr k w'
  call : ∀ Pr k w, k < l.length → I Pr k w → Calls Tryd.prog F (first.push (.int .i64 (l.getD k 0)) ++ caps) w fun e w' => e = .returned (.int .i64 (φ (l.getD k 0))) ∧ I Pr (k + 1) w' ∧ Fr (fun b => ¬ Pr b) w w'

theorem take_map_set (l : List Int) (φ : Int → Int) (k : Nat) (hk : k < l.length) : ((l.take k).map φ ++ l.drop k).set k (φ (l.getD k 0)) = (l.take (k + 1)).map φ ++ l.drop (k + 1) := by
  have e1 : l.take (k + 1) = l.take k ++ [l[k]] := List.take_succ_eq_append_getElem hk
  have e2 : l.drop k = l[k] :: l.drop (k + 1) := List.drop_eq_getElem_cons hk
  rw [e1, e2, getD_eq hk, List.set_append_right _ _ (by simp; omega)]
  have e3 : k - (List.map φ (List.take k l)).length = 0 := by simp; omega
  rw [e3, List.set_cons_zero, List.map_append, List.append_assoc]
  rfl
theorem take_map_len (l : List Int) (φ : Int → Int) (k : Nat) : ((l.take k).map φ ++ l.drop k).length = l.length := by simp; omega
theorem take_map_get (l : List Int) (φ : Int → Int) (k : Nat) (hk : k < l.length) : ((l.take k).map φ ++ l.drop k).getD k 0 = l.getD k 0 := by
  rw [List.getD_eq_getElem?_getD, List.getElem?_append_right (by simp; omega), List.getD_eq_getElem?_getD]
  have e3 : k - (List.map φ (List.take k l)).length = 0 := by simp; omega
  rw [e3, List.getElem?_drop, Nat.add_zero]

set_option maxHeartbeats 1000000 in
theorem canon_any (M Keep : Nat → Prop) (F : FuncId) (first caps : Array Value) (I : (Nat → Prop) → Nat → World → Prop) (φ : Int → Int) (n : Node) (v : Value) (w : World) (h : RdI M w v n.args) (hl : n.args.length ≤ 17592186044416)
    (hI : FindOk F first caps I n.args φ) (hstart : ∀ w1, Fr NoB w w1 → I (fun b => Keep b ∨ (w.heap.size ≤ b ∧ b < w1.heap.size)) 0 w1) :
    Calls Tryd.prog 40 #[nodeV n v, .func (.func F) first caps] w fun e w' => ∃ a' c', e = .returned (nodeV { n with args := n.args.map φ } (.slice a' n.args.length c')) ∧ OwnI w.heap.size w' (.slice a' n.args.length c') (n.args.map φ) ∧
      (∃ Pr : Nat → Prop, I Pr n.args.length w' ∧ (∀ b, Keep b → Pr b) ∧ (∀ b, (Value.slice a' n.args.length c').ownBlock = some b → Pr b)) ∧ Fr (fun b => ¬ Keep b) w w' := by
  obtain ⟨a, cap, rfl⟩ := h.form
  have h' := hid (h.fr (((Fr.refl NoB w).alloc (.cells (nodeCells n (.slice a n.args.length cap)) 40)).alloc (.cells #[.int .i64 0, .int .i64 0, .int .u64 0, .string ⟨#[]⟩, .slice none 0 0] 40)) (fun _ _ h => h.elim))
  have HI := hid hI
  have HS := hid hstart
  clear h hI hstart
  unfold nodeV
  have qf := neqNilFn1
  go_enter Tryd.func40, Tryd.ntmps40
  go_wp2_with (go_at_call 57; refine (clone_any M _ n.args _ h'.out hl).mono ?_; rintro e w1 ⟨a', c', rfl, ho, hf⟩; obtain ⟨c0, c1, c2, c3, c4, cf, cl⟩ := hf.five (fun h => h) (at_old (at_new w _) _); have HB := hid (hf.at (fun h => h) (at_old (at_new w _) _)); have HR := hid (hf.at (b := w.heap.size + 1) (fun h => h) (at_new' (by simp))); have HF := hid hf; have HO := hid ho; clear hf ho)
  have hF1 : Fr NoB w w1 := (((Fr.refl NoB w).alloc _).alloc _).step HF.out
  have hO1 : OwnI (w.heap.size + 2) w1 (.slice a' n.args.length c') n.args := OwnI.base HO.out (by simp only [World.size_alloc]; omega)
  have hSz : w.heap.size + 2 ≤ w1.heap.size := by have := HF.out.size; simp only [World.size_alloc] at this; omega
  have hRow : ∀ b, (Value.slice a' n.args.length c').ownBlock = some b → w.heap.size + 2 ≤ b ∧ b < w1.heap.size := fun b hb => World.ownsRow.lt hO1 b hb
  have hI0 := HS.out w1 hF1
  obtain ⟨Pr, hPr⟩ : ∃ Pr : Nat → Prop, Pr = fun b => Keep b ∨ (w.heap.size ≤ b ∧ b < w1.heap.size) := ⟨_, rfl⟩
  rw [← hPr] at hI0
  have hPrB : Pr w.heap.size := by rw [hPr]; exact .inr ⟨by omega, by omega⟩
  have hPrR : Pr (w.heap.size + 1) := by rw [hPr]; exact .inr ⟨by omega, by omega⟩
  have hPrS : ∀ b, (Value.slice a' n.args.length c').ownBlock = some b → Pr b := fun b hb => by rw [hPr]; exact .inr ⟨by have := (hRow b hb).1; omega, (hRow b hb).2⟩
  have hPrK : ∀ b, Keep b → Pr b := fun b hb => by rw [hPr]; exact .inl hb
  have hPrF : ∀ (w2 w3 : World), Fr (fun b => ¬ Keep b) w w2 → Fr (fun b => ¬ Pr b) w2 w3 → Fr (fun b => ¬ Keep b) w w3 := fun w2 w3 h1 h2 => h1.trans' h2 (fun k _ hn hk => hn (hPrK k hk))
  clear hPr
  have HPB := hid hPrB
  have HPS := hid hPrS
  have HH := hid (And.intro hF1 (And.intro hO1 (And.intro hSz (And.intro hRow (And.intro hI0 (And.intro hPrB (And.intro hPrR (And.intro hPrS (And.intro hPrK hPrF)))))))))
  clear hF1 hO1 hSz hRow hI0 hPrB hPrR hPrS hPrK hPrF
  go_loopw [16] (fun i wr => ∃ k : Nat, k ≤ n.args.length ∧ i = .int .i64 k ∧ OwnI (w.heap.size + 2) wr (.slice a' n.args.length c') ((n.args.take k).map φ ++ n.args.drop k) ∧ I Pr k wr ∧
      wr.heap[w.heap.size]? = some (.cells (nodeCells n (.slice a' n.args.length c')) 40 (0, 0)) ∧
      wr.heap[w.heap.size + 1]? = some (.cells #[.int .i64 0, .int .i64 0, .int .u64 0, .string ⟨#[]⟩, .slice none 0 0] 40 (0, 0)) ∧ Fr (fun b => ¬ Keep b) w wr) (fun i _ => n.args.length - (intOf i).toNat)
  case atStart =>
    obtain ⟨hF1, hO1, hSz, hRow, hI0, hPrB, hPrR, hPrS, hPrK, hPrF⟩ := HH.out
    have hs : Fr (fun k => k = w.heap.size) w1 (w1.setCell ⟨w.heap.size, 4, none⟩ (.slice a' n.args.length c')) := Fr.setCell (M := fun k => k = w.heap.size) (Fr.refl _ _) (p := ⟨w.heap.size, 4, none⟩) (fun _ => rfl) _
    refine ⟨0, Nat.zero_le _, rfl, ?_, HI.out.stable Pr 0 w1 _ hI0 (hs.mono (fun k _ hk => by rw [hk]; exact hPrB)), ?_, set_other HR.out (by simp) _, ?_⟩
    · exact OwnI.fr hO1 hs (fun k hk => by have := hRow k hk; omega)
    · exact set_at HB.out 4 _
    · exact (hF1.trans' hs (fun k hk h => by omega) : Fr NoB w _).mono (fun k _ h => h.elim)
  case round =>
    obtain ⟨k, hk, rfl, ho, hi, hb, hr, hfr⟩ := hrel
    obtain ⟨c0, c1, c2, c3, c4, cf, cl⟩ := five_of hb
    have HB := hid hb
    have HR2 := hid hr
    have HI2 := hid hi
    have HF2 := hid hfr
    clear hb hr hi hfr
    by_cases hlt : k < n.args.length
    · rcases OwnI.form' ho with ⟨h1, h2⟩ | ⟨g, cap2, h1, hg1, hg2, hcap⟩
      · have := congrArg List.length h2; rw [take_map_len] at this; simp only [List.length_nil] at this; omega
      · simp only [Value.slice.injEq] at h1
        obtain ⟨rfl, h1, rfl⟩ := h1
        clear h1
        have hck := OwnI.cell ho (i := k) (by rw [take_map_len]; exact hlt)
        rw [take_map_get _ _ _ hlt] at hck
        obtain ⟨x, HX⟩ : ∃ x, Hid (n.args.getD k 0 = x) := ⟨_, rfl⟩
        rw [HX.out] at hck
        have HO2 := hid ho
        clear ho
        go_wp2
        have hcall := HI.out.call Pr k
        rw [HX.out] at hcall
        have HC : Hid (∀ W, Fr NoB wr W → Calls Tryd.prog F (first.push (.int .i64 x) ++ caps) W fun e w' => e = .returned (.int .i64 (φ x)) ∧ I Pr (k + 1) w' ∧ Fr (fun b => ¬ Pr b) W w') := fun W hW => hcall W hlt (HI.out.stable Pr k wr W HI2.out (hW.mono (fun _ _ h => h.elim)))
        clear hcall
        have hen := HI.out.enter
        have hne1 : g ≠ w.heap.size := by omega
        have hne2 : w.heap.size ≠ g := by omega
        go_region_held3 (fun w' => w'.cell? ⟨w.heap.size, 4, none⟩ = some (.slice (some ⟨g, 0, none⟩) n.args.length c')) (go_keep)
          (first | (with_reducible refine (HC.out _ (Fr.refl _ _).drew).mono ?_); rintro e w2 ⟨rfl, hi2, hfr2⟩; obtain ⟨_, _, _, _, d4, _, _⟩ := five_of (hfr2.at (fun h => h HPB.out) HB.out); have ho4 := OwnI.fr (OwnI.drew HO2.out) hfr2 (fun b hb h => h (HPS.out b hb)); have e1 := OwnI.cell ho4 (i := k) (by rw [take_map_len]; exact hlt); have e2 := OwnI.frozen ho4 k; have HO4 := hid ho4; have HI4 := hid hi2; have HF4 := hid hfr2; clear hi2 hfr2 ho4)
        go_wp2
        go_roundw
        case rel =>
          obtain ⟨hF1, hO1, hSz, hRow, hI0, hPrB, hPrR, hPrS, hPrK, hPrF⟩ := HH.out
          have hPg : Pr g := hPrS g rfl
          have hs : Fr (fun b => b = g) w2 (w2.setCell ⟨g, k, none⟩ (.int .i64 (φ x))) := Fr.setCell (M := fun b => b = g) (Fr.refl _ _) (p := ⟨g, k, none⟩) (fun _ => rfl) _
          refine ⟨k + 1, by omega, by go_num, ?_, ?_, ?_, ?_, ?_⟩
          · have h9 := OwnI.stored HO4.out k (φ x)
            rw [← HX.out, take_map_set _ _ _ hlt] at h9
            rw [← HX.out]; exact h9
          · exact HI.out.stable Pr (k + 1) w2 _ HI4.out (hs.mono (fun b _ hb => by rw [hb]; exact hPg))
          · exact set_other (HF4.out.at (fun h => h hPrB) HB.out) (by simp; omega) _
          · exact set_other (HF4.out.at (fun h => h hPrR) HR2.out) (by simp; omega) _
          · have h8 := hPrF _ _ (HF2.out.drew) HF4.out
            exact h8.trans' hs (fun b hb h => by have h2 : b = g := h; have := (hRow g rfl).1; omega)
        case measure => simp [intOf]; omega
    · obtain ⟨r0, r1, r2, r3, r4, rf, rl⟩ := five_of HR2.out
      obtain rfl : k = n.args.length := by omega
      go_wp2
      refine bodyPost_ret (v := nodeV { n with args := n.args.map φ } (.slice a' n.args.length c')) (by simp [results, Tryd.results40, go_sem, r0, r1, r2, r3, r4, nodeV]) rfl ?_
      obtain ⟨hF1, hO1, hSz, hRow, hI0, hPrB, hPrR, hPrS, hPrK, hPrF⟩ := HH.out
      have hs : Fr (fun b => b = w.heap.size + 1) wr _ := Fr.setCell (M := fun b => b = w.heap.size + 1) (Fr.setCell (M := fun b => b = w.heap.size + 1) (Fr.setCell (M := fun b => b = w.heap.size + 1) (Fr.setCell (M := fun b => b = w.heap.size + 1) (Fr.setCell (M := fun b => b = w.heap.size + 1) (Fr.refl _ wr) (p := ⟨w.heap.size + 1, 0, none⟩) (fun _ => rfl) (.int .i64 n.op)) (p := ⟨w.heap.size + 1, 1, none⟩) (fun _ => rfl) (.int .i64 n.width)) (p := ⟨w.heap.size + 1, 2, none⟩) (fun _ => rfl) (.int .u64 n.val)) (p := ⟨w.heap.size + 1, 3, none⟩) (fun _ => rfl) (.string n.name)) (p := ⟨w.heap.size + 1, 4, none⟩) (fun _ => rfl) (.slice a' n.args.length c')
      refine ⟨a', c', rfl, ?_, ⟨Pr, ?_, hPrK, hPrS⟩, ?_⟩
      · refine OwnI.base (B := w.heap.size + 2) (OwnI.fr (l := n.args.map φ) ?_ hs (fun b hb => by have := (hRow b hb).1; omega)) (by omega)
        have e : (n.args.take n.args.length).map φ ++ n.args.drop n.args.length = n.args.map φ := by simp
        rw [← e]; exact ho
      · exact HI.out.stable Pr _ wr _ HI2.out (hs.mono (fun b _ hb => by rw [hb]; exact hPrR))
      · exact HF2.out.trans' hs (fun b hb h => by omega)

end Go.Proofs.YtgpliiepoimcbaaDoor
end
section
/- The walks of the reference's Same, Copy, Find, Canon. -/
namespace Go.Proofs.YtgpliiepoimcbaaDoor
open Go.RowKit
set_option maxRecDepth 100000

end Go.Proofs.YtgpliiepoimcbaaDoor
end
section
/- Rows of structs (k cells an element): how they read, the call's own ones. No program in sight. -/
namespace Go.Proofs.YtgpliiepoimcbaaDoor
open Go.RowKit

section
variable {α : Type} (enc : α → List Value) {k : Nat}

def flatE : List α → List Value
  | [] => []
  | x :: l => enc x ++ flatE l
theorem flatE_append : ∀ l m : List α, flatE enc (l ++ m) = flatE enc l ++ flatE enc m
  | [], _ => rfl
  | x :: l, m => by simp only [List.cons_append, flatE, flatE_append l m, List.append_assoc]
theorem flatE_one : ∀ (l : List α), (∀ x ∈ l, ∀ u ∈ enc x, u.oneCell' = true) → ∀ u ∈ flatE enc l, u.oneCell' = true
  | [], _, u, hu => by simp [flatE] at hu
  | x :: l, h, u, hu => by
    simp only [flatE, List.mem_append] at hu
    rcases hu with hu | hu
    · exact h x (by simp) u hu
    · exact flatE_one l (fun y hy => h y (by simp [hy])) u hu
variable (hk : ∀ x, (enc x).length = k)
include hk
theorem flatE_length : ∀ l : List α, (flatE enc l).length = l.length * k
  | [] => by simp [flatE]
  | x :: l => by simp only [flatE, List.length_append, flatE_length l, hk, List.length_cons, Nat.add_mul, Nat.one_mul]; omega
theorem flatE_get : ∀ (l : List α) (i : Nat) (h : i < l.length) (j : Nat), j < k → (flatE enc l)[i * k + j]? = (enc l[i])[j]?
  | x :: l, 0, _, j, hj => by
    simp only [flatE, List.getElem_cons_zero, Nat.zero_mul, Nat.zero_add]
    rw [List.getElem?_append_left (by rw [hk]; exact hj)]
  | x :: l, i + 1, h, j, hj => by
    have ih := flatE_get l i (by simpa using h) j hj
    simp only [flatE, List.getElem_cons_succ]
    have e : (i + 1) * k + j = k + (i * k + j) := by rw [Nat.add_mul, Nat.one_mul]; omega
    rw [e, List.getElem?_append_right (by rw [hk]; omega), hk, Nat.add_sub_cancel_left]
    exact ih
theorem flatE_take : ∀ (l : List α) (i : Nat), i ≤ l.length → flatE enc (l.take i) = (flatE enc l).take (i * k)
  | l, 0, _ => by simp [flatE]
  | x :: l, i + 1, h => by
    have ih := flatE_take l i (by simpa using h)
    simp only [List.take_succ_cons, flatE, ih]
    have e : (i + 1) * k = k + i * k := by rw [Nat.add_mul, Nat.one_mul]; omega
    rw [e, List.take_append, hk, Nat.add_sub_cancel_left, List.take_of_length_le (l := enc x) (by rw [hk]; omega)]
theorem flatE_drop : ∀ (l : List α) (i : Nat), i ≤ l.length → flatE enc (l.drop i) = (flatE enc l).drop (i * k)
  | l, 0, _ => by simp
  | x :: l, i + 1, h => by
    have ih := flatE_drop l i (by simpa using h)
    simp only [List.drop_succ_cons, flatE, ih]
    have e : (i + 1) * k = k + i * k := by rw [Nat.add_mul, Nat.one_mul]; omega
    rw [e, List.drop_append, hk, Nat.add_sub_cancel_left, List.drop_of_length_le (l := enc x) (by rw [hk]; omega), List.nil_append]
end

/-- The cells cs lie from cell off of block b on. -/
def CellsAt (w : World) (b off : Nat) (cs : List Value) : Prop := ∀ j u, cs[j]? = some u → w.cell? ⟨b, off + j, none⟩ = some u
theorem CellsAt.fr {M : Nat → Prop} {w w' : World} {b off : Nat} {cs : List Value} (h : CellsAt w b off cs) (hf : Fr M w w') (hb : b < w.heap.size) (hm : ¬ M b) : CellsAt w' b off cs :=
  fun j u hj => (hf.cell (p := ⟨b, off + j, none⟩) hb hm).trans (h j u hj)
theorem CellsAt.take {w : World} {b off : Nat} {cs : List Value} (h : CellsAt w b off cs) (n : Nat) : CellsAt w b off (cs.take n) := fun j u hj => by
  rw [List.getElem?_take] at hj
  split at hj
  · exact h j u hj
  · cases hj
theorem CellsAt.drop {w : World} {b off : Nat} {cs : List Value} (h : CellsAt w b off cs) (n : Nat) : CellsAt w b (off + n) (cs.drop n) := fun j u hj => by
  rw [List.getElem?_drop] at hj
  rw [Nat.add_assoc]; exact h _ u hj
theorem CellsAt.news {w : World} {b off : Nat} {cs : List Value} (h : CellsAt w b off cs) : ∀ j u, cs[j]? = some u → w.cell? ((⟨b, off, none⟩ : Addr).add j) = some u := fun j u hj => by
  have e : (⟨b, off, none⟩ : Addr).add j = ⟨b, off + j, none⟩ := by unfold Addr.add; split <;> simp_all
  rw [e]; exact h j u hj
theorem CellsAt.of {w : World} {b off : Nat} {cs : List Value} (h : ∀ j u, cs[j]? = some u → w.cell? ((⟨b, off, none⟩ : Addr).add j) = some u) : CellsAt w b off cs := fun j u hj => by
  have e : (⟨b, off, none⟩ : Addr).add j = ⟨b, off + j, none⟩ := by unfold Addr.add; split <;> simp_all
  rw [← e]; exact h j u hj

/-- The slice v reads as the elements l; its block is not among M. -/
def RdE {α : Type} (enc : α → List Value) (M : Nat → Prop) (w : World) (v : Value) (l : List α) : Prop :=
  ((∃ a cap, v = .slice a 0 cap ∧ (a = none → cap = 0)) ∧ l = []) ∨ ∃ b off cap, v = .slice (some ⟨b, off, none⟩) l.length cap ∧ b < w.heap.size ∧ ¬ M b ∧ l.length ≤ cap ∧ CellsAt w b off (flatE enc l)
section
variable {α : Type} {enc : α → List Value} {N M : Nat → Prop} {w w' : World} {v : Value} {l : List α}
theorem RdE.fr (h : RdE enc N w v l) (hf : Fr M w w') (hm : ∀ k, k < w.heap.size → M k → N k) : RdE enc N w' v l := by
  rcases h with h | ⟨b, off, cap, h1, h2, h3, h4, h5⟩
  · exact .inl h
  · exact .inr ⟨b, off, cap, h1, Nat.lt_of_lt_of_le h2 hf.size, h3, h4, h5.fr hf h2 (fun h => h3 (hm b h2 h))⟩
theorem RdE.step (h : RdE enc N w v l) (hf : Fr NoB w w') : RdE enc N w' v l := h.fr hf (fun _ _ h => h.elim)
theorem RdE.drew (h : RdE enc N w v l) : RdE enc N w.drew v l := h
theorem RdE.weaken (h : RdE enc N w v l) (hm : ∀ k, k < w.heap.size → M k → N k) : RdE enc M w v l := by
  rcases h with h | ⟨b, off, cap, h1, h2, h3, h4⟩
  · exact .inl h
  · exact .inr ⟨b, off, cap, h1, h2, fun h => h3 (hm b h2 h), h4⟩
theorem RdE.more (h : RdE enc M w v l) : RdE enc (fun k => M k ∨ w.heap.size ≤ k) w v l := by
  rcases h with h | ⟨b, off, cap, h1, h2, h3, h4⟩
  · exact .inl h
  · exact .inr ⟨b, off, cap, h1, h2, fun h => h.elim h3 (fun h => by omega), h4⟩
theorem RdE.form (h : RdE enc M w v l) : ∃ a cap, v = .slice a l.length cap := by
  rcases h with ⟨⟨a, cap, h, _⟩, rfl⟩ | ⟨b, off, cap, h, _⟩
  · exact ⟨a, cap, h⟩
  · exact ⟨_, cap, h⟩
theorem RdE.form' (h : RdE enc M w v l) (hl : 0 < l.length) : ∃ b off cap, v = .slice (some ⟨b, off, none⟩) l.length cap ∧ b < w.heap.size ∧ ¬ M b ∧ l.length ≤ cap ∧ CellsAt w b off (flatE enc l) := by
  rcases h with ⟨_, rfl⟩ | h
  · simp at hl
  · exact h
theorem RdI.more {m : List Int} (hr : RdI M w v m) : RdI (fun k => M k ∨ w.heap.size ≤ k) w v m := by
  rcases hr with h | ⟨b, off, cap, h1, h2, h3, h4⟩
  · exact .inl h
  · exact .inr ⟨b, off, cap, h1, h2, fun h => h.elim h3 (fun h => by omega), h4⟩
end

/-- v is nil, or a row of blocks from B on that holds just the elements l; a cell's type is e. -/
def OwnE {α : Type} (enc : α → List Value) (k : Nat) (e : TypeId) (B : Nat) (w : World) (v : Value) (l : List α) : Prop := w.ownsRow B e k v l.length (flatE enc l)
section
variable {α : Type} {enc : α → List Value} {k : Nat} {e : TypeId} {B B' : Nat} {M : Nat → Prop} {w w' : World} {v : Value} {l : List α}
theorem OwnE.nil (enc : α → List Value) (k : Nat) (e : TypeId) (B : Nat) (w : World) : OwnE enc k e B w (.slice none 0 0) [] := World.ownsRow_nil w B e k
theorem OwnE.lt (h : OwnE enc k e B w v l) {j : Nat} (hj : v.ownBlock = some j) : B ≤ j ∧ j < w.heap.size := World.ownsRow.lt h j hj
theorem OwnE.fr (h : OwnE enc k e B w v l) (hf : Fr M w w') (hm : ∀ j, v.ownBlock = some j → ¬ M j) : OwnE enc k e B w' v l := by
  refine ⟨h.1, ?_⟩
  rcases h.2 with h2 | ⟨g, cap, cur, h1, hb, hg, r⟩
  · exact .inl h2
  · refine .inr ⟨g, cap, cur, h1, hb, ?_, r⟩
    rw [hf.block g (Array.getElem?_eq_some_iff.1 hg).1 (hm g (by rw [h1]; rfl))]; exact hg
theorem OwnE.step (h : OwnE enc k e B w v l) (hf : Fr NoB w w') : OwnE enc k e B w' v l := h.fr hf (fun _ _ h => h)
theorem OwnE.drew (h : OwnE enc k e B w v l) : OwnE enc k e B w.drew v l := h
theorem OwnE.base (h : OwnE enc k e B w v l) (hB : B' ≤ B) : OwnE enc k e B' w v l := by
  refine ⟨h.1, ?_⟩
  rcases h.2 with h2 | ⟨g, cap, cur, h1, hb, r⟩
  · exact .inl h2
  · exact .inr ⟨g, cap, cur, h1, Nat.le_trans hB hb, r⟩
theorem OwnE.form (h : OwnE enc k e B w v l) : ∃ a cap, v = .slice a l.length cap := by
  rcases h.2 with ⟨h, hl⟩ | ⟨g, cap, cur, h, _⟩
  · exact ⟨none, 0, by rw [hl]; exact h⟩
  · exact ⟨_, cap, h⟩
theorem OwnE.form' (h : OwnE enc k e B w v l) : (v = .slice none 0 0 ∧ l = []) ∨ ∃ g cap, v = .slice (some ⟨g, 0, none⟩) l.length cap ∧ B ≤ g ∧ g < w.heap.size ∧ l.length ≤ cap := by
  rcases h.2 with ⟨h, hl⟩ | ⟨g, cap, cur, h, hb, hg, hn, _⟩
  · exact .inl ⟨h, List.eq_nil_of_length_eq_zero hl⟩
  · exact .inr ⟨g, cap, h, hb, (Array.getElem?_eq_some_iff.1 hg).1, hn⟩
theorem OwnE.cells {g n cap : Nat} (h : OwnE enc k e B w (.slice (some ⟨g, 0, none⟩) n cap) l) : CellsAt w g 0 (flatE enc l) := by
  intro j u hj
  rw [Nat.zero_add]
  have hn : n = l.length := by
    rcases h.2 with ⟨h2, _⟩ | ⟨g', cap', cur, h1, _⟩
    · cases h2
    · cases h1; rfl
  subst hn
  have h2 := World.ownsRow.cellAt h (j := j) (by rw [← h.1]; exact (List.getElem?_eq_some_iff.1 hj).1)
  rw [h2]; exact hj
theorem OwnE.frozen {g n cap : Nat} (h : OwnE enc k e B w (.slice (some ⟨g, 0, none⟩) n cap) l) (i : Nat) : w.frozen? ⟨g, i, none⟩ = false := by
  rcases h.2 with ⟨h2, _⟩ | ⟨g', cap', cur, h1, _, hg, _⟩
  · cases h2
  · cases h1; exact frozen_of_row w g i cur _ hg
theorem OwnE.rd (h : OwnE enc k e B w v l) (hM : ∀ j, v.ownBlock = some j → ¬ M j) : RdE enc M w v l := by
  rcases h.form' with ⟨h1, h2⟩ | ⟨g, cap, h1, h2, h3, h4⟩
  · exact .inl ⟨⟨none, 0, by rw [h1], fun _ => rfl⟩, h2⟩
  · subst h1
    exact .inr ⟨g, 0, cap, rfl, h3, hM g rfl, h4, h.cells⟩

/-- append(s, t...): s is the call's own, t reads as m. -/
theorem ap_rows {P : Program} (w : World) {ops : Array Oper} {rest : List Oper} {o : Oper} {a : Act} {Q : Exit → Act → World → Prop} (hk : ∀ x : α, (enc x).length = k) (hk0 : 0 < k)
    {t : TypeId} (ht : P.underlying t = some (.slice e)) {z : Value} {bytes : Nat} (hinfo : (P.info? e).map (fun i => (i.zero, i.size, i.bytes)) = some (some z, k, bytes)) (hzs : z.cells.size = k)
    (hg : o.guard = none) (s x : Operand) (ho : o.op = .call { callee := .builtin .append, args := #[s, x], argTypes := #[t, t] }) (base : Nat) (v : Value) (l : List α) (hs : a.eval s = v) (hown : OwnE enc k e base w v l)
    (M : Nat → Prop) (u : Value) (m : List α) (hx : a.eval x = u) (hrd : RdE enc M w u m) (h1 : ∀ y ∈ m, ∀ u ∈ enc y, u.oneCell' = true) (hlen : (l.length + m.length) * bytes ≤ 140737488355328) (hmax : l.length + m.length ≤ 17592186044416) (hbase : base ≤ w.heap.size)
    (h : ∀ v' w', OwnE enc k e base w' v' (l ++ m) → w.grownBy w' v.ownBlock → (v'.ownBlock = v.ownBlock ∨ v'.ownBlock = some w.heap.size) → wpList P ops Q rest (a.put o.dst v') w') : wpList P ops Q (o :: rest) a w := by
  obtain ⟨i0, hi, hz0, hz1, hz2⟩ := info_parts hinfo
  rcases hrd with ⟨⟨ad, cap, rfl, hcap⟩, rfl⟩ | ⟨b, off, cap, rfl, _, _, _, hc⟩
  · cases ad with
    | some ad =>
      refine wpList_append_own_at (w := w) hg s x t ho base e i0 z k bytes ht hi hz0 hz1 hz2 hzs hk0 v _ _ hs hown ad 0 cap [] hx (by simp) (fun j u hu => by simp at hu) (by simp) (by unfold maxLen; simp at hmax; omega) (by simpa using hlen) hbase ?_
      intro v' w' h1 h2 _ h4
      refine h v' w' ?_ h2 h4
      simpa [OwnE] using h1
    | none =>
    obtain rfl := hcap rfl
    refine wpList_append_own_none (w := w) hg s x t ho base e i0 k ht hi v _ _ hs hown hx ?_
    exact h v w (by simpa using hown) ⟨rfl, rfl, rfl, Nat.le_refl _, fun _ _ _ => rfl⟩ (.inl rfl)
  · refine wpList_append_own_at (w := w) hg s x t ho base e i0 z k bytes ht hi hz0 hz1 hz2 hzs hk0 v _ _ hs hown ⟨b, off, none⟩ m.length cap (flatE enc m) hx (flatE_length enc hk m) hc.news (flatE_one enc m h1) (by unfold maxLen; omega) hlen hbase ?_
    intro v' w' h1 h2 _ h4
    refine h v' w' ?_ h2 h4
    unfold OwnE
    rw [List.length_append, flatE_append]; exact h1
end

end Go.Proofs.YtgpliiepoimcbaaDoor
end
section
/- Rows of nodes (five cells each): how they read, the call's own ones, and the law of append for them. -/
namespace Go.Proofs.YtgpliiepoimcbaaDoor
open Go.RowKit
set_option maxRecDepth 100000

/-- A node with the slice that holds its args: its five cells. -/
def nsCells (x : Node × Value) : List Value := [.int .i64 x.1.op, .int .i64 x.1.width, .int .u64 x.1.val, .string x.1.name, x.2]
theorem nsLen (x : Node × Value) : (nsCells x).length = 5 := rfl

/-- The slice v reads as the nodes l, their args too; none of their blocks is among M. -/
structure RdN (M : Nat → Prop) (w : World) (v : Value) (l : List (Node × Value)) : Prop where
  row : RdE nsCells M w v l
  args : ∀ x ∈ l, RdI M w x.2 x.1.args
theorem RdN.fr {N M : Nat → Prop} {w w' : World} {v : Value} {l : List (Node × Value)} (h : RdN N w v l) (hf : Fr M w w') (hm : ∀ k, k < w.heap.size → M k → N k) : RdN N w' v l := ⟨h.row.fr hf hm, fun x hx => (h.args x hx).fr hf hm⟩
theorem RdN.step {N : Nat → Prop} {w w' : World} {v : Value} {l : List (Node × Value)} (h : RdN N w v l) (hf : Fr NoB w w') : RdN N w' v l := h.fr hf (fun _ _ h => h.elim)
theorem RdN.weaken {N M : Nat → Prop} {w : World} {v : Value} {l : List (Node × Value)} (h : RdN N w v l) (hm : ∀ k, k < w.heap.size → M k → N k) : RdN M w v l := ⟨h.row.weaken hm, fun x hx => (h.args x hx).weaken hm⟩
theorem RdN.form {M : Nat → Prop} {w : World} {v : Value} {l : List (Node × Value)} (h : RdN M w v l) : ∃ a cap, v = .slice a l.length cap := h.row.form
theorem RdN.drew {M : Nat → Prop} {w : World} {v : Value} {l : List (Node × Value)} (h : RdN M w v l) : RdN M w.drew v l := ⟨h.row, h.args⟩
theorem RdN.more {M : Nat → Prop} {w : World} {v : Value} {l : List (Node × Value)} (h : RdN M w v l) : RdN (fun k => M k ∨ w.heap.size ≤ k) w v l := ⟨h.row.more, fun x hx => (h.args x hx).more⟩

/-- The five cells of element i. -/
theorem CellsAt.five {w : World} {b off : Nat} {l : List (Node × Value)} (h : CellsAt w b off (flatE nsCells l)) {i : Nat} (hi : i < l.length) :
    w.cell? ⟨b, off + i * 5, none⟩ = some (.int .i64 l[i].1.op) ∧ w.cell? ⟨b, off + i * 5 + 1, none⟩ = some (.int .i64 l[i].1.width) ∧ w.cell? ⟨b, off + i * 5 + 2, none⟩ = some (.int .u64 l[i].1.val) ∧ w.cell? ⟨b, off + i * 5 + 3, none⟩ = some (.string l[i].1.name) ∧ w.cell? ⟨b, off + i * 5 + 4, none⟩ = some l[i].2 := by
  have e := fun j (hj : j < 5) => flatE_get nsCells nsLen l i hi j hj
  refine ⟨?_, ?_, ?_, ?_, ?_⟩
  · exact h _ _ (e 0 (by decide))
  · have := h _ _ (e 1 (by decide)); rwa [← Nat.add_assoc] at this
  · have := h _ _ (e 2 (by decide)); rwa [← Nat.add_assoc] at this
  · have := h _ _ (e 3 (by decide)); rwa [← Nat.add_assoc] at this
  · have := h _ _ (e 4 (by decide)); rwa [← Nat.add_assoc] at this

abbrev OwnN (B : Nat) (w : World) (v : Value) (l : List (Node × Value)) : Prop := OwnE nsCells 5 40 B w v l
theorem infoNode : (Tryd.prog.info? 40).map (fun i => (i.zero, i.size, i.bytes)) = some (some (.agg #[.int .i64 0, .int .i64 0, .int .u64 0, .string ⟨#[]⟩, .slice none 0 0]), 5, 64) := by kernel_rfl
theorem OwnE.rdN {B : Nat} {M : Nat → Prop} {w : World} {v : Value} {l : List (Node × Value)} (h : OwnN B w v l) (hM : ∀ k, v.ownBlock = some k → ¬ M k) (ha : ∀ x ∈ l, RdI M w x.2 x.1.args) : RdN M w v l := ⟨h.rd hM, ha⟩

/-- append(s, t...) on nodes: s is the call's own, t reads as m. -/
theorem ap_nodes (w : World) {ops : Array Oper} {rest : List Oper} {o : Oper} {a : Act} {Q : Exit → Act → World → Prop} (hg : o.guard = none) (s x : Operand)
    (ho : o.op = .call { callee := .builtin .append, args := #[s, x], argTypes := #[22, 22] }) (base : Nat) (v : Value) (l : List (Node × Value)) (hs : a.eval s = v) (hown : OwnN base w v l)
    (M : Nat → Prop) (u : Value) (m : List (Node × Value)) (hx : a.eval x = u) (hrd : RdN M w u m) (hlen : l.length + m.length ≤ 2199023255552) (hbase : base ≤ w.heap.size)
    (h : ∀ v' w', OwnN base w' v' (l ++ m) → w.grownBy w' v.ownBlock → (v'.ownBlock = v.ownBlock ∨ v'.ownBlock = some w.heap.size) → wpList Tryd.prog ops Q rest (a.put o.dst v') w') : wpList Tryd.prog ops Q (o :: rest) a w :=
  ap_rows w nsLen (by decide) Tryd.underlying22 infoNode rfl hg s x ho base v l hs hown M u m hx hrd.row (fun y hy u hu => by
    obtain ⟨_, _, e⟩ := (hrd.args y hy).form
    simp only [nsCells, List.mem_cons, List.not_mem_nil, or_false] at hu
    rcases hu with rfl | rfl | rfl | rfl | rfl <;> first | rfl | (rw [e]; rfl)) (by omega) (by omega) hbase h

end Go.Proofs.YtgpliiepoimcbaaDoor
end
section
/- append on rows of structs as one step of a region that draws its order. -/
namespace Go.Proofs.YtgpliiepoimcbaaDoor
open Go.RowKit

/-- append(s, t...) inside a drawn region: s is the call's own, t reads as m. -/
theorem rows_step {α : Type} {enc : α → List Value} {k : Nat} {e : TypeId} {P : Program} (w : World) {ops : Array Oper} {o : Oper} {a : Act} {K : Act → World → Prop} {Q : Exit → Act → World → Prop} {E : Prop} (hk : ∀ x : α, (enc x).length = k) (hk0 : 0 < k)
    {t : TypeId} (ht : P.underlying t = some (.slice e)) {z : Value} {bytes : Nat} (hinfo : (P.info? e).map (fun i => (i.zero, i.size, i.bytes)) = some (some z, k, bytes)) (hzs : z.cells.size = k)
    (hg : o.guard = none) (s x : Operand) (ho : o.op = .call { callee := .builtin .append, args := #[s, x], argTypes := #[t, t] }) (base : Nat) (v : Value) (l : List α) (hs : a.eval s = v) (hown : OwnE enc k e base w v l)
    (M : Nat → Prop) (u : Value) (m : List α) (hx : a.eval x = u) (hrd : RdE enc M w u m) (h1 : ∀ y ∈ m, ∀ u ∈ enc y, u.oneCell' = true) (hlen : (l.length + m.length) * bytes ≤ 140737488355328) (hmax : l.length + m.length ≤ 17592186044416) (hbase : base ≤ w.heap.size)
    (h : ∀ v' w', OwnE enc k e base w' v' (l ++ m) → w.grownBy w' v.ownBlock → (v'.ownBlock = v.ownBlock ∨ v'.ownBlock = some w.heap.size) → K (a.put o.dst v') w') :
    if Region.wanted o (yielded ops a.tmps) = true then Oper.wp P o a w K Q else E := by
  have hw : Region.wanted o (yielded ops a.tmps) = true := by simp [Region.wanted, hg]
  rw [if_pos hw]
  obtain ⟨i0, hi, hz0, hz1, hz2⟩ := info_parts hinfo
  rcases hrd with ⟨⟨ad, cap, rfl, hcap⟩, rfl⟩ | ⟨b, off, cap, rfl, _, _, _, hc⟩
  · cases ad with
    | some ad =>
      obtain ⟨v', w', hr, h2, h3, h4, h5⟩ := run_append_own_at (P := P) w base t o.type e i0 z k bytes ht hi hz0 hz1 hz2 hzs hk0 v _ _ hown ad 0 cap [] (by simp) (fun j u hu => by simp at hu) (by simp) (by unfold maxLen; simp at hmax; omega) (by simpa using hlen) hbase
      unfold Oper.wp execOp
      simp only [ho, resolve, invoke, builtin, Sem.run_bind, Sem.run_pure, Result.andThen_ok, List.map_toArray, List.map_cons, List.map_nil, hs, hx, hr]
      exact h v' w' (by simpa [OwnE] using h2) h3 h5
    | none =>
    obtain rfl := hcap rfl
    have hrun := run_append_owned_none (P := P) (w := w) base t o.type e i0 k ht hi v _ _ hown
    unfold Oper.wp
    simp [execOp, ho, resolve, invoke, builtin, hs, hx, hrun, Result.andThen]
    exact h v w (by simpa using hown) ⟨rfl, rfl, rfl, Nat.le_refl _, fun _ _ _ => rfl⟩ (.inl rfl)
  · obtain ⟨v', w', hr, h2, h3, h4, h5⟩ := run_append_own_at (P := P) w base t o.type e i0 z k bytes ht hi hz0 hz1 hz2 hzs hk0 v _ _ hown ⟨b, off, none⟩ m.length cap (flatE enc m) (flatE_length enc hk m) hc.news (flatE_one enc m h1) (by unfold maxLen; omega) hlen hbase
    unfold Oper.wp execOp
    simp only [ho, resolve, invoke, builtin, Sem.run_bind, Sem.run_pure, Result.andThen_ok, List.map_toArray, List.map_cons, List.map_nil, hs, hx, hr]
    refine h v' w' ?_ h3 h5
    unfold OwnE
    rw [List.length_append, flatE_append]; exact h2

/-- .. on nodes; the new value written out. -/
theorem nodes_step (w : World) {ops : Array Oper} {o : Oper} {a : Act} {K : Act → World → Prop} {Q : Exit → Act → World → Prop} {E : Prop} (hg : o.guard = none) (s x : Operand)
    (ho : o.op = .call { callee := .builtin .append, args := #[s, x], argTypes := #[22, 22] }) (base : Nat) (v : Value) (l : List (Node × Value)) (hs : a.eval s = v) (hown : OwnN base w v l)
    (M : Nat → Prop) (u : Value) (m : List (Node × Value)) (hx : a.eval x = u) (hrd : RdN M w u m) (n : Nat) (hn : l.length + m.length = n) (hlen : n ≤ 2199023255552) (hbase : base ≤ w.heap.size)
    (h : ∀ p q w', OwnN base w' (.slice p n q) (l ++ m) → w.grownBy w' v.ownBlock → ((Value.slice p n q).ownBlock = v.ownBlock ∨ (Value.slice p n q).ownBlock = some w.heap.size) → K (a.put o.dst (.slice p n q)) w') :
    if Region.wanted o (yielded ops a.tmps) = true then Oper.wp Tryd.prog o a w K Q else E := by
  subst hn
  refine rows_step w nsLen (by decide) Tryd.underlying22 infoNode rfl hg s x ho base v l hs hown M u m hx hrd.row (fun y hy u hu => ?_) (by omega) (by omega) hbase (fun v' w' h1 h2 h3 => ?_)
  · obtain ⟨_, _, e⟩ := (hrd.args y hy).form
    simp only [nsCells, List.mem_cons, List.not_mem_nil, or_false] at hu
    rcases hu with rfl | rfl | rfl | rfl | rfl <;> first | rfl | (rw [e]; rfl)
  · obtain ⟨p, q, hv⟩ := h1.form
    rw [List.length_append] at hv
    subst hv
    exact h p q w' h1 h2 h3

/-- A literal row of one node, in a later world. -/
theorem rdN_lit {w W : World} {e : TypeId} {n : Node} {s : Value} (hf : Fr NoB (w.alloc (.cells (nodeCells n s) e)) W) (hs : RdI NoB W s n.args) : RdN NoB W (.slice (some ⟨w.heap.size, 0, none⟩) 1 1) [(n, s)] := by
  refine ⟨.inr ⟨w.heap.size, 0, 1, rfl, Nat.lt_of_lt_of_le (by simp) hf.size, fun h => h, Nat.le_refl _, ?_⟩, fun x hx => ?_⟩
  · have hb := hf.at (fun h => h) (at_new w (.cells (nodeCells n s) e))
    obtain ⟨c0, c1, c2, c3, c4, _, _⟩ := five_of hb
    intro j u hj
    rw [Nat.zero_add]
    match j, hj with
    | 0, hj => simp [flatE, nsCells] at hj; subst hj; exact c0
    | 1, hj => simp [flatE, nsCells] at hj; subst hj; exact c1
    | 2, hj => simp [flatE, nsCells] at hj; subst hj; exact c2
    | 3, hj => simp [flatE, nsCells] at hj; subst hj; exact c3
    | 4, hj => simp [flatE, nsCells] at hj; subst hj; exact c4
    | j + 5, hj => simp [flatE, nsCells] at hj
  · rw [List.mem_singleton] at hx
    subst hx
    exact hs

/-! The same on integers. -/
def iCells (x : Int) : List Value := [.int .i64 x]
theorem flatI : ∀ l : List Int, flatE iCells l = l.map (Value.int .i64)
  | [] => rfl
  | x :: l => by rw [flatE, flatI l]; rfl
theorem ownI_iff {B : Nat} {w : World} {v : Value} {l : List Int} : OwnE iCells 1 3 B w v l ↔ OwnI B w v l := by
  unfold OwnE OwnI; rw [flatI]
theorem RdI.rdE {M : Nat → Prop} {w : World} {v : Value} {l : List Int} (h : RdI M w v l) : RdE iCells M w v l := by
  rcases h with h | ⟨b, off, cap, h1, h2, h3, h4, h5⟩
  · exact .inl h
  · refine .inr ⟨b, off, cap, h1, h2, h3, h4, fun j u hj => ?_⟩
    rw [flatI, List.getElem?_map] at hj
    have hl : j < l.length := by
      rcases Nat.lt_or_ge j l.length with h | h
      · exact h
      · rw [List.getElem?_eq_none h] at hj; cases hj
    have := h5 j hl
    rw [this, List.getD_eq_getElem?_getD]
    rw [List.getElem?_eq_getElem hl] at hj ⊢
    exact hj
theorem RdE.rdI {M : Nat → Prop} {w : World} {v : Value} {l : List Int} (h : RdE iCells M w v l) : RdI M w v l := by
  rcases h with h | ⟨b, off, cap, h1, h2, h3, h4, h5⟩
  · exact .inl h
  · refine .inr ⟨b, off, cap, h1, h2, h3, h4, fun j hl => ?_⟩
    refine h5 j _ ?_
    rw [flatI, List.getElem?_map, List.getElem?_eq_getElem hl, List.getD_eq_getElem?_getD, List.getElem?_eq_getElem hl]
    rfl
/-- append(s, t...) on integers inside a drawn region; the new value written out. -/
theorem ints_step (w : World) {ops : Array Oper} {o : Oper} {a : Act} {K : Act → World → Prop} {Q : Exit → Act → World → Prop} {E : Prop} (hg : o.guard = none) (s x : Operand)
    (ho : o.op = .call { callee := .builtin .append, args := #[s, x], argTypes := #[24, 24] }) (base : Nat) (v : Value) (l : List Int) (hs : a.eval s = v) (hown : OwnI base w v l)
    (M : Nat → Prop) (u : Value) (m : List Int) (hx : a.eval x = u) (hrd : RdI M w u m) (n : Nat) (hn : l.length + m.length = n) (hlen : n ≤ 17592186044416) (hbase : base ≤ w.heap.size)
    (h : ∀ p q w', OwnI base w' (.slice p n q) (l ++ m) → w.grownBy w' v.ownBlock → ((Value.slice p n q).ownBlock = v.ownBlock ∨ (Value.slice p n q).ownBlock = some w.heap.size) → K (a.put o.dst (.slice p n q)) w') :
    if Region.wanted o (yielded ops a.tmps) = true then Oper.wp Tryd.prog o a w K Q else E := by
  subst hn
  refine rows_step (enc := iCells) (k := 1) w (fun _ => rfl) (by decide) Tryd.underlying24 infoInt rfl hg s x ho base v l hs (ownI_iff.2 hown) M u m hx hrd.rdE (fun y hy u hu => ?_) (by omega) (by omega) hbase (fun v' w' h1 h2 h3 => ?_)
  · simp only [iCells, List.mem_singleton] at hu
    rw [hu]; rfl
  · obtain ⟨p, q, hv⟩ := h1.form
    rw [List.length_append] at hv
    subst hv
    exact h p q w' (ownI_iff.1 h1) h2 h3

end Go.Proofs.YtgpliiepoimcbaaDoor
end
section
/- The walks of invariant: inside, formed, ordered; the reference's in, label. How a dump lies. -/
namespace Go.Proofs.YtgpliiepoimcbaaDoor
open Go.RowKit
set_option maxRecDepth 100000

/-- A link: two ids and a reason. -/
structure Lnk where
  a : Int
  b : Int
  why : Int
def lkCells (x : Lnk) : List Value := [.int .i64 x.a, .int .i64 x.b, .int .i64 x.why]
theorem lkLen (x : Lnk) : (lkCells x).length = 3 := rfl
/-- A dump: its nodes (with the slices that hold their args), links, roots. -/
structure Dmp where
  nodes : List (Node × Value)
  links : List Lnk
  roots : List Int
structure RdD (M : Nat → Prop) (w : World) (sN sL sR : Value) (d : Dmp) : Prop where
  nodes : RdN M w sN d.nodes
  links : RdE lkCells M w sL d.links
  roots : RdI M w sR d.roots
theorem RdD.fr {N M : Nat → Prop} {w w' : World} {sN sL sR : Value} {d : Dmp} (h : RdD N w sN sL sR d) (hf : Fr M w w') (hm : ∀ k, k < w.heap.size → M k → N k) : RdD N w' sN sL sR d := ⟨h.nodes.fr hf hm, h.links.fr hf hm, h.roots.fr hf hm⟩
theorem RdD.step {N : Nat → Prop} {w w' : World} {sN sL sR : Value} {d : Dmp} (h : RdD N w sN sL sR d) (hf : Fr NoB w w') : RdD N w' sN sL sR d := h.fr hf (fun _ _ h => h.elim)
abbrev dumpV (sN sL sR : Value) : Value := .agg #[sN, sL, sR]
abbrev dumpCells (sN sL sR : Value) : Array Value := #[sN, sL, sR]

def formedS (n : Node) : Bool := decide (0 ≤ ariS n.op) && !patS n.op && decide ((n.args.length : Int) = ariS n.op) && (if n.op = 1 then (n.val == 0) && nameS n.name else n.name.toList.isEmpty && (n.val == 0 || n.op == 2 || n.op == 21))

set_option maxHeartbeats 2000000 in
theorem formed_any (M : Nat → Prop) (n : Node) (v : Value) (w : World) (h : RdI M w v n.args) : Calls Tryd.prog 48 #[nodeV n v] w fun e w' => e = .returned (.bool (formedS n)) ∧ Fr NoB w w' := by
  obtain ⟨a, cap, rfl⟩ := h.form
  clear h
  unfold nodeV
  go_enter Tryd.func48, Tryd.ntmps48
  go_wp2_with (first
    | (go_at_call 63; refine (arity_any _ _).mono ?_; rintro e w9 ⟨rfl, h9⟩; have h9 := h9.symm; subst h9)
    | (go_at_call 64; refine (pat_any _ _).mono ?_; rintro e w9 ⟨rfl, h9⟩; have h9 := h9.symm; subst h9)
    | (go_at_call 65; refine (name_any _ _).mono ?_; rintro e w9 ⟨rfl, h9⟩; have h9 := h9.symm; subst h9))
  all_goals (go_ret; refine ⟨ret_bool ?_, (Fr.refl NoB w).alloc _⟩)
  all_goals (unfold formedS; first | (simp_all; done) | (simp_all; omega))

theorem inside_id_any (sN sL sR : Value) (a : Option Addr) (n c : Nat) (hN : sN = .slice a n c) (id : Int) (w : World) : Calls Tryd.prog 25 #[dumpV sN sL sR, .int .i64 id] w fun e w' => e = .returned (.bool (decide (0 ≤ id ∧ id < n))) ∧ Fr NoB w w' := by
  subst hN
  unfold dumpV
  go_enter Tryd.func25, Tryd.ntmps25
  go_wp2
  all_goals (go_ret; refine ⟨ret_bool ?_, by first | exact (Fr.refl NoB w).alloc _ | exact Fr.refl _ _⟩)
  all_goals first | (simp; omega) | (simp_all; done) | (simp_all; omega)
theorem refIn_any (sN sL sR : Value) (a : Option Addr) (n c : Nat) (hN : sN = .slice a n c) (x : Lnk) (w : World) : Calls Tryd.prog 24 #[dumpV sN sL sR, .agg #[.int .i64 x.a, .int .i64 x.b, .int .i64 x.why]] w fun e w' => e = .returned (.bool (decide (0 ≤ x.a ∧ 0 ≤ x.b ∧ x.a < n ∧ x.b < n))) ∧ Fr NoB w w' := by
  subst hN
  unfold dumpV
  go_enter Tryd.func24, Tryd.ntmps24
  go_wp2
  all_goals (go_ret; refine ⟨ret_bool ?_, by first | exact ((Fr.refl NoB w).alloc _).alloc _ | exact (Fr.refl NoB w).alloc _ | exact Fr.refl _ _⟩)
  all_goals first | (simp; omega) | (simp_all; done) | (simp_all; omega)

def labelS (a b : Node) : Bool := (a.op == b.op) && (a.width == b.width) && (a.val == b.val) && (a.name.toList == b.name.toList)
theorem label_any (a b : Node) (v u : Value) (w : World) : Calls Tryd.prog 62 #[nodeV a v, nodeV b u] w fun e w' => e = .returned (.bool (labelS a b)) ∧ Fr NoB w w' := by
  unfold nodeV
  go_enter Tryd.func62, Tryd.ntmps62
  go_wp2
  all_goals (go_ret; refine ⟨ret_bool ?_, by first | exact ((Fr.refl NoB w).alloc _).alloc _ | exact (Fr.refl NoB w).alloc _ | exact Fr.refl _ _⟩)
  all_goals (unfold labelS; first | (simp_all; done) | (simp_all; omega))

def ordS (l : List Int) (i : Int) : Bool := l.all (fun a => decide (0 ≤ a ∧ a < i))
theorem ordered_any (M : Nat → Prop) (n : Node) (v : Value) (i : Int) (w : World) (h : RdI M w v n.args) (hl : n.args.length ≤ 1000000) : Calls Tryd.prog 32 #[nodeV n v, .int .i64 i] w fun e w' => e = .returned (.bool (ordS n.args i)) ∧ Fr NoB w w' := by
  have HH := hid (h.fr ((Fr.refl NoB w).alloc (.cells (nodeCells n v) 40)) (fun _ _ h => h.elim))
  obtain ⟨a, cap, rfl⟩ := h.form
  clear h
  unfold nodeV
  go_enter Tryd.func32, Tryd.ntmps32
  go_wp2
  go_loop [10] (fun x => ∃ k : Nat, k ≤ n.args.length ∧ x = .int .i64 k ∧ ordS (n.args.take k) i = true) (fun x => n.args.length - (intOf x).toNat)
  case atStart => exact ⟨0, Nat.zero_le _, rfl, rfl⟩
  case round =>
    obtain ⟨k, hk, rfl, hall⟩ := hrel
    have HALL := hid hall
    clear hall
    by_cases hlt : k < n.args.length
    · rcases HH.out with ⟨_, h2⟩ | ⟨b, off, cap', h1, hb1, _, hb3, hc⟩
      · rw [h2] at hlt; simp at hlt
      simp only [Value.slice.injEq] at h1
      obtain ⟨rfl, h8, rfl⟩ := h1
      clear h8
      obtain ⟨y, hy, hcell⟩ := hc.get hlt
      have hy2 := hy.out
      rw [List.getD_eq_getElem?_getD, List.getElem?_eq_getElem hlt] at hy2
      simp only [Option.getD_some] at hy2
      have HY := hid hy2
      clear hc hy hy2
      by_cases hy0 : y < 0 ∨ i ≤ y
      · go_wp2
        all_goals first
          | (go_ret; refine ⟨ret_bool (Eq.symm ?_), (Fr.refl NoB w).alloc _⟩; unfold ordS; rw [List.all_eq_false]; exact ⟨n.args[k], List.getElem_mem _, by rw [HY.out]; simp; omega⟩)
          | (exfalso; omega)
      · go_wp2
        all_goals first
          | (exfalso; omega)
          | skip
        go_round
        case rel => exact ⟨k + 1, by omega, by go_num, by
          have := HALL.out
          unfold ordS at this ⊢
          rw [List.take_add_one, List.all_append, this, List.getElem?_eq_getElem hlt]
          simp [HY.out]; omega⟩
        case measure => simp [intOf]; omega
    · obtain rfl : k = n.args.length := by omega
      go_wp2
      go_ret
      have := HALL.out
      rw [List.take_length] at this
      exact ⟨ret_bool this.symm, (Fr.refl NoB w).alloc _⟩

end Go.Proofs.YtgpliiepoimcbaaDoor
end
