/- The walks of the reference's Compare and Same of nodes. -/
import Derived.Test.YtkifedleajacpaaDoorCmpN
namespace Go.Proofs.YtkifedleajacpaaDoor
open Go.RowKit

def sgnB (x : Bool) : Int := if x = true then -1 else 1

theorem sign_any (x : Bool) (w : World) : Calls Tryd.prog 44 #[.bool x, .bool true] w fun e w' => e = .returned (.int .i64 (sgnB x)) ∧ w' = w := by
  cases x <;>
  · go_enter Tryd.func44, Tryd.ntmps44
    go_wp2
    go_ret
    exact ⟨rfl, rfl⟩

theorem cmpI_of_ne {a b : Int} (h : a ≠ b) : sgnB (decide (a < b)) = cmpI a b := by
  unfold cmpI sgnB
  by_cases h1 : a < b
  · simp [h1]
  · rw [if_neg (by simpa using h1), if_neg h1, if_pos (by omega)]
theorem cmpB_of_ne {a b : ByteArray} (h : (a.toList == b.toList) = false) : sgnB (Op.bytesLess a.toList b.toList) = cmpB a b := by
  unfold cmpB sgnB
  cases Op.bytesLess a.toList b.toList <;> simp [h]

set_option maxRecDepth 100000 in
set_option maxHeartbeats 1000000 in
theorem refCompare_any (M : Nat → Prop) (a b : Node) (v u : Value) (w : World) (h : RdI M w v a.args) (h' : RdI M w u b.args) (hl : a.args.length ≤ 1000000) (_hm : b.args.length ≤ 1000000) :
    Calls Tryd.prog 22 #[nodeV a v, nodeV b u] w fun e w' => e = .returned (.int .i64 (nodeCmp a b)) ∧ Fr NoB w w' := by
  obtain ⟨a1, cap, rfl⟩ := h.form
  obtain ⟨a2, cap', rfl⟩ := h'.form
  have hF : Hid (∀ W, Fr NoB ((w.alloc (.cells (nodeCells a (.slice a1 a.args.length cap)) 26)).alloc (.cells (nodeCells b (.slice a2 b.args.length cap')) 26)) W → Fr NoB w W) := fun W hf => (((Fr.refl NoB w).alloc _).alloc _).step hf
  have HW := hid (show ∀ (W : World), Fr NoB w W → RdI M W (.slice a1 a.args.length cap) a.args ∧ RdI M W (.slice a2 b.args.length cap') b.args from fun W hf => ⟨h.fr hf (fun _ _ h => h.elim), h'.fr hf (fun _ _ h => h.elim)⟩)
  clear h h'
  unfold nodeV
  by_cases e1 : a.op = b.op
  case neg =>
    have b1 : (a.op != b.op) = true := by simpa using e1
    have hr : Hid (sgnB (decide (a.op < b.op)) = nodeCmp a b) := by
      rw [cmpI_of_ne e1, nodeCmp, orI, if_neg (fun h => e1 (cmpI_zero.1 h))]; rfl
    clear e1
    go_enter Tryd.func22, Tryd.ntmps22
    go_wp2_with (go_at_call 44; refine (sign_any _ _).mono ?_; rintro e w' ⟨rfl, rfl⟩)
    go_ret
    exact ⟨ret_int hr.out, ((Fr.refl NoB w).alloc _).alloc _⟩
  have b1 : (a.op != b.op) = false := by simpa using e1
  by_cases e2 : a.width = b.width
  case neg =>
    have b2 : (a.width != b.width) = true := by simpa using e2
    have hr : Hid (sgnB (decide (a.width < b.width)) = nodeCmp a b) := by
      rw [cmpI_of_ne e2, nodeCmp, orI, if_pos (cmpI_zero.2 e1), orI, if_neg (fun h => e2 (cmpI_zero.1 h))]; rfl
    clear e1 e2
    go_enter Tryd.func22, Tryd.ntmps22
    go_wp2_with (go_at_call 44; refine (sign_any _ _).mono ?_; rintro e w' ⟨rfl, rfl⟩)
    go_ret
    exact ⟨ret_int hr.out, ((Fr.refl NoB w).alloc _).alloc _⟩
  have b2 : (a.width != b.width) = false := by simpa using e2
  by_cases e3 : a.val = b.val
  case neg =>
    have b3 : (a.val != b.val) = true := by simpa using e3
    have hr : Hid (sgnB (decide (a.val < b.val)) = nodeCmp a b) := by
      rw [cmpI_of_ne e3, nodeCmp, orI, if_pos (cmpI_zero.2 e1), orI, if_pos (cmpI_zero.2 e2), orI, if_neg (fun h => e3 (cmpI_zero.1 h))]; rfl
    clear e1 e2 e3
    go_enter Tryd.func22, Tryd.ntmps22
    go_wp2_with (go_at_call 44; refine (sign_any _ _).mono ?_; rintro e w' ⟨rfl, rfl⟩)
    go_ret
    exact ⟨ret_int hr.out, ((Fr.refl NoB w).alloc _).alloc _⟩
  have b3 : (a.val != b.val) = false := by simpa using e3
  by_cases e4 : a.name = b.name
  case neg =>
    have b4 : (a.name.toList == b.name.toList) = false := by simpa using fun h => e4 (toList_inj h)
    have hr : Hid (sgnB (Op.bytesLess a.name.toList b.name.toList) = nodeCmp a b) := by
      rw [cmpB_of_ne b4, nodeCmp, orI, if_pos (cmpI_zero.2 e1), orI, if_pos (cmpI_zero.2 e2), orI, if_pos (cmpI_zero.2 e3), orI, if_neg (fun h => e4 (cmpB_zero.1 h))]; rfl
    clear e1 e2 e3 e4
    go_enter Tryd.func22, Tryd.ntmps22
    go_wp2_with (go_at_call 44; refine (sign_any _ _).mono ?_; rintro e w' ⟨rfl, rfl⟩)
    go_ret
    exact ⟨ret_int hr.out, ((Fr.refl NoB w).alloc _).alloc _⟩
  have b4 : (a.name.toList == b.name.toList) = true := by simp [e4]
  by_cases e5 : a.args.length = b.args.length
  case neg =>
    have b5 : ((a.args.length : Int) != (b.args.length : Int)) = true := by rw [bne_iff_ne]; omega
    have hr : Hid (sgnB (decide (a.args.length < b.args.length)) = nodeCmp a b) := by
      have := cmpI_of_ne (a := a.args.length) (b := b.args.length) (by omega)
      rw [nodeCmp, orI, if_pos (cmpI_zero.2 e1), orI, if_pos (cmpI_zero.2 e2), orI, if_pos (cmpI_zero.2 e3), orI, if_pos (cmpB_zero.2 e4), orI, if_neg (fun h => e5 (by have := cmpI_zero.1 h; omega)), ← this]
      simp only [Int.ofNat_lt]
      exact trivial
    clear e1 e2 e3 e4 e5
    go_enter Tryd.func22, Tryd.ntmps22
    go_wp2_with (go_at_call 44; refine (sign_any _ _).mono ?_; rintro e w' ⟨rfl, rfl⟩)
    go_ret
    exact ⟨ret_int hr.out, ((Fr.refl NoB w).alloc _).alloc _⟩
  have b5 : ((a.args.length : Int) != (b.args.length : Int)) = false := by rw [bne_eq_false_iff_eq]; omega
  have hr : Hid (cmpL a.args b.args = nodeCmp a b) := by
    rw [nodeCmp, orI, if_pos (cmpI_zero.2 e1), orI, if_pos (cmpI_zero.2 e2), orI, if_pos (cmpI_zero.2 e3), orI, if_pos (cmpB_zero.2 e4), orI, if_pos (cmpI_zero.2 (by omega)), orI]
    split
    · rename_i h; rw [h]; rfl
    · rfl
  have E5 := hid e5
  have q5 : a.args.length ≤ b.args.length := by omega
  have q6 : b.args.length ≤ a.args.length := by omega
  clear e1 e2 e3 e4 e5
  go_enter Tryd.func22, Tryd.ntmps22
  go_wp2
  go_loopw [5] (fun i wr => ∃ k : Nat, k ≤ a.args.length ∧ i = .int .i64 k ∧ (∀ i, i < k → cmpI (a.args.getD i 0) (b.args.getD i 0) = 0) ∧
    wr.cell? ⟨w.heap.size, 4, none⟩ = some (.slice a1 a.args.length cap) ∧ wr.cell? ⟨w.heap.size + 1, 4, none⟩ = some (.slice a2 b.args.length cap') ∧ Fr NoB w wr) (fun i _ => a.args.length - (intOf i).toNat)
  case atStart => exact ⟨0, Nat.zero_le _, rfl, fun _ h => by omega, by simp, by simp, ((Fr.refl NoB w).alloc _).alloc _⟩
  case round =>
    obtain ⟨k, hk, rfl, hz, c1, c2, hfr⟩ := hrel
    have hz' := hid hz
    clear hz
    obtain ⟨h, h'⟩ := HW.out wr hfr
    have HFR := hid hfr
    clear hfr
    by_cases hlt : k < a.args.length
    · rcases h with ⟨h, h2⟩ | ⟨bb, off, cap2, h, _, _, _, hc⟩
      · rw [h2] at hlt; simp at hlt
      · cases h
        obtain ⟨x, HX, hck⟩ := hc.get hlt
        clear hc
        rcases h' with ⟨h', h2⟩ | ⟨b', off', cap3, h', _, _, _, hc'⟩
        · rw [h2] at q5; simp at q5; rw [q5] at hlt; simp at hlt
        · cases h'
          obtain ⟨y, HY, hck'⟩ := hc'.get (i := k) (by omega)
          clear hc'
          have hltb : k < b.args.length := by omega
          by_cases h0 : x = y
          · have hb : (x != y) = false := by simpa using h0
            have H0 := hid h0
            clear h0
            go_wp2
            refine region_still (by kernel_rfl) (by kernel_rfl) ?_
            repeat still_step
            refine wpStill_nil ?_
            go_wp2
            go_roundw
            case rel => exact ⟨k + 1, by omega, by go_num, fun i hi => by
              by_cases e : i = k
              · subst e; rw [HX.out, HY.out]; exact cmpI_zero.2 H0.out
              · exact hz' i (by omega), c1, c2, HFR.out.drew⟩
            case measure => simp [intOf]; omega
          · have hb : (x != y) = true := by simpa using h0
            have H0 := hid h0
            clear h0
            go_wp2
            refine region_still (by kernel_rfl) (by kernel_rfl) ?_
            repeat still_step
            refine wpStill_nil ?_
            go_wp2
            refine region_still (by kernel_rfl) (by kernel_rfl) ?_
            repeat (first | still_step | still_call (sign_any _ _))
            refine wpStill_nil ?_
            go_wp2
            go_ret
            refine ⟨ret_int ?_, HFR.out.drew.drew⟩
            rw [← hr.out, cmpL_take a.args b.args k hk (by omega) hz', List.drop_eq_getElem_cons hlt, List.drop_eq_getElem_cons hltb, cmpL, ← getD_eq hlt, ← getD_eq hltb, HX.out, HY.out, if_neg (fun h => H0.out (cmpI_zero.1 h)), ← cmpI_of_ne H0.out]
    · go_wp2
      go_ret
      refine ⟨ret_int ?_, HFR.out⟩
      rw [← hr.out, cmpL_take a.args b.args k hk (by omega) hz', List.drop_of_length_le (l := a.args) (by omega), List.drop_of_length_le (l := b.args) (by omega)]; rfl

end Go.Proofs.YtkifedleajacpaaDoor
