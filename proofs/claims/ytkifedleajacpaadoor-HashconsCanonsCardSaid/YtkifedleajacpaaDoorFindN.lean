/- The walks of the reference's Find and Canon. -/
import Derived.Test.YtkifedleajacpaaDoorRefN
namespace Go.Proofs.YtkifedleajacpaaDoor
open Go.RowKit
set_option maxRecDepth 100000

/-- The entry of a number in a list, or the number. -/
def tfind (l : List Int) (x : Int) : Int := if 0 ≤ x ∧ x < l.length then l.getD x.toNat 0 else x

theorem find_any (M : Nat → Prop) (v : Value) (l : List Int) (x : Int) (w : World) (h : RdI M w v l) :
    Calls Tryd.prog 18 #[v, .int .i64 x] w fun e w' => e = .returned (.int .i64 (tfind l x)) ∧ w' = w := by
  by_cases h1 : x < 0
  · have HV := hid (show tfind l x = x by unfold tfind; rw [if_neg (by omega)])
    obtain ⟨a, cap, rfl⟩ := h.form
    clear h
    go_enter Tryd.func18, Tryd.ntmps18
    go_wp2
    go_ret
    exact ⟨ret_int HV.out.symm, rfl⟩
  · by_cases h2 : (l.length : Int) ≤ x
    · have HV := hid (show tfind l x = x by unfold tfind; rw [if_neg (by omega)])
      obtain ⟨a, cap, rfl⟩ := h.form
      clear h
      go_enter Tryd.func18, Tryd.ntmps18
      go_wp2
      go_ret
      exact ⟨ret_int HV.out.symm, rfl⟩
    · obtain ⟨k, rfl⟩ : ∃ k : Nat, x = k := ⟨x.toNat, by omega⟩
      have hk : k < l.length := by omega
      have HV := hid (show tfind l k = l.getD k 0 by unfold tfind; rw [if_pos (by omega)]; rfl)
      rcases h with ⟨_, h⟩ | ⟨b, off, cap, h, _, _, _, hc⟩
      · rw [h] at hk; simp at hk
      · subst h
        obtain ⟨y, HY, hck⟩ := hc.get hk
        clear hc h1 h2
        go_enter Tryd.func18, Tryd.ntmps18
        go_wp2
        go_ret
        exact ⟨ret_int (by rw [HV.out, HY.out]), rfl⟩

set_option maxHeartbeats 1000000 in
theorem refCanon_any (M N : Nat → Prop) (n : Node) (v t : Value) (l : List Int) (w : World) (h : RdI M w v n.args) (ht : RdI N w t l) (hl : n.args.length ≤ 17592186044416) :
    Calls Tryd.prog 19 #[nodeV n v, t] w fun e w' => ∃ a' c', e = .returned (nodeV { n with args := n.args.map (tfind l) } (.slice a' n.args.length c')) ∧ OwnI w.heap.size w' (.slice a' n.args.length c') (n.args.map (tfind l)) ∧ Fr NoB w w' := by
  obtain ⟨a, cap, rfl⟩ := h.form
  obtain ⟨at', tcap, rfl⟩ := ht.form
  have h' := hid (h.fr (((Fr.refl NoB w).alloc (.cells (nodeCells n (.slice a n.args.length cap)) 26)).alloc (.cells #[.int .i64 0, .int .i64 0, .int .u64 0, .string ⟨#[]⟩, .slice none 0 0] 26)) (fun _ _ h => h.elim))
  have HT := hid (show ∀ W, Fr (fun k => w.heap.size ≤ k) w W → RdI NoB W (.slice at' l.length tcap) l from fun W hW => (ht.weaken (M := fun k => w.heap.size ≤ k) (fun k hk h => by omega)) |>.fr hW (fun _ _ h => h) |>.weaken (fun _ _ h => h.elim))
  clear h ht
  unfold nodeV
  go_enter Tryd.func19, Tryd.ntmps19
  go_wp2_with fail
  refine (refCopy_any M n _ _ h'.out hl).mono ?_
  rintro e w1 ⟨a', c', rfl, ho, hf⟩
  unfold nodeV
  have HB := hid (hf.at (b := w.heap.size) (fun h => h) (at_old (at_new w _) _))
  have HR := hid (hf.at (b := w.heap.size + 1) (fun h => h) (at_new' (by simp)))
  obtain ⟨c0, c1, c2, c3, c4, cf, cl⟩ := five_of HB.out
  have HF1 : Hid (Fr NoB w w1) := (((Fr.refl NoB w).alloc _).alloc _).step hf
  have HO1 : Hid (OwnI (w.heap.size + 2) w1 (.slice a' n.args.length c') n.args) := OwnI.base ho (by simp)
  clear hf ho
  go_wp2
  go_loopw [5] (fun i wr => ∃ k : Nat, k ≤ n.args.length ∧ i = .int .i64 k ∧ OwnI (w.heap.size + 2) wr (.slice a' n.args.length c') ((n.args.take k).map (tfind l) ++ n.args.drop k) ∧
      wr.heap[w.heap.size]? = some (.cells (nodeCells n (.slice a' n.args.length c')) 26 (0, 0)) ∧
      wr.heap[w.heap.size + 1]? = some (.cells #[.int .i64 0, .int .i64 0, .int .u64 0, .string ⟨#[]⟩, .slice none 0 0] 26 (0, 0)) ∧ Fr NoB w wr) (fun i _ => n.args.length - (intOf i).toNat)
  case atStart =>
    have hs : Fr (fun k => k = w.heap.size) w1 _ := Fr.setCell (M := fun b => b = w.heap.size) (Fr.setCell (M := fun b => b = w.heap.size) (Fr.setCell (M := fun b => b = w.heap.size) (Fr.setCell (M := fun b => b = w.heap.size) (Fr.setCell (M := fun b => b = w.heap.size) (Fr.refl _ w1) (p := ⟨w.heap.size, 0, none⟩) (fun _ => rfl) (.int .i64 n.op)) (p := ⟨w.heap.size, 1, none⟩) (fun _ => rfl) (.int .i64 n.width)) (p := ⟨w.heap.size, 2, none⟩) (fun _ => rfl) (.int .u64 n.val)) (p := ⟨w.heap.size, 3, none⟩) (fun _ => rfl) (.string n.name)) (p := ⟨w.heap.size, 4, none⟩) (fun _ => rfl) (.slice a' n.args.length c')
    refine ⟨0, Nat.zero_le _, rfl, ?_, ?_, ?_, ?_⟩
    · exact OwnI.fr HO1.out hs (fun k hk => by have := (World.ownsRow.lt HO1.out k hk).1; omega)
    · exact set_at (set_at (set_at (set_at (set_at HB.out 0 _) 1 _) 2 _) 3 _) 4 _
    · exact hs.at (fun h => by omega) HR.out
    · exact HF1.out.trans' hs (fun k hk h => by omega)
  case round =>
    obtain ⟨k, hk, rfl, ho, hb, hr, hfr⟩ := hrel
    obtain ⟨c0, c1, c2, c3, c4, cf, cl⟩ := five_of hb
    have HB2 := hid hb
    have HR2 := hid hr
    have HF2 := hid hfr
    clear hb hr hfr
    by_cases hlt : k < n.args.length
    · rcases OwnI.form' ho with ⟨h1, h2⟩ | ⟨g, cap2, h1, hg1, hg2, hcap⟩
      · have := congrArg List.length h2; rw [take_map_len] at this; simp only [List.length_nil] at this; omega
      · simp only [Value.slice.injEq] at h1
        obtain ⟨rfl, h1, rfl⟩ := h1
        clear h1
        have hck := OwnI.cell ho (i := k) (by rw [take_map_len]; exact hlt)
        rw [take_map_get _ _ _ hlt] at hck
        obtain ⟨x, HX⟩ : ∃ x, Hid (n.args.getD k 0 = x) := ⟨_, rfl⟩
        rw [HX.out] at hck
        have hfz := OwnI.frozen ho k
        have HO2 := hid ho
        clear ho
        have hne1 : g ≠ w.heap.size := by omega
        have hne2 : w.heap.size ≠ g := by omega
        have hne3 : g ≠ w.heap.size + 1 := by omega
        have HTw := hid (HT.out wr (HF2.out.mono (fun _ _ h => h.elim)))
        go_wp2_with fail
        refine region_tail 11 (by kernel_rfl) (by kernel_rfl) ?_
        simp only [List.take_succ_cons, List.take_zero, List.drop_succ_cons, List.drop_zero]
        repeat (first
          | still_step
          | still_call (find_any NoB _ l x _ HTw.out.drew))
        refine wpStill_nil ?_
        go_wp2
        go_roundw
        case rel =>
          have hs : Fr (fun b => b = g) wr.drew (wr.drew.setCell ⟨g, k, none⟩ (.int .i64 (tfind l x))) := Fr.setCell (M := fun b => b = g) (Fr.refl _ _) (p := ⟨g, k, none⟩) (fun _ => rfl) _
          refine ⟨k + 1, by omega, by go_num, ?_, ?_, ?_, ?_⟩
          · have h9 := OwnI.stored (OwnI.drew HO2.out) k (tfind l x)
            rw [← HX.out, take_map_set _ _ _ hlt] at h9
            rw [← HX.out]; exact h9
          · exact set_other HB2.out (by simp; omega) _
          · exact set_other HR2.out (by simp; omega) _
          · exact HF2.out.drew.trans' hs (fun b hb h => by have h2 : b = g := h; omega)
        case measure => simp [intOf]; omega
    · obtain ⟨r0, r1, r2, r3, r4, rf, rl⟩ := five_of HR2.out
      obtain rfl : k = n.args.length := by omega
      go_wp2
      refine bodyPost_ret (v := nodeV { n with args := n.args.map (tfind l) } (.slice a' n.args.length c')) (by simp [results, Tryd.results19, go_sem, r0, r1, r2, r3, r4, nodeV]) rfl ?_
      have hs : Fr (fun b => b = w.heap.size + 1) wr _ := Fr.setCell (M := fun b => b = w.heap.size + 1) (Fr.setCell (M := fun b => b = w.heap.size + 1) (Fr.setCell (M := fun b => b = w.heap.size + 1) (Fr.setCell (M := fun b => b = w.heap.size + 1) (Fr.setCell (M := fun b => b = w.heap.size + 1) (Fr.refl _ wr) (p := ⟨w.heap.size + 1, 0, none⟩) (fun _ => rfl) (.int .i64 n.op)) (p := ⟨w.heap.size + 1, 1, none⟩) (fun _ => rfl) (.int .i64 n.width)) (p := ⟨w.heap.size + 1, 2, none⟩) (fun _ => rfl) (.int .u64 n.val)) (p := ⟨w.heap.size + 1, 3, none⟩) (fun _ => rfl) (.string n.name)) (p := ⟨w.heap.size + 1, 4, none⟩) (fun _ => rfl) (.slice a' n.args.length c')
      refine ⟨a', c', rfl, ?_, ?_⟩
      · refine OwnI.base (B := w.heap.size + 2) (OwnI.fr (l := n.args.map (tfind l)) ?_ hs (fun b hb => by have := (World.ownsRow.lt ho b hb).1; omega)) (by omega)
        have e : (n.args.take n.args.length).map (tfind l) ++ n.args.drop n.args.length = n.args.map (tfind l) := by simp
        rw [← e]; exact ho
      · exact HF2.out.trans' hs (fun b hb h => by omega)
end Go.Proofs.YtkifedleajacpaaDoor
