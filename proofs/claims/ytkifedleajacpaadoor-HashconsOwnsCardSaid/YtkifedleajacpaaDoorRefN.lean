/- The walks of the reference's Same, Copy, Find, Canon. -/
import Derived.Test.YtkifedleajacpaaDoorRefCmp
import Derived.Test.YtkifedleajacpaaDoorCanon
namespace Go.Proofs.YtkifedleajacpaaDoor
open Go.RowKit
set_option maxRecDepth 100000

theorem refSame_any (M : Nat → Prop) (a b : Node) (v u : Value) (w : World) (h : RdI M w v a.args) (h' : RdI M w u b.args) (hl : a.args.length ≤ 1000000) (hm : b.args.length ≤ 1000000) :
    Calls Tryd.prog 14 #[nodeV a v, nodeV b u] w fun e w' => e = .returned (.bool (nodeCmp a b == 0)) ∧ Fr NoB w w' := by
  have HW := hid (show ∀ (W : World), Fr NoB w W → RdI M W v a.args ∧ RdI M W u b.args from fun W hf => ⟨h.fr hf (fun _ _ h => h.elim), h'.fr hf (fun _ _ h => h.elim)⟩)
  clear h h'
  have hF : Hid (∀ W, Fr NoB ((w.alloc (.cells (nodeCells a v) 26)).alloc (.cells (nodeCells b u) 26)) W → Fr NoB w W) := fun W hf => (((Fr.refl NoB w).alloc _).alloc _).step hf
  unfold nodeV
  go_enter Tryd.func14, Tryd.ntmps14
  go_wp2_with (go_at_call 22; refine (refCompare_any M a b v u _ (HW.out _ (by exact ((Fr.refl NoB w).alloc _).alloc _)).1 (HW.out _ (by exact ((Fr.refl NoB w).alloc _).alloc _)).2 hl hm).mono ?_; rintro e w1 ⟨rfl, hf⟩)
  go_ret
  exact ⟨rfl, hF.out _ hf⟩

theorem refCopy_any (M : Nat → Prop) (n : Node) (v : Value) (w : World) (h : RdI M w v n.args) (hl : n.args.length ≤ 17592186044416) :
    Calls Tryd.prog 15 #[nodeV n v] w fun e w' => ∃ a' c', e = .returned (nodeV n (.slice a' n.args.length c')) ∧ OwnI w.heap.size w' (.slice a' n.args.length c') n.args ∧ Fr NoB w w' := by
  obtain ⟨a, cap, rfl⟩ := h.form
  have h' := hid (h.fr (((Fr.refl NoB w).alloc (.cells (nodeCells n (.slice a n.args.length cap)) 26)).alloc (.cells #[.int .i64 0, .int .i64 0, .int .u64 0, .string ⟨#[]⟩, .slice none 0 0] 26)) (fun _ _ h => h.elim))
  clear h
  unfold nodeV
  have HO : Hid (∀ W, OwnI (w.heap.size + 2) W (.slice none 0 0) []) := fun W => OwnI.nil _ _
  go_enter Tryd.func15, Tryd.ntmps15
  go_wp2_with (at_builtin; refine ap_ints _ rfl _ _ rfl (w.heap.size + 2) (.slice none 0 0) [] rfl (HO.out _) M _ n.args rfl h'.out (by simpa using hl) (by simp) ?_; intro v1 w1 ho hg; obtain ⟨a', c', hv⟩ := ho.form; rw [hv] at ho ⊢; have hf := (Fr.refl NoB _).grown hg (fun k hk => by simp [Value.ownBlock] at hk); obtain ⟨c0, c1, c2, c3, c4, cf, cl⟩ := hf.five (fun h => h) (at_old (at_new w _) _); obtain ⟨r0, r1, r2, r3, r4, rf, rl⟩ := hf.five (b := w.heap.size + 1) (fun h => h) (at_new' (by simp)); have HF := hid hf; have HO2 := hid ho; clear hf ho hg)
  refine bodyPost_ret (v := nodeV n (.slice a' n.args.length c')) (by simp [results, Tryd.results15, go_sem, r0, r1, r2, r3, r4, nodeV]) rfl ?_
  refine ⟨a', c', rfl, OwnI.keep HO2.out ?_ ?_, ?_⟩
  · omega
  · repeat (refine Fr.setCell ?_ (fun _ => by simp <;> omega) _)
    exact Fr.refl _ _
  · repeat (refine Fr.setCell ?_ (fun h => absurd h (by simp)) _)
    exact (((Fr.refl NoB w).alloc _).alloc _).step HF.out

end Go.Proofs.YtkifedleajacpaaDoor
