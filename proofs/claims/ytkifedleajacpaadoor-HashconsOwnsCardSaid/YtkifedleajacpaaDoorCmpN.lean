/- The walks of hashcons.Compare and Same, and of the reference's Compare and Same. -/
import Derived.Test.YtkifedleajacpaaDoorCmp
import Derived.KernelRfl
namespace Go.Proofs.YtkifedleajacpaaDoor
open Go.RowKit

theorem region_tail {P : Program} {id : Nat} {Q : Exit → Act → World → Prop} {a : Act} {w : World} {l : List Oper} (n : Nat) (hm : P.follows .mixedOrders = true) (hB : Region.lexTailB .any l.toArray n = true)
    (h : wpStill P l.toArray w.drew (fun a' => wpList P l.toArray Q (l.drop n) a' w.drew) (l.take n) a) : (Code.region id l.toArray true).wp P Q a w := wp_region_still_tail n hm hB h

theorem region_still {P : Program} {id : Nat} {Q : Exit → Act → World → Prop} {a : Act} {w : World} {l : List Oper} (hm : P.follows .mixedOrders = true) (hB : Region.lexB .any l.toArray = true)
    (h : wpStill P l.toArray w.drew (fun a' => Q .normal a' w.drew) l a) : (Code.region id l.toArray true).wp P Q a w := wp_region_still_lit hm hB h

set_option maxRecDepth 100000 in
set_option maxHeartbeats 800000 in
theorem hcCompare_any (M : Nat → Prop) (a b : Node) (v u : Value) (w : World) (h : RdI M w v a.args) (h' : RdI M w u b.args) (hl : a.args.length ≤ 1000000) (hm : b.args.length ≤ 1000000) :
    Calls Tryd.prog 21 #[nodeV a v, nodeV b u] w fun e w' => e = .returned (.int .i64 (nodeCmp a b)) ∧ Fr NoB w w' := by
  obtain ⟨a1, cap, rfl⟩ := h.form
  obtain ⟨a2, cap', rfl⟩ := h'.form
  unfold nodeV
  have hW : ∀ (W : World), Fr NoB w W → RdI M W (.slice a1 a.args.length cap) a.args ∧ RdI M W (.slice a2 b.args.length cap') b.args := fun W hf => ⟨h.fr hf (fun _ _ h => h.elim), h'.fr hf (fun _ _ h => h.elim)⟩
  have HW := hid hW
  clear hW h h'
  go_enter Tryd.func21, Tryd.ntmps21
  go_wp2
  refine region_tail 32 (by kernel_rfl) (by kernel_rfl) ?_
  simp only [List.take_succ_cons, List.take_zero, List.drop_succ_cons, List.drop_zero]
  repeat (first
    | still_step
    | still_call (cmpOp_any _ _ _)
    | still_call (cmpI_any _ _ _)
    | still_call (cmpU_any _ _ _)
    | still_call (cmpB_any _ _ _)
    | still_call (slicesCompare_any M _ _ _ _ _ (HW.out _ (by exact (((Fr.refl NoB w).alloc _).alloc _).drew)).1 (HW.out _ (by exact (((Fr.refl NoB w).alloc _).alloc _).drew)).2 hl hm))
  refine wpStill_nil ?_
  go_wp2_with fail
  refine (or_any NoB _ [cmpI a.op b.op, cmpI a.width b.width, cmpI a.val b.val, cmpB a.name b.name, cmpI a.args.length b.args.length, cmpL a.args b.args] _ ?_ (by simp)).mono ?_
  · refine RdI.drew (rdI_lit' (M := NoB) ?_ ?_ ?_ (fun h => h))
    · rfl
    · rfl
    · simp
  rintro e w' ⟨rfl, rfl⟩
  go_wp2
  go_ret
  exact ⟨rfl, (((Fr.refl NoB w).alloc _).alloc _).drew.alloc _⟩

theorem hcSame_any (M : Nat → Prop) (a b : Node) (v u : Value) (w : World) (h : RdI M w v a.args) (h' : RdI M w u b.args) (hl : a.args.length ≤ 1000000) (hm : b.args.length ≤ 1000000) :
    Calls Tryd.prog 23 #[nodeV a v, nodeV b u] w fun e w' => e = .returned (.bool (nodeCmp a b == 0)) ∧ Fr NoB w w' := by
  have hW : ∀ (W : World), Fr NoB w W → RdI M W v a.args ∧ RdI M W u b.args := fun W hf => ⟨h.fr hf (fun _ _ h => h.elim), h'.fr hf (fun _ _ h => h.elim)⟩
  have HW := hid hW
  clear hW h h'
  have hF : Hid (∀ W, Fr NoB ((w.alloc (.cells (nodeCells a v) 26)).alloc (.cells (nodeCells b u) 26)) W → Fr NoB w W) := fun W hf => (((Fr.refl NoB w).alloc _).alloc _).step hf
  unfold nodeV
  go_enter Tryd.func23, Tryd.ntmps23
  go_wp2_with (go_at_call 21; refine (hcCompare_any M a b v u _ (HW.out _ (by exact ((Fr.refl NoB w).alloc _).alloc _)).1 (HW.out _ (by exact ((Fr.refl NoB w).alloc _).alloc _)).2 hl hm).mono ?_; rintro e w1 ⟨rfl, hf⟩)
  go_ret
  exact ⟨rfl, hF.out _ hf⟩

end Go.Proofs.YtkifedleajacpaaDoor
