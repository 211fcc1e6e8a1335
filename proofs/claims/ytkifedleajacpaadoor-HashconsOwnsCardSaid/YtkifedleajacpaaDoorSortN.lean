/- slices.SortFunc on a row of nodes, with hashcons.Compare. -/
import Derived.Shelf.SlSortCmp.NoneTotal
import Derived.Test.YtkifedleajacpaaDoorSortL
import Derived.Test.YtkifedleajacpaaDoorNodes
import Derived.Test.YtkifedleajacpaaDoorCmpN
namespace Go.Proofs.YtkifedleajacpaaDoor
open Go.Shelf Go.RowKit Go.Lib Go.Sort
set_option maxRecDepth 100000

theorem grow3 (w : World) (a b c : Obj) : (((w.alloc a).alloc b).drew).alloc c = grow (w.drewN 1) #[a, b, c] := by
  rw [alloc_eq_grow, alloc_eq_grow, alloc_eq_grow]
  show grow (grow (grow (w.drewN 1) #[a]) #[b]) #[c] = _
  rw [grow_grow, grow_grow]
  rfl

set_option maxHeartbeats 800000 in
theorem hcCompare_grow (M : Nat → Prop) (a b : Node) (v u : Value) (w : World) (h : RdI M w v a.args) (h' : RdI M w u b.args) (hl : a.args.length ≤ 1000000) (hm : b.args.length ≤ 1000000) :
    Calls Tryd.prog 21 #[nodeV a v, nodeV b u] w fun e w' => e = .returned (.int .i64 (nodeCmp a b)) ∧ ∃ q os', w' = grow (w.drewN q) os' := by
  obtain ⟨a1, cap, rfl⟩ := h.form
  obtain ⟨a2, cap', rfl⟩ := h'.form
  unfold nodeV
  have hW : ∀ (W : World), Fr NoB w W → RdI M W (.slice a1 a.args.length cap) a.args ∧ RdI M W (.slice a2 b.args.length cap') b.args := fun W hf => ⟨h.fr hf (fun _ _ h => h.elim), h'.fr hf (fun _ _ h => h.elim)⟩
  have HW := hid hW
  clear hW h h'
  go_enter Tryd.func21, Tryd.ntmps21
  go_wp2
  refine region_tail 32 (by kernel_rfl) (by kernel_rfl) ?_
  simp only [List.take_succ_cons, List.take_zero, List.drop_succ_cons, List.drop_zero]
  repeat (first
    | still_step
    | still_call (cmpOp_any _ _ _)
    | still_call (cmpI_any _ _ _)
    | still_call (cmpU_any _ _ _)
    | still_call (cmpB_any _ _ _)
    | still_call (slicesCompare_any M _ _ _ _ _ (HW.out _ (by exact (((Fr.refl NoB w).alloc _).alloc _).drew)).1 (HW.out _ (by exact (((Fr.refl NoB w).alloc _).alloc _).drew)).2 hl hm))
  refine wpStill_nil ?_
  go_wp2_with fail
  refine (or_any NoB _ [cmpI a.op b.op, cmpI a.width b.width, cmpI a.val b.val, cmpB a.name b.name, cmpI a.args.length b.args.length, cmpL a.args b.args] _ ?_ (by simp)).mono ?_
  · refine RdI.drew (rdI_lit' (M := NoB) ?_ ?_ ?_ (fun h => h))
    · rfl
    · rfl
    · simp
  rintro e w' ⟨rfl, rfl⟩
  go_wp2
  go_ret
  exact ⟨rfl, 1, _, grow3 _ _ _ _⟩

/-- A sort's world: only the row's block is another. -/
theorem sort_fr {α : Type} [Inhabited α] (enc : α → List Value) (k : Nat) (w : World) (blk off n : Nat) (d : Array α) (os : Array Obj) : Fr (fun b => b = blk) w (sortWorldK enc k w blk off n d os) where
  os := rfl
  tape := rfl
  output := rfl
  size := by simp [sortWorldK, grow, putRowK, putRow, mapBlock, Sort.ahead]
  block := fun b hb hn => by
    have hn : ¬ b = blk := hn
    simp only [sortWorldK, grow, putRowK, putRow, mapBlock, Sort.ahead]
    rw [Array.getElem?_append_left (by simpa using hb), Array.getElem?_modify, if_neg (fun h => hn h.symm)]

/-- A node that reads, with few args: what the sort moves. -/
abbrev GoodN (M : Nat → Prop) (w : World) : Type := { x : Node × Value // RdI M w x.2 x.1.args ∧ x.1.args.length ≤ 1000000 }
def encN {M : Nat → Prop} {w : World} (x : GoodN M w) : List Value := nsCells x.1
def cfN {M : Nat → Prop} {w : World} (x y : GoodN M w) : Int := nodeCmp x.1.1 y.1.1
theorem ltN {M : Nat → Prop} {w : World} (x y : GoodN M w) : ltOf cfN x y = decide (nodeCmp x.1.1 y.1.1 < 0) := rfl
theorem swoN (M : Nat → Prop) (w : World) : SWO (ltOf (cfN (M := M) (w := w))) where
  irrefl x := by rw [ltN, nodeCmp_zero.2 rfl]; rfl
  trans x y z h1 h2 := by
    rw [ltN] at *
    have h1 := of_decide_eq_true h1
    have h2 := of_decide_eq_true h2
    exact decide_eq_true ((nodeCmp_tr _ _ _ (by omega) (by omega)).2 (.inl h1))
  ntrans x y z h1 h2 := by
    rw [ltN] at *
    have h1 := of_decide_eq_false h1
    have h2 := of_decide_eq_false h2
    refine decide_eq_false fun h3 => ?_
    have h4 := nodeCmp_neg x.1.1 y.1.1
    have h5 := nodeCmp_neg y.1.1 z.1.1
    have h6 := nodeCmp_neg x.1.1 z.1.1
    have := (nodeCmp_tr z.1.1 y.1.1 x.1.1 (by omega) (by omega)).1
    omega

theorem cmpLaysN (M : Nat → Prop) (w : World) [Inhabited (GoodN M w)] (blk off size : Nat) (hM : M blk) : CmpLays Tryd.prog 21 #[] (encN (M := M) (w := w)) 5 cfN blk off size w := by
  intro m os dk _ x y
  have hf : Fr (fun b => b = blk) w (sortWorldK encN 5 w blk off m dk os) := sort_fr _ _ _ _ _ _ _ _
  exact hcCompare_grow M x.1.1 y.1.1 x.1.2 y.1.2 _ (x.2.1.fr hf (fun b _ hb => by rw [show b = blk from hb]; exact hM)) (y.2.1.fr hf (fun b _ hb => by rw [show b = blk from hb]; exact hM)) x.2.2 y.2.2

end Go.Proofs.YtkifedleajacpaaDoor
