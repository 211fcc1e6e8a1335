/- EgraphNone: a nil e-graph has no nodes and accepts nothing, for all a and b (and the example of the chapter goes as said). Condition: the listed tables of Go's library hold what the program's text lays in them (the card ties this). -/
import Derived.Test.YtlekoceindepnaaGreatDoorPk8
import Derived.Test.YtlekoceindepnaaGreatDoorCards
import Derived.Test.YtlekoceindepnaaGreatDoorTie
import Derived.SevenTiedAt
set_option linter.all false
namespace Go.Proofs.YtlekoceindepnaaGreatDoor.LawNone
open Go.ChangeShapes Go.WideShapes Go.ChangeAt Go.RowKit
set_option maxRecDepth 100000

set_option maxHeartbeats 8000000 in
theorem walk (a b : Int) (w : World) (ht : Tab w) : Calls Tryz.prog 3 #[.int .i64 a, .int .i64 b] w fun e w' => e = .returned (.bool true) ∧ Fr NoB w w' := by
  have HT := hid ht
  clear ht
  go_enter Tryz.func3, Tryz.ntmps3
  go_wp2_with fail
  refine (leaf18_any _ w).mono ?_
  rintro e w1 ⟨rfl, hf⟩
  have F1 : Hid (Fr NoB w w1) := Fr.step (Fr.refl NoB w) hf
  clear hf
  go_wp2_with fail
  refine (eadd_nil _ ⟨1, 8, 0, ⟨#[97]⟩, []⟩ (.slice none 0 0)).mono ?_
  rintro e w2 ⟨rfl, hf⟩
  have F2 : Hid (Fr NoB w w2) := Fr.step (F1.out) hf
  clear hf F1
  go_wp2_with fail
  refine (eunion_nil _ a b 0).mono ?_
  rintro e w3 ⟨rfl, hf⟩
  have F3 : Hid (Fr NoB w w3) := Fr.step (F2.out) hf
  clear hf F2
  go_wp2_with fail
  refine (enode_nil _ a).mono ?_
  rintro e w4 ⟨rfl, hf⟩
  have F4 : Hid (Fr NoB w w4) := Fr.step (F3.out) hf
  clear hf F3
  go_wp2_with fail
  refine (leaf18_any _ _).mono ?_
  rintro e w5 ⟨rfl, hf⟩
  have F5 : Hid (Fr NoB w w5) := Fr.step (F4.out.alloc _) hf
  clear hf F4
  go_wp2_with fail
  refine (elookup_nil _ ⟨1, 8, 0, ⟨#[97]⟩, []⟩ (.slice none 0 0)).mono ?_
  rintro e w6 ⟨rfl, hf⟩
  have F6 : Hid (Fr NoB w w6) := Fr.step (F5.out) hf
  clear hf F5
  go_wp2_with fail
  refine (epath_nil _ a b).mono ?_
  rintro e w7 ⟨rfl, hf⟩
  have F7 : Hid (Fr NoB w w7) := Fr.step (F6.out) hf
  clear hf F6
  go_wp2_with fail
  refine (edump_nil _).mono ?_
  rintro e w8 ⟨rfl, hf⟩
  have F8 : Hid (Fr NoB w w8) := Fr.step (F7.out) hf
  clear hf F7
  obtain ⟨bd, hbd⟩ : ∃ q, w8.heap.size = q := ⟨_, rfl⟩
  have BX := at_new w8 (.cells #[.slice none 0 0, .slice none 0 0, .slice none 0 0] 43)
  rw [hbd] at BX
  go_wp2_with fail
  refine (erebuild_nil _).mono ?_
  rintro e w9 ⟨rfl, hf⟩
  have F9 : Hid (Fr NoB w w9) := Fr.step (F8.out.alloc _) hf
  have B9 := hid (hf.at (fun e => e) BX)
  clear hf BX F8
  go_wp2_with fail
  refine (edirty_nil _).mono ?_
  rintro e w10 ⟨rfl, hf⟩
  have F10 : Hid (Fr NoB w w10) := Fr.step (F9.out) hf
  have B10 := hid (hf.at (fun e => e) B9.out)
  clear hf B9 F9
  go_wp2_with fail
  refine (efind_nil _ a).mono ?_
  rintro e w11 ⟨rfl, hf⟩
  have F11 : Hid (Fr NoB w w11) := Fr.step (F10.out) hf
  have B11 := hid (hf.at (fun e => e) B10.out)
  clear hf B10 F10
  go_wp2_with fail
  refine (esame_nil _ a b).mono ?_
  rintro e w12 ⟨rfl, hf⟩
  have F12 : Hid (Fr NoB w w12) := Fr.step (F11.out) hf
  have B12 := hid (hf.at (fun e => e) B11.out)
  clear hf B11 F11
  go_wp2_with fail
  refine (elen_nil _).mono ?_
  rintro e w13 ⟨rfl, hf⟩
  have F13 : Hid (Fr NoB w w13) := Fr.step (F12.out) hf
  have B13 := hid (hf.at (fun e => e) B12.out)
  clear hf B12 F12
  go_wp2_with fail
  refine (ecount_nil _).mono ?_
  rintro e w14 ⟨rfl, hf⟩
  have F14 : Hid (Fr NoB w w14) := Fr.step (F13.out) hf
  have B14 := hid (hf.at (fun e => e) B13.out)
  clear hf B13 F13
  go_wp2_with fail
  refine (eclasses_nil _).mono ?_
  rintro e w15 ⟨rfl, hf⟩
  have F15 : Hid (Fr NoB w w15) := Fr.step (F14.out) hf
  have B15 := hid (hf.at (fun e => e) B14.out)
  clear hf B14 F14
  go_wp2_with fail
  refine (enodes_nil _ a).mono ?_
  rintro e w16 ⟨rfl, hf⟩
  have F16 : Hid (Fr NoB w w16) := Fr.step (F15.out) hf
  have B16 := hid (hf.at (fun e => e) B15.out)
  clear hf B15 F15
  go_wp2_with fail
  refine (ewidth_nil _ a).mono ?_
  rintro e w17 ⟨rfl, hf⟩
  have F17 : Hid (Fr NoB w w17) := Fr.step (F16.out) hf
  have B17 := hid (hf.at (fun e => e) B16.out)
  clear hf B16 F16
  go_wp2_with fail
  refine (eparents_nil _ a).mono ?_
  rintro e w18 ⟨rfl, hf⟩
  have F18 : Hid (Fr NoB w w18) := Fr.step (F17.out) hf
  have B18 := hid (hf.at (fun e => e) B17.out)
  clear hf B17 F17
  go_wp2_with fail
  refine (elinks_nil _).mono ?_
  rintro e w19 ⟨rfl, hf⟩
  have F19 : Hid (Fr NoB w w19) := Fr.step (F18.out) hf
  have B19 := hid (hf.at (fun e => e) B18.out)
  clear hf B18 F18
  go_wp2_with fail
  refine (emark_nil _).mono ?_
  rintro e w20 ⟨rfl, hf⟩
  have F20 : Hid (Fr NoB w w20) := Fr.step (F19.out) hf
  have B20 := hid (hf.at (fun e => e) B19.out)
  clear hf B19 F19
  go_wp2_with fail
  refine (eundo_nil _ a).mono ?_
  rintro e w21 ⟨rfl, hf⟩
  have F21 : Hid (Fr NoB w w21) := Fr.step (F20.out) hf
  have B21 := hid (hf.at (fun e => e) B20.out)
  clear hf B20 F20
  rw [hbd] at *
  obtain ⟨d0, d1, d2, df, dl⟩ := three_of B21.out
  go_wp2_with fail
  refine (lives18_any _ (HT.out.fr F21.out (fun e => e))).mono ?_
  rintro e wz ⟨rfl, hf⟩
  have FZ := hid (F21.out.step hf)
  clear hf
  go_wp2
  go_ret
  exact ⟨rfl, FZ.out⟩

/-- What the walk gives, for every argument and every world that holds the tables. -/
theorem contract (H : Type) (enc : TypeId × Value → H) (W : World) (base : Nat) (args : Array Value) (ds gs : List (DataW H)) (before : List MemPlace)
    (hval : ∀ (j : Nat) t v, Tryz.f3.params[j]? = some t → args[j]? = some v → Value.okWide Tryz.prog W .any base t v)
    (hW : DataW.Whole enc Tryz.prog Tryz.f3.params.toList Rows.egraphNoneSpec.vars false W args.toList ds gs before) (hL : laidMetH Tryz.prog Rows.egraphNoneRow.laid W) :
    Calls Tryz.prog 3 args W fun e W' => ∃ v, e = .returned v ∧ Rows.egraphNoneSpec.post enc Tryz.prog Tryz.f3 false true false false W args v W' := by
  have hW' := hW
  obtain ⟨p, q, hA0, hV, rfl, hfz, hnd⟩ := hW
  have hA : DataW.TrodAll enc Tryz.prog W 0 (fun _ => true) true Tryz.f3.params.toList args.toList ds p := hA0
  rw [Tryz.params3] at hA hval
  obtain ⟨v0, vs0, d0, ds0, p0, q0, hargs, rfl, rfl, h0, r0⟩ := trodAll_cons hA
  obtain ⟨v1, vs1, d1, ds1, p1, q1, rfl, rfl, rfl, h1, r1⟩ := trodAll_cons r0
  obtain ⟨rfl, rfl, rfl⟩ := trodAll_nil r1
  obtain rfl : args = #[v0, v1] := by cases args; simp_all
  obtain ⟨rfl, rfl⟩ := trodVars_none hV
  have lt0 : ∀ x ∈ p0, x.block < W.heap.size := by obtain ⟨m, hm⟩ := h0; exact DataW.trod_lt m _ _ _ hm
  have lt1 : ∀ x ∈ p1, x.block < W.heap.size := by obtain ⟨m, hm⟩ := h1; exact DataW.trod_lt m _ _ _ hm
  have k0 := h0
  have hv0 := hval 0 3 v0 rfl rfl
  have k1 := h1
  have hv1 := hval 1 3 v1 rfl rfl
  obtain ⟨z0, rfl, _, _, wz0⟩ := open_int Tryz.underlying3 hv0 h0
  obtain ⟨z1, rfl, _, _, wz1⟩ := open_int Tryz.underlying3 hv1 h1
  clear hA0
  have htab := tab_of_laid hL
  refine (walk z0 z1 W htab).mono fun e W' ⟨he, hf⟩ => ?_
  subst he
  have bel := hf.below
  exact ⟨_, rfl, _, _, _, [], _, [], hW', trodAll_mk1 (shut_bool Tryz.underlying4 _), (trodAll_cons_mk (Below.trod laidOut (by kernel_rfl) (of_decide_eq_true (by kernel_rfl)) k0 bel lt0) (trodAll_cons_mk (Below.trod laidOut (by kernel_rfl) (of_decide_eq_true (by kernel_rfl)) k1 bel lt1) trodAll_mk0)), rfl, bel.frame _, fun h => by cases h⟩

theorem laid_met (os : Os) : laidMet Tryz.prog Rows.egraphNoneRow.laid ((laidWorld os).forCall (fun _ _ => 0) ⟨#[], #[.int .i64 0, .int .i64 0], []⟩).memory :=
  laidMet_of_run' 8 (by kernel_rfl) (by kernel_rfl)
theorem reads (os : Os) {H : Type} (enc : TypeId × Value → H) : ∃ places, DataW.whole enc Tryz.prog ((laidWorld os).forCall (fun _ _ => 0) ⟨#[], #[.int .i64 0, .int .i64 0], []⟩).memory Tryz.f3.params.toList Rows.egraphNoneSpec.vars false #[.int .i64 0, .int .i64 0].toList 8 = some ([.lit (.int .i64 0), .lit (.int .i64 0)], [], places) :=
  ⟨[], by kernel_rfl⟩

set_option maxRecDepth 100000 in
theorem lifted (os : Os) (started : os.Started) (H : Type) (enc : TypeId × Value → H) (F : Stop.Interp) :
    ReturnsInHanded {} Tryz.checked os 3 .any ((OpenSpec.ofChange Rows.egraphNoneSpec).preRow enc Tryz.prog Tryz.f3 Rows.egraphNoneRow.domain false Rows.egraphNoneRow.laid) (((OpenSpec.ofChange Rows.egraphNoneSpec).at F).post enc Tryz.prog Tryz.f3 false true false false) := by
  obtain ⟨places, hx⟩ := reads os enc
  refine returnsInHanded_of_row (C := Tryz.checked) (s := OpenSpec.ofChange Rows.egraphNoneSpec) own started (by kernel_rfl) Tryz.func3
    (witness_row_at (enc := enc) (C := Tryz.checked) false (laidWorld os) #[.int .i64 0, .int .i64 0] rfl (by kernel_rfl) (by kernel_rfl) (by kernel_rfl)
      (OpenSpec.preRow_of_cond 8 hx (by kernel_rfl) (fun k hk => by cases hk) (by kernel_rfl) (laid_met os))) ?_
  intro W base args ds gs before hval hW _ hcond _ hL _ _
  exact contract H enc W base args ds gs before hval hW hL

theorem said : Rows.EgraphNoneSaid :=
  OpenClaim.holds_of_cond 3 Tryz.f3 rfl rfl rfl rfl rfl rfl rfl ⟨rfl, rfl, rfl, rfl, rfl⟩ rfl rfl rfl rfl rfl (by kernel_rfl) Tryz.func3 (by kernel_rfl)
    (of_decide_eq_true (by kernel_rfl)) (by unfold Func.isWrapper; first | (rw [if_pos (by decide +kernel)]; kernel_rfl) | (rw [if_neg (by decide +kernel)]; exact ⟨rfl, rfl⟩))
    (fun os started H enc _ F => by rw [OpenClaim.pre_eq_preRow]; exact lifted os started H enc F)

theorem plain (f : FuncId) (fn : Func) (hf : Tryz.pinned.checked.prog.funcNamed "saturate/saturatelaw18.EgraphNone" = some f) (hfn : Tryz.pinned.checked.prog.funcs[f]? = some fn) :
    false = Tryz.pinned.checked.prog.looks [] ∧ ∀ (j : Nat) t, fn.params[j]? = some t → Tryz.pinned.checked.prog.wantsStandIn t = false := by
  obtain rfl : f = 3 := Option.some.inj ((show Tryz.prog.funcNamed "saturate/saturatelaw18.EgraphNone" = some 3 by kernel_rfl).symm.trans hf) |>.symm
  obtain rfl : fn = Tryz.f3 := (Option.some.inj (Tryz.func3.symm.trans hfn)).symm
  refine ⟨by kernel_rfl, fun j t ht => ?_⟩
  rw [Tryz.params3] at ht
  have hm : t ∈ [3, 3] := by have := Array.mem_of_getElem? ht; simpa using this
  have q0 : Tryz.prog.wantsStandIn 3 = false := by kernel_rfl
  simp only [List.mem_cons, List.not_mem_nil, or_false] at hm
  rcases hm with rfl | rfl
  · exact q0
  · exact q0

theorem card : Rows.EgraphNoneCardSaid :=
  Claim7.holds_tied_plain_at .later [] _ _ _ _ said (fun _ h => by cases h) (by kernel_rfl) (fun _ h => by cases h) egraphNone_row_tie rfl ⟨rfl, rfl⟩ (by kernel_rfl) rfl plain (by kernel_rfl)
#print axioms card

end Go.Proofs.YtlekoceindepnaaGreatDoor.LawNone
