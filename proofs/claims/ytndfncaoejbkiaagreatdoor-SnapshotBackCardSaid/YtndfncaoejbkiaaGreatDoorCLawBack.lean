/- SnapshotBack: Decode inverts Encode, for every dump within the bounds of few (beyond them the example alone is checked). Condition: the three listed tables of Go's library hold what the program's text lays in them (the card ties this). -/
import Derived.Test.YtndfncaoejbkiaaGreatDoorPk12
import Derived.Test.YtndfncaoejbkiaaGreatDoorCards
import Derived.Test.YtndfncaoejbkiaaGreatDoorTie
import Derived.SevenTiedAt
set_option linter.all false
namespace Go.Proofs.YtndfncaoejbkiaaGreatDoor.LawBack
open Go.ChangeShapes Go.WideShapes Go.ChangeAt Go.RowKit
set_option maxRecDepth 100000

set_option maxHeartbeats 8000000 in
theorem walk (sN sL sR : Value) (d : Dmp) (w : World) (hd : RdD NoB w sN sL sR d) (hok : DmpOk d) (ht : Tab w) : Calls Tryz.prog 5 #[dumpV sN sL sR] w fun e w' => e = .returned (.bool true) ∧ Fr NoB w w' := by
  obtain ⟨pN, cN, hp⟩ := hd.nodes.form
  subst hp
  obtain ⟨pL, cL, hp⟩ := hd.links.form
  subst hp
  obtain ⟨pR, cR, hp⟩ := hd.roots.form
  subst hp
  have F0 : Hid (Fr NoB w (w.alloc (.cells (dumpCells (.slice pN d.nodes.length cN) (.slice pL d.links.length cL) (.slice pR d.roots.length cR)) 26))) := (Fr.refl NoB w).alloc _
  have B0 := hid (at_new w (.cells (dumpCells (.slice pN d.nodes.length cN) (.slice pL d.links.length cL) (.slice pR d.roots.length cR)) 26))
  have D0 := hid (hd.step F0.out)
  have T0 := hid (ht.fr F0.out (fun h => h))
  have HOK := hid hok
  clear hd ht hok
  unfold dumpV
  go_enter Tryz.func5, Tryz.ntmps5
  go_wp2_with fail
  refine (few_any _ _ _ d _ D0.out).mono ?_
  rintro e w1 ⟨⟨b, rfl, hb⟩, hf⟩
  have F1 := hid (F0.out.step hf)
  have D1 := hid (D0.out.step hf)
  have T1 := hid (T0.out.fr hf (fun h => h))
  have B1 := hid (hf.at (fun h => h) B0.out)
  have HBF := hid hb
  clear hb hf F0 D0 T0 B0
  cases b with
  | false =>
    go_wp2_with fail
    refine (lives_any _ T1.out).mono ?_
    rintro e w2 ⟨rfl, hf⟩
    have F2 := hid (F1.out.step hf)
    clear hf
    go_wp2
    go_ret
    exact ⟨rfl, F2.out⟩
  | true =>
    have FP := hid (HBF.out rfl)
    have SZ := hid (dmpsz FP.out HOK.out)
    have EL := hid (head_few FP.out SZ.out)
    clear HBF
    obtain ⟨d0, d1, d2, df, dl⟩ := three_of B1.out
    go_wp2_with fail
    refine (encode_any _ _ _ d w1 D1.out SZ.out).mono ?_
    rintro e w2 ⟨v, rfl, ho, hf⟩
    obtain ⟨pv, cv, hv⟩ := OwnE.form ho
    subst hv
    have R2 := hid (OwnE.rd ho (M := NoB) (fun _ _ h => h))
    have F2 := hid (F1.out.step hf)
    have D2 := hid (D1.out.step hf)
    have T2 := hid (T1.out.fr hf (fun h => h))
    have B2 := hid (hf.at (fun h => h) B1.out)
    clear ho hf F1 D1 T1 B1 d0 d1 d2 df dl
    go_wp2_with fail
    refine (decode_any _ (bN (encE (dmOf d))) w2 R2.out EL.out).mono ?_
    rintro e w3 h1
    rw [nats_enc, decE_back (dmfit SZ.out)] at h1
    obtain ⟨tN, tL, tR, d', rfl, hd', hdm, hf⟩ := h1
    have DM : Hid (dmOf d' = dmOf d) := by
      simp only [decR] at hdm
      exact hdm
    obtain ⟨qN, kN, rfl⟩ := hd'.nodes.form
    obtain ⟨qL, kL, rfl⟩ := hd'.links.form
    obtain ⟨qR, kR, rfl⟩ := hd'.roots.form
    have A3 : Hid (Fr NoB w3 (w3.alloc (.cells (dumpCells (.slice qN d'.nodes.length kN) (.slice qL d'.links.length kL) (.slice qR d'.roots.length kR)) 26))) := (Fr.refl NoB w3).alloc _
    have X3 := hid (at_new w3 (.cells (dumpCells (.slice qN d'.nodes.length kN) (.slice qL d'.links.length kL) (.slice qR d'.roots.length kR)) 26))
    have F3 := hid ((F2.out.step hf).step A3.out)
    have D3 := hid ((D2.out.step hf).step A3.out)
    have E3 := hid (hd'.step A3.out)
    have T3 := hid (T2.out.fr (hf.step A3.out) (fun h => h))
    have B3 := hid ((hf.step A3.out).at (fun h => h) B2.out)
    obtain ⟨d0, d1, d2, df, dl⟩ := three_of B3.out
    clear hd' hdm hf F2 D2 T2 B2 A3 X3 R2
    simp only [decR]
    go_wp2_with fail
    refine (refSameD_any _ _ _ _ _ _ d' d _ E3.out D3.out ?_ ?_ ?_ (args_of DM.out SZ.out) (args_sz SZ.out)).mono ?_
    · have h := congrArg (fun x : Dm => x.nodes.length) DM.out
      have hz := SZ.out.nn
      simp only [List.length_map] at h
      omega
    · have h := congrArg (fun x : Dm => x.links.length) DM.out
      have hz := SZ.out.nl
      simp only at h
      omega
    · have h := congrArg (fun x : Dm => x.roots.length) DM.out
      have hz := SZ.out.nr
      simp only at h
      omega
    rintro e w4 ⟨rfl, hf⟩
    rw [DM.out, sameS_self]
    have F4 := hid (F3.out.step hf)
    have T4 := hid (T3.out.fr hf (fun h => h))
    clear hf d0 d1 d2 df dl
    go_wp2_with fail
    refine (lives_any _ T4.out).mono ?_
    rintro e w5 ⟨rfl, hf⟩
    have F5 := hid (F4.out.step hf)
    clear hf
    go_wp2
    go_ret
    exact ⟨by first | rfl | (simp; done), F5.out⟩
/-- What the walk gives, for every argument and every world that holds the tables. -/
theorem contract (H : Type) (enc : TypeId × Value → H) (W : World) (base : Nat) (args : Array Value) (ds gs : List (DataW H)) (before : List MemPlace)
    (hval : ∀ (j : Nat) t v, Tryz.f5.params[j]? = some t → args[j]? = some v → Value.okWide Tryz.prog W .any base t v)
    (hW : DataW.Whole enc Tryz.prog Tryz.f5.params.toList Rows.snapshotBackSpec.vars false W args.toList ds gs before) (hL : laidMetH Tryz.prog Rows.snapshotBackRow.laid W) :
    Calls Tryz.prog 5 args W fun e W' => ∃ v, e = .returned v ∧ Rows.snapshotBackSpec.post enc Tryz.prog Tryz.f5 false true false false W args v W' := by
  have hW' := hW
  obtain ⟨p, q, hA0, hV, rfl, hfz, hnd⟩ := hW
  have hA : DataW.TrodAll enc Tryz.prog W 0 (fun _ => true) true Tryz.f5.params.toList args.toList ds p := hA0
  rw [Tryz.params5] at hA hval
  obtain ⟨v0, vs0, d0, ds0, p0, q0, hargs, rfl, rfl, h0, r0⟩ := trodAll_cons hA
  obtain ⟨rfl, rfl, rfl⟩ := trodAll_nil r0
  obtain rfl : args = #[v0] := by cases args; simp_all
  obtain ⟨rfl, rfl⟩ := trodVars_none hV
  have lt0 : ∀ x ∈ p0, x.block < W.heap.size := by obtain ⟨m, hm⟩ := h0; exact DataW.trod_lt m _ _ _ hm
  have k0 := h0
  have hv0 := hval 0 26 v0 rfl rfl
  obtain ⟨sN0, sL0, sR0, D0, rfl, hd0, ok0⟩ := open_dump2 hv0 h0
  clear hA0
  have htab := tab_of_laid hL
  refine (walk sN0 sL0 sR0 D0 W hd0 ok0 htab).mono fun e W' ⟨he, hf⟩ => ?_
  subst he
  have bel := hf.below
  exact ⟨_, rfl, _, _, _, [], _, [], hW', trodAll_mk1 (shut_bool Tryz.underlying4 _), (trodAll_cons_mk (Below.trod laidOut (by kernel_rfl) (of_decide_eq_true (by kernel_rfl)) k0 bel lt0) trodAll_mk0), rfl, bel.frame _, fun h => by cases h⟩

theorem laid_met (os : Os) : laidMet Tryz.prog Rows.snapshotBackRow.laid ((laidWorld os).forCall (fun _ _ => 0) ⟨#[], #[.agg #[.slice none 0 0, .slice none 0 0, .slice none 0 0]], []⟩).memory :=
  laidMet_of_run' 8 (by kernel_rfl) (by kernel_rfl)
theorem reads (os : Os) {H : Type} (enc : TypeId × Value → H) : ∃ places, DataW.whole enc Tryz.prog ((laidWorld os).forCall (fun _ _ => 0) ⟨#[], #[.agg #[.slice none 0 0, .slice none 0 0, .slice none 0 0]], []⟩).memory Tryz.f5.params.toList Rows.snapshotBackSpec.vars false #[.agg #[.slice none 0 0, .slice none 0 0, .slice none 0 0]].toList 8 = some ([.agg [.nil, .nil, .nil]], [], places) :=
  ⟨[], by kernel_rfl⟩

set_option maxRecDepth 100000 in
theorem lifted (os : Os) (started : os.Started) (H : Type) (enc : TypeId × Value → H) (F : Stop.Interp) :
    ReturnsInHanded {} Tryz.checked os 5 .any ((OpenSpec.ofChange Rows.snapshotBackSpec).preRow enc Tryz.prog Tryz.f5 Rows.snapshotBackRow.domain false Rows.snapshotBackRow.laid) (((OpenSpec.ofChange Rows.snapshotBackSpec).at F).post enc Tryz.prog Tryz.f5 false true false false) := by
  obtain ⟨places, hx⟩ := reads os enc
  refine returnsInHanded_of_row (C := Tryz.checked) (s := OpenSpec.ofChange Rows.snapshotBackSpec) own started (by kernel_rfl) Tryz.func5
    (witness_row_at (enc := enc) (C := Tryz.checked) false (laidWorld os) #[.agg #[.slice none 0 0, .slice none 0 0, .slice none 0 0]] rfl (by kernel_rfl) (by kernel_rfl) (by kernel_rfl)
      (OpenSpec.preRow_of_cond 8 hx (by kernel_rfl) (fun k hk => by cases hk) (by kernel_rfl) (laid_met os))) ?_
  intro W base args ds gs before hval hW _ hcond _ hL _ _
  exact contract H enc W base args ds gs before hval hW hL

theorem said : Rows.SnapshotBackSaid :=
  OpenClaim.holds_of_cond 5 Tryz.f5 rfl rfl rfl rfl rfl rfl rfl ⟨rfl, rfl, rfl, rfl, rfl⟩ rfl rfl rfl rfl rfl (by kernel_rfl) Tryz.func5 (by kernel_rfl)
    (of_decide_eq_true (by kernel_rfl)) (by unfold Func.isWrapper; first | (rw [if_pos (by decide +kernel)]; kernel_rfl) | (rw [if_neg (by decide +kernel)]; exact ⟨rfl, rfl⟩))
    (fun os started H enc _ F => by rw [OpenClaim.pre_eq_preRow]; exact lifted os started H enc F)

theorem plain (f : FuncId) (fn : Func) (hf : Tryz.pinned.checked.prog.funcNamed "saturate/saturatelaw22.SnapshotBack" = some f) (hfn : Tryz.pinned.checked.prog.funcs[f]? = some fn) :
    true = Tryz.pinned.checked.prog.looks [] ∧ ∀ (j : Nat) t, fn.params[j]? = some t → Tryz.pinned.checked.prog.wantsStandIn t = false := by
  obtain rfl : f = 5 := Option.some.inj ((show Tryz.prog.funcNamed "saturate/saturatelaw22.SnapshotBack" = some 5 by kernel_rfl).symm.trans hf) |>.symm
  obtain rfl : fn = Tryz.f5 := (Option.some.inj (Tryz.func5.symm.trans hfn)).symm
  refine ⟨by kernel_rfl, fun j t ht => ?_⟩
  rw [Tryz.params5] at ht
  have hm : t ∈ [26] := by have := Array.mem_of_getElem? ht; simpa using this
  have q0 : Tryz.prog.wantsStandIn 26 = false := by kernel_rfl
  simp only [List.mem_cons, List.not_mem_nil, or_false] at hm
  rcases hm with rfl
  · exact q0

theorem card : Rows.SnapshotBackCardSaid :=
  Claim7.holds_tied_plain_at .later [] _ _ _ _ said (fun _ h => by cases h) (by kernel_rfl) (fun _ h => by cases h) snapshotBack_row_tie rfl ⟨rfl, rfl⟩ (by kernel_rfl) rfl plain (by kernel_rfl)
#print axioms card

end Go.Proofs.YtndfncaoejbkiaaGreatDoor.LawBack
