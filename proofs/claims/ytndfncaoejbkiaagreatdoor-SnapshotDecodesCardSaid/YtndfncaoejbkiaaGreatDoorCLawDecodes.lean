/- SnapshotDecodes: Decode answers the dump and the error of the reference, for all rows of at most 1000 bytes, as they are and with a right checksum (beyond them the example alone is checked). Condition: the three listed tables of Go's library hold what the program's text lays in them (the card ties this). -/
import Derived.Test.YtndfncaoejbkiaaGreatDoorPk12
import Derived.Test.YtndfncaoejbkiaaGreatDoorPk14
import Derived.Test.YtndfncaoejbkiaaGreatDoorPk15
import Derived.Test.YtndfncaoejbkiaaGreatDoorCards
import Derived.Test.YtndfncaoejbkiaaGreatDoorTie
import Derived.SevenTiedAt
set_option linter.all false
namespace Go.Proofs.YtndfncaoejbkiaaGreatDoor.LawDecodes
open Go.ChangeShapes Go.WideShapes Go.ChangeAt Go.RowKit
set_option maxRecDepth 100000

set_option maxHeartbeats 8000000 in
theorem walk (u : Value) (l : List UInt8) (w : World) (h : RdY NoB w u l) (ht : Tab w) : Calls Tryz.prog 4 #[u] w fun e w' => e = .returned (.bool true) ∧ Fr NoB w w' := by
  obtain ⟨pu, cu, hv⟩ := RdY.form h
  subst hv
  have F0 : Hid (Fr NoB w w) := Fr.refl NoB w
  have R0 := hid h
  have T0 := hid ht
  clear h ht
  go_enter Tryz.func4, Tryz.ntmps4
  by_cases c3 : (1000 : Int) < (l.length : Int)
  · go_wp2_with fail
    refine (lives_any _ T0.out).mono ?_
    rintro e w9 ⟨rfl, hf⟩
    have F9 := hid (F0.out.step hf)
    clear hf
    go_wp2
    go_ret
    exact ⟨rfl, F9.out⟩
  have hll : l.length ≤ 1000000 := by omega
  have hll2 : l.length ≤ 800000000 := by omega
  obtain ⟨m, hm⟩ : ∃ m, m = sealS l := ⟨_, rfl⟩
  have hml : m.length ≤ 1000000 := by rw [hm]; unfold sealS; rw [List.length_append]; have : ∀ x, (bN (bigE x)).length = 4 := fun x => rfl; rw [this]; omega
  obtain ⟨y, hy⟩ : ∃ y, (decR (decE (nats l))).2 = y := ⟨_, rfl⟩
  obtain ⟨z, hz⟩ : ∃ z, (decR (decE (nats m))).2 = z := ⟨_, rfl⟩
  have HY := hid hy
  have HZ := hid hz
  have HM := hid hm
  clear hy hz hm
  go_wp2_with fail
  refine (decode_any _ l _ R0.out hll).mono ?_
  rintro e w1 ⟨tN, tL, tR, d1, rfl, hd', hdm, hf⟩
  rw [HY.out]
  have DM1 := hid hdm
  obtain ⟨qN1, kN1, rfl⟩ := hd'.nodes.form
  obtain ⟨qL1, kL1, rfl⟩ := hd'.links.form
  obtain ⟨qR1, kR1, rfl⟩ := hd'.roots.form
  have G1 : Hid (Fr NoB w (w1.alloc (.cells (dumpCells (.slice qN1 d1.nodes.length kN1) (.slice qL1 d1.links.length kL1) (.slice qR1 d1.roots.length kR1)) 26))) := hid (hf.alloc _)
  have F1 := hid (F0.out.step G1.out)
  have D1 := hid (hd'.step ((Fr.refl NoB w1).alloc (.cells (dumpCells (.slice qN1 d1.nodes.length kN1) (.slice qL1 d1.links.length kL1) (.slice qR1 d1.roots.length kR1)) 26)))
  have B1 := hid (at_new w1 (.cells (dumpCells (.slice qN1 d1.nodes.length kN1) (.slice qL1 d1.links.length kL1) (.slice qR1 d1.roots.length kR1)) 26))
  have R1 := hid (RdE.step R0.out G1.out)
  clear hd' hdm hf R0 F0
  go_wp2_with fail
  refine (refDecode_any _ l _ R1.out hll).mono ?_
  rintro e w2 ⟨tN, tL, tR, d2, rfl, hd', hdm, hf⟩
  rw [HY.out]
  have DM2 := hid hdm
  obtain ⟨qN2, kN2, rfl⟩ := hd'.nodes.form
  obtain ⟨qL2, kL2, rfl⟩ := hd'.links.form
  obtain ⟨qR2, kR2, rfl⟩ := hd'.roots.form
  have G2 : Hid (Fr NoB (w1.alloc (.cells (dumpCells (.slice qN1 d1.nodes.length kN1) (.slice qL1 d1.links.length kL1) (.slice qR1 d1.roots.length kR1)) 26)) (w2.alloc (.cells (dumpCells (.slice qN2 d2.nodes.length kN2) (.slice qL2 d2.links.length kL2) (.slice qR2 d2.roots.length kR2)) 26))) := hid (hf.alloc _)
  have F2 := hid (F1.out.step G2.out)
  have D2 := hid (hd'.step ((Fr.refl NoB w2).alloc (.cells (dumpCells (.slice qN2 d2.nodes.length kN2) (.slice qL2 d2.links.length kL2) (.slice qR2 d2.roots.length kR2)) 26)))
  have B2 := hid (at_new w2 (.cells (dumpCells (.slice qN2 d2.nodes.length kN2) (.slice qL2 d2.links.length kL2) (.slice qR2 d2.roots.length kR2)) 26))
  have R2 := hid (RdE.step R1.out G2.out)
  have D12 := hid (RdD.step D1.out G2.out)
  have B12 := hid (G2.out.at (fun h => h) B1.out)
  clear hd' hdm hf R1 D1 B1 F1
  go_wp2_with fail
  refine (refSealed_any _ l m _ R2.out hll2 HM.out).mono ?_
  rintro e w3 ⟨sp, sc, rfl, ho, hf⟩
  have R3 := hid (OwnE.rd ho (M := NoB) (fun _ _ h => h))
  have F3 := hid (F2.out.step hf)
  have D13 := hid (RdD.step D12.out hf)
  have D23 := hid (RdD.step D2.out hf)
  have B13 := hid (hf.at (fun h => h) B12.out)
  have B23 := hid (hf.at (fun h => h) B2.out)
  clear ho hf F2 D12 D2 B12 B2 R2 HM
  go_wp2_with fail
  refine (decode_any _ m _ R3.out hml).mono ?_
  rintro e w4 ⟨tN, tL, tR, d4, rfl, hd', hdm, hf⟩
  rw [HZ.out]
  have DM4 := hid hdm
  obtain ⟨qN4, kN4, rfl⟩ := hd'.nodes.form
  obtain ⟨qL4, kL4, rfl⟩ := hd'.links.form
  obtain ⟨qR4, kR4, rfl⟩ := hd'.roots.form
  have G4 : Hid (Fr NoB w3 (w4.alloc (.cells (dumpCells (.slice qN4 d4.nodes.length kN4) (.slice qL4 d4.links.length kL4) (.slice qR4 d4.roots.length kR4)) 26))) := hid (hf.alloc _)
  have F4 := hid (F3.out.step G4.out)
  have D4 := hid (hd'.step ((Fr.refl NoB w4).alloc (.cells (dumpCells (.slice qN4 d4.nodes.length kN4) (.slice qL4 d4.links.length kL4) (.slice qR4 d4.roots.length kR4)) 26)))
  have B4 := hid (at_new w4 (.cells (dumpCells (.slice qN4 d4.nodes.length kN4) (.slice qL4 d4.links.length kL4) (.slice qR4 d4.roots.length kR4)) 26))
  have R4 := hid (RdE.step R3.out G4.out)
  have D14 := hid (RdD.step D13.out G4.out)
  have D24 := hid (RdD.step D23.out G4.out)
  have B14 := hid (G4.out.at (fun h => h) B13.out)
  have B24 := hid (G4.out.at (fun h => h) B23.out)
  clear hd' hdm hf R3 D13 D23 B13 B23 F3
  go_wp2_with fail
  refine (refDecode_any _ m _ R4.out hml).mono ?_
  rintro e w5 ⟨tN, tL, tR, d5, rfl, hd', hdm, hf⟩
  rw [HZ.out]
  have DM5 := hid hdm
  obtain ⟨qN5, kN5, rfl⟩ := hd'.nodes.form
  obtain ⟨qL5, kL5, rfl⟩ := hd'.links.form
  obtain ⟨qR5, kR5, rfl⟩ := hd'.roots.form
  have G5 : Hid (Fr NoB (w4.alloc (.cells (dumpCells (.slice qN4 d4.nodes.length kN4) (.slice qL4 d4.links.length kL4) (.slice qR4 d4.roots.length kR4)) 26)) (w5.alloc (.cells (dumpCells (.slice qN5 d5.nodes.length kN5) (.slice qL5 d5.links.length kL5) (.slice qR5 d5.roots.length kR5)) 26))) := hid (hf.alloc _)
  have F5 := hid (F4.out.step G5.out)
  have D5 := hid (hd'.step ((Fr.refl NoB w5).alloc (.cells (dumpCells (.slice qN5 d5.nodes.length kN5) (.slice qL5 d5.links.length kL5) (.slice qR5 d5.roots.length kR5)) 26)))
  have B5 := hid (at_new w5 (.cells (dumpCells (.slice qN5 d5.nodes.length kN5) (.slice qL5 d5.links.length kL5) (.slice qR5 d5.roots.length kR5)) 26))
  have R5 := hid (RdE.step R4.out G5.out)
  have D15 := hid (RdD.step D14.out G5.out)
  have D25 := hid (RdD.step D24.out G5.out)
  have B15 := hid (G5.out.at (fun h => h) B14.out)
  have B25 := hid (G5.out.at (fun h => h) B24.out)
  have D45 := hid (RdD.step D4.out G5.out)
  have B45 := hid (G5.out.at (fun h => h) B4.out)
  clear hd' hdm hf R4 D14 D24 B14 B24 D4 B4 F4
  obtain ⟨x0, x1, x2, xf, xl⟩ := three_of B15.out
  obtain ⟨y0, y1, y2, yf, yl⟩ := three_of B25.out
  go_wp2_with fail
  refine (refSameD_any _ _ _ _ _ _ d1 d2 _ D15.out D25.out (dec_few hll DM1.out).1 (dec_few hll DM1.out).2.1 (dec_few hll DM1.out).2.2.1 (dec_few hll DM1.out).2.2.2 (dec_few hll DM2.out).2.2.2).mono ?_
  rintro e w6 ⟨rfl, hf⟩
  rw [DM1.out, DM2.out, sameS_self]
  have F6 := hid (F5.out.step hf)
  have D46 := hid (RdD.step D45.out hf)
  have D56 := hid (RdD.step D5.out hf)
  have B46 := hid (hf.at (fun h => h) B45.out)
  have B56 := hid (hf.at (fun h => h) B5.out)
  clear hf F5 D45 D5 B45 B5 D15 D25 B15 B25 x0 x1 x2 xf xl y0 y1 y2 yf yl
  obtain ⟨x0, x1, x2, xf, xl⟩ := three_of B46.out
  obtain ⟨y0, y1, y2, yf, yl⟩ := three_of B56.out
  go_wp2_with fail
  refine (refSameD_any _ _ _ _ _ _ d4 d5 _ D46.out D56.out (dec_few hml DM4.out).1 (dec_few hml DM4.out).2.1 (dec_few hml DM4.out).2.2.1 (dec_few hml DM4.out).2.2.2 (dec_few hml DM5.out).2.2.2).mono ?_
  rintro e w7 ⟨rfl, hf⟩
  rw [DM4.out, DM5.out, sameS_self]
  have F7 := hid (F6.out.step hf)
  have T7 := hid (T0.out.fr F7.out (fun h => h))
  clear hf F6 x0 x1 x2 xf xl y0 y1 y2 yf yl
  go_wp2_with fail
  refine (lives_any _ T7.out).mono ?_
  rintro e w9 ⟨rfl, hf⟩
  have F9 := hid (F7.out.step hf)
  clear hf
  go_wp2
  go_ret
  exact ⟨by first | rfl | (simp; done), F9.out⟩
/-- What the walk gives, for every argument and every world that holds the tables. -/
theorem contract (H : Type) (enc : TypeId × Value → H) (W : World) (base : Nat) (args : Array Value) (ds gs : List (DataW H)) (before : List MemPlace)
    (hval : ∀ (j : Nat) t v, Tryz.f4.params[j]? = some t → args[j]? = some v → Value.okWide Tryz.prog W .any base t v)
    (hW : DataW.Whole enc Tryz.prog Tryz.f4.params.toList Rows.snapshotDecodesSpec.vars false W args.toList ds gs before) (hL : laidMetH Tryz.prog Rows.snapshotDecodesRow.laid W) :
    Calls Tryz.prog 4 args W fun e W' => ∃ v, e = .returned v ∧ Rows.snapshotDecodesSpec.post enc Tryz.prog Tryz.f4 false true false false W args v W' := by
  have hW' := hW
  obtain ⟨p, q, hA0, hV, rfl, hfz, hnd⟩ := hW
  have hA : DataW.TrodAll enc Tryz.prog W 0 (fun _ => true) true Tryz.f4.params.toList args.toList ds p := hA0
  rw [Tryz.params4] at hA hval
  obtain ⟨v0, vs0, d0, ds0, p0, q0, hargs, rfl, rfl, h0, r0⟩ := trodAll_cons hA
  obtain ⟨rfl, rfl, rfl⟩ := trodAll_nil r0
  obtain rfl : args = #[v0] := by cases args; simp_all
  obtain ⟨rfl, rfl⟩ := trodVars_none hV
  have lt0 : ∀ x ∈ p0, x.block < W.heap.size := by obtain ⟨m, hm⟩ := h0; exact DataW.trod_lt m _ _ _ hm
  have k0 := h0
  have hv0 := hval 0 27 v0 rfl rfl
  obtain ⟨a0, n0, c0, rfl⟩ := okWide_slice Tryz.underlying27 hv0
  obtain ⟨m0, hm0⟩ := h0
  obtain ⟨l0, rl0⟩ := rdY_of_trod hm0 NoB (fun _ _ h => h)
  clear hA0
  have htab := tab_of_laid hL
  refine (walk _ l0 W rl0 htab).mono fun e W' ⟨he, hf⟩ => ?_
  subst he
  have bel := hf.below
  exact ⟨_, rfl, _, _, _, [], _, [], hW', trodAll_mk1 (shut_bool Tryz.underlying4 _), (trodAll_cons_mk (Below.trod laidOut (by kernel_rfl) (of_decide_eq_true (by kernel_rfl)) k0 bel lt0) trodAll_mk0), rfl, bel.frame _, fun h => by cases h⟩

theorem laid_met (os : Os) : laidMet Tryz.prog Rows.snapshotDecodesRow.laid ((laidWorld os).forCall (fun _ _ => 0) ⟨#[], #[.slice none 0 0], []⟩).memory :=
  laidMet_of_run' 8 (by kernel_rfl) (by kernel_rfl)
theorem reads (os : Os) {H : Type} (enc : TypeId × Value → H) : ∃ places, DataW.whole enc Tryz.prog ((laidWorld os).forCall (fun _ _ => 0) ⟨#[], #[.slice none 0 0], []⟩).memory Tryz.f4.params.toList Rows.snapshotDecodesSpec.vars false #[.slice none 0 0].toList 8 = some ([.nil], [], places) :=
  ⟨[], by kernel_rfl⟩

set_option maxRecDepth 100000 in
theorem lifted (os : Os) (started : os.Started) (H : Type) (enc : TypeId × Value → H) (F : Stop.Interp) :
    ReturnsInHanded {} Tryz.checked os 4 .any ((OpenSpec.ofChange Rows.snapshotDecodesSpec).preRow enc Tryz.prog Tryz.f4 Rows.snapshotDecodesRow.domain false Rows.snapshotDecodesRow.laid) (((OpenSpec.ofChange Rows.snapshotDecodesSpec).at F).post enc Tryz.prog Tryz.f4 false true false false) := by
  obtain ⟨places, hx⟩ := reads os enc
  refine returnsInHanded_of_row (C := Tryz.checked) (s := OpenSpec.ofChange Rows.snapshotDecodesSpec) own started (by kernel_rfl) Tryz.func4
    (witness_row_at (enc := enc) (C := Tryz.checked) false (laidWorld os) #[.slice none 0 0] rfl (by kernel_rfl) (by kernel_rfl) (by kernel_rfl)
      (OpenSpec.preRow_of_cond 8 hx (by kernel_rfl) (fun k hk => by cases hk) (by kernel_rfl) (laid_met os))) ?_
  intro W base args ds gs before hval hW _ hcond _ hL _ _
  exact contract H enc W base args ds gs before hval hW hL

theorem said : Rows.SnapshotDecodesSaid :=
  OpenClaim.holds_of_cond 4 Tryz.f4 rfl rfl rfl rfl rfl rfl rfl ⟨rfl, rfl, rfl, rfl, rfl⟩ rfl rfl rfl rfl rfl (by kernel_rfl) Tryz.func4 (by kernel_rfl)
    (of_decide_eq_true (by kernel_rfl)) (by unfold Func.isWrapper; first | (rw [if_pos (by decide +kernel)]; kernel_rfl) | (rw [if_neg (by decide +kernel)]; exact ⟨rfl, rfl⟩))
    (fun os started H enc _ F => by rw [OpenClaim.pre_eq_preRow]; exact lifted os started H enc F)

theorem plain (f : FuncId) (fn : Func) (hf : Tryz.pinned.checked.prog.funcNamed "saturate/saturatelaw22.SnapshotDecodes" = some f) (hfn : Tryz.pinned.checked.prog.funcs[f]? = some fn) :
    true = Tryz.pinned.checked.prog.looks [] ∧ ∀ (j : Nat) t, fn.params[j]? = some t → Tryz.pinned.checked.prog.wantsStandIn t = false := by
  obtain rfl : f = 4 := Option.some.inj ((show Tryz.prog.funcNamed "saturate/saturatelaw22.SnapshotDecodes" = some 4 by kernel_rfl).symm.trans hf) |>.symm
  obtain rfl : fn = Tryz.f4 := (Option.some.inj (Tryz.func4.symm.trans hfn)).symm
  refine ⟨by kernel_rfl, fun j t ht => ?_⟩
  rw [Tryz.params4] at ht
  have hm : t ∈ [27] := by have := Array.mem_of_getElem? ht; simpa using this
  have q0 : Tryz.prog.wantsStandIn 27 = false := by kernel_rfl
  simp only [List.mem_cons, List.not_mem_nil, or_false] at hm
  rcases hm with rfl
  · exact q0

theorem card : Rows.SnapshotDecodesCardSaid :=
  Claim7.holds_tied_plain_at .later [] _ _ _ _ said (fun _ h => by cases h) (by kernel_rfl) (fun _ h => by cases h) snapshotDecodes_row_tie rfl ⟨rfl, rfl⟩ (by kernel_rfl) rfl plain (by kernel_rfl)
#print axioms card

end Go.Proofs.YtndfncaoejbkiaaGreatDoor.LawDecodes
