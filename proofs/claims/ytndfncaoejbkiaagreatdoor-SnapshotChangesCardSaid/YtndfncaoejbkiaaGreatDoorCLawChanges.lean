/- SnapshotChanges: an encoding in which one byte was changed is refused, for every dump within the bounds of few, every place and byte (beyond them the example alone is checked). Condition: the three listed tables of Go's library hold what the program's text lays in them (the card ties this). -/
import Derived.Test.YtndfncaoejbkiaaGreatDoorPk12
import Derived.Test.YtndfncaoejbkiaaGreatDoorCards
import Derived.Test.YtndfncaoejbkiaaGreatDoorTie
import Derived.SevenTiedAt
set_option linter.all false
namespace Go.Proofs.YtndfncaoejbkiaaGreatDoor.LawChanges
open Go.ChangeShapes Go.WideShapes Go.ChangeAt Go.RowKit
set_option maxRecDepth 100000

set_option maxHeartbeats 8000000 in
theorem walk (sN sL sR : Value) (d : Dmp) (at' to : Int) (w : World) (hd : RdD NoB w sN sL sR d) (hok : DmpOk d) (hat : i64ok at') (hto : 0 ≤ to ∧ to < 256) (ht : Tab w) : Calls Tryz.prog 6 #[dumpV sN sL sR, .int .i64 at', .int .u8 to] w fun e w' => e = .returned (.bool true) ∧ Fr NoB w w' := by
  have HTL := hid ht.lt
  obtain ⟨pN, cN, hp⟩ := hd.nodes.form
  subst hp
  obtain ⟨pL, cL, hp⟩ := hd.links.form
  subst hp
  obtain ⟨pR, cR, hp⟩ := hd.roots.form
  subst hp
  have F0 : Hid (Fr NoB w (w.alloc (.cells (dumpCells (.slice pN d.nodes.length cN) (.slice pL d.links.length cL) (.slice pR d.roots.length cR)) 26))) := (Fr.refl NoB w).alloc _
  have B0 := hid (at_new w (.cells (dumpCells (.slice pN d.nodes.length cN) (.slice pL d.links.length cL) (.slice pR d.roots.length cR)) 26))
  have D0 := hid (hd.step F0.out)
  have T0 := hid (ht.fr F0.out (fun h => h))
  have HOK := hid hok
  clear hd ht hok
  obtain ⟨tn, htn⟩ : ∃ tn : Nat, to = (tn : Int) := ⟨to.toNat, by omega⟩
  subst htn
  have htn : tn < 256 := by omega
  have HAT := hid hat
  clear hat hto
  unfold dumpV
  go_enter Tryz.func6, Tryz.ntmps6
  go_wp2_with fail
  refine (few_any _ _ _ d _ D0.out).mono ?_
  rintro e w1 ⟨⟨b, rfl, hb⟩, hf⟩
  have F1 := hid (F0.out.step hf)
  have D1 := hid (D0.out.step hf)
  have T1 := hid (T0.out.fr hf (fun h => h))
  have B1 := hid (hf.at (fun h => h) B0.out)
  have HBF := hid hb
  clear hb hf F0 D0 T0 B0
  cases b with
  | false =>
    go_wp2_with fail
    refine (lives_any _ T1.out).mono ?_
    rintro e w2 ⟨rfl, hf⟩
    have F2 := hid (F1.out.step hf)
    clear hf
    go_wp2
    go_ret
    exact ⟨rfl, F2.out⟩
  | true =>
    have FP := hid (HBF.out rfl)
    have SZ := hid (dmpsz FP.out HOK.out)
    have EL := hid (head_few FP.out SZ.out)
    clear HBF
    obtain ⟨d0, d1, d2, df, dl⟩ := three_of B1.out
    go_wp2_with fail
    refine (encode_any _ _ _ d w1 D1.out SZ.out).mono ?_
    rintro e w2 ⟨v, rfl, ho, hf⟩
    obtain ⟨g, cv, rfl, hgs⟩ : ∃ g cv, v = .slice (some ⟨g, 0, none⟩) (bN (encE (dmOf d))).length cv ∧ w1.heap.size ≤ g := by
      rcases OwnE.form' ho with ⟨_, h2⟩ | ⟨g, cap, h1, h3, _, h4⟩
      · have h5 := congrArg List.length h2
        have h6 := encE_len (dmOf d)
        simp only [bN, List.length_map, List.length_nil] at h5
        omega
      · exact ⟨g, cap, h1, h3⟩
    have R2 := hid (OwnE.rd ho (M := NoB) (fun _ _ h => h))
    have FZ := hid (fun i => OwnE.frozen ho i)
    have F2 := hid (F1.out.step hf)
    have T2 := hid (T1.out.fr hf (fun h => h))
    obtain ⟨l, hll⟩ : ∃ l, Hid (l = bN (encE (dmOf d))) := ⟨_, hid rfl⟩
    rw [← hll.out] at R2 EL
    have hle := EL.out
    have hgw : w.heap.size ≤ g := Nat.le_trans F1.out.size hgs
    have HGW := hid hgw
    have HGW1 := hid hgs
    clear ho hf F1 D1 T1 B1 d0 d1 d2 df dl hgw hgs
    rw [← hll.out]
    by_cases c1 : at' < 0
    · have T1 := T2
      go_wp2_with fail
      refine (lives_any _ T1.out).mono ?_
      rintro e w5 ⟨rfl, hf⟩
      have F5 := hid (F2.out.step hf)
      clear hf
      go_wp2
      go_ret
      exact ⟨rfl, F5.out⟩
    obtain ⟨k, rfl⟩ : ∃ k : Nat, at' = (k : Int) := ⟨at'.toNat, by omega⟩
    by_cases c2 : l.length ≤ k
    · have c2' : (l.length : Int) ≤ (k : Int) := by omega
      go_wp2_with fail
      refine (lives_any _ T2.out).mono ?_
      rintro e w5 ⟨rfl, hf⟩
      have F5 := hid (F2.out.step hf)
      clear hf
      go_wp2
      go_ret
      exact ⟨rfl, F5.out⟩
    have hlt : k < l.length := by omega
    have c2' : ¬ (l.length : Int) ≤ (k : Int) := by omega
    obtain ⟨b, off, hpp, e0⟩ := RdY.cell R2.out hlt
    simp only [Option.some.injEq, Addr.mk.injEq, and_true] at hpp
    obtain ⟨rfl, rfl⟩ := hpp
    rw [Nat.zero_add] at e0
    obtain ⟨q, hq⟩ : ∃ q, l[k].toNat = q := ⟨_, rfl⟩
    rw [hq] at e0
    have HQ := hid hq
    have f0 := FZ.out k
    clear hq c1
    by_cases c3 : q = tn
    · subst c3
      go_wp2_with fail
      refine (lives_any _ T2.out).mono ?_
      rintro e w5 ⟨rfl, hf⟩
      have F5 := hid (F2.out.step hf)
      clear hf
      go_wp2
      go_ret
      exact ⟨rfl, F5.out⟩
    have c3' : ((q : Int) == (tn : Int)) = false := by simp; omega
    have HC3 := hid c3
    clear c3
    have G : Hid (Fr (fun x => x = g) w2 (w2.setCell ⟨g, k, none⟩ (.int .u8 (tn : Int)))) := (Fr.refl (fun x => x = g) w2).setCell (p := ⟨g, k, none⟩) (fun _ => rfl) _
    have R3 : Hid (RdY NoB (w2.setCell ⟨g, k, none⟩ (.int .u8 (tn : Int))) (.slice (some ⟨g, 0, none⟩) l.length cv) (l.set k (UInt8.ofNat tn))) := by
      rcases R2.out with ⟨_, h⟩ | ⟨b, off, cap, e, h2, h3, h4, h5⟩
      · rw [h] at hlt; simp at hlt
      · simp only [Value.slice.injEq, Option.some.injEq, Addr.mk.injEq, and_true] at e
        obtain ⟨⟨rfl, rfl⟩, _, rfl⟩ := e
        refine .inr ⟨g, 0, _, by rw [List.length_set], Nat.lt_of_lt_of_le h2 G.out.size, h3, by rw [List.length_set]; exact h4, fun j u hj => ?_⟩
        rw [flatE_by, List.getElem?_map, List.getElem?_set] at hj
        rw [Nat.zero_add]
        by_cases e : k = j
        · subst e
          rw [if_pos rfl, if_pos hlt] at hj
          simp only [Option.map_some, Option.some.injEq] at hj
          have ht : (UInt8.ofNat tn).toNat = tn := by simp only [UInt8.toNat_ofNat']; omega
          rw [ht] at hj
          rw [← hj]
          exact World.cell?_setCell_same _ _ _ e0
        · rw [if_neg e] at hj
          rw [World.cell?_setCell_other _ _ _ _ (by intro h; apply e; simpa using h.symm)]
          have := h5 j u (by rw [flatE_by, List.getElem?_map]; exact hj)
          rw [Nat.zero_add] at this
          exact this
    have F3 : Hid (Fr NoB w (w2.setCell ⟨g, k, none⟩ (.int .u8 (tn : Int)))) := F2.out.trans' G.out (fun x hx e => by have := HGW.out; have e2 : x = g := e; omega)
    have LT : Hid (TB < g) := Nat.lt_of_lt_of_le HTL.out HGW.out
    have T3 : Hid (Tab (w2.setCell ⟨g, k, none⟩ (.int .u8 (tn : Int)))) := T2.out.fr G.out (fun e => by have := LT.out; have e2 : TB = g := e; omega)
    go_wp2_with fail
    have hset : ∃ x, decE (nats (l.set k (UInt8.ofNat tn))) = .error x := by
      have e1 : nats (l.set k (UInt8.ofNat tn)) = (encE (dmOf d)).set k tn := by
        unfold nats
        rw [List.map_set]
        have ht : (UInt8.ofNat tn).toNat = tn := by simp only [UInt8.toNat_ofNat']; omega
        rw [ht]
        have h9 := nats_enc (dmOf d)
        unfold nats at h9
        rw [hll.out, h9]
      rw [e1]
      have hlen : k < (encE (dmOf d)).length := by
        have : l.length = (encE (dmOf d)).length := by rw [hll.out]; simp [bN]
        omega
      refine decE_set (dmOf d) hlen (encE_byte _) htn (fun e => HC3.out ?_)
      have h9 := nats_enc (dmOf d)
      rw [← hll.out] at h9
      have h10 : (nats l)[k]? = some tn := by rw [h9, List.getElem?_eq_getElem hlen, e]
      unfold nats at h10
      rw [List.getElem?_map, List.getElem?_eq_getElem hlt] at h10
      simp only [Option.map_some, Option.some.injEq] at h10
      rw [← HQ.out]; exact h10
    refine (decode_any _ (l.set k (UInt8.ofNat tn)) _ R3.out (by rw [List.length_set]; omega)).mono ?_
    rintro e w3 h1
    obtain ⟨x, hx⟩ := hset
    rw [hx] at h1
    obtain ⟨tN, tL, tR, d', rfl, hd', hdm, hf⟩ := h1
    have hde : d' = emptyD := emptyD_of (by simp only [decR] at hdm; exact hdm)
    subst hde
    obtain ⟨qN, kN, rfl⟩ := hd'.nodes.form
    obtain ⟨qL, kL, rfl⟩ := hd'.links.form
    obtain ⟨qR, kR, rfl⟩ := hd'.roots.form
    have A3 : Hid (Fr NoB w3 (w3.alloc (.cells (dumpCells (.slice qN emptyD.nodes.length kN) (.slice qL emptyD.links.length kL) (.slice qR emptyD.roots.length kR)) 26))) := (Fr.refl NoB w3).alloc _
    have X3 := hid (at_new w3 (.cells (dumpCells (.slice qN emptyD.nodes.length kN) (.slice qL emptyD.links.length kL) (.slice qR emptyD.roots.length kR)) 26))
    have F4 := hid ((F3.out.step hf).step A3.out)
    have E4 := hid (hd'.step A3.out)
    have T4 := hid (T3.out.fr (hf.step A3.out) (fun h => h))
    obtain ⟨g0, g1, g2, gf, gl⟩ := three_of X3.out
    obtain ⟨y, hy, hyy⟩ : ∃ y : Int, y = (decR (.error x)).2 ∧ (y = 19 ∨ y = 20) := ⟨_, rfl, by by_cases h : x = 1 <;> simp [decR, h]⟩
    rw [← hy]
    clear hd' hdm hf A3 X3 hx hy e0 f0 c2' c3' F3 T3 R3 F2 T2 R2 FZ G
    rcases hyy with rfl | rfl
    · go_wp2_with fail
      refine (refSameD_any _ _ _ (.slice none 0 0) (.slice none 0 0) (.slice none 0 0) emptyD emptyD _ E4.out (rdD_empty _ _) (by decide) (by decide) (by decide) (fun x hx => by simp [emptyD] at hx) (fun x hx => by simp [emptyD] at hx)).mono ?_
      rintro e w4 ⟨rfl, hf⟩
      rw [sameS_self]
      have F5 := hid (F4.out.step hf)
      have T5 := hid (T4.out.fr hf (fun h => h))
      clear hf g0 g1 g2 gf gl
      go_wp2_with fail
      refine (lives_any _ T5.out).mono ?_
      rintro e w5 ⟨rfl, hf⟩
      have F6 := hid (F5.out.step hf)
      clear hf
      go_wp2
      go_ret
      exact ⟨by first | rfl | (simp; done), F6.out⟩
    · go_wp2_with fail
      refine (refSameD_any _ _ _ (.slice none 0 0) (.slice none 0 0) (.slice none 0 0) emptyD emptyD _ E4.out (rdD_empty _ _) (by decide) (by decide) (by decide) (fun x hx => by simp [emptyD] at hx) (fun x hx => by simp [emptyD] at hx)).mono ?_
      rintro e w4 ⟨rfl, hf⟩
      rw [sameS_self]
      have F5 := hid (F4.out.step hf)
      have T5 := hid (T4.out.fr hf (fun h => h))
      clear hf g0 g1 g2 gf gl
      go_wp2_with fail
      refine (lives_any _ T5.out).mono ?_
      rintro e w5 ⟨rfl, hf⟩
      have F6 := hid (F5.out.step hf)
      clear hf
      go_wp2
      go_ret
      exact ⟨by first | rfl | (simp; done), F6.out⟩
/-- What the walk gives, for every argument and every world that holds the tables. -/
theorem contract (H : Type) (enc : TypeId × Value → H) (W : World) (base : Nat) (args : Array Value) (ds gs : List (DataW H)) (before : List MemPlace)
    (hval : ∀ (j : Nat) t v, Tryz.f6.params[j]? = some t → args[j]? = some v → Value.okWide Tryz.prog W .any base t v)
    (hW : DataW.Whole enc Tryz.prog Tryz.f6.params.toList Rows.snapshotChangesSpec.vars false W args.toList ds gs before) (hL : laidMetH Tryz.prog Rows.snapshotChangesRow.laid W) :
    Calls Tryz.prog 6 args W fun e W' => ∃ v, e = .returned v ∧ Rows.snapshotChangesSpec.post enc Tryz.prog Tryz.f6 false true false false W args v W' := by
  have hW' := hW
  obtain ⟨p, q, hA0, hV, rfl, hfz, hnd⟩ := hW
  have hA : DataW.TrodAll enc Tryz.prog W 0 (fun _ => true) true Tryz.f6.params.toList args.toList ds p := hA0
  rw [Tryz.params6] at hA hval
  obtain ⟨v0, vs0, d0, ds0, p0, q0, hargs, rfl, rfl, h0, r0⟩ := trodAll_cons hA
  obtain ⟨v1, vs1, d1, ds1, p1, q1, rfl, rfl, rfl, h1, r1⟩ := trodAll_cons r0
  obtain ⟨v2, vs2, d2, ds2, p2, q2, rfl, rfl, rfl, h2, r2⟩ := trodAll_cons r1
  obtain ⟨rfl, rfl, rfl⟩ := trodAll_nil r2
  obtain rfl : args = #[v0, v1, v2] := by cases args; simp_all
  obtain ⟨rfl, rfl⟩ := trodVars_none hV
  have lt0 : ∀ x ∈ p0, x.block < W.heap.size := by obtain ⟨m, hm⟩ := h0; exact DataW.trod_lt m _ _ _ hm
  have lt1 : ∀ x ∈ p1, x.block < W.heap.size := by obtain ⟨m, hm⟩ := h1; exact DataW.trod_lt m _ _ _ hm
  have lt2 : ∀ x ∈ p2, x.block < W.heap.size := by obtain ⟨m, hm⟩ := h2; exact DataW.trod_lt m _ _ _ hm
  have k0 := h0
  have hv0 := hval 0 26 v0 rfl rfl
  have k1 := h1
  have hv1 := hval 1 3 v1 rfl rfl
  have k2 := h2
  have hv2 := hval 2 5 v2 rfl rfl
  obtain ⟨sN0, sL0, sR0, D0, rfl, hd0, ok0⟩ := open_dump2 hv0 h0
  obtain ⟨z1, rfl, _, _, wz1⟩ := open_int Tryz.underlying3 hv1 h1
  obtain ⟨z2, rfl, _, _, wz2⟩ := open_int Tryz.underlying5 hv2 h2
  have q2 : 0 ≤ z2 ∧ z2 < 256 := by have := bounds_u8 wz2; omega
  clear hA0
  have htab := tab_of_laid hL
  refine (walk sN0 sL0 sR0 D0 z1 z2 W hd0 ok0 (i64ok_of_wf wz1) q2 htab).mono fun e W' ⟨he, hf⟩ => ?_
  subst he
  have bel := hf.below
  exact ⟨_, rfl, _, _, _, [], _, [], hW', trodAll_mk1 (shut_bool Tryz.underlying4 _), (trodAll_cons_mk (Below.trod laidOut (by kernel_rfl) (of_decide_eq_true (by kernel_rfl)) k0 bel lt0) (trodAll_cons_mk (Below.trod laidOut (by kernel_rfl) (of_decide_eq_true (by kernel_rfl)) k1 bel lt1) (trodAll_cons_mk (Below.trod laidOut (by kernel_rfl) (of_decide_eq_true (by kernel_rfl)) k2 bel lt2) trodAll_mk0))), rfl, bel.frame _, fun h => by cases h⟩

theorem laid_met (os : Os) : laidMet Tryz.prog Rows.snapshotChangesRow.laid ((laidWorld os).forCall (fun _ _ => 0) ⟨#[], #[.agg #[.slice none 0 0, .slice none 0 0, .slice none 0 0], .int .i64 0, .int .u8 0], []⟩).memory :=
  laidMet_of_run' 8 (by kernel_rfl) (by kernel_rfl)
theorem reads (os : Os) {H : Type} (enc : TypeId × Value → H) : ∃ places, DataW.whole enc Tryz.prog ((laidWorld os).forCall (fun _ _ => 0) ⟨#[], #[.agg #[.slice none 0 0, .slice none 0 0, .slice none 0 0], .int .i64 0, .int .u8 0], []⟩).memory Tryz.f6.params.toList Rows.snapshotChangesSpec.vars false #[.agg #[.slice none 0 0, .slice none 0 0, .slice none 0 0], .int .i64 0, .int .u8 0].toList 8 = some ([.agg [.nil, .nil, .nil], .lit (.int .i64 0), .lit (.int .u8 0)], [], places) :=
  ⟨[], by kernel_rfl⟩

set_option maxRecDepth 100000 in
theorem lifted (os : Os) (started : os.Started) (H : Type) (enc : TypeId × Value → H) (F : Stop.Interp) :
    ReturnsInHanded {} Tryz.checked os 6 .any ((OpenSpec.ofChange Rows.snapshotChangesSpec).preRow enc Tryz.prog Tryz.f6 Rows.snapshotChangesRow.domain false Rows.snapshotChangesRow.laid) (((OpenSpec.ofChange Rows.snapshotChangesSpec).at F).post enc Tryz.prog Tryz.f6 false true false false) := by
  obtain ⟨places, hx⟩ := reads os enc
  refine returnsInHanded_of_row (C := Tryz.checked) (s := OpenSpec.ofChange Rows.snapshotChangesSpec) own started (by kernel_rfl) Tryz.func6
    (witness_row_at (enc := enc) (C := Tryz.checked) false (laidWorld os) #[.agg #[.slice none 0 0, .slice none 0 0, .slice none 0 0], .int .i64 0, .int .u8 0] rfl (by kernel_rfl) (by kernel_rfl) (by kernel_rfl)
      (OpenSpec.preRow_of_cond 8 hx (by kernel_rfl) (fun k hk => by cases hk) (by kernel_rfl) (laid_met os))) ?_
  intro W base args ds gs before hval hW _ hcond _ hL _ _
  exact contract H enc W base args ds gs before hval hW hL

theorem said : Rows.SnapshotChangesSaid :=
  OpenClaim.holds_of_cond 6 Tryz.f6 rfl rfl rfl rfl rfl rfl rfl ⟨rfl, rfl, rfl, rfl, rfl⟩ rfl rfl rfl rfl rfl (by kernel_rfl) Tryz.func6 (by kernel_rfl)
    (of_decide_eq_true (by kernel_rfl)) (by unfold Func.isWrapper; first | (rw [if_pos (by decide +kernel)]; kernel_rfl) | (rw [if_neg (by decide +kernel)]; exact ⟨rfl, rfl⟩))
    (fun os started H enc _ F => by rw [OpenClaim.pre_eq_preRow]; exact lifted os started H enc F)

theorem plain (f : FuncId) (fn : Func) (hf : Tryz.pinned.checked.prog.funcNamed "saturate/saturatelaw22.SnapshotChanges" = some f) (hfn : Tryz.pinned.checked.prog.funcs[f]? = some fn) :
    true = Tryz.pinned.checked.prog.looks [] ∧ ∀ (j : Nat) t, fn.params[j]? = some t → Tryz.pinned.checked.prog.wantsStandIn t = false := by
  obtain rfl : f = 6 := Option.some.inj ((show Tryz.prog.funcNamed "saturate/saturatelaw22.SnapshotChanges" = some 6 by kernel_rfl).symm.trans hf) |>.symm
  obtain rfl : fn = Tryz.f6 := (Option.some.inj (Tryz.func6.symm.trans hfn)).symm
  refine ⟨by kernel_rfl, fun j t ht => ?_⟩
  rw [Tryz.params6] at ht
  have hm : t ∈ [26, 3, 5] := by have := Array.mem_of_getElem? ht; simpa using this
  have q0 : Tryz.prog.wantsStandIn 26 = false := by kernel_rfl
  have q1 : Tryz.prog.wantsStandIn 3 = false := by kernel_rfl
  have q2 : Tryz.prog.wantsStandIn 5 = false := by kernel_rfl
  simp only [List.mem_cons, List.not_mem_nil, or_false] at hm
  rcases hm with rfl | rfl | rfl
  · exact q0
  · exact q1
  · exact q2

theorem card : Rows.SnapshotChangesCardSaid :=
  Claim7.holds_tied_plain_at .later [] _ _ _ _ said (fun _ h => by cases h) (by kernel_rfl) (fun _ h => by cases h) snapshotChanges_row_tie rfl ⟨rfl, rfl⟩ (by kernel_rfl) rfl plain (by kernel_rfl)
#print axioms card

end Go.Proofs.YtndfncaoejbkiaaGreatDoor.LawChanges
