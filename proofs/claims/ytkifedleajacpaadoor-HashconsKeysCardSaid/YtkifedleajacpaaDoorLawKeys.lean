/- HashconsKeys: two nodes have the same key exactly if they are equal, and a node's copy has its key (where the nodes are too large for the law's guard it checks the chapter's example alone). Condition: the three listed tables of Go's library hold what the program's text lays in them (the card ties this). -/
import Derived.Test.YtkifedleajacpaaDoorCards
import Derived.Test.YtkifedleajacpaaDoorTie
import Derived.Test.YtkifedleajacpaaDoorOpen
import Derived.Test.YtkifedleajacpaaDoorTwo
import Derived.SevenTiedAt
namespace Go.Proofs.YtkifedleajacpaaDoor.LawKeys
open Go.ChangeShapes Go.WideShapes Go.ChangeAt Go.RowKit
set_option maxRecDepth 100000

set_option maxHeartbeats 2000000 in
theorem walk (a b : Node) (v u : Value) (w : World) (oa : NodeOk a) (ob : NodeOk b) (ha : RdI (fun k => w.heap.size ≤ k) w v a.args) (hb : RdI (fun k => w.heap.size ≤ k) w u b.args) (ht : Tab w) (na : a.name.size ≤ 9223372036854775807) (nb : b.name.size ≤ 9223372036854775807) :
    Calls Tryd.prog 3 #[nodeV a v, nodeV b u] w fun e w' => e = .returned (.bool true) ∧ Fr NoB w w' := by
  have T0 := hid (Two.start ha hb ht)
  have oka := hid oa
  have okb := hid ob
  obtain ⟨a1, cap, rfl⟩ := ha.form
  obtain ⟨a2, cap', rfl⟩ := hb.form
  clear ha hb ht oa ob
  unfold nodeV
  by_cases g1 : (a.args.length : Int) ≤ 200 ∧ (a.name.size / 100 : Int) ≤ 200
  · have d1 := hid (show decide ((a.args.length : Int) ≤ 200 ∧ (a.name.size / 100 : Int) ≤ 200) = true from decide_eq_true g1)
    by_cases g2 : (b.args.length : Int) ≤ 200 ∧ (b.name.size / 100 : Int) ≤ 200
    · have d2 := hid (show decide ((b.args.length : Int) ≤ 200 ∧ (b.name.size / 100 : Int) ≤ 200) = true from decide_eq_true g2)
      have l1 := hid (show a.args.length ≤ 1000000 by omega)
      have l1' := hid (show a.args.length ≤ 17592186044416 by omega)
      have sma := hid (show NodeSm a from ⟨by omega, by omega⟩)
      have smb := hid (show NodeSm b from ⟨by omega, by omega⟩)
      obtain ⟨t, e1, e2⟩ : ∃ t : Bool, ((keyB a).toList == (keyB b).toList) = t ∧ (nodeCmp a b == 0) = t := by
        by_cases h : a = b
        · subst h; exact ⟨true, by simp, by simp [nodeCmp_zero.2 rfl]⟩
        · refine ⟨false, ?_, ?_⟩
          · simp only [beq_eq_false_iff_ne, ne_eq]
            exact fun h2 => h ((keyB_inj oka.out okb.out).1 (toList_inj h2))
          · simp only [beq_eq_false_iff_ne, ne_eq]
            exact fun h2 => h (nodeCmp_zero.1 h2)
      have l2 := hid (show b.args.length ≤ 1000000 by omega)
      clear g1 g2
      go_enter Tryd.func3, Tryd.ntmps3
      go_wp2_with fail
      refine (few_any a _ 200 _ _ T0.out.ra na).mono ?_
      rintro e w1 ⟨rfl, hf1⟩
      rw [d1.out]
      have T1 := hid (T0.out.step hf1)
      clear hf1 T0
      obtain ⟨b0, b1, b2, b3, b4, bf, bl⟩ := five_of T1.out.boxB
      go_wp2_with fail
      refine (few_any b _ 200 _ _ T1.out.rb nb).mono ?_
      rintro e w2 ⟨rfl, hf2⟩
      rw [d2.out]
      have T2 := hid (T1.out.step hf2)
      clear hf2 T1 b0 b1 b2 b3 b4 bf bl
      obtain ⟨a0, a1', a2', a3, a4, af, al⟩ := five_of T2.out.boxA
      obtain ⟨b0, b1, b2, b3, b4, bf, bl⟩ := five_of T2.out.boxB
      go_wp2_with fail
      go_region_held3 (fun w' => w'.cell? ⟨w.heap.size, 0, none⟩ = some (.int .i64 a.op) ∧ w'.cell? ⟨w.heap.size, 1, none⟩ = some (.int .i64 a.width) ∧ w'.cell? ⟨w.heap.size, 2, none⟩ = some (.int .u64 a.val) ∧ w'.cell? ⟨w.heap.size, 3, none⟩ = some (.string a.name) ∧ w'.cell? ⟨w.heap.size, 4, none⟩ = some (.slice a1 a.args.length cap) ∧
          w'.cell? ⟨w.heap.size + 1, 0, none⟩ = some (.int .i64 b.op) ∧ w'.cell? ⟨w.heap.size + 1, 1, none⟩ = some (.int .i64 b.width) ∧ w'.cell? ⟨w.heap.size + 1, 2, none⟩ = some (.int .u64 b.val) ∧ w'.cell? ⟨w.heap.size + 1, 3, none⟩ = some (.string b.name) ∧ w'.cell? ⟨w.heap.size + 1, 4, none⟩ = some (.slice a2 b.args.length cap')) (go_keep)
        (first
          | (go_at_call 12; have X := live_any _ T8.out.tab; (with_reducible refine X.mono ?_); clear X; rintro e w9 ⟨rfl, hf⟩; have T9 := hid (T8.out.step hf); clear hf; obtain ⟨a0, a1', a2', a3, a4, af, al⟩ := five_of T9.out.boxA; obtain ⟨b0, b1, b2, b3, b4, bf, bl⟩ := five_of T9.out.boxB)
          | (go_at_call 13; have X := key_any _ a _ _ R7.out oka.out sma.out T7.out.tab; (with_reducible refine X.mono ?_); clear X; rintro e w8 ⟨rfl, hf⟩; have T8 := hid (T7.out.step hf); clear hf; obtain ⟨a0, a1', a2', a3, a4, af, al⟩ := five_of T8.out.boxA; obtain ⟨b0, b1, b2, b3, b4, bf, bl⟩ := five_of T8.out.boxB)
          | (go_at_call 15; have X := refCopy_any _ a _ _ T6.out.ra l1'.out; (with_reducible refine X.mono ?_); clear X; rintro e w7 ⟨a', c', rfl, ho, hf⟩; have T7 := hid (T6.out.step hf); have R7 := hid (OwnI.rd ho (M := fun _ => False) (fun _ _ h => h)); clear hf ho; obtain ⟨a0, a1', a2', a3, a4, af, al⟩ := five_of T7.out.boxA; obtain ⟨b0, b1, b2, b3, b4, bf, bl⟩ := five_of T7.out.boxB)
          | (go_at_call 13; have X := key_any _ a _ _ T5.out.ra oka.out sma.out T5.out.tab; (with_reducible refine X.mono ?_); clear X; rintro e w6 ⟨rfl, hf⟩; have T6 := hid (T5.out.step hf); clear hf; obtain ⟨a0, a1', a2', a3, a4, af, al⟩ := five_of T6.out.boxA; obtain ⟨b0, b1, b2, b3, b4, bf, bl⟩ := five_of T6.out.boxB)
          | (go_at_call 14; have X := refSame_any _ a b _ _ _ T4.out.ra T4.out.rb l1.out l2.out; (with_reducible refine X.mono ?_); clear X; rintro e w5 ⟨rfl, hf⟩; have T5 := hid (T4.out.step hf); clear hf; obtain ⟨a0, a1', a2', a3, a4, af, al⟩ := five_of T5.out.boxA; obtain ⟨b0, b1, b2, b3, b4, bf, bl⟩ := five_of T5.out.boxB)
          | (go_at_call 13; have X := key_any _ b _ _ T3.out.rb okb.out smb.out T3.out.tab; (with_reducible refine X.mono ?_); clear X; rintro e w4 ⟨rfl, hf⟩; have T4 := hid (T3.out.step hf); clear hf; obtain ⟨a0, a1', a2', a3, a4, af, al⟩ := five_of T4.out.boxA; obtain ⟨b0, b1, b2, b3, b4, bf, bl⟩ := five_of T4.out.boxB)
          | (go_at_call 13; have X := key_any _ a _ _ T2.out.drew.ra oka.out sma.out T2.out.drew.tab; (with_reducible refine X.mono ?_); clear X; rintro e w3 ⟨rfl, hf⟩; have T3 := hid (T2.out.drew.step hf); clear hf; obtain ⟨a0, a1', a2', a3, a4, af, al⟩ := five_of T3.out.boxA; obtain ⟨b0, b1, b2, b3, b4, bf, bl⟩ := five_of T3.out.boxB))
      go_wp2
      go_ret
      exact ⟨rfl, T9.out.fr⟩
    · have d2 := hid (show decide ((b.args.length : Int) ≤ 200 ∧ (b.name.size / 100 : Int) ≤ 200) = false from decide_eq_false g2)
      clear g1 g2
      go_enter Tryd.func3, Tryd.ntmps3
      go_wp2_with fail
      refine (few_any a _ 200 _ _ T0.out.ra na).mono ?_
      rintro e w1 ⟨rfl, hf1⟩
      rw [d1.out]
      have T1 := hid (T0.out.step hf1)
      clear hf1 T0
      obtain ⟨b0, b1, b2, b3, b4, bf, bl⟩ := five_of T1.out.boxB
      go_wp2_with fail
      refine (few_any b _ 200 _ _ T1.out.rb nb).mono ?_
      rintro e w2 ⟨rfl, hf2⟩
      rw [d2.out]
      have T2 := hid (T1.out.step hf2)
      clear hf2 T1 b0 b1 b2 b3 b4 bf bl
      go_wp2_with fail
      refine (live_any _ T2.out.tab).mono ?_
      rintro e w3 ⟨rfl, hf3⟩
      go_wp2
      go_ret
      exact ⟨rfl, T2.out.fr.step hf3⟩
  · have d1 := hid (show decide ((a.args.length : Int) ≤ 200 ∧ (a.name.size / 100 : Int) ≤ 200) = false from decide_eq_false g1)
    clear g1
    go_enter Tryd.func3, Tryd.ntmps3
    go_wp2_with fail
    refine (few_any a _ 200 _ _ T0.out.ra na).mono ?_
    rintro e w1 ⟨rfl, hf1⟩
    rw [d1.out]
    have T1 := hid (T0.out.step hf1)
    clear hf1 T0
    go_wp2_with fail
    refine (live_any _ T1.out.tab).mono ?_
    rintro e w3 ⟨rfl, hf3⟩
    go_wp2
    go_ret
    exact ⟨rfl, T1.out.fr.step hf3⟩

/-- What the walk gives, for every argument and every world that holds the tables. -/
theorem contract (H : Type) (enc : TypeId × Value → H) (W : World) (base : Nat) (args : Array Value) (ds gs : List (DataW H)) (before : List MemPlace)
    (hval : ∀ (j : Nat) t v, Tryd.f3.params[j]? = some t → args[j]? = some v → Value.okWide Tryd.prog W .any base t v)
    (hW : DataW.Whole enc Tryd.prog Tryd.f3.params.toList Rows.hashconsKeysSpec.vars false W args.toList ds gs before) (hL : laidMetH Tryd.prog Rows.hashconsKeysRow.laid W) :
    Calls Tryd.prog 3 args W fun e W' => ∃ v, e = .returned v ∧ Rows.hashconsKeysSpec.post enc Tryd.prog Tryd.f3 false true false false W args v W' := by
  have hW' := hW
  obtain ⟨p, q, hA0, hV, rfl, hfz, hnd⟩ := hW
  have hA : DataW.TrodAll enc Tryd.prog W 0 (fun _ => true) true Tryd.f3.params.toList args.toList ds p := hA0
  rw [Tryd.params3] at hA hval
  obtain ⟨v0, vs0, d0, ds0, p0, q0, hargs, rfl, rfl, h0, r0⟩ := trodAll_cons hA
  obtain ⟨v1, vs1, d1, ds1, p1, q1, rfl, rfl, rfl, h1, r1⟩ := trodAll_cons r0
  obtain ⟨rfl, rfl, rfl⟩ := trodAll_nil r1
  obtain rfl : args = #[v0, v1] := by cases args; simp_all
  obtain ⟨rfl, rfl⟩ := trodVars_none hV
  have lt0 : ∀ x ∈ p0, x.block < W.heap.size := by obtain ⟨m, hm⟩ := h0; exact DataW.trod_lt m _ _ _ hm
  have lt1 : ∀ x ∈ p1, x.block < W.heap.size := by obtain ⟨m, hm⟩ := h1; exact DataW.trod_lt m _ _ _ hm
  have k0 := h0
  have hv0 := hval 0 26 v0 rfl rfl
  have k1 := h1
  have hv1 := hval 1 26 v1 rfl rfl
  obtain ⟨n0, s0, rfl, r0n, ok0, _, nm0⟩ := open_node hv0 h0 (fun k => W.heap.size ≤ k) (fun k hk => by omega)
  obtain ⟨n1, s1, rfl, r1n, ok1, _, nm1⟩ := open_node hv1 h1 (fun k => W.heap.size ≤ k) (fun k hk => by omega)
  clear hA0
  have htab := tab_of_laid hL
  refine (walk n0 n1 s0 s1 W ok0 ok1 r0n r1n htab nm0 nm1).mono fun e W' ⟨he, hf⟩ => ?_
  subst he
  have bel := hf.below
  exact ⟨_, rfl, _, _, _, [], _, [], hW', trodAll_mk1 (shut_bool Tryd.underlying4 _), (trodAll_cons_mk (Below.trod laidOut (by kernel_rfl) (of_decide_eq_true (by kernel_rfl)) k0 bel lt0) (trodAll_cons_mk (Below.trod laidOut (by kernel_rfl) (of_decide_eq_true (by kernel_rfl)) k1 bel lt1) trodAll_mk0)), rfl, bel.frame _, fun h => by cases h⟩

theorem laid_met (os : Os) : laidMet Tryd.prog Rows.hashconsKeysRow.laid ((laidWorld os).forCall (fun _ _ => 0) ⟨#[], #[.agg #[.int .i64 0, .int .i64 0, .int .u64 0, .string ⟨#[]⟩, .slice none 0 0], .agg #[.int .i64 0, .int .i64 0, .int .u64 0, .string ⟨#[]⟩, .slice none 0 0]], []⟩).memory :=
  laidMet_of_run' 8 (by kernel_rfl) (by kernel_rfl)
theorem reads (os : Os) {H : Type} (enc : TypeId × Value → H) : ∃ places, DataW.whole enc Tryd.prog ((laidWorld os).forCall (fun _ _ => 0) ⟨#[], #[.agg #[.int .i64 0, .int .i64 0, .int .u64 0, .string ⟨#[]⟩, .slice none 0 0], .agg #[.int .i64 0, .int .i64 0, .int .u64 0, .string ⟨#[]⟩, .slice none 0 0]], []⟩).memory Tryd.f3.params.toList Rows.hashconsKeysSpec.vars false #[.agg #[.int .i64 0, .int .i64 0, .int .u64 0, .string ⟨#[]⟩, .slice none 0 0], .agg #[.int .i64 0, .int .i64 0, .int .u64 0, .string ⟨#[]⟩, .slice none 0 0]].toList 8 = some ([.agg [.lit (.int .i64 0), .lit (.int .i64 0), .lit (.int .u64 0), .lit (.string []), .nil], .agg [.lit (.int .i64 0), .lit (.int .i64 0), .lit (.int .u64 0), .lit (.string []), .nil]], [], places) :=
  ⟨[], by kernel_rfl⟩

set_option maxRecDepth 100000 in
theorem lifted (os : Os) (started : os.Started) (H : Type) (enc : TypeId × Value → H) (F : Stop.Interp) :
    ReturnsInHanded {} Tryd.checked os 3 .any ((OpenSpec.ofChange Rows.hashconsKeysSpec).preRow enc Tryd.prog Tryd.f3 Rows.hashconsKeysRow.domain false Rows.hashconsKeysRow.laid) (((OpenSpec.ofChange Rows.hashconsKeysSpec).at F).post enc Tryd.prog Tryd.f3 false true false false) := by
  obtain ⟨places, hx⟩ := reads os enc
  refine returnsInHanded_of_row (C := Tryd.checked) (s := OpenSpec.ofChange Rows.hashconsKeysSpec) own started (by kernel_rfl) Tryd.func3
    (witness_row_at (enc := enc) (C := Tryd.checked) false (laidWorld os) #[.agg #[.int .i64 0, .int .i64 0, .int .u64 0, .string ⟨#[]⟩, .slice none 0 0], .agg #[.int .i64 0, .int .i64 0, .int .u64 0, .string ⟨#[]⟩, .slice none 0 0]] rfl (by kernel_rfl) (by kernel_rfl) (by kernel_rfl)
      (OpenSpec.preRow_of_cond 8 hx (by kernel_rfl) (fun k hk => by cases hk) (by kernel_rfl) (laid_met os))) ?_
  intro W base args ds gs before hval hW _ hcond _ hL _ _
  exact contract H enc W base args ds gs before hval hW hL

theorem said : Rows.HashconsKeysSaid :=
  OpenClaim.holds_of_cond 3 Tryd.f3 rfl rfl rfl rfl rfl rfl rfl ⟨rfl, rfl, rfl, rfl, rfl⟩ rfl rfl rfl rfl rfl (by kernel_rfl) Tryd.func3 (by kernel_rfl)
    (of_decide_eq_true (by kernel_rfl)) (by unfold Func.isWrapper; first | (rw [if_pos (by decide +kernel)]; kernel_rfl) | (rw [if_neg (by decide +kernel)]; exact ⟨rfl, rfl⟩))
    (fun os started H enc _ F => by rw [OpenClaim.pre_eq_preRow]; exact lifted os started H enc F)

theorem plain (f : FuncId) (fn : Func) (hf : Tryd.pinned.checked.prog.funcNamed "saturate/saturatelaw16.HashconsKeys" = some f) (hfn : Tryd.pinned.checked.prog.funcs[f]? = some fn) :
    false = Tryd.pinned.checked.prog.looks [] ∧ ∀ (j : Nat) t, fn.params[j]? = some t → Tryd.pinned.checked.prog.wantsStandIn t = false := by
  obtain rfl : f = 3 := Option.some.inj ((show Tryd.prog.funcNamed "saturate/saturatelaw16.HashconsKeys" = some 3 by kernel_rfl).symm.trans hf) |>.symm
  obtain rfl : fn = Tryd.f3 := (Option.some.inj (Tryd.func3.symm.trans hfn)).symm
  refine ⟨by kernel_rfl, fun j t ht => ?_⟩
  rw [Tryd.params3] at ht
  have hm : t ∈ [26, 26] := by have := Array.mem_of_getElem? ht; simpa using this
  have q0 : Tryd.prog.wantsStandIn 26 = false := by kernel_rfl
  simp only [List.mem_cons, List.not_mem_nil, or_false] at hm
  rcases hm with rfl | rfl
  · exact q0
  · exact q0

theorem card : Rows.HashconsKeysCardSaid :=
  Claim7.holds_tied_plain_at .later [] _ _ _ _ said (fun _ h => by cases h) (by kernel_rfl) (fun _ h => by cases h) hashconsKeys_row_tie rfl ⟨rfl, rfl⟩ (by kernel_rfl) rfl plain (by kernel_rfl)
#print axioms card

end Go.Proofs.YtkifedleajacpaaDoor.LawKeys
