/- HashconsNil: for every node and id a nil hashcons.Table, and one that New did not make, have no entries and take none. Condition: the three listed tables of Go's library hold what the program's text lays in them (the card ties this). -/
import Derived.Test.YtkifedleajacpaaDoorCards
import Derived.Test.YtkifedleajacpaaDoorTie
import Derived.Test.YtkifedleajacpaaDoorOpen
import Derived.Test.YtkifedleajacpaaDoorTwo
import Derived.Test.YtkifedleajacpaaDoorTabNil
import Derived.SevenTiedAt
namespace Go.Proofs.YtkifedleajacpaaDoor.LawNil
open Go.ChangeShapes Go.WideShapes Go.ChangeAt Go.RowKit
set_option maxRecDepth 100000

set_option maxHeartbeats 2000000 in
theorem walk (n : Node) (v : Value) (i : Int) (w : World) (hn : RdI (fun k => w.heap.size ≤ k) w v n.args) (ht : Tab w) :
    Calls Tryd.prog 10 #[nodeV n v, .int .i64 i] w fun e w' => e = .returned (.bool true) ∧ Fr NoB w w' := by
  have T0 := hid (One.start hn ht)
  obtain ⟨a1, cap, rfl⟩ := hn.form
  clear hn ht
  unfold nodeV
  go_enter Tryd.func10, Tryd.ntmps10
  go_wp2
  go_loopw [5, 6] (fun t j wr => ∃ (k : Nat) (p : Option Addr), k ≤ 2 ∧ t = .pointer p ∧ j = .int .i64 k ∧ Unmade wr p ∧ One w n (.slice a1 n.args.length cap) wr) (fun _ j _ => 2 - (intOf j).toNat)
  case atStart => exact ⟨0, none, by omega, rfl, rfl, .inl rfl, T0.out⟩
  case round =>
    obtain ⟨k, p, hk, rfl, rfl, hu, ho⟩ := hrel
    have T1 := hid ho
    have U1 := hid hu
    clear ho hu
    obtain ⟨a0, a1', a2', a3', a4, af, al⟩ := five_of T1.out.boxA
    by_cases hlt : k < 2
    · go_wp2_with fail
      refine (get_un _ p U1.out n _).mono ?_
      rintro e w2 ⟨rfl, hf⟩
      have T2 := hid (T1.out.step hf)
      have U2 := hid (U1.out.fr hf)
      clear hf a0 a1' a2' a3' a4 af al
      obtain ⟨a0, a1', a2', a3', a4, af, al⟩ := five_of T2.out.boxA
      go_wp2_with fail
      refine (put_un _ p U2.out n _ _).mono ?_
      rintro e w3 ⟨rfl, hf⟩
      have T3 := hid (T2.out.step hf)
      have U3 := hid (U2.out.fr hf)
      clear hf a0 a1' a2' a3' a4 af al
      obtain ⟨a0, a1', a2', a3', a4, af, al⟩ := five_of T3.out.boxA
      go_wp2_with fail
      refine (del_un _ p U3.out n _).mono ?_
      rintro e w4 ⟨rfl, hf⟩
      have T4 := hid (T3.out.step hf)
      have U4 := hid (U3.out.fr hf)
      clear hf a0 a1' a2' a3' a4 af al
      obtain ⟨a0, a1', a2', a3', a4, af, al⟩ := five_of T4.out.boxA
      go_wp2_with fail
      refine (len_un _ p U4.out).mono ?_
      rintro e w5 ⟨rfl, rfl⟩
      go_wp2_with fail
      refine (nodes_un _ p U4.out).mono ?_
      rintro e w6 ⟨rfl, rfl⟩
      go_wp2
      go_roundw
      case rel => exact ⟨k + 1, _, by omega, rfl, by go_num, .inr ⟨_, rfl, at_new _ _⟩, T4.out.step ((Fr.refl NoB _).alloc _)⟩
      case measure => simp [intOf]; omega
    · go_wp2_with fail
      refine (live_any _ T1.out.tab).mono ?_
      rintro e w3 ⟨rfl, hf3⟩
      go_wp2
      go_ret
      exact ⟨rfl, T1.out.fr.step hf3⟩

-- ROW
/-- What the walk gives, for every argument and every world that holds the tables. -/
theorem contract (H : Type) (enc : TypeId × Value → H) (W : World) (base : Nat) (args : Array Value) (ds gs : List (DataW H)) (before : List MemPlace)
    (hval : ∀ (j : Nat) t v, Tryd.f10.params[j]? = some t → args[j]? = some v → Value.okWide Tryd.prog W .any base t v)
    (hW : DataW.Whole enc Tryd.prog Tryd.f10.params.toList Rows.hashconsNilSpec.vars false W args.toList ds gs before) (hL : laidMetH Tryd.prog Rows.hashconsNilRow.laid W) :
    Calls Tryd.prog 10 args W fun e W' => ∃ v, e = .returned v ∧ Rows.hashconsNilSpec.post enc Tryd.prog Tryd.f10 false true false false W args v W' := by
  have hW' := hW
  obtain ⟨p, q, hA0, hV, rfl, hfz, hnd⟩ := hW
  have hA : DataW.TrodAll enc Tryd.prog W 0 (fun _ => true) true Tryd.f10.params.toList args.toList ds p := hA0
  rw [Tryd.params10] at hA hval
  obtain ⟨v0, vs0, d0, ds0, p0, q0, hargs, rfl, rfl, h0, r0⟩ := trodAll_cons hA
  obtain ⟨v1, vs1, d1, ds1, p1, q1, rfl, rfl, rfl, h1, r1⟩ := trodAll_cons r0
  obtain ⟨rfl, rfl, rfl⟩ := trodAll_nil r1
  obtain rfl : args = #[v0, v1] := by cases args; simp_all
  obtain ⟨rfl, rfl⟩ := trodVars_none hV
  have lt0 : ∀ x ∈ p0, x.block < W.heap.size := by obtain ⟨m, hm⟩ := h0; exact DataW.trod_lt m _ _ _ hm
  have lt1 : ∀ x ∈ p1, x.block < W.heap.size := by obtain ⟨m, hm⟩ := h1; exact DataW.trod_lt m _ _ _ hm
  have k0 := h0
  have hv0 := hval 0 26 v0 rfl rfl
  have k1 := h1
  have hv1 := hval 1 3 v1 rfl rfl
  obtain ⟨n0, s0, rfl, r0n, ok0, _, nm0⟩ := open_node hv0 h0 (fun k => W.heap.size ≤ k) (fun k hk => by omega)
  obtain ⟨z1, rfl, _, _, wz1⟩ := open_int Tryd.underlying3 hv1 h1
  clear hA0
  have htab := tab_of_laid hL
  refine (walk n0 s0 z1 W r0n htab).mono fun e W' ⟨he, hf⟩ => ?_
  subst he
  have bel := hf.below
  exact ⟨_, rfl, _, _, _, [], _, [], hW', trodAll_mk1 (shut_bool Tryd.underlying4 _), (trodAll_cons_mk (Below.trod laidOut (by kernel_rfl) (of_decide_eq_true (by kernel_rfl)) k0 bel lt0) (trodAll_cons_mk (Below.trod laidOut (by kernel_rfl) (of_decide_eq_true (by kernel_rfl)) k1 bel lt1) trodAll_mk0)), rfl, bel.frame _, fun h => by cases h⟩

theorem laid_met (os : Os) : laidMet Tryd.prog Rows.hashconsNilRow.laid ((laidWorld os).forCall (fun _ _ => 0) ⟨#[], #[.agg #[.int .i64 0, .int .i64 0, .int .u64 0, .string ⟨#[]⟩, .slice none 0 0], .int .i64 0], []⟩).memory :=
  laidMet_of_run' 8 (by kernel_rfl) (by kernel_rfl)
theorem reads (os : Os) {H : Type} (enc : TypeId × Value → H) : ∃ places, DataW.whole enc Tryd.prog ((laidWorld os).forCall (fun _ _ => 0) ⟨#[], #[.agg #[.int .i64 0, .int .i64 0, .int .u64 0, .string ⟨#[]⟩, .slice none 0 0], .int .i64 0], []⟩).memory Tryd.f10.params.toList Rows.hashconsNilSpec.vars false #[.agg #[.int .i64 0, .int .i64 0, .int .u64 0, .string ⟨#[]⟩, .slice none 0 0], .int .i64 0].toList 8 = some ([.agg [.lit (.int .i64 0), .lit (.int .i64 0), .lit (.int .u64 0), .lit (.string []), .nil], .lit (.int .i64 0)], [], places) :=
  ⟨[], by kernel_rfl⟩

set_option maxRecDepth 100000 in
theorem lifted (os : Os) (started : os.Started) (H : Type) (enc : TypeId × Value → H) (F : Stop.Interp) :
    ReturnsInHanded {} Tryd.checked os 10 .any ((OpenSpec.ofChange Rows.hashconsNilSpec).preRow enc Tryd.prog Tryd.f10 Rows.hashconsNilRow.domain false Rows.hashconsNilRow.laid) (((OpenSpec.ofChange Rows.hashconsNilSpec).at F).post enc Tryd.prog Tryd.f10 false true false false) := by
  obtain ⟨places, hx⟩ := reads os enc
  refine returnsInHanded_of_row (C := Tryd.checked) (s := OpenSpec.ofChange Rows.hashconsNilSpec) own started (by kernel_rfl) Tryd.func10
    (witness_row_at (enc := enc) (C := Tryd.checked) false (laidWorld os) #[.agg #[.int .i64 0, .int .i64 0, .int .u64 0, .string ⟨#[]⟩, .slice none 0 0], .int .i64 0] rfl (by kernel_rfl) (by kernel_rfl) (by kernel_rfl)
      (OpenSpec.preRow_of_cond 8 hx (by kernel_rfl) (fun k hk => by cases hk) (by kernel_rfl) (laid_met os))) ?_
  intro W base args ds gs before hval hW _ hcond _ hL _ _
  exact contract H enc W base args ds gs before hval hW hL

theorem said : Rows.HashconsNilSaid :=
  OpenClaim.holds_of_cond 10 Tryd.f10 rfl rfl rfl rfl rfl rfl rfl ⟨rfl, rfl, rfl, rfl, rfl⟩ rfl rfl rfl rfl rfl (by kernel_rfl) Tryd.func10 (by kernel_rfl)
    (of_decide_eq_true (by kernel_rfl)) (by unfold Func.isWrapper; first | (rw [if_pos (by decide +kernel)]; kernel_rfl) | (rw [if_neg (by decide +kernel)]; exact ⟨rfl, rfl⟩))
    (fun os started H enc _ F => by rw [OpenClaim.pre_eq_preRow]; exact lifted os started H enc F)

theorem plain (f : FuncId) (fn : Func) (hf : Tryd.pinned.checked.prog.funcNamed "saturate/saturatelaw16.HashconsNil" = some f) (hfn : Tryd.pinned.checked.prog.funcs[f]? = some fn) :
    false = Tryd.pinned.checked.prog.looks [] ∧ ∀ (j : Nat) t, fn.params[j]? = some t → Tryd.pinned.checked.prog.wantsStandIn t = false := by
  obtain rfl : f = 10 := Option.some.inj ((show Tryd.prog.funcNamed "saturate/saturatelaw16.HashconsNil" = some 10 by kernel_rfl).symm.trans hf) |>.symm
  obtain rfl : fn = Tryd.f10 := (Option.some.inj (Tryd.func10.symm.trans hfn)).symm
  refine ⟨by kernel_rfl, fun j t ht => ?_⟩
  rw [Tryd.params10] at ht
  have hm : t ∈ [26, 3] := by have := Array.mem_of_getElem? ht; simpa using this
  have q0 : Tryd.prog.wantsStandIn 26 = false := by kernel_rfl
  have q1 : Tryd.prog.wantsStandIn 3 = false := by kernel_rfl
  simp only [List.mem_cons, List.not_mem_nil, or_false] at hm
  rcases hm with rfl | rfl
  · exact q0
  · exact q1

theorem card : Rows.HashconsNilCardSaid :=
  Claim7.holds_tied_plain_at .later [] _ _ _ _ said (fun _ h => by cases h) (by kernel_rfl) (fun _ h => by cases h) hashconsNil_row_tie rfl ⟨rfl, rfl⟩ (by kernel_rfl) rfl plain (by kernel_rfl)
#print axioms card

end Go.Proofs.YtkifedleajacpaaDoor.LawNil
