import Derived.Test.YtlekoceindepnaaGreatDoorPk2
import Derived.Test.YtlekoceindepnaaGreatDoorPk7
import Derived.ChangeSame
import Derived.Deep.DeepHandedRow
import Derived.Deep.Fields
import Derived.Deep.Slices
import Derived.Lib.LaidTab
import Derived.Lib.SmallJoins
import Derived.OpenShut
import Derived.ProofKit
import Derived.Test.YtlekoceindepnaaGreatDoorRows
set_option linter.all false
section
/- The walk of the chapter's example. -/
namespace Go.Proofs.YtlekoceindepnaaGreatDoor
open Go.RowKit
set_option maxRecDepth 100000

namespace Lv
def g6x : GS := (addS g6 nX).1
def g6y : GS := (unionG g6x 0 9 5).1
def g7y : GS := undoS g6y 0
theorem k0 : sokB GS.new = true := by decide +kernel
theorem k1 : sokB g1 = true := by decide +kernel
theorem k2 : sokB g2 = true := by decide +kernel
theorem k3 : sokB g3 = true := by decide +kernel
theorem k4 : sokB g4 = true := by decide +kernel
theorem km : sokB gm = true := by decide +kernel
theorem ku : sokB gu = true := by decide +kernel
theorem k6 : sokB g6 = true := by decide +kernel
theorem k6x : sokB g6x = true := by decide +kernel
theorem k6y : sokB g6y = true := by decide +kernel
theorem em : g4.marks.length = 0 := by decide +kernel
theorem er : rebuildF 10 gu 0 = some gr := by
  have h := e6
  unfold gr
  cases hx : rebuildF 10 gu 0 with
  | none => rw [hx] at h; cases h
  | some r => rfl
theorem a1 : (addS GS.new nA).2.1 = 0 ∧ (addS GS.new nA).2.2 = 0 := by decide +kernel
theorem a2 : (addS g1 nB).2.1 = 1 ∧ (addS g1 nB).2.2 = 0 := by decide +kernel
theorem a3 : (addS g2 nC).2.1 = 2 ∧ (addS g2 nC).2.2 = 0 := by decide +kernel
theorem a4 : (addS g3 nD).2.1 = 3 ∧ (addS g3 nD).2.2 = 0 := by decide +kernel
theorem a5 : (unionG gm 0 1 5).2.1 = true ∧ (unionG gm 0 1 5).2.2 = 0 := by decide +kernel
theorem a6 : (addS g6 nX).2.1 = 0 ∧ (addS g6 nX).2.2 = 3 := by decide +kernel
theorem a7 : (unionG g6x 0 9 5).2.1 = false ∧ (unionG g6x 0 9 5).2.2 = 2 := by decide +kernel
theorem a8 : pWalk g6y.links (3 : Nat) 10 (2 : Nat) (-1) = some (some [⟨2, 3, -1⟩]) := by kernel_rfl
theorem a9 : g6y.lr (2 : Nat) = g6y.lr (3 : Nat) := by decide +kernel
theorem b1 : findS gu.uf.par 3 = 3 := by decide +kernel
theorem b2 : gu.dirty = true := by decide +kernel
theorem b3 : findS g6y.uf.par 3 = 2 := by decide +kernel
theorem b4 : g6y.dirty = false := by decide +kernel
theorem b5 : (rootsS g6y.uf.par).length = 2 := by decide +kernel
theorem b6 : g6y.nodes.length = 4 := by decide +kernel
theorem b7 : g6y.marks.length = 1 := by decide +kernel
theorem b8 : (rootsS g7y.uf.par).length = 4 := by decide +kernel
theorem b9 : g7y.marks.length = 0 := by decide +kernel
end Lv
theorem leaf18_any (s : ByteArray) (w : World) : Calls Tryz.prog 5 #[.string s] w fun e w' => e = .returned (nodeV ⟨1, 8, 0, s, []⟩ (.slice none 0 0)) ∧ Fr NoB w w' := by
  obtain ⟨r0, r1, r2, r3, r4, rf, rl⟩ := five_of (at_new w (.cells #[.int .i64 1, .int .i64 8, .int .u64 0, .string s, .slice none 0 0] 30))
  go_enter Tryz.func5, Tryz.ntmps5
  go_wp2
  refine bodyPost_ret (v := nodeV ⟨1, 8, 0, s, []⟩ (.slice none 0 0)) (by simp [results, Tryz.results5, go_sem, r0, r1, r2, r3, r4, nodeV]) rfl ?_
  exact ⟨rfl, (Fr.refl NoB w).alloc _⟩
theorem not18_any (x : Int) (w : World) : Calls Tryz.prog 51 #[.int .i64 x] w fun e w' => ∃ p q, e = .returned (nodeV ⟨3, 8, 0, ⟨#[]⟩, [x]⟩ (.slice p 1 q)) ∧ OwnI w.heap.size w' (.slice p 1 q) [x] ∧ Fr NoB w w' := by
  go_enter Tryz.func51, Tryz.ntmps51
  obtain ⟨r0, r1, r2, r3, r4, rf, rl⟩ := five_of (at_old (at_new w (.cells #[.int .i64 3, .int .i64 8, .int .u64 0, .string ⟨#[]⟩, .slice (some ⟨w.heap.size + 1, 0, none⟩) 1 1] 30)) (.cells #[.int .i64 x] 3))
  have HO : Hid (OwnI w.heap.size ((w.alloc (.cells #[.int .i64 3, .int .i64 8, .int .u64 0, .string ⟨#[]⟩, .slice (some ⟨w.heap.size + 1, 0, none⟩) 1 1] 30)).alloc (.cells #[.int .i64 x] 3)) (.slice (some ⟨w.heap.size + 1, 0, none⟩) 1 1) [x]) := by
    have h := OwnI.lit w.heap.size (w.alloc (.cells #[.int .i64 3, .int .i64 8, .int .u64 0, .string ⟨#[]⟩, .slice (some ⟨w.heap.size + 1, 0, none⟩) 1 1] 30)) [x] (by simp only [World.size_alloc]; omega) (by simp)
    rw [World.size_alloc] at h
    exact h
  go_wp2
  refine bodyPost_ret (v := nodeV ⟨3, 8, 0, ⟨#[]⟩, [x]⟩ (.slice (some ⟨w.heap.size + 1, 0, none⟩) 1 1)) (by simp [results, Tryz.results51, go_sem, r0, r1, r2, r3, r4, nodeV]) rfl ?_
  exact ⟨_, _, rfl, HO.out, ((Fr.refl NoB w).alloc _).alloc _⟩
theorem eqlPtrG (w : World) (r : Option Addr) : (binOp .eql 22 (.pointer r) (.pointer none)).run Tryz.prog w = .ok (.bool r.isNone) w := by
  cases r <;> kernel_rfl
set_option maxHeartbeats 4000000 in
theorem lives18_any (w : World) (ht : Tab w) : Calls Tryz.prog 24 #[] w fun e w' => e = .returned (.bool true) ∧ Fr NoB w w' := by
  have HT := hid ht
  have ep := eqlPtrG
  clear ht
  go_enter Tryz.func24, Tryz.ntmps24
  go_wp2_with fail
  refine (gs_new w).mono ?_
  rintro e w0 ⟨bg, rfl, g⟩
  have G0 := hid g
  clear g
  go_wp2_with fail
  refine (leaf18_any _ _).mono ?_
  rintro e w1a ⟨rfl, hf⟩
  have HF := hid hf
  
  clear hf 
  go_wp2_with fail
  have X := gs_add G0.out HT.out (sokB_ok Lv.k0) HF.out Lv.nA (.slice none 0 0) (.inl ⟨⟨none, 0, rfl, fun _ => rfl⟩, rfl⟩) (nodeOkB_ok (by decide +kernel)).1 (nodeOkB_ok (by decide +kernel)).2
  rw [Lv.a1.1, Lv.a1.2] at X
  refine X.mono ?_
  clear X
  rintro e w1 ⟨rfl, g⟩
  have G1 : Hid (GrS w w1 bg Lv.g1) := g
  clear g HF 
  go_wp2_with fail
  refine (leaf18_any _ _).mono ?_
  rintro e w2a ⟨rfl, hf⟩
  have HF := hid hf
  
  clear hf 
  go_wp2_with fail
  have X := gs_add G1.out HT.out (sokB_ok Lv.k1) HF.out Lv.nB (.slice none 0 0) (.inl ⟨⟨none, 0, rfl, fun _ => rfl⟩, rfl⟩) (nodeOkB_ok (by decide +kernel)).1 (nodeOkB_ok (by decide +kernel)).2
  rw [Lv.a2.1, Lv.a2.2] at X
  refine X.mono ?_
  clear X
  rintro e w2 ⟨rfl, g⟩
  have G2 : Hid (GrS w w2 bg Lv.g2) := g
  clear g HF 
  go_wp2_with fail
  refine (not18_any _ _).mono ?_
  rintro e w3a ⟨p, q, rfl, ho, hf⟩
  have HF := hid hf
  have HO := hid ho
  clear hf ho
  go_wp2_with fail
  have X := gs_add G2.out HT.out (sokB_ok Lv.k2) HF.out Lv.nC (.slice p 1 q) ((OwnI.rd HO.out (fun k h1 h2 => Nat.not_lt.2 h1 h2.1))) (nodeOkB_ok (by decide +kernel)).1 (nodeOkB_ok (by decide +kernel)).2
  rw [Lv.a3.1, Lv.a3.2] at X
  refine X.mono ?_
  clear X
  rintro e w3 ⟨rfl, g⟩
  have G3 : Hid (GrS w w3 bg Lv.g3) := g
  clear g HF HO
  go_wp2_with fail
  refine (not18_any _ _).mono ?_
  rintro e w4a ⟨p, q, rfl, ho, hf⟩
  have HF := hid hf
  have HO := hid ho
  clear hf ho
  go_wp2_with fail
  have X := gs_add G3.out HT.out (sokB_ok Lv.k3) HF.out Lv.nD (.slice p 1 q) ((OwnI.rd HO.out (fun k h1 h2 => Nat.not_lt.2 h1 h2.1))) (nodeOkB_ok (by decide +kernel)).1 (nodeOkB_ok (by decide +kernel)).2
  rw [Lv.a4.1, Lv.a4.2] at X
  refine X.mono ?_
  clear X
  rintro e w4 ⟨rfl, g⟩
  have G4 : Hid (GrS w w4 bg Lv.g4) := g
  clear g HF HO
  go_wp2_with fail
  have X := gs_mark G4.out HT.out (sokB_ok Lv.k4)
  rw [Lv.em] at X
  refine X.mono ?_
  clear X
  rintro e w5 ⟨rfl, g⟩
  have GM : Hid (GrS w w5 bg Lv.gm) := g
  clear g
  go_wp2_with fail
  have X := gs_union GM.out HT.out (sokB_ok Lv.km) 0 1 5
  rw [Lv.a5.1, Lv.a5.2] at X
  refine X.mono ?_
  clear X
  rintro e w6 ⟨rfl, g⟩
  have GU : Hid (GrS w w6 bg Lv.gu) := g
  clear g
  go_wp2_with fail
  have X := gs_dirty GU.out
  rw [Lv.b2] at X
  refine X.mono ?_
  clear X
  rintro e w7 ⟨rfl, h9⟩
  subst h9
  go_wp2_with fail
  have X := gs_find GU.out 3
  rw [Lv.b1] at X
  refine X.mono ?_
  clear X
  rintro e w6 ⟨rfl, h9⟩
  subst h9
  go_wp2_with fail
  have X := gs_rebuild GU.out HT.out (sokB_ok Lv.ku) 10 Lv.gr Lv.er
  rw [Lv.e6b] at X
  refine X.mono ?_
  clear X
  rintro e w8 ⟨rfl, g⟩
  have G6 : Hid (GrS w w8 bg Lv.g6) := g
  clear g
  go_wp2_with fail
  have X := gs_add G6.out HT.out (sokB_ok Lv.k6) ((Fr.refl NoB w8).alloc (.cells #[.int .i64 0] 3)) Lv.nX (.slice (some ⟨w8.heap.size, 0, none⟩) 1 1) (rdI_lit' (l := [(0 : Int)]) rfl rfl rfl (fun h => Nat.lt_irrefl _ h.1)) (nodeOkB_ok (by decide +kernel)).1 (nodeOkB_ok (by decide +kernel)).2
  rw [Lv.a6.1, Lv.a6.2] at X
  refine X.mono ?_
  clear X
  rintro e w9 ⟨rfl, g⟩
  have G6X : Hid (GrS w w9 bg Lv.g6x) := g
  clear g
  go_wp2_with fail
  have X := gs_union G6X.out HT.out (sokB_ok Lv.k6x) 0 9 5
  rw [Lv.a7.1, Lv.a7.2] at X
  refine X.mono ?_
  clear X
  rintro e w10 ⟨rfl, g⟩
  have GY : Hid (GrS w w10 bg Lv.g6y) := g
  clear g
  go_wp2_with fail
  refine (gs_path_yes GY.out HT.out 2 3 (by rw [Lv.b6]; decide) (by rw [Lv.b6]; decide) Lv.a9 10 _ Lv.a8 (by decide)).mono ?_
  rintro e w11 ⟨p, q, rfl, hr, g⟩
  have GP : Hid (GrS w w11 bg Lv.g6y) := g
  have RP := hid (RdE.weaken (M := NoB) hr (fun _ _ e => e.elim))
  clear g hr
  simp only [Option.getD_some, List.length_singleton] at RP ⊢
  go_wp2_with fail
  have X := gs_find GP.out 3
  rw [Lv.b3] at X
  refine X.mono ?_
  clear X
  rintro e w12 ⟨rfl, h9⟩
  subst h9
  go_wp2_with fail
  have X := gs_dirty GP.out
  rw [Lv.b4] at X
  refine X.mono ?_
  clear X
  rintro e w11 ⟨rfl, h9⟩
  subst h9
  go_wp2_with fail
  have X := gs_count GP.out
  rw [Lv.b5] at X
  refine X.mono ?_
  clear X
  rintro e w13 ⟨rfl, g, hf⟩
  have GQ : Hid (GrS w w13 bg Lv.g6y) := g
  have RQ := hid (RP.out.fr hf (fun _ _ e => e.elim))
  clear g hf
  go_wp2_with fail
  have X := gs_len GQ.out
  rw [Lv.b6] at X
  refine X.mono ?_
  clear X
  rintro e w14 ⟨rfl, h9⟩
  subst h9
  obtain ⟨bl, ofl, hpp, -, q0, q1, q2⟩ := RQ.out.lkK (k := 0) (by decide)
  subst hpp
  simp only [List.getElem_cons_zero, Nat.zero_mul, Nat.add_zero] at q0 q1 q2
  have lbl := lt_of_cell q0
  go_wp2_with fail
  refine (gs_undo GQ.out HT.out (sokB_ok Lv.k6y) 0 (by rw [Lv.b7]; decide)).mono ?_
  rintro e w15 ⟨rfl, g⟩
  have G7 : Hid (GrS w w15 bg Lv.g7y) := g
  clear g q0 q1 q2 lbl
  go_wp2_with fail
  have X := gs_count G7.out
  rw [Lv.b8] at X
  refine X.mono ?_
  clear X
  rintro e w16 ⟨rfl, g, hf⟩
  have G8 : Hid (GrS w w16 bg Lv.g7y) := g
  clear g hf
  go_wp2_with fail
  refine (gs_undo_out G8.out HT.out 0 (by rw [Lv.b9]; decide)).mono ?_
  rintro e w17 ⟨rfl, g⟩
  have G9 := hid g.fr
  clear g
  go_wp2
  go_ret
  exact ⟨rfl, G9.out⟩
end Go.Proofs.YtlekoceindepnaaGreatDoor
end
section
/- What all rows of this seat share: opening a node that came in, the table off the row's list, a world for the witness. -/
set_option maxRecDepth 100000
namespace Go.Proofs.YtlekoceindepnaaGreatDoor
open Go.ChangeShapes Go.WideShapes Go.ChangeAt Go.RowKit Go.Joins Go.Deep
open Go.ChangeMaps (open_string shut_string)

theorem own : ownKnob Tryz.prog.godebug = none := by kernel_rfl
theorem laidOut : laidOutB Tryz.prog = true := by kernel_rfl

section
variable {H : Type} {enc : TypeId × Value → H} {P : Program} {w : World} {base : Nat} {spare : Nat → Bool} {held : Bool}
theorem open_agg5 {r : Reach} {b0 : Nat} {t : TypeId} {f0 f1 f2 f3 f4 : Field} {v : Value} {d : DataW H} {p : List MemPlace} (hs : P.underlying t = some (.struct #[f0, f1, f2, f3, f4])) (hone : oneCellFields P #[f0, f1, f2, f3, f4] = true) (hC : P.cellsOf t = 5)
    (hv : Value.okWide P w r b0 t v) (h : DataW.Trod enc P w base spare held t v d p) :
    ∃ (v0 v1 v2 v3 v4 : Value) (y0 y1 y2 y3 y4 : DataW H × List MemPlace) (n : Nat), v = .agg #[v0, v1, v2, v3, v4] ∧ d = .agg [y0.1, y1.1, y2.1, y3.1, y4.1] ∧ p = y0.2 ++ (y1.2 ++ (y2.2 ++ (y3.2 ++ y4.2))) ∧
      DataW.trod enc P w base spare held n f0.type [v0] = some y0 ∧ DataW.trod enc P w base spare held n f1.type [v1] = some y1 ∧ DataW.trod enc P w base spare held n f2.type [v2] = some y2 ∧ DataW.trod enc P w base spare held n f3.type [v3] = some y3 ∧ DataW.trod enc P w base spare held n f4.type [v4] = some y4 := by
  obtain ⟨cs, rfl, hsz⟩ := okWide_struct hs hv
  obtain ⟨l⟩ := cs
  match l, hsz.trans hC with
  | [c0, c1, c2, c3, c4], _ =>
    obtain ⟨fuel, hf⟩ := h
    obtain ⟨xs, n, _, hx, _, hlen, hg⟩ := DataW.trod_struct hs hf
    obtain ⟨o0, k0⟩ := hone_of hone 0 f0 rfl
    obtain ⟨o1, k1⟩ := hone_of hone 1 f1 rfl
    obtain ⟨o2, k2⟩ := hone_of hone 2 f2 rfl
    obtain ⟨o3, k3⟩ := hone_of hone 3 f3 rfl
    obtain ⟨o4, k4⟩ := hone_of hone 4 f4 rfl
    match xs, hlen with
    | [y0, y1, y2, y3, y4], _ =>
      simp only [Prod.mk.injEq] at hx
      exact ⟨c0, c1, c2, c3, c4, y0, y1, y2, y3, y4, n, rfl, by simpa using hx.1, by simpa using hx.2, by simpa [Value.cells, o0, k0] using hg 0 f0 rfl, by simpa [Value.cells, o1, k1] using hg 1 f1 rfl, by simpa [Value.cells, o2, k2] using hg 2 f2 rfl, by simpa [Value.cells, o3, k3] using hg 3 f3 rfl, by simpa [Value.cells, o4, k4] using hg 4 f4 rfl⟩
end

theorem cellsInt : Tryz.prog.cellsOf 3 = 1 := by kernel_rfl
theorem cellsNode : Tryz.prog.cellsOf 30 = 5 := by kernel_rfl

theorem i64ok_of_wf {x : Int} (h : (Lit.int .i64 x).wf = true) : i64ok x := by
  have := bounds_i64 h; omega

section
variable {H : Type} {enc : TypeId × Value → H} {w : World} {base : Nat} {spare : Nat → Bool} {held : Bool}
/-- A slice of integers, out of its reading. -/
theorem rdI_of_trod {fuel : Nat} {v : Value} {x : DataW H × List MemPlace} (h : DataW.trod enc Tryz.prog w base spare held fuel 28 [v] = some x) (M : Nat → Prop) (hM : ∀ k, k < w.heap.size → ¬ M k) :
    ∃ l : List Int, RdI M w v l ∧ l.length ≤ 9223372036854775807 ∧ ∀ i, i < l.length → i64ok (l.getD i 0) := by
  rcases open_ints Tryz.underlying28 Tryz.underlying3 cellsInt h with ⟨hcs, _⟩ | ⟨a, len, cap, zs, hcs, _, hl, hm, hz, hx, hcell, hwz⟩
  · simp at hcs
    exact ⟨[], .inl ⟨⟨none, 0, hcs, fun _ => rfl⟩, rfl⟩, by simp, fun i hi => by simp at hi⟩
  · simp at hcs
    subst hcs
    unfold maxLen at hm
    have hzl : len ≤ zs.length := by rw [hz]; split <;> omega
    have hzt : (zs.take len).length = len := by simp; omega
    have hget : ∀ i, i < len → (zs.take len).getD i 0 = zs.getD i 0 := fun i hi => by
      rw [List.getD_eq_getElem?_getD, List.getElem?_take, if_pos hi, ← List.getD_eq_getElem?_getD]
    have hok : ∀ i, i < (zs.take len).length → i64ok ((zs.take len).getD i 0) := fun i hi => by
      rw [hzt] at hi
      rw [hget i hi, getD_eq (by omega)]
      exact i64ok_of_wf (hwz _ (List.getElem_mem _))
    by_cases h0 : len = 0
    · subst h0
      exact ⟨[], .inl ⟨⟨some a, cap, rfl, fun h => by cases h⟩, rfl⟩, by simp, fun i hi => by simp at hi⟩
    · obtain ⟨b, off, spot⟩ := a
      have hc0 := hcell 0 (by omega)
      have hsp : spot = none := by simpa [Addr.add] using World.cell?_spot hc0
      subst hsp
      have hlt : b < w.heap.size := by simpa [Addr.add] using World.block_lt_of_cell? w _ hc0
      refine ⟨zs.take len, .inr ⟨b, off, cap, by rw [hzt], hlt, hM b hlt, by rw [hzt]; exact hl, fun i hi => ?_⟩, by omega, hok⟩
      rw [hzt] at hi
      have := hcell i (by omega)
      rw [hget i hi]
      have e : (⟨b, off, none⟩ : Addr).add i = ⟨b, off + i, none⟩ := by unfold Addr.add; split <;> simp_all
      rw [← e]; exact this

theorem u64b {x : Int} (h : (Lit.int .u64 x).wf = true) : 0 ≤ x ∧ x < 18446744073709551616 := by have := bounds_u64 h; omega
theorem strlen {n : Nat} (h : n ≤ maxLen) : n ≤ 9223372036854775807 := by unfold maxLen at h; omega

/-- A node that came in. -/
theorem open_node {r : Reach} {b0 : Nat} {v : Value} {d : DataW H} {p : List MemPlace} (hv : Value.okWide Tryz.prog w r b0 30 v) (h : DataW.Trod enc Tryz.prog w base spare held 30 v d p) (M : Nat → Prop) (hM : ∀ k, k < w.heap.size → ¬ M k) :
    ∃ (n : Node) (s : Value), v = nodeV n s ∧ RdI M w s n.args ∧ NodeOk n ∧ n.args.length ≤ 9223372036854775807 ∧ n.name.size ≤ 9223372036854775807 := by
  obtain ⟨v0, v1, v2, v3, v4, y0, y1, y2, y3, y4, m, rfl, rfl, rfl, h0, h1, h2, h3, h4⟩ := open_agg5 Tryz.underlying30 (by kernel_rfl) cellsNode hv h
  obtain ⟨n0, e0, _, q0⟩ := DataW.trod_int Tryz.underlying26 h0
  obtain ⟨n1, e1, _, q1⟩ := DataW.trod_int Tryz.underlying3 h1
  obtain ⟨n2, e2, _, q2⟩ := DataW.trod_int Tryz.underlying27 h2
  obtain ⟨n3, e3, _, q3⟩ := DataW.trod_string Tryz.underlying9 h3
  obtain ⟨l, hl, hlen, hok⟩ := rdI_of_trod h4 M hM
  simp at e0 e1 e2 e3
  subst e0 e1 e2 e3
  have q4 := strlen q3
  exact ⟨⟨n0, n1, n2, n3, l⟩, v4, rfl, hl, ⟨i64ok_of_wf q0, i64ok_of_wf q1, u64b q2, hok⟩, hlen, q4⟩
end

theorem laidMet_tail' {P : Program} {x : String × DataW Unit} {rest : List (String × DataW Unit)} {W : World} (h : laidMet P (x :: rest) W) : laidMet P rest W := by
  obtain ⟨ps, ⟨g, t, cs, fuel, p, q, h1, h2, h3, h4, h5, h6⟩, hn, hr⟩ := h
  subst h6
  exact ⟨q, h5, (List.nodup_append.1 hn).2.1, fun b off hb => hr b off (List.mem_append.2 (.inr hb))⟩

theorem gTabType : (Tryz.prog.globals[0]?).map (·.type) = some 151 := by kernel_rfl
theorem gTabAt : Tryz.prog.globalNamed "internal/strconv.uint64pow10" = some 0 := by kernel_rfl
theorem cellsTab : Tryz.prog.cellsOf 151 = 20 := by kernel_rfl
theorem cellsU64 : Tryz.prog.cellsOf 27 = 1 := by kernel_rfl

/-- The three tables that every row of this seat lists. -/
def tables : List (String × DataW Unit) := [("math/bits.deBruijn32tab", Rows.laid_math_bits_deBruijn32tab), ("math/bits.deBruijn64tab", Rows.laid_math_bits_deBruijn64tab), ("internal/strconv.uint64pow10", Rows.laid_internal_strconv_uint64pow10)]
theorem tab_of_laid {W : World} (h : laidMetH Tryz.prog tables W) : Tab W :=
  Lib.tabIs_of_head (rest := []) (zs := Lib.pow10Tab) gTabAt gTabType Tryz.underlying151 Tryz.underlying27 cellsU64 cellsTab (laidMet_tail' (laidMet_tail' h))

/-- A world in which block g holds the cells cs. -/
def setTab (w : World) (g : Nat) (cs : Array Value) : World := { w with heap := w.heap.modify g fun o => match o with
  | .cells _ t frozen => .cells cs t frozen
  | o => o }
/-- A world for the witness: the settled one, its tables holding what their initialisers lay. -/
noncomputable def laidWorld (os : Os) : World :=
  setTab (setTab (setTab (World.holding Tryz.prog os ⟨#[], #[], []⟩) 0 (Lib.pow10Tab.map (Value.int .u64)).toArray)
    1 #[.int .u8 0, .int .u8 1, .int .u8 28, .int .u8 2, .int .u8 29, .int .u8 14, .int .u8 24, .int .u8 3, .int .u8 30, .int .u8 22, .int .u8 20, .int .u8 15, .int .u8 25, .int .u8 17, .int .u8 4, .int .u8 8, .int .u8 31, .int .u8 27, .int .u8 13, .int .u8 23, .int .u8 21, .int .u8 19, .int .u8 16, .int .u8 7, .int .u8 26, .int .u8 12, .int .u8 18, .int .u8 6, .int .u8 11, .int .u8 5, .int .u8 10, .int .u8 9])
    2 #[.int .u8 0, .int .u8 1, .int .u8 56, .int .u8 2, .int .u8 57, .int .u8 49, .int .u8 28, .int .u8 3, .int .u8 61, .int .u8 58, .int .u8 42, .int .u8 50, .int .u8 38, .int .u8 29, .int .u8 17, .int .u8 4, .int .u8 62, .int .u8 47, .int .u8 59, .int .u8 36, .int .u8 45, .int .u8 43, .int .u8 51, .int .u8 22, .int .u8 53, .int .u8 39, .int .u8 33, .int .u8 30, .int .u8 24, .int .u8 18, .int .u8 12, .int .u8 5, .int .u8 63, .int .u8 55, .int .u8 48, .int .u8 27, .int .u8 60, .int .u8 41, .int .u8 37, .int .u8 16, .int .u8 46, .int .u8 35, .int .u8 44, .int .u8 21, .int .u8 52, .int .u8 32, .int .u8 23, .int .u8 11, .int .u8 54, .int .u8 26, .int .u8 40, .int .u8 15, .int .u8 34, .int .u8 20, .int .u8 31, .int .u8 10, .int .u8 25, .int .u8 14, .int .u8 19, .int .u8 9, .int .u8 13, .int .u8 8, .int .u8 7, .int .u8 6]

end Go.Proofs.YtlekoceindepnaaGreatDoor
end
