import Derived.Test.YtgpliiepoimcbaaDoorPk0
import Derived.Test.YtgpliiepoimcbaaDoorPk1
import Derived.Deep.RegionHeld3
import Derived.Maps.AppendAt
import Derived.StillTactics
set_option linter.all false
section
/- The walks of the reference's alike, disordered, malformed. -/
namespace Go.Proofs.YtgpliiepoimcbaaDoor
open Go.RowKit
set_option maxRecDepth 100000

theorem three_of {w : World} {b : Nat} {x y z : Value} {e : TypeId} (h1 : w.heap[b]? = some (.cells #[x, y, z] e (0, 0))) : w.cell? ⟨b, 0, none⟩ = some x ∧ w.cell? ⟨b, 1, none⟩ = some y ∧ w.cell? ⟨b, 2, none⟩ = some z ∧ (∀ o, w.frozen? ⟨b, o, none⟩ = false) ∧ b < w.heap.size :=
  ⟨by simp [World.cell?, h1], by simp [World.cell?, h1], by simp [World.cell?, h1], fun o => by simp [World.frozen?, h1], (Array.getElem?_eq_some_iff.1 h1).1⟩
/-- The cells of a row of integers, at an index. -/
theorem RdI.cellK {M : Nat → Prop} {w : World} {p : Option Addr} {n c : Nat} {l : List Int} (h : RdI M w (.slice p n c) l) {k : Nat} (hk : k < l.length) : ∃ b off, p = some ⟨b, off, none⟩ ∧ w.cell? ⟨b, off + k, none⟩ = some (.int .i64 (l.getD k 0)) := by
  obtain ⟨b, off, h1, _, h3⟩ := h.lit3 (by omega)
  exact ⟨b, off, h1, h3 k hk⟩

def labAt (lab : List Int) (x : Int) : Int := lab.getD x.toNat 0
def alikeS (a b : Node) (lab : List Int) : Bool := labelS a b && (a.args.length == b.args.length) && (a.args.zip b.args).all (fun p => labAt lab p.1 == labAt lab p.2)
theorem alikeS_no {a b : Node} {lab : List Int} (h : labelS a b = false ∨ a.args.length ≠ b.args.length) : alikeS a b lab = false := by
  unfold alikeS
  rcases h with h | h
  · rw [h]; rfl
  · have : (a.args.length == b.args.length) = false := by simpa using h
    rw [this]; simp
theorem zip_get {a b : List Int} {k : Nat} (h1 : k < a.length) (h2 : k < b.length) : (a.zip b)[k]'(by simp; omega) = (a.getD k 0, b.getD k 0) := by
  rw [List.getElem_zip, List.getD_eq_getElem?_getD, List.getD_eq_getElem?_getD, List.getElem?_eq_getElem h1, List.getElem?_eq_getElem h2]; rfl
theorem alikeS_bad {a b : Node} {lab : List Int} {k : Nat} (h1 : k < a.args.length) (h2 : k < b.args.length) (h : labAt lab (a.args.getD k 0) ≠ labAt lab (b.args.getD k 0)) : alikeS a b lab = false := by
  unfold alikeS
  have : (a.args.zip b.args).all (fun p => labAt lab p.1 == labAt lab p.2) = false := by
    rw [List.all_eq_false]
    refine ⟨(a.args.zip b.args)[k]'(by simp; omega), List.getElem_mem _, ?_⟩
    rw [zip_get h1 h2]
    simpa using h
  rw [this]; simp
theorem alikeS_ok {a b : Node} {lab : List Int} (h0 : labelS a b = true) (hl : a.args.length = b.args.length) (h : ∀ k, k < a.args.length → labAt lab (a.args.getD k 0) = labAt lab (b.args.getD k 0)) : alikeS a b lab = true := by
  unfold alikeS
  have : (a.args.zip b.args).all (fun p => labAt lab p.1 == labAt lab p.2) = true := by
    rw [List.all_eq_true]
    intro p hp
    obtain ⟨k, hk, rfl⟩ := List.mem_iff_getElem.1 hp
    have hk2 : k < a.args.length := by simp at hk; omega
    rw [zip_get hk2 (by omega)]
    simpa using h k hk2
  rw [this, h0]; simp [hl]

set_option maxHeartbeats 2000000 in
theorem alike_any (a b : Node) (v u t : Value) (lab : List Int) (w : World) (ha : RdI NoB w v a.args) (hb : RdI NoB w u b.args) (hL : RdI NoB w t lab) (hra : ∀ x ∈ a.args, 0 ≤ x ∧ x < lab.length) (hrb : ∀ x ∈ b.args, 0 ≤ x ∧ x < lab.length) (hla : a.args.length ≤ 1000000) :
    Calls Tryd.prog 45 #[nodeV a v, nodeV b u, t] w fun e w' => e = .returned (.bool (alikeS a b lab)) ∧ Fr NoB w w' := by
  have W2 : Hid (Fr NoB w ((w.alloc (.cells (nodeCells a v) 40)).alloc (.cells (nodeCells b u) 40))) := ((Fr.refl NoB w).alloc _).alloc _
  have HA := hid (ha.fr W2.out (fun _ _ h => h))
  have HB := hid (hb.fr W2.out (fun _ _ h => h))
  have HL := hid (hL.fr W2.out (fun _ _ h => h))
  have BA := hid (at_old (at_new w (.cells (nodeCells a v) 40)) (.cells (nodeCells b u) 40))
  have BB : Hid (((w.alloc (.cells (nodeCells a v) 40)).alloc (.cells (nodeCells b u) 40)).heap[w.heap.size + 1]? = some (.cells (nodeCells b u) 40 (0, 0))) := at_new' (by simp)
  obtain ⟨a1, ca, rfl⟩ := ha.form
  obtain ⟨b1, cb, rfl⟩ := hb.form
  obtain ⟨l1, cl, rfl⟩ := hL.form
  have HRA := hid hra
  have HRB := hid hrb
  clear ha hb hL hra hrb
  unfold nodeV
  go_enter Tryd.func45, Tryd.ntmps45
  go_wp2_with fail
  refine (label_any a b _ _ _).mono ?_
  rintro e w3 ⟨rfl, hf⟩
  have F3 := hid hf
  obtain ⟨x0, x1, x2, x3, x4, xf, xl⟩ := five_of (F3.out.at (fun h => h) BA.out)
  obtain ⟨y0, y1, y2, y3, y4, yf, yl⟩ := five_of (F3.out.at (fun h => h) BB.out)
  clear hf
  cases hlab : labelS a b with
  | false =>
    go_wp2
    go_ret
    exact ⟨ret_bool (alikeS_no (.inl hlab)).symm, W2.out.step F3.out⟩
  | true =>
    by_cases hlen : a.args.length = b.args.length
    rotate_left
    · have HN := hid hlen
      have hq : ((a.args.length : Int) != (b.args.length : Int)) = true := by simp; omega
      clear hlen
      go_wp2
      go_ret
      exact ⟨ret_bool (alikeS_no (.inr HN.out)).symm, W2.out.step F3.out⟩
    have HLEN := hid hlen
    have HLAB := hid hlab
    have hq : ((a.args.length : Int) != (b.args.length : Int)) = false := by simp; omega
    clear hlen hlab
    go_wp2
    clear x0 x1 x2 x3 x4 xf xl y0 y1 y2 y3 y4 yf yl
    go_loopw [7] (fun i wr => ∃ k : Nat, k ≤ a.args.length ∧ i = .int .i64 k ∧ Fr NoB ((w.alloc (.cells (nodeCells a (.slice a1 a.args.length ca)) 40)).alloc (.cells (nodeCells b (.slice b1 b.args.length cb)) 40)) wr ∧ ∀ j, j < k → labAt lab (a.args.getD j 0) = labAt lab (b.args.getD j 0)) (fun i _ => a.args.length - (intOf i).toNat)
    case atStart => exact ⟨0, Nat.zero_le _, rfl, F3.out, fun j h => by omega⟩
    case round =>
      obtain ⟨k, hk, rfl, hf, hall⟩ := hrel
      have F := hid hf
      have HALL := hid hall
      clear hf hall F3
      obtain ⟨x0, x1, x2, x3, x4, xf, xl⟩ := five_of (F.out.at (fun h => h) BA.out)
      obtain ⟨y0, y1, y2, y3, y4, yf, yl⟩ := five_of (F.out.at (fun h => h) BB.out)
      by_cases hlt : k < a.args.length
      · have hlt2 : k < b.args.length := by have := HLEN.out; omega
        obtain ⟨ba, oa, rfl, ka⟩ := (HA.out.fr F.out (fun _ _ h => h)).cellK hlt
        obtain ⟨bb, ob, rfl, kb⟩ := (HB.out.fr F.out (fun _ _ h => h)).cellK hlt2
        have ra := HRA.out _ (getD_mem hlt)
        have rb := HRB.out _ (getD_mem hlt2)
        obtain ⟨p, hp⟩ : ∃ p, a.args.getD k 0 = p := ⟨_, rfl⟩
        obtain ⟨q, hq2⟩ : ∃ q, b.args.getD k 0 = q := ⟨_, rfl⟩
        rw [hp] at ka ra
        rw [hq2] at kb rb
        have HP := hid hp
        have HQ := hid hq2
        clear hp hq2
        obtain ⟨r0, r1⟩ := ra
        obtain ⟨s0, s1⟩ := rb
        obtain ⟨bl, ol, rfl, kl⟩ := (HL.out.fr F.out (fun _ _ h => h)).cellK (k := p.toNat) (by omega)
        obtain ⟨bl', ol', hbl, kl'⟩ := (HL.out.fr F.out (fun _ _ h => h)).cellK (k := q.toNat) (by omega)
        simp only [Option.some.injEq, Addr.mk.injEq, and_true] at hbl
        obtain ⟨rfl, rfl⟩ := hbl
        obtain ⟨u, hu⟩ : ∃ u, lab.getD p.toNat 0 = u := ⟨_, rfl⟩
        obtain ⟨u', hu'⟩ : ∃ u', lab.getD q.toNat 0 = u' := ⟨_, rfl⟩
        have HU : Hid (labAt lab p = u) := hu
        have HU' : Hid (labAt lab q = u') := hu'
        rw [hu] at kl
        rw [hu'] at kl'
        clear hu hu'
        by_cases hpq : u = u'
        · have e1 : (u != u') = false := by simpa using hpq
          have HPQ : Hid (labAt lab p = labAt lab q) := by show _ = _; rw [HU.out, HU'.out, hpq]
          clear hpq
          go_wp2
          go_quiet (fail)
          go_wp2
          go_roundw
          case rel => exact ⟨k + 1, by omega, by go_num, F.out.drewN _, fun j hj => by
            by_cases e : j = k
            · subst e; rw [HP.out, HQ.out]; exact HPQ.out
            · exact HALL.out j (by omega)⟩
          case measure => simp [intOf]; omega
        · have e1 : (u != u') = true := by simpa using hpq
          have HPQ : Hid (labAt lab p ≠ labAt lab q) := by show _ ≠ _; rw [HU.out, HU'.out]; exact hpq
          clear hpq
          go_wp2
          go_quiet (fail)
          go_wp2
          go_ret
          exact ⟨ret_bool (alikeS_bad hlt hlt2 (by rw [HP.out, HQ.out]; exact HPQ.out)).symm, W2.out.step (F.out.drewN _)⟩
      · go_wp2
        go_ret
        exact ⟨ret_bool (alikeS_ok HLAB.out HLEN.out (fun j hj => HALL.out j (by omega))).symm, W2.out.step F.out⟩

end Go.Proofs.YtgpliiepoimcbaaDoor
end
section
/- The walks of the reference's disordered and malformed. -/
namespace Go.Proofs.YtgpliiepoimcbaaDoor
open Go.RowKit
set_option maxRecDepth 100000

/-- A node of a row, with its args. -/
theorem RdN.nodeK {M : Nat → Prop} {w : World} {p : Option Addr} {n c : Nat} {l : List (Node × Value)} (h : RdN M w (.slice p n c) l) {k : Nat} (hk : k < l.length) : ∃ b off, p = some ⟨b, off, none⟩ ∧
    w.cell? ⟨b, off + k * 5, none⟩ = some (.int .i64 l[k].1.op) ∧ w.cell? ⟨b, off + k * 5 + 1, none⟩ = some (.int .i64 l[k].1.width) ∧ w.cell? ⟨b, off + k * 5 + 2, none⟩ = some (.int .u64 l[k].1.val) ∧ w.cell? ⟨b, off + k * 5 + 3, none⟩ = some (.string l[k].1.name) ∧ w.cell? ⟨b, off + k * 5 + 4, none⟩ = some l[k].2 ∧ RdI M w l[k].2 l[k].1.args := by
  rcases h.row.form' (by omega) with ⟨b, off, cap, h1, _, _, _, hc⟩
  simp only [Value.slice.injEq] at h1
  obtain ⟨rfl, _, rfl⟩ := h1
  obtain ⟨e0, e1, e2, e3, e4⟩ := hc.five hk
  exact ⟨b, off, rfl, e0, e1, e2, e3, e4, h.args _ (List.getElem_mem _)⟩

set_option maxHeartbeats 2000000 in
theorem disordered_any (sN sL sR : Value) (d : Dmp) (w : World) (hd : RdD NoB w sN sL sR d) (i : Nat) (hi : i < d.nodes.length) (hla : d.nodes[i].1.args.length ≤ 1000000) :
    Calls Tryd.prog 43 #[dumpV sN sL sR, .int .i64 i] w fun e w' => e = .returned (.bool (!ordS d.nodes[i].1.args i)) ∧ Fr NoB w w' := by
  have W1 : Hid (Fr NoB w (w.alloc (.cells (dumpCells sN sL sR) 26))) := (Fr.refl NoB w).alloc _
  have HD := hid (hd.step W1.out)
  obtain ⟨p, c, hp⟩ := hd.nodes.form
  subst hp
  obtain ⟨b, off, rfl, e0, e1, e2, e3, e4, ha⟩ := HD.out.nodes.nodeK hi
  obtain ⟨x, hx⟩ : ∃ x, d.nodes[i] = x := ⟨_, rfl⟩
  rw [hx] at e0 e1 e2 e3 e4 ha hla ⊢
  obtain ⟨xn, xs⟩ := x
  simp only at e0 e1 e2 e3 e4 ha hla
  obtain ⟨ax, cx, rfl⟩ := ha.form
  have HA := hid ha
  clear hd hx ha e0 e1 e2 e3
  unfold dumpV
  go_enter Tryd.func43, Tryd.ntmps43
  go_wp2
  clear e4
  go_loop [6] (fun x => ∃ k : Nat, k ≤ xn.args.length ∧ x = .int .i64 k ∧ ordS (xn.args.take k) i = true) (fun x => xn.args.length - (intOf x).toNat)
  case atStart => exact ⟨0, Nat.zero_le _, rfl, rfl⟩
  case round =>
    obtain ⟨k, hk, rfl, hall⟩ := hrel
    have HALL := hid hall
    clear hall
    by_cases hlt : k < xn.args.length
    · obtain ⟨ba, oa, rfl, hcell⟩ := HA.out.cellK hlt
      obtain ⟨y, hy⟩ : ∃ y, xn.args.getD k 0 = y := ⟨_, rfl⟩
      rw [hy] at hcell
      have HY : Hid (xn.args[k] = y) := by
        show _ = _
        rw [List.getD_eq_getElem?_getD, List.getElem?_eq_getElem hlt] at hy
        simpa using hy
      clear hy
      by_cases hy0 : y < 0 ∨ (i : Int) ≤ y
      · go_wp2
        all_goals first
          | (go_ret; refine ⟨ret_bool (Eq.symm ?_), W1.out⟩; rw [Bool.not_eq_true']; unfold ordS; rw [List.all_eq_false]; exact ⟨xn.args[k], List.getElem_mem _, by rw [HY.out]; simp; omega⟩)
          | (exfalso; omega)
      · go_wp2
        all_goals first
          | (exfalso; omega)
          | skip
        go_round
        case rel => exact ⟨k + 1, by omega, by go_num, by
          have := HALL.out
          unfold ordS at this ⊢
          rw [List.take_add_one, List.all_append, this, List.getElem?_eq_getElem hlt]
          simp [HY.out]; omega⟩
        case measure => simp [intOf]; omega
    · obtain rfl : k = xn.args.length := by omega
      go_wp2
      go_ret
      have := HALL.out
      rw [List.take_length] at this
      exact ⟨ret_bool (by rw [this]; rfl), W1.out⟩

def nsOf (d : Dmp) : List Node := d.nodes.map (·.1)
def clashS (n : Node) (l : List Node) : Bool := l.any (fun m => m.op == 1 && m.name.toList == n.name.toList && m.width != n.width)
def malfS (n : Node) (l : List Node) : Bool := !formedS n || (n.op == 1 && clashS n l)

end Go.Proofs.YtgpliiepoimcbaaDoor
end
section
/- The walk of the reference's malformed. -/
namespace Go.Proofs.YtgpliiepoimcbaaDoor
open Go.RowKit
set_option maxRecDepth 100000

theorem formedS_iff {n : Node} : formedS n = true ↔ 0 ≤ ariS n.op ∧ patS n.op = false ∧ (n.args.length : Int) = ariS n.op ∧ (if n.op = 1 then n.val = 0 ∧ nameS n.name = true else n.name.toList.isEmpty = true ∧ (n.val = 0 ∨ n.op = 2 ∨ n.op = 21)) := by
  unfold formedS
  by_cases h : n.op = 1
  · simp only [h, if_true, Bool.and_eq_true, decide_eq_true_eq, Bool.not_eq_true', beq_iff_eq]
    constructor
    · rintro ⟨⟨⟨a, b⟩, c⟩, d⟩; exact ⟨a, b, c, d⟩
    · rintro ⟨a, b, c, d⟩; exact ⟨⟨⟨a, b⟩, c⟩, d⟩
  · simp only [h, if_false, Bool.and_eq_true, decide_eq_true_eq, Bool.not_eq_true', Bool.or_eq_true, beq_iff_eq]
    constructor
    · rintro ⟨⟨⟨a, b⟩, c⟩, d, e⟩; exact ⟨a, b, c, d, by rcases e with (e | e) | e; exact .inl e; exact .inr (.inl e); exact .inr (.inr e)⟩
    · rintro ⟨a, b, c, d, e⟩; exact ⟨⟨⟨a, b⟩, c⟩, d, by rcases e with e | e | e; exact .inl (.inl e); exact .inl (.inr e); exact .inr e⟩

/-- What the walk of malformed carries: the box of the dump, that of the node. -/
structure MfS (w : World) (sN sL sR : Value) (d : Dmp) (n : Node) (v : Value) (W : World) : Prop where
  fr : Fr NoB w W
  rd : RdD NoB W sN sL sR d
  box : W.heap[w.heap.size]? = some (.cells (dumpCells sN sL sR) 26 (0, 0))
  node : W.heap[w.heap.size + 1]? = some (.cells (nodeCells n v) 40 (0, 0))
theorem MfS.step {w : World} {sN sL sR : Value} {d : Dmp} {n : Node} {v : Value} {W W' : World} (h : MfS w sN sL sR d n v W) (hf : Fr NoB W W') : MfS w sN sL sR d n v W' :=
  ⟨h.fr.step hf, h.rd.step hf, hf.at (fun h => h) h.box, hf.at (fun h => h) h.node⟩

set_option maxHeartbeats 4000000 in
theorem refMalf_no (sN sL sR : Value) (d : Dmp) (w : World) (hd : RdD NoB w sN sL sR d) (i : Nat) (hi : i < d.nodes.length) (hform : formedS d.nodes[i].1 = false) :
    Calls Tryd.prog 42 #[dumpV sN sL sR, .int .i64 i] w fun e w' => e = .returned (.bool true) ∧ Fr NoB w w' := by
  have W1 : Hid (Fr NoB w (w.alloc (.cells (dumpCells sN sL sR) 26))) := (Fr.refl NoB w).alloc _
  have HD := hid (hd.step W1.out)
  obtain ⟨p, c, hp⟩ := hd.nodes.form
  subst hp
  obtain ⟨b, off, rfl, e0, e1, e2, e3, e4, ha⟩ := HD.out.nodes.nodeK hi
  obtain ⟨x, hx⟩ : ∃ x, d.nodes[i] = x := ⟨_, rfl⟩
  rw [hx] at e0 e1 e2 e3 e4 ha hform
  obtain ⟨xn, xs⟩ := x
  simp only at e0 e1 e2 e3 e4 ha hform
  obtain ⟨ax, cx, rfl⟩ := ha.form
  have HFORM := hid hform
  have M0 : Hid (MfS w (.slice (some ⟨b, off, none⟩) d.nodes.length c) sL sR d xn (.slice ax xn.args.length cx) ((w.alloc (.cells (dumpCells (.slice (some ⟨b, off, none⟩) d.nodes.length c) sL sR) 26)).alloc (.cells (nodeCells xn (.slice ax xn.args.length cx)) 40))) :=
    ⟨W1.out.alloc _, HD.out.step ((Fr.refl NoB _).alloc _), at_old (at_new w _) _, at_new' (by simp)⟩
  clear hd hx ha hform HD W1
  unfold dumpV
  go_enter Tryd.func42, Tryd.ntmps42
  go_wp2_with fail
  clear e0 e1 e2 e3 e4
  refine (refArity_any _ _).mono ?_
  rintro e w1 ⟨rfl, hf⟩
  have M1 := hid (M0.out.step hf)
  obtain ⟨x0, x1, x2, x3, x4, xf, xl⟩ := five_of M1.out.node
  clear hf M0
  go_wp2_with (first
    | (go_at_call 59; refine (refPat_any _ _).mono ?_; rintro e w9 ⟨rfl, hf⟩; have M1 := hid (M1.out.step hf); clear hf x0 x1 x2 x3 x4 xf xl; obtain ⟨x0, x1, x2, x3, x4, xf, xl⟩ := five_of M1.out.node)
    | (go_at_call 60; refine (refName_any _ _).mono ?_; rintro e w9 ⟨rfl, h9⟩; have h9 := h9.symm; subst h9))
  all_goals first
    | (go_ret; exact ⟨rfl, M1.out.fr⟩)
    | (exfalso; have h9 := HFORM.out; clear HFORM M1; unfold formedS at h9; simp_all; done)
    | (exfalso; have h9 := HFORM.out; clear HFORM M1; unfold formedS at h9; simp_all; omega)

end Go.Proofs.YtgpliiepoimcbaaDoor
end
section
/- The walk of the reference's malformed, at a node that is formed. -/
namespace Go.Proofs.YtgpliiepoimcbaaDoor
open Go.RowKit
set_option maxRecDepth 100000

set_option maxHeartbeats 4000000 in
theorem refMalf_op (sN sL sR : Value) (d : Dmp) (w : World) (hd : RdD NoB w sN sL sR d) (i : Nat) (hi : i < d.nodes.length) (hform : formedS d.nodes[i].1 = true) (hop : d.nodes[i].1.op ≠ 1) :
    Calls Tryd.prog 42 #[dumpV sN sL sR, .int .i64 i] w fun e w' => e = .returned (.bool false) ∧ Fr NoB w w' := by
  have W1 : Hid (Fr NoB w (w.alloc (.cells (dumpCells sN sL sR) 26))) := (Fr.refl NoB w).alloc _
  have HD := hid (hd.step W1.out)
  obtain ⟨p, c, hp⟩ := hd.nodes.form
  subst hp
  obtain ⟨b, off, rfl, e0, e1, e2, e3, e4, ha⟩ := HD.out.nodes.nodeK hi
  obtain ⟨x, hx⟩ : ∃ x, d.nodes[i] = x := ⟨_, rfl⟩
  rw [hx] at e0 e1 e2 e3 e4 ha hform hop
  obtain ⟨xn, xs⟩ := x
  simp only at e0 e1 e2 e3 e4 ha hform hop
  obtain ⟨ax, cx, rfl⟩ := ha.form
  have M0 : Hid (MfS w (.slice (some ⟨b, off, none⟩) d.nodes.length c) sL sR d xn (.slice ax xn.args.length cx) ((w.alloc (.cells (dumpCells (.slice (some ⟨b, off, none⟩) d.nodes.length c) sL sR) 26)).alloc (.cells (nodeCells xn (.slice ax xn.args.length cx)) 40))) :=
    ⟨W1.out.alloc _, HD.out.step ((Fr.refl NoB _).alloc _), at_old (at_new w _) _, at_new' (by simp)⟩
  obtain ⟨f1, f2, f3, f4⟩ := formedS_iff.1 hform
  have q1 : decide (ariS xn.op < 0) = false := by simp; omega
  have q3 : ((xn.args.length : Int) != ariS xn.op) = false := by simpa using f3
  rw [if_neg hop] at f4
  obtain ⟨f5, f6⟩ := f4
  have o1 : (xn.op == 1) = false := by simpa using hop
  have o2 : (xn.op != 1) = true := by simpa using hop
  have o3 := hid f6
  clear f6 hop
  clear hd hx ha hform HD W1 f1 f3
  unfold dumpV
  go_enter Tryd.func42, Tryd.ntmps42
  go_wp2_with fail
  clear e0 e1 e2 e3 e4
  refine (refArity_any _ _).mono ?_
  rintro e w1 ⟨rfl, hf⟩
  have M1 := hid (M0.out.step hf)
  obtain ⟨x0, x1, x2, x3, x4, xf, xl⟩ := five_of M1.out.node
  clear hf M0
  go_wp2_with fail
  refine (refPat_any _ _).mono ?_
  rintro e w2 ⟨rfl, hf⟩
  have M2 := hid (M1.out.step hf)
  clear hf x0 x1 x2 x3 x4 xf xl M1
  obtain ⟨x0, x1, x2, x3, x4, xf, xl⟩ := five_of M2.out.node
  have h6 := o3.out
  by_cases p1 : xn.op = 2
  · have r1 : (xn.op != 2) = false := by simpa using p1
    clear p1 h6 o3
    go_wp2
    go_loopw [7] (fun k wr => k = .int .i64 0 ∧ Fr NoB w2 wr) (fun _ _ => 0)
    case atStart => exact ⟨rfl, Fr.refl _ _⟩
    case round =>
      obtain ⟨rfl, hf⟩ := hrel
      have M3 := hid (M2.out.step hf)
      clear hf x0 x1 x2 x3 x4 xf xl M2
      obtain ⟨x0, x1, x2, x3, x4, xf, xl⟩ := five_of M3.out.node
      by_cases hz : (0 : Int) < (i : Int)
      · go_wp2
        go_ret
        exact ⟨rfl, M3.out.fr⟩
      · have hz2 : decide ((0 : Int) < (i : Int)) = false := by simpa using hz
        go_wp2
        go_ret
        exact ⟨rfl, M3.out.fr⟩
  by_cases p2 : xn.op = 21
  · have r1 : (xn.op != 2) = true := by simpa using p1
    have r2 : (xn.op != 21) = false := by simpa using p2
    clear p1 p2 h6 o3
    go_wp2
    go_loopw [7] (fun k wr => k = .int .i64 0 ∧ Fr NoB w2 wr) (fun _ _ => 0)
    case atStart => exact ⟨rfl, Fr.refl _ _⟩
    case round =>
      obtain ⟨rfl, hf⟩ := hrel
      have M3 := hid (M2.out.step hf)
      clear hf x0 x1 x2 x3 x4 xf xl M2
      obtain ⟨x0, x1, x2, x3, x4, xf, xl⟩ := five_of M3.out.node
      by_cases hz : (0 : Int) < (i : Int)
      · go_wp2
        go_ret
        exact ⟨rfl, M3.out.fr⟩
      · have hz2 : decide ((0 : Int) < (i : Int)) = false := by simpa using hz
        go_wp2
        go_ret
        exact ⟨rfl, M3.out.fr⟩
  have r1 : (xn.op != 2) = true := by simpa using p1
  have r2 : (xn.op != 21) = true := by simpa using p2
  have r3 : (xn.val != 0) = false := by simp; omega
  clear p1 p2 h6 o3
  go_wp2
  go_loopw [7] (fun k wr => k = .int .i64 0 ∧ Fr NoB w2 wr) (fun _ _ => 0)
  case atStart => exact ⟨rfl, Fr.refl _ _⟩
  case round =>
    obtain ⟨rfl, hf⟩ := hrel
    have M3 := hid (M2.out.step hf)
    clear hf x0 x1 x2 x3 x4 xf xl M2
    obtain ⟨x0, x1, x2, x3, x4, xf, xl⟩ := five_of M3.out.node
    by_cases hz : (0 : Int) < (i : Int)
    · go_wp2
      go_ret
      exact ⟨rfl, M3.out.fr⟩
    · have hz2 : decide ((0 : Int) < (i : Int)) = false := by simpa using hz
      go_wp2
      go_ret
      exact ⟨rfl, M3.out.fr⟩

theorem clash_step {n m : Node} {l : List Node} (h : clashS n l = false) (h2 : (m.op == 1 && m.name.toList == n.name.toList && m.width != n.width) = false) : clashS n (l ++ [m]) = false := by
  unfold clashS at *
  rw [List.any_append, h, Bool.false_or, List.any_cons, List.any_nil, Bool.or_false]
  exact h2
theorem clash_yes {n m : Node} {l : List Node} (hm : m ∈ l) (h2 : (m.op == 1 && m.name.toList == n.name.toList && m.width != n.width) = true) : clashS n l = true := by
  unfold clashS
  rw [List.any_eq_true]
  exact ⟨m, hm, h2⟩

set_option maxHeartbeats 4000000 in
theorem refMalf_var (sN sL sR : Value) (d : Dmp) (w : World) (hd : RdD NoB w sN sL sR d) (i : Nat) (hi : i < d.nodes.length) (hform : formedS d.nodes[i].1 = true) (hop : d.nodes[i].1.op = 1) (hlen : d.nodes.length ≤ 1000000) :
    Calls Tryd.prog 42 #[dumpV sN sL sR, .int .i64 i] w fun e w' => e = .returned (.bool (clashS d.nodes[i].1 ((nsOf d).take i))) ∧ Fr NoB w w' := by
  have W1 : Hid (Fr NoB w (w.alloc (.cells (dumpCells sN sL sR) 26))) := (Fr.refl NoB w).alloc _
  have HD := hid (hd.step W1.out)
  obtain ⟨p, c, hp⟩ := hd.nodes.form
  subst hp
  obtain ⟨b, off, rfl, e0, e1, e2, e3, e4, ha⟩ := HD.out.nodes.nodeK hi
  obtain ⟨x, hx⟩ : ∃ x, d.nodes[i] = x := ⟨_, rfl⟩
  rw [hx] at e0 e1 e2 e3 e4 ha hform hop⊢
  obtain ⟨xn, xs⟩ := x
  simp only at e0 e1 e2 e3 e4 ha hform hop
  obtain ⟨ax, cx, rfl⟩ := ha.form
  have M0 : Hid (MfS w (.slice (some ⟨b, off, none⟩) d.nodes.length c) sL sR d xn (.slice ax xn.args.length cx) ((w.alloc (.cells (dumpCells (.slice (some ⟨b, off, none⟩) d.nodes.length c) sL sR) 26)).alloc (.cells (nodeCells xn (.slice ax xn.args.length cx)) 40))) :=
    ⟨W1.out.alloc _, HD.out.step ((Fr.refl NoB _).alloc _), at_old (at_new w _) _, at_new' (by simp)⟩
  obtain ⟨f1, f2, f3, f4⟩ := formedS_iff.1 hform
  have q1 : decide (ariS xn.op < 0) = false := by simp; omega
  have q3 : ((xn.args.length : Int) != ariS xn.op) = false := by simpa using f3
  rw [if_pos hop] at f4
  obtain ⟨f5, f6⟩ := f4
  have o1 : (xn.op == 1) = true := by simpa using hop
  have o2 : (xn.op != 1) = false := by simpa using hop
  have o4 : (xn.op != 2) = true := by simp; omega
  have o5 : (xn.op != 21) = true := by simp; omega
  have o6 : (xn.val != 0) = false := by simpa using f5
  clear hop f5
  clear hd hx ha hform HD W1 f1 f3
  unfold dumpV
  go_enter Tryd.func42, Tryd.ntmps42
  go_wp2_with fail
  clear e0 e1 e2 e3 e4
  refine (refArity_any _ _).mono ?_
  rintro e w1 ⟨rfl, hf⟩
  have M1 := hid (M0.out.step hf)
  obtain ⟨x0, x1, x2, x3, x4, xf, xl⟩ := five_of M1.out.node
  clear hf M0
  go_wp2_with fail
  refine (refPat_any _ _).mono ?_
  rintro e w2 ⟨rfl, hf⟩
  have M2 := hid (M1.out.step hf)
  clear hf x0 x1 x2 x3 x4 xf xl M1
  obtain ⟨x0, x1, x2, x3, x4, xf, xl⟩ := five_of M2.out.node
  go_wp2_with fail
  refine (refName_any _ _).mono ?_
  rintro e w3 ⟨rfl, h9⟩
  have h9 := h9.symm
  subst h9
  rw [f6]
  clear f6
  go_wp2
  go_loopw [7] (fun j wr => ∃ k : Nat, k ≤ i ∧ j = .int .i64 k ∧ Fr NoB w2 wr ∧ clashS xn ((nsOf d).take k) = false) (fun j _ => i - (intOf j).toNat)
  case atStart => exact ⟨0, Nat.zero_le _, rfl, Fr.refl _ _, rfl⟩
  case round =>
    obtain ⟨k, hk, rfl, hf, hno⟩ := hrel
    have FF := hid hf
    have M3 := hid (M2.out.step hf)
    have HNO := hid hno
    clear hf x0 x1 x2 x3 x4 xf xl M2 hno
    obtain ⟨x0, x1, x2, x3, x4, xf, xl⟩ := five_of M3.out.node
    obtain ⟨d0, d1, d2, df, dl⟩ := three_of M3.out.box
    by_cases hlt : k < i
    · have hkn : k < d.nodes.length := by omega
      obtain ⟨b', off', hbb, e0, e1, e2, e3, e4, _⟩ := M3.out.rd.nodes.nodeK hkn
      simp only [Option.some.injEq, Addr.mk.injEq, and_true] at hbb
      obtain ⟨rfl, rfl⟩ := hbb
      have HMK : Hid ((nsOf d)[k]? = some d.nodes[k].1) := by show _ = _; unfold nsOf; rw [List.getElem?_map, List.getElem?_eq_getElem hkn]; rfl
      obtain ⟨y, hy⟩ : ∃ y, d.nodes[k] = y := ⟨_, rfl⟩
      rw [hy] at e0 e1 e2 e3 e4 HMK
      clear hy
      obtain ⟨yn, ys⟩ := y
      simp only at e0 e1 e2 e3 e4 HMK
      clear e2 e4
      by_cases t1 : yn.op = 1
      · have q4 : (yn.op == 1) = true := by simpa using t1
        clear t1
        cases t2 : (yn.name.toList == xn.name.toList) with
        | true =>
          cases t3 : (yn.width != xn.width) with
          | true =>
            have HT : Hid ((yn.op == 1 && yn.name.toList == xn.name.toList && yn.width != xn.width) = true) := by show _ = _; rw [q4, t2, t3]; rfl
            go_wp2
            go_quiet (fail)
            go_wp2
            go_ret
            refine ⟨ret_bool (clash_yes (m := yn) ?_ HT.out).symm, M3.out.fr.drewN _⟩
            have := HMK.out
            refine List.mem_of_getElem? (i := k) ?_
            rw [List.getElem?_take, if_pos hlt]; exact this
          | false =>
            have HT : Hid ((yn.op == 1 && yn.name.toList == xn.name.toList && yn.width != xn.width) = false) := by show _ = _; rw [q4, t2, t3]; rfl
            go_wp2
            go_quiet (fail)
            go_wp2
            go_roundw
            case rel => exact ⟨k + 1, by omega, by go_num, FF.out.drewN _, by rw [List.take_add_one, HMK.out]; exact clash_step HNO.out HT.out⟩
            case measure => simp [intOf]; omega
        | false =>
          have HT : Hid ((yn.op == 1 && yn.name.toList == xn.name.toList && yn.width != xn.width) = false) := by show _ = _; rw [q4, t2]; rfl
          go_wp2
          go_quiet (fail)
          go_wp2
          go_roundw
          case rel => exact ⟨k + 1, by omega, by go_num, FF.out.drewN _, by rw [List.take_add_one, HMK.out]; exact clash_step HNO.out HT.out⟩
          case measure => simp [intOf]; omega
      · have q4 : (yn.op == 1) = false := by simpa using t1
        have HT : Hid ((yn.op == 1 && yn.name.toList == xn.name.toList && yn.width != xn.width) = false) := by show _ = _; rw [q4]; rfl
        clear t1
        go_wp2
        go_quiet (fail)
        go_wp2
        go_roundw
        case rel => exact ⟨k + 1, by omega, by go_num, FF.out.drewN _, by rw [List.take_add_one, HMK.out]; exact clash_step HNO.out HT.out⟩
        case measure => simp [intOf]; omega
    · obtain rfl : k = i := by omega
      go_wp2
      go_ret
      exact ⟨ret_bool HNO.out.symm, M3.out.fr⟩

theorem refMalf_any (sN sL sR : Value) (d : Dmp) (w : World) (hd : RdD NoB w sN sL sR d) (i : Nat) (hi : i < d.nodes.length) (hlen : d.nodes.length ≤ 1000000) :
    Calls Tryd.prog 42 #[dumpV sN sL sR, .int .i64 i] w fun e w' => e = .returned (.bool (malfS d.nodes[i].1 ((nsOf d).take i))) ∧ Fr NoB w w' := by
  unfold malfS
  cases hform : formedS d.nodes[i].1 with
  | false => exact refMalf_no sN sL sR d w hd i hi hform
  | true =>
    by_cases hop : d.nodes[i].1.op = 1
    · have : (d.nodes[i].1.op == 1) = true := by simpa using hop
      rw [this]
      exact refMalf_var sN sL sR d w hd i hi hform hop hlen
    · have : (d.nodes[i].1.op == 1) = false := by simpa using hop
      rw [this]
      exact refMalf_op sN sL sR d w hd i hi hform hop

end Go.Proofs.YtgpliiepoimcbaaDoor
end
section
/- append on integers, with the place of the new row. -/
namespace Go.Proofs.YtgpliiepoimcbaaDoor
open Go.RowKit

/-- append(s, t...) on integers, and where the new row lies. -/
theorem ap_ints_at (w : World) {ops : Array Oper} {rest : List Oper} {o : Oper} {a : Act} {Q : Exit → Act → World → Prop} (hg : o.guard = none) (s x : Operand)
    (ho : o.op = .call { callee := .builtin .append, args := #[s, x], argTypes := #[24, 24] }) (base : Nat) (v : Value) (l : List Int) (hs : a.eval s = v) (hown : OwnI base w v l)
    (M : Nat → Prop) (u : Value) (m : List Int) (hx : a.eval x = u) (hrd : RdI M w u m) (hlen : l.length + m.length ≤ 17592186044416) (hbase : base ≤ w.heap.size)
    (h : ∀ v' w', OwnI base w' v' (l ++ m) → w.grownBy w' v.ownBlock → (v'.ownBlock = v.ownBlock ∨ v'.ownBlock = some w.heap.size) → wpList Tryd.prog ops Q rest (a.put o.dst v') w') : wpList Tryd.prog ops Q (o :: rest) a w := by
  obtain ⟨i0, hi, hz0, hz1, hz2⟩ := info_parts infoInt
  rcases hrd with ⟨⟨ad, cap, rfl, hcap⟩, rfl⟩ | ⟨b, off, cap, rfl, _, _, _, hc⟩
  · cases ad with
    | some ad =>
      refine wpList_append_own_at (w := w) hg s x 24 ho base 3 i0 (.int .i64 0) 1 8 Tryd.underlying24 hi hz0 hz1 hz2 rfl (by decide) v _ _ hs hown ad 0 cap [] hx (by simp) (fun j u hu => by simp at hu) (by simp) (by unfold maxLen; simp at hlen; omega) (by simp at hlen; omega) hbase ?_
      intro v' w' h1 h2 _ h4
      refine h v' w' ?_ h2 h4
      simpa [OwnI] using h1
    | none =>
    obtain rfl := hcap rfl
    refine wpList_append_own_none (w := w) hg s x 24 ho base 3 i0 1 Tryd.underlying24 hi v _ _ hs hown hx ?_
    exact h v w (by simpa using hown) ⟨rfl, rfl, rfl, Nat.le_refl _, fun _ _ _ => rfl⟩ (.inl rfl)
  · refine wpList_append_own_at (w := w) hg s x 24 ho base 3 i0 (.int .i64 0) 1 8 Tryd.underlying24 hi hz0 hz1 hz2 rfl (by decide) v _ _ hs hown ⟨b, off, none⟩ m.length cap (m.map (Value.int .i64)) hx (by simp) hc.news (by simp [Value.oneCell']) (by unfold maxLen; omega) (by omega) hbase ?_
    intro v' w' h1 h2 _ h4
    refine h v' w' ?_ h2 h4
    unfold OwnI
    rw [List.length_append, List.map_append]; exact h1

end Go.Proofs.YtgpliiepoimcbaaDoor
end
section
/- The walk of invariant's widths. -/
namespace Go.Proofs.YtgpliiepoimcbaaDoor
open Go.RowKit
set_option maxRecDepth 100000

def wAt (ns : List Node) (a : Int) : Int := ((ns[a.toNat]?).map (·.width)).getD 0
def wOk (n : Node) (ns : List Node) : Bool := decide (1 ≤ n.width) && ((opW n.op n.width n.val (n.args.map (wAt ns))).2 == 0) && ((opW n.op n.width n.val (n.args.map (wAt ns))).1 == n.width)
theorem wAt_of {d : Dmp} {a : Int} {x : Node × Value} (h : d.nodes[a.toNat]? = some x) : wAt (nsOf d) a = x.1.width := by
  unfold wAt nsOf
  rw [List.getElem?_map, h]; rfl
theorem take_map_snoc {α : Type} (f : Int → α) {l : List Int} {k : Nat} (h : k < l.length) : (l.take (k + 1)).map f = (l.take k).map f ++ [f (l.getD k 0)] := by
  rw [List.take_add_one, List.getElem?_eq_getElem h, List.map_append, List.getD_eq_getElem?_getD, List.getElem?_eq_getElem h]
  rfl

set_option maxHeartbeats 4000000 in
theorem widths_any (sN sL sR : Value) (d : Dmp) (n : Node) (v : Value) (w : World) (hd : RdD NoB w sN sL sR d) (hn : RdI NoB w v n.args) (hr : ∀ a ∈ n.args, 0 ≤ a ∧ a < d.nodes.length) (hla : n.args.length ≤ 1000000) :
    Calls Tryd.prog 33 #[dumpV sN sL sR, nodeV n v] w fun e w' => e = .returned (.bool (wOk n (nsOf d))) ∧ Fr NoB w w' := by
  obtain ⟨a0, c0, rfl⟩ := hn.form
  obtain ⟨p, c, hp⟩ := hd.nodes.form
  subst hp
  have M0 : Hid (MfS w (.slice p d.nodes.length c) sL sR d n (.slice a0 n.args.length c0) ((w.alloc (.cells (dumpCells (.slice p d.nodes.length c) sL sR) 26)).alloc (.cells (nodeCells n (.slice a0 n.args.length c0)) 40))) :=
    ⟨((Fr.refl NoB w).alloc _).alloc _, hd.step (((Fr.refl NoB w).alloc _).alloc _), at_old (at_new w _) _, at_new' (by simp)⟩
  have HN := hid (hn.fr M0.out.fr (fun _ _ h => h))
  have HR := hid hr
  have hsz : ((w.alloc (.cells (dumpCells (.slice p d.nodes.length c) sL sR) 26)).alloc (.cells (nodeCells n (.slice a0 n.args.length c0)) 40)).heap.size = w.heap.size + 2 := by simp
  obtain ⟨w2, hw2⟩ : ∃ w2, (w.alloc (.cells (dumpCells (.slice p d.nodes.length c) sL sR) 26)).alloc (.cells (nodeCells n (.slice a0 n.args.length c0)) 40) = w2 := ⟨_, rfl⟩
  rw [hw2] at M0 HN hsz
  have HW2 := hid hw2
  have HSZ := hid hsz
  clear hd hn hr hw2 hsz
  unfold dumpV nodeV
  go_enter Tryd.func33, Tryd.ntmps33
  go_wp2
  rw [HW2.out]
  go_loopw [5, 13] (fun t j wr => ∃ (k : Nat), k ≤ n.args.length ∧ j = .int .i64 k ∧ Fr NoB w2 wr ∧ OwnI w2.heap.size wr t ((n.args.take k).map (wAt (nsOf d)))) (fun _ j _ => n.args.length - (intOf j).toNat)
  case atStart => exact ⟨0, Nat.zero_le _, rfl, Fr.refl _ _, OwnI.nil _ _⟩
  case round =>
    obtain ⟨k, hk, rfl, hf, ho⟩ := hrel
    obtain ⟨tp, tc, hv⟩ := ho.form
    rw [show ((n.args.take k).map (wAt (nsOf d))).length = k by simp; omega] at hv
    subst hv
    have F := hid hf
    have O := hid ho
    have M1 := hid (M0.out.step hf)
    obtain ⟨x0, x1, x2, x3, x4, xf, xl⟩ := five_of M1.out.node
    obtain ⟨d0, d1, d2, df, dl⟩ := three_of M1.out.box
    clear hf ho M0 d1 d2
    by_cases hlt : k < n.args.length
    · obtain ⟨ba, oa, rfl, ka⟩ := (HN.out.fr F.out (fun _ _ h => h)).cellK hlt
      have ra := HR.out _ (getD_mem hlt)
      obtain ⟨y, hy⟩ : ∃ y, n.args.getD k 0 = y := ⟨_, rfl⟩
      rw [hy] at ka ra
      have HY := hid hy
      clear hy
      obtain ⟨r0, r1⟩ := ra
      have hyn : y.toNat < d.nodes.length := by omega
      obtain ⟨b, off, rfl, e0, e1, e2, e3, e4, _⟩ := M1.out.rd.nodes.nodeK hyn
      have HWA := hid (wAt_of (d := d) (a := y) (List.getElem?_eq_getElem hyn))
      generalize d.nodes[y.toNat] = z at e0 e1 e2 e3 e4 HWA
      clear e0 e2 e3 e4
      have hB : w2.heap.size ≤ wr.heap.size := F.out.size
      go_wp2_with (at_builtin; refine ap_ints_at _ rfl _ _ rfl w2.heap.size (.slice tp k tc) _ rfl (OwnI.fr O.out ((Fr.refl NoB wr).alloc (.cells #[.int .i64 z.1.width] 3)) (fun _ _ h => h)) NoB _ [z.1.width] rfl (rdI_lit' (l := [z.1.width]) rfl rfl rfl (fun h => h)) ?_ ?_ ?_; (simp; omega); (simp only [World.size_alloc]; omega); intro v6 w6 ho6 hg6 ha6; obtain ⟨p6, q6, hv6⟩ := ho6.form; rw [show ((n.args.take k).map (wAt (nsOf d)) ++ [z.1.width]).length = k + 1 by simp; omega] at hv6; subst hv6; have F6 : Hid (Fr NoB w2 w6) := Fr.grown (F.out.alloc _) hg6 (fun j hj hj2 => by have := (World.ownsRow.lt O.out j hj).1; omega); have O6 := hid ho6; clear ho6 hg6 ha6)
      go_roundw
      case rel => exact ⟨k + 1, by omega, by go_num, F6.out, by rw [take_map_snoc _ hlt, HY.out, HWA.out]; exact O6.out⟩
      case measure => simp [intOf]; omega
    · obtain rfl : k = n.args.length := by omega
      go_wp2_with fail
      refine (width_any NoB n.op n.width n.val _ _ ((n.args.take n.args.length).map (wAt (nsOf d))) (O.out.rd (fun _ _ h => h)) (by simp; omega)).mono ?_
      rintro e w5 ⟨rfl, hf5⟩
      have M5 := hid (M1.out.step hf5)
      clear hf5 x0 x1 x2 x3 x4 xf xl d0 df dl
      obtain ⟨x0, x1, x2, x3, x4, xf, xl⟩ := five_of M5.out.node
      rw [List.take_length]
      obtain ⟨⟨q1, q2⟩, hq⟩ : ∃ q, opW n.op n.width n.val (n.args.map (wAt (nsOf d))) = q := ⟨_, rfl⟩
      rw [hq]
      have HQ := hid hq
      clear hq
      simp only
      go_wp2
      all_goals (go_ret; refine ⟨ret_bool ?_, M5.out.fr⟩; unfold wOk; rw [HQ.out]; clear HQ; first | (simp_all; done) | (simp_all; omega))

end Go.Proofs.YtgpliiepoimcbaaDoor
end
section
/- Drawn regions in TEXT ORDER: each operation either is not wanted, or yields one and the same value in every world of a family G and leaves a world of G. -/
namespace Go.Proofs.YtgpliiepoimcbaaDoor
open Go.RowKit
set_option maxRecDepth 100000

section
variable {P : Program} {ops : Array Oper} {md : Region.Mode} {G : World → Prop}

/-- The operation's run ends with the value v in a world of G. -/
def okR (P : Program) (v : Value) (G : World → Prop) : Result Next → Prop
  | .ok (.value u) W => u = v ∧ G W
  | .ok .skip W => undef = v ∧ G W
  | .ok (.enter f args) W => Calls P f args W (fun e W' => e = .returned v ∧ G W')
  | .ok (.row r args) W => Rows P r args W (fun u W' => u = v ∧ G W')
  | _ => False
/-- What the operation gives, in every world of G. -/
def YG (P : Program) (ops : Array Oper) (G : World → Prop) (o : Oper) (v : Value) (a : Act) : Prop :=
  (Region.wanted o (yielded ops a.tmps) = true ∧ ∀ W, G W → okR P v G ((execOp a.eval o).run P W)) ∨
  (Region.wanted o (yielded ops a.tmps) = false ∧ v = undef)
theorem YG.of_same {o : Oper} {v : Value} {a a' : Act} (hy : YG P ops G o v a) (he : execOp a'.eval o = execOp a.eval o)
    (hw : Region.wanted o (yielded ops a'.tmps) = Region.wanted o (yielded ops a.tmps)) : YG P ops G o v a' := by
  unfold YG at *
  rw [he, hw]
  exact hy
theorem okR.wp {o : Oper} {v : Value} {a : Act} {K : Act → World → Prop} {Q : Exit → Act → World → Prop} (hK : ∀ W, G W → K (a.put o.dst v) W) {r : Result Next} (h : okR P v G r) : o.upon P a K Q r := by
  cases r with
  | ok n W =>
    cases n <;> simp only [okR] at h <;> simp only [Oper.upon]
    case value u => obtain ⟨rfl, h⟩ := h; exact hK _ h
    case skip => obtain ⟨rfl, h⟩ := h; exact hK _ h
    case enter f args => exact h.mono fun e W' ⟨he, hw⟩ => by subst he; exact hK _ hw
    case row r args => exact Rows.mono h fun u W' ⟨he, hw⟩ => by subst he; exact hK _ hw
  | halt x W => cases x <;> exact False.elim h
theorem YG.wpOp {i : Nat} {o : Oper} {v : Value} {a : Act} (hi : ops[i]? = some o) (hy : YG P ops G o v a) {K : Act → World → Prop} {Q : Exit → Act → World → Prop}
    (hK : ∀ W, G W → K (a.put o.dst v) W) {W : World} (hW : G W) : Go.wpOp P ops Q i K a W := by
  unfold Go.wpOp
  simp only [hi]
  rcases hy with ⟨hw, hv⟩ | ⟨hw, rfl⟩
  · simp only [hw, if_true]
    exact .inl (okR.wp hK (hv W hW))
  · simp only [hw, Bool.false_eq_true, if_false]
    exact hK _ hW

/-- One operation, by its number. -/
def stG (P : Program) (ops : Array Oper) (G : World → Prop) (i : Nat) (K : Act → Prop) (a : Act) : Prop :=
  ∀ o, ops[i]? = some o → ∃ v, YG P ops G o v a ∧ K (a.put o.dst v)
theorem stG_mono {i : Nat} {a : Act} {K K' : Act → Prop} (h : ∀ a, K a → K' a) (hh : stG P ops G i K a) : stG P ops G i K' a := fun o ho => by
  obtain ⟨v, h1, h2⟩ := hh o ho
  exact ⟨v, h1, h _ h2⟩
theorem stG_put {j : Nat} {oi oj : Oper} {v : Value} (hj : ops[j]? = some oj) (hap : oi.apart ops oj = true)
    (hsi : ∀ cs b, oi.op ≠ .select cs b) (hsj : ∀ cs b, oj.op ≠ .select cs b) {K : Act → Prop} {a : Act}
    (hy : YG P ops G oi v a) (h : stG P ops G j K (a.put oi.dst v)) : stG P ops G j (fun a' => YG P ops G oi v a' ∧ K (a'.put oi.dst v)) a := fun o ho => by
  obtain rfl : oj = o := by rw [hj] at ho; exact Option.some.inj ho
  obtain ⟨h1, h2, h3⟩ := Oper.apart_spec hap
  obtain ⟨u, hu, hK⟩ := h _ hj
  refine ⟨u, hu.of_same (execOp_put oj hsj a oi.dst v h1).symm (wanted_put oj a oi.dst v h1).symm, hy.of_same (execOp_put oi hsi a oj.dst u h3) (wanted_put oi a oj.dst u h3), ?_⟩
  rw [← Act.put_comm a v u h2]
  exact hK
/-- All orders. -/
def anyG (P : Program) (md : Region.Mode) (ops : Array Oper) (G : World → Prop) (R : Act → Prop) : Nat → Array Bool → Act → Prop
  | 0, listed, a => Region.ready md ops listed = [] ∧ R a
  | fuel + 1, listed, a => (Region.ready md ops listed = [] → R a) ∧ ∀ i ∈ Region.ready md ops listed, stG P ops G i (anyG P md ops G R fuel (listed.setIfInBounds i true)) a
theorem anyG.any {R : Act → Prop} {Q : Exit → Act → World → Prop} (hR : ∀ a W, R a → G W → Q .normal a W) : ∀ (fuel : Nat) (listed : Array Bool) (a : Act) (W : World),
    anyG P md ops G R fuel listed a → G W → wpAny P md ops Q fuel listed a W
  | 0, _, _, _, h, hW => ⟨h.1, hR _ _ h.2 hW⟩
  | fuel + 1, listed, a, W, h, hW => ⟨fun h0 => hR _ _ (h.1 h0) hW, fun i hi => by
      obtain ⟨_, o, ho, _⟩ := mem_ready.1 hi
      obtain ⟨v, hy, hK⟩ := h.2 i hi o ho
      exact hy.wpOp ho (fun W' hW' => anyG.any hR fuel _ _ W' hK hW') hW⟩
theorem anyG_first {R : Act → Prop} {i : Nat} {oi : Oper} {v : Value} (hi : ops[i]? = some oi) (hsel : ∀ (j : Nat) (o : Oper) cs b, ops[j]? = some o → o.op ≠ .select cs b) :
    ∀ (fuel : Nat) (listed : Array Bool) (a : Act),
      (∀ j oj, ops[j]? = some oj → j ≠ i → listed.getD j true = false → (∀ e ∈ oj.after, Region.binds md e = true → e.on ≠ i) → oi.apart ops oj = true) →
      i ∈ Region.ready md ops listed → YG P ops G oi v a →
      anyG P md ops G R fuel (listed.setIfInBounds i true) (a.put oi.dst v) → anyG P md ops G R (fuel + 1) listed a := by
  intro fuel
  induction fuel with
  | zero =>
    intro listed a _ hr hy H
    refine ⟨fun h => absurd (h ▸ hr) (by simp), fun j hj => ?_⟩
    by_cases hji : j = i
    · subst hji
      intro o ho
      obtain rfl : oi = o := by rw [hi] at ho; exact Option.some.inj ho
      exact ⟨v, hy, H⟩
    · have := ready_mono hj hji
      rw [H.1] at this
      cases this
  | succ fuel ih =>
    intro listed a hfree hr hy H
    refine ⟨fun h => absurd (h ▸ hr) (by simp), fun j hj => ?_⟩
    by_cases hji : j = i
    · subst hji
      intro o ho
      obtain rfl : oi = o := by rw [hi] at ho; exact Option.some.inj ho
      exact ⟨v, hy, H⟩
    · obtain ⟨hjun, oj, hoj, hall⟩ := mem_ready.1 hj
      have hnot : ∀ e ∈ oj.after, Region.binds md e = true → e.on ≠ i := fun e he hb heq => by
        have h1 := hall e he hb
        have h0 := (mem_ready.1 hr).1
        rw [heq] at h1
        rcases Nat.lt_or_ge i listed.size with h' | h'
        · simp [h'] at h0 h1; rw [h0] at h1; cases h1
        · simp [Array.getElem?_eq_none h'] at h1
      have h2 := stG_put hoj (hfree j oj hoj hji hjun hnot) (fun cs b => hsel i oi cs b hi) (fun cs b => hsel j oj cs b hoj) hy (H.2 j (ready_mono hj hji))
      refine stG_mono (fun a' h3 => ih (listed.setIfInBounds j true) a' (fun k ok hk hki hun hno => hfree k ok hk hki ?_ hno) (ready_mono hr (Ne.symm hji)) h3.1 ?_) h2
      · by_cases hjk : j = k
        · subst hjk; exact hjun
        · rw [getD_set_ne true hjk] at hun; exact hun
      · rw [Array.setIfInBounds_comm _ _ hji]
        exact h3.2
/-- The operations in text order. -/
def txtG (P : Program) (ops : Array Oper) (G : World → Prop) (R : Act → Prop) : List Oper → Act → Prop
  | [], a => R a
  | o :: rest, a => ∃ v, YG P ops G o v a ∧ txtG P ops G R rest (a.put o.dst v)
theorem txtG.any {R : Act → Prop} (hs : Region.noSelect ops = true) : ∀ (l : List Oper) (k : Nat) (listed : Array Bool) (a : Act), (∀ j, l[j]? = ops[k + j]?) →
    Region.lexFrom md ops l.length k listed = true → txtG P ops G R l a → anyG P md ops G R l.length listed a
  | [], _, _, _, _, hB, h => ⟨by simpa [Region.lexFrom] using hB, h⟩
  | o :: l, k, listed, a, hl, hB, h => by
    have h0 : ops[k]? = some o := by simpa using (hl 0).symm
    simp only [List.length_cons, Region.lexFrom, Bool.and_eq_true] at hB
    obtain ⟨⟨hr, hf⟩, hB'⟩ := hB
    obtain ⟨v, hy, hK⟩ := h
    exact anyG_first h0 (Region.noSelect_spec hs) l.length listed a (Region.free_spec h0 hf) (by simpa using hr) hy
      (txtG.any hs l (k + 1) _ _ (fun j => by have := hl (j + 1); simpa [Nat.add_assoc, Nat.add_comm 1 j] using this) hB' hK)
theorem region_txt (G : World → Prop) {id : Nat} {Q : Exit → Act → World → Prop} {a : Act} {w : World} {l : List Oper} (hm : P.follows .mixedOrders = true) (hB : Region.lexB .any l.toArray = true)
    (hG : G w.drew) (h : txtG P l.toArray G (fun a' => ∀ W, G W → Q .normal a' W) l a) : (Code.region id l.toArray true).wp P Q a w := by
  simp only [Region.lexB, Bool.and_eq_true] at hB
  refine wp_region_any hm ?_
  have := txtG.any (md := .any) hB.1 l 0 (Array.replicate l.length false) a (by simp) (by simpa using hB.2) h
  simpa using this.any (fun a W hR hW => hR W hW) _ _ _ _ hG
theorem txt_nil {R : Act → Prop} {a : Act} (h : R a) : txtG P ops G R [] a := h
theorem txt_off {R : Act → Prop} {a : Act} {o : Oper} {rest : List Oper} (hw : Region.wanted o (yielded ops a.tmps) = false) (h : txtG P ops G R rest (a.put o.dst undef)) : txtG P ops G R (o :: rest) a :=
  ⟨undef, .inr ⟨hw, rfl⟩, h⟩
theorem txt_on {R : Act → Prop} {a : Act} {o : Oper} {rest : List Oper} (v : Value) (hw : Region.wanted o (yielded ops a.tmps) = true) (hy : ∀ W, G W → okR P v G ((execOp a.eval o).run P W)) (h : txtG P ops G R rest (a.put o.dst v)) : txtG P ops G R (o :: rest) a :=
  ⟨v, .inl ⟨hw, hy⟩, h⟩
/-- A read: every world of G gives the same value and stays as it is. -/
theorem txt_read {R : Act → Prop} {a : Act} {o : Oper} {rest : List Oper} (v : Value) (hw : Region.wanted o (yielded ops a.tmps) = true) (hy : ∀ W, G W → (execOp a.eval o).run P W = .ok (.value v) W) (h : txtG P ops G R rest (a.put o.dst v)) : txtG P ops G R (o :: rest) a :=
  txt_on v hw (fun W hW => by rw [hy W hW]; exact ⟨rfl, hW⟩) h
theorem txt_call {R : Act → Prop} {a : Act} {o : Oper} {rest : List Oper} (v : Value) (f : FuncId) (args : Array Value) (hw : Region.wanted o (yielded ops a.tmps) = true) (hy : ∀ W, (execOp a.eval o).run P W = .ok (.enter f args) W)
    (hc : ∀ W, G W → Calls P f args W (fun e W' => e = .returned v ∧ G W')) (h : txtG P ops G R rest (a.put o.dst v)) : txtG P ops G R (o :: rest) a :=
  txt_on v hw (fun W hW => by rw [hy W]; exact hc W hW) h
end

theorem lt_of_cell {w : World} {b o : Nat} {v : Value} (h : w.cell? ⟨b, o, none⟩ = some v) : b < w.heap.size := by
  rcases Nat.lt_or_ge b w.heap.size with h1 | h1
  · exact h1
  · simp [World.cell?, Array.getElem?_eq_none h1] at h
theorem Fr.cf {w W : World} {b o : Nat} {v : Value} (hf : Fr NoB w W) (h : w.cell? ⟨b, o, none⟩ = some v) : W.cell? ⟨b, o, none⟩ = some v :=
  hf.c (lt_of_cell h) (fun h => h) h
theorem Fr.cq {w W : World} (hf : Fr NoB w W) (b o : Nat) (h : b < w.heap.size) : W.cell? ⟨b, o, none⟩ = w.cell? ⟨b, o, none⟩ := hf.cells.1 b o h

end Go.Proofs.YtgpliiepoimcbaaDoor
end
section
/- The walk of the reference's wide. -/
namespace Go.Proofs.YtgpliiepoimcbaaDoor
open Go.RowKit
set_option maxRecDepth 100000

def malfAt (ns : List Node) (k : Nat) : Bool := (ns[k]?).elim false (fun n => malfS n (ns.take k))
def disAt (ns : List Node) (k : Nat) : Bool := (ns[k]?).elim false (fun n => !ordS n.args k)
def badAt (ns : List Node) (k : Nat) : Bool := malfAt ns k || disAt ns k
def wideAt (ns : List Node) (i : Nat) : Bool := (ns[i]?).elim false (fun n => !badAt ns i && n.args.all (fun a => !badAt ns a.toNat) && !wOk n ns)
theorem nsOf_at {d : Dmp} {k : Nat} (h : k < d.nodes.length) : (nsOf d)[k]? = some d.nodes[k].1 := by unfold nsOf; rw [List.getElem?_map, List.getElem?_eq_getElem h]; rfl
theorem refMalfAt (sN sL sR : Value) (d : Dmp) (w : World) (hd : RdD NoB w sN sL sR d) (i : Nat) (hi : i < d.nodes.length) (hlen : d.nodes.length ≤ 1000000) :
    Calls Tryd.prog 42 #[dumpV sN sL sR, .int .i64 i] w fun e w' => e = .returned (.bool (malfAt (nsOf d) i)) ∧ Fr NoB w w' := by
  unfold malfAt
  rw [nsOf_at hi]
  exact refMalf_any sN sL sR d w hd i hi hlen
theorem refDisAt (sN sL sR : Value) (d : Dmp) (w : World) (hd : RdD NoB w sN sL sR d) (i : Nat) (hi : i < d.nodes.length) (hla : ∀ x ∈ d.nodes, x.1.args.length ≤ 1000000) :
    Calls Tryd.prog 43 #[dumpV sN sL sR, .int .i64 i] w fun e w' => e = .returned (.bool (disAt (nsOf d) i)) ∧ Fr NoB w w' := by
  unfold disAt
  rw [nsOf_at hi]
  exact disordered_any sN sL sR d w hd i hi (hla _ (List.getElem_mem _))

/-- The box of the dump. -/
structure DbS (w : World) (sN sL sR : Value) (d : Dmp) (W : World) : Prop where
  fr : Fr NoB w W
  rd : RdD NoB W sN sL sR d
  box : W.heap[w.heap.size]? = some (.cells (dumpCells sN sL sR) 26 (0, 0))
theorem DbS.step {w : World} {sN sL sR : Value} {d : Dmp} {W W' : World} (h : DbS w sN sL sR d W) (hf : Fr NoB W W') : DbS w sN sL sR d W' :=
  ⟨h.fr.step hf, h.rd.step hf, hf.at (fun h => h) h.box⟩
theorem DbS.drew {w : World} {sN sL sR : Value} {d : Dmp} {W : World} (h : DbS w sN sL sR d W) : DbS w sN sL sR d W.drew := h.step (Fr.refl _ _).drew
theorem RdI.cellP {w : World} {b off n c : Nat} {l : List Int} (h : RdI NoB w (.slice (some ⟨b, off, none⟩) n c) l) {k : Nat} (hk : k < l.length) : ∀ W, Fr NoB w W → W.cell? ⟨b, off + k, none⟩ = some (.int .i64 (l.getD k 0)) := fun W hf => by
  obtain ⟨b', off', h1, h2⟩ := (h.fr hf (fun _ _ h => h)).cellK hk
  simp only [Option.some.injEq, Addr.mk.injEq, and_true] at h1
  obtain ⟨rfl, rfl⟩ := h1
  exact h2
theorem DbS.start {w : World} {sN sL sR : Value} {d : Dmp} (h : RdD NoB w sN sL sR d) : DbS w sN sL sR d (w.alloc (.cells (dumpCells sN sL sR) 26)) :=
  ⟨(Fr.refl NoB w).alloc _, h.step ((Fr.refl NoB w).alloc _), at_new w _⟩

set_option maxHeartbeats 4000000 in
theorem wide_any (sN sL sR : Value) (d : Dmp) (w : World) (hd : RdD NoB w sN sL sR d) (i : Nat) (hi : i < d.nodes.length) (hlen : d.nodes.length ≤ 1000000) (hla : ∀ x ∈ d.nodes, x.1.args.length ≤ 1000000) (hok : ∀ x ∈ d.nodes, 0 ≤ x.1.val ∧ x.1.val < 18446744073709551616) :
    Calls Tryd.prog 44 #[dumpV sN sL sR, .int .i64 i] w fun e w' => e = .returned (.bool (wideAt (nsOf d) i)) ∧ Fr NoB w w' := by
  have D0 := hid (DbS.start hd)
  have HLA := hid hla
  have HOK := hid hok
  obtain ⟨p, c, hp⟩ := hd.nodes.form
  subst hp
  clear hd hla hok
  obtain ⟨d0, d1, d2, df, dl⟩ := three_of D0.out.box
  unfold dumpV
  go_enter Tryd.func44, Tryd.ntmps44
  go_wp2_with fail
  refine (refMalfAt _ _ _ d _ D0.out.rd i hi hlen).mono ?_
  rintro e w1 ⟨rfl, hf⟩
  have D1 := hid (D0.out.step hf)
  clear hf d0 d1 d2 df dl D0
  obtain ⟨d0, d1, d2, df, dl⟩ := three_of D1.out.box
  cases hm : malfAt (nsOf d) i with
  | true =>
    have HM := hid hm
    clear hm
    go_wp2
    go_ret
    refine ⟨ret_bool ?_, D1.out.fr⟩
    unfold wideAt
    rw [nsOf_at hi]
    unfold badAt
    simp [HM.out]
  | false =>
    have HM := hid hm
    clear hm
    go_wp2_with fail
    refine (refDisAt _ _ _ d _ D1.out.rd i hi HLA.out).mono ?_
    rintro e w2 ⟨rfl, hf⟩
    have D2 := hid (D1.out.step hf)
    clear hf d0 d1 d2 df dl D1
    obtain ⟨d0, d1, d2, df, dl⟩ := three_of D2.out.box
    cases hs : disAt (nsOf d) i with
    | true =>
      have HS := hid hs
      clear hs
      go_wp2
      go_ret
      refine ⟨ret_bool ?_, D2.out.fr⟩
      unfold wideAt
      rw [nsOf_at hi]
      unfold badAt
      simp [HS.out]
    | false =>
      have HB : Hid (badAt (nsOf d) i = false) := by show _ = _; unfold badAt; rw [HM.out, hs]; rfl
      have hord : ordS d.nodes[i].1.args i = true := by
        unfold disAt at hs
        rw [nsOf_at hi] at hs
        simpa using hs
      clear hs HM
      obtain ⟨b, off, rfl, e0, e1, e2, e3, e4, ha⟩ := D2.out.rd.nodes.nodeK hi
      have HX : Hid ((nsOf d)[i]? = some d.nodes[i].1) := nsOf_at hi
      have hxl := HLA.out _ (List.getElem_mem hi)
      have hxv := HOK.out _ (List.getElem_mem hi)
      generalize d.nodes[i] = x at e0 e1 e2 e3 e4 ha HX hord hxl hxv
      obtain ⟨xn, xs⟩ := x
      simp only at e0 e1 e2 e3 e4 ha HX hord hxl hxv
      obtain ⟨ax, cx, rfl⟩ := ha.form
      have HORD : Hid (∀ y ∈ xn.args, 0 ≤ y ∧ y < (i : Int)) := fun y hy => by
        unfold ordS at hord
        rw [List.all_eq_true] at hord
        simpa using hord y hy
      have HXV := hid hxv
      have HA := hid ha
      clear hord hxv ha
      have hf3 : Fr NoB w2 (w2.alloc (.cells (nodeCells xn (.slice ax xn.args.length cx)) 40)) := (Fr.refl NoB w2).alloc _
      have D3 := hid (D2.out.step hf3)
      have HA3 := hid (HA.out.fr hf3 (fun _ _ h => h))
      have HB3 := hid (at_new w2 (.cells (nodeCells xn (.slice ax xn.args.length cx)) 40))
      have hsz : (w2.alloc (.cells (nodeCells xn (.slice ax xn.args.length cx)) 40)).heap.size = w2.heap.size + 1 := by simp only [World.size_alloc]
      obtain ⟨w3, hw3⟩ : ∃ w3, w2.alloc (.cells (nodeCells xn (.slice ax xn.args.length cx)) 40) = w3 := ⟨_, rfl⟩
      rw [hw3] at D3 HA3 HB3 hsz
      have HO3 := hid (OwnI.lit w3.heap.size w3 [] (by simp) (by simp))
      simp only [List.map_nil] at HO3
      have HW3 := hid hw3
      clear hf3 hw3
      go_wp2
      rw [HW3.out]
      have ho3 : OwnI w3.heap.size (w3.alloc (.cells #[] 3)) (.slice (some ⟨w2.heap.size + 1, 0, none⟩) 0 0) [] := by have := HO3.out; rw [hsz] at this ⊢; simpa using this
      have HO3' := hid ho3
      clear ho3 HO3 HW3 d0 d1 d2 df dl e0 e1 e2 e3 e4 D2 HA
      go_loopw [6, 7] (fun t j wr => ∃ (k : Nat), k ≤ xn.args.length ∧ j = .int .i64 k ∧ Fr NoB w3 wr ∧ OwnI w3.heap.size wr t ((xn.args.take k).map (wAt (nsOf d))) ∧ (xn.args.take k).all (fun a => !badAt (nsOf d) a.toNat) = true) (fun _ j _ => xn.args.length - (intOf j).toNat)
      case atStart => exact ⟨0, Nat.zero_le _, rfl, (Fr.refl _ _).alloc _, HO3'.out, rfl⟩
      case round =>
        obtain ⟨k, hk, rfl, hf, ho, hall⟩ := hrel
        obtain ⟨tp, tc, hv⟩ := ho.form
        rw [show ((xn.args.take k).map (wAt (nsOf d))).length = k by simp; omega] at hv
        subst hv
        have F := hid hf
        have O := hid ho
        have HALL := hid hall
        have D4 := hid (D3.out.step hf)
        have B4 := hid (hf.at (fun h => h) HB3.out)
        obtain ⟨x0, x1, x2, x3, x4, xf, xl⟩ := five_of B4.out
        obtain ⟨d0, d1, d2, df, dl⟩ := three_of D4.out.box
        clear hf ho hall HO3'
        by_cases hlt : k < xn.args.length
        · obtain ⟨ba, oa, rfl, ka⟩ := (HA3.out.fr F.out (fun _ _ h => h)).cellK hlt
          have HKA := hid ((HA3.out.fr F.out (fun _ _ h => h)).cellP hlt)
          have ra := HORD.out _ (getD_mem hlt)
          obtain ⟨y, hy⟩ : ∃ y, xn.args.getD k 0 = y := ⟨_, rfl⟩
          rw [hy] at ka ra HKA
          have HY := hid hy
          clear hy
          obtain ⟨r0, r1⟩ := ra
          obtain ⟨m, rfl⟩ : ∃ m : Nat, y = m := ⟨y.toNat, by omega⟩
          have hmn : m < d.nodes.length := by omega
          cases hmf : malfAt (nsOf d) m with
          | true =>
            have HMF := hid hmf
            clear hmf
            go_wp2
            have dx := lt_of_cell ka
            refine region_txt (Fr NoB _) (by kernel_rfl) (by kernel_rfl) ((Fr.refl NoB _).drew) ?_
            repeat (first | (refine txt_off (by rfl) ?_; (try simp only [Act.put, List.setIfInBounds_toArray, List.set_cons_zero, List.set_cons_succ])) | (refine txt_read ?_ (by rfl) ?_ ?_; rotate_left; (focus (intro W hW; have hWc := Fr.cq hW; clear hW; go_simp; (try with_reducible rfl); done)); (try simp only [Act.put, List.setIfInBounds_toArray, List.set_cons_zero, List.set_cons_succ])))
            (refine txt_call (.bool (malfAt (nsOf d) m)) ?_ ?_ (by rfl) ?_ ?_ ?_; rotate_left; rotate_left; (focus (intro W; go_simp; (first | done | (refine And.intro ?_ ?_ <;> with_reducible rfl) | with_reducible rfl); done)); (focus (exact (fun W hW => (refMalfAt _ _ _ d _ (D4.out.step hW).rd m hmn hlen).mono (fun e W' h => ⟨h.1, hW.step h.2⟩)))); (try simp only [Act.put, List.setIfInBounds_toArray, List.set_cons_zero, List.set_cons_succ]))
            rw [HMF.out]
            repeat (first | (refine txt_off (by rfl) ?_; (try simp only [Act.put, List.setIfInBounds_toArray, List.set_cons_zero, List.set_cons_succ])) | (refine txt_read ?_ (by rfl) ?_ ?_; rotate_left; (focus (intro W hW; have hWc := Fr.cq hW; clear hW; go_simp; (try with_reducible rfl); done)); (try simp only [Act.put, List.setIfInBounds_toArray, List.set_cons_zero, List.set_cons_succ])))
            refine txt_nil ?_
            intro W hW
            have D5 := hid (D4.out.step hW)
            go_wp2
            go_ret
            refine ⟨ret_bool ?_, D5.out.fr⟩
            unfold wideAt
            rw [HX.out]
            have hbad : xn.args.all (fun a => !badAt (nsOf d) a.toNat) = false := by
              rw [List.all_eq_false]
              refine ⟨xn.args.getD k 0, getD_mem hlt, ?_⟩
              rw [HY.out]
              unfold badAt
              simp [HMF.out]
            simp [hbad]
          | false =>
            have HMF := hid hmf
            clear hmf
            cases hds : disAt (nsOf d) m with
            | true =>
              have HDS := hid hds
              clear hds
              go_wp2
              have dx := lt_of_cell ka
              refine region_txt (Fr NoB _) (by kernel_rfl) (by kernel_rfl) ((Fr.refl NoB _).drew) ?_
              repeat (first | (refine txt_off (by rfl) ?_; (try simp only [Act.put, List.setIfInBounds_toArray, List.set_cons_zero, List.set_cons_succ])) | (refine txt_read ?_ (by rfl) ?_ ?_; rotate_left; (focus (intro W hW; have hWc := Fr.cq hW; clear hW; go_simp; (try with_reducible rfl); done)); (try simp only [Act.put, List.setIfInBounds_toArray, List.set_cons_zero, List.set_cons_succ])))
              (refine txt_call (.bool (malfAt (nsOf d) m)) ?_ ?_ (by rfl) ?_ ?_ ?_; rotate_left; rotate_left; (focus (intro W; go_simp; (first | done | (refine And.intro ?_ ?_ <;> with_reducible rfl) | with_reducible rfl); done)); (focus (exact (fun W hW => (refMalfAt _ _ _ d _ (D4.out.step hW).rd m hmn hlen).mono (fun e W' h => ⟨h.1, hW.step h.2⟩)))); (try simp only [Act.put, List.setIfInBounds_toArray, List.set_cons_zero, List.set_cons_succ]))
              rw [HMF.out]
              repeat (first | (refine txt_off (by rfl) ?_; (try simp only [Act.put, List.setIfInBounds_toArray, List.set_cons_zero, List.set_cons_succ])) | (refine txt_read ?_ (by rfl) ?_ ?_; rotate_left; (focus (intro W hW; have hWc := Fr.cq hW; clear hW; go_simp; (try with_reducible rfl); done)); (try simp only [Act.put, List.setIfInBounds_toArray, List.set_cons_zero, List.set_cons_succ])))
              (refine txt_call (.bool (disAt (nsOf d) m)) ?_ ?_ (by rfl) ?_ ?_ ?_; rotate_left; rotate_left; (focus (intro W; go_simp; (first | done | (refine And.intro ?_ ?_ <;> with_reducible rfl) | with_reducible rfl); done)); (focus (exact (fun W hW => (refDisAt _ _ _ d _ (D4.out.step hW).rd m hmn HLA.out).mono (fun e W' h => ⟨h.1, hW.step h.2⟩)))); (try simp only [Act.put, List.setIfInBounds_toArray, List.set_cons_zero, List.set_cons_succ]))
              rw [HDS.out]
              repeat (first | (refine txt_off (by rfl) ?_; (try simp only [Act.put, List.setIfInBounds_toArray, List.set_cons_zero, List.set_cons_succ])) | (refine txt_read ?_ (by rfl) ?_ ?_; rotate_left; (focus (intro W hW; have hWc := Fr.cq hW; clear hW; go_simp; (try with_reducible rfl); done)); (try simp only [Act.put, List.setIfInBounds_toArray, List.set_cons_zero, List.set_cons_succ])))
              refine txt_nil ?_
              intro W hW
              have D5 := hid (D4.out.step hW)
              go_wp2
              go_ret
              refine ⟨ret_bool ?_, D5.out.fr⟩
              unfold wideAt
              rw [HX.out]
              have hbad : xn.args.all (fun a => !badAt (nsOf d) a.toNat) = false := by
                rw [List.all_eq_false]
                refine ⟨xn.args.getD k 0, getD_mem hlt, ?_⟩
                rw [HY.out]
                unfold badAt
                simp [HDS.out]
              simp [hbad]
            | false =>
              have HDS := hid hds
              clear hds
              go_wp2
              have dx := lt_of_cell ka
              refine region_txt (Fr NoB _) (by kernel_rfl) (by kernel_rfl) ((Fr.refl NoB _).drew) ?_
              repeat (first | (refine txt_off (by rfl) ?_; (try simp only [Act.put, List.setIfInBounds_toArray, List.set_cons_zero, List.set_cons_succ])) | (refine txt_read ?_ (by rfl) ?_ ?_; rotate_left; (focus (intro W hW; have hWc := Fr.cq hW; clear hW; go_simp; (try with_reducible rfl); done)); (try simp only [Act.put, List.setIfInBounds_toArray, List.set_cons_zero, List.set_cons_succ])))
              (refine txt_call (.bool (malfAt (nsOf d) m)) ?_ ?_ (by rfl) ?_ ?_ ?_; rotate_left; rotate_left; (focus (intro W; go_simp; (first | done | (refine And.intro ?_ ?_ <;> with_reducible rfl) | with_reducible rfl); done)); (focus (exact (fun W hW => (refMalfAt _ _ _ d _ (D4.out.step hW).rd m hmn hlen).mono (fun e W' h => ⟨h.1, hW.step h.2⟩)))); (try simp only [Act.put, List.setIfInBounds_toArray, List.set_cons_zero, List.set_cons_succ]))
              rw [HMF.out]
              repeat (first | (refine txt_off (by rfl) ?_; (try simp only [Act.put, List.setIfInBounds_toArray, List.set_cons_zero, List.set_cons_succ])) | (refine txt_read ?_ (by rfl) ?_ ?_; rotate_left; (focus (intro W hW; have hWc := Fr.cq hW; clear hW; go_simp; (try with_reducible rfl); done)); (try simp only [Act.put, List.setIfInBounds_toArray, List.set_cons_zero, List.set_cons_succ])))
              (refine txt_call (.bool (disAt (nsOf d) m)) ?_ ?_ (by rfl) ?_ ?_ ?_; rotate_left; rotate_left; (focus (intro W; go_simp; (first | done | (refine And.intro ?_ ?_ <;> with_reducible rfl) | with_reducible rfl); done)); (focus (exact (fun W hW => (refDisAt _ _ _ d _ (D4.out.step hW).rd m hmn HLA.out).mono (fun e W' h => ⟨h.1, hW.step h.2⟩)))); (try simp only [Act.put, List.setIfInBounds_toArray, List.set_cons_zero, List.set_cons_succ]))
              rw [HDS.out]
              repeat (first | (refine txt_off (by rfl) ?_; (try simp only [Act.put, List.setIfInBounds_toArray, List.set_cons_zero, List.set_cons_succ])) | (refine txt_read ?_ (by rfl) ?_ ?_; rotate_left; (focus (intro W hW; have hWc := Fr.cq hW; clear hW; go_simp; (try with_reducible rfl); done)); (try simp only [Act.put, List.setIfInBounds_toArray, List.set_cons_zero, List.set_cons_succ])))
              refine txt_nil ?_
              intro W hW
              have D5 := hid (D4.out.step hW)
              have F5 := hid (F.out.step hW)
              have O5 := hid (OwnI.fr O.out hW (fun _ _ h => h))
              have B5 := hid (hW.at (fun h => h) B4.out)
              clear x0 x1 x2 x3 x4 xf xl d0 d1 d2 df dl ka dx
              obtain ⟨bm, om, hbm, m0, m1, m2, m3, m4, hma⟩ := D3.out.rd.nodes.nodeK hmn
              simp only [Option.some.injEq, Addr.mk.injEq, and_true] at hbm
              obtain ⟨rfl, rfl⟩ := hbm
              have HWA := hid (wAt_of (d := d) (a := m) (x := d.nodes[m]) (by simp [hmn]))
              generalize d.nodes[m] = z at m0 m1 m2 m3 m4 hma HWA
              clear m0 m2 m3 m4 hma
              have HS : Hid (∀ W', Fr NoB w3 W' → W'.cell? ⟨w.heap.size, 0, none⟩ = some (.slice (some ⟨b, off, none⟩) d.nodes.length c) ∧ W'.cell? ⟨w2.heap.size, 4, none⟩ = some (.slice (some ⟨ba, oa, none⟩) xn.args.length cx) ∧ W'.cell? ⟨ba, oa + k, none⟩ = some (.int .i64 m) ∧ W'.cell? ⟨b, off + m * 5 + 1, none⟩ = some (.int .i64 z.1.width)) := fun W' h' =>
                ⟨h'.cf (three_of D3.out.box).1, h'.cf (five_of HB3.out).2.2.2.2.1, by have := HA3.out.cellP hlt W' h'; rw [HY.out] at this; exact this, h'.cf m1⟩
              clear m1
              have hB : w3.heap.size ≤ W.heap.size := F5.out.size
              obtain ⟨s1, s2, s3, s4⟩ := HS.out W F5.out
              go_wp2
              go_region_held3 (fun w' => w'.cell? ⟨w.heap.size, 0, none⟩ = some (.slice (some ⟨b, off, none⟩) d.nodes.length c) ∧ w'.cell? ⟨w2.heap.size, 4, none⟩ = some (.slice (some ⟨ba, oa, none⟩) xn.args.length cx) ∧ w'.cell? ⟨ba, oa + k, none⟩ = some (.int .i64 m) ∧ w'.cell? ⟨b, off + m * 5 + 1, none⟩ = some (.int .i64 z.1.width)) (go_keep)
                (first
                  | (refine ints_step _ (by rfl) _ _ (by rfl) w3.heap.size (.slice tp k tc) _ (by rfl) (OwnI.fr O5.out ?_ (fun _ _ h => h)) NoB _ [z.1.width] (by rfl) (rdI_lit' (l := [z.1.width]) rfl rfl rfl (fun h => h)) (k + 1) (by simp; try omega) (by omega) ?_ ?_; exact (Fr.refl NoB W).drew.alloc _; (simp only [World.size_alloc, World.size_drew]; omega); intro p6 q6 w6 ho6 hg6 ha6; have F6 : Hid (Fr NoB w3 w6) := Fr.grown (F5.out.drew.alloc _) hg6 (fun j hj hj2 => by have := (World.ownsRow.lt O5.out j hj).1; omega); have O6 := hid ho6; clear ho6 hg6 ha6; clear s1 s2 s3 s4; obtain ⟨s1, s2, s3, s4⟩ := HS.out w6 F6.out))
              go_wp2
              go_roundw
              case rel =>
                refine ⟨k + 1, by omega, by go_num, F6.out, by rw [take_map_snoc _ hlt, HY.out, HWA.out]; exact O6.out, ?_⟩
                rw [List.take_add_one, List.all_append, HALL.out, List.getElem?_eq_getElem hlt, ← getD_eq hlt, HY.out]
                unfold badAt
                simp [HMF.out, HDS.out]
              case measure => simp [intOf]; omega
        · obtain rfl : k = xn.args.length := by omega
          have hall := HALL.out
          have hrd := O.out.rd (fun _ _ h => h)
          rw [List.take_length] at hall hrd
          go_wp2_with fail
          refine (refWidthAll_any NoB xn.op xn.width xn.val HXV.out _ _ (xn.args.map (wAt (nsOf d))) hrd (by simp; omega)).mono ?_
          rintro e w5 ⟨rfl, hf5⟩
          have HALL' := hid hall
          have D5 := hid (D4.out.step hf5)
          have B5 := hid (hf5.at (fun h => h) B4.out)
          clear hall hrd hf5 x0 x1 x2 x3 x4 xf xl d0 d1 d2 df dl
          obtain ⟨x0, x1, x2, x3, x4, xf, xl⟩ := five_of B5.out
          obtain ⟨⟨q1, q2⟩, hq⟩ : ∃ q, opW xn.op xn.width xn.val (xn.args.map (wAt (nsOf d))) = q := ⟨_, rfl⟩
          rw [hq]
          have HQ := hid hq
          clear hq
          simp only
          by_cases z1 : xn.width < 1
          · have z1' : ¬ (1 ≤ xn.width) := by omega
            go_wp2
            all_goals (go_ret; refine ⟨ret_bool ?_, D5.out.fr⟩; unfold wideAt wOk; rw [HX.out]; simp [HB.out, HALL'.out, HQ.out, z1'])
          · have z1' : 1 ≤ xn.width := by omega
            by_cases z2 : q2 = 0
            · subst z2
              go_wp2
              all_goals (go_ret; refine ⟨ret_bool ?_, D5.out.fr⟩; unfold wideAt wOk; rw [HX.out]; simp [HB.out, HALL'.out, HQ.out, z1', bne])
            · go_wp2
              all_goals (go_ret; refine ⟨ret_bool ?_, D5.out.fr⟩; unfold wideAt wOk; rw [HX.out]; simp [HB.out, HALL'.out, HQ.out, z1', z2])

end Go.Proofs.YtgpliiepoimcbaaDoor
end
section
/- The walk of the reference's Labels. -/
namespace Go.Proofs.YtgpliiepoimcbaaDoor
open Go.RowKit
set_option maxRecDepth 100000

/-- A link of a row. -/
theorem RdE.lkK {M : Nat → Prop} {w : World} {p : Option Addr} {n c : Nat} {l : List Lnk} (h : RdE lkCells M w (.slice p n c) l) {k : Nat} (hk : k < l.length) : ∃ b off, p = some ⟨b, off, none⟩ ∧ n = l.length ∧
    w.cell? ⟨b, off + k * 3, none⟩ = some (.int .i64 l[k].a) ∧ w.cell? ⟨b, off + k * 3 + 1, none⟩ = some (.int .i64 l[k].b) ∧ w.cell? ⟨b, off + k * 3 + 2, none⟩ = some (.int .i64 l[k].why) := by
  rcases h with ⟨_, h⟩ | ⟨b, off, cap, h1, _, _, _, hc⟩
  · subst h; simp at hk
  · simp only [Value.slice.injEq] at h1
    obtain ⟨rfl, rfl, rfl⟩ := h1
    have e := fun j (hj : j < 3) => flatE_get lkCells lkLen l k hk j hj
    have e0 := hc (k * 3 + 0) _ (by rw [e 0 (by omega)]; rfl)
    have e1 := hc (k * 3 + 1) _ (by rw [e 1 (by omega)]; rfl)
    have e2 := hc (k * 3 + 2) _ (by rw [e 2 (by omega)]; rfl)
    exact ⟨b, off, rfl, rfl, by simpa using e0, by rw [Nat.add_assoc]; exact e1, by rw [Nat.add_assoc]; exact e2⟩
theorem RdE.form3 {M : Nat → Prop} {w : World} {v : Value} {l : List Lnk} (h : RdE lkCells M w v l) : ∃ a c, v = .slice a l.length c := by
  rcases h with ⟨⟨a, c, h1, _⟩, h⟩ | ⟨b, off, cap, h1, _⟩
  · subst h; exact ⟨a, c, h1⟩
  · exact ⟨_, _, h1⟩

def lbInit (m : Nat) : List Int := (List.range m).map (fun i : Nat => (i : Int))
def lbIn (m : Nat) (x : Lnk) : Bool := decide (0 ≤ x.a ∧ 0 ≤ x.b ∧ x.a < m ∧ x.b < m)
def lbMerge (l : List Int) (a b : Int) : List Int := l.map (fun y => if y = max a b then min a b else y)
def lbStep (m : Nat) (l : List Int) (x : Lnk) : List Int := if lbIn m x then lbMerge l (l.getD x.a.toNat 0) (l.getD x.b.toNat 0) else l
def lbAt (m : Nat) (lk : List Lnk) (k : Nat) : List Int := (lk.take k).foldl (lbStep m) (lbInit m)
theorem lbInit_length (m : Nat) : (lbInit m).length = m := by simp [lbInit]
theorem lbStep_length (m : Nat) (l : List Int) (x : Lnk) : (lbStep m l x).length = l.length := by unfold lbStep lbMerge; split <;> simp
theorem lbFold_length (m : Nat) : ∀ (lk : List Lnk) (l : List Int), (lk.foldl (lbStep m) l).length = l.length
  | [], _ => rfl
  | x :: lk, l => by rw [List.foldl_cons, lbFold_length m lk, lbStep_length]
theorem lbAt_length (m : Nat) (lk : List Lnk) (k : Nat) : (lbAt m lk k).length = m := by unfold lbAt; rw [lbFold_length, lbInit_length]
theorem lbAt_succ (m : Nat) (lk : List Lnk) {k : Nat} (hk : k < lk.length) : lbAt m lk (k + 1) = lbStep m (lbAt m lk k) lk[k] := by
  unfold lbAt
  rw [List.take_add_one, List.getElem?_eq_getElem hk, List.foldl_append]; rfl
theorem set_same (l : List Int) (n : Nat) (h : n < l.length) (y : Int) (hy : l.getD n 0 = y) : l.set n y = l := by
  subst hy
  rw [getD_eq h]
  exact List.set_getElem_self h
theorem lbInit_succ (k : Nat) : lbInit (k + 1) = lbInit k ++ [(k : Int)] := by unfold lbInit; rw [List.range_succ, List.map_append]; rfl

set_option maxHeartbeats 4000000 in
theorem labels_any (sN sL sR : Value) (d : Dmp) (w : World) (hd : RdD NoB w sN sL sR d) (K : Nat) (hK : K ≤ d.links.length) (hlen : d.nodes.length ≤ 1000000) (hll : d.links.length ≤ 1000000) :
    Calls Tryd.prog 11 #[dumpV sN sL sR, .int .i64 K] w fun e w' => ∃ v, e = .returned v ∧ OwnI w.heap.size w' v (lbAt d.nodes.length d.links K) ∧ Fr NoB w w' := by
  have D0 := hid (DbS.start hd)
  obtain ⟨p, c, hp⟩ := hd.nodes.form
  subst hp
  obtain ⟨pl, cl, hp⟩ := hd.links.form3
  subst hp
  clear hd
  obtain ⟨w0, hw0⟩ : ∃ w0, w.alloc (.cells (dumpCells (.slice p d.nodes.length c) (.slice pl d.links.length cl) sR) 26) = w0 := ⟨_, rfl⟩
  have hsz0 : w0.heap.size = w.heap.size + 1 := by rw [← hw0]; simp only [World.size_alloc]
  rw [hw0] at D0
  have HO0 := hid (OwnI.lit w0.heap.size w0 [] (by simp) (by simp))
  simp only [List.map_nil] at HO0
  unfold dumpV
  go_enter Tryd.func11, Tryd.ntmps11
  go_wp2
  have ho0 : OwnI w0.heap.size (w0.alloc (.cells #[] 3)) (.slice (some ⟨w.heap.size + 1, 0, none⟩) 0 0) [] := by have := HO0.out; rw [hsz0] at this ⊢; simpa using this
  have HO := hid ho0
  clear ho0 HO0 hw0
  go_loopw [5, 6] (fun t j wr => ∃ (k : Nat), k ≤ d.nodes.length ∧ j = .int .i64 k ∧ Fr NoB w0 wr ∧ OwnI w0.heap.size wr t (lbInit k)) (fun _ j _ => d.nodes.length - (intOf j).toNat)
  case atStart => exact ⟨0, Nat.zero_le _, rfl, (Fr.refl _ _).alloc _, HO.out⟩
  case round =>
    obtain ⟨k, hk, rfl, hf, ho⟩ := hrel
    obtain ⟨tp, tc, hv⟩ := ho.form
    rw [lbInit_length] at hv
    subst hv
    have F := hid hf
    have O := hid ho
    have D1 := hid (D0.out.step hf)
    obtain ⟨d0, d1, d2, df, dl⟩ := three_of D1.out.box
    have hB : w0.heap.size ≤ wr.heap.size := hf.size
    clear hf ho HO
    by_cases hlt : k < d.nodes.length
    · go_wp2_with (at_builtin; refine ap_ints_at _ rfl _ _ rfl w0.heap.size (.slice tp k tc) _ rfl (OwnI.fr O.out ((Fr.refl NoB wr).alloc (.cells #[.int .i64 k] 3)) (fun _ _ h => h)) NoB _ [(k : Int)] rfl (rdI_lit' (l := [(k : Int)]) rfl rfl rfl (fun h => h)) ?_ ?_ ?_; (simp [lbInit_length]; omega); (simp only [World.size_alloc]; omega); intro v6 w6 ho6 hg6 ha6; obtain ⟨p6, q6, hv6⟩ := ho6.form; rw [show (lbInit k ++ [(k : Int)]).length = k + 1 by simp [lbInit_length]] at hv6; subst hv6; have F6 : Hid (Fr NoB w0 w6) := Fr.grown (F.out.alloc _) hg6 (fun j hj hj2 => by have := (World.ownsRow.lt O.out j hj).1; omega); have O6 := hid ho6; clear ho6 hg6 ha6)
      go_roundw
      case rel => exact ⟨k + 1, by omega, by go_num, F6.out, by rw [lbInit_succ]; exact O6.out⟩
      case measure => simp [intOf]; omega
    · obtain rfl : k = d.nodes.length := by omega
      go_wp2
      go_loopw [7] (fun j wx => ∃ (k : Nat), k ≤ K ∧ j = .int .i64 k ∧ Fr NoB w0 wx ∧ OwnI w0.heap.size wx (.slice tp d.nodes.length tc) (lbAt d.nodes.length d.links k)) (fun j _ => K - (intOf j).toNat)
      case atStart => exact ⟨0, Nat.zero_le _, rfl, F.out, O.out⟩
      case round =>
        obtain ⟨k, hk, rfl, hf, ho⟩ := hrel
        have F2 := hid hf
        have O2 := hid ho
        have D2 := hid (D0.out.step hf)
        clear d0 d1 d2 df dl D1 F O hf ho
        obtain ⟨d0, d1, d2, df, dl⟩ := three_of D2.out.box
        by_cases hlt : k < K
        · have hkl : k < d.links.length := by omega
          obtain ⟨bl, ol, rfl, _, l0, l1, l2⟩ := D2.out.rd.links.lkK hkl
          have HST := hid (lbAt_succ d.nodes.length d.links hkl)
          generalize d.links[k] = x at l0 l1 l2 HST
          go_wp2_with fail
          refine (refIn_any _ _ _ p d.nodes.length c rfl x _).mono ?_
          rintro e w3 ⟨rfl, hf3⟩
          have hf4 : Fr NoB wr w3 := ((Fr.refl NoB wr).alloc _).step hf3
          have B3 := hid (hf3.at (fun h => h) (at_new wr (.cells #[.int .i64 x.a, .int .i64 x.b, .int .i64 x.why] 50)))
          have D3 := hid (D2.out.step hf4)
          have F3 := hid (F2.out.step hf4)
          have O3 := hid (OwnI.fr O2.out hf4 (fun _ _ h => h))
          clear d0 d1 d2 df dl l0 l1 l2 hf3 hf4 D2 F2 O2
          obtain ⟨d0, d1, d2, df, dl⟩ := three_of D3.out.box
          obtain ⟨x0, x1, x2, xf, xl⟩ := three_of B3.out
          by_cases hin : 0 ≤ x.a ∧ 0 ≤ x.b ∧ x.a < d.nodes.length ∧ x.b < d.nodes.length
          · have hlb : lbIn d.nodes.length x = true := by unfold lbIn; exact decide_eq_true hin
            have HLB := hid hlb
            rw [show decide (0 ≤ x.a ∧ 0 ≤ x.b ∧ x.a < d.nodes.length ∧ x.b < d.nodes.length) = true from decide_eq_true hin]
            obtain ⟨i0, i1, i2, i3⟩ := hin
            obtain ⟨xa, xb, xw⟩ := x
            simp only at i0 i1 i2 i3 x0 x1 x2 HLB HST B3
            obtain ⟨na, rfl⟩ : ∃ na : Nat, xa = na := ⟨xa.toNat, by omega⟩
            obtain ⟨nb, rfl⟩ : ∃ nb : Nat, xb = nb := ⟨xb.toNat, by omega⟩
            have hna : na < d.nodes.length := by omega
            have hnb : nb < d.nodes.length := by omega
            have hll := lbAt_length d.nodes.length d.links k
            rcases O3.out.form' with ⟨_, hnil⟩ | ⟨g, cap, hgv, hg1, hg2, hg3⟩
            · rw [hnil] at hll; simp at hll; omega
            · simp only [Value.slice.injEq] at hgv
              obtain ⟨rfl, hgl, rfl⟩ := hgv
              clear hgl
              have ca := O3.out.cell (i := na) (by omega)
              have cb := O3.out.cell (i := nb) (by omega)
              obtain ⟨L, hL⟩ : ∃ L, lbAt d.nodes.length d.links k = L := ⟨_, rfl⟩
              rw [hL] at O3 HST ca cb hll
              have HLL := hid hll
              clear hll hL hlb
              obtain ⟨A, hA⟩ : ∃ A, L.getD na 0 = A := ⟨_, rfl⟩
              obtain ⟨B, hB'⟩ : ∃ B, L.getD nb 0 = B := ⟨_, rfl⟩
              rw [hA] at ca
              rw [hB'] at cb
              have HA := hid hA
              have HB' := hid hB'
              clear hA hB'
              go_wp2
              refine region_txt (Fr NoB _) (by kernel_rfl) (by kernel_rfl) ((Fr.refl NoB _).drew) ?_
              repeat (first | (refine txt_off (by rfl) ?_; (try simp only [Act.put, List.setIfInBounds_toArray, List.set_cons_zero, List.set_cons_succ])) | (refine txt_read ?_ (by rfl) ?_ ?_; rotate_left; (focus (intro W hW; have hWc := Fr.cq hW; clear hW; go_simp; (try with_reducible rfl); done)); (try simp only [Act.put, List.setIfInBounds_toArray, List.set_cons_zero, List.set_cons_succ])))
              refine txt_nil ?_
              intro W hW
              have F4 := hid (F3.out.step hW)
              have O4 := hid (OwnI.fr O3.out hW (fun _ _ h => h))
              clear hW d0 d1 d2 df dl x0 x1 x2 xf xl ca cb
              go_wp2
              go_loopw [11] (fun j wy => ∃ (n : Nat), n ≤ d.nodes.length ∧ j = .int .i64 n ∧ Fr NoB w0 wy ∧ OwnI w0.heap.size wy (.slice (some ⟨g, 0, none⟩) d.nodes.length tc) ((L.take n).map (fun y => if y = max A B then min A B else y) ++ L.drop n)) (fun j _ => d.nodes.length - (intOf j).toNat)
              case atStart => exact ⟨0, Nat.zero_le _, rfl, F4.out, by simpa using O4.out⟩
              case round =>
                obtain ⟨n, hn, rfl, hf, ho⟩ := hrel
                have F5 := hid hf
                have O5 := hid ho
                clear hf ho O4 F4 O3 F3
                by_cases hnl : n < d.nodes.length
                · have hcl := O5.out.cell (i := n) (by have := HLL.out; simp; omega)
                  have hfz := O5.out.frozen n
                  have hnL : n < L.length := by rw [HLL.out]; exact hnl
                  have hg0 : ((L.take n).map (fun y => if y = max A B then min A B else y) ++ L.drop n).getD n 0 = L.getD n 0 := by
                    rw [List.getD_eq_getElem?_getD, List.getElem?_append_right (by simp; omega), List.getElem?_drop, List.getD_eq_getElem?_getD]
                    congr 2
                    simp; omega
                  rw [hg0] at hcl
                  have HG := hid hg0
                  obtain ⟨y, hy⟩ : ∃ y, L.getD n 0 = y := ⟨_, rfl⟩
                  rw [hy] at hcl
                  have HY := hid hy
                  clear hy hg0
                  have HT := hid (take_map_set L (fun y => if y = max A B then min A B else y) n hnL)
                  by_cases hym : y = max A B
                  · have HYM := hid hym
                    go_wp2
                    go_roundw
                    case rel =>
                      refine ⟨n + 1, by omega, by go_num, Fr.setCell F5.out (p := ⟨g, n, none⟩) (fun h => by have h2 : g < w0.heap.size := h; omega) _, ?_⟩
                      have h9 := O5.out.stored n (min A B)
                      have h8 := HT.out
                      rw [HY.out, if_pos HYM.out] at h8
                      rw [h8] at h9
                      exact h9
                    case measure => simp [intOf]; omega
                  · have HYM := hid hym
                    go_wp2
                    go_roundw
                    case rel =>
                      refine ⟨n + 1, by omega, by go_num, F5.out, ?_⟩
                      have h9 := O5.out
                      have h8 := HT.out
                      rw [HY.out, if_neg HYM.out, set_same _ n (by simp; omega) y (HG.out.trans HY.out)] at h8
                      rw [h8] at h9
                      exact h9
                    case measure => simp [intOf]; omega
                · obtain rfl : n = d.nodes.length := by omega
                  have h9 := O5.out
                  rw [List.take_of_length_le (by rw [HLL.out]; exact Nat.le_refl _), List.drop_eq_nil_of_le (by rw [HLL.out]; exact Nat.le_refl _), List.append_nil] at h9
                  have h8 : lbStep d.nodes.length L ⟨na, nb, xw⟩ = L.map (fun y => if y = max A B then min A B else y) := by
                    unfold lbStep lbMerge
                    rw [if_pos HLB.out]
                    simp only [Int.toNat_natCast]
                    rw [HA.out, HB'.out]
                  rw [← h8, ← HST.out] at h9
                  have O9 := hid h9
                  clear h8 h9
                  go_wp2
                  go_roundw
                  case rel => exact ⟨k + 1, by omega, by go_num, F5.out, O9.out⟩
                  case measure => simp [intOf]; omega
          · have hlb : lbIn d.nodes.length x = false := by unfold lbIn; exact decide_eq_false hin
            rw [show decide (0 ≤ x.a ∧ 0 ≤ x.b ∧ x.a < d.nodes.length ∧ x.b < d.nodes.length) = false from decide_eq_false hin]
            have h8 := HST.out
            unfold lbStep at h8
            rw [if_neg (by rw [hlb]; simp)] at h8
            have O9 := O3.out
            rw [← h8] at O9
            have O9 := hid O9
            clear h8 hlb hin
            go_wp2
            go_roundw
            case rel => exact ⟨k + 1, by omega, by go_num, F3.out, O9.out⟩
            case measure => simp [intOf]; omega
        · obtain rfl : k = K := by omega
          go_wp2
          go_ret
          exact ⟨_, rfl, O2.out.base (by omega), D2.out.fr⟩
end Go.Proofs.YtgpliiepoimcbaaDoor
end
