/- The reference's Table: what it holds, and the walks of at, Get and SameAll. -/
import Derived.Test.YtkifedleajacpaaDoorTabL
import Derived.Test.YtkifedleajacpaaDoorNodes
import Derived.Deep.QuietTactic
import Derived.BigQuiet
namespace Go.Proofs.YtkifedleajacpaaDoor
open Go.RowKit
set_option maxRecDepth 100000

/-- Block bt is a reference table with the entries r; its rows are the call's own (from block B on), and none of their blocks is among M. -/
structure RefAt (M : Nat → Prop) (B : Nat) (w : World) (bt : Nat) (vn vi : Value) (r : List TEnt) : Prop where
  head : w.heap[bt]? = some (.cells #[vn, vi] 45 (0, 0))
  nodes : OwnN B w vn (r.map fun x => (x.node, x.sl))
  ids : OwnI B w vi (r.map (·.id))
  args : ∀ x ∈ r, RdI (fun k => M k ∨ k = bt) w x.sl x.node.args
  small : ∀ x ∈ r, x.node.args.length ≤ 1000000
  rises : Rises r
  out1 : ∀ k, vn.ownBlock = some k → ¬ M k
  out2 : ∀ k, vi.ownBlock = some k → ¬ M k
  out3 : ¬ M bt
  below : bt < B

theorem RefAt.fr {M N : Nat → Prop} {B : Nat} {w w' : World} {bt : Nat} {vn vi : Value} {r : List TEnt} (h : RefAt M B w bt vn vi r) (hf : Fr N w w') (hm : ∀ k, k < w.heap.size → N k → M k) : RefAt M B w' bt vn vi r :=
  ⟨hf.at (fun hn => h.out3 (hm _ (Array.getElem?_eq_some_iff.1 h.head).1 hn)) h.head, h.nodes.fr hf (fun k hk hn => h.out1 k hk (hm k (h.nodes.lt hk).2 hn)), h.ids.fr hf (fun k hk hn => h.out2 k hk (hm k (World.ownsRow.lt h.ids k hk).2 hn)),
    fun x hx => (h.args x hx).fr hf (fun k hk hn => .inl (hm k hk hn)), h.small, h.rises, h.out1, h.out2, h.out3, h.below⟩
theorem RefAt.step {M : Nat → Prop} {B : Nat} {w w' : World} {bt : Nat} {vn vi : Value} {r : List TEnt} (h : RefAt M B w bt vn vi r) (hf : Fr NoB w w') : RefAt M B w' bt vn vi r := h.fr hf (fun _ _ h => h.elim)
theorem RefAt.weaken {M N : Nat → Prop} {B : Nat} {w : World} {bt : Nat} {vn vi : Value} {r : List TEnt} (h : RefAt N B w bt vn vi r) (hm : ∀ k, M k → N k) : RefAt M B w bt vn vi r :=
  ⟨h.head, h.nodes, h.ids, fun x hx => (h.args x hx).weaken (fun k _ hk => hk.imp (hm k) id), h.small, h.rises, fun k hk hn => h.out1 k hk (hm k hn), fun k hk hn => h.out2 k hk (hm k hn), fun hn => h.out3 (hm _ hn), h.below⟩
theorem RefAt.more {M : Nat → Prop} {B : Nat} {w : World} {bt : Nat} {vn vi : Value} {r : List TEnt} (h : RefAt M B w bt vn vi r) : RefAt (fun k => M k ∨ w.heap.size ≤ k) B w bt vn vi r :=
  ⟨h.head, h.nodes, h.ids, fun x hx => (h.args x hx).more.weaken (fun k _ hk => by rcases hk with (h | h) | h; exact .inl (.inl h); exact .inr h; exact .inl (.inr h)), h.small, h.rises, fun k hk hn => hn.elim (h.out1 k hk) (fun hk2 => by have := (h.nodes.lt hk).2; omega), fun k hk hn => hn.elim (h.out2 k hk) (fun hk2 => by have := (World.ownsRow.lt h.ids k hk).2; omega), fun hn => hn.elim h.out3 (fun h2 => by have := (Array.getElem?_eq_some_iff.1 h.head).1; omega), h.below⟩
theorem RefAt.rdN {M : Nat → Prop} {B : Nat} {w : World} {bt : Nat} {vn vi : Value} {r : List TEnt} (h : RefAt M B w bt vn vi r) : RdN M w vn (r.map fun x => (x.node, x.sl)) :=
  h.nodes.rdN h.out1 fun x hx => by
    obtain ⟨y, hy, rfl⟩ := List.mem_map.1 hx
    exact (h.args y hy).weaken (fun _ _ h => .inl h)
theorem two_of {w : World} {b : Nat} {x y : Value} {e : TypeId} (h1 : w.heap[b]? = some (.cells #[x, y] e (0, 0))) : w.cell? ⟨b, 0, none⟩ = some x ∧ w.cell? ⟨b, 1, none⟩ = some y ∧ (∀ o, w.frozen? ⟨b, o, none⟩ = false) ∧ b < w.heap.size :=
  ⟨by simp [World.cell?, h1], by simp [World.cell?, h1], fun o => by simp [World.frozen?, h1], (Array.getElem?_eq_some_iff.1 h1).1⟩

/-- What the walk of at carries from world to world. -/
structure AtS (M N : Nat → Prop) (B : Nat) (w0 : World) (bt : Nat) (vn vi : Value) (r : List TEnt) (n : Node) (v : Value) (W : World) : Prop where
  fr : Fr NoB w0 W
  tab : RefAt M B W bt vn vi r
  rd : RdI N W v n.args
  box : W.heap[w0.heap.size]? = some (.cells (nodeCells n v) 26 (0, 0))
theorem AtS.step {M N : Nat → Prop} {B : Nat} {w0 : World} {bt : Nat} {vn vi : Value} {r : List TEnt} {n : Node} {v : Value} {W W' : World} (h : AtS M N B w0 bt vn vi r n v W) (hf : Fr NoB W W') : AtS M N B w0 bt vn vi r n v W' :=
  ⟨h.fr.step hf, h.tab.step hf, h.rd.fr hf (fun _ _ h => h.elim), hf.at (fun h => h) h.box⟩
theorem AtS.drew {M N : Nat → Prop} {B : Nat} {w0 : World} {bt : Nat} {vn vi : Value} {r : List TEnt} {n : Node} {v : Value} {W : World} (h : AtS M N B w0 bt vn vi r n v W) : AtS M N B w0 bt vn vi r n v W.drew := h.step (Fr.refl _ _).drew

/-- .. with all later blocks forbidden too. -/
theorem AtS.more {M N : Nat → Prop} {B : Nat} {w0 : World} {bt : Nat} {vn vi : Value} {r : List TEnt} {n : Node} {v : Value} {W : World} (h : AtS M N B w0 bt vn vi r n v W) : AtS (fun k => M k ∨ W.heap.size ≤ k) (fun k => N k ∨ W.heap.size ≤ k) B w0 bt vn vi r n v W := ⟨h.fr, h.tab.more, h.rd.more, h.box⟩
/-- .. moved by what writes only blocks from H on. -/
theorem AtS.move {M N F : Nat → Prop} {B H : Nat} {w0 : World} {bt : Nat} {vn vi : Value} {r : List TEnt} {n : Node} {v : Value} {W W' : World} (h : AtS (fun k => M k ∨ H ≤ k) (fun k => N k ∨ H ≤ k) B w0 bt vn vi r n v W) (hf : Fr F W W') (hF : ∀ k, F k → H ≤ k) (hH : w0.heap.size < H) : AtS (fun k => M k ∨ H ≤ k) (fun k => N k ∨ H ≤ k) B w0 bt vn vi r n v W' :=
  ⟨h.fr.trans' hf (fun k hk hk2 => by have := hF k hk2; omega), h.tab.fr hf (fun k _ hk => .inr (hF k hk)), h.rd.fr hf (fun k _ hk => .inr (hF k hk)), hf.at (fun hk => by have := hF _ hk; omega) h.box⟩

set_option maxHeartbeats 2000000 in
theorem at_any (M N : Nat → Prop) (B : Nat) (w : World) (bt : Nat) (vn vi : Value) (r : List TEnt) (h : RefAt M B w bt vn vi r) (n : Node) (s : Value) (hr : RdI N w s n.args) (hl : n.args.length ≤ 1000000) (hlen : r.length ≤ 1000000) :
    Calls Tryd.prog 46 #[.pointer (some ⟨bt, 0, none⟩), nodeV n s] w fun e w' => Fr NoB w w' ∧ ∃ i : Nat, i ≤ r.length ∧ (∀ j (h : j < r.length), j < i → nodeCmp r[j].node n < 0) ∧
      ((e = .returned (.tuple #[.int .i64 i, .bool true]) ∧ ∃ h : i < r.length, r[i].node = n) ∨ (e = .returned (.tuple #[.int .i64 i, .bool false]) ∧ ∀ j (h : j < r.length), i ≤ j → 0 < nodeCmp r[j].node n)) := by
  obtain ⟨a, cap, rfl⟩ := hr.form
  have S0 : Hid (AtS M N B w bt vn vi r n (.slice a n.args.length cap) (w.alloc (.cells (nodeCells n (.slice a n.args.length cap)) 26))) :=
    ⟨(Fr.refl NoB w).alloc _, h.step ((Fr.refl NoB w).alloc _), hr.fr ((Fr.refl NoB w).alloc _) (fun _ _ h => h.elim), at_new w _⟩
  obtain ⟨pn, qn, hvn⟩ := h.rdN.form
  rw [List.length_map] at hvn
  subst hvn
  clear h hr
  unfold nodeV
  go_enter Tryd.func46, Tryd.ntmps46
  go_wp2
  go_loopw [6] (fun i wr => ∃ k : Nat, k ≤ r.length ∧ i = .int .i64 k ∧ AtS M N B w bt (.slice pn r.length qn) vi r n (.slice a n.args.length cap) wr ∧ ∀ j (h : j < r.length), j < k → nodeCmp r[j].node n < 0) (fun i _ => r.length - (intOf i).toNat)
  case atStart => exact ⟨0, Nat.zero_le _, rfl, S0.out, fun j _ h => by omega⟩
  case round =>
    obtain ⟨k, hk, rfl, hs, hlow⟩ := hrel
    have S1 := hid hs
    have L1 := hid hlow
    clear hs hlow
    obtain ⟨t0, t1, tf, tl⟩ := two_of S1.out.tab.head
    obtain ⟨b0, b1, b2, b3, b4, bf, bl⟩ := five_of S1.out.box
    by_cases hlt : k < r.length
    · have hlt' : k < (r.map fun x => (x.node, x.sl)).length := by simpa using hlt
      rcases S1.out.tab.rdN.row.form' (by simp; omega) with ⟨b, off, cap', h1, hb1, hb2, hb3, hc⟩
      simp only [List.length_map, Value.slice.injEq] at h1
      obtain ⟨rfl, h1, rfl⟩ := h1
      clear h1
      obtain ⟨e0, e1, e2, e3, e4⟩ := hc.five hlt'
      rw [List.getElem_map] at e0 e1 e2 e3 e4
      obtain ⟨x, hxk⟩ : ∃ x, r[k] = x := ⟨_, rfl⟩
      have HX := hid hxk
      have hrd := S1.out.tab.args r[k] (List.getElem_mem _)
      have hsm := S1.out.tab.small r[k] (List.getElem_mem _)
      rw [hxk] at e0 e1 e2 e3 e4 hrd hsm
      clear hxk
      obtain ⟨ax, cx, hx⟩ := hrd.form
      rw [hx] at e4 hrd
      have HRD := hid (hrd.weaken (M := NoB) (fun _ _ h => h.elim))
      have HN := hid (S1.out.rd.weaken (M := NoB) (fun _ _ h => h.elim))
      have HSM := hid hsm
      clear hrd hx hsm hc
      by_cases hc : nodeCmp x.node n < 0
      · have HC := hid (decide_eq_true hc)
        have HC2 := hid hc
        clear hc
        go_wp2
        go_region_held3 (fun w' => w'.cell? ⟨bt, 0, none⟩ = some (.slice (some ⟨b, off, none⟩) r.length qn) ∧ w'.cell? ⟨w.heap.size, 0, none⟩ = some (.int .i64 n.op) ∧ w'.cell? ⟨w.heap.size, 1, none⟩ = some (.int .i64 n.width) ∧ w'.cell? ⟨w.heap.size, 2, none⟩ = some (.int .u64 n.val) ∧ w'.cell? ⟨w.heap.size, 3, none⟩ = some (.string n.name) ∧ w'.cell? ⟨w.heap.size, 4, none⟩ = some (.slice a n.args.length cap) ∧
            w'.cell? ⟨b, off + k * 5, none⟩ = some (.int .i64 x.node.op) ∧ w'.cell? ⟨b, off + k * 5 + 1, none⟩ = some (.int .i64 x.node.width) ∧ w'.cell? ⟨b, off + k * 5 + 2, none⟩ = some (.int .u64 x.node.val) ∧ w'.cell? ⟨b, off + k * 5 + 3, none⟩ = some (.string x.node.name) ∧ w'.cell? ⟨b, off + k * 5 + 4, none⟩ = some (.slice ax x.node.args.length cx)) (go_keep)
          (first | (go_at_call 22; have X := refCompare_any NoB x.node n _ _ _ HRD.out.drew HN.out.drew HSM.out hl; (with_reducible refine X.mono ?_); clear X; rintro e w2 ⟨rfl, hf⟩; have S2 := hid (S1.out.drew.step hf); have HSZ := hid (show wr.heap.size ≤ w2.heap.size from hf.size); have HRD2 := hid (HRD.out.drew.fr hf (fun _ _ h => h.elim)); have f0 := hf.c hb1 (fun h => h) e0; have f1 := hf.c hb1 (fun h => h) e1; have f2 := hf.c hb1 (fun h => h) e2; have f3 := hf.c hb1 (fun h => h) e3; have f4 := hf.c hb1 (fun h => h) e4; clear hf; obtain ⟨t0, t1, tf, tl⟩ := two_of S2.out.tab.head; obtain ⟨b0, b1, b2, b3, b4, bf, bl⟩ := five_of S2.out.box))
        rw [HC.out]
        go_wp2
        go_roundw
        case rel => exact ⟨k + 1, by omega, by go_num, S2.out, fun j hj h => by
          by_cases e : j = k
          · subst e; rw [HX.out]; exact HC2.out
          · exact L1.out j hj (by omega)⟩
        case measure => simp [intOf]; omega
      · have HC := hid (decide_eq_false hc)
        have HC2 := hid hc
        clear hc
        go_wp2
        go_region_held3 (fun w' => w'.cell? ⟨bt, 0, none⟩ = some (.slice (some ⟨b, off, none⟩) r.length qn) ∧ w'.cell? ⟨w.heap.size, 0, none⟩ = some (.int .i64 n.op) ∧ w'.cell? ⟨w.heap.size, 1, none⟩ = some (.int .i64 n.width) ∧ w'.cell? ⟨w.heap.size, 2, none⟩ = some (.int .u64 n.val) ∧ w'.cell? ⟨w.heap.size, 3, none⟩ = some (.string n.name) ∧ w'.cell? ⟨w.heap.size, 4, none⟩ = some (.slice a n.args.length cap) ∧
            w'.cell? ⟨b, off + k * 5, none⟩ = some (.int .i64 x.node.op) ∧ w'.cell? ⟨b, off + k * 5 + 1, none⟩ = some (.int .i64 x.node.width) ∧ w'.cell? ⟨b, off + k * 5 + 2, none⟩ = some (.int .u64 x.node.val) ∧ w'.cell? ⟨b, off + k * 5 + 3, none⟩ = some (.string x.node.name) ∧ w'.cell? ⟨b, off + k * 5 + 4, none⟩ = some (.slice ax x.node.args.length cx)) (go_keep)
          (first | (go_at_call 22; have X := refCompare_any NoB x.node n _ _ _ HRD.out.drew HN.out.drew HSM.out hl; (with_reducible refine X.mono ?_); clear X; rintro e w2 ⟨rfl, hf⟩; have S2 := hid (S1.out.drew.step hf); have HSZ := hid (show wr.heap.size ≤ w2.heap.size from hf.size); have HRD2 := hid (HRD.out.drew.fr hf (fun _ _ h => h.elim)); have f0 := hf.c hb1 (fun h => h) e0; have f1 := hf.c hb1 (fun h => h) e1; have f2 := hf.c hb1 (fun h => h) e2; have f3 := hf.c hb1 (fun h => h) e3; have f4 := hf.c hb1 (fun h => h) e4; clear hf; obtain ⟨t0, t1, tf, tl⟩ := two_of S2.out.tab.head; obtain ⟨b0, b1, b2, b3, b4, bf, bl⟩ := five_of S2.out.box))
        rw [HC.out]
        have hb2' := Nat.lt_of_lt_of_le hb1 HSZ.out
        have HN2 := hid (S2.out.rd.weaken (M := NoB) (fun _ _ h => h.elim))
        by_cases h0 : nodeCmp x.node n = 0
        · have HE := hid (show (nodeCmp x.node n == 0) = true by rw [h0]; rfl)
          have HE2 := hid (nodeCmp_zero.1 h0)
          clear h0
          go_wp2
          go_region_held3 (fun w' => w'.cell? ⟨bt, 0, none⟩ = some (.slice (some ⟨b, off, none⟩) r.length qn) ∧ w'.cell? ⟨w.heap.size, 0, none⟩ = some (.int .i64 n.op) ∧ w'.cell? ⟨w.heap.size, 1, none⟩ = some (.int .i64 n.width) ∧ w'.cell? ⟨w.heap.size, 2, none⟩ = some (.int .u64 n.val) ∧ w'.cell? ⟨w.heap.size, 3, none⟩ = some (.string n.name) ∧ w'.cell? ⟨w.heap.size, 4, none⟩ = some (.slice a n.args.length cap) ∧
              w'.cell? ⟨b, off + k * 5, none⟩ = some (.int .i64 x.node.op) ∧ w'.cell? ⟨b, off + k * 5 + 1, none⟩ = some (.int .i64 x.node.width) ∧ w'.cell? ⟨b, off + k * 5 + 2, none⟩ = some (.int .u64 x.node.val) ∧ w'.cell? ⟨b, off + k * 5 + 3, none⟩ = some (.string x.node.name) ∧ w'.cell? ⟨b, off + k * 5 + 4, none⟩ = some (.slice ax x.node.args.length cx)) (go_keep)
            (first | (go_at_call 14; have X := refSame_any NoB x.node n _ _ _ HRD2.out.drew HN2.out.drew HSM.out hl; (with_reducible refine X.mono ?_); clear X; rintro e w3 ⟨rfl, hf⟩; have S3 := hid (S2.out.drew.step hf); have HRD3 := hid (HRD2.out.drew.fr hf (fun _ _ h => h.elim)); have f0 := hf.c hb2' (fun h => h) f0; have f1 := hf.c hb2' (fun h => h) f1; have f2 := hf.c hb2' (fun h => h) f2; have f3 := hf.c hb2' (fun h => h) f3; have f4 := hf.c hb2' (fun h => h) f4; clear hf; obtain ⟨t0, t1, tf, tl⟩ := two_of S3.out.tab.head; obtain ⟨b0, b1, b2, b3, b4, bf, bl⟩ := five_of S3.out.box))
          rw [HE.out]
          go_wp2
          go_ret2
          exact ⟨S3.out.fr, k, by omega, L1.out, .inl ⟨rfl, hlt, by rw [HX.out]; exact HE2.out⟩⟩
        · have HE := hid (show (nodeCmp x.node n == 0) = false by simp [h0])
          have HE2 := hid h0
          clear h0
          go_wp2
          go_region_held3 (fun w' => w'.cell? ⟨bt, 0, none⟩ = some (.slice (some ⟨b, off, none⟩) r.length qn) ∧ w'.cell? ⟨w.heap.size, 0, none⟩ = some (.int .i64 n.op) ∧ w'.cell? ⟨w.heap.size, 1, none⟩ = some (.int .i64 n.width) ∧ w'.cell? ⟨w.heap.size, 2, none⟩ = some (.int .u64 n.val) ∧ w'.cell? ⟨w.heap.size, 3, none⟩ = some (.string n.name) ∧ w'.cell? ⟨w.heap.size, 4, none⟩ = some (.slice a n.args.length cap) ∧
              w'.cell? ⟨b, off + k * 5, none⟩ = some (.int .i64 x.node.op) ∧ w'.cell? ⟨b, off + k * 5 + 1, none⟩ = some (.int .i64 x.node.width) ∧ w'.cell? ⟨b, off + k * 5 + 2, none⟩ = some (.int .u64 x.node.val) ∧ w'.cell? ⟨b, off + k * 5 + 3, none⟩ = some (.string x.node.name) ∧ w'.cell? ⟨b, off + k * 5 + 4, none⟩ = some (.slice ax x.node.args.length cx)) (go_keep)
            (first | (go_at_call 14; have X := refSame_any NoB x.node n _ _ _ HRD2.out.drew HN2.out.drew HSM.out hl; (with_reducible refine X.mono ?_); clear X; rintro e w3 ⟨rfl, hf⟩; have S3 := hid (S2.out.drew.step hf); have HRD3 := hid (HRD2.out.drew.fr hf (fun _ _ h => h.elim)); have f0 := hf.c hb2' (fun h => h) f0; have f1 := hf.c hb2' (fun h => h) f1; have f2 := hf.c hb2' (fun h => h) f2; have f3 := hf.c hb2' (fun h => h) f3; have f4 := hf.c hb2' (fun h => h) f4; clear hf; obtain ⟨t0, t1, tf, tl⟩ := two_of S3.out.tab.head; obtain ⟨b0, b1, b2, b3, b4, bf, bl⟩ := five_of S3.out.box))
          rw [HE.out]
          go_wp2
          go_ret2
          refine ⟨S3.out.fr, k, by omega, L1.out, .inr ⟨rfl, fun j hj hkj => ?_⟩⟩
          have hpos : 0 < nodeCmp r[k].node n := by
            rw [HX.out]
            have := HC2.out
            have := HE2.out
            omega
          by_cases e : j = k
          · subst e; exact hpos
          · have h1 := List.pairwise_iff_getElem.1 S3.out.tab.rises k j hlt hj (by omega)
            have h2 := nodeCmp_neg r[k].node n
            have h3 := nodeCmp_neg r[j].node n
            have := nodeCmp_lt_trans (a := n) (b := r[k].node) (c := r[j].node) (by omega) h1
            omega
    · obtain rfl : k = r.length := by omega
      go_wp2
      go_quiet (fail)
      go_wp2
      go_quiet (fail)
      go_wp2
      go_ret2
      exact ⟨(S1.out.fr.drewN _).drewN _, r.length, Nat.le_refl _, L1.out, .inr ⟨rfl, fun j hj hkj => by omega⟩⟩

end Go.Proofs.YtkifedleajacpaaDoor
