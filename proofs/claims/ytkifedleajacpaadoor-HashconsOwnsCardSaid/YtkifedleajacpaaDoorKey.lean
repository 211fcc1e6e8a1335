/- The walk of hashcons.Key. -/
import Derived.Test.YtkifedleajacpaaDoorOwnB
import Derived.Test.YtkifedleajacpaaDoorCmpN
import Derived.Deep.RegionHeld3
namespace Go.Proofs.YtkifedleajacpaaDoor
open Go.RowKit

def keyArgs (l : List Int) : List UInt8 := l.flatMap fun a => 44 :: Lib.itoa a
def keyL (n : Node) : List UInt8 := Lib.itoa n.op ++ [44] ++ Lib.itoa n.width ++ [44] ++ Lib.decDigits n.val.toNat ++ keyArgs n.args ++ [58] ++ n.name.data.toList
def keyB (n : Node) : ByteArray := ⟨(keyL n).toArray⟩

abbrev i64ok (x : Int) : Prop := -9223372036854775808 ≤ x ∧ x ≤ 9223372036854775807
/-- The numbers of a node are of their kinds. -/
structure NodeOk (n : Node) : Prop where
  op : i64ok n.op
  width : i64ok n.width
  val : 0 ≤ n.val ∧ n.val < 18446744073709551616
  args : ∀ i, i < n.args.length → i64ok (n.args.getD i 0)
/-- .. and it is of a size that a key can be made of. -/
structure NodeSm (n : Node) : Prop where
  args : n.args.length ≤ 100000
  name : n.name.size ≤ 100000000

theorem AppendUint_any (B n u : Nat) (hu64 : u < 18446744073709551616) (sv : Value) (xs : List Value) (w : World) (hown : w.ownsRow B 5 1 sv n xs) (hBw : B ≤ w.heap.size) (hlim : n + 20 ≤ 140737488355328) (htab : Tab w) :
    Calls Tryd.prog 36 #[sv, .int .u64 u, .int .i64 10] w fun e w' => ∃ v', e = .returned v' ∧ w'.ownsRow B 5 1 v' (n + (Lib.decDigits u).length) (xs ++ Lib.byteCells (Lib.decDigits u)) ∧ Below B w w' := by
  go_enter Tryd.func36, Tryd.ntmps36
  go_wp2_with (go_at_call 49; refine (Tryd.internal_strconv_AppendUint_10 B n u hu64 sv xs w hown hBw hlim htab).mono ?_; rintro e w2 ⟨v2, rfl, h1, h2, h3⟩)
  go_ret
  exact ⟨_, rfl, h1, h2⟩

/-- Where the making of a key stands. -/
structure KS (w : World) (n : Node) (s : Value) (wk : World) (v : Value) (l : List UInt8) : Prop where
  own : OwnB (w.heap.size + 1) wk v l
  box : wk.heap[w.heap.size]? = some (.cells (nodeCells n s) 26 (0, 0))
  fr : Fr NoB w wk
  tab : Tab wk
  lt : TB < w.heap.size

theorem KS.step {w : World} {n : Node} {s : Value} {wk w2 : World} {v v2 : Value} {l l2 : List UInt8} (h : KS w n s wk v l) (ho : OwnB (w.heap.size + 1) w2 v2 l2) (hf : Fr (fun k => w.heap.size + 1 ≤ k) wk w2) : KS w n s w2 v2 l2 where
  own := ho
  box := hf.at (by omega) h.box
  fr := h.fr.trans' hf (fun k hk h => by omega)
  tab := h.tab.fr hf (by have := h.lt; omega)
  lt := h.lt
theorem KS.alloc {w : World} {n : Node} {s : Value} {wk : World} {v : Value} {l : List UInt8} (h : KS w n s wk v l) (o : Obj) : KS w n s (wk.alloc o) v l where
  own := h.own.fr ((Fr.refl NoB wk).alloc o) (fun _ _ h => h)
  box := at_old h.box o
  fr := h.fr.alloc o
  tab := h.tab.fr ((Fr.refl NoB wk).alloc o) (fun h => h)
  lt := h.lt
theorem KS.drew {w : World} {n : Node} {s : Value} {wk : World} {v : Value} {l : List UInt8} (h : KS w n s wk v l) : KS w n s wk.drew v l := ⟨h.own, h.box, h.fr.drew, h.tab, h.lt⟩
theorem KS.size {w : World} {n : Node} {s : Value} {wk : World} {v : Value} {l : List UInt8} (h : KS w n s wk v l) : w.heap.size + 1 ≤ wk.heap.size := by
  have := (Array.getElem?_eq_some_iff.1 h.box).1; omega
theorem KS.num {w : World} {n : Node} {s : Value} {wk w2 : World} {v v2 : Value} {l : List UInt8} (h : KS w n s wk v l) (m : List UInt8) (ho : w2.ownsRow (w.heap.size + 1) 5 1 v2 (l.length + m.length) (Lib.byteCells l ++ Lib.byteCells m)) (hb : Below (w.heap.size + 1) wk w2) : KS w n s w2 v2 (l ++ m) := by
  refine h.step ?_ (Fr.own hb)
  unfold OwnB
  rw [List.length_append, Lib.byteCells_append]; exact ho

theorem KS.lt' {w : World} {n : Node} {s : Value} {wk : World} {v : Value} {l : List UInt8} (h : KS w n s wk v l) : TB < w.heap.size + 1 := Nat.lt_succ_of_lt h.lt
theorem KS.start {w : World} {n : Node} {s : Value} {w1 : World} {v : Value} (ho : w1.ownsRow (w.heap.size + 1) 5 1 v 0 []) (hg : (w.alloc (.cells (nodeCells n s) 26)).grownBy w1 none) (ht : Tab w) : KS w n s w1 v [] := by
  have hf : Fr NoB (w.alloc (.cells (nodeCells n s) 26)) w1 := (Fr.refl NoB _).grown hg (fun k hk => by cases hk)
  have hf0 : Fr NoB w w1 := ((Fr.refl NoB w).alloc _).step hf
  exact ⟨ho, hf.at (fun h => h) (at_new w _), hf0, ht.fr hf0 (fun h => h), ht.lt⟩

theorem keyArgs_take (l : List Int) (k : Nat) (hk : k < l.length) : keyArgs (l.take (k + 1)) = keyArgs (l.take k) ++ [44] ++ Lib.itoa (l.getD k 0) := by
  have e1 : l.take (k + 1) = l.take k ++ [l[k]] := List.take_succ_eq_append_getElem hk
  rw [e1, getD_eq hk, keyArgs, keyArgs, List.flatMap_append]
  simp

theorem decDigits_len : ∀ (d u : Nat), u < 10 ^ (d + 1) → (Lib.decDigits u).length ≤ d + 1
  | 0, u, h => by unfold Lib.decDigits; rw [dif_pos (by omega)]; simp
  | d + 1, u, h => by
    unfold Lib.decDigits
    split
    · simp
    · have := decDigits_len d (u / 10) (by rw [Nat.pow_succ] at h; omega)
      simp; omega
theorem itoa_len (x : Int) (h : i64ok x) : (Lib.itoa x).length ≤ 21 := by
  unfold Lib.itoa i64ok at *
  split
  · have := decDigits_len 19 x.natAbs (by omega); simp; omega
  · have := decDigits_len 19 x.toNat (by omega); omega

theorem keyArgs_len (l : List Int) (h : ∀ i, i < l.length → i64ok (l.getD i 0)) : ∀ k, k ≤ l.length → (keyArgs (l.take k)).length ≤ 22 * k
  | 0, _ => by simp [keyArgs]
  | k + 1, hk => by
    have ih := keyArgs_len l h k (by omega)
    have := itoa_len _ (h k (by omega))
    rw [keyArgs_take l k (by omega)]
    simp only [List.length_append, List.length_cons, List.length_nil]
    omega

set_option maxRecDepth 100000 in
set_option maxHeartbeats 2000000 in
theorem key_any (M : Nat → Prop) (n : Node) (s : Value) (w : World) (h : RdI M w s n.args) (hok : NodeOk n) (hsm : NodeSm n) (ht : Tab w) :
    Calls Tryd.prog 13 #[nodeV n s] w fun e w' => e = .returned (.string (keyB n)) ∧ Fr NoB w w' := by
  obtain ⟨a, cap, rfl⟩ := h.form
  have HR := hid (show ∀ W, Fr NoB w W → RdI M W (.slice a n.args.length cap) n.args from fun W hf => h.fr hf (fun _ _ h => h.elim))
  have HOK := hid hok
  have hn1 := hsm.name
  have hn2 := hsm.args
  obtain ⟨i0, hi, hz0, hz1, hz2⟩ := info_parts infoByte
  have k0 : Hid (w.heap.size + 1 ≤ (w.alloc (.cells (nodeCells n (.slice a n.args.length cap)) 26)).heap.size) := by show _ ≤ _; simp
  have HT := hid ht
  have hl1 := itoa_len _ hok.op
  have hl2 := itoa_len _ hok.width
  have hl3 : (Lib.decDigits n.val.toNat).length ≤ 20 := decDigits_len 19 _ (by have := hok.val; omega)
  have HL1 := hid hl1
  have HL2 := hid hl2
  have HL3 := hid hl3
  clear h hok hsm ht hl1 hl2 hl3
  unfold nodeV
  go_enter Tryd.func13, Tryd.ntmps13
  go_wp2_with (at_make; refine wpList_make_own _ rfl _ _ 59 rfl (w.heap.size + 1) 5 i0 (.int .u8 0) 1 Tryd.underlying59 hi hz0 hz1 _ _ _ (32 + n.name.size) rfl rfl (by simp) (by rw [hz2]; omega) (by unfold maxLen; omega) k0.out ?_; intro w1 ho1 hg1; have K1 := hid (KS.start ho1 hg1 HT.out); clear ho1 hg1; obtain ⟨c0, c1, c2, c3, c4, cf, cl⟩ := five_of K1.out.box)
  simp only [World.size_alloc] at K1
  refine (Tryd.strconv_AppendInt_10 (w.heap.size + 1) 0 n.op HOK.out.op.1 HOK.out.op.2 _ _ _ K1.out.own K1.out.size (by omega) (K1.out.tab.below (by have := K1.out.lt; omega))).mono ?_
  rintro e w2 ⟨v2, rfl, ho, hb, _⟩
  have K2 := hid (K1.out.num _ (by simpa using ho) hb)
  clear ho hb c0 c1 c2 c3 c4 cf cl K1
  obtain ⟨c0, c1, c2, c3, c4, cf, cl⟩ := five_of K2.out.box
  go_wp2_with fail
  have q2 : ([] ++ Lib.itoa n.op).length ≤ 21 := by simpa using HL1.out
  have Q2 := hid q2
  have Q2' : Hid (([] ++ Lib.itoa n.op).length ≤ 140737488355000) := by show _ ≤ _; omega
  have Q3' : Hid (([] ++ Lib.itoa n.op ++ [44]).length + 21 ≤ 140737488355328) := by show _ ≤ _; rw [List.length_append]; simp only [List.length_cons, List.length_nil]; omega
  clear q2
  go_region_held3 (fun w' => w'.cell? ⟨w.heap.size, 1, none⟩ = some (.int .i64 n.width)) (go_keep)
    (first
      | (go_at_call 35; have X := Tryd.strconv_AppendInt_10 (w.heap.size + 1) _ n.width HOK.out.width.1 HOK.out.width.2 _ _ _ K3.out.own.row K3.out.size Q3'.out (K3.out.tab.below K3.out.lt'); (with_reducible refine X.mono ?_); clear X; rintro e w4 ⟨v4, rfl, ho, hb, _⟩; have K4 := hid (K3.out.num _ ho hb); clear ho hb; obtain ⟨c0, c1, c2, c3, c4, cf, cl⟩ := five_of K4.out.box)
      | (refine byte_step _ (by rfl) _ _ (by rfl) (w.heap.size + 1) v2 _ (by rfl) ((K2.out.alloc _).drew.own) 44 w2.heap.size 1 1 (by rfl) (by rfl) (by simp) Q2'.out ((K2.out.alloc _).drew.size) ?_; intro v3 w3 ho3 hf3; have K3 := hid ((K2.out.alloc _).drew.step ho3 hf3); clear ho3 hf3; obtain ⟨c0, c1, c2, c3, c4, cf, cl⟩ := five_of K3.out.box))
  go_wp2_with fail
  have q4 : ([] ++ Lib.itoa n.op ++ [44] ++ Lib.itoa n.width).length ≤ 50 := by have := HL1.out; have := HL2.out; simp only [List.length_append, List.length_cons, List.length_nil]; omega
  have Q4 := hid q4
  have Q4' : Hid (([] ++ Lib.itoa n.op ++ [44] ++ Lib.itoa n.width).length ≤ 140737488355000) := by show _ ≤ _; omega
  have Q5' : Hid (([] ++ Lib.itoa n.op ++ [44] ++ Lib.itoa n.width ++ [44]).length + 20 ≤ 140737488355328) := by show _ ≤ _; rw [List.length_append]; simp only [List.length_cons, List.length_nil]; omega
  obtain ⟨u, hv, hu⟩ : ∃ u : Nat, Hid (n.val = (u : Int)) ∧ Hid (u = n.val.toNat) := ⟨n.val.toNat, by show _ = _; have := HOK.out.val.1; omega, rfl⟩
  have hv2 : Hid (u < 18446744073709551616) := by show _ < _; have := HOK.out.val; have := hu.out; omega
  clear q4
  rw [hv.out] at c2
  go_region_held3 (fun w' => w'.cell? ⟨w.heap.size, 2, none⟩ = some (.int .u64 (u : Int))) (go_keep)
    (first
      | (go_at_call 36; have X := AppendUint_any (w.heap.size + 1) _ u hv2.out _ _ _ K5.out.own.row K5.out.size Q5'.out K5.out.tab; (with_reducible refine X.mono ?_); clear X; rintro e w6 ⟨v6, rfl, ho, hb⟩; have K6 := hid (K5.out.num _ ho hb); clear ho hb; obtain ⟨c0, c1, c2, c3, c4, cf, cl⟩ := five_of K6.out.box; rw [hv.out] at c2)
      | (refine byte_step _ (by rfl) _ _ (by rfl) (w.heap.size + 1) v4 _ (by rfl) ((K4.out.alloc _).drew.own) 44 w4.heap.size 1 1 (by rfl) (by rfl) (by simp) Q4'.out ((K4.out.alloc _).drew.size) ?_; intro v5 w5 ho3 hf3; have K5 := hid ((K4.out.alloc _).drew.step ho3 hf3); clear ho3 hf3; obtain ⟨c0, c1, c2, c3, c4, cf, cl⟩ := five_of K5.out.box; rw [hv.out] at c2))
  obtain ⟨bs, hbs⟩ : ∃ bs, Hid (bs = [] ++ Lib.itoa n.op ++ [44] ++ Lib.itoa n.width ++ [44] ++ Lib.decDigits u) := ⟨_, hid rfl⟩
  have K7 : Hid (KS w n (.slice a n.args.length cap) w6 v6 bs) := by show KS _ _ _ _ _ _; rw [hbs.out]; exact K6.out
  have q7 : bs.length ≤ 100 := by have := HL1.out; have := HL2.out; have h3 := HL3.out; rw [← hu.out] at h3; rw [hbs.out]; simp only [List.length_append, List.length_cons, List.length_nil]; omega
  have Q7 := hid q7
  clear K6 K5 K4 K3 K2 q7 Q2 Q2' Q3' Q4 Q4' Q5'
  go_wp2_with fail
  go_loopw [3, 30] (fun b i wr => ∃ (k : Nat) (v : Value), k ≤ n.args.length ∧ b = v ∧ i = .int .i64 k ∧ Hid (KS w n (.slice a n.args.length cap) wr v (bs ++ keyArgs (n.args.take k)))) (fun _ i _ => n.args.length - (intOf i).toNat)
  case atStart => exact ⟨0, _, Nat.zero_le _, rfl, rfl, by show KS _ _ _ _ _ _; simpa [keyArgs] using K7.out⟩
  case round =>
    obtain ⟨k, v, hk, rfl, rfl, K8⟩ := hrel
    have q8 : (bs ++ keyArgs (n.args.take k)).length ≤ 3000000 := by have := Q7.out; have := keyArgs_len n.args HOK.out.args k hk; rw [List.length_append]; omega
    have Q8' : Hid ((bs ++ keyArgs (n.args.take k)).length ≤ 140737488355000) := by show _ ≤ _; omega
    have Q9' : Hid ((bs ++ keyArgs (n.args.take k) ++ [44]).length + 21 ≤ 140737488355328) := by show _ ≤ _; rw [List.length_append]; simp only [List.length_cons, List.length_nil]; omega
    have Q10' : Hid ((bs ++ keyArgs (n.args.take k) ++ [58]).length + n.name.size ≤ 140737488355000) := by show _ ≤ _; rw [List.length_append]; simp only [List.length_cons, List.length_nil]; omega
    clear q8
    obtain ⟨c0, c1, c2, c3, c4, cf, cl⟩ := five_of K8.out.box
    by_cases hlt : k < n.args.length
    · rcases HR.out wr K8.out.fr with ⟨h, h2⟩ | ⟨b, off, cap2, h, _, _, _, hc⟩
      · rw [h2] at hlt; simp at hlt
      · cases h
        obtain ⟨x, HX, hck⟩ := hc.get hlt
        clear hc
        have hx : Hid (i64ok x) := by show i64ok x; rw [← HX.out]; exact HOK.out.args k hlt
        go_wp2_with (first
          | (at_builtin; refine byte_list _ rfl _ _ rfl (w.heap.size + 1) _ _ rfl (K8.out.alloc _).own 44 wr.heap.size 1 1 rfl rfl (by simp) Q8'.out (K8.out.alloc _).size ?_; intro v9 w9 ho3 hf3; have K9 := hid ((K8.out.alloc _).step ho3 hf3); clear ho3 hf3)
          | (go_at_call 35; have X := Tryd.strconv_AppendInt_10 (w.heap.size + 1) _ x hx.out.1 hx.out.2 _ _ _ K9.out.own.row K9.out.size Q9'.out (K9.out.tab.below K9.out.lt'); (with_reducible refine X.mono ?_); clear X; rintro e w10 ⟨v10, rfl, ho, hb, _⟩; have K10 := hid (K9.out.num _ ho hb); clear ho hb))
        go_roundw
        case rel => exact ⟨k + 1, _, by omega, rfl, by go_num, by
          show KS _ _ _ _ _ _
          rw [keyArgs_take _ _ hlt, HX.out, ← List.append_assoc, ← List.append_assoc]
          exact K10.out⟩
        case measure => simp [intOf]; omega
    · obtain rfl : k = n.args.length := by omega
      go_wp2_with (first
        | (at_builtin; refine byte_list _ rfl _ _ rfl (w.heap.size + 1) _ _ rfl (K8.out.alloc _).own 58 wr.heap.size 1 1 rfl rfl (by simp) Q8'.out (K8.out.alloc _).size ?_; intro v9 w9 ho3 hf3; have K9 := hid ((K8.out.alloc _).step ho3 hf3); clear ho3 hf3; obtain ⟨d0, d1, d2, d3, d4, df, dl⟩ := five_of K9.out.box)
        | (at_builtin; refine str_list _ rfl _ _ rfl (w.heap.size + 1) v9 _ rfl K9.out.own n.name rfl Q10'.out K9.out.size ?_; intro v10 w10 ho3 hf3; have K10 := hid (K9.out.step ho3 hf3); have hcv := conv_own K10.out.own; clear ho3 hf3))
      go_ret
      refine ⟨?_, K10.out.fr⟩
      have e : keyB n = ⟨(bs ++ (keyArgs n.args ++ 58 :: n.name.data.toList)).toArray⟩ := by
        rw [keyB, keyL, hbs.out, hu.out]; simp
      rw [e]
      rfl

end Go.Proofs.YtkifedleajacpaaDoor
