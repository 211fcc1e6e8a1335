/- The walks of the reference table's Get, and of SameAll. -/
import Derived.Test.YtkifedleajacpaaDoorRefTab
namespace Go.Proofs.YtkifedleajacpaaDoor
open Go.RowKit
set_option maxRecDepth 100000

set_option maxHeartbeats 1000000 in
theorem refGet_any (M N : Nat → Prop) (B : Nat) (w : World) (bt : Nat) (vn vi : Value) (r : List TEnt) (h : RefAt M B w bt vn vi r) (n : Node) (s : Value) (hr : RdI N w s n.args) (hl : n.args.length ≤ 1000000) (hlen : r.length ≤ 1000000) :
    Calls Tryd.prog 30 #[.pointer (some ⟨bt, 0, none⟩), nodeV n s] w fun e w' => e = .returned (.tuple #[.int .i64 ((tget r n).elim 0 (·.id)), .bool (tget r n).isSome]) ∧ Fr NoB w w' := by
  obtain ⟨a, cap, rfl⟩ := hr.form
  have S0 : Hid (AtS M N B w bt vn vi r n (.slice a n.args.length cap) (w.alloc (.cells (nodeCells n (.slice a n.args.length cap)) 26))) :=
    ⟨(Fr.refl NoB w).alloc _, h.step ((Fr.refl NoB w).alloc _), hr.fr ((Fr.refl NoB w).alloc _) (fun _ _ h => h.elim), at_new w _⟩
  clear h hr
  unfold nodeV
  go_enter Tryd.func30, Tryd.ntmps30
  go_wp2_with fail
  refine (at_any M N B _ bt vn vi r S0.out.tab n _ S0.out.rd hl hlen).mono ?_
  rintro e w1 ⟨hf, i, hi, hlow, ⟨rfl, hlt, hn⟩ | ⟨rfl, hhi⟩⟩
  · have S1 := hid (S0.out.step hf)
    have HG := hid (tget_at hlow hlt hn)
    obtain ⟨pi, qi, hvi⟩ := S1.out.tab.ids.form
    rcases OwnI.form' S1.out.tab.ids with ⟨h1, h2⟩ | ⟨g, cap2, h1, hg1, hg2, hcap⟩
    · simp at h2; rw [h2] at hlt; simp at hlt
    subst h1
    rw [List.length_map] at *
    have hck := OwnI.cell S1.out.tab.ids (i := i) (by simpa using hlt)
    obtain ⟨x, hx⟩ : ∃ x, (r.map (·.id)).getD i 0 = x := ⟨_, rfl⟩
    have HX : Hid (r[i].id = x) := by
      rw [← hx, getD_eq (by simpa using hlt), List.getElem_map]; exact rfl
    rw [hx] at hck
    clear hx hf hlow hn
    obtain ⟨t0, t1, tf, tl⟩ := two_of S1.out.tab.head
    go_wp2
    go_ret2
    refine ⟨?_, S1.out.fr⟩
    have e : ((some r[i]).elim 0 (·.id) : Int) = x := HX.out
    rw [HG.out, e]
    rfl
  · have S1 := hid (S0.out.step hf)
    have HG := hid (tget_not hlow hhi)
    clear hf hlow hhi
    go_wp2
    go_ret2
    refine ⟨?_, S1.out.fr⟩
    rw [HG.out]
    rfl

/-- Two lists of nodes, position by position. -/
def sameAll : List Node → List Node → Bool
  | [], [] => true
  | a :: l, b :: m => (nodeCmp a b == 0) && sameAll l m
  | _, _ => false
theorem sameAll_self : ∀ l : List Node, sameAll l l = true
  | [] => rfl
  | a :: l => by simp [sameAll, nodeCmp_zero.2, sameAll_self l]

/-- Two rows that hold the same nodes. -/
structure TwoN (w0 : World) (va vb : Value) (l m : List (Node × Value)) (W : World) : Prop where
  fr : Fr NoB w0 W
  ra : RdN NoB W va l
  rb : RdN NoB W vb m
theorem TwoN.step {w0 : World} {va vb : Value} {l m : List (Node × Value)} {W W' : World} (h : TwoN w0 va vb l m W) (hf : Fr NoB W W') : TwoN w0 va vb l m W' := ⟨h.fr.step hf, h.ra.step hf, h.rb.step hf⟩
theorem TwoN.drew {w0 : World} {va vb : Value} {l m : List (Node × Value)} {W : World} (h : TwoN w0 va vb l m W) : TwoN w0 va vb l m W.drew := h.step (Fr.refl _ _).drew

set_option maxHeartbeats 2000000 in
/-- SameAll of two rows with the same nodes. -/
theorem sameAll_eq (M N : Nat → Prop) (w : World) (va vb : Value) (l m : List (Node × Value)) (ha : RdN M w va l) (hb : RdN N w vb m) (he : l.map (·.1) = m.map (·.1)) (hs : ∀ x ∈ l, x.1.args.length ≤ 1000000) (hlen : l.length ≤ 1000000) :
    Calls Tryd.prog 32 #[va, vb] w fun e w' => e = .returned (.bool true) ∧ Fr NoB w w' := by
  have hle : l.length = m.length := by have := congrArg List.length he; simpa using this
  obtain ⟨pa, qa, rfl⟩ := ha.form
  obtain ⟨pb, qb, rfl⟩ := hb.form
  have S0 : Hid (TwoN w (.slice pa l.length qa) (.slice pb m.length qb) l m w) := ⟨Fr.refl _ _, ha.weaken (fun _ _ h => h.elim), hb.weaken (fun _ _ h => h.elim)⟩
  have HE := hid he
  clear ha hb he
  rw [← hle] at S0 ⊢
  go_enter Tryd.func32, Tryd.ntmps32
  go_wp2
  go_loopw [5] (fun i wr => ∃ k : Nat, k ≤ l.length ∧ i = .int .i64 k ∧ TwoN w (.slice pa l.length qa) (.slice pb l.length qb) l m wr) (fun i _ => l.length - (intOf i).toNat)
  case atStart => exact ⟨0, Nat.zero_le _, rfl, S0.out⟩
  case round =>
    obtain ⟨k, hk, rfl, hs1⟩ := hrel
    have S1 := hid hs1
    clear hs1
    by_cases hlt : k < l.length
    · have hlt2 : k < m.length := by omega
      rcases S1.out.ra.row.form' (by omega) with ⟨b, off, cap1, h1, hb1, _, hb3, hc⟩
      rcases S1.out.rb.row.form' (by omega) with ⟨b', off', cap2, h2, hb1', _, hb3', hc'⟩
      simp only [Value.slice.injEq] at h1 h2
      obtain ⟨rfl, h1, rfl⟩ := h1
      obtain ⟨rfl, h2, rfl⟩ := h2
      clear h1 h2
      obtain ⟨e0, e1, e2, e3, e4⟩ := hc.five hlt
      obtain ⟨g0, g1, g2, g3, g4⟩ := hc'.five hlt2
      have hab : m[k].1 = l[k].1 := by
        have h1 : (l.map (·.1))[k]'(by simpa using hlt) = (m.map (·.1))[k]'(by simpa using hlt2) := by simp only [HE.out]
        rw [List.getElem_map, List.getElem_map] at h1
        exact h1.symm
      have hra := S1.out.ra.args l[k] (List.getElem_mem _)
      have hrb := S1.out.rb.args m[k] (List.getElem_mem _)
      have hsm := hs l[k] (List.getElem_mem _)
      rw [hab] at g0 g1 g2 g3 hrb
      generalize l[k] = x at e0 e1 e2 e3 e4 g0 g1 g2 g3 hra hrb hsm
      generalize m[k] = y at g4 hrb
      obtain ⟨xn, xs⟩ := x
      obtain ⟨yn, ys⟩ := y
      simp only at e0 e1 e2 e3 e4 g0 g1 g2 g3 g4 hra hrb hsm
      obtain ⟨ax, cx, rfl⟩ := hra.form
      obtain ⟨ay, cy, rfl⟩ := hrb.form
      have HA := hid hra
      have HB := hid hrb
      have HS := hid hsm
      have HE0 := hid (show (nodeCmp xn xn == 0) = true by rw [nodeCmp_zero.2 rfl]; rfl)
      clear hra hrb hsm hc hc' hab
      go_wp2
      go_region_held3 (fun w' => w'.cell? ⟨b, off + k * 5, none⟩ = some (.int .i64 xn.op) ∧ w'.cell? ⟨b, off + k * 5 + 1, none⟩ = some (.int .i64 xn.width) ∧ w'.cell? ⟨b, off + k * 5 + 2, none⟩ = some (.int .u64 xn.val) ∧ w'.cell? ⟨b, off + k * 5 + 3, none⟩ = some (.string xn.name) ∧ w'.cell? ⟨b, off + k * 5 + 4, none⟩ = some (.slice ax xn.args.length cx) ∧
          w'.cell? ⟨b', off' + k * 5, none⟩ = some (.int .i64 xn.op) ∧ w'.cell? ⟨b', off' + k * 5 + 1, none⟩ = some (.int .i64 xn.width) ∧ w'.cell? ⟨b', off' + k * 5 + 2, none⟩ = some (.int .u64 xn.val) ∧ w'.cell? ⟨b', off' + k * 5 + 3, none⟩ = some (.string xn.name) ∧ w'.cell? ⟨b', off' + k * 5 + 4, none⟩ = some (.slice ay xn.args.length cy)) (go_keep)
        (first | (go_at_call 14; have X := refSame_any NoB xn xn _ _ _ HA.out.drew HB.out.drew HS.out HS.out; (with_reducible refine X.mono ?_); clear X; rintro e w2 ⟨rfl, hf⟩; have S2 := hid (S1.out.drew.step hf); have f0 := hf.c hb1 (fun h => h) e0; have f1 := hf.c hb1 (fun h => h) e1; have f2 := hf.c hb1 (fun h => h) e2; have f3 := hf.c hb1 (fun h => h) e3; have f4 := hf.c hb1 (fun h => h) e4; have k0 := hf.c hb1' (fun h => h) g0; have k1 := hf.c hb1' (fun h => h) g1; have k2 := hf.c hb1' (fun h => h) g2; have k3 := hf.c hb1' (fun h => h) g3; have k4 := hf.c hb1' (fun h => h) g4; clear hf))
      rw [HE0.out]
      go_wp2
      go_roundw
      case rel => exact ⟨k + 1, by omega, by go_num, S2.out⟩
      case measure => simp [intOf]; omega
    · go_wp2
      go_ret
      exact ⟨rfl, S1.out.fr⟩

end Go.Proofs.YtkifedleajacpaaDoor
