/- HashconsOwns: a hashcons.Table shares no memory with the nodes that are put in and returned: for every row of nodes, what is written into them afterwards leaves Get and Nodes as the reference's (where there are more than 20 nodes, or a node is too large for the law's guard, it checks the chapter's example alone). Condition: the three listed tables of Go's library hold what the program's text lays in them (the card ties this). -/
import Derived.Test.YtkifedleajacpaaDoorCards
import Derived.Test.YtkifedleajacpaaDoorTie
import Derived.Test.YtkifedleajacpaaDoorOpenN
import Derived.Test.YtkifedleajacpaaDoorPlayF
import Derived.SevenTiedAt
namespace Go.Proofs.YtkifedleajacpaaDoor.LawOwns
open Go.ChangeShapes Go.WideShapes Go.ChangeAt Go.RowKit
set_option maxRecDepth 100000

theorem neqSelf {x y : Int} (h : x = y) : (x != y) = false := by subst h; simp
theorem eqlPtr (w : World) (r : Option Addr) : (binOp .eql 40 (.pointer r) (.pointer none)).run Tryd.prog w = .ok (.bool r.isNone) w := by
  cases r <;> kernel_rfl

/-- The row that Nodes has given, while it is written. -/
structure PokeS (F : Nat → Prop) (w : World) (bt bm rt B B2 g : Nat) (l r : List TEnt) (vn vi : Value) (L Lk : List (Node × Value)) (W : World) : Prop where
  tabs : PlayF F w bt bm rt B l r vn vi W
  cells : CellsAt W g 0 (flatE nsCells Lk)
  thaw : ∀ o, o < L.length * 5 → W.frozen? ⟨g, o, none⟩ = false
  gl : g < W.heap.size
  args : ∀ x ∈ L, ∃ lx : List Int, lx.length = x.1.args.length ∧ OwnI B2 W x.2 lx
  nums : B2 ≤ g ∧ B ≤ B2 ∧ (∀ j, B2 ≤ j → F j) ∧ ∀ x ∈ L, ∀ k, x.2.ownBlock = some k → k ≠ g
section
variable {F : Nat → Prop} {w : World} {bt bm rt B B2 g : Nat} {l r : List TEnt} {vn vi : Value} {L Lk : List (Node × Value)} {W W' : World}
theorem PokeS.arg (h : PokeS F w bt bm rt B B2 g l r vn vi L Lk W) {g' : Nat} (hg : B2 ≤ g') (hne : g' ≠ g) (k : Nat) (x : Int) : PokeS F w bt bm rt B B2 g l r vn vi L Lk (W.setCell ⟨g', k, none⟩ (.int .i64 x)) := by
  have hn := h.nums
  have hf : Fr (fun j => j = g') W (W.setCell ⟨g', k, none⟩ (.int .i64 x)) := (Fr.refl (fun j => j = g') W).setCell (p := ⟨g', k, none⟩) (fun _ => rfl) _
  refine ⟨h.tabs.mv hf (fun j e => hn.2.2.1 j (by have e : j = g' := e; omega)) (fun j e => by have e : j = g' := e; omega), h.cells.fr hf h.gl (fun e => by have e : g = g' := e; omega), fun o ho => (hf.frozen (p := ⟨g, o, none⟩) h.gl (fun e => by have e : g = g' := e; omega)).trans (h.thaw o ho), Nat.lt_of_lt_of_le h.gl hf.size, fun y hy => ?_, hn⟩
  obtain ⟨lx, h1, h2⟩ := h.args y hy
  obtain ⟨l', h3, h4⟩ := h2.poke g' k x
  exact ⟨l', by omega, h4⟩
end

theorem get_set {w : World} {p q : Addr} {x u : Value} (h : w.cell? q = some u) : (w.setCell p x).cell? q = some (if p = q then x else u) := by
  by_cases e : p = q
  · subst e; rw [if_pos rfl]; exact World.cell?_setCell_same w p x h
  · rw [if_neg e]; exact (World.cell?_setCell_other w p q x e).trans h
theorem cells_clear {w : World} {g : Nat} {L : List (Node × Value)} (h : CellsAt w g 0 (flatE nsCells L)) (m : Nat) (z : Node × Value) :
    CellsAt (((((w.setCell ⟨g, m * 5, none⟩ (.int .i64 z.1.op)).setCell ⟨g, m * 5 + 1, none⟩ (.int .i64 z.1.width)).setCell ⟨g, m * 5 + 2, none⟩ (.int .u64 z.1.val)).setCell ⟨g, m * 5 + 3, none⟩ (.string z.1.name)).setCell ⟨g, m * 5 + 4, none⟩ z.2) g 0 (flatE nsCells (L.set m z)) := by
  intro j u hj
  have hjl : j < L.length * 5 := by have := (List.getElem?_eq_some_iff.1 hj).1; rw [flatE_length nsCells nsLen] at this; simpa using this
  have hi : j / 5 < L.length := by omega
  obtain ⟨u0, h0⟩ : ∃ u0, (flatE nsCells L)[j]? = some u0 := ⟨_, List.getElem?_eq_getElem (by rw [flatE_length nsCells nsLen]; exact hjl)⟩
  have hc := h j u0 h0
  have ej : j / 5 * 5 + j % 5 = j := by omega
  have e := flatE_get nsCells nsLen (L.set m z) (j / 5) (by simpa using hi) (j % 5) (Nat.mod_lt _ (by decide))
  have e0 := flatE_get nsCells nsLen L (j / 5) hi (j % 5) (Nat.mod_lt _ (by decide))
  rw [ej, hj] at e
  rw [ej, h0] at e0
  rw [get_set (get_set (get_set (get_set (get_set hc))))]
  congr 1
  simp only [Addr.mk.injEq, true_and, and_true]
  by_cases hm' : j / 5 = m
  · have ez : (L.set m z)[j / 5]'(by simpa using hi) = z := by simp [hm']
    rw [ez] at e
    have ht : j % 5 = 0 ∨ j % 5 = 1 ∨ j % 5 = 2 ∨ j % 5 = 3 ∨ j % 5 = 4 := by omega
    rcases ht with t | t | t | t | t <;> rw [t] at e <;> simp only [nsCells, List.getElem?_cons_zero, List.getElem?_cons_succ, Option.some.injEq] at e <;> subst e <;> (repeat' split) <;> first | rfl | omega
  · have ez : (L.set m z)[j / 5]'(by simpa using hi) = L[j / 5] := by rw [List.getElem_set, if_neg (fun h => hm' h.symm)]
    rw [ez, ← e0] at e
    have e : u = u0 := by simpa using e
    subst e
    (repeat' split) <;> first | rfl | omega
abbrev zeroN : Node × Value := (⟨0, 0, 0, ⟨#[]⟩, []⟩, .slice none 0 0)
section
variable {F : Nat → Prop} {w : World} {bt bm rt B B2 g : Nat} {l r : List TEnt} {vn vi : Value} {L Lk : List (Node × Value)} {W W' : World}
theorem PokeS.clear (h : PokeS F w bt bm rt B B2 g l r vn vi L Lk W) (m : Nat) :
    PokeS F w bt bm rt B B2 g l r vn vi L (Lk.set m zeroN) (((((W.setCell ⟨g, m * 5, none⟩ (.int .i64 0)).setCell ⟨g, m * 5 + 1, none⟩ (.int .i64 0)).setCell ⟨g, m * 5 + 2, none⟩ (.int .u64 0)).setCell ⟨g, m * 5 + 3, none⟩ (.string ⟨#[]⟩)).setCell ⟨g, m * 5 + 4, none⟩ (.slice none 0 0)) := by
  have hn := h.nums
  have hf : Fr (fun j => j = g) W (((((W.setCell ⟨g, m * 5, none⟩ (.int .i64 0)).setCell ⟨g, m * 5 + 1, none⟩ (.int .i64 0)).setCell ⟨g, m * 5 + 2, none⟩ (.int .u64 0)).setCell ⟨g, m * 5 + 3, none⟩ (.string ⟨#[]⟩)).setCell ⟨g, m * 5 + 4, none⟩ (.slice none 0 0)) :=
    (((((Fr.refl (fun j => j = g) W).setCell (p := ⟨g, m * 5, none⟩) (fun _ => rfl) _).setCell (p := ⟨g, m * 5 + 1, none⟩) (fun _ => rfl) _).setCell (p := ⟨g, m * 5 + 2, none⟩) (fun _ => rfl) _).setCell (p := ⟨g, m * 5 + 3, none⟩) (fun _ => rfl) _).setCell (p := ⟨g, m * 5 + 4, none⟩) (fun _ => rfl) _
  refine ⟨h.tabs.mv hf (fun j e => hn.2.2.1 j (by have e : j = g := e; omega)) (fun j e => by have e : j = g := e; omega), cells_clear h.cells m zeroN, fun o ho => ?_, Nat.lt_of_lt_of_le h.gl hf.size, fun y hy => ?_, hn⟩
  · rw [World.frozen?_setCell, World.frozen?_setCell, World.frozen?_setCell, World.frozen?_setCell, World.frozen?_setCell]
    exact h.thaw o ho
  · obtain ⟨lx, h1, h2⟩ := h.args y hy
    exact ⟨lx, h1, OwnI.fr h2 hf (fun k hk e => hn.2.2.2 y hy k hk e)⟩
end

set_option maxHeartbeats 8000000 in
theorem walk (l0 : List (Node × Value)) (v : Value) (w : World) (ha : RdN (fun k => w.heap.size ≤ k) w v l0) (ho : ∀ y ∈ l0, NodeOk y.1 ∧ y.1.args.length ≤ 9223372036854775807 ∧ y.1.name.size ≤ 9223372036854775807) (hn : l0.length ≤ 9223372036854775807) (ht : Tab w) :
    Calls Tryd.prog 9 #[v] w fun e w' => e = .returned (.bool true) ∧ Fr NoB w w' := by
  have HA := hid ha
  have HO := hid ho
  have HT := hid ht
  obtain ⟨p0, q0, hv⟩ := ha.row.form
  subst hv
  clear ha ho ht
  have qe := eqlPtr
  by_cases g1 : (20 : Int) < (l0.length : Int)
  · go_enter Tryd.func9, Tryd.ntmps9
    go_wp2_with fail
    refine (live_any _ HT.out).mono ?_
    rintro e w1 ⟨rfl, hf⟩
    go_wp2
    go_ret
    exact ⟨rfl, hf⟩
  go_enter Tryd.func9, Tryd.ntmps9
  go_wp2_with fail
  refine (new_any _).mono ?_
  rintro e w1 ⟨bm, bt, rfl, hbm, hbt, hne, hth, hf1⟩
  go_wp2
  have hlb : bt < w1.heap.size := (hth NoB).lt
  have hlm : bm < w1.heap.size := (hth NoB).map.lt
  have P0 : Hid (PlayS w bt bm w1.heap.size (w1.heap.size + 1) [] [] (.slice none 0 0) (.slice none 0 0) (w1.alloc (.cells #[.slice none 0 0, .slice none 0 0] 45))) := by
    have hf2 := (Fr.refl NoB w1).alloc (.cells #[.slice none 0 0, .slice none 0 0] 45)
    have htl := HT.out.lt
    have hsz := hf1.size
    exact ⟨hf1.step hf2, HT.out.fr (hf1.step hf2) (fun h => h), (hth _).fr hf2 (fun h => h) (fun h => h) (fun _ _ h => h.elim),
      ⟨at_new w1 _, OwnE.nil _ _ _ _ _, OwnI.nil _ _, fun x hx => (by cases hx), fun x hx => (by cases hx), List.Pairwise.nil, fun k hk => (by cases hk), fun k hk => (by cases hk), (by omega), (by omega)⟩,
      .refl _, fun x hx => (by cases hx), ⟨hbt, hbm, hsz, hne, (by omega), (by omega), (by omega), (by omega), htl⟩, (by simp)⟩
  clear hbm hbt hne hth hf1 hlb hlm
  go_loopw [5] (fun i wr => ∃ (k : Nat) (l r : List TEnt) (vn vi : Value), k ≤ l0.length ∧ i = .int .i64 k ∧ List.length l ≤ k ∧ PlayS w bt bm w1.heap.size (w1.heap.size + 1) l r vn vi wr) (fun i _ => l0.length - (intOf i).toNat)
  case atStart => exact ⟨0, [], [], _, _, Nat.zero_le _, rfl, Nat.le_refl _, P0.out⟩
  case round =>
    obtain ⟨k, l, r, vn, vi, hk, rfl, hl, hp⟩ := hrel
    have P1 := hid hp
    have hlr := hp.len
    have HLR := hid hlr
    have HRL : Hid (List.length r ≤ 1000000) := (by show _ ≤ _; omega)
    clear hp hlr P0
    by_cases hlt : k < l0.length
    · have hAr := HA.out.fr P1.out.fr (fun _ _ h => h.elim)
      rcases hAr.row.form' (by omega) with ⟨b, off, cap, h1, hb1, hb2, hb3, hc⟩
      simp only [Value.slice.injEq] at h1
      obtain ⟨rfl, h1, rfl⟩ := h1
      clear h1
      obtain ⟨c0, c1, c2, c3, c4⟩ := hc.five hlt
      have hxa := hAr.args l0[k] (List.getElem_mem _)
      have hxo := HO.out l0[k] (List.getElem_mem _)
      generalize l0[k] = x at c0 c1 c2 c3 c4 hxa hxo
      obtain ⟨xn, xs⟩ := x
      simp only at c0 c1 c2 c3 c4 hxa hxo
      obtain ⟨ax, cx, rfl⟩ := hxa.form
      have HOK := hid hxo.1
      have HNM := hid hxo.2.2
      have HXA := hid hxa
      clear hAr hxa hxo hc hb2
      go_wp2_with fail
      refine (few_any xn _ 20 _ _ HXA.out HNM.out).mono ?_
      rintro e w2 ⟨rfl, hf⟩
      have P2 := hid (P1.out.step hf)
      have HXA2 := hid (HXA.out.fr hf (fun _ _ h => h.elim))
      have e0 := hf.c hb1 (fun h => h) c0
      have e1 := hf.c hb1 (fun h => h) c1
      have e2 := hf.c hb1 (fun h => h) c2
      have e3 := hf.c hb1 (fun h => h) c3
      have e4 := hf.c hb1 (fun h => h) c4
      clear hf c0 c1 c2 c3 c4 hb1 P1 HXA
      by_cases g2 : (xn.args.length : Int) ≤ 20 ∧ (xn.name.size / 100 : Int) ≤ 20
      rotate_left
      · rw [decide_eq_false g2]
        go_wp2_with fail
        refine (live_any _ P2.out.tb).mono ?_
        rintro e w3 ⟨rfl, hf⟩
        go_wp2
        go_ret
        exact ⟨rfl, P2.out.fr.step hf⟩
      rw [decide_eq_true g2]
      have hxl : xn.args.length ≤ 100000 := by omega
      have HSM : Hid (NodeSm xn) := ⟨by omega, by omega⟩
      have HXL : Hid (xn.args.length ≤ 1000000) := (by show _ ≤ _; omega)
      clear g2
      go_wp2_with fail
      refine (refCopy_any _ xn _ _ HXA2.out (by omega)).mono ?_
      rintro e w3 ⟨p3, q3, rfl, ho3, hf3⟩
      have hF : ∀ j, (Value.slice p3 xn.args.length q3).ownBlock = some j → w2.heap.size ≤ j ∧ j < w3.heap.size := fun j hj => World.ownsRow.lt ho3 j hj
      have P3 := hid (((PlayF.more P2.out).step hf3).sub (F' := fun j => (Value.slice p3 xn.args.length q3).ownBlock = some j) (fun j hj => (hF j hj).1))
      have O3 := hid ho3
      have HF3 := hid hF
      have hz23 : w2.heap.size ≤ w3.heap.size := hf3.size
      have hBw : w1.heap.size + 1 ≤ w2.heap.size := P2.out.hB
      clear ho3 hf3 hF e0 e1 e2 e3 e4 P2 HXA2
      obtain ⟨w4, hw4⟩ : ∃ w4, w3.alloc (.cells (nodeCells xn (.slice p3 xn.args.length q3)) 26) = w4 := ⟨_, rfl⟩
      have hf4 : Fr NoB w3 w4 := by rw [← hw4]; exact (Fr.refl NoB w3).alloc _
      have hb4 : w4.heap[w3.heap.size]? = some (.cells (nodeCells xn (.slice p3 xn.args.length q3)) 26 (0, 0)) := by rw [← hw4]; exact at_new w3 _
      have P4 := hid (P3.out.step hf4)
      have O4 := hid (OwnI.fr O3.out hf4 (fun _ _ h => h))
      have hz4 : w3.heap.size < w4.heap.size := (Array.getElem?_eq_some_iff.1 hb4).1
      obtain ⟨b0, b1, b2, b3, b4, bf, bl⟩ := five_of hb4
      have HB4 := hid hb4
      have HM4 : Hid (∀ j, (Value.slice p3 xn.args.length q3).ownBlock = some j → j < w4.heap.size) := fun j hj => by have := (HF3.out j hj).2; omega
      clear hf4 hb4 P3 O3
      go_wp2_with fail
      (try rw [hw4])
      clear hw4
      cases hg : tget l xn with
      | none =>
        have HG := hid hg
        clear hg
        refine (put_none _ _ _ bt bm l P4.out.th xn _ k (O4.out.rd (M := NoB) (fun _ _ h => h)) HOK.out HSM.out P4.out.tb HG.out (.inl rfl) P4.out.nums.2.2.2.1 (P4.out.hM1 HM4.out)).mono ?_
        rintro e w5 ⟨rfl, ⟨sl, hth5⟩, hf⟩
        have M5 : Hid (MidF (fun j => (Value.slice p3 xn.args.length q3).ownBlock = some j) w bt bm w1.heap.size (w1.heap.size + 1) l (l ++ [⟨xn, sl, (k : Int)⟩]) r vn vi w5) := ⟨⟨_, P4.out, hf⟩, hth5⟩
        have hnm := P4.out.nums
        have O5 := hid (OwnI.fr O4.out hf (fun j hj e => by have := (HF3.out j hj).1; have e : j = bm := e; omega))
        have HB5 := hid (hf.at (fun e => by have e : w3.heap.size = bm := e; omega) HB4.out)
        have HM5 : Hid (∀ j, (Value.slice p3 xn.args.length q3).ownBlock = some j → j < w5.heap.size) := fun j hj => Nat.lt_of_lt_of_le (HM4.out j hj) hf.size
        have HGR : Hid (tget r xn = none) := by
          have := P4.out.kget xn
          rw [HG.out] at this
          show _ = _
          simpa using this.symm
        clear hf hth5
        clear b0 b1 b2 b3 b4 bf bl
        obtain ⟨b0, b1, b2, b3, b4, bf, bl⟩ := five_of HB5.out
        go_wp2_with fail
        refine (refPut_none _ _ _ _ _ _ _ r M5.out.tr xn _ k (O5.out.rd (M := NoB) (fun _ _ h => h)) (by omega) HRL.out HGR.out (M5.out.hM1 HM5.out) M5.out.hB).mono ?_
        rintro e w6 ⟨rfl, vn', vi', r', sl', htr6, hp6, hf⟩
        have P6 := hid (M5.out.done htr6 hf (perm_snoc P4.out.perm hp6) (smallSnoc P4.out.small HXL.out))
        have O6 := hid (OwnI.fr O5.out hf (fun j hj e => by have := (HF3.out j hj).1; have e : j = w1.heap.size := e; omega))
        have HB6 := hid (hf.at (fun e => by have e : w3.heap.size = w1.heap.size := e; omega) HB5.out)
        have hl2 : (l ++ [⟨xn, sl, (k : Int)⟩] : List TEnt).length ≤ k + 1 := by simp; omega
        clear hf htr6 hp6
        obtain ⟨l2, r2, vn2, vi2, hl3, P7⟩ : ∃ l2 r2 vn2 vi2, List.length l2 ≤ k + 1 ∧ Hid (PlayF (fun j => (Value.slice p3 xn.args.length q3).ownBlock = some j) w bt bm w1.heap.size (w1.heap.size + 1) l2 r2 vn2 vi2 _) := ⟨_, _, _, _, hl2, P6⟩
        clear hl2 b0 b1 b2 b3 b4 bf bl
        go_wp2
        go_loopw [7] (fun j wx => ∃ (m : Nat) (lx : List Int), m ≤ xn.args.length ∧ j = .int .i64 m ∧ List.length lx = xn.args.length ∧ PlayF (fun j => (Value.slice p3 xn.args.length q3).ownBlock = some j) w bt bm w1.heap.size (w1.heap.size + 1) l2 r2 vn2 vi2 wx ∧ OwnI w2.heap.size wx (.slice p3 xn.args.length q3) lx ∧ wx.heap[w3.heap.size]? = some (.cells (nodeCells xn (.slice p3 xn.args.length q3)) 26 (0, 0))) (fun j _ => xn.args.length - (intOf j).toNat)
        case atStart => exact ⟨0, _, Nat.zero_le _, rfl, rfl, P7.out, O6.out, HB6.out⟩
        case round =>
          obtain ⟨m, lx, hm, rfl, hlx, hpx, hox, hbx⟩ := hrel
          obtain ⟨b0, b1, b2, b3, b4, bf, bl⟩ := five_of hbx
          have PX := hid hpx
          have OX := hid hox
          have BX := hid hbx
          have HLX := hid hlx
          clear hpx hox hbx hlx
          by_cases hml : m < xn.args.length
          · rcases OwnI.form' OX.out with ⟨_, h2⟩ | ⟨g, cap, h1, hg1, hg2, _⟩
            · have := HLX.out; rw [h2] at this; simp at this; omega
            simp only [Value.slice.injEq] at h1
            obtain ⟨rfl, _, rfl⟩ := h1
            have hmx : m < List.length lx := by have := HLX.out; omega
            have z0 := OwnI.cell OX.out hmx
            have z1 := OwnI.frozen OX.out m
            generalize lx.getD m 0 = y at z0
            have hne1 : w3.heap.size ≠ g := by have := (HF3.out g rfl).2; omega
            have hne2 : g ≠ w3.heap.size := fun h => hne1 h.symm
            go_wp2
            go_roundw
            case rel => exact ⟨m + 1, List.set lx m _, by omega, by go_num, by have := HLX.out; simpa using this, PX.out.mv ((Fr.refl (fun j => j = g) _).setCell (p := ⟨g, m, none⟩) (fun _ => rfl) _) (fun j e => by rw [show j = g from e]; rfl) (fun j e => by have e : j = g := e; omega), OwnI.stored OX.out m _, set_other BX.out hne1 _⟩
            case measure => simp [intOf]; omega
          · go_wp2
            go_roundw
            case rel => exact ⟨k + 1, _, _, _, _, by omega, by go_num, by omega, PX.out.toS⟩
            case measure => simp [intOf]; omega
      | some y =>
        have HG := hid hg
        clear hg
        refine (put_some _ _ _ bt bm l P4.out.th xn _ k (O4.out.rd (M := NoB) (fun _ _ h => h)) HOK.out HSM.out P4.out.tb y HG.out).mono ?_
        rintro e w5 ⟨rfl, hf⟩
        have P5 := hid (P4.out.step hf)
        have O5 := hid (OwnI.fr O4.out hf (fun _ _ h => h))
        have HB5 := hid (hf.at (fun h => h) HB4.out)
        obtain ⟨y', hgr⟩ : ∃ y', tget r xn = some y' := by
          have := P4.out.kget xn
          rw [HG.out] at this
          cases h : tget r xn with
          | none => rw [h] at this; cases this
          | some y' => exact ⟨y', rfl⟩
        have HGR := hid hgr
        clear hf hgr
        clear b0 b1 b2 b3 b4 bf bl
        obtain ⟨b0, b1, b2, b3, b4, bf, bl⟩ := five_of HB5.out
        go_wp2_with fail
        refine (refPut_old _ _ _ _ _ _ _ r P5.out.tr xn _ k (O5.out.rd (M := NoB) (fun _ _ h => h)) (by omega) HRL.out HGR.out).mono ?_
        rintro e w6 ⟨rfl, hf⟩
        have P6 := hid (P5.out.step hf)
        have O6 := hid (OwnI.fr O5.out hf (fun _ _ h => h))
        have HB6 := hid (hf.at (fun h => h) HB5.out)
        have hl2 : List.length l ≤ k + 1 := by omega
        clear hf
        obtain ⟨l2, r2, vn2, vi2, hl3, P7⟩ : ∃ l2 r2 vn2 vi2, List.length l2 ≤ k + 1 ∧ Hid (PlayF (fun j => (Value.slice p3 xn.args.length q3).ownBlock = some j) w bt bm w1.heap.size (w1.heap.size + 1) l2 r2 vn2 vi2 _) := ⟨_, _, _, _, hl2, P6⟩
        clear hl2 b0 b1 b2 b3 b4 bf bl
        go_wp2
        go_loopw [7] (fun j wx => ∃ (m : Nat) (lx : List Int), m ≤ xn.args.length ∧ j = .int .i64 m ∧ List.length lx = xn.args.length ∧ PlayF (fun j => (Value.slice p3 xn.args.length q3).ownBlock = some j) w bt bm w1.heap.size (w1.heap.size + 1) l2 r2 vn2 vi2 wx ∧ OwnI w2.heap.size wx (.slice p3 xn.args.length q3) lx ∧ wx.heap[w3.heap.size]? = some (.cells (nodeCells xn (.slice p3 xn.args.length q3)) 26 (0, 0))) (fun j _ => xn.args.length - (intOf j).toNat)
        case atStart => exact ⟨0, _, Nat.zero_le _, rfl, rfl, P7.out, O6.out, HB6.out⟩
        case round =>
          obtain ⟨m, lx, hm, rfl, hlx, hpx, hox, hbx⟩ := hrel
          obtain ⟨b0, b1, b2, b3, b4, bf, bl⟩ := five_of hbx
          have PX := hid hpx
          have OX := hid hox
          have BX := hid hbx
          have HLX := hid hlx
          clear hpx hox hbx hlx
          by_cases hml : m < xn.args.length
          · rcases OwnI.form' OX.out with ⟨_, h2⟩ | ⟨g, cap, h1, hg1, hg2, _⟩
            · have := HLX.out; rw [h2] at this; simp at this; omega
            simp only [Value.slice.injEq] at h1
            obtain ⟨rfl, _, rfl⟩ := h1
            have hmx : m < List.length lx := by have := HLX.out; omega
            have z0 := OwnI.cell OX.out hmx
            have z1 := OwnI.frozen OX.out m
            generalize lx.getD m 0 = y at z0
            have hne1 : w3.heap.size ≠ g := by have := (HF3.out g rfl).2; omega
            have hne2 : g ≠ w3.heap.size := fun h => hne1 h.symm
            go_wp2
            go_roundw
            case rel => exact ⟨m + 1, List.set lx m _, by omega, by go_num, by have := HLX.out; simpa using this, PX.out.mv ((Fr.refl (fun j => j = g) _).setCell (p := ⟨g, m, none⟩) (fun _ => rfl) _) (fun j e => by rw [show j = g from e]; rfl) (fun j e => by have e : j = g := e; omega), OwnI.stored OX.out m _, set_other BX.out hne1 _⟩
            case measure => simp [intOf]; omega
          · go_wp2
            go_roundw
            case rel => exact ⟨k + 1, _, _, _, _, by omega, by go_num, by omega, PX.out.toS⟩
            case measure => simp [intOf]; omega
    · obtain rfl : k = l0.length := by omega
      go_wp2_with fail
      refine (nodes_any _ _ bt bm _ P1.out.th (by omega) P1.out.small).mono ?_
      rintro e w2 ⟨v2, L, rfl, ho2, hp2, hw2, hf2⟩
      have P2 := hid ((PlayF.more P1.out).step hf2)
      obtain ⟨g, cap, rfl, hgB, hgl, hLc, hcells, hfz, hap⟩ := ho2.row
      have hLr : L.length = r.length := by have h1 := hp2.length_eq; have := HLR.out; simp only [List.length_map] at h1; omega
      obtain ⟨Z, K2⟩ : ∃ Z, Hid (PokeS (fun j => Z ≤ j) w bt bm w1.heap.size (w1.heap.size + 1) Z g l r vn vi L L w2) := ⟨wr.heap.size, P2.out, hcells, hfz, hgl, fun x hx => ⟨_, rfl, ho2.args x hx⟩, hgB, P1.out.hB, fun j h => h, hap⟩
      obtain ⟨pn, qn, hvn⟩ := P2.out.tr.nodes.form
      rw [List.length_map] at hvn
      subst hvn
      have hcell : w2.cell? ⟨w1.heap.size, 0, none⟩ = some (.slice pn _ qn) := (two_of P2.out.tr.head).1
      have hq := neqSelf (show ((List.length L : Nat) : Int) = ((List.length r : Nat) : Int) by omega)
      have HLr := hid hLr
      have hLb : List.length L ≤ 1000000 := by have := HRL.out; omega
      have HSL := hid (P2.out.toS.smallL hp2)
      clear ho2 hp2 hw2 hf2 hgB hgl hLc hcells hfz hap P2 P1 hLr
      go_wp2
      clear hcell hq
      go_loopw [9] (fun i wx => ∃ (m : Nat) (Lk : List (Node × Value)), m ≤ List.length L ∧ i = .int .i64 m ∧ List.length Lk = List.length L ∧ (∀ j (h1 : j < List.length Lk) (h2 : j < List.length L), m ≤ j → Lk[j] = L[j]) ∧ PokeS (fun j => Z ≤ j) w bt bm w1.heap.size (w1.heap.size + 1) Z g l r (.slice pn (List.length r) qn) vi L Lk wx) (fun i _ => List.length L - (intOf i).toNat)
      case atStart => exact ⟨0, L, Nat.zero_le _, rfl, rfl, fun j h1 h2 _ => rfl, K2.out⟩
      case round =>
        obtain ⟨m, Lk, hm, rfl, hLk, hsame, hK⟩ := hrel
        have K3 := hid hK
        have HLk := hid hLk
        have HSA := hid hsame
        clear hK hLk hsame K2
        by_cases hml : m < List.length L
        · have hmk : m < List.length Lk := by have := HLk.out; omega
          have hx := HSA.out m hmk hml (Nat.le_refl _)
          obtain ⟨d0, d1, d2, d3, d4⟩ := K3.out.cells.five hmk
          simp only [Nat.zero_add] at d0 d1 d2 d3 d4
          rw [hx] at d4
          obtain ⟨lx0, hlx0, ho0⟩ := K3.out.args L[m] (List.getElem_mem _)
          have hap := K3.out.nums.2.2.2 L[m] (List.getElem_mem _)
          obtain ⟨a5, c5, hy5⟩ := ho0.form
          have HX5 : Hid (Lk[m].2 = .slice a5 lx0.length c5) := by show _ = _; rw [hx]; exact hy5
          rw [hy5] at d4 hap
          have HMM : Hid (L[m] ∈ L) := List.getElem_mem _
          have HY5 := hid hy5
          have HL0 := hid hlx0
          have HAP := hid hap
          clear d0 d1 d2 d3 hx ho0 hy5 hlx0 hap
          obtain ⟨N, hN⟩ : ∃ N, lx0.length = N := ⟨_, rfl⟩
          rw [hN] at d4 HX5 HY5 HL0 HAP
          clear hN
          have hNb : N ≤ 1000000 := by have h1 := HL0.out; have h2 := HSL.out _ HMM.out; omega
          go_wp2
          go_loopw [10] (fun j wz => ∃ (q : Nat), q ≤ N ∧ j = .int .i64 q ∧ PokeS (fun j => Z ≤ j) w bt bm w1.heap.size (w1.heap.size + 1) Z g l r (.slice pn (List.length r) qn) vi L Lk wz) (fun j _ => N - (intOf j).toNat)
          case atStart => exact ⟨0, Nat.zero_le _, rfl, K3.out⟩
          case round =>
            obtain ⟨q, hq, rfl, hK4⟩ := hrel
            have K4 := hid hK4
            clear hK4 d4
            obtain ⟨d0, d1, d2, d3, d4⟩ := K4.out.cells.five hmk
            simp only [Nat.zero_add] at d0 d1 d2 d3 d4
            rw [HX5.out] at d4
            by_cases hqn : q < N
            · obtain ⟨lx, hlx, ho⟩ := K4.out.args _ HMM.out
              rw [HY5.out] at ho
              have hlx2 : List.length lx = N := by rw [hlx]; exact HL0.out.symm
              rcases OwnI.form' ho with ⟨_, h2⟩ | ⟨g2, cap2, h1, hg1, hg2, _⟩
              · rw [h2] at hlx2; simp at hlx2; omega
              simp only [Value.slice.injEq] at h1
              obtain ⟨rfl, _, rfl⟩ := h1
              have z0 := OwnI.cell ho (i := q) (by omega)
              have z1 := OwnI.frozen ho q
              generalize lx.getD q 0 = y at z0
              have hne : g2 ≠ g := HAP.out g2 rfl
              clear hlx hlx2 ho d0 d1 d2 d3
              go_wp2
              go_roundw
              case rel => exact ⟨q + 1, by omega, by go_num, K4.out.arg hg1 hne q _⟩
              case measure => simp [intOf]; omega
            · have t0 := K4.out.thaw (m * 5) (by omega)
              have t1 := K4.out.thaw (m * 5 + 1) (by omega)
              have t2 := K4.out.thaw (m * 5 + 2) (by omega)
              have t3 := K4.out.thaw (m * 5 + 3) (by omega)
              have t4 := K4.out.thaw (m * 5 + 4) (by omega)
              go_wp2
              go_roundw
              case rel =>
                refine ⟨m + 1, List.set Lk m zeroN, by omega, by go_num, by have := HLk.out; simpa using this, fun j h1 h2 hj => ?_, K4.out.clear m⟩
                rw [List.getElem_set_ne (by omega)]
                exact HSA.out j (by simpa using h1) h2 (by omega)
              case measure => simp [intOf]; omega
        · have P3 := hid K3.out.tabs.toS
          clear K3 HSA HLk
          go_wp2
          go_loopw [11] (fun i wy => ∃ (q : Nat), q ≤ List.length r ∧ i = .int .i64 q ∧ PlayS w bt bm w1.heap.size (w1.heap.size + 1) l r (.slice pn (List.length r) qn) vi wy) (fun i _ => List.length r - (intOf i).toNat)
          case atStart => exact ⟨0, Nat.zero_le _, rfl, P3.out⟩
          case round =>
            obtain ⟨q, hq, rfl, hP⟩ := hrel
            have P4 := hid hP
            clear hP P3
            have hrb : List.length r ≤ 1000000 := HRL.out
            obtain ⟨t0, t1, tf, tl⟩ := two_of P4.out.tr.head
            by_cases hqr : q < List.length r
            · have hq2 : q < (r.map fun x => (x.node, x.sl)).length := by simpa using hqr
              rcases P4.out.tr.rdN.row.form' (by simp; omega) with ⟨b5, off5, cap5, h1, hb5, _, _, hc5⟩
              obtain ⟨d0, d1, d2, d3, d4⟩ := hc5.five hq2
              simp only [List.getElem_map] at d0 d1 d2 d3 d4
              rw [List.length_map] at h1
              simp only [Value.slice.injEq] at h1
              obtain ⟨rfl, _, rfl⟩ := h1
              obtain ⟨y, hy, hyi, hok, hsm⟩ := P4.out.entry hqr
              have hxa := P4.out.tr.args r[q] (List.getElem_mem _)
              obtain ⟨pi, qi, hvi⟩ := P4.out.tr.ids.form
              rw [List.length_map] at hvi
              subst hvi
              have HID : Hid ((r.map (·.id)).getD q 0 = y.id) := by
                show _ = _
                rw [getD_eq (by simpa using hqr), List.getElem_map, hyi]
              generalize r[q] = x at d0 d1 d2 d3 d4 hy hyi hok hsm hxa
              obtain ⟨xn, xs, xi⟩ := x
              simp only at d0 d1 d2 d3 d4 hy hyi hok hsm hxa
              obtain ⟨ax, cx, rfl⟩ := hxa.form
              have HXA := hid hxa
              have HOK := hid hok
              have HSM := hid hsm
              have HY := hid hy
              clear hxa hok hsm hy hyi hc5
              go_wp2_with fail
              refine (get_any _ _ _ bt bm _ P4.out.th xn _ HXA.out HOK.out HSM.out P4.out.tb).mono ?_
              rintro e w5 ⟨rfl, hf⟩
              have P5 := hid (P4.out.step hf)
              rw [HY.out]
              simp only [Option.elim_some, Option.isSome_some]
              clear hf d0 d1 d2 d3 d4 t0 t1 tf tl hb5 P4 HXA
              obtain ⟨t0, t1, tf, tl⟩ := two_of P5.out.tr.head
              rcases OwnI.form' P5.out.tr.ids with ⟨_, h2⟩ | ⟨g6, cap6, h1, hg1, hg2, hcap6⟩
              · have h2 : r = [] := by simpa using h2
                subst h2; simp at hqr
              simp only [Value.slice.injEq] at h1
              obtain ⟨rfl, h8, rfl⟩ := h1
              clear h8
              have z0 := OwnI.cell P5.out.tr.ids (i := q) (by simpa using hqr)
              rw [HID.out] at z0
              generalize y.id = z at z0
              go_wp2
              go_roundw
              case rel => exact ⟨q + 1, by omega, by go_num, P5.out⟩
              case measure => simp [intOf]; omega
            · have P7 := hid P4.out
              clear P4 t1 tf tl
              go_wp2
              go_region_held3 (fun w' => w'.cell? ⟨w1.heap.size, 0, none⟩ = some (.slice pn (List.length r) qn)) (go_keep)
                (first
                  | (go_at_call 12; have X := live_any _ P9.out.tb; (with_reducible refine X.mono ?_); clear X; rintro e w10 ⟨rfl, hf⟩; have P10 := hid (P9.out.step hf); clear hf; have hcell : w10.cell? ⟨w1.heap.size, 0, none⟩ = some (.slice pn (List.length r) qn) := (two_of P10.out.tr.head).1)
                  | (go_at_call 32; have X := sameAll_eq NoB NoB _ _ _ _ _ HO8.out P8.out.rdN (P8.out.same HP8.out (HW8.out.imp (fun {a b} h => by omega))) HS8.out HL8.out; (with_reducible refine X.mono ?_); clear X; rintro e w9 ⟨rfl, hf⟩; have P9 := hid (P8.out.step hf); clear hf; have hcell : w9.cell? ⟨w1.heap.size, 0, none⟩ = some (.slice pn (List.length r) qn) := (two_of P9.out.tr.head).1)
                  | (go_at_call 33; have X := nodes_any _ _ bt bm _ P7.out.drew.th (by omega) P7.out.drew.small; (with_reducible refine X.mono ?_); clear X; rintro e w8 ⟨v8, L8, rfl, ho8, hp8, hw8, hf⟩; have P8 := hid (P7.out.drew.step hf); have HO8 := hid ho8.rdN; have HP8 := hid hp8; have HW8 := hid hw8; have HS8 := hid (fun x hx => P8.out.smallL hp8 x hx); have HL8 : Hid (L8.length ≤ 1000000) := (by have := hp8.length_eq; simp only [List.length_map] at this; show _ ≤ _; omega); clear hf ho8 hp8 hw8; have hcell : w8.cell? ⟨w1.heap.size, 0, none⟩ = some (.slice pn (List.length r) qn) := (two_of P8.out.tr.head).1))
              all_goals
                go_wp2
                go_ret
                exact ⟨rfl, P10.out.fr⟩

-- ROW
/-- What the walk gives, for every argument and every world that holds the tables. -/
theorem contract (H : Type) (enc : TypeId × Value → H) (W : World) (base : Nat) (args : Array Value) (ds gs : List (DataW H)) (before : List MemPlace)
    (hval : ∀ (j : Nat) t v, Tryd.f9.params[j]? = some t → args[j]? = some v → Value.okWide Tryd.prog W .any base t v)
    (hW : DataW.Whole enc Tryd.prog Tryd.f9.params.toList Rows.hashconsOwnsSpec.vars false W args.toList ds gs before) (hL : laidMetH Tryd.prog Rows.hashconsOwnsRow.laid W) :
    Calls Tryd.prog 9 args W fun e W' => ∃ v, e = .returned v ∧ Rows.hashconsOwnsSpec.post enc Tryd.prog Tryd.f9 false true false false W args v W' := by
  have hW' := hW
  obtain ⟨p, q, hA0, hV, rfl, hfz, hnd⟩ := hW
  have hA : DataW.TrodAll enc Tryd.prog W 0 (fun _ => true) true Tryd.f9.params.toList args.toList ds p := hA0
  rw [Tryd.params9] at hA hval
  obtain ⟨v0, vs0, d0, ds0, p0, q0, hargs, rfl, rfl, h0, r0⟩ := trodAll_cons hA
  obtain ⟨rfl, rfl, rfl⟩ := trodAll_nil r0
  obtain rfl : args = #[v0] := by cases args; simp_all
  obtain ⟨rfl, rfl⟩ := trodVars_none hV
  have lt0 : ∀ x ∈ p0, x.block < W.heap.size := by obtain ⟨m, hm⟩ := h0; exact DataW.trod_lt m _ _ _ hm
  have k0 := h0
  have hv0 := hval 0 43 v0 rfl rfl
  obtain ⟨m0, hm0⟩ := h0
  obtain ⟨a2, n2, c2, rfl⟩ := okWide_slice Tryd.underlying43 hv0
  obtain ⟨l0, rl0, ln0, lo0⟩ := open_nodes hm0 (fun k => W.heap.size ≤ k) (fun k hk => by omega)
  clear hA0
  have htab := tab_of_laid hL
  refine (walk l0 _ W rl0 lo0 ln0 htab).mono fun e W' ⟨he, hf⟩ => ?_
  subst he
  have bel := hf.below
  exact ⟨_, rfl, _, _, _, [], _, [], hW', trodAll_mk1 (shut_bool Tryd.underlying4 _), (trodAll_cons_mk (Below.trod laidOut (by kernel_rfl) (of_decide_eq_true (by kernel_rfl)) k0 bel lt0) trodAll_mk0), rfl, bel.frame _, fun h => by cases h⟩

theorem laid_met (os : Os) : laidMet Tryd.prog Rows.hashconsOwnsRow.laid ((laidWorld os).forCall (fun _ _ => 0) ⟨#[], #[.slice none 0 0], []⟩).memory :=
  laidMet_of_run' 8 (by kernel_rfl) (by kernel_rfl)
theorem reads (os : Os) {H : Type} (enc : TypeId × Value → H) : ∃ places, DataW.whole enc Tryd.prog ((laidWorld os).forCall (fun _ _ => 0) ⟨#[], #[.slice none 0 0], []⟩).memory Tryd.f9.params.toList Rows.hashconsOwnsSpec.vars false #[.slice none 0 0].toList 8 = some ([.nil], [], places) :=
  ⟨[], by kernel_rfl⟩

set_option maxRecDepth 100000 in
theorem lifted (os : Os) (started : os.Started) (H : Type) (enc : TypeId × Value → H) (F : Stop.Interp) :
    ReturnsInHanded {} Tryd.checked os 9 .any ((OpenSpec.ofChange Rows.hashconsOwnsSpec).preRow enc Tryd.prog Tryd.f9 Rows.hashconsOwnsRow.domain false Rows.hashconsOwnsRow.laid) (((OpenSpec.ofChange Rows.hashconsOwnsSpec).at F).post enc Tryd.prog Tryd.f9 false true false false) := by
  obtain ⟨places, hx⟩ := reads os enc
  refine returnsInHanded_of_row (C := Tryd.checked) (s := OpenSpec.ofChange Rows.hashconsOwnsSpec) own started (by kernel_rfl) Tryd.func9
    (witness_row_at (enc := enc) (C := Tryd.checked) false (laidWorld os) #[.slice none 0 0] rfl (by kernel_rfl) (by kernel_rfl) (by kernel_rfl)
      (OpenSpec.preRow_of_cond 8 hx (by kernel_rfl) (fun k hk => by cases hk) (by kernel_rfl) (laid_met os))) ?_
  intro W base args ds gs before hval hW _ hcond _ hL _ _
  exact contract H enc W base args ds gs before hval hW hL

theorem said : Rows.HashconsOwnsSaid :=
  OpenClaim.holds_of_cond 9 Tryd.f9 rfl rfl rfl rfl rfl rfl rfl ⟨rfl, rfl, rfl, rfl, rfl⟩ rfl rfl rfl rfl rfl (by kernel_rfl) Tryd.func9 (by kernel_rfl)
    (of_decide_eq_true (by kernel_rfl)) (by unfold Func.isWrapper; first | (rw [if_pos (by decide +kernel)]; kernel_rfl) | (rw [if_neg (by decide +kernel)]; exact ⟨rfl, rfl⟩))
    (fun os started H enc _ F => by rw [OpenClaim.pre_eq_preRow]; exact lifted os started H enc F)

theorem plain (f : FuncId) (fn : Func) (hf : Tryd.pinned.checked.prog.funcNamed "saturate/saturatelaw16.HashconsOwns" = some f) (hfn : Tryd.pinned.checked.prog.funcs[f]? = some fn) :
    false = Tryd.pinned.checked.prog.looks [] ∧ ∀ (j : Nat) t, fn.params[j]? = some t → Tryd.pinned.checked.prog.wantsStandIn t = false := by
  obtain rfl : f = 9 := Option.some.inj ((show Tryd.prog.funcNamed "saturate/saturatelaw16.HashconsOwns" = some 9 by kernel_rfl).symm.trans hf) |>.symm
  obtain rfl : fn = Tryd.f9 := (Option.some.inj (Tryd.func9.symm.trans hfn)).symm
  refine ⟨by kernel_rfl, fun j t ht => ?_⟩
  rw [Tryd.params9] at ht
  have hm : t ∈ [43] := by have := Array.mem_of_getElem? ht; simpa using this
  have q0 : Tryd.prog.wantsStandIn 43 = false := by kernel_rfl
  simp only [List.mem_cons, List.not_mem_nil, or_false] at hm
  rcases hm with rfl
  · exact q0

theorem card : Rows.HashconsOwnsCardSaid :=
  Claim7.holds_tied_plain_at .later [] _ _ _ _ said (fun _ h => by cases h) (by kernel_rfl) (fun _ h => by cases h) hashconsOwns_row_tie rfl ⟨rfl, rfl⟩ (by kernel_rfl) rfl plain (by kernel_rfl)
#print axioms card

end Go.Proofs.YtkifedleajacpaaDoor.LawOwns
