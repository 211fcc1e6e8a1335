/- HashconsPlays: for every row of operations, Put, Get and Del of a hashcons.Table answer as the reference's, and so do Len and Nodes after each operation (where there are more than 60 operations, or a node is too large for the law's guard, it checks the chapter's example alone). Condition: the three listed tables of Go's library hold what the program's text lays in them (the card ties this). -/
import Derived.Test.YtkifedleajacpaaDoorCards
import Derived.Test.YtkifedleajacpaaDoorTie
import Derived.Test.YtkifedleajacpaaDoorOpenA
import Derived.Test.YtkifedleajacpaaDoorPlayS
import Derived.SevenTiedAt
namespace Go.Proofs.YtkifedleajacpaaDoor.LawPlays
open Go.ChangeShapes Go.WideShapes Go.ChangeAt Go.RowKit
set_option maxRecDepth 100000

/-- What the round reads besides the tables: the node's box, the row of operations. -/
structure RoundS (w : World) (bm rt nb : Nat) (n : Node) (s : Value) (v : Value) (acts : List ActE) (W : World) : Prop where
  box : W.heap[nb]? = some (.cells (nodeCells n s) 26 (0, 0))
  rd : RdA (fun k => w.heap.size ≤ k) W v acts
  arg : RdI (fun k => w.heap.size ≤ k) W s n.args
  nums : w.heap.size ≤ bm ∧ w.heap.size ≤ rt ∧ nb ≠ bm ∧ nb ≠ rt ∧ w.heap.size ≤ nb
theorem RoundS.fr {w : World} {bm rt nb : Nat} {n : Node} {s v : Value} {acts : List ActE} {W W' : World} {M : Nat → Prop} (h : RoundS w bm rt nb n s v acts W) (hf : Fr M W W') (hM : ∀ k, M k → k = bm ∨ k = rt) : RoundS w bm rt nb n s v acts W' := by
  have hn := h.nums
  have hM2 : ∀ k, M k → w.heap.size ≤ k := fun k hk => by have := hM k hk; omega
  exact ⟨hf.at (fun hk => by have := hM _ hk; omega) h.box, h.rd.fr hf (fun k _ hk => hM2 k hk), h.arg.fr hf (fun k _ hk => hM2 k hk), hn⟩
theorem RoundS.step {w : World} {bm rt nb : Nat} {n : Node} {s v : Value} {acts : List ActE} {W W' : World} (h : RoundS w bm rt nb n s v acts W) (hf : Fr NoB W W') : RoundS w bm rt nb n s v acts W' := h.fr hf (fun _ h => h.elim)
theorem neqSelf {x y : Int} (h : x = y) : (x != y) = false := by subst h; simp
theorem eqlPtr (w : World) (r : Option Addr) : (binOp .eql 40 (.pointer r) (.pointer none)).run Tryd.prog w = .ok (.bool r.isNone) w := by
  cases r <;> kernel_rfl

set_option maxHeartbeats 8000000 in
theorem walk (acts : List ActE) (v : Value) (w : World) (ha : RdA (fun k => w.heap.size ≤ k) w v acts) (ho : ∀ x ∈ acts, NodeOk x.node ∧ x.node.name.size ≤ 9223372036854775807) (hn : acts.length ≤ 9223372036854775807) (ht : Tab w) :
    Calls Tryd.prog 8 #[v] w fun e w' => e = .returned (.bool true) ∧ Fr NoB w w' := by
  have HA := hid ha
  have HO := hid ho
  have HT := hid ht
  obtain ⟨p0, q0, hv⟩ := ha.row.form
  subst hv
  clear ha ho ht
  have qe := eqlPtr
  by_cases g1 : (60 : Int) < (acts.length : Int)
  · go_enter Tryd.func8, Tryd.ntmps8
    go_wp2_with fail
    refine (live_any _ HT.out).mono ?_
    rintro e w1 ⟨rfl, hf⟩
    go_wp2
    go_ret
    exact ⟨rfl, hf⟩
  go_enter Tryd.func8, Tryd.ntmps8
  go_wp2_with fail
  refine (new_any _).mono ?_
  rintro e w1 ⟨bm, bt, rfl, hbm, hbt, hne, hth, hf1⟩
  go_wp2
  have hlb : bt < w1.heap.size := (hth NoB).lt
  have hlm : bm < w1.heap.size := (hth NoB).map.lt
  have P0 : Hid (PlayS w bt bm w1.heap.size (w1.heap.size + 1) [] [] (.slice none 0 0) (.slice none 0 0) (w1.alloc (.cells #[.slice none 0 0, .slice none 0 0] 45))) := by
    have hf2 := (Fr.refl NoB w1).alloc (.cells #[.slice none 0 0, .slice none 0 0] 45)
    have htl := HT.out.lt
    have hsz := hf1.size
    exact ⟨hf1.step hf2, HT.out.fr (hf1.step hf2) (fun h => h), (hth _).fr hf2 (fun h => h) (fun h => h) (fun _ _ h => h.elim),
      ⟨at_new w1 _, OwnE.nil _ _ _ _ _, OwnI.nil _ _, fun x hx => (by cases hx), fun x hx => (by cases hx), List.Pairwise.nil, fun k hk => (by cases hk), fun k hk => (by cases hk), (by omega), (by omega)⟩,
      .refl _, fun x hx => (by cases hx), ⟨hbt, hbm, hsz, hne, (by omega), (by omega), (by omega), (by omega), htl⟩, (by simp)⟩
  clear hbm hbt hne hth hf1 hlb hlm
  go_loopw [5] (fun i wr => ∃ (k : Nat) (l r : List TEnt) (vn vi : Value), k ≤ acts.length ∧ i = .int .i64 k ∧ List.length l ≤ k ∧ PlayS w bt bm w1.heap.size (w1.heap.size + 1) l r vn vi wr) (fun i _ => acts.length - (intOf i).toNat)
  case atStart => exact ⟨0, [], [], _, _, Nat.zero_le _, rfl, Nat.le_refl _, P0.out⟩
  case round =>
    obtain ⟨k, l, r, vn, vi, hk, rfl, hl, hp⟩ := hrel
    have P1 := hid hp
    have hlr := hp.len
    have HLR := hid hlr
    have HRL : Hid (List.length r ≤ 1000000) := (by show _ ≤ _; omega)
    clear hp hlr P0
    by_cases hlt : k < acts.length
    · have hAr := HA.out.fr P1.out.fr (fun _ _ h => h.elim)
      rcases hAr.row.form' (by omega) with ⟨b, off, cap, h1, hb1, hb2, hb3, hc⟩
      simp only [Value.slice.injEq] at h1
      obtain ⟨rfl, h1, rfl⟩ := h1
      clear h1
      obtain ⟨c0, c1, c2, c3, c4, c5, c6⟩ := hc.seven hlt
      have hxa := hAr.args acts[k] (List.getElem_mem _)
      have hxo := HO.out acts[k] (List.getElem_mem _)
      generalize acts[k] = x at c0 c1 c2 c3 c4 c5 c6 hxa hxo
      obtain ⟨xk, xn, xs, xi⟩ := x
      simp only at c0 c1 c2 c3 c4 c5 c6 hxa hxo
      obtain ⟨ax, cx, rfl⟩ := hxa.form
      have hpn := P1.out.nums
      have hrl := P1.out.tr.below
      have hBl := P1.out.hB
      have R1 : Hid (RoundS w bm w1.heap.size wr.heap.size xn (.slice ax xn.args.length cx) (.slice (some ⟨b, off, none⟩) acts.length q0) acts (wr.alloc (.cells (nodeCells xn (.slice ax xn.args.length cx)) 26))) :=
        ⟨at_new wr _, hAr.fr ((Fr.refl NoB wr).alloc _) (fun _ _ h => h.elim), hxa.fr ((Fr.refl NoB wr).alloc _) (fun _ _ h => h.elim), (by omega), (by omega), (by omega), (by omega), P1.out.fr.size⟩
      have P2 := hid (P1.out.step ((Fr.refl NoB wr).alloc (.cells (nodeCells xn (.slice ax xn.args.length cx)) 26)))
      have HOK := hid hxo.1
      have HNM := hid hxo.2
      have hbw : b < w.heap.size := by omega
      have hbB : b ≠ bm ∧ b ≠ w1.heap.size := by omega
      clear hAr hxa hxo hc hb2 hpn hrl hBl P1
      go_wp2_with fail
      refine (few_any xn _ 20 _ _ R1.out.arg HNM.out).mono ?_
      rintro e w2 ⟨rfl, hf⟩
      have R2 := hid (R1.out.step hf)
      have P3 := hid (P2.out.step hf)
      have hbl2 : b < w2.heap.size := Nat.lt_of_lt_of_le (by simp; omega) hf.size
      have e0 := hf.c (by simp; omega) (fun h => h) (((World.cell?_alloc_past _ _ _ hb1).trans c0))
      have e6 := hf.c (by simp; omega) (fun h => h) (((World.cell?_alloc_past _ _ _ hb1).trans c6))
      clear hf R1 P2 c0 c1 c2 c3 c4 c5 c6 hb1
      by_cases g2 : (xn.args.length : Int) ≤ 20 ∧ (xn.name.size / 100 : Int) ≤ 20
      rotate_left
      · rw [decide_eq_false g2]
        go_wp2_with fail
        refine (live_any _ P3.out.tb).mono ?_
        rintro e w3 ⟨rfl, hf⟩
        go_wp2
        go_ret
        exact ⟨rfl, P3.out.fr.step hf⟩
      rw [decide_eq_true g2]
      have hxl : xn.args.length ≤ 100000 := by omega
      have HSM : Hid (NodeSm xn) := ⟨by omega, by omega⟩
      clear g2
      obtain ⟨b0, b1, b2, b3, b4, bf, bl⟩ := five_of R2.out.box
      have HXL : Hid (xn.args.length ≤ 1000000) := by show _ ≤ _; omega
      by_cases k0 : xk = 0
      · subst k0
        cases hg : tget l xn with
        | none =>
          have HG := hid hg
          clear hg
          have hgr : tget r xn = none := by have := P3.out.kget xn; rw [HG.out] at this; simpa using this.symm
          have HGR := hid hgr
          clear hgr
          go_wp2
          go_region_held3 (fun w' => w'.cell? ⟨wr.heap.size, 0, none⟩ = some (.int .i64 xn.op) ∧ w'.cell? ⟨wr.heap.size, 1, none⟩ = some (.int .i64 xn.width) ∧ w'.cell? ⟨wr.heap.size, 2, none⟩ = some (.int .u64 xn.val) ∧ w'.cell? ⟨wr.heap.size, 3, none⟩ = some (.string xn.name) ∧ w'.cell? ⟨wr.heap.size, 4, none⟩ = some (.slice ax xn.args.length cx) ∧ w'.cell? ⟨b, off + k * 7 + 6, none⟩ = some (.int .i64 xi)) (go_keep)
            (first
              | (go_at_call 26; have X := refPut_none _ _ _ _ _ _ _ r M4.out.tr xn _ xi R4.out.arg (by omega) HRL.out HGR.out M4.out.hM M4.out.hB; (with_reducible refine X.mono ?_); clear X; rintro e w5 ⟨rfl, vn', vi', r', sl', htr5, hp5, hf⟩; have P5 := hid (M4.out.done htr5 hf (perm_snoc P3.out.perm hp5) (smallSnoc P3.out.small HXL.out)); have R5 := hid (R4.out.fr hf (fun _ h => .inr h)); have e6 := hf.c (by have := M4.out.fr.size; omega) hbB.2 e6; clear hf htr5 hp5 b0 b1 b2 b3 b4 bf bl; obtain ⟨b0, b1, b2, b3, b4, bf, bl⟩ := five_of R5.out.box)
              | (go_at_call 25; have X := put_none _ _ _ bt bm l P3.out.drew.th xn _ xi R2.out.arg HOK.out HSM.out P3.out.drew.tb HG.out (.inl rfl) P3.out.nums.2.2.2.1 P3.out.drew.hM; (with_reducible refine X.mono ?_); clear X; rintro e w4 ⟨rfl, ⟨sl, hth4⟩, hf⟩; have M4 : Hid (MidP w bt bm w1.heap.size (w1.heap.size + 1) l (l ++ [⟨xn, sl, xi⟩]) r vn vi w4) := ⟨⟨_, P3.out.drew, hf⟩, hth4⟩; have R4 := hid ((R2.out.step (Fr.refl NoB _).drew).fr hf (fun _ h => .inl h)); have e6 := hf.c hbl2 hbB.1 e6; clear hf hth4 b0 b1 b2 b3 b4 bf bl; obtain ⟨b0, b1, b2, b3, b4, bf, bl⟩ := five_of R4.out.box))
          all_goals
            have hl2 : (l ++ [⟨xn, sl, xi⟩] : List TEnt).length ≤ k + 1 := by simp; omega
            clear b0 b1 b2 b3 b4 bf bl
            obtain ⟨l2, r2, vn2, vi2, hl3, P5⟩ : ∃ l2 r2 vn2 vi2, List.length l2 ≤ k + 1 ∧ Hid (PlayS w bt bm w1.heap.size (w1.heap.size + 1) l2 r2 vn2 vi2 _) := ⟨_, _, _, _, hl2, P5⟩
            clear hl2
            obtain ⟨b0, b1, b2, b3, b4, bf, bl⟩ := five_of R5.out.box
            go_wp2_with fail
            refine (get_any _ _ _ bt bm _ P5.out.th xn _ R5.out.arg HOK.out HSM.out P5.out.tb).mono ?_
            rintro e w6 ⟨rfl, hf⟩
            have P6 := hid (P5.out.step hf)
            have R6 := hid (R5.out.step hf)
            clear hf b0 b1 b2 b3 b4 bf bl
            obtain ⟨b0, b1, b2, b3, b4, bf, bl⟩ := five_of R6.out.box
            go_wp2_with fail
            refine (refGet_any _ _ _ _ _ _ _ _ P6.out.tr xn _ R6.out.arg (by omega) (by have := P6.out.len; omega)).mono ?_
            rintro e w7 ⟨rfl, hf⟩
            have P7 := hid (P6.out.step hf)
            clear hf b0 b1 b2 b3 b4 bf bl P6 R6 R5 P5
            rw [(P7.out.gets xn).1, (P7.out.gets xn).2]
            generalize ((tget l2 xn).elim 0 (·.id) : Int) = z
            generalize (tget l2 xn).isSome = bz
            obtain ⟨pn, qn, hvn⟩ := P7.out.tr.nodes.form
            rw [List.length_map] at hvn
            subst hvn
            have hcell : w7.cell? ⟨w1.heap.size, 0, none⟩ = some (.slice pn _ qn) := (two_of P7.out.tr.head).1
            have hll := P7.out.len
            have hq := neqSelf (show ((List.length l2 : Nat) : Int) = ((List.length r2 : Nat) : Int) by omega)
            have HLL := hid hll
            clear hll
            go_wp2
            go_region_held3 (fun w' => w'.cell? ⟨w1.heap.size, 0, none⟩ = some (.slice pn (List.length r2) qn)) (go_keep)
              (first
                | (go_at_call 32; have X := sameAll_eq NoB NoB _ _ _ _ _ HO8.out P8.out.rdN (P8.out.same HP8.out (HW8.out.imp (fun {a b} h => by omega))) HS8.out HL8.out; (with_reducible refine X.mono ?_); clear X; rintro e w9 ⟨rfl, hf⟩; have P9 := hid (P8.out.step hf); clear hf; have hcell : w9.cell? ⟨w1.heap.size, 0, none⟩ = some (.slice pn (List.length r2) qn) := (two_of P9.out.tr.head).1)
                | (go_at_call 33; have X := nodes_any _ _ bt bm _ P7.out.drew.th (by omega) P7.out.drew.small; (with_reducible refine X.mono ?_); clear X; rintro e w8 ⟨v8, L8, rfl, ho8, hp8, hw8, hf⟩; have P8 := hid (P7.out.drew.step hf); have HO8 := hid ho8.rdN; have HP8 := hid hp8; have HW8 := hid hw8; have HS8 := hid (fun x hx => P8.out.smallL hp8 x hx); have HL8 : Hid (L8.length ≤ 1000000) := (by have := hp8.length_eq; simp only [List.length_map] at this; show _ ≤ _; omega); clear hf ho8 hp8 hw8; have hcell : w8.cell? ⟨w1.heap.size, 0, none⟩ = some (.slice pn (List.length r2) qn) := (two_of P8.out.tr.head).1)
                | (go_at_call 31; have X := len_any _ _ bt bm _ P7.out.drew.th; (with_reducible refine X.mono ?_); clear X; rintro e w9 ⟨rfl, h9⟩; have h9 := h9.symm; subst h9))
            all_goals
              go_wp2
              go_roundw
              case rel => exact ⟨k + 1, _, _, _, _, by omega, by go_num, by omega, P9.out⟩
              case measure => simp [intOf]; omega
        | some y =>
          have HG := hid hg
          clear hg
          have hgr : ∃ y', tget r xn = some y' := by
            have := P3.out.kget xn
            rw [HG.out] at this
            cases h : tget r xn with
            | none => rw [h] at this; cases this
            | some y' => exact ⟨y', rfl⟩
          obtain ⟨y', hgr⟩ := hgr
          have HGR := hid hgr
          clear hgr
          go_wp2
          go_region_held3 (fun w' => w'.cell? ⟨wr.heap.size, 0, none⟩ = some (.int .i64 xn.op) ∧ w'.cell? ⟨wr.heap.size, 1, none⟩ = some (.int .i64 xn.width) ∧ w'.cell? ⟨wr.heap.size, 2, none⟩ = some (.int .u64 xn.val) ∧ w'.cell? ⟨wr.heap.size, 3, none⟩ = some (.string xn.name) ∧ w'.cell? ⟨wr.heap.size, 4, none⟩ = some (.slice ax xn.args.length cx) ∧ w'.cell? ⟨b, off + k * 7 + 6, none⟩ = some (.int .i64 xi)) (go_keep)
            (first
              | (go_at_call 26; have X := refPut_old _ _ _ _ _ _ _ r P4.out.tr xn _ xi R4.out.arg (by omega) HRL.out HGR.out; (with_reducible refine X.mono ?_); clear X; rintro e w5 ⟨rfl, hf⟩; have P5 := hid (P4.out.step hf); have R5 := hid (R4.out.step hf); have e6 := hf.c hbl4.out (fun h => h) e6; clear hf b0 b1 b2 b3 b4 bf bl; obtain ⟨b0, b1, b2, b3, b4, bf, bl⟩ := five_of R5.out.box)
              | (go_at_call 25; have X := put_some _ _ _ bt bm l P3.out.drew.th xn _ xi R2.out.arg HOK.out HSM.out P3.out.drew.tb y HG.out; (with_reducible refine X.mono ?_); clear X; rintro e w4 ⟨rfl, hf⟩; have P4 := hid (P3.out.drew.step hf); have R4 := hid ((R2.out.step (Fr.refl NoB _).drew).step hf); have hbl4 := hid (Nat.lt_of_lt_of_le hbl2 hf.size); have e6 := hf.c hbl2 (fun h => h) e6; clear hf b0 b1 b2 b3 b4 bf bl; obtain ⟨b0, b1, b2, b3, b4, bf, bl⟩ := five_of R4.out.box))
          all_goals
            have hl2 : List.length l ≤ k + 1 := by omega
            clear b0 b1 b2 b3 b4 bf bl
            obtain ⟨l2, r2, vn2, vi2, hl3, P5⟩ : ∃ l2 r2 vn2 vi2, List.length l2 ≤ k + 1 ∧ Hid (PlayS w bt bm w1.heap.size (w1.heap.size + 1) l2 r2 vn2 vi2 _) := ⟨_, _, _, _, hl2, P5⟩
            clear hl2
            obtain ⟨b0, b1, b2, b3, b4, bf, bl⟩ := five_of R5.out.box
            go_wp2_with fail
            refine (get_any _ _ _ bt bm _ P5.out.th xn _ R5.out.arg HOK.out HSM.out P5.out.tb).mono ?_
            rintro e w6 ⟨rfl, hf⟩
            have P6 := hid (P5.out.step hf)
            have R6 := hid (R5.out.step hf)
            clear hf b0 b1 b2 b3 b4 bf bl
            obtain ⟨b0, b1, b2, b3, b4, bf, bl⟩ := five_of R6.out.box
            go_wp2_with fail
            refine (refGet_any _ _ _ _ _ _ _ _ P6.out.tr xn _ R6.out.arg (by omega) (by have := P6.out.len; omega)).mono ?_
            rintro e w7 ⟨rfl, hf⟩
            have P7 := hid (P6.out.step hf)
            clear hf b0 b1 b2 b3 b4 bf bl P6 R6 R5 P5
            rw [(P7.out.gets xn).1, (P7.out.gets xn).2]
            generalize ((tget l2 xn).elim 0 (·.id) : Int) = z
            generalize (tget l2 xn).isSome = bz
            obtain ⟨pn, qn, hvn⟩ := P7.out.tr.nodes.form
            rw [List.length_map] at hvn
            subst hvn
            have hcell : w7.cell? ⟨w1.heap.size, 0, none⟩ = some (.slice pn _ qn) := (two_of P7.out.tr.head).1
            have hll := P7.out.len
            have hq := neqSelf (show ((List.length l2 : Nat) : Int) = ((List.length r2 : Nat) : Int) by omega)
            have HLL := hid hll
            clear hll
            go_wp2
            go_region_held3 (fun w' => w'.cell? ⟨w1.heap.size, 0, none⟩ = some (.slice pn (List.length r2) qn)) (go_keep)
              (first
                | (go_at_call 32; have X := sameAll_eq NoB NoB _ _ _ _ _ HO8.out P8.out.rdN (P8.out.same HP8.out (HW8.out.imp (fun {a b} h => by omega))) HS8.out HL8.out; (with_reducible refine X.mono ?_); clear X; rintro e w9 ⟨rfl, hf⟩; have P9 := hid (P8.out.step hf); clear hf; have hcell : w9.cell? ⟨w1.heap.size, 0, none⟩ = some (.slice pn (List.length r2) qn) := (two_of P9.out.tr.head).1)
                | (go_at_call 33; have X := nodes_any _ _ bt bm _ P7.out.drew.th (by omega) P7.out.drew.small; (with_reducible refine X.mono ?_); clear X; rintro e w8 ⟨v8, L8, rfl, ho8, hp8, hw8, hf⟩; have P8 := hid (P7.out.drew.step hf); have HO8 := hid ho8.rdN; have HP8 := hid hp8; have HW8 := hid hw8; have HS8 := hid (fun x hx => P8.out.smallL hp8 x hx); have HL8 : Hid (L8.length ≤ 1000000) := (by have := hp8.length_eq; simp only [List.length_map] at this; show _ ≤ _; omega); clear hf ho8 hp8 hw8; have hcell : w8.cell? ⟨w1.heap.size, 0, none⟩ = some (.slice pn (List.length r2) qn) := (two_of P8.out.tr.head).1)
                | (go_at_call 31; have X := len_any _ _ bt bm _ P7.out.drew.th; (with_reducible refine X.mono ?_); clear X; rintro e w9 ⟨rfl, h9⟩; have h9 := h9.symm; subst h9))
            all_goals
              go_wp2
              go_roundw
              case rel => exact ⟨k + 1, _, _, _, _, by omega, by go_num, by omega, P9.out⟩
              case measure => simp [intOf]; omega
      by_cases k1 : xk = 1
      · subst k1
        cases hg : tget l xn with
        | none =>
          have HG := hid hg
          clear hg
          have hgr : tget r xn = none := by have := P3.out.kget xn; rw [HG.out] at this; simpa using this.symm
          have HGR := hid hgr
          clear hgr
          go_wp2
          go_region_held3 (fun w' => w'.cell? ⟨wr.heap.size, 0, none⟩ = some (.int .i64 xn.op) ∧ w'.cell? ⟨wr.heap.size, 1, none⟩ = some (.int .i64 xn.width) ∧ w'.cell? ⟨wr.heap.size, 2, none⟩ = some (.int .u64 xn.val) ∧ w'.cell? ⟨wr.heap.size, 3, none⟩ = some (.string xn.name) ∧ w'.cell? ⟨wr.heap.size, 4, none⟩ = some (.slice ax xn.args.length cx)) (go_keep)
            (first
              | (go_at_call 28; have X := refDel_none _ _ _ _ _ _ _ r P4.out.tr xn _ R4.out.arg (by omega) HRL.out HGR.out; (with_reducible refine X.mono ?_); clear X; rintro e w5 ⟨rfl, hf⟩; have P5 := hid (P4.out.step hf); have R5 := hid (R4.out.step hf); clear hf b0 b1 b2 b3 b4 bf bl; obtain ⟨b0, b1, b2, b3, b4, bf, bl⟩ := five_of R5.out.box)
              | (go_at_call 27; have X := del_none _ _ _ bt bm l P3.out.drew.th xn _ R2.out.arg HOK.out HSM.out P3.out.drew.tb HG.out; (with_reducible refine X.mono ?_); clear X; rintro e w4 ⟨rfl, hf⟩; have P4 := hid (P3.out.drew.step hf); have R4 := hid ((R2.out.step (Fr.refl NoB _).drew).step hf); have hbl4 := hid (Nat.lt_of_lt_of_le hbl2 hf.size); clear hf b0 b1 b2 b3 b4 bf bl; obtain ⟨b0, b1, b2, b3, b4, bf, bl⟩ := five_of R4.out.box))
          all_goals
            have hl2 : List.length l ≤ k + 1 := by omega
            clear b0 b1 b2 b3 b4 bf bl
            obtain ⟨l2, r2, vn2, vi2, hl3, P5⟩ : ∃ l2 r2 vn2 vi2, List.length l2 ≤ k + 1 ∧ Hid (PlayS w bt bm w1.heap.size (w1.heap.size + 1) l2 r2 vn2 vi2 _) := ⟨_, _, _, _, hl2, P5⟩
            clear hl2
            obtain ⟨b0, b1, b2, b3, b4, bf, bl⟩ := five_of R5.out.box
            go_wp2_with fail
            refine (get_any _ _ _ bt bm _ P5.out.th xn _ R5.out.arg HOK.out HSM.out P5.out.tb).mono ?_
            rintro e w6 ⟨rfl, hf⟩
            have P6 := hid (P5.out.step hf)
            have R6 := hid (R5.out.step hf)
            clear hf b0 b1 b2 b3 b4 bf bl
            obtain ⟨b0, b1, b2, b3, b4, bf, bl⟩ := five_of R6.out.box
            go_wp2_with fail
            refine (refGet_any _ _ _ _ _ _ _ _ P6.out.tr xn _ R6.out.arg (by omega) (by have := P6.out.len; omega)).mono ?_
            rintro e w7 ⟨rfl, hf⟩
            have P7 := hid (P6.out.step hf)
            clear hf b0 b1 b2 b3 b4 bf bl P6 R6 R5 P5
            rw [(P7.out.gets xn).1, (P7.out.gets xn).2]
            generalize ((tget l2 xn).elim 0 (·.id) : Int) = z
            generalize (tget l2 xn).isSome = bz
            obtain ⟨pn, qn, hvn⟩ := P7.out.tr.nodes.form
            rw [List.length_map] at hvn
            subst hvn
            have hcell : w7.cell? ⟨w1.heap.size, 0, none⟩ = some (.slice pn _ qn) := (two_of P7.out.tr.head).1
            have hll := P7.out.len
            have hq := neqSelf (show ((List.length l2 : Nat) : Int) = ((List.length r2 : Nat) : Int) by omega)
            have HLL := hid hll
            clear hll
            go_wp2
            go_region_held3 (fun w' => w'.cell? ⟨w1.heap.size, 0, none⟩ = some (.slice pn (List.length r2) qn)) (go_keep)
              (first
                | (go_at_call 32; have X := sameAll_eq NoB NoB _ _ _ _ _ HO8.out P8.out.rdN (P8.out.same HP8.out (HW8.out.imp (fun {a b} h => by omega))) HS8.out HL8.out; (with_reducible refine X.mono ?_); clear X; rintro e w9 ⟨rfl, hf⟩; have P9 := hid (P8.out.step hf); clear hf; have hcell : w9.cell? ⟨w1.heap.size, 0, none⟩ = some (.slice pn (List.length r2) qn) := (two_of P9.out.tr.head).1)
                | (go_at_call 33; have X := nodes_any _ _ bt bm _ P7.out.drew.th (by omega) P7.out.drew.small; (with_reducible refine X.mono ?_); clear X; rintro e w8 ⟨v8, L8, rfl, ho8, hp8, hw8, hf⟩; have P8 := hid (P7.out.drew.step hf); have HO8 := hid ho8.rdN; have HP8 := hid hp8; have HW8 := hid hw8; have HS8 := hid (fun x hx => P8.out.smallL hp8 x hx); have HL8 : Hid (L8.length ≤ 1000000) := (by have := hp8.length_eq; simp only [List.length_map] at this; show _ ≤ _; omega); clear hf ho8 hp8 hw8; have hcell : w8.cell? ⟨w1.heap.size, 0, none⟩ = some (.slice pn (List.length r2) qn) := (two_of P8.out.tr.head).1)
                | (go_at_call 31; have X := len_any _ _ bt bm _ P7.out.drew.th; (with_reducible refine X.mono ?_); clear X; rintro e w9 ⟨rfl, h9⟩; have h9 := h9.symm; subst h9))
            all_goals
              go_wp2
              go_roundw
              case rel => exact ⟨k + 1, _, _, _, _, by omega, by go_num, by omega, P9.out⟩
              case measure => simp [intOf]; omega
        | some y =>
          have HG := hid hg
          clear hg
          have hgr : ∃ y', tget r xn = some y' := by
            have := P3.out.kget xn
            rw [HG.out] at this
            cases h : tget r xn with
            | none => rw [h] at this; cases this
            | some y' => exact ⟨y', rfl⟩
          obtain ⟨y', hgr⟩ := hgr
          have HGR := hid hgr
          clear hgr
          go_wp2
          go_region_held3 (fun w' => w'.cell? ⟨wr.heap.size, 0, none⟩ = some (.int .i64 xn.op) ∧ w'.cell? ⟨wr.heap.size, 1, none⟩ = some (.int .i64 xn.width) ∧ w'.cell? ⟨wr.heap.size, 2, none⟩ = some (.int .u64 xn.val) ∧ w'.cell? ⟨wr.heap.size, 3, none⟩ = some (.string xn.name) ∧ w'.cell? ⟨wr.heap.size, 4, none⟩ = some (.slice ax xn.args.length cx)) (go_keep)
            (first
              | (go_at_call 28; have X := refDel_some _ _ _ _ _ _ _ r M4.out.tr xn _ R4.out.arg (by omega) HRL.out HGR.out M4.out.hM M4.out.hB; (with_reducible refine X.mono ?_); clear X; rintro e w5 ⟨rfl, vn', vi', htr5, hf⟩; have P5 := hid (M4.out.done htr5 hf (perm_tdel P3.out.perm) (smallDel P3.out.small)); have R5 := hid (R4.out.fr hf (fun _ h => .inr h)); clear hf htr5 b0 b1 b2 b3 b4 bf bl; obtain ⟨b0, b1, b2, b3, b4, bf, bl⟩ := five_of R5.out.box)
              | (go_at_call 27; have X := del_some _ _ _ bt bm l P3.out.drew.th xn _ R2.out.arg HOK.out HSM.out P3.out.drew.tb y HG.out (.inl rfl) P3.out.nums.2.2.2.1; (with_reducible refine X.mono ?_); clear X; rintro e w4 ⟨rfl, hth4, hf⟩; have M4 : Hid (MidP w bt bm w1.heap.size (w1.heap.size + 1) l (tdel l xn) r vn vi w4) := ⟨⟨_, P3.out.drew, hf⟩, hth4⟩; have R4 := hid ((R2.out.step (Fr.refl NoB _).drew).fr hf (fun _ h => .inl h)); clear hf hth4 b0 b1 b2 b3 b4 bf bl; obtain ⟨b0, b1, b2, b3, b4, bf, bl⟩ := five_of R4.out.box))
          all_goals
            have hl2 : List.length (tdel l xn) ≤ k + 1 := by have := List.length_filter_le (fun x : TEnt => decide (nodeCmp x.node xn ≠ 0)) l; unfold tdel; omega
            clear b0 b1 b2 b3 b4 bf bl
            obtain ⟨l2, r2, vn2, vi2, hl3, P5⟩ : ∃ l2 r2 vn2 vi2, List.length l2 ≤ k + 1 ∧ Hid (PlayS w bt bm w1.heap.size (w1.heap.size + 1) l2 r2 vn2 vi2 _) := ⟨_, _, _, _, hl2, P5⟩
            clear hl2
            obtain ⟨b0, b1, b2, b3, b4, bf, bl⟩ := five_of R5.out.box
            go_wp2_with fail
            refine (get_any _ _ _ bt bm _ P5.out.th xn _ R5.out.arg HOK.out HSM.out P5.out.tb).mono ?_
            rintro e w6 ⟨rfl, hf⟩
            have P6 := hid (P5.out.step hf)
            have R6 := hid (R5.out.step hf)
            clear hf b0 b1 b2 b3 b4 bf bl
            obtain ⟨b0, b1, b2, b3, b4, bf, bl⟩ := five_of R6.out.box
            go_wp2_with fail
            refine (refGet_any _ _ _ _ _ _ _ _ P6.out.tr xn _ R6.out.arg (by omega) (by have := P6.out.len; omega)).mono ?_
            rintro e w7 ⟨rfl, hf⟩
            have P7 := hid (P6.out.step hf)
            clear hf b0 b1 b2 b3 b4 bf bl P6 R6 R5 P5
            rw [(P7.out.gets xn).1, (P7.out.gets xn).2]
            generalize ((tget l2 xn).elim 0 (·.id) : Int) = z
            generalize (tget l2 xn).isSome = bz
            obtain ⟨pn, qn, hvn⟩ := P7.out.tr.nodes.form
            rw [List.length_map] at hvn
            subst hvn
            have hcell : w7.cell? ⟨w1.heap.size, 0, none⟩ = some (.slice pn _ qn) := (two_of P7.out.tr.head).1
            have hll := P7.out.len
            have hq := neqSelf (show ((List.length l2 : Nat) : Int) = ((List.length r2 : Nat) : Int) by omega)
            have HLL := hid hll
            clear hll
            go_wp2
            go_region_held3 (fun w' => w'.cell? ⟨w1.heap.size, 0, none⟩ = some (.slice pn (List.length r2) qn)) (go_keep)
              (first
                | (go_at_call 32; have X := sameAll_eq NoB NoB _ _ _ _ _ HO8.out P8.out.rdN (P8.out.same HP8.out (HW8.out.imp (fun {a b} h => by omega))) HS8.out HL8.out; (with_reducible refine X.mono ?_); clear X; rintro e w9 ⟨rfl, hf⟩; have P9 := hid (P8.out.step hf); clear hf; have hcell : w9.cell? ⟨w1.heap.size, 0, none⟩ = some (.slice pn (List.length r2) qn) := (two_of P9.out.tr.head).1)
                | (go_at_call 33; have X := nodes_any _ _ bt bm _ P7.out.drew.th (by omega) P7.out.drew.small; (with_reducible refine X.mono ?_); clear X; rintro e w8 ⟨v8, L8, rfl, ho8, hp8, hw8, hf⟩; have P8 := hid (P7.out.drew.step hf); have HO8 := hid ho8.rdN; have HP8 := hid hp8; have HW8 := hid hw8; have HS8 := hid (fun x hx => P8.out.smallL hp8 x hx); have HL8 : Hid (L8.length ≤ 1000000) := (by have := hp8.length_eq; simp only [List.length_map] at this; show _ ≤ _; omega); clear hf ho8 hp8 hw8; have hcell : w8.cell? ⟨w1.heap.size, 0, none⟩ = some (.slice pn (List.length r2) qn) := (two_of P8.out.tr.head).1)
                | (go_at_call 31; have X := len_any _ _ bt bm _ P7.out.drew.th; (with_reducible refine X.mono ?_); clear X; rintro e w9 ⟨rfl, h9⟩; have h9 := h9.symm; subst h9))
            all_goals
              go_wp2
              go_roundw
              case rel => exact ⟨k + 1, _, _, _, _, by omega, by go_num, by omega, P9.out⟩
              case measure => simp [intOf]; omega
      have kb0 : (xk == 0) = false := by simpa using k0
      have kb1 : (xk == 1) = false := by simpa using k1
      have hl2 : List.length l ≤ k + 1 := by omega
      have P5 := hid P3.out
      have R5 := hid R2.out
      clear k0 k1 P3 R2 b0 b1 b2 b3 b4 bf bl
      obtain ⟨l2, r2, vn2, vi2, hl3, P5⟩ : ∃ l2 r2 vn2 vi2, List.length l2 ≤ k + 1 ∧ Hid (PlayS w bt bm w1.heap.size (w1.heap.size + 1) l2 r2 vn2 vi2 _) := ⟨_, _, _, _, hl2, P5⟩
      clear hl2
      obtain ⟨b0, b1, b2, b3, b4, bf, bl⟩ := five_of R5.out.box
      go_wp2_with fail
      refine (get_any _ _ _ bt bm _ P5.out.th xn _ R5.out.arg HOK.out HSM.out P5.out.tb).mono ?_
      rintro e w6 ⟨rfl, hf⟩
      have P6 := hid (P5.out.step hf)
      have R6 := hid (R5.out.step hf)
      clear hf b0 b1 b2 b3 b4 bf bl
      obtain ⟨b0, b1, b2, b3, b4, bf, bl⟩ := five_of R6.out.box
      go_wp2_with fail
      refine (refGet_any _ _ _ _ _ _ _ _ P6.out.tr xn _ R6.out.arg (by omega) (by have := P6.out.len; omega)).mono ?_
      rintro e w7 ⟨rfl, hf⟩
      have P7 := hid (P6.out.step hf)
      clear hf b0 b1 b2 b3 b4 bf bl P6 R6 R5 P5
      rw [(P7.out.gets xn).1, (P7.out.gets xn).2]
      generalize ((tget l2 xn).elim 0 (·.id) : Int) = z
      generalize (tget l2 xn).isSome = bz
      obtain ⟨pn, qn, hvn⟩ := P7.out.tr.nodes.form
      rw [List.length_map] at hvn
      subst hvn
      have hcell : w7.cell? ⟨w1.heap.size, 0, none⟩ = some (.slice pn _ qn) := (two_of P7.out.tr.head).1
      have hll := P7.out.len
      have hq := neqSelf (show ((List.length l2 : Nat) : Int) = ((List.length r2 : Nat) : Int) by omega)
      have HLL := hid hll
      clear hll
      go_wp2
      go_region_held3 (fun w' => w'.cell? ⟨w1.heap.size, 0, none⟩ = some (.slice pn (List.length r2) qn)) (go_keep)
        (first
          | (go_at_call 32; have X := sameAll_eq NoB NoB _ _ _ _ _ HO8.out P8.out.rdN (P8.out.same HP8.out (HW8.out.imp (fun {a b} h => by omega))) HS8.out HL8.out; (with_reducible refine X.mono ?_); clear X; rintro e w9 ⟨rfl, hf⟩; have P9 := hid (P8.out.step hf); clear hf; have hcell : w9.cell? ⟨w1.heap.size, 0, none⟩ = some (.slice pn (List.length r2) qn) := (two_of P9.out.tr.head).1)
          | (go_at_call 33; have X := nodes_any _ _ bt bm _ P7.out.drew.th (by omega) P7.out.drew.small; (with_reducible refine X.mono ?_); clear X; rintro e w8 ⟨v8, L8, rfl, ho8, hp8, hw8, hf⟩; have P8 := hid (P7.out.drew.step hf); have HO8 := hid ho8.rdN; have HP8 := hid hp8; have HW8 := hid hw8; have HS8 := hid (fun x hx => P8.out.smallL hp8 x hx); have HL8 : Hid (L8.length ≤ 1000000) := (by have := hp8.length_eq; simp only [List.length_map] at this; show _ ≤ _; omega); clear hf ho8 hp8 hw8; have hcell : w8.cell? ⟨w1.heap.size, 0, none⟩ = some (.slice pn (List.length r2) qn) := (two_of P8.out.tr.head).1)
          | (go_at_call 31; have X := len_any _ _ bt bm _ P7.out.drew.th; (with_reducible refine X.mono ?_); clear X; rintro e w9 ⟨rfl, h9⟩; have h9 := h9.symm; subst h9))
      all_goals
        go_wp2
        go_roundw
        case rel => exact ⟨k + 1, _, _, _, _, by omega, by go_num, by omega, P9.out⟩
        case measure => simp [intOf]; omega
    · go_wp2_with fail
      refine (live_any _ P1.out.tb).mono ?_
      rintro e w3 ⟨rfl, hf⟩
      go_wp2
      go_ret
      exact ⟨rfl, P1.out.fr.step hf⟩

-- ROW
/-- What the walk gives, for every argument and every world that holds the tables. -/
theorem contract (H : Type) (enc : TypeId × Value → H) (W : World) (base : Nat) (args : Array Value) (ds gs : List (DataW H)) (before : List MemPlace)
    (hval : ∀ (j : Nat) t v, Tryd.f8.params[j]? = some t → args[j]? = some v → Value.okWide Tryd.prog W .any base t v)
    (hW : DataW.Whole enc Tryd.prog Tryd.f8.params.toList Rows.hashconsPlaysSpec.vars false W args.toList ds gs before) (hL : laidMetH Tryd.prog Rows.hashconsPlaysRow.laid W) :
    Calls Tryd.prog 8 args W fun e W' => ∃ v, e = .returned v ∧ Rows.hashconsPlaysSpec.post enc Tryd.prog Tryd.f8 false true false false W args v W' := by
  have hW' := hW
  obtain ⟨p, q, hA0, hV, rfl, hfz, hnd⟩ := hW
  have hA : DataW.TrodAll enc Tryd.prog W 0 (fun _ => true) true Tryd.f8.params.toList args.toList ds p := hA0
  rw [Tryd.params8] at hA hval
  obtain ⟨v0, vs0, d0, ds0, p0, q0, hargs, rfl, rfl, h0, r0⟩ := trodAll_cons hA
  obtain ⟨rfl, rfl, rfl⟩ := trodAll_nil r0
  obtain rfl : args = #[v0] := by cases args; simp_all
  obtain ⟨rfl, rfl⟩ := trodVars_none hV
  have lt0 : ∀ x ∈ p0, x.block < W.heap.size := by obtain ⟨m, hm⟩ := h0; exact DataW.trod_lt m _ _ _ hm
  have k0 := h0
  have hv0 := hval 0 39 v0 rfl rfl
  obtain ⟨m0, hm0⟩ := h0
  obtain ⟨a2, n2, c2, rfl⟩ := okWide_slice Tryd.underlying39 hv0
  obtain ⟨l0, rl0, ln0, lo0⟩ := open_acts hm0 (fun k => W.heap.size ≤ k) (fun k hk => by omega)
  clear hA0
  have htab := tab_of_laid hL
  refine (walk l0 _ W rl0 lo0 ln0 htab).mono fun e W' ⟨he, hf⟩ => ?_
  subst he
  have bel := hf.below
  exact ⟨_, rfl, _, _, _, [], _, [], hW', trodAll_mk1 (shut_bool Tryd.underlying4 _), (trodAll_cons_mk (Below.trod laidOut (by kernel_rfl) (of_decide_eq_true (by kernel_rfl)) k0 bel lt0) trodAll_mk0), rfl, bel.frame _, fun h => by cases h⟩

theorem laid_met (os : Os) : laidMet Tryd.prog Rows.hashconsPlaysRow.laid ((laidWorld os).forCall (fun _ _ => 0) ⟨#[], #[.slice none 0 0], []⟩).memory :=
  laidMet_of_run' 8 (by kernel_rfl) (by kernel_rfl)
theorem reads (os : Os) {H : Type} (enc : TypeId × Value → H) : ∃ places, DataW.whole enc Tryd.prog ((laidWorld os).forCall (fun _ _ => 0) ⟨#[], #[.slice none 0 0], []⟩).memory Tryd.f8.params.toList Rows.hashconsPlaysSpec.vars false #[.slice none 0 0].toList 8 = some ([.nil], [], places) :=
  ⟨[], by kernel_rfl⟩

set_option maxRecDepth 100000 in
theorem lifted (os : Os) (started : os.Started) (H : Type) (enc : TypeId × Value → H) (F : Stop.Interp) :
    ReturnsInHanded {} Tryd.checked os 8 .any ((OpenSpec.ofChange Rows.hashconsPlaysSpec).preRow enc Tryd.prog Tryd.f8 Rows.hashconsPlaysRow.domain false Rows.hashconsPlaysRow.laid) (((OpenSpec.ofChange Rows.hashconsPlaysSpec).at F).post enc Tryd.prog Tryd.f8 false true false false) := by
  obtain ⟨places, hx⟩ := reads os enc
  refine returnsInHanded_of_row (C := Tryd.checked) (s := OpenSpec.ofChange Rows.hashconsPlaysSpec) own started (by kernel_rfl) Tryd.func8
    (witness_row_at (enc := enc) (C := Tryd.checked) false (laidWorld os) #[.slice none 0 0] rfl (by kernel_rfl) (by kernel_rfl) (by kernel_rfl)
      (OpenSpec.preRow_of_cond 8 hx (by kernel_rfl) (fun k hk => by cases hk) (by kernel_rfl) (laid_met os))) ?_
  intro W base args ds gs before hval hW _ hcond _ hL _ _
  exact contract H enc W base args ds gs before hval hW hL

theorem said : Rows.HashconsPlaysSaid :=
  OpenClaim.holds_of_cond 8 Tryd.f8 rfl rfl rfl rfl rfl rfl rfl ⟨rfl, rfl, rfl, rfl, rfl⟩ rfl rfl rfl rfl rfl (by kernel_rfl) Tryd.func8 (by kernel_rfl)
    (of_decide_eq_true (by kernel_rfl)) (by unfold Func.isWrapper; first | (rw [if_pos (by decide +kernel)]; kernel_rfl) | (rw [if_neg (by decide +kernel)]; exact ⟨rfl, rfl⟩))
    (fun os started H enc _ F => by rw [OpenClaim.pre_eq_preRow]; exact lifted os started H enc F)

theorem plain (f : FuncId) (fn : Func) (hf : Tryd.pinned.checked.prog.funcNamed "saturate/saturatelaw16.HashconsPlays" = some f) (hfn : Tryd.pinned.checked.prog.funcs[f]? = some fn) :
    false = Tryd.pinned.checked.prog.looks [] ∧ ∀ (j : Nat) t, fn.params[j]? = some t → Tryd.pinned.checked.prog.wantsStandIn t = false := by
  obtain rfl : f = 8 := Option.some.inj ((show Tryd.prog.funcNamed "saturate/saturatelaw16.HashconsPlays" = some 8 by kernel_rfl).symm.trans hf) |>.symm
  obtain rfl : fn = Tryd.f8 := (Option.some.inj (Tryd.func8.symm.trans hfn)).symm
  refine ⟨by kernel_rfl, fun j t ht => ?_⟩
  rw [Tryd.params8] at ht
  have hm : t ∈ [39] := by have := Array.mem_of_getElem? ht; simpa using this
  have q0 : Tryd.prog.wantsStandIn 39 = false := by kernel_rfl
  simp only [List.mem_cons, List.not_mem_nil, or_false] at hm
  rcases hm with rfl
  · exact q0

theorem card : Rows.HashconsPlaysCardSaid :=
  Claim7.holds_tied_plain_at .later [] _ _ _ _ said (fun _ h => by cases h) (by kernel_rfl) (fun _ h => by cases h) hashconsPlays_row_tie rfl ⟨rfl, rfl⟩ (by kernel_rfl) rfl plain (by kernel_rfl)
#print axioms card

end Go.Proofs.YtkifedleajacpaaDoor.LawPlays
