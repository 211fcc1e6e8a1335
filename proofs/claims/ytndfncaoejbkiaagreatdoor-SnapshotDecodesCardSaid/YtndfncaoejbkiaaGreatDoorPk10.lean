import Derived.Test.YtndfncaoejbkiaaGreatDoorPk1
import Derived.Test.YtndfncaoejbkiaaGreatDoorPk7
import Derived.Test.YtndfncaoejbkiaaGreatDoorPk8
import Derived.Test.YtndfncaoejbkiaaGreatDoorPk9
set_option linter.all false
section
/- A row of rows of ints (Roots2's next), and the state of Roots2. -/
namespace Go.Proofs.YtndfncaoejbkiaaGreatDoor
open Go.RowKit
set_option maxRecDepth 100000

theorem infoRow : (Tryz.prog.info? 24).map (fun i => (i.zero, i.size, i.bytes)) = some (some (.slice none 0 0), 1, 24) := by kernel_rfl
theorem make_rows (w : World) (n : Nat) (hn : n ≤ 1000000) : (Instr.makeSlice 82 (.int .i64 n) (.int .i64 n)).run Tryz.prog w = .ok (.slice (some ⟨w.heap.size, 0, none⟩) n n) (w.alloc (.cells (Array.replicate n (.slice none 0 0)) 24)) := by
  obtain ⟨i0, hi, hz0, hz1, hz2⟩ := info_parts infoRow
  have h := run_make (P := Tryz.prog) w 82 24 i0 (.slice none 0 0) Tryz.underlying82 hi hz0 .i64 .i64 n n (by omega) (Int.le_refl _) (by rw [hz2]; omega) (by omega)
  simp only [Int.toNat_natCast] at h
  rw [h, hz1, Nat.mul_one]
  have e : madeCells (Value.slice none 0 0).cells n = Array.replicate n (.slice none 0 0) := by
    apply Array.ext'
    rw [show (Value.slice none 0 0).cells = #[.slice none 0 0] from rfl, toList_madeCells_one]
    simp
  rw [e]
/-- The row at g holds n rows of ints, their blocks in N and apart. -/
structure NextAt (N : Nat → Prop) (w : World) (g n : Nat) (nl : Int → List Int) (sv : Nat → Value) : Prop where
  hd : w.heap[g]? = some (.cells ((List.range n).map sv).toArray 24 (0, 0))
  own : ∀ k, k < n → OwnI 0 w (sv k) (nl k) ∧ ∀ b, (sv k).ownBlock = some b → N b
  apart : ∀ k k', k < n → k' < n → k ≠ k' → ∀ b, (sv k).ownBlock = some b → (sv k').ownBlock ≠ some b
def NextIs (N : Nat → Prop) (w : World) (g n : Nat) (nl : Int → List Int) : Prop := ∃ sv, NextAt N w g n nl sv
section
variable {N M : Nat → Prop} {w w' : World} {g n : Nat} {nl : Int → List Int}
theorem NextIs.init {N : Nat → Prop} {w : World} {g n : Nat} (h : w.heap[g]? = some (.cells (Array.replicate n (.slice none 0 0)) 24 (0, 0))) : NextIs N w g n (fun _ => []) := by
  refine ⟨fun _ => .slice none 0 0, ?_, fun k _ => ⟨OwnI.nil 0 w, fun b hb => by cases hb⟩, fun k k' _ _ _ b hb => by cases hb⟩
  rw [h]
  congr 1
  congr 1
  apply Array.ext'
  show _ = (List.range n).map (fun _ => _)
  rw [List.map_const', Array.toList_replicate, List.length_range]
theorem NextIs.fr (h : NextIs N w g n nl) (hf : Fr M w w') (hg : ¬ M g) (hm : ∀ k, N k → ¬ M k) : NextIs N w' g n nl := by
  obtain ⟨sv, h1, h2, h3⟩ := h
  exact ⟨sv, hf.at hg h1, fun k hk => ⟨(h2 k hk).1.fr hf (fun b hb => hm b ((h2 k hk).2 b hb)), (h2 k hk).2⟩, h3⟩
theorem NextIs.mono {N' : Nat → Prop} (h : NextIs N w g n nl) (hm : ∀ k, k < w.heap.size → N k → N' k) : NextIs N' w g n nl := by
  obtain ⟨sv, h1, h2, h3⟩ := h
  exact ⟨sv, h1, fun k hk => ⟨(h2 k hk).1, fun b hb => hm b (World.ownsRow.lt (h2 k hk).1 b hb).2 ((h2 k hk).2 b hb)⟩, h3⟩
theorem NextIs.look (h : NextIs N w g n nl) {x : Int} (x0 : 0 ≤ x) (x1 : x < n) :
    ∃ p c, w.cell? ⟨g, x.toNat, none⟩ = some (.slice p (nl x).length c) ∧ OwnI 0 w (.slice p (nl x).length c) (nl x) ∧ (∀ b, (Value.slice p (nl x).length c).ownBlock = some b → N b ∧ b ≠ g) ∧
      ∀ (w1 : World) (v' : Value) (l' : List Int), Fr (fun b => (Value.slice p (nl x).length c).ownBlock = some b) w w1 → OwnI 0 w1 v' l' → (v'.ownBlock = (Value.slice p (nl x).length c).ownBlock ∨ ∃ q, v'.ownBlock = some q ∧ w.heap.size ≤ q) →
        w1.frozen? ⟨g, x.toNat, none⟩ = false ∧ NextIs (fun k => N k ∨ w.heap.size ≤ k) (w1.setCell ⟨g, x.toNat, none⟩ v') g n (fun k => if k = x then l' else nl k) := by
  obtain ⟨sv, h1, h2, h3⟩ := h
  have xn : x.toNat < n := by omega
  have xe : ((x.toNat : Nat) : Int) = x := Int.toNat_of_nonneg x0
  obtain ⟨ho, hN⟩ := h2 _ xn
  rw [xe] at ho
  have hgne : ∀ b, (sv x.toNat).ownBlock = some b → b ≠ g := fun b hb => by
    obtain ⟨cur, hc⟩ := ho.head hb
    exact ne_of_types hc h1 (by decide)
  have hcell : w.cell? ⟨g, x.toNat, none⟩ = some (sv x.toNat) := by
    unfold World.cell?
    simp only [h1]
    simp [xn]
  obtain ⟨p, c, hv⟩ := ho.form
  have key : ∀ (w1 : World) (v' : Value) (l' : List Int), Fr (fun b => (sv x.toNat).ownBlock = some b) w w1 → OwnI 0 w1 v' l' → (v'.ownBlock = (sv x.toNat).ownBlock ∨ ∃ q, v'.ownBlock = some q ∧ w.heap.size ≤ q) →
      w1.frozen? ⟨g, x.toNat, none⟩ = false ∧ NextIs (fun k => N k ∨ w.heap.size ≤ k) (w1.setCell ⟨g, x.toNat, none⟩ v') g n (fun k => if k = x then l' else nl k) := by
    intro w1 v' l' hf hown hb
    have hd1 := hf.at (fun e => hgne g e rfl) h1
    have f2 : Fr (fun q => q = g) w1 (w1.setCell ⟨g, x.toNat, none⟩ v') := (Fr.refl (fun q => q = g) w1).setCell (p := ⟨g, x.toNat, none⟩) (fun _ => rfl) _
    refine ⟨by unfold World.frozen?; simp [hd1], fun k => if k = x.toNat then v' else sv k, ?_, fun k hk => ?_, fun k k' hk hk' hne b hbk hbk' => ?_⟩
    · rw [set_at hd1 x.toNat v']
      congr 1
      congr 1
      apply Array.ext'
      rw [List.setIfInBounds_toArray]
      show ((List.range n).map sv).set x.toNat v' = (List.range n).map _
      apply List.ext_getElem (by simp)
      intro j hj hj'
      rw [List.getElem_set]
      simp only [List.getElem_map, List.getElem_range]
      by_cases e : x.toNat = j
      · rw [if_pos e, if_pos e.symm]
      · rw [if_neg e, if_neg (fun h => e h.symm)]
    · by_cases e : k = x.toNat
      · subst e
        rw [if_pos rfl, xe, if_pos rfl]
        refine ⟨hown.fr f2 (fun b hb9 e9 => ?_), fun b hb9 => ?_⟩
        · obtain ⟨cur, hc⟩ := hown.head hb9
          exact ne_of_types hc hd1 (by decide) e9
        · rcases hb with hb | ⟨q, hb, hq⟩
          · exact .inl (hN b (by rw [← hb]; exact hb9))
          · rw [hb] at hb9; cases hb9; exact .inr hq
      · rw [if_neg e, if_neg (fun h => e (by omega))]
        obtain ⟨ok, nk⟩ := h2 k hk
        have o1 := ok.fr hf (fun b hb9 e9 => h3 k x.toNat hk xn e b hb9 e9)
        refine ⟨o1.fr f2 (fun b hb9 e9 => ?_), fun b hb9 => .inl (nk b hb9)⟩
        obtain ⟨cur, hc⟩ := o1.head hb9
        exact ne_of_types hc hd1 (by decide) e9
    · by_cases e : k = x.toNat
      · rw [if_pos e] at hbk
        rw [if_neg (fun h => hne (e.trans h.symm))] at hbk'
        rcases hb with hb | ⟨q, hb, hq⟩
        · exact h3 x.toNat k' xn hk' (fun h => hne (e.trans h)) b (by rw [← hb]; exact hbk) hbk'
        · rw [hb] at hbk; cases hbk
          have := (World.ownsRow.lt (h2 k' hk').1 _ hbk').2
          omega
      · rw [if_neg e] at hbk
        by_cases e' : k' = x.toNat
        · rw [if_pos e'] at hbk'
          rcases hb with hb | ⟨q, hb, hq⟩
          · exact h3 k x.toNat hk xn e b hbk (by rw [← hb]; exact hbk')
          · rw [hb] at hbk'; cases hbk'
            have := (World.ownsRow.lt (h2 k hk).1 _ hbk).2
            omega
        · rw [if_neg e'] at hbk'
          exact h3 k k' hk hk' hne b hbk hbk'
  rw [hv] at hcell ho hN hgne key
  exact ⟨p, c, hcell, ho, fun b hb => ⟨hN b hb, hgne b hb⟩, key⟩
end

/-- The state of Roots2. -/
structure RtS (w : World) (sN sL sR : Value) (d : Dmp) (nl : Int → List Int) (hi : Nat) (W : World) : Prop where
  fr : Fr NoB w W
  rd : RdD (fun q => w.heap.size ≤ q) W sN sL sR d
  box : W.heap[w.heap.size]? = some (.cells (dumpCells sN sL sR) 26 (0, 0))
  nx : NextIs (fun b => w.heap.size + 1 < b ∧ b < hi) W (w.heap.size + 1) d.nodes.length nl
  le : w.heap.size + 2 ≤ W.heap.size
section
variable {w : World} {sN sL sR : Value} {d : Dmp} {nl : Int → List Int} {hi : Nat} {W W' : World}
theorem RtS.start (hd : RdD NoB w sN sL sR d) : RtS w sN sL sR d (fun _ => []) 0 ((w.alloc (.cells (dumpCells sN sL sR) 26)).alloc (.cells (Array.replicate d.nodes.length (.slice none 0 0)) 24)) := by
  have f := ((Fr.refl NoB w).alloc (.cells (dumpCells sN sL sR) 26)).alloc (.cells (Array.replicate d.nodes.length (.slice none 0 0)) 24)
  have f1 := (Fr.refl NoB (w.alloc (.cells (dumpCells sN sL sR) 26))).alloc (.cells (Array.replicate d.nodes.length (.slice none 0 0)) 24)
  exact ⟨f, (hd.more.weaken (fun k _ h => .inr h)).step f, f1.at (fun h => h) (at_new w _), NextIs.init (at_new' (by simp)), by simp only [World.size_alloc]; omega⟩
theorem RtS.grow (h : RtS w sN sL sR d nl hi W) (hf : Fr NoB W W') : RtS w sN sL sR d nl hi W' :=
  ⟨h.fr.step hf, h.rd.step hf, hf.at (fun h => h) h.box, h.nx.fr hf (fun h => h) (fun _ _ h => h), by have := hf.size; have := h.le; omega⟩
theorem RtS.more (h : RtS w sN sL sR d nl hi W) {hi' : Nat} (hh : W.heap.size ≤ hi') : RtS w sN sL sR d nl hi' W :=
  ⟨h.fr, h.rd, h.box, h.nx.mono (fun k hk hN => ⟨hN.1, by omega⟩), h.le⟩
theorem RtS.turn (h : RtS w sN sL sR d nl hi W) (hw : w.heap.size + 2 ≤ hi) (hf : Fr (fun q => hi ≤ q) W W') : RtS w sN sL sR d nl hi W' :=
  ⟨h.fr.trans' hf (fun k hk e => by omega), h.rd.fr hf (fun k _ hk => by omega), hf.at (by omega) h.box, h.nx.fr hf (by omega) (fun k hk e => by omega), by have := hf.size; have := h.le; omega⟩
theorem RtS.look (h : RtS w sN sL sR d nl hi W) {x : Int} (x0 : 0 ≤ x) (x1 : x < d.nodes.length) :
    ∃ p c, W.cell? ⟨w.heap.size + 1, x.toNat, none⟩ = some (.slice p (nl x).length c) ∧ OwnI 0 W (.slice p (nl x).length c) (nl x) ∧ (∀ b, (Value.slice p (nl x).length c).ownBlock = some b → w.heap.size + 1 < b ∧ b < hi) ∧
      ∀ (w1 : World) (v' : Value) (l' : List Int), Fr (fun b => (Value.slice p (nl x).length c).ownBlock = some b) W w1 → OwnI 0 w1 v' l' → (v'.ownBlock = (Value.slice p (nl x).length c).ownBlock ∨ ∃ q, v'.ownBlock = some q ∧ W.heap.size ≤ q) →
        w1.frozen? ⟨w.heap.size + 1, x.toNat, none⟩ = false ∧ RtS w sN sL sR d (fun k => if k = x then l' else nl k) w1.heap.size (w1.setCell ⟨w.heap.size + 1, x.toNat, none⟩ v') := by
  obtain ⟨p, c, h1, h2, h3, h4⟩ := h.nx.look x0 x1
  refine ⟨p, c, h1, h2, fun b hb => (h3 b hb).1, fun w1 v' l' hf ho hb => ?_⟩
  obtain ⟨h5, h6⟩ := h4 w1 v' l' hf ho hb
  have hs := h.le
  have f2 : Fr (fun q => q = w.heap.size + 1) w1 (w1.setCell ⟨w.heap.size + 1, x.toNat, none⟩ v') := (Fr.refl (fun q => q = w.heap.size + 1) w1).setCell (p := ⟨w.heap.size + 1, x.toNat, none⟩) (fun _ => rfl) _
  have f1 : Fr (fun b => w.heap.size + 1 ≤ b) W w1 := hf.mono (fun k _ hk => by have := (h3 k hk).1.1; omega)
  have f3 : Fr (fun b => w.heap.size + 1 ≤ b) W (w1.setCell ⟨w.heap.size + 1, x.toNat, none⟩ v') := f1.trans' f2 (fun k _ e => by have : k = w.heap.size + 1 := e; omega)
  refine ⟨h5, h.fr.trans' f3 (fun k hk e => by omega), h.rd.fr f3 (fun k _ hk => by omega), f3.at (by omega) h.box, h6.mono (fun k hk hN => ?_), by have := f3.size; omega⟩
  have hk2 : k < w1.heap.size := by simpa using hk
  rcases hN with hN | hN
  · exact ⟨hN.1, hk2⟩
  · exact ⟨by omega, hk2⟩
end
theorem OwnI.pop {B : Nat} {w : World} {a : Option Addr} {n c : Nat} {l : List Int} {x : Int} (h : OwnI B w (.slice a n c) (l ++ [x])) : OwnI B w (.slice a l.length c) l := by
  obtain ⟨h1, h2⟩ := h
  refine ⟨by simp, ?_⟩
  rcases h2 with ⟨_, h2⟩ | ⟨g, cap, cur, e, hb, hg, hn, hc, hs, ht⟩
  · simp at h2
  · simp only [Value.slice.injEq] at e
    obtain ⟨rfl, rfl, rfl⟩ := e
    refine .inr ⟨g, _, cur, rfl, hb, hg, by simp at hn; omega, hc, hs, ?_⟩
    have := congrArg (List.take l.length) ht
    rw [List.take_take] at this
    simp only [List.length_append, List.length_singleton, Nat.mul_one, List.map_append, List.map_cons, List.map_nil] at this
    rw [Nat.min_eq_left (by omega), List.take_append_of_le_length (by simp)] at this
    rw [Nat.mul_one, this, List.take_of_length_le (by simp)]
/-- How many ints of the row at g are below zero. -/
def leftW (g : Nat) (w : World) : Nat := match w.heap[g]? with
  | some (.cells c _ _) => c.toList.countP (fun v => decide (intOf v < 0))
  | _ => 0
def lenOf : Value → Nat
  | .slice _ n _ => n
  | _ => 0
theorem leftW_of {w : World} {g : Nat} {l : List Int} (h : IntAt w g l) : leftW g w = l.countP (fun v => decide (v < 0)) := by
  unfold leftW
  rw [show w.heap[g]? = _ from h]
  simp only [List.countP_map]
  rfl
theorem IntAt.own {B : Nat} {w : World} {g : Nat} {l : List Int} (h : IntAt w g l) (hB : B ≤ g) (hl : l.length ≤ 1000000) : OwnI B w (.slice (some ⟨g, 0, none⟩) l.length l.length) l := by
  refine ⟨by simp, .inr ⟨g, l.length, _, rfl, hB, h, Nat.le_refl _, by unfold maxLen; omega, by simp, ?_⟩⟩
  rw [Nat.mul_one]
  exact List.take_of_length_le (by simp)
end Go.Proofs.YtndfncaoejbkiaaGreatDoor
end
section
/- The walk of Roots2. -/
namespace Go.Proofs.YtndfncaoejbkiaaGreatDoor
open Go.RowKit
set_option maxRecDepth 100000


set_option maxHeartbeats 4000000 in
theorem roots2_any (sN sL sR : Value) (d : Dmp) (w : World) (hd : RdD NoB w sN sL sR d) (hlen : d.nodes.length ≤ 1000000) (hll : d.links.length ≤ 1000000) :
    Calls Tryz.prog 93 #[dumpV sN sL sR] w fun e w' => ∃ v, e = .returned v ∧ OwnI w.heap.size w' v (lbAt d.nodes.length d.links d.links.length) ∧ Fr NoB w w' := by
  obtain ⟨p, c1, hp⟩ := hd.nodes.form
  subst hp
  obtain ⟨pl, cl, hp⟩ := hd.links.form3
  subst hp
  have S0 := hid (RtS.start hd)
  have hmk := fun w => make_rows w d.nodes.length hlen
  clear hd
  obtain ⟨d0, d1, d2, df, dl⟩ := three_of S0.out.box
  unfold dumpV
  go_enter Tryz.func93, Tryz.ntmps93
  go_wp2
  clear hmk d0 d1 d2 df dl
  go_loopw [20] (fun j wr => ∃ (k : Nat), k ≤ d.links.length ∧ j = .int .i64 k ∧ (∃ hi, RtS w (.slice p d.nodes.length c1) (.slice pl d.links.length cl) sR d (adjAt d.nodes.length d.links k) hi wr)) (fun j _ => d.links.length - (intOf j).toNat)
  case atStart => exact ⟨0, Nat.zero_le _, rfl, 0, S0.out⟩
  case round =>
    obtain ⟨k, hk, rfl, hi, hs⟩ := hrel
    have S := hid hs
    have HLE : Hid (w.heap.size + 2 ≤ wr.heap.size) := hs.le
    clear hs S0
    by_cases hlt : k < d.links.length
    · obtain ⟨b, off, rfl, _, e0, e1, e2⟩ := S.out.rd.links.lkK hlt
      have HX := hid (List.getElem?_eq_getElem hlt)
      have HAD := hid (adjAt_succ d.nodes.length d.links hlt)
      have HKK := hid (adj_len d.nodes.length d.links k hk)
      obtain ⟨x, hx⟩ : ∃ x, d.links[k] = x := ⟨_, rfl⟩
      rw [hx] at e0 e1 e2 HX HAD
      clear hx
      obtain ⟨d0, d1, d2, df, dl⟩ := three_of S.out.box
      go_wp2_with fail
      clear d0 d1 d2 df dl e0 e1 e2
      have F0 := (Fr.refl NoB wr).alloc (.cells #[.int .i64 x.a, .int .i64 x.b, .int .i64 x.why] 57)
      have S0 := hid (S.out.grow F0)
      have HB0 := hid (at_new wr (.cells #[.int .i64 x.a, .int .i64 x.b, .int .i64 x.why] 57))
      clear F0 S
      refine (inside_id_any _ _ _ p d.nodes.length c1 rfl x.a _).mono ?_
      rintro e w2 ⟨rfl, hf⟩
      have S2 := hid (S0.out.grow hf)
      have HB2 := hid (hf.at (fun h => h) HB0.out)
      clear hf S0 HB0
      by_cases hA : 0 ≤ x.a ∧ x.a < d.nodes.length
      rotate_left
      · have hq : decide (0 ≤ x.a ∧ x.a < (d.nodes.length : Int)) = false := by simpa using hA
        have hin : lbIn d.nodes.length x = false := by unfold lbIn; simp; omega
        have HV : Hid (adjAt d.nodes.length d.links (k + 1) = adjAt d.nodes.length d.links k) := by
          show _ = _
          rw [HAD.out]; unfold adjStep; rw [if_neg (by rw [hin]; decide)]
        rw [hq]
        clear hq hA hin
        go_wp2
        go_roundw
        case rel => exact ⟨k + 1, by omega, by go_num, _, by rw [HV.out]; exact S2.out⟩
        case measure => simp [intOf]; omega
      · have hq : decide (0 ≤ x.a ∧ x.a < (d.nodes.length : Int)) = true := by simpa using hA
        rw [hq]
        have HA := hid hA
        clear hq hA
        obtain ⟨d0, d1, d2, df, dl⟩ := three_of S2.out.box
        obtain ⟨y0, y1, y2, yf, yl⟩ := three_of HB2.out
        go_wp2_with fail
        clear d0 d1 d2 df dl y0 y1 y2 yf yl
        refine (inside_id_any _ _ _ p d.nodes.length c1 rfl x.b _).mono ?_
        rintro e w3 ⟨rfl, hf⟩
        have S3 := hid (S2.out.grow hf)
        have HB3 := hid (hf.at (fun h => h) HB2.out)
        clear hf S2 HB2
        by_cases hB : 0 ≤ x.b ∧ x.b < d.nodes.length
        rotate_left
        · have hq : decide (0 ≤ x.b ∧ x.b < (d.nodes.length : Int)) = false := by simpa using hB
          have hin : lbIn d.nodes.length x = false := by unfold lbIn; simp; omega
          have HV : Hid (adjAt d.nodes.length d.links (k + 1) = adjAt d.nodes.length d.links k) := by
            show _ = _
            rw [HAD.out]; unfold adjStep; rw [if_neg (by rw [hin]; decide)]
          rw [hq]
          clear hq hB hin
          go_wp2
          go_roundw
          case rel => exact ⟨k + 1, by omega, by go_num, _, by rw [HV.out]; exact S3.out⟩
          case measure => simp [intOf]; omega
        · have hq : decide (0 ≤ x.b ∧ x.b < (d.nodes.length : Int)) = true := by simpa using hB
          rw [hq]
          have HBb := hid hB
          have HIN : Hid (lbIn d.nodes.length x = true) := by
            have := HA.out
            show _ = _
            unfold lbIn; simp; omega
          clear hq hB
          obtain ⟨a0, a1⟩ := HA.out
          obtain ⟨b0, b1⟩ := HBb.out
          go_wp2
          have D3 := hid (S3.out.grow (Fr.refl NoB w3).drew)
          have E3 := hid ((Fr.refl NoB w3).drew.at (fun h => h) HB3.out)
          obtain ⟨p4, c4, cl0, ow, nb, upd⟩ := D3.out.look (x := x.a) a0 a1
          have OW := hid ow
          have UPD := hid upd
          have NB := hid nb
          have CL := hid cl0
          have HS : Hid (∀ W', Fr (fun b => (Value.slice p4 ((adjAt d.nodes.length d.links k) x.a).length c4).ownBlock = some b) w3.drew W' → W'.cell? ⟨wr.heap.size, 0, none⟩ = some (.int .i64 x.a) ∧ W'.cell? ⟨wr.heap.size, 1, none⟩ = some (.int .i64 x.b) ∧ W'.cell? ⟨w.heap.size + 1, (x.a).toNat, none⟩ = some (.slice p4 ((adjAt d.nodes.length d.links k) x.a).length c4)) := fun W' hf => by
            obtain ⟨y0, y1, _⟩ := three_of (hf.at (fun e => by obtain ⟨cur, hc⟩ := OW.out.head e; exact ne_of_types hc E3.out (by decide) rfl) E3.out)
            exact ⟨y0, y1, (hf.cell (p := ⟨w.heap.size + 1, (x.a).toNat, none⟩) (Nat.lt_of_lt_of_le (Nat.lt_succ_self _) D3.out.le) (fun e => Nat.lt_irrefl _ (NB.out _ e).1)).trans CL.out⟩
          have HKL : Hid (((adjAt d.nodes.length d.links k) x.a).length ≤ 3000000) := by have := HKK.out x.a; show _ ≤ _; omega
          obtain ⟨q1, q2, q3⟩ := HS.out w3.drew (Fr.refl _ _)
          clear cl0 ow nb upd
          refine region_eff (fun W' => (W'.cell? ⟨wr.heap.size, 0, none⟩ = some (.int .i64 x.a) ∧ W'.cell? ⟨wr.heap.size, 1, none⟩ = some (.int .i64 x.b) ∧ W'.cell? ⟨w.heap.size + 1, (x.a).toNat, none⟩ = some (.slice p4 ((adjAt d.nodes.length d.links k) x.a).length c4))) 13 [(0, 1), (1, 1), (2, 0), (3, 1), (4, 1), (5, 0), (6, 1), (7, 0), (8, 1), (9, 0), (10, 2), (11, 2), (12, 1), (13, 2)] (by kernel_rfl) (by kernel_rfl) ?_ ?_
          · exact ⟨q1, q2, q3⟩
          clear q1 q2 q3
          repeat (first | (refine eff_off (by rfl) (by rfl) ?_; (try simp only [Act.put, List.setIfInBounds_toArray, List.set_cons_zero, List.set_cons_succ])) | (refine eff_off0 (by rfl) (by rfl) ?_; (try simp only [Act.put, List.setIfInBounds_toArray, List.set_cons_zero, List.set_cons_succ])) | (refine eff_pu ?_ (by rfl) (by rfl) ?_ ?_; rotate_left; (focus (intro w'; go_simp; (try with_reducible rfl); done)); (try simp only [Act.put, List.setIfInBounds_toArray, List.set_cons_zero, List.set_cons_succ])) | (refine eff_rd ?_ (by rfl) (by rfl) ?_ ?_; rotate_left; (focus (intro w' hS; (try obtain ⟨hq1, hS⟩ := hS); (try obtain ⟨hq2, hS⟩ := hS); (try obtain ⟨hq3, hS⟩ := hS); (try obtain ⟨hq4, hS⟩ := hS); (try obtain ⟨hq5, hS⟩ := hS); (try obtain ⟨hq6, hS⟩ := hS); (try obtain ⟨hq7, hS⟩ := hS); (try obtain ⟨hq8, hS⟩ := hS); (try obtain ⟨hq9, hS⟩ := hS); (try obtain ⟨hq10, hS⟩ := hS); (try obtain ⟨hq11, hS⟩ := hS); (try obtain ⟨hq12, hS⟩ := hS); (try obtain ⟨hq13, hS⟩ := hS); (try obtain ⟨hq14, hS⟩ := hS); (try obtain ⟨hq15, hS⟩ := hS); (try obtain ⟨hq16, hS⟩ := hS); (try obtain ⟨hq17, hS⟩ := hS); (try obtain ⟨hq18, hS⟩ := hS); (try obtain ⟨hq19, hS⟩ := hS); (try dsimp only at hS); go_simp; (try with_reducible rfl); done)); (try simp only [Act.put, List.setIfInBounds_toArray, List.set_cons_zero, List.set_cons_succ])))
          refine eff_run (v := .slice (some ⟨w3.heap.size, 0, none⟩) 1 1) (W' := w3.drew.alloc (.cells #[.int .i64 x.b] 3)) (by rfl) (by rfl) (by go_simp) (fun _ => HS.out _ ((Fr.refl _ _).alloc _)) ?_
          (try simp only [Act.put, List.setIfInBounds_toArray, List.set_cons_zero, List.set_cons_succ])
          refine eff_do (by rfl) ?_
          refine ap_ints_at _ rfl _ _ rfl 0 (.slice p4 ((adjAt d.nodes.length d.links k) x.a).length c4) ((adjAt d.nodes.length d.links k) x.a) rfl (OwnI.fr OW.out ((Fr.refl NoB _).alloc _) (fun _ _ h => h)) NoB _ [x.b] rfl (rdI_lit' (l := [x.b]) rfl rfl rfl (fun h => h)) ?_ (Nat.zero_le _) ?_
          · have := HKL.out
            simp only [List.length_singleton]
            omega
          intro v6 w6 ho6 hg6 hb6
          obtain ⟨a6, c6, hv6⟩ := ho6.form
          subst hv6
          have F6 := hid (Fr.grown ((Fr.refl (fun b => (Value.slice p4 ((adjAt d.nodes.length d.links k) x.a).length c4).ownBlock = some b) w3.drew).alloc (.cells #[.int .i64 x.b] 3)) hg6 (fun k hk _ => hk))
          have U7 := hid (UPD.out w6 _ _ F6.out ho6 (hb6.imp_right (fun h => ⟨_, h, by simp only [World.size_alloc]; omega⟩)))
          have O6 := hid ho6
          refine wpList_nil ⟨rfl, fun _ => HS.out w6 F6.out, ?_⟩
          (try simp only [Act.put, List.setIfInBounds_toArray, List.set_cons_zero, List.set_cons_succ])
          clear ho6 hg6 hb6
          have fz := U7.out.1
          obtain ⟨_, _, cq⟩ := HS.out w6 F6.out
          repeat (first | (refine eff_off (by rfl) (by rfl) ?_; (try simp only [Act.put, List.setIfInBounds_toArray, List.set_cons_zero, List.set_cons_succ])) | (refine eff_off0 (by rfl) (by rfl) ?_; (try simp only [Act.put, List.setIfInBounds_toArray, List.set_cons_zero, List.set_cons_succ])) | (refine eff_pu ?_ (by rfl) (by rfl) ?_ ?_; rotate_left; (focus (intro w'; go_simp; (try with_reducible rfl); done)); (try simp only [Act.put, List.setIfInBounds_toArray, List.set_cons_zero, List.set_cons_succ])) | (refine eff_rd ?_ (by rfl) (by rfl) ?_ ?_; rotate_left; (focus (intro w' hS; (try obtain ⟨hq1, hS⟩ := hS); (try obtain ⟨hq2, hS⟩ := hS); (try obtain ⟨hq3, hS⟩ := hS); (try obtain ⟨hq4, hS⟩ := hS); (try obtain ⟨hq5, hS⟩ := hS); (try obtain ⟨hq6, hS⟩ := hS); (try obtain ⟨hq7, hS⟩ := hS); (try obtain ⟨hq8, hS⟩ := hS); (try obtain ⟨hq9, hS⟩ := hS); (try obtain ⟨hq10, hS⟩ := hS); (try obtain ⟨hq11, hS⟩ := hS); (try obtain ⟨hq12, hS⟩ := hS); (try obtain ⟨hq13, hS⟩ := hS); (try obtain ⟨hq14, hS⟩ := hS); (try obtain ⟨hq15, hS⟩ := hS); (try obtain ⟨hq16, hS⟩ := hS); (try obtain ⟨hq17, hS⟩ := hS); (try obtain ⟨hq18, hS⟩ := hS); (try obtain ⟨hq19, hS⟩ := hS); (try dsimp only at hS); go_simp; (try with_reducible rfl); done)); (try simp only [Act.put, List.setIfInBounds_toArray, List.set_cons_zero, List.set_cons_succ])))
          refine eff_skip (W' := w6.setCell ⟨w.heap.size + 1, (x.a).toNat, none⟩ (.slice a6 ((adjAt d.nodes.length d.links k) x.a ++ [x.b]).length c6)) (by rfl) (by rfl) (by go_simp) (fun h => absurd rfl h) ?_
          (try simp only [Act.put, List.setIfInBounds_toArray, List.set_cons_zero, List.set_cons_succ])
          refine eff_nil ?_
          obtain ⟨w4, hW2⟩ : ∃ w7, w6.setCell ⟨w.heap.size + 1, (x.a).toNat, none⟩ (.slice a6 ((adjAt d.nodes.length d.links k) x.a ++ [x.b]).length c6) = w7 := ⟨_, rfl⟩
          have S4 := hid U7.out.2
          have HB4 := hid (((Fr.refl (fun q => q = w.heap.size + 1) w6).setCell (p := ⟨w.heap.size + 1, (x.a).toNat, none⟩) (fun _ => rfl) (.slice a6 ((adjAt d.nodes.length d.links k) x.a ++ [x.b]).length c6)).at (fun e => by have := HLE.out; omega) (F6.out.at (fun e => by obtain ⟨cur, hc⟩ := OW.out.head e; exact ne_of_types hc E3.out (by decide) rfl) E3.out))
          rw [hW2] at S4 HB4 ⊢
          clear OW UPD NB CL HS HKL F6 U7 O6 fz cq hW2 D3 E3
          obtain ⟨N1, hN1⟩ : ∃ N1 : Int → List Int, (fun v => if v = x.a then adjAt d.nodes.length d.links k x.a ++ [x.b] else adjAt d.nodes.length d.links k v) = N1 := ⟨_, rfl⟩
          rw [hN1] at S4
          have HN1 := hid hN1
          clear hN1
          go_wp2
          have D4 := hid (S4.out.grow (Fr.refl NoB w4).drew)
          have E4 := hid ((Fr.refl NoB w4).drew.at (fun h => h) HB4.out)
          obtain ⟨p5, c5, cl0, ow, nb, upd⟩ := D4.out.look (x := x.b) b0 b1
          have OW := hid ow
          have UPD := hid upd
          have NB := hid nb
          have CL := hid cl0
          have HS : Hid (∀ W', Fr (fun b => (Value.slice p5 (N1 x.b).length c5).ownBlock = some b) w4.drew W' → W'.cell? ⟨wr.heap.size, 0, none⟩ = some (.int .i64 x.a) ∧ W'.cell? ⟨wr.heap.size, 1, none⟩ = some (.int .i64 x.b) ∧ W'.cell? ⟨w.heap.size + 1, (x.b).toNat, none⟩ = some (.slice p5 (N1 x.b).length c5)) := fun W' hf => by
            obtain ⟨y0, y1, _⟩ := three_of (hf.at (fun e => by obtain ⟨cur, hc⟩ := OW.out.head e; exact ne_of_types hc E4.out (by decide) rfl) E4.out)
            exact ⟨y0, y1, (hf.cell (p := ⟨w.heap.size + 1, (x.b).toNat, none⟩) (Nat.lt_of_lt_of_le (Nat.lt_succ_self _) D4.out.le) (fun e => Nat.lt_irrefl _ (NB.out _ e).1)).trans CL.out⟩
          have HKL : Hid ((N1 x.b).length ≤ 3000000) := by have h1:= HKK.out x.a; have h2:= HKK.out x.b; show _ ≤ _; rw [← HN1.out]; simp only []; split; (rw [List.length_append, List.length_singleton]; omega); omega
          obtain ⟨q1, q2, q3⟩ := HS.out w4.drew (Fr.refl _ _)
          clear cl0 ow nb upd
          refine region_eff (fun W' => (W'.cell? ⟨wr.heap.size, 0, none⟩ = some (.int .i64 x.a) ∧ W'.cell? ⟨wr.heap.size, 1, none⟩ = some (.int .i64 x.b) ∧ W'.cell? ⟨w.heap.size + 1, (x.b).toNat, none⟩ = some (.slice p5 (N1 x.b).length c5))) 13 [(0, 1), (1, 1), (2, 0), (3, 1), (4, 1), (5, 0), (6, 1), (7, 0), (8, 1), (9, 0), (10, 2), (11, 2), (12, 1), (13, 2)] (by kernel_rfl) (by kernel_rfl) ?_ ?_
          · exact ⟨q1, q2, q3⟩
          clear q1 q2 q3
          repeat (first | (refine eff_off (by rfl) (by rfl) ?_; (try simp only [Act.put, List.setIfInBounds_toArray, List.set_cons_zero, List.set_cons_succ])) | (refine eff_off0 (by rfl) (by rfl) ?_; (try simp only [Act.put, List.setIfInBounds_toArray, List.set_cons_zero, List.set_cons_succ])) | (refine eff_pu ?_ (by rfl) (by rfl) ?_ ?_; rotate_left; (focus (intro w'; go_simp; (try with_reducible rfl); done)); (try simp only [Act.put, List.setIfInBounds_toArray, List.set_cons_zero, List.set_cons_succ])) | (refine eff_rd ?_ (by rfl) (by rfl) ?_ ?_; rotate_left; (focus (intro w' hS; (try obtain ⟨hq1, hS⟩ := hS); (try obtain ⟨hq2, hS⟩ := hS); (try obtain ⟨hq3, hS⟩ := hS); (try obtain ⟨hq4, hS⟩ := hS); (try obtain ⟨hq5, hS⟩ := hS); (try obtain ⟨hq6, hS⟩ := hS); (try obtain ⟨hq7, hS⟩ := hS); (try obtain ⟨hq8, hS⟩ := hS); (try obtain ⟨hq9, hS⟩ := hS); (try obtain ⟨hq10, hS⟩ := hS); (try obtain ⟨hq11, hS⟩ := hS); (try obtain ⟨hq12, hS⟩ := hS); (try obtain ⟨hq13, hS⟩ := hS); (try obtain ⟨hq14, hS⟩ := hS); (try obtain ⟨hq15, hS⟩ := hS); (try obtain ⟨hq16, hS⟩ := hS); (try obtain ⟨hq17, hS⟩ := hS); (try obtain ⟨hq18, hS⟩ := hS); (try obtain ⟨hq19, hS⟩ := hS); (try dsimp only at hS); go_simp; (try with_reducible rfl); done)); (try simp only [Act.put, List.setIfInBounds_toArray, List.set_cons_zero, List.set_cons_succ])))
          refine eff_run (v := .slice (some ⟨w4.heap.size, 0, none⟩) 1 1) (W' := w4.drew.alloc (.cells #[.int .i64 x.a] 3)) (by rfl) (by rfl) (by go_simp) (fun _ => HS.out _ ((Fr.refl _ _).alloc _)) ?_
          (try simp only [Act.put, List.setIfInBounds_toArray, List.set_cons_zero, List.set_cons_succ])
          refine eff_do (by rfl) ?_
          refine ap_ints_at _ rfl _ _ rfl 0 (.slice p5 (N1 x.b).length c5) (N1 x.b) rfl (OwnI.fr OW.out ((Fr.refl NoB _).alloc _) (fun _ _ h => h)) NoB _ [x.a] rfl (rdI_lit' (l := [x.a]) rfl rfl rfl (fun h => h)) ?_ (Nat.zero_le _) ?_
          · have := HKL.out
            simp only [List.length_singleton]
            omega
          intro v6 w6 ho6 hg6 hb6
          obtain ⟨a6, c6, hv6⟩ := ho6.form
          subst hv6
          have F6 := hid (Fr.grown ((Fr.refl (fun b => (Value.slice p5 (N1 x.b).length c5).ownBlock = some b) w4.drew).alloc (.cells #[.int .i64 x.a] 3)) hg6 (fun k hk _ => hk))
          have U7 := hid (UPD.out w6 _ _ F6.out ho6 (hb6.imp_right (fun h => ⟨_, h, by simp only [World.size_alloc]; omega⟩)))
          have O6 := hid ho6
          refine wpList_nil ⟨rfl, fun _ => HS.out w6 F6.out, ?_⟩
          (try simp only [Act.put, List.setIfInBounds_toArray, List.set_cons_zero, List.set_cons_succ])
          clear ho6 hg6 hb6
          have fz := U7.out.1
          obtain ⟨_, _, cq⟩ := HS.out w6 F6.out
          repeat (first | (refine eff_off (by rfl) (by rfl) ?_; (try simp only [Act.put, List.setIfInBounds_toArray, List.set_cons_zero, List.set_cons_succ])) | (refine eff_off0 (by rfl) (by rfl) ?_; (try simp only [Act.put, List.setIfInBounds_toArray, List.set_cons_zero, List.set_cons_succ])) | (refine eff_pu ?_ (by rfl) (by rfl) ?_ ?_; rotate_left; (focus (intro w'; go_simp; (try with_reducible rfl); done)); (try simp only [Act.put, List.setIfInBounds_toArray, List.set_cons_zero, List.set_cons_succ])) | (refine eff_rd ?_ (by rfl) (by rfl) ?_ ?_; rotate_left; (focus (intro w' hS; (try obtain ⟨hq1, hS⟩ := hS); (try obtain ⟨hq2, hS⟩ := hS); (try obtain ⟨hq3, hS⟩ := hS); (try obtain ⟨hq4, hS⟩ := hS); (try obtain ⟨hq5, hS⟩ := hS); (try obtain ⟨hq6, hS⟩ := hS); (try obtain ⟨hq7, hS⟩ := hS); (try obtain ⟨hq8, hS⟩ := hS); (try obtain ⟨hq9, hS⟩ := hS); (try obtain ⟨hq10, hS⟩ := hS); (try obtain ⟨hq11, hS⟩ := hS); (try obtain ⟨hq12, hS⟩ := hS); (try obtain ⟨hq13, hS⟩ := hS); (try obtain ⟨hq14, hS⟩ := hS); (try obtain ⟨hq15, hS⟩ := hS); (try obtain ⟨hq16, hS⟩ := hS); (try obtain ⟨hq17, hS⟩ := hS); (try obtain ⟨hq18, hS⟩ := hS); (try obtain ⟨hq19, hS⟩ := hS); (try dsimp only at hS); go_simp; (try with_reducible rfl); done)); (try simp only [Act.put, List.setIfInBounds_toArray, List.set_cons_zero, List.set_cons_succ])))
          refine eff_skip (W' := w6.setCell ⟨w.heap.size + 1, (x.b).toNat, none⟩ (.slice a6 (N1 x.b ++ [x.a]).length c6)) (by rfl) (by rfl) (by go_simp) (fun h => absurd rfl h) ?_
          (try simp only [Act.put, List.setIfInBounds_toArray, List.set_cons_zero, List.set_cons_succ])
          refine eff_nil ?_
          obtain ⟨w5, hW2⟩ : ∃ w7, w6.setCell ⟨w.heap.size + 1, (x.b).toNat, none⟩ (.slice a6 (N1 x.b ++ [x.a]).length c6) = w7 := ⟨_, rfl⟩
          have S5 := hid U7.out.2
          have HB5 := hid (((Fr.refl (fun q => q = w.heap.size + 1) w6).setCell (p := ⟨w.heap.size + 1, (x.b).toNat, none⟩) (fun _ => rfl) (.slice a6 (N1 x.b ++ [x.a]).length c6)).at (fun e => by have := HLE.out; omega) (F6.out.at (fun e => by obtain ⟨cur, hc⟩ := OW.out.head e; exact ne_of_types hc E4.out (by decide) rfl) E4.out))
          rw [hW2] at S5 HB5 ⊢
          clear OW UPD NB CL HS HKL F6 U7 O6 fz cq hW2 D4 E4
          have HV : Hid ((fun v => if v = x.b then N1 x.b ++ [x.a] else N1 v) = adjAt d.nodes.length d.links (k + 1)) := by
            show _ = _
            rw [HAD.out, ← HN1.out]; unfold adjStep; rw [if_pos HIN.out]
          rw [HV.out] at S5
          clear a0 a1 b0 b1
          go_wp2
          go_roundw
          case rel => exact ⟨k + 1, by omega, by go_num, _, S5.out⟩
          case measure => simp [intOf]; omega
    · obtain rfl : k = d.links.length := by omega
      have HF := hid (labOk_all d.nodes.length d.links)
      have HADJ := hid (adj_all d.nodes.length d.links)
      obtain ⟨f, hf⟩ : ∃ f : Int → Int, (fun v => (lbAt d.nodes.length d.links d.links.length).getD v.toNat 0) = f := ⟨_, rfl⟩
      rw [hf] at HF
      have HFE := hid hf
      have HNE := hid (fun x y => adj_ok HF.out (x := x) (y := y))
      have HNL := hid (adj_len d.nodes.length d.links d.links.length (Nat.le_refl _))
      obtain ⟨nl, hnl⟩ : ∃ nl, adjAt d.nodes.length d.links d.links.length = nl := ⟨_, rfl⟩
      rw [hnl] at HADJ S HNE HNL
      clear hf hnl
      have hmk := fun w => make_ints w d.nodes.length hlen
      obtain ⟨d0, d1, d2, df, dl⟩ := three_of S.out.box
      go_wp2
      clear hmk d0 d1 d2 df dl
      have FA := (Fr.refl NoB wr).alloc (.cells (Array.replicate d.nodes.length (.int .i64 0)) 3)
      have S1 := hid ((S.out.more (Nat.le_refl _)).grow FA)
      have I1 : Hid (IntAt (wr.alloc (.cells (Array.replicate d.nodes.length (.int .i64 0)) 3)) wr.heap.size (List.replicate d.nodes.length 0)) := by
        show IntAt _ _ _
        unfold IntAt
        rw [← repI]
        exact at_new wr _
      obtain ⟨gr, hgr⟩ : ∃ gr, wr.heap.size = gr := ⟨_, rfl⟩
      rw [hgr] at S1 I1 HLE ⊢
      have hg2 : w.heap.size + 2 ≤ gr := HLE.out
      clear FA S hgr
      go_loopw [67] (fun j wx => ∃ (k : Nat), k ≤ d.nodes.length ∧ j = .int .i64 k ∧ RtS w (.slice p d.nodes.length c1) (.slice pl d.links.length cl) sR d nl gr wx ∧ IntAt wx gr (fillI (fun _ => -1) k d.nodes.length)) (fun j _ => d.nodes.length - (intOf j).toNat)
      case atStart => exact ⟨0, Nat.zero_le _, rfl, S1.out, by simpa [fillI] using I1.out⟩
      case round =>
        obtain ⟨k, hk, rfl, hs, hi⟩ := hrel
        have S2 := hid hs
        have I2 := hid hi
        clear hs hi S1 I1
        by_cases hlt : k < d.nodes.length
        · obtain ⟨bv, ck⟩ : ∃ bv, wr.cell? ⟨gr, k, none⟩ = some (.int .i64 bv) := ⟨_, I2.out.cell (by rw [fillI_len _ (by omega)]; exact hlt)⟩
          have fk := I2.out.free k
          go_wp2
          go_roundw
          case rel =>
            refine ⟨k + 1, by omega, by go_num, S2.out.turn HLE.out ((Fr.refl _ _).setCell (p := ⟨gr, k, none⟩) (fun _ => Nat.le_refl _) _), ?_⟩
            have := I2.out.set k (-1)
            rw [fillI_on hlt rfl] at this
            exact this
          case measure => simp [intOf]; omega
        · obtain rfl : k = d.nodes.length := by omega
          rw [fillI_all, List.map_const', List.length_range] at I2
          go_wp2
          go_loopw [76] (fun j wx => ∃ (k : Nat) (rt : List Int), k ≤ d.nodes.length ∧ j = .int .i64 k ∧ RtS w (.slice p d.nodes.length c1) (.slice pl d.links.length cl) sR d nl gr wx ∧ IntAt wx gr rt ∧ OutI d.nodes.length f k rt) (fun j _ => d.nodes.length - (intOf j).toNat)
          case atStart => exact ⟨0, _, Nat.zero_le _, rfl, S2.out, I2.out, OutI.init d.nodes.length (fun v v0 v1 => (HF.out.rng v v0 v1).1)⟩
          case round =>
            obtain ⟨k, rt, hk, rfl, hs, hi, ho⟩ := hrel
            have S3 := hid hs
            have I3 := hid hi
            have O3 := hid ho
            have hrl : rt.length = d.nodes.length := ho.len
            have HRL := hid hrl
            clear hs hi ho S2 I2 hrl
            by_cases hlt : k < d.nodes.length
            · have ck : wr.cell? ⟨gr, k, none⟩ = some (.int .i64 (rt.getD k 0)) := I3.out.cell (by rw [HRL.out]; exact hlt)
              have fk := I3.out.free k
              have HR : Hid (rt.getD ((k : Int)).toNat 0 = rt.getD k 0) := by show _ = _; rfl
              obtain ⟨r, hr⟩ : ∃ r, rt.getD k 0 = r := ⟨_, rfl⟩
              rw [hr] at ck HR
              clear hr
              by_cases hr0 : 0 ≤ r
              · go_wp2
                go_roundw
                case rel => exact ⟨k + 1, rt, by omega, by go_num, S3.out, I3.out, by simpa using O3.out.skip HF.out (by omega) (by omega) (by rw [HR.out]; exact hr0)⟩
                case measure => simp [intOf]; omega
              · go_wp2
                have F4 : Fr (fun q => gr ≤ q) wr ((wr.setCell ⟨gr, k, none⟩ (.int .i64 k)).alloc (.cells #[.int .i64 k] 3)) := ((Fr.refl (fun q => gr ≤ q) wr).setCell (p := ⟨gr, k, none⟩) (fun _ => Nat.le_refl _) _).alloc _
                have S4 := hid (S3.out.turn HLE.out F4)
                have hgl := I3.out.lt
                have I4 : Hid (IntAt ((wr.setCell ⟨gr, k, none⟩ (.int .i64 k)).alloc (.cells #[.int .i64 k] 3)) gr (rt.set k k)) := by
                  show IntAt _ _ _
                  exact (I3.out.set k k).fr ((Fr.refl NoB _).alloc _) (fun h => h)
                have N4 : Hid (InI d.nodes.length f nl k (rt.set k k) [(k : Int)] 0 (nl 0).length) := by
                  have := O3.out.start (nl := nl) HF.out (by omega) (by omega) (by rw [HR.out]; omega) 0 (nl 0).length
                  show InI _ _ _ _ _ _ _ _
                  simpa using this
                have T4 : Hid (OwnI (gr + 1) ((wr.setCell ⟨gr, k, none⟩ (.int .i64 k)).alloc (.cells #[.int .i64 k] 3)) (.slice (some ⟨wr.heap.size, 0, none⟩) 1 1) [(k : Int)]) := by
                  show OwnI _ _ _ _
                  have := OwnI.lit (gr + 1) (wr.setCell ⟨gr, k, none⟩ (.int .i64 k)) [(k : Int)] (by simp; omega) (by simp)
                  simpa using this
                have HL4 : Hid (left2 (rt.set k k) [(k : Int)] ≤ 2 * d.nodes.length + 1) := by
                  show _ ≤ _
                  unfold left2
                  have := List.countP_le_length (p := fun v : Int => decide (v < 0)) (l := rt.set k k)
                  rw [List.length_set, HRL.out] at this
                  simp only [List.length_singleton]
                  omega
                clear ck fk F4 hgl S3 I3 O3 HR HRL
                go_loopw [9] (fun t wz => ∃ (rt' todo : List Int) (y : Int), RtS w (.slice p d.nodes.length c1) (.slice pl d.links.length cl) sR d nl gr wz ∧ IntAt wz gr rt' ∧ InI d.nodes.length f nl k rt' todo y (nl y).length ∧ left2 rt' todo ≤ 2 * d.nodes.length + 1 ∧ ∃ tp tc, t = .slice tp todo.length tc ∧ OwnI (gr + 1) wz (.slice tp todo.length tc) todo) (fun t wz => 2 * leftW gr wz + lenOf t)
                case atStart => exact ⟨_, [(k : Int)], 0, S4.out, I4.out, N4.out, HL4.out, _, _, rfl, T4.out⟩
                case round =>
                  obtain ⟨rt', todo, y, hs, hi, hn, hl, tp, tc, rfl, ht⟩ := hrel
                  have S5 := hid hs
                  have I5 := hid hi
                  have N5 := hid hn
                  have HL5 := hid hl
                  clear hs hi hn hl S4 I4 N4 T4 HL4
                  rcases List.eq_nil_or_concat todo with rfl | ⟨todo0, x, rfl⟩
                  · simp only [List.length_nil] at ht ⊢
                    clear ht
                    go_wp2
                    go_roundw
                    case rel => exact ⟨k + 1, rt', by omega, by go_num, S5.out, I5.out, by simpa using N5.out.stop HF.out HADJ.out⟩
                    case measure => simp [intOf]; omega
                  · simp only [List.concat_eq_append] at ht N5 HL5 ⊢
                    have hlen5 : todo0.length + 1 ≤ 2 * d.nodes.length + 1 := by
                      have := HL5.out
                      unfold left2 at this
                      simp only [List.length_append, List.length_singleton] at this
                      omega
                    rcases ht.form' with ⟨hv, _⟩ | ⟨gt, tcap, hv, hgt, hgs, hcap⟩
                    · simp at hv
                    simp only [Value.slice.injEq] at hv
                    obtain ⟨rfl, _, rfl⟩ := hv
                    have T6 := hid ht.pop
                    have ct : wr.cell? ⟨gt, todo0.length, none⟩ = some (.int .i64 x) := by
                      have := ht.cell (i := todo0.length) (by simp)
                      simpa using this
                    obtain ⟨⟨x0, x1, fx⟩, hn6⟩ := N5.out.pop
                    have N6 := hid hn6
                    have HFX := hid fx
                    obtain ⟨pn, cn, cx, own, nb, _⟩ := S5.out.look x0 x1
                    have O6 := hid own
                    have B6 := hid nb
                    have HL6 : Hid (2 * leftW gr wr + (todo0.length + 1) = left2 rt' todo0 + 1 ∧ left2 rt' todo0 ≤ 2 * d.nodes.length) := by
                      show _ ∧ _
                      have := HL5.out
                      rw [leftW_of I5.out]
                      unfold left2 at this ⊢
                      simp only [List.length_append, List.length_singleton] at this
                      omega
                    simp only [List.length_append, List.length_singleton] at hcap ⊢
                    clear own nb hn6 ht fx N5 HL5
                    go_wp2
                    clear ct cx
                    go_loopw [9, 109] (fun t j wz => ∃ (q : Nat) (rt2 td : List Int), q ≤ (nl x).length ∧ j = .int .i64 q ∧ RtS w (.slice p d.nodes.length c1) (.slice pl d.links.length cl) sR d nl gr wz ∧ IntAt wz gr rt2 ∧ InI d.nodes.length f nl k rt2 td x q ∧ left2 rt2 td ≤ left2 rt' todo0 ∧ OwnI 0 wz (.slice pn (nl x).length cn) (nl x) ∧ ∃ tp tc, t = .slice tp td.length tc ∧ OwnI (gr + 1) wz (.slice tp td.length tc) td) (fun _ j _ => (nl x).length - (intOf j).toNat)
                    case atStart => exact ⟨0, rt', todo0, Nat.zero_le _, rfl, S5.out, I5.out, N6.out, Nat.le_refl _, O6.out, _, _, rfl, T6.out⟩
                    case round =>
                      obtain ⟨q, rt2, td, hq, rfl, hs, hi, hn, hl, ho, tp, tc, rfl, ht⟩ := hrel
                      have S7 := hid hs
                      have I7 := hid hi
                      have N7 := hid hn
                      have HL7 := hid hl
                      have O7 := hid ho
                      have T7 := hid ht
                      have HRL7 : Hid (rt2.length = d.nodes.length) := hn.len
                      clear hs hi hn hl ht S5 I5 N6 T6 O6
                      have hnx := HNL.out x
                      by_cases hlt7 : q < (nl x).length
                      · rcases ho.form' with ⟨_, hv⟩ | ⟨gn, ncap, hv, _, _, _⟩
                        · rw [hv] at hlt7; simp at hlt7
                        simp only [Value.slice.injEq] at hv
                        obtain ⟨rfl, _, rfl⟩ := hv
                        have cy := ho.cell hlt7
                        have HYE := hid (rfl : (nl x).getD q 0 = (nl x).getD q 0)
                        have hmem : (nl x).getD q 0 ∈ nl x := by
                          rw [List.getD_eq_getElem?_getD, List.getElem?_eq_getElem hlt7]
                          exact List.getElem_mem hlt7
                        obtain ⟨y, hy⟩ : ∃ y, (nl x).getD q 0 = y := ⟨_, rfl⟩
                        have HY := hid hy
                        rw [hy] at cy hmem
                        obtain ⟨ya, yb, yf⟩ := HNE.out x y hmem
                        have HYF : Hid (f y = k) := yf.trans HFX.out
                        clear hmem hy HYE ho yf
                        have yn : y.toNat < d.nodes.length := by omega
                        have cr : wr.cell? ⟨gr, y.toNat, none⟩ = some (.int .i64 (rt2.getD y.toNat 0)) := I7.out.cell (by rw [HRL7.out]; exact yn)
                        have fr := I7.out.free y.toNat
                        obtain ⟨r, hr⟩ : ∃ r, rt2.getD y.toNat 0 = r := ⟨_, rfl⟩
                        rw [hr] at cr
                        have HR := hid hr
                        clear hr
                        by_cases hr0 : r < 0
                        · have hgl := I7.out.lt
                          have htl : td.length ≤ 2 * d.nodes.length := by
                            have h1 := HL7.out
                            have h2 := HL6.out.2
                            unfold left2 at h1 h2
                            omega
                          have F7 : Hid (Fr (fun q => q = gr) wr ((wr.setCell ⟨gr, y.toNat, none⟩ (.int .i64 k)).alloc (.cells #[.int .i64 y] 3))) := ((Fr.refl (fun q => q = gr) wr).setCell (p := ⟨gr, y.toNat, none⟩) (fun _ => rfl) _).alloc _
                          have T8 := hid (T7.out.fr F7.out (fun b hb e => by have := (World.ownsRow.lt T7.out b hb).1; have e2 : b = gr := e; omega))
                          go_wp2_with (at_builtin; refine ap_ints_at _ rfl _ _ rfl (gr + 1) (.slice tp td.length tc) td rfl T8.out NoB _ [y] rfl (rdI_lit' (l := [y]) rfl (by rfl) (by simp) (fun h => h)) ?_ ?_ ?_; (simp only [List.length_singleton]; omega); (simp; omega); intro v9 w9 ho9 hg9 ha9; obtain ⟨p9, q9, hv9⟩ := ho9.form; subst hv9; have G9 := hid hg9; have T9 := hid ho9; clear ho9 hg9 ha9)
                          have F9 := hid (Fr.grown (M := fun q => gr ≤ q) (F7.out.mono (fun j _ h => by have e2 : j = gr := h; omega)) G9.out (fun j hj _ => by have := (World.ownsRow.lt T7.out j hj).1; omega))
                          have I9 := hid (((I7.out.set y.toNat k).fr ((Fr.refl NoB _).alloc (.cells #[.int .i64 y] 3)) (fun h => h)).fr (Fr.grown (Fr.refl (fun b => (Value.slice tp td.length tc).ownBlock = some b) _) G9.out (fun j hj _ => hj)) (fun hj => by have := (World.ownsRow.lt T7.out gr hj).1; omega))
                          have hm := left2_mark (rt := rt2) (todo := td) (i := k) (y := y) (by rw [HRL7.out]; exact yn) (by omega) (by rw [HR.out]; exact hr0)
                          have HL9 : Hid (left2 (rt2.set y.toNat k) (td ++ [y]) ≤ left2 rt' todo0) := by
                            have := HL7.out
                            show _ ≤ _
                            omega
                          clear hm
                          go_roundw
                          case rel => exact ⟨q + 1, _, td ++ [y], by omega, by go_num, S7.out.turn HLE.out F9.out, I9.out, N7.out.mark hlt7 HY.out HYF.out ya yb (by rw [HR.out]; exact hr0), HL9.out, O7.out.fr F9.out (fun b hb h => by have := (B6.out b hb).2; have h2 : gr ≤ b := h; omega), _, _, by simp, T9.out⟩
                          case measure => simp [intOf]; omega
                        · go_wp2
                          go_roundw
                          case rel => exact ⟨q + 1, rt2, td, by omega, by go_num, S7.out, I7.out, N7.out.seen hlt7 HY.out HYF.out ya yb (by rw [HR.out]; exact hr0), HL7.out, O7.out, _, _, rfl, T7.out⟩
                          case measure => simp [intOf]; omega
                      · obtain rfl : q = (nl x).length := by omega
                        go_wp2
                        go_roundw
                        case rel => exact ⟨rt2, td, x, S7.out, I7.out, N7.out, by have := HL6.out.2; have := HL7.out; omega, _, _, rfl, T7.out⟩
                        case measure =>
                          have h1 := HL6.out.1
                          have h2 := HL7.out
                          simp only [lenOf]
                          rw [leftW_of I7.out]
                          unfold left2 at h2
                          unfold left2 at h1
                          omega
            · obtain rfl : k = d.nodes.length := by omega
              go_wp2
              have e := O3.out.all (lab := lbAt d.nodes.length d.links d.links.length) HF.out (lbAt_length _ _ _) (fun v _ _ => by rw [← HFE.out])
              have hq := I3.out.own (B := w.heap.size) (by have := HLE.out; omega) (by rw [HRL.out]; exact hlen)
              rw [HRL.out, e] at hq
              go_ret
              exact ⟨_, rfl, hq, S3.out.fr⟩
end Go.Proofs.YtndfncaoejbkiaaGreatDoor
end
section
/- Plain laws for invariant's classes; its function value, and Canon with it. -/
namespace Go.Proofs.YtndfncaoejbkiaaGreatDoor
open Go.RowKit
set_option maxRecDepth 100000

abbrev canonN (lab : List Int) (n : Node) : Node := { n with args := n.args.map (labAt lab) }
theorem alike_canon {a b : Node} {lab : List Int} : alikeS a b lab = true ↔ canonN lab a = canonN lab b := by
  constructor
  · intro h
    unfold alikeS at h
    simp only [Bool.and_eq_true, beq_iff_eq, List.all_eq_true] at h
    obtain ⟨⟨h1, h2⟩, h3⟩ := h
    unfold labelS at h1
    simp only [Bool.and_eq_true, beq_iff_eq] at h1
    have h4 : a.args.map (labAt lab) = b.args.map (labAt lab) := by
      apply List.ext_getElem (by simp [h2])
      intro i hi hi'
      simp only [List.length_map] at hi hi'
      have hp := h3 (a.args[i], b.args[i]) (by rw [List.mem_iff_getElem]; exact ⟨i, by simp; omega, by simp⟩)
      simpa using hp
    obtain ⟨⟨⟨h5, h6⟩, h7⟩, h8⟩ := h1
    cases a; cases b
    simp only at h4 h5 h6 h7 h8
    simp only [canonN, h4, h5, h6, h7, toList_inj h8]
  · intro h
    cases a with
    | mk ao aw av an aa =>
      cases b with
      | mk bo bw bv bn ba =>
        simp only [canonN, Node.mk.injEq] at h
        obtain ⟨h1, h2, h3, h4, h5⟩ := h
        have hl : aa.length = ba.length := by simpa using congrArg List.length h5
        refine alikeS_ok (by unfold labelS; simp [h1, h2, h3, h4]) hl (fun k hk => ?_)
        have := congrArg (fun l => l.getD k 0) h5
        simp only [List.getD_eq_getElem?_getD, List.getElem?_map] at this
        simp only at hk
        have hk' : k < ba.length := hl ▸ hk
        simp only
        rw [List.getD_eq_getElem?_getD, List.getD_eq_getElem?_getD, List.getElem?_eq_getElem hk, List.getElem?_eq_getElem hk']
        rw [List.getElem?_eq_getElem hk, List.getElem?_eq_getElem hk'] at this
        simpa using this
def keyAt (ns : List Node) (lab : List Int) (i : Nat) : ByteArray := (ns[i]?).elim ⟨#[]⟩ (fun n => keyB (canonN lab n))
theorem open_key {ns : List Node} {lab : List Int} (hok : ∀ n ∈ ns, NodeOk (canonN lab n)) {i : Nat} (hi : i < ns.length) : openAt ns lab i = true ↔ ∃ j, j < i ∧ keyAt ns lab j = keyAt ns lab i ∧ lab.getD j 0 ≠ lab.getD i 0 := by
  unfold openAt
  rw [List.any_eq_true]
  have key : ∀ j, j < i → (alikeAt ns lab j i = true ↔ keyAt ns lab j = keyAt ns lab i) := fun j hj => by
    have hjl : j < ns.length := by omega
    unfold alikeAt keyAt
    rw [List.getElem?_eq_getElem hjl, List.getElem?_eq_getElem hi]
    simp only [Option.elim_some]
    rw [alike_canon, keyB_inj (hok _ (List.getElem_mem hjl)) (hok _ (List.getElem_mem hi))]
  constructor
  · rintro ⟨j, hj, h⟩
    have hj2 := List.mem_range.1 hj
    simp only [Bool.and_eq_true, bne_iff_ne, ne_eq] at h
    exact ⟨j, hj2, (key j hj2).1 h.1, h.2⟩
  · rintro ⟨j, hj, h1, h2⟩
    refine ⟨j, List.mem_range.2 hj, ?_⟩
    simp only [Bool.and_eq_true, bne_iff_ne, ne_eq]
    exact ⟨(key j hj).2 h1, h2⟩
/-- What classes' two maps hold behind k nodes. -/
structure ClsI (key : Nat → ByteArray) (lb : Nat → Int) (k : Nat) (gw : ByteArray → Option Int) (gm : ByteArray → Option Bool) : Prop where
  no : ∀ nm, gw nm = none → ∀ j, j < k → key j ≠ nm
  so : ∀ nm f, gw nm = some f → ∃ j, j < k ∧ key j = nm ∧ lb j = f
  mix : ∀ nm, (gm nm).getD false = true ↔ ∃ f, gw nm = some f ∧ ∃ j, j < k ∧ key j = nm ∧ lb j ≠ f
section
variable {key : Nat → ByteArray} {lb : Nat → Int} {k : Nat} {gw : ByteArray → Option Int} {gm : ByteArray → Option Bool}
theorem ClsI.init : ClsI key lb 0 (fun _ => none) (fun _ => none) := ⟨fun _ _ j hj => by omega, fun _ _ h => (by cases h), fun _ => ⟨fun h => (by cases h), fun ⟨_, h, _⟩ => (by cases h)⟩⟩
theorem ClsI.fresh (h : ClsI key lb k gw gm) (hk : gw (key k) = none) : ClsI key lb (k + 1) (fun nm => if nm = key k then some (lb k) else gw nm) gm ∧ ¬ ∃ j, j < k ∧ key j = key k ∧ lb j ≠ lb k := by
  refine ⟨⟨fun nm hn j hj => ?_, fun nm f hn => ?_, fun nm => ?_⟩, fun ⟨j, h1, h2, _⟩ => h.no _ hk j h1 h2⟩
  · by_cases e : nm = key k
    · simp [e] at hn
    · rw [if_neg e] at hn
      by_cases e2 : j = k
      · subst e2; exact fun e3 => e e3.symm
      · exact h.no nm hn j (by omega)
  · by_cases e : nm = key k
    · rw [if_pos e] at hn
      exact ⟨k, by omega, e.symm, by simpa using hn⟩
    · rw [if_neg e] at hn
      obtain ⟨j, h1, h2⟩ := h.so nm f hn
      exact ⟨j, by omega, h2⟩
  · rw [h.mix nm]
    by_cases e : nm = key k
    · subst e
      rw [hk]
      simp only [if_true]
      constructor
      · rintro ⟨f, h1, _⟩; cases h1
      · rintro ⟨f, h1, j, h2, h3, h4⟩
        simp only [Option.some.injEq] at h1
        by_cases e2 : j = k
        · subst e2; exact absurd h1 h4
        · exact absurd h3 (h.no _ hk j (by omega))
    · simp only [if_neg e]
      constructor
      · rintro ⟨f, h1, j, h2, h3⟩; exact ⟨f, h1, j, by omega, h3⟩
      · rintro ⟨f, h1, j, h2, h3, h4⟩
        by_cases e2 : j = k
        · subst e2; exact absurd h3.symm e
        · exact ⟨f, h1, j, by omega, h3, h4⟩
theorem ClsI.bad (h : ClsI key lb k gw gm) {f : Int} (hk : gw (key k) = some f) (hb : (gm (key k)).getD false = true ∨ f ≠ lb k) : ClsI key lb (k + 1) gw (fun nm => if nm = key k then some true else gm nm) ∧ ∃ j, j < k ∧ key j = key k ∧ lb j ≠ lb k := by
  obtain ⟨j0, p1, p2, p3⟩ := h.so _ _ hk
  have hex : ∃ j, j < k ∧ key j = key k ∧ lb j ≠ lb k := by
    by_cases c : f = lb k
    · rcases hb with hb | hb
      · obtain ⟨f', e1, j, e2, e3, e4⟩ := (h.mix _).1 hb
        rw [hk] at e1
        simp only [Option.some.injEq] at e1
        exact ⟨j, e2, e3, by rw [← c, e1]; exact e4⟩
      · exact absurd c hb
    · exact ⟨j0, p1, p2, by rw [p3]; exact c⟩
  refine ⟨⟨fun nm hn j hj => ?_, fun nm f hn => ?_, fun nm => ?_⟩, hex⟩
  · by_cases e2 : j = k
    · subst e2; intro e3; rw [← e3, hk] at hn; cases hn
    · exact h.no nm hn j (by omega)
  · obtain ⟨j, h1, h2⟩ := h.so nm f hn
    exact ⟨j, by omega, h2⟩
  · by_cases e : nm = key k
    · subst e
      simp only [if_true, Option.getD_some, true_iff]
      refine ⟨f, hk, ?_⟩
      by_cases c : f = lb k
      · obtain ⟨j, e1, e2, e3⟩ := hex
        exact ⟨j, by omega, e2, by rw [c]; exact e3⟩
      · exact ⟨k, by omega, rfl, fun e => c e.symm⟩
    · simp only [if_neg e]
      rw [h.mix nm]
      constructor
      · rintro ⟨f, h1, j, h2, h3⟩; exact ⟨f, h1, j, by omega, h3⟩
      · rintro ⟨f, h1, j, h2, h3, h4⟩
        by_cases e2 : j = k
        · subst e2; exact absurd h3.symm e
        · exact ⟨f, h1, j, by omega, h3, h4⟩
theorem ClsI.fine (h : ClsI key lb k gw gm) {f : Int} (hk : gw (key k) = some f) (hb : (gm (key k)).getD false = false) (hf : f = lb k) : ClsI key lb (k + 1) gw gm ∧ ¬ ∃ j, j < k ∧ key j = key k ∧ lb j ≠ lb k := by
  have hno : ¬ ∃ j, j < k ∧ key j = key k ∧ lb j ≠ lb k := fun ⟨j, e1, e2, e3⟩ => by
    have := (h.mix _).2 ⟨f, hk, j, e1, e2, by rw [hf]; exact e3⟩
    rw [hb] at this; cases this
  refine ⟨⟨fun nm hn j hj => ?_, fun nm f hn => ?_, fun nm => ?_⟩, hno⟩
  · by_cases e2 : j = k
    · subst e2; intro e3; rw [← e3, hk] at hn; cases hn
    · exact h.no nm hn j (by omega)
  · obtain ⟨j, h1, h2⟩ := h.so nm f hn
    exact ⟨j, by omega, h2⟩
  · rw [h.mix nm]
    constructor
    · rintro ⟨f, h1, j, h2, h3⟩; exact ⟨f, h1, j, by omega, h3⟩
    · rintro ⟨f', h1, j, h2, h3, h4⟩
      by_cases e2 : j = k
      · subst e2
        rw [← h3, hk] at h1
        simp only [Option.some.injEq] at h1
        exact absurd (hf.symm.trans h1) h4
      · exact ⟨f', h1, j, by omega, h3, h4⟩
end
theorem OwnI.at_eq {B : Nat} {w w1 : World} {v : Value} {l : List Int} (h : OwnI B w v l) (e : ∀ b, v.ownBlock = some b → w1.heap[b]? = w.heap[b]?) : OwnI B w1 v l := by
  refine ⟨h.1, ?_⟩
  rcases h.2 with h2 | ⟨g, cap, cur, h1, hb, hg, r⟩
  · exact .inl h2
  · exact .inr ⟨g, cap, cur, h1, hb, by rw [e g (by rw [h1]; rfl)]; exact hg, r⟩
theorem classFn_any (g4 : Nat) (lv : Value) (lab : List Int) (x : Int) (w : World) (hb : w.heap[g4]? = some (.cells #[lv] 24 (0, 0))) (B : Nat) (ho : OwnI B w lv lab) (x0 : 0 ≤ x) (x1 : x < lab.length) (hl : lab.length ≤ 1000000) :
    Calls Tryz.prog 94 #[.int .i64 x, .pointer (some ⟨g4, 0, none⟩)] w fun e w' => e = .returned (.int .i64 (labAt lab x)) ∧ Fr NoB w w' := by
  have xn : x.toNat < lab.length := by omega
  rcases ho.form' with ⟨_, hv⟩ | ⟨g, cap, hv, _, _, hc⟩
  · rw [hv] at xn; simp at xn
  subst hv
  have c0 : w.cell? ⟨g4, 0, none⟩ = some (.slice (some ⟨g, 0, none⟩) lab.length cap) := by simp [World.cell?, hb]
  have c1 := ho.cell xn
  have HL : Hid (labAt lab x = lab.getD x.toNat 0) := by show _ = _; rfl
  obtain ⟨q, hq⟩ : ∃ q, lab.getD x.toNat 0 = q := ⟨_, rfl⟩
  rw [hq] at c1 HL
  clear hq hb ho
  go_enter Tryz.func94, Tryz.ntmps94
  go_wp2
  go_ret
  exact ⟨by rw [HL.out]; rfl, by first | exact Fr.refl _ _ | exact (Fr.refl NoB w).alloc _⟩
abbrev ClB (g4 : Nat) (lv : Value) : Nat → Prop := fun b => b = g4 ∨ lv.ownBlock = some b
theorem classCanon_any (g4 : Nat) (lv : Value) (lab : List Int) (n : Node) (v : Value) (w : World) (hb : w.heap[g4]? = some (.cells #[lv] 24 (0, 0))) (B : Nat) (ho : OwnI B w lv lab) (hl : lab.length ≤ 1000000)
    (hv : RdI NoB w v n.args) (hn : n.args.length ≤ 1000000) (hord : ∀ y ∈ n.args, 0 ≤ y ∧ y < lab.length) :
    Calls Tryz.prog 63 #[nodeV n v, .func (.func 94) #[] #[.pointer (some ⟨g4, 0, none⟩)]] w fun e w' => ∃ a' c', e = .returned (nodeV (canonN lab n) (.slice a' n.args.length c')) ∧ OwnI w.heap.size w' (.slice a' n.args.length c') (n.args.map (labAt lab)) ∧ Fr NoB w w' := by
  have hbl : ∀ b, ClB g4 lv b → b < w.heap.size := fun b h => by
    rcases h with rfl | h
    · exact (Array.getElem?_eq_some_iff.1 hb).1
    · exact (World.ownsRow.lt ho b h).2
  have hI : FindOk 94 #[] #[.pointer (some ⟨g4, 0, none⟩)] (fun Pr _ W => (∀ b, ClB g4 lv b → W.heap[b]? = w.heap[b]?) ∧ (∀ b, ClB g4 lv b → ¬ Pr b) ∧ w.heap.size ≤ W.heap.size) n.args (labAt lab) := by
    refine ⟨enters_of Tryz.func94 (by kernel_rfl) rfl, fun Pr k W W' h hf => ⟨fun b hb => ?_, h.2.1, Nat.le_trans h.2.2 hf.size⟩, fun Pr k W hk h => ?_⟩
    · rw [hf.block b (Nat.lt_of_lt_of_le (hbl b hb) h.2.2) (h.2.1 b hb)]; exact h.1 b hb
    · have hm : n.args.getD k 0 ∈ n.args := by
        rw [List.getD_eq_getElem?_getD, List.getElem?_eq_getElem hk]; exact List.getElem_mem hk
      obtain ⟨y0, y1⟩ := hord _ hm
      refine (classFn_any g4 lv lab (n.args.getD k 0) W (by rw [h.1 g4 (.inl rfl)]; exact hb) B (ho.at_eq (fun b hb => h.1 b (.inr hb))) y0 y1 hl).mono ?_
      rintro e W' ⟨rfl, hf⟩
      exact ⟨rfl, ⟨fun b hb => by rw [hf.block b (Nat.lt_of_lt_of_le (hbl b hb) h.2.2) (fun h => h)]; exact h.1 b hb, h.2.1, Nat.le_trans h.2.2 hf.size⟩, hf.mono (fun _ _ h => h.elim)⟩
  refine (canon_any NoB (fun b => ¬ ClB g4 lv b ∧ b < w.heap.size) 94 #[] #[.pointer (some ⟨g4, 0, none⟩)] _ (labAt lab) n v w hv (by omega) hI (fun w1 hf => ⟨fun b hb => hf.block b (hbl b hb) (fun h => h), fun b hb h => ?_, hf.size⟩)).mono ?_
  · rcases h with h | h
    · exact h.1 hb
    · have := hbl b hb; omega
  rintro e w' ⟨a', c', rfl, h1, ⟨Pr, h2, _⟩, h3⟩
  refine ⟨a', c', rfl, h1, h3.os, h3.tape, h3.output, h3.size, fun k hk _ => ?_⟩
  by_cases c : ClB g4 lv k
  · exact h2.1 k c
  · exact h3.block k hk (fun hn => hn ⟨c, hk⟩)
theorem canon_ok {n : Nat} {lk : List Lnk} (hn : n ≤ 1000000) {x : Node} (h : NodeOk x) (ho : ∀ y ∈ x.args, 0 ≤ y ∧ y < n) : NodeOk (canonN (lbAt n lk lk.length) x) := by
  refine ⟨h.op, h.width, h.val, fun i hi => ?_⟩
  simp only [canonN, List.length_map] at hi ⊢
  rw [List.getD_eq_getElem?_getD, List.getElem?_map, List.getElem?_eq_getElem hi]
  simp only [Option.map_some, Option.getD_some]
  have h1 := ho _ (List.getElem_mem hi)
  have h2 := (labOk_all n lk).rng _ h1.1 h1.2
  unfold labAt i64ok
  omega
theorem canon_sm {lab : List Int} {x : Node} (h : NodeSm x) : NodeSm (canonN lab x) := ⟨by simpa [canonN] using h.args, h.name⟩

/-- The state of classes: its labels lie in the box g4. -/
structure ClS (M : Nat → Prop) (w : World) (sN sL sR : Value) (d : Dmp) (br : Nat) (l F : List Flw) (g4 : Nat) (lv : Value) (lab : List Int) (X : Nat → Prop) (W : World) : Prop where
  st : RepS M w sN sL sR d br l F X W
  box : W.heap[g4]? = some (.cells #[lv] 24 (0, 0))
  row : OwnI (w.heap.size + 1) W lv lab
  own : ∀ b, ClB g4 lv b → X b
section
variable {M : Nat → Prop} {w : World} {sN sL sR : Value} {d : Dmp} {br : Nat} {l F F' : List Flw} {g4 : Nat} {lv : Value} {lab : List Int} {X X' : Nat → Prop} {W W' : World}
theorem ClS.grow (h : ClS M w sN sL sR d br l F g4 lv lab X W) (hf : Fr NoB W W') : ClS M w sN sL sR d br l F g4 lv lab X W' :=
  ⟨h.st.step hf, hf.at (fun h => h) h.box, h.row.fr hf (fun _ _ h => h), h.own⟩
theorem ClS.told (h : ClS M w sN sL sR d br l F g4 lv lab X W) (h' : RepS M w sN sL sR d br l F' X W') (hf : Fr (fun q => ¬ X q) W W') : ClS M w sN sL sR d br l F' g4 lv lab X W' :=
  ⟨h', hf.at (fun hn => hn (h.own _ (.inl rfl))) h.box, h.row.fr hf (fun b hb hn => hn (h.own _ (.inr hb))), h.own⟩
end
structure ClM (M : Nat → Prop) (w : World) (sN sL sR : Value) (d : Dmp) (br : Nat) (l F : List Flw) (g4 : Nat) (lv : Value) (lab : List Int) (bw bm : Nat) (gw : ByteArray → Option Int) (gm : ByteArray → Option Bool) (X : Nat → Prop) (W : World) : Prop where
  c : ClS M w sN sL sR d br l F g4 lv lab X W
  wd : strMap W bw gw
  mx : flagMap W bm gm
  xw : X bw
  xm : X bm
  ne : bw ≠ bm
section
variable {M : Nat → Prop} {w : World} {sN sL sR : Value} {d : Dmp} {br : Nat} {l F F' : List Flw} {g4 : Nat} {lv : Value} {lab : List Int} {bw bm : Nat} {gw gw' : ByteArray → Option Int} {gm gm' : ByteArray → Option Bool} {X X' : Nat → Prop} {W W' : World}
theorem ClM.grow (h : ClM M w sN sL sR d br l F g4 lv lab bw bm gw gm X W) (hf : Fr NoB W W') : ClM M w sN sL sR d br l F g4 lv lab bw bm gw gm X W' :=
  ⟨h.c.grow hf, h.wd.fr hf (fun h => h), h.mx.fr hf (fun h => h), h.xw, h.xm, h.ne⟩
theorem ClM.told (h : ClM M w sN sL sR d br l F g4 lv lab bw bm gw gm X W) (h' : RepS M w sN sL sR d br l F' X W') (hf : Fr (fun q => ¬ X q) W W') : ClM M w sN sL sR d br l F' g4 lv lab bw bm gw gm X W' :=
  ⟨h.c.told h' hf, h.wd.fr hf (fun hn => hn h.xw), h.mx.fr hf (fun hn => hn h.xm), h.xw, h.xm, h.ne⟩
theorem ClM.turn (h : ClM M w sN sL sR d br l F g4 lv lab bw bm gw gm X W) {q : Nat} (hq : q = bw ∨ q = bm) (hf : Fr (fun j => j = q) W W') (h1 : strMap W' bw gw') (h2 : flagMap W' bm gm') : ClM M w sN sL sR d br l F g4 lv lab bw bm gw' gm' X W' := by
  have key : ∀ {b : Nat} {cs : Array Value} {e : TypeId} {f : Nat × Nat}, W.heap[b]? = some (.cells cs e f) → b ≠ q := fun hb => by
    rcases hq with rfl | rfl
    · exact h.wd.ne_cells hb
    · exact h.mx.ne_cells hb
  have hx : X q := by
    rcases hq with rfl | rfl
    · exact h.xw
    · exact h.xm
  refine ⟨⟨h.c.st.turn hf (fun j e => ?_), hf.at (key h.c.box) h.c.box, h.c.row.fr hf (fun b hb e => ?_), h.c.own⟩, h1, h2, h.xw, h.xm, h.ne⟩
  · have e2 : j = q := e
    subst e2
    exact ⟨hx, fun e3 => key h.c.st.box e3.symm⟩
  · obtain ⟨cur, hc⟩ := h.c.row.head hb
    exact key hc e
end
end Go.Proofs.YtndfncaoejbkiaaGreatDoor
end
