import Derived.Test.YtndfncaoejbkiaaGreatDoorPk3
import Derived.Test.YtndfncaoejbkiaaGreatDoorPk7
import Derived.Laws.MakeOwn
import Derived.Laws.OwnMore
set_option linter.all false
section
/- Plain law of malformed: two maps tell what a search over all earlier nodes tells. Rows of bools and ints that are made whole. -/
namespace Go.Proofs.YtndfncaoejbkiaaGreatDoor
open Go.RowKit
set_option maxRecDepth 100000

def isVar (nm : ByteArray) (x : Node) : Bool := x.op == 1 && x.name.toList == nm.toList
def firstW (T : List Node) (nm : ByteArray) : Option Int := (T.find? (isVar nm)).map (·.width)
def mixOf (T : List Node) (nm : ByteArray) : Bool := T.any (fun y => isVar nm y && firstW T nm != some y.width)
theorem firstW_app (T : List Node) (x : Node) (nm : ByteArray) : firstW (T ++ [x]) nm = (firstW T nm).or (if isVar nm x = true then some x.width else none) := by
  unfold firstW
  rw [List.find?_append]
  cases List.find? (isVar nm) T with
  | some y => simp
  | none => cases h : isVar nm x <;> simp [List.find?_cons, h]
theorem firstW_none {T : List Node} {nm : ByteArray} (h : firstW T nm = none) : ∀ y ∈ T, isVar nm y = false := by
  unfold firstW at h
  rw [Option.map_eq_none_iff, List.find?_eq_none] at h
  intro y hy
  simpa using h y hy
theorem firstW_some {T : List Node} {nm : ByteArray} {f : Int} (h : firstW T nm = some f) : ∃ y ∈ T, isVar nm y = true ∧ y.width = f := by
  unfold firstW at h
  rw [Option.map_eq_some_iff] at h
  obtain ⟨y, h1, h2⟩ := h
  exact ⟨y, List.mem_of_find?_eq_some h1, List.find?_some h1, h2⟩
theorem mixOf_none {T : List Node} {nm : ByteArray} (h : firstW T nm = none) : mixOf T nm = false := by
  unfold mixOf
  rw [List.any_eq_false]
  intro y hy
  simp [firstW_none h y hy]
theorem mixOf_app (T : List Node) (x : Node) (nm : ByteArray) : mixOf (T ++ [x]) nm = if isVar nm x = true then (mixOf T nm || ((firstW T nm).isSome && firstW T nm != some x.width)) else mixOf T nm := by
  cases h : firstW T nm with
  | none =>
    rw [mixOf_none h]
    unfold mixOf
    rw [firstW_app, h]
    rw [List.any_append]
    have h1 : T.any (fun y => isVar nm y && (none : Option Int).or (if isVar nm x = true then some x.width else none) != some y.width) = false := by
      rw [List.any_eq_false]
      intro y hy
      simp [firstW_none h y hy]
    rw [h1]
    cases hx : isVar nm x <;> simp [hx]
  | some f =>
    unfold mixOf
    rw [firstW_app, h, List.any_append]
    cases hx : isVar nm x <;> simp [hx]
theorem clash_mix (T : List Node) (x : Node) : clashS x T = (mixOf T x.name || ((firstW T x.name).isSome && firstW T x.name != some x.width)) := by
  rw [Bool.eq_iff_iff]
  unfold clashS mixOf
  rw [Bool.or_eq_true, List.any_eq_true, List.any_eq_true]
  constructor
  · rintro ⟨y, hy, h⟩
    simp only [Bool.and_eq_true, beq_iff_eq, bne_iff_ne, ne_eq] at h
    have hv : isVar x.name y = true := by unfold isVar; simp [h.1.1, h.1.2]
    cases hf : firstW T x.name with
    | none => rw [firstW_none hf y hy] at hv; cases hv
    | some f =>
      by_cases e : f = x.width
      · left
        refine ⟨y, hy, ?_⟩
        simp only [hv, Bool.true_and, bne_iff_ne, ne_eq, Option.some.injEq]
        intro e2; exact h.2 (by rw [← e2, e])
      · right
        simp [e]
  · rintro (⟨y, hy, h⟩ | h)
    · simp only [Bool.and_eq_true, bne_iff_ne, ne_eq] at h
      cases hf : firstW T x.name with
      | none => rw [firstW_none hf y hy] at h; cases h.1
      | some f =>
        rw [hf] at h
        by_cases e : f = x.width
        · refine ⟨y, hy, ?_⟩
          have h1 := h.1
          unfold isVar at h1
          simp only [Bool.and_eq_true, beq_iff_eq] at h1
          simp only [Bool.and_eq_true, beq_iff_eq, bne_iff_ne, ne_eq]
          exact ⟨⟨h1.1, h1.2⟩, fun e2 => h.2 (by rw [e2, e])⟩
        · obtain ⟨z, hz, h1, h2⟩ := firstW_some hf
          refine ⟨z, hz, ?_⟩
          unfold isVar at h1
          simp only [Bool.and_eq_true, beq_iff_eq] at h1
          simp only [Bool.and_eq_true, beq_iff_eq, bne_iff_ne, ne_eq]
          exact ⟨⟨h1.1, h1.2⟩, fun e2 => e (by rw [← h2, e2])⟩
    · cases hf : firstW T x.name with
      | none => rw [hf] at h; simp at h
      | some f =>
        rw [hf] at h
        obtain ⟨z, hz, h1, h2⟩ := firstW_some hf
        refine ⟨z, hz, ?_⟩
        unfold isVar at h1
        simp only [Bool.and_eq_true, beq_iff_eq] at h1
        simp only [Bool.and_eq_true, beq_iff_eq, bne_iff_ne, ne_eq]
        exact ⟨⟨h1.1, h1.2⟩, fun e2 => by simp [← h2, e2] at h⟩

/-- A row of bools that was made whole. -/
def BoolAt (w : World) (g : Nat) (l : List Bool) : Prop := w.heap[g]? = some (.cells (l.map Value.bool).toArray 4 (0, 0))
def IntAt (w : World) (g : Nat) (l : List Int) : Prop := w.heap[g]? = some (.cells (l.map (Value.int .i64)).toArray 3 (0, 0))
theorem infoBool : (Tryz.prog.info? 4).map (fun i => (i.zero, i.size, i.bytes)) = some (some (.bool false), 1, 1) := by kernel_rfl
theorem make_bool (w : World) (n : Nat) (hn : n ≤ 1000000) : (Instr.makeSlice 146 (.int .i64 n) (.int .i64 n)).run Tryz.prog w = .ok (.slice (some ⟨w.heap.size, 0, none⟩) n n) (w.alloc (.cells (Array.replicate n (.bool false)) 4)) := by
  obtain ⟨i0, hi, hz0, hz1, hz2⟩ := info_parts infoBool
  have h := run_make (P := Tryz.prog) w 146 4 i0 (.bool false) Tryz.underlying146 hi hz0 .i64 .i64 n n (by omega) (Int.le_refl _) (by rw [hz2]; omega) (by omega)
  simp only [Int.toNat_natCast] at h
  rw [h, hz1, Nat.mul_one]
  have e : madeCells (Value.bool false).cells n = Array.replicate n (.bool false) := by
    apply Array.ext'
    rw [show (Value.bool false).cells = #[.bool false] from rfl, toList_madeCells_one]
    simp
  rw [e]
theorem make_ints (w : World) (n : Nat) (hn : n ≤ 1000000) : (Instr.makeSlice 24 (.int .i64 n) (.int .i64 n)).run Tryz.prog w = .ok (.slice (some ⟨w.heap.size, 0, none⟩) n n) (w.alloc (.cells (Array.replicate n (.int .i64 0)) 3)) := by
  obtain ⟨i0, hi, hz0, hz1, hz2⟩ := info_parts infoInt
  have h := run_make (P := Tryz.prog) w 24 3 i0 (.int .i64 0) Tryz.underlying24 hi hz0 .i64 .i64 n n (by omega) (Int.le_refl _) (by rw [hz2]; omega) (by omega)
  simp only [Int.toNat_natCast] at h
  rw [h, hz1, Nat.mul_one]
  have e : madeCells (Value.int .i64 0).cells n = Array.replicate n (.int .i64 0) := by
    apply Array.ext'
    rw [show (Value.int .i64 0).cells = #[.int .i64 0] from rfl, toList_madeCells_one]
    simp
  rw [e]
theorem repB (n : Nat) : Array.replicate n (Value.bool false) = ((List.replicate n false).map Value.bool).toArray := by simp
theorem repI (n : Nat) : Array.replicate n (Value.int .i64 0) = ((List.replicate n (0 : Int)).map (Value.int .i64)).toArray := by simp
theorem BoolAt.fr {M : Nat → Prop} {w w' : World} {g : Nat} {l : List Bool} (h : BoolAt w g l) (hf : Fr M w w') (hm : ¬ M g) : BoolAt w' g l := hf.at hm h
theorem IntAt.fr {M : Nat → Prop} {w w' : World} {g : Nat} {l : List Int} (h : IntAt w g l) (hf : Fr M w w') (hm : ¬ M g) : IntAt w' g l := hf.at hm h
theorem BoolAt.cell {w : World} {g : Nat} {l : List Bool} (h : BoolAt w g l) {k : Nat} (hk : k < l.length) : w.cell? ⟨g, k, none⟩ = some (.bool (l.getD k false)) := by
  unfold BoolAt at h
  simp [World.cell?, h, List.getD_eq_getElem?_getD, List.getElem?_eq_getElem hk]
theorem IntAt.cell {w : World} {g : Nat} {l : List Int} (h : IntAt w g l) {k : Nat} (hk : k < l.length) : w.cell? ⟨g, k, none⟩ = some (.int .i64 (l.getD k 0)) := by
  unfold IntAt at h
  simp [World.cell?, h, List.getD_eq_getElem?_getD, List.getElem?_eq_getElem hk]
theorem BoolAt.free {w : World} {g : Nat} {l : List Bool} (h : BoolAt w g l) (k : Nat) : w.frozen? ⟨g, k, none⟩ = false := by unfold BoolAt at h; simp [World.frozen?, h]
theorem IntAt.free {w : World} {g : Nat} {l : List Int} (h : IntAt w g l) (k : Nat) : w.frozen? ⟨g, k, none⟩ = false := by unfold IntAt at h; simp [World.frozen?, h]
theorem BoolAt.set {w : World} {g : Nat} {l : List Bool} (h : BoolAt w g l) (k : Nat) (b : Bool) : BoolAt (w.setCell ⟨g, k, none⟩ (.bool b)) g (l.set k b) := by
  have := set_at h k (.bool b)
  unfold BoolAt
  rw [this, List.setIfInBounds_toArray, List.map_set]
theorem IntAt.set {w : World} {g : Nat} {l : List Int} (h : IntAt w g l) (k : Nat) (b : Int) : IntAt (w.setCell ⟨g, k, none⟩ (.int .i64 b)) g (l.set k b) := by
  have := set_at h k (.int .i64 b)
  unfold IntAt
  rw [this, List.setIfInBounds_toArray, List.map_set]
theorem BoolAt.lt {w : World} {g : Nat} {l : List Bool} (h : BoolAt w g l) : g < w.heap.size := (Array.getElem?_eq_some_iff.1 h).1
theorem IntAt.lt {w : World} {g : Nat} {l : List Int} (h : IntAt w g l) : g < w.heap.size := (Array.getElem?_eq_some_iff.1 h).1
/-- The row while it is filled. -/
def fillB (P : Nat → Bool) (k n : Nat) : List Bool := (List.range k).map P ++ List.replicate (n - k) false
theorem fillB_len (P : Nat → Bool) {k n : Nat} (h : k ≤ n) : (fillB P k n).length = n := by simp [fillB]; omega
theorem fillB_on {P : Nat → Bool} {k n : Nat} (h : k < n) (hp : P k = true) : (fillB P k n).set k true = fillB P (k + 1) n := by
  unfold fillB
  rw [List.range_succ, List.map_append, List.set_append_right _ _ (by simp)]
  simp only [List.length_map, List.length_range, Nat.sub_self, List.map_cons, List.map_nil, List.append_assoc, hp]
  congr 1
  rw [show n - k = (n - (k + 1)) + 1 by omega, List.replicate_succ]
  rfl
theorem fillB_off {P : Nat → Bool} {k n : Nat} (h : k < n) (hp : P k = false) : fillB P k n = fillB P (k + 1) n := by
  unfold fillB
  rw [List.range_succ, List.map_append, List.append_assoc]
  congr 1
  rw [show n - k = (n - (k + 1)) + 1 by omega, List.replicate_succ]
  simp [hp]
theorem fillB_all (P : Nat → Bool) (n : Nat) : fillB P n n = (List.range n).map P := by simp [fillB]
end Go.Proofs.YtndfncaoejbkiaaGreatDoor
end
section
/- The walk of invariant's malformed. -/
namespace Go.Proofs.YtndfncaoejbkiaaGreatDoor
open Go.RowKit
set_option maxRecDepth 100000

abbrev strMap (w : World) (b : Nat) (g : ByteArray → Option Int) : Prop := MpIs .string Value.string (Value.int .i64) w b g
abbrev flagMap (w : World) (b : Nat) (g : ByteArray → Option Bool) : Prop := MpIs .string Value.string Value.bool w b g
theorem RdD.more {M : Nat → Prop} {w : World} {sN sL sR : Value} {d : Dmp} (h : RdD M w sN sL sR d) : RdD (fun k => M k ∨ w.heap.size ≤ k) w sN sL sR d := ⟨h.nodes.more, h.links.more, h.roots.more⟩
/-- The state of malformed's loop. -/
structure MalS (M : Nat → Prop) (w : World) (sN sL sR : Value) (d : Dmp) (bc ba br : Nat) (c : Int) (l : List Flw) (g bw bm : Nat) (k : Nat) (gw : ByteArray → Option Int) (gm : ByteArray → Option Bool) (W : World) : Prop where
  nums : g = w.heap.size + 1 ∧ bw = w.heap.size + 2 ∧ bm = w.heap.size + 3
  fr : Fr M w W
  rd : RdD (fun q => M q ∨ w.heap.size ≤ q) W sN sL sR d
  note : ∃ M', NoteAt M' W bc ba br (c + (fls 1 (malfAt (nsOf d)) k).length) (l ++ fls 1 (malfAt (nsOf d)) k) ∧ Gr M M' w ∧ (∀ j, w.heap.size ≤ j → j < w.heap.size + 4 → ¬ M' j)
  box : W.heap[w.heap.size]? = some (.cells (dumpCells sN sL sR) 26 (0, 0))
  bad : BoolAt W g (fillB (malfAt (nsOf d)) k d.nodes.length)
  wd : strMap W bw gw
  mx : flagMap W bm gm
  lt : ∀ k, M k → k < w.heap.size
section
variable {M : Nat → Prop} {w : World} {sN sL sR : Value} {d : Dmp} {bc ba br : Nat} {c : Int} {l : List Flw} {g bw bm : Nat} {k : Nat} {gw : ByteArray → Option Int} {gm : ByteArray → Option Bool} {W W' : World}
theorem MalS.step (h : MalS M w sN sL sR d bc ba br c l g bw bm k gw gm W) (hf : Fr NoB W W') : MalS M w sN sL sR d bc ba br c l g bw bm k gw gm W' := by
  obtain ⟨h0, h1, h2, ⟨M', h3, h3', h3''⟩, h4, h5, h6, h7, h8⟩ := h
  exact ⟨h0, h1.step hf, h2.step hf, ⟨M', h3.step hf, h3', h3''⟩, hf.at (fun h => h) h4, h5.fr hf (fun h => h), h6.fr hf (fun h => h), h7.fr hf (fun h => h), h8⟩
theorem MalS.off (h : MalS M w sN sL sR d bc ba br c l g bw bm k gw gm W) (hk : k < d.nodes.length) (hp : malfAt (nsOf d) k = false) : MalS M w sN sL sR d bc ba br c l g bw bm (k + 1) gw gm W := by
  obtain ⟨h0, h1, h2, h3, h4, h5, h6, h7, h8⟩ := h
  rw [← fls_off hp] at h3
  rw [fillB_off hk hp] at h5
  exact ⟨h0, h1, h2, h3, h4, h5, h6, h7, h8⟩
/-- Only blocks of its own turn: not the bad row, not the report. -/
theorem MalS.turn (h : MalS M w sN sL sR d bc ba br c l g bw bm k gw gm W) {q : Nat} (hq : q = bw ∨ q = bm) (hf : Fr (fun j => j = q) W W') {gw' : ByteArray → Option Int} {gm' : ByteArray → Option Bool} (h6' : strMap W' bw gw') (h7' : flagMap W' bm gm') : MalS M w sN sL sR d bc ba br c l g bw bm k gw' gm' W' := by
  obtain ⟨h0, h1, h2, ⟨M', h3, h3', h3''⟩, h4, h5, h6, h7, h8⟩ := h
  have hba : ba ≠ q := fun e => by
    rcases hq with rfl | rfl
    · exact h6.ne_cells h3.fn e
    · exact h7.ne_cells h3.fn e
  refine ⟨h0, h1.trans' hf (fun j hj e => by omega), h2.fr hf (fun j _ e => .inr (by rw [show j = q from e]; omega)), ⟨M', h3.fr hf (fun j hj e => h3'' q (by omega) (by omega) (by rw [← show j = q from e]; exact hj)) hba, h3', h3''⟩, hf.at (by omega) h4, h5.fr hf (by omega), h6', h7', h8⟩
theorem MalS.mark (h : MalS M w sN sL sR d bc ba br c l g bw bm k gw gm W) (hk : k < d.nodes.length) (hp : malfAt (nsOf d) k = true) :
    ∃ M', NoteAt M' (W.setCell ⟨g, k, none⟩ (.bool true)) bc ba br (c + (fls 1 (malfAt (nsOf d)) k).length) (l ++ fls 1 (malfAt (nsOf d)) k) ∧
      ∀ W2 M2, NoteAt M2 W2 bc ba br (c + (fls 1 (malfAt (nsOf d)) k).length + 1) (l ++ fls 1 (malfAt (nsOf d)) k ++ [⟨1, k⟩]) → Gr M' M2 (W.setCell ⟨g, k, none⟩ (.bool true)) → Fr M' (W.setCell ⟨g, k, none⟩ (.bool true)) W2 → MalS M w sN sL sR d bc ba br c l g bw bm (k + 1) gw gm W2 := by
  obtain ⟨h0, h1, h2, ⟨M', h3, h3', h3''⟩, h4, h5, h6, h7, h8⟩ := h
  have hf : Fr (fun j => j = g) W (W.setCell ⟨g, k, none⟩ (.bool true)) := (Fr.refl (fun j => j = g) W).setCell (p := ⟨g, k, none⟩) (fun _ => rfl) _
  have hba : ba ≠ g := ne_of_types h3.fn h5 (by decide)
  have hbw := h6.lt
  have hbm := h7.lt
  have b5 := h5.set k true
  have n6 : bw ≠ g := by omega
  have n7 : bm ≠ g := by omega
  refine ⟨M', h3.fr hf (fun j hj e => h3'' g (by omega) (by omega) (by rw [← show j = g from e]; exact hj)) hba, fun W2 M2 hn hg hf2 => ?_⟩
  have hsz : (W.setCell ⟨g, k, none⟩ (.bool true)).heap.size = W.heap.size := by simp [World.setCell]
  have k2 : ∀ j, w.heap.size ≤ j → j < w.heap.size + 4 → ¬ M' j := h3''
  refine ⟨h0, (h1.trans' hf (fun j hj e => by omega)).trans' hf2 (fun j hj e => (h3' j e).resolve_right (by omega)), (h2.fr hf (fun j _ e => .inr (by rw [show j = g from e]; omega))).fr hf2 (fun j _ e => h3' j e), ⟨M2, ?_, fun j hj => ?_, fun j a1 a2 a3 => ?_⟩, hf2.at (k2 _ (by omega) (by omega)) (hf.at (by omega) h4), ?_, (h6.fr hf n6).fr hf2 (k2 _ (by omega) (by omega)), (h7.fr hf n7).fr hf2 (k2 _ (by omega) (by omega)), h8⟩
  · rw [fls_on hp, List.length_append, ← List.append_assoc]
    simpa [Int.add_assoc] using hn
  · rcases hg j hj with h9 | h9
    · exact h3' j h9
    · exact .inr (by have := h1.size; omega)
  · rcases hg j a3 with h9 | h9
    · exact h3'' j a1 a2 h9
    · omega
  · rw [← fillB_on hk hp]
    exact b5.fr hf2 (k2 _ (by omega) (by omega))
end

set_option maxHeartbeats 4000000 in
theorem malformed_any (M : Nat → Prop) (sN sL sR : Value) (d : Dmp) (w : World) (bc ba br : Nat) (c : Int) (l : List Flw) (hd : RdD M w sN sL sR d) (hna : NoteAt M w bc ba br c l) (hlen : d.nodes.length ≤ 1000000) (hll : l.length ≤ 10000000) (hc0 : 0 ≤ c) (hc1 : c ≤ 10000000) :
    Calls Tryz.prog 88 #[dumpV sN sL sR, .func (.func 87) #[] #[.pointer (some ⟨bc, 0, none⟩), .pointer (some ⟨ba, 0, none⟩)]] w fun e w' => ∃ g, e = .returned (.slice (some ⟨g, 0, none⟩) d.nodes.length d.nodes.length) ∧ BoolAt w' g ((List.range d.nodes.length).map (malfAt (nsOf d))) ∧
      (∃ M', NoteAt M' w' bc ba br (c + (fls 1 (malfAt (nsOf d)) d.nodes.length).length) (l ++ fls 1 (malfAt (nsOf d)) d.nodes.length) ∧ Gr M M' w ∧ ¬ M' g) ∧ w.heap.size ≤ g ∧ Fr M w w' := by
  obtain ⟨p, c1, hp⟩ := hd.nodes.form
  subst hp
  have hlt := hna.lt
  have S0 : Hid (MalS M w (.slice p d.nodes.length c1) sL sR d bc ba br c l (w.heap.size + 1) (w.heap.size + 1 + 1) (w.heap.size + 1 + 1 + 1) 0 (fun _ => none) (fun _ => none) ((((w.alloc (.cells (dumpCells (.slice p d.nodes.length c1) sL sR) 26)).alloc (.cells (Array.replicate d.nodes.length (.bool false)) 4)).alloc (.map #[] 0)).alloc (.map #[] 0))) := by
    have f4 : Fr NoB w ((((w.alloc (.cells (dumpCells (.slice p d.nodes.length c1) sL sR) 26)).alloc (.cells (Array.replicate d.nodes.length (.bool false)) 4)).alloc (.map #[] 0)).alloc (.map #[] 0)) := ((((Fr.refl NoB w).alloc _).alloc _).alloc _).alloc _
    refine ⟨⟨rfl, rfl, rfl⟩, f4.mono (fun _ _ h => h.elim), hd.more.step f4, ⟨M, by simpa [fls] using hna.step f4, Gr.refl _ _, fun j h1 h2 h3 => by have := hlt j h3; omega⟩, ?_, ?_, ?_, ?_, hlt⟩
    · exact at_old (at_old (at_old (at_new w _) _) _) _
    · show BoolAt _ _ (List.replicate d.nodes.length false)
      unfold BoolAt
      rw [← repB]
      exact at_old (at_old (at_new' (by simp)) _) _
    · have h := MpIs.new .string Value.string (Value.int .i64) ((w.alloc (.cells (dumpCells (.slice p d.nodes.length c1) sL sR) 26)).alloc (.cells (Array.replicate d.nodes.length (.bool false)) 4))
      simp only [World.size_alloc] at h
      exact h.fr ((Fr.refl NoB _).alloc _) (fun h => h)
    · have h := MpIs.new .string Value.string Value.bool (((w.alloc (.cells (dumpCells (.slice p d.nodes.length c1) sL sR) 26)).alloc (.cells (Array.replicate d.nodes.length (.bool false)) 4)).alloc (.map #[] 0))
      simp only [World.size_alloc] at h
      exact h
  have hmm := @run_makeMap Tryz.prog
  have hmk := fun w => make_bool w d.nodes.length hlen
  obtain ⟨w0, hw0⟩ : ∃ w0, (((w.alloc (.cells (dumpCells (.slice p d.nodes.length c1) sL sR) 26)).alloc (.cells (Array.replicate d.nodes.length (.bool false)) 4)).alloc (.map #[] 0)).alloc (.map #[] 0) = w0 := ⟨_, rfl⟩
  rw [hw0] at S0
  have HW0 := hid hw0
  clear hd hna hw0 hlt
  unfold dumpV
  go_enter Tryz.func88, Tryz.ntmps88
  go_wp2
  clear hmm hmk
  rw [HW0.out]
  go_loopw [22] (fun j wr => ∃ (k : Nat), k ≤ d.nodes.length ∧ j = .int .i64 k ∧ (∃ gw gm, MalS M w (.slice p d.nodes.length c1) sL sR d bc ba br c l (w.heap.size + 1) (w.heap.size + 1 + 1) (w.heap.size + 1 + 1 + 1) k gw gm wr ∧ (∀ nm, gw nm = firstW ((nsOf d).take k) nm) ∧ ∀ nm, (gm nm).getD false = mixOf ((nsOf d).take k) nm)) (fun j _ => d.nodes.length - (intOf j).toNat)
  case atStart => exact ⟨0, Nat.zero_le _, rfl, _, _, S0.out, fun _ => rfl, fun _ => rfl⟩
  case round =>
    obtain ⟨k, hk, rfl, gw, gm, hs, hgw, hgm⟩ := hrel
    have S := hid hs
    have GW := hid hgw
    have GM := hid hgm
    clear hs hgw hgm S0 HW0
    by_cases hlt : k < d.nodes.length
    · obtain ⟨b, off, rfl, e0, e1, e2, e3, e4, ha⟩ := S.out.rd.nodes.nodeK hlt
      have HX := hid (nsOf_at hlt)
      obtain ⟨x, hx⟩ : ∃ x, d.nodes[k] = x := ⟨_, rfl⟩
      rw [hx] at e0 e1 e2 e3 e4 ha HX
      obtain ⟨xn, xs⟩ := x
      simp only at e0 e1 e2 e3 e4 ha HX
      obtain ⟨xa, xc, hv⟩ := ha.form
      subst hv
      have HA := hid ha
      clear hx ha
      go_wp2_with fail
      clear e0 e1 e2 e3 e4
      have SB := hid (S.out.step (((Fr.refl NoB wr).alloc (.cells (nodeCells xn (.slice xa xn.args.length xc)) 44))))
      have hb := at_new wr (.cells (nodeCells xn (.slice xa xn.args.length xc)) 44)
      refine (formed_any _ xn (.slice xa xn.args.length xc) _ (HA.out.fr ((Fr.refl NoB wr).alloc _) (fun _ _ h => h.elim))).mono ?_
      rintro e w1 ⟨rfl, hf⟩
      obtain ⟨x0, x1, x2, x3, x4, xf, xl⟩ := five_of (hf.at (fun h => h) hb)
      have S1 := hid (SB.out.step hf)
      have HB := hid (hf.at (fun h => h) hb)
      have HSZ : Hid (w.heap.size + 4 ≤ wr.heap.size) := by
        have h1 := S.out.mx
        obtain ⟨gm, h1, _⟩ := h1
        have := h1.lt
        show _ ≤ _
        omega
      have HF : Hid (Fr NoB wr w1) := ((Fr.refl NoB wr).alloc _).step hf
      clear hf hb SB S
      have TK : Hid ((nsOf d).take (k + 1) = (nsOf d).take k ++ [xn]) := by show _ = _; rw [List.take_add_one, HX.out]; rfl
      have HML : Hid (malfAt (nsOf d) k = malfS xn ((nsOf d).take k)) := by show _ = _; unfold malfAt; rw [HX.out]; rfl
      have hbox : wr.heap.size ≠ w.heap.size + 1 + 1 ∧ wr.heap.size ≠ w.heap.size + 1 + 1 + 1 := by have := HSZ.out; omega
      have HBX := hid hbox
      clear hbox
      by_cases hop : xn.op = 1
      rotate_left
      · have hq : (xn.op == 1) = false := by simpa using hop
        have HOP := hid hq
        have GW1 : Hid (∀ nm, gw nm = firstW ((nsOf d).take (k + 1)) nm) := by
          intro nm
          rw [TK.out, firstW_app, GW.out nm]
          simp [isVar, HOP.out]
        have GM1 : Hid (∀ nm, (gm nm).getD false = mixOf ((nsOf d).take (k + 1)) nm) := by
          intro nm
          rw [TK.out, mixOf_app, GM.out nm]
          simp [isVar, HOP.out]
        clear hop
        cases hfm : formedS xn with
        | true =>
          have HMF : Hid (malfAt (nsOf d) k = false) := by show _ = _; rw [HML.out, malfS, hfm, HOP.out]; rfl
          clear hfm
          go_wp2
          go_roundw
          case rel => exact ⟨k + 1, by omega, by go_num, _, _, S1.out.off hlt HMF.out, GW1.out, GM1.out⟩
          case measure => simp [intOf]; omega
        | false =>
          have HMT : Hid (malfAt (nsOf d) k = true) := by show _ = _; rw [HML.out, malfS, hfm]; rfl
          clear hfm
          obtain ⟨bv, ck⟩ : ∃ bv, w1.cell? ⟨w.heap.size + 1, k, none⟩ = some (.bool bv) := ⟨_, S1.out.bad.cell (by rw [fillB_len _ (by omega)]; exact hlt)⟩
          have fk := S1.out.bad.free k
          obtain ⟨M3, n3, k3⟩ := S1.out.mark hlt HMT.out
          have HN3 := hid n3
          have HK3 := hid k3
          clear n3 k3
          go_wp2_with fail
          have hfl := fls_le 1 (malfAt (nsOf d)) k
          refine (note_any M3 _ bc ba br _ _ 1 k HN3.out (by rw [List.length_append]; omega) (by omega) (by omega)).mono ?_
          rintro e w9 ⟨rfl, ⟨M4, n4, g4⟩, f4⟩
          have S9 := hid (HK3.out w9 M4 n4 g4 f4)
          clear n4 g4 f4 hfl
          go_wp2
          go_roundw
          case rel => exact ⟨k + 1, by omega, by go_num, _, _, S9.out, GW1.out, GM1.out⟩
          case measure => simp [intOf]; omega
      · have hq : (xn.op == 1) = true := by simpa using hop
        have HOP := hid hq
        have HVN : Hid (∀ nm, isVar nm xn = decide (nm = xn.name)) := by
          intro nm
          unfold isVar
          rw [HOP.out, Bool.true_and, Bool.eq_iff_iff]
          simp only [beq_iff_eq, decide_eq_true_eq]
          exact ⟨fun e => (toList_inj e).symm, fun e => by rw [e]⟩
        clear hop
        have lkw := S1.out.wd.look (P := Tryz.prog) kkString Tryz.underlying85 Tryz.underlying9 (z := .int .i64 0) (by kernel_rfl) xn.name true
        cases hg : gw xn.name with
        | none =>
          rw [hg] at lkw
          have HG := hid hg
          obtain ⟨w2, p1, p2, p3⟩ := S1.out.wd.put (P := Tryz.prog) kkString Tryz.underlying85 Tryz.underlying9 xn.name xn.width
          have S2 := hid (S1.out.turn (.inl rfl) p3 p2 (S1.out.mx.fr p3 (by omega)))
          obtain ⟨y0, y1, y2, y3, y4, yf, yl⟩ := five_of (p3.at HBX.out.1 HB.out)
          have hmix : mixOf ((nsOf d).take k) xn.name = false := mixOf_none (by rw [← GW.out]; exact hg)
          have lkm := S2.out.mx.look (P := Tryz.prog) kkString Tryz.underlying154 Tryz.underlying9 (z := .bool false) (by kernel_rfl) xn.name false
          have hval : ((gm xn.name).map Value.bool).getD (.bool false) = .bool false := by
            have := GM.out xn.name
            rw [hmix] at this
            cases h : gm xn.name with
            | none => rfl
            | some b => rw [h] at this; simp at this; rw [this]; rfl
          simp only [Bool.false_eq_true, if_false, hval] at lkm
          have HMIX := hid hmix
          have GW1 : Hid (∀ nm, (if nm = xn.name then some xn.width else gw nm) = firstW ((nsOf d).take (k + 1)) nm) := by
            intro nm
            rw [TK.out, firstW_app, ← GW.out nm, HVN.out]
            by_cases e : nm = xn.name
            · subst e; rw [HG.out]; simp
            · simp [e]
          have GM1 : Hid (∀ nm, (gm nm).getD false = mixOf ((nsOf d).take (k + 1)) nm) := by
            intro nm
            rw [TK.out, mixOf_app, GM.out nm, HVN.out]
            by_cases e : nm = xn.name
            · subst e; rw [← GW.out, HG.out]; simp
            · simp [e]
          have HCL : Hid (clashS xn ((nsOf d).take k) = false) := by show _ = _; rw [clash_mix, HMIX.out, ← GW.out, HG.out]; rfl
          clear hg p2 p3 hmix hval x2 x4 y0 y2 y4
          cases hfm : formedS xn with
          | true =>
            have HMF : Hid (malfAt (nsOf d) k = false) := by show _ = _; rw [HML.out, malfS, hfm, HCL.out]; simp
            clear hfm
            go_wp2
            go_roundw
            case rel => exact ⟨k + 1, by omega, by go_num, _, _, S2.out.off hlt HMF.out, GW1.out, GM1.out⟩
            case measure => simp [intOf]; omega
          | false =>
            have HMT : Hid (malfAt (nsOf d) k = true) := by show _ = _; rw [HML.out, malfS, hfm]; rfl
            clear hfm
            obtain ⟨bv, ck⟩ : ∃ bv, w2.cell? ⟨w.heap.size + 1, k, none⟩ = some (.bool bv) := ⟨_, S2.out.bad.cell (by rw [fillB_len _ (by omega)]; exact hlt)⟩
            have fk := S2.out.bad.free k
            obtain ⟨M3, n3, k3⟩ := S2.out.mark hlt HMT.out
            have HN3 := hid n3
            have HK3 := hid k3
            clear n3 k3
            go_wp2_with fail
            have hfl := fls_le 1 (malfAt (nsOf d)) k
            refine (note_any M3 _ bc ba br _ _ 1 k HN3.out (by rw [List.length_append]; omega) (by omega) (by omega)).mono ?_
            rintro e w9 ⟨rfl, ⟨M4, n4, g4⟩, f4⟩
            have S9 := hid (HK3.out w9 M4 n4 g4 f4)
            clear n4 g4 f4 hfl
            go_wp2
            go_roundw
            case rel => exact ⟨k + 1, by omega, by go_num, _, _, S9.out, GW1.out, GM1.out⟩
            case measure => simp [intOf]; omega
        | some f =>
          rw [hg] at lkw
          have HG := hid hg
          have lkm := S1.out.mx.look (P := Tryz.prog) kkString Tryz.underlying154 Tryz.underlying9 (z := .bool false) (by kernel_rfl) xn.name false
          obtain ⟨mv, hmv⟩ : ∃ mv, mixOf ((nsOf d).take k) xn.name = mv := ⟨_, rfl⟩
          have hval : ((gm xn.name).map Value.bool).getD (.bool false) = .bool mv := by
            have := GM.out xn.name
            rw [hmv] at this
            cases h : gm xn.name with
            | none => rw [h] at this; simp at this; rw [this]; rfl
            | some b => rw [h] at this; simp at this; rw [this]; rfl
          simp only [Bool.false_eq_true, if_false, hval] at lkm
          have HCL : Hid (clashS xn ((nsOf d).take k) = (mv || f != xn.width)) := by
            show _ = _
            rw [clash_mix, hmv, ← GW.out, HG.out]
            simp only [Option.isSome_some, Bool.true_and]
            congr 1
          have HMV := hid hmv
          clear hg hmv hval x2 x4
          by_cases hbad : mv = true ∨ f ≠ xn.width
          · obtain ⟨w2, p1, p2, p3⟩ := S1.out.mx.put (P := Tryz.prog) kkString Tryz.underlying154 Tryz.underlying9 xn.name true
            have S2 := hid (S1.out.turn (.inr rfl) p3 (S1.out.wd.fr p3 (by omega)) p2)
            have HCT : Hid ((mv || f != xn.width) = true) := by
              show _ = _
              rcases hbad with h | h
              · rw [h]; rfl
              · simp [h]
            have HMT : Hid (malfAt (nsOf d) k = true) := by show _ = _; rw [HML.out, malfS, HCL.out, HCT.out, HOP.out]; simp
            have GW1 : Hid (∀ nm, gw nm = firstW ((nsOf d).take (k + 1)) nm) := by
              intro nm
              rw [TK.out, firstW_app, ← GW.out nm, HVN.out]
              by_cases e : nm = xn.name
              · subst e; rw [HG.out]; simp
              · simp [e]
            have GM1 : Hid (∀ nm, (if nm = xn.name then some true else gm nm).getD false = mixOf ((nsOf d).take (k + 1)) nm) := by
              intro nm
              rw [TK.out, mixOf_app, HVN.out]
              by_cases e : nm = xn.name
              · subst e
                rw [← GW.out, HG.out, HMV.out]
                have := HCT.out
                simp only [if_true, Option.getD_some, decide_true]
                rw [show ((some f).isSome && some f != some xn.width) = (f != xn.width) by simp only [Option.isSome_some, Bool.true_and]; rw [Bool.eq_iff_iff]; simp]
                exact this.symm
              · simp [e, GM.out nm]
            cases mv with
            | true =>
              clear hbad p2 p3
              obtain ⟨bv, ck⟩ : ∃ bv, w2.cell? ⟨w.heap.size + 1, k, none⟩ = some (.bool bv) := ⟨_, S2.out.bad.cell (by rw [fillB_len _ (by omega)]; exact hlt)⟩
              have fk := S2.out.bad.free k
              obtain ⟨M3, n3, k3⟩ := S2.out.mark hlt HMT.out
              have HN3 := hid n3
              have HK3 := hid k3
              clear n3 k3
              go_wp2_with fail
              have hfl := fls_le 1 (malfAt (nsOf d)) k
              refine (note_any M3 _ bc ba br _ _ 1 k HN3.out (by rw [List.length_append]; omega) (by omega) (by omega)).mono ?_
              rintro e w9 ⟨rfl, ⟨M4, n4, g4⟩, f4⟩
              have S9 := hid (HK3.out w9 M4 n4 g4 f4)
              clear n4 g4 f4 hfl
              go_wp2
              go_roundw
              case rel => exact ⟨k + 1, by omega, by go_num, _, _, S9.out, GW1.out, GM1.out⟩
              case measure => simp [intOf]; omega
            | false =>
              have hfw : (f != xn.width) = true := by simpa using hbad
              clear hbad p2 p3
              obtain ⟨bv, ck⟩ : ∃ bv, w2.cell? ⟨w.heap.size + 1, k, none⟩ = some (.bool bv) := ⟨_, S2.out.bad.cell (by rw [fillB_len _ (by omega)]; exact hlt)⟩
              have fk := S2.out.bad.free k
              obtain ⟨M3, n3, k3⟩ := S2.out.mark hlt HMT.out
              have HN3 := hid n3
              have HK3 := hid k3
              clear n3 k3
              go_wp2_with fail
              have hfl := fls_le 1 (malfAt (nsOf d)) k
              refine (note_any M3 _ bc ba br _ _ 1 k HN3.out (by rw [List.length_append]; omega) (by omega) (by omega)).mono ?_
              rintro e w9 ⟨rfl, ⟨M4, n4, g4⟩, f4⟩
              have S9 := hid (HK3.out w9 M4 n4 g4 f4)
              clear n4 g4 f4 hfl
              go_wp2
              go_roundw
              case rel => exact ⟨k + 1, by omega, by go_num, _, _, S9.out, GW1.out, GM1.out⟩
              case measure => simp [intOf]; omega
          · have hmf : mv = false := by cases mv <;> simp_all
            have hfw : f = xn.width := by by_cases e : f = xn.width; exact e; exact absurd (.inr e) hbad
            subst hmf
            have hfw2 : (f != xn.width) = false := by simpa using hfw
            have HCF : Hid (clashS xn ((nsOf d).take k) = false) := by show _ = _; rw [HCL.out, hfw2]; rfl
            have GW1 : Hid (∀ nm, gw nm = firstW ((nsOf d).take (k + 1)) nm) := by
              intro nm
              rw [TK.out, firstW_app, ← GW.out nm, HVN.out]
              by_cases e : nm = xn.name
              · subst e; rw [HG.out]; simp
              · simp [e]
            have HFW2 := hid hfw2
            have GM1 : Hid (∀ nm, (gm nm).getD false = mixOf ((nsOf d).take (k + 1)) nm) := by
              intro nm
              rw [TK.out, mixOf_app, GM.out nm, HVN.out]
              by_cases e : nm = xn.name
              · subst e
                rw [← GW.out, HG.out, HMV.out, show ((some f).isSome && some f != some xn.width) = (f != xn.width) by simp only [Option.isSome_some, Bool.true_and]; rw [Bool.eq_iff_iff]; simp, HFW2.out]
                simp
              · simp [e]
            clear hbad hfw
            cases hfm : formedS xn with
            | true =>
              have HMF : Hid (malfAt (nsOf d) k = false) := by show _ = _; rw [HML.out, malfS, hfm, HCF.out]; simp
              clear hfm
              go_wp2
              go_roundw
              case rel => exact ⟨k + 1, by omega, by go_num, _, _, S1.out.off hlt HMF.out, GW1.out, GM1.out⟩
              case measure => simp [intOf]; omega
            | false =>
              have HMT : Hid (malfAt (nsOf d) k = true) := by show _ = _; rw [HML.out, malfS, hfm]; rfl
              clear hfm
              obtain ⟨bv, ck⟩ : ∃ bv, w1.cell? ⟨w.heap.size + 1, k, none⟩ = some (.bool bv) := ⟨_, S1.out.bad.cell (by rw [fillB_len _ (by omega)]; exact hlt)⟩
              have fk := S1.out.bad.free k
              obtain ⟨M3, n3, k3⟩ := S1.out.mark hlt HMT.out
              have HN3 := hid n3
              have HK3 := hid k3
              clear n3 k3
              go_wp2_with fail
              have hfl := fls_le 1 (malfAt (nsOf d)) k
              refine (note_any M3 _ bc ba br _ _ 1 k HN3.out (by rw [List.length_append]; omega) (by omega) (by omega)).mono ?_
              rintro e w9 ⟨rfl, ⟨M4, n4, g4⟩, f4⟩
              have S9 := hid (HK3.out w9 M4 n4 g4 f4)
              clear n4 g4 f4 hfl
              go_wp2
              go_roundw
              case rel => exact ⟨k + 1, by omega, by go_num, _, _, S9.out, GW1.out, GM1.out⟩
              case measure => simp [intOf]; omega
    · obtain rfl : k = d.nodes.length := by omega
      go_wp2
      go_ret
      obtain ⟨M', h1, h2, h3⟩ := S.out.note
      exact ⟨_, rfl, by have := S.out.bad; rw [fillB_all] at this; exact this, ⟨M', h1, h2, h3 _ (by omega) (by omega)⟩, by omega, S.out.fr⟩
end Go.Proofs.YtndfncaoejbkiaaGreatDoor
end
section
/- The walk of invariant's nodes. -/
namespace Go.Proofs.YtndfncaoejbkiaaGreatDoor
open Go.RowKit
set_option maxRecDepth 100000

theorem RdD.weaken {N M : Nat → Prop} {w : World} {sN sL sR : Value} {d : Dmp} (h : RdD N w sN sL sR d) (hm : ∀ k, k < w.heap.size → M k → N k) : RdD M w sN sL sR d := ⟨h.nodes.weaken hm, h.links.weaken hm, h.roots.weaken hm⟩
/-- The state of nodes' loops: the flaws F found so far, the bad nodes bl. -/
structure NodS (M : Nat → Prop) (w : World) (sN sL sR : Value) (d : Dmp) (bc ba br g : Nat) (l F : List Flw) (bl : List Bool) (W : World) : Prop where
  fr : Fr M w W
  rd : RdD (fun q => M q ∨ w.heap.size ≤ q) W sN sL sR d
  note : ∃ M', NoteAt M' W bc ba br F.length (l ++ F) ∧ Gr M M' w ∧ ¬ M' g ∧ ¬ M' w.heap.size
  box : W.heap[w.heap.size]? = some (.cells (dumpCells sN sL sR) 26 (0, 0))
  bad : BoolAt W g bl
  lt : ∀ k, M k → k < w.heap.size
  gg : w.heap.size ≤ g
section
variable {M : Nat → Prop} {w : World} {sN sL sR : Value} {d : Dmp} {bc ba br g : Nat} {l F : List Flw} {bl : List Bool} {W W' : World}
theorem NodS.step (h : NodS M w sN sL sR d bc ba br g l F bl W) (hf : Fr NoB W W') : NodS M w sN sL sR d bc ba br g l F bl W' := by
  obtain ⟨h1, h2, ⟨M', h3, h3', h3'', h3x⟩, h4, h5, h6, h7⟩ := h
  exact ⟨h1.step hf, h2.step hf, ⟨M', h3.step hf, h3', h3'', h3x⟩, hf.at (fun h => h) h4, h5.fr hf (fun h => h), h6, h7⟩
theorem NodS.set (h : NodS M w sN sL sR d bc ba br g l F bl W) (k : Nat) : NodS M w sN sL sR d bc ba br g l F (bl.set k true) (W.setCell ⟨g, k, none⟩ (.bool true)) := by
  obtain ⟨h1, h2, ⟨M', h3, h3', h3'', h3x⟩, h4, h5, h6, h7⟩ := h
  have hf : Fr (fun j => j = g) W (W.setCell ⟨g, k, none⟩ (.bool true)) := (Fr.refl (fun j => j = g) W).setCell (p := ⟨g, k, none⟩) (fun _ => rfl) _
  have hba : ba ≠ g := ne_of_types h3.fn h5 (by decide)
  have hbx : w.heap.size ≠ g := ne_of_types h4 h5 (by decide)
  exact ⟨h1.trans' hf (fun j hj e => by omega), h2.fr hf (fun j _ e => .inr (by rw [show j = g from e]; omega)), ⟨M', h3.fr hf (fun j hj e => h3'' (by rw [← show j = g from e]; exact hj)) hba, h3', h3'', h3x⟩, hf.at hbx h4, h5.set k true, h6, h7⟩
theorem NodS.noted (h : NodS M w sN sL sR d bc ba br g l F bl W) : ∃ M', NoteAt M' W bc ba br F.length (l ++ F) ∧
    ∀ W2 M2 f, NoteAt M2 W2 bc ba br ((F.length : Int) + 1) (l ++ F ++ [f]) → Gr M' M2 W → Fr M' W W2 → NodS M w sN sL sR d bc ba br g l (F ++ [f]) bl W2 := by
  obtain ⟨h1, h2, ⟨M', h3, h3', h3'', h3x⟩, h4, h5, h6, h7⟩ := h
  refine ⟨M', h3, fun W2 M2 f hn hg hf2 => ⟨h1.trans' hf2 (fun j hj e => (h3' j e).resolve_right (by omega)), h2.fr hf2 (fun j _ e => h3' j e), ⟨M2, ?_, fun j hj => ?_, fun h9 => ?_, fun h9 => ?_⟩, hf2.at h3x h4, h5.fr hf2 h3'', h6, h7⟩⟩
  · rw [List.length_append, ← List.append_assoc]
    simpa using hn
  · rcases hg j hj with h9 | h9
    · exact h3' j h9
    · exact .inr (by have := h1.size; omega)
  · rcases hg _ h9 with h9 | h9
    · exact h3'' h9
    · have := h5.lt; omega
  · rcases hg _ h9 with h9 | h9
    · exact h3x h9
    · have := (Array.getElem?_eq_some_iff.1 h4).1; omega
end
theorem badAt_len (ns : List Node) (n : Nat) : ((List.range n).map (badAt ns)).length = n := by simp
/-- The bad nodes while the order is looked at. -/
def badK (ns : List Node) (k n : Nat) : List Bool := (List.range n).map (fun i => malfAt ns i || (decide (i < k) && disAt ns i))
theorem badK_len (ns : List Node) (k n : Nat) : (badK ns k n).length = n := by simp [badK]
theorem badK_get {ns : List Node} {k n i : Nat} (hi : i < n) : (badK ns k n).getD i false = (malfAt ns i || (decide (i < k) && disAt ns i)) := by
  unfold badK
  rw [List.getD_eq_getElem?_getD, List.getElem?_map, List.getElem?_range hi]; rfl
theorem badK_zero (ns : List Node) (n : Nat) : badK ns 0 n = (List.range n).map (malfAt ns) := by unfold badK; congr 1; funext i; simp
theorem badK_all (ns : List Node) (n : Nat) : badK ns n n = (List.range n).map (badAt ns) := by
  unfold badK
  apply List.map_congr_left
  intro i hi
  have := List.mem_range.1 hi
  simp [badAt, this]
theorem badK_on {ns : List Node} {k n : Nat} (hk : k < n) (h : disAt ns k = true) : (badK ns k n).set k true = badK ns (k + 1) n := by
  apply List.ext_getElem?
  intro i
  rw [List.getElem?_set]
  unfold badK
  by_cases e : k = i
  · subst e; simp [hk, h]
  · rw [if_neg e]
    by_cases hi : i < n
    · simp only [List.getElem?_map, List.getElem?_range hi, Option.map_some, Option.some.injEq]
      have : decide (i < k) = decide (i < k + 1) := by simp; omega
      rw [this]
    · rw [List.getElem?_eq_none (by simp; omega), List.getElem?_eq_none (by simp; omega)]
theorem badK_off {ns : List Node} {k n : Nat} (h : disAt ns k = false) : badK ns k n = badK ns (k + 1) n := by
  unfold badK
  apply List.map_congr_left
  intro i hi
  by_cases e : i = k
  · subst e; simp [h]
  · have : decide (i < k) = decide (i < k + 1) := by simp; omega
    rw [this]

theorem wideAt_of {ns : List Node} {k : Nat} {x : Node} (h : ns[k]? = some x) : wideAt ns k = (!(badAt ns k || x.args.any (fun a => badAt ns a.toNat)) && !wOk x ns) := by
  unfold wideAt
  rw [h]
  simp only [Option.elim_some]
  cases badAt ns k with
  | true => rfl
  | false =>
    simp only [Bool.not_false, Bool.true_and, Bool.false_or]
    rw [List.all_eq_not_any_not]
    simp
theorem badAt_ord {ns : List Node} {k : Nat} {x : Node} (h : ns[k]? = some x) (hb : badAt ns k = false) : ∀ a ∈ x.args, 0 ≤ a ∧ a < k := by
  unfold badAt at hb
  rw [Bool.or_eq_false_iff] at hb
  have h2 := hb.2
  unfold disAt at h2
  rw [h] at h2
  simp only [Option.elim_some, Bool.not_eq_false'] at h2
  unfold ordS at h2
  rw [List.all_eq_true] at h2
  intro a ha
  simpa using h2 a ha

set_option maxHeartbeats 4000000 in
theorem nodes_any (M : Nat → Prop) (sN sL sR : Value) (d : Dmp) (w : World) (br : Nat) (l : List Flw) (hd : RdD M w sN sL sR d) (hr : RepAt M w br l) (hlen : d.nodes.length ≤ 1000000) (hll : l.length ≤ 1000000) (hla : ∀ x ∈ d.nodes, x.1.args.length ≤ 1000000) :
    Calls Tryz.prog 68 #[dumpV sN sL sR, .func (.func 69) #[.pointer (some ⟨br, 0, none⟩)] #[]] w fun e w' => e = .returned (.bool (decide (formF (nsOf d) = []))) ∧
      (∃ M', RepAt M' w' br (l ++ formF (nsOf d)) ∧ Gr M M' w) ∧ Fr M w w' := by
  obtain ⟨p, c1, hp⟩ := hd.nodes.form
  subst hp
  obtain ⟨w3, hw3⟩ : ∃ w3, ((w.alloc (.cells (dumpCells (.slice p d.nodes.length c1) sL sR) 26)).alloc (.cells #[.func (.func 69) #[.pointer (some ⟨br, 0, none⟩)] #[]] 120)).alloc (.cells #[.int .i64 0] 3) = w3 := ⟨_, rfl⟩
  have HN : Hid (NoteAt (fun q => M q ∨ q = w.heap.size + 1 + 1) w3 (w.heap.size + 1 + 1) (w.heap.size + 1) br 0 l) := by
    show NoteAt _ _ _ _ _ _ _
    have hlt := hr.lt
    have f3 : Fr NoB w w3 := by rw [← hw3]; exact (((Fr.refl NoB w).alloc _).alloc _).alloc _
    refine ⟨⟨M, hr.step f3, fun _ h => .inl h, fun h => by have := hlt _ h; omega, fun h => by have := hlt _ h; omega⟩, ?_, ?_, .inr rfl, fun h => ?_, fun k hk => ?_⟩
    · rw [← hw3]; exact at_new' (by simp)
    · rw [← hw3]; exact at_old (at_new' (by simp)) _
    · rcases h with h | h
      · have := hlt _ h; omega
      · omega
    · have : w3.heap.size = w.heap.size + 3 := by rw [← hw3]; simp
      rcases hk with hk | hk
      · have := hlt _ hk; omega
      · omega
  have HD : Hid (RdD (fun q => M q ∨ w.heap.size ≤ q) w3 (.slice p d.nodes.length c1) sL sR d) := by
    show RdD _ _ _ _ _ _
    exact hd.more.step (by rw [← hw3]; exact (((Fr.refl NoB w).alloc _).alloc _).alloc _)
  have HBX : Hid (w3.heap[w.heap.size]? = some (.cells (dumpCells (.slice p d.nodes.length c1) sL sR) 26 (0, 0))) := by
    show _ = _
    rw [← hw3]; exact at_old (at_old (at_new w _) _) _
  have HF3 : Hid (Fr NoB w w3) := by show Fr _ _ _; rw [← hw3]; exact (((Fr.refl NoB w).alloc _).alloc _).alloc _
  have HSZ : Hid (w3.heap.size = w.heap.size + 3) := by show _ = _; rw [← hw3]; simp
  have HLT := hid hr.lt
  have HLA := hid hla
  have HW3 := hid hw3
  clear hd hr hla hw3
  unfold dumpV
  go_enter Tryz.func68, Tryz.ntmps68
  go_wp2_with fail
  rw [HW3.out]
  refine (malformed_any (fun q => M q ∨ q = w.heap.size + 1 + 1) _ _ _ d w3 _ _ br 0 l (HD.out.weaken (fun q hq h => by rcases h with h | h; exact .inl h; exact .inr (by omega))) HN.out hlen (by omega) (by omega) (by omega)).mono ?_
  rintro e w4 ⟨g, rfl, hb, ⟨M', hn, hg, hng⟩, hgs, hf⟩
  have HG0 : Hid (∀ j, M' j → M j ∨ w.heap.size ≤ j) := fun j hj => by
    rcases hg j hj with h | h
    · rcases h with h | h
      · exact .inl h
      · exact .inr (by omega)
    · exact .inr (by have := HSZ.out; omega)
  have S4 : Hid (NodS M w (.slice p d.nodes.length c1) sL sR d (w.heap.size + 1 + 1) (w.heap.size + 1) br g l (fls 1 (malfAt (nsOf d)) d.nodes.length ++ fls 2 (disAt (nsOf d)) 0) (badK (nsOf d) 0 d.nodes.length) w4) := by
    refine ⟨(HF3.out.mono (fun _ _ h => h.elim)).trans' hf (fun k hk h => h.resolve_right (by omega)), HD.out.fr hf (fun k _ h => ?_), ⟨M', ?_, HG0.out, hng, fun h => ?_⟩, hf.at (fun h => ?_) HBX.out, ?_, HLT.out, by have := HSZ.out; omega⟩
    · rcases h with h | h
      · exact .inl h
      · exact .inr (by omega)
    · simpa [fls] using hn
    · rcases hg _ h with h | h
      · rcases h with h | h
        · have := HLT.out _ h; omega
        · omega
      · have := HSZ.out; omega
    · rcases h with h | h
      · have := HLT.out _ h; omega
      · omega
    · rw [badK_zero]; exact hb
  have HF1 := hid (fls_le 1 (malfAt (nsOf d)) d.nodes.length)
  clear hb hn hg hng hgs hf HN HBX HD HF3 HG0
  obtain ⟨d0, d1, d2, df, dl⟩ := three_of S4.out.box
  go_wp2
  clear d0 d1 d2 df dl
  go_loopw [22] (fun j wr => ∃ (k : Nat), k ≤ d.nodes.length ∧ j = .int .i64 k ∧ NodS M w (.slice p d.nodes.length c1) sL sR d (w.heap.size + 1 + 1) (w.heap.size + 1) br g l (fls 1 (malfAt (nsOf d)) d.nodes.length ++ fls 2 (disAt (nsOf d)) k) (badK (nsOf d) k d.nodes.length) wr) (fun j _ => d.nodes.length - (intOf j).toNat)
  case atStart => exact ⟨0, Nat.zero_le _, rfl, S4.out⟩
  case round =>
    obtain ⟨k, hk, rfl, hs⟩ := hrel
    have S := hid hs
    clear hs S4
    by_cases hlt : k < d.nodes.length
    · obtain ⟨b, off, rfl, e0, e1, e2, e3, e4, ha⟩ := S.out.rd.nodes.nodeK hlt
      have HX := hid (nsOf_at hlt)
      have HMEM := hid (List.getElem_mem hlt)
      obtain ⟨x, hx⟩ : ∃ x, d.nodes[k] = x := ⟨_, rfl⟩
      rw [hx] at e0 e1 e2 e3 e4 ha HX HMEM
      obtain ⟨xn, xs⟩ := x
      simp only at e0 e1 e2 e3 e4 ha HX
      obtain ⟨xa, xc, hv⟩ := ha.form
      subst hv
      have HA := hid ha
      have HAL : Hid (xn.args.length ≤ 1000000) := HLA.out _ HMEM.out
      clear hx ha
      go_wp2_with fail
      clear e0 e1 e2 e3 e4
      have S0 := hid (S.out.step ((Fr.refl NoB wr).alloc (.cells (nodeCells xn (.slice xa xn.args.length xc)) 44)))
      refine (ordered_any _ xn _ k _ (HA.out.fr ((Fr.refl NoB wr).alloc _) (fun _ _ h => h.elim)) HAL.out).mono ?_
      rintro e w1 ⟨rfl, hf⟩
      have S1 := hid (S0.out.step hf)
      have HDS : Hid (disAt (nsOf d) k = !ordS xn.args k) := by show _ = _; unfold disAt; rw [HX.out]; rfl
      have HF2 := hid (fls_le 2 (disAt (nsOf d)) k)
      clear hf S S0
      cases ho : ordS xn.args k with
      | true =>
        have HD0 : Hid (disAt (nsOf d) k = false) := by show _ = _; rw [HDS.out, ho]; rfl
        clear ho
        go_wp2
        go_roundw
        case rel => exact ⟨k + 1, by omega, by go_num, by rw [fls_off HD0.out, ← badK_off HD0.out]; exact S1.out⟩
        case measure => simp [intOf]; omega
      | false =>
        have HD1 : Hid (disAt (nsOf d) k = true) := by show _ = _; rw [HDS.out, ho]; rfl
        clear ho
        obtain ⟨bv, ck⟩ : ∃ bv, w1.cell? ⟨g, k, none⟩ = some (.bool bv) := ⟨_, S1.out.bad.cell (by rw [badK_len]; exact hlt)⟩
        have fk := S1.out.bad.free k
        obtain ⟨M3, n3, k3⟩ := (S1.out.set k).noted
        have HN3 := hid n3
        have HK3 := hid k3
        clear n3 k3
        go_wp2_with fail
        refine (note_any M3 _ _ _ br _ _ 2 k HN3.out ?_ (by omega) ?_).mono ?_
        · simp only [List.length_append]
          have h1 := HF1.out; have h2 := HF2.out
          omega
        · simp only [List.length_append]
          have h1 := HF1.out; have h2 := HF2.out
          omega
        rintro e w9 ⟨rfl, ⟨M4, n4, g4⟩, f4⟩
        have S9 := hid (HK3.out w9 M4 _ n4 g4 f4)
        clear n4 g4 f4
        go_wp2
        go_roundw
        case rel => exact ⟨k + 1, by omega, by go_num, by rw [fls_on HD1.out, ← badK_on hlt HD1.out, ← List.append_assoc]; exact S9.out⟩
        case measure => simp [intOf]; omega
    · obtain rfl : k = d.nodes.length := by omega
      obtain ⟨d0, d1, d2, df, dl⟩ := three_of S.out.box
      go_wp2
      clear d0 d1 d2 df dl
      rw [badK_all] at S
      have HF2 := hid (fls_le 2 (disAt (nsOf d)) d.nodes.length)
      go_loopw [41] (fun j wr => ∃ (k : Nat), k ≤ d.nodes.length ∧ j = .int .i64 k ∧ NodS M w (.slice p d.nodes.length c1) sL sR d (w.heap.size + 1 + 1) (w.heap.size + 1) br g l (fls 1 (malfAt (nsOf d)) d.nodes.length ++ fls 2 (disAt (nsOf d)) d.nodes.length ++ fls 3 (wideAt (nsOf d)) k) ((List.range d.nodes.length).map (badAt (nsOf d))) wr) (fun j _ => d.nodes.length - (intOf j).toNat)
      case atStart => exact ⟨0, Nat.zero_le _, rfl, by simpa [fls] using S.out⟩
      case round =>
        obtain ⟨k, hk, rfl, hs⟩ := hrel
        have S := hid hs
        clear hs
        by_cases hlt : k < d.nodes.length
        · obtain ⟨b, off, rfl, e0, e1, e2, e3, e4, ha⟩ := S.out.rd.nodes.nodeK hlt
          have HX := hid (nsOf_at hlt)
          have HMEM := hid (List.getElem_mem hlt)
          obtain ⟨x, hx⟩ : ∃ x, d.nodes[k] = x := ⟨_, rfl⟩
          rw [hx] at e0 e1 e2 e3 e4 ha HX HMEM
          obtain ⟨xn, xs⟩ := x
          simp only at e0 e1 e2 e3 e4 ha HX
          obtain ⟨xa, xc, hv⟩ := ha.form
          subst hv
          have HA := hid ha
          have HAL : Hid (xn.args.length ≤ 1000000) := HLA.out _ HMEM.out
          clear hx ha
          have ck : wr.cell? ⟨g, k, none⟩ = some (.bool (badAt (nsOf d) k)) := by
            rw [S.out.bad.cell (by simpa using hlt)]
            simp [List.getD_eq_getElem?_getD, List.getElem?_range hlt]
          have dg : g < wr.heap.size := S.out.bad.lt
          obtain ⟨sb, hsb⟩ : ∃ sb, badAt (nsOf d) k = sb := ⟨_, rfl⟩
          rw [hsb] at ck
          have HSB := hid hsb
          clear hsb
          go_wp2
          clear e0 e1 e2 e3 e4 ck dg
          have HNB := hid (at_new wr (.cells (nodeCells xn (.slice xa xn.args.length xc)) 44))
          have S0 := hid (S.out.step ((Fr.refl NoB wr).alloc (.cells (nodeCells xn (.slice xa xn.args.length xc)) 44)))
          have HA0 := hid (HA.out.fr ((Fr.refl NoB wr).alloc (.cells (nodeCells xn (.slice xa xn.args.length xc)) 44)) (fun _ _ h => h.elim))
          obtain ⟨wb, hwb⟩ : ∃ wb, wr.alloc (.cells (nodeCells xn (.slice xa xn.args.length xc)) 44) = wb := ⟨_, rfl⟩
          rw [hwb] at HNB S0 HA0 ⊢
          clear hwb S HA
          have HBC : Hid (∀ a : Int, 0 ≤ a → a < d.nodes.length → wb.cell? ⟨g, a.toNat, none⟩ = some (.bool (badAt (nsOf d) a.toNat))) := fun a h0 h1 => by
            have h2 : a.toNat < d.nodes.length := by omega
            rw [S0.out.bad.cell (by simpa using h2)]
            simp [List.getD_eq_getElem?_getD, List.getElem?_range h2]
          go_loop [12, 53] (fun sk j => ∃ q : Nat, q ≤ xn.args.length ∧ j = .int .i64 q ∧ sk = .bool (sb || (xn.args.take q).any (fun a => badAt (nsOf d) a.toNat))) (fun _ j => xn.args.length - (intOf j).toNat)
          case atStart => exact ⟨0, Nat.zero_le _, rfl, by simp⟩
          case round =>
            obtain ⟨q, hq, rfl, rfl⟩ := hrel
            obtain ⟨sv, hsv⟩ : ∃ sv, (sb || (xn.args.take q).any (fun a => badAt (nsOf d) a.toNat)) = sv := ⟨_, rfl⟩
            have HSV := hid hsv
            have hal := HAL.out
            by_cases hqt : q < xn.args.length
            · obtain ⟨ba', oa', hv, ka⟩ := HA0.out.cellK hqt
              subst hv
              obtain ⟨y, hy⟩ : ∃ y, xn.args.getD q 0 = y := ⟨_, rfl⟩
              rw [hy] at ka
              have HY := hid hy
              have HTK : Hid ((xn.args.take (q + 1)).any (fun a => badAt (nsOf d) a.toNat) = ((xn.args.take q).any (fun a => badAt (nsOf d) a.toNat) || badAt (nsOf d) y.toNat)) := by
                show _ = _
                rw [List.take_add_one, List.any_append, List.getElem?_eq_getElem hqt]
                have h9 := HY.out
                rw [List.getD_eq_getElem?_getD, List.getElem?_eq_getElem hqt] at h9
                simp only [Option.getD_some] at h9
                simp [h9]
              rw [hsv]
              clear hy hsv
              cases sv with
              | true =>
                go_wp2
                go_round
                case rel => exact ⟨q + 1, by omega, by go_num, by rw [HTK.out, ← Bool.or_assoc, HSV.out]; rfl⟩
                case measure => simp [intOf]; omega
              | false =>
                have hsb0 : badAt (nsOf d) k = false := by
                  have := HSV.out
                  rw [Bool.or_eq_false_iff] at this
                  rw [HSB.out]; exact this.1
                obtain ⟨y0, y1⟩ := badAt_ord HX.out hsb0 y (by rw [← HY.out]; exact getD_mem hqt)
                have cy := HBC.out y y0 (by omega)
                obtain ⟨yb, hyb⟩ : ∃ yb, badAt (nsOf d) y.toNat = yb := ⟨_, rfl⟩
                rw [hyb] at cy
                have HYB := hid hyb
                clear hsb0 hyb
                go_wp2
                go_round
                case rel => exact ⟨q + 1, by omega, by go_num, by rw [HTK.out, ← Bool.or_assoc, HSV.out, HYB.out]; rfl⟩
                case measure => simp [intOf]; omega
            · obtain rfl : q = xn.args.length := by omega
              rw [List.take_length] at HSV
              rw [hsv]
              have HWI : Hid (wideAt (nsOf d) k = (!sv && !wOk xn (nsOf d))) := by show _ = _; rw [wideAt_of HX.out, HSB.out, HSV.out]
              have HF3 := hid (fls_le 3 (wideAt (nsOf d)) k)
              clear hsv
              cases sv with
              | true =>
                have HW0 : Hid (wideAt (nsOf d) k = false) := by show _ = _; rw [HWI.out]; rfl
                go_wp2
                go_roundw
                case rel => exact ⟨k + 1, by omega, by go_num, by rw [fls_off HW0.out]; exact S0.out⟩
                case measure => simp [intOf]; omega
              | false =>
                have hsb0 : badAt (nsOf d) k = false := by
                  have := HSV.out
                  rw [Bool.or_eq_false_iff] at this
                  rw [HSB.out]; exact this.1
                have HOR := hid (badAt_ord HX.out hsb0)
                obtain ⟨x0, x1, x2, x3, x4, xf, xl⟩ := five_of HNB.out
                obtain ⟨d0, d1, d2, df, dl⟩ := three_of S0.out.box
                clear hsb0
                go_wp2_with fail
                refine (widths_any _ _ _ d xn _ _ (S0.out.rd.weaken (fun _ _ h => h.elim)) (HA0.out.weaken (fun _ _ h => h.elim)) (fun a ha => by have := HOR.out a ha; omega) HAL.out).mono ?_
                rintro e w2 ⟨rfl, hf⟩
                have S2 := hid (S0.out.step hf)
                clear hf x0 x1 x2 x3 x4 xf xl d0 d1 d2 df dl
                cases hok : wOk xn (nsOf d) with
                | true =>
                  have HW0 : Hid (wideAt (nsOf d) k = false) := by show _ = _; rw [HWI.out, hok]; rfl
                  clear hok
                  go_wp2
                  go_roundw
                  case rel => exact ⟨k + 1, by omega, by go_num, by rw [fls_off HW0.out]; exact S2.out⟩
                  case measure => simp [intOf]; omega
                | false =>
                  have HW1 : Hid (wideAt (nsOf d) k = true) := by show _ = _; rw [HWI.out, hok]; rfl
                  clear hok
                  obtain ⟨M3, n3, k3⟩ := S2.out.noted
                  have HN3 := hid n3
                  have HK3 := hid k3
                  clear n3 k3
                  go_wp2_with fail
                  refine (note_any M3 _ _ _ br _ _ 3 k HN3.out ?_ (by omega) ?_).mono ?_
                  · simp only [List.length_append]
                    have h1 := HF1.out; have h2 := HF2.out; have h3 := HF3.out
                    omega
                  · simp only [List.length_append]
                    have h1 := HF1.out; have h2 := HF2.out; have h3 := HF3.out
                    omega
                  rintro e w9 ⟨rfl, ⟨M4, n4, g4⟩, f4⟩
                  have S9 := hid (HK3.out w9 M4 _ n4 g4 f4)
                  clear n4 g4 f4
                  go_wp2
                  go_roundw
                  case rel => exact ⟨k + 1, by omega, by go_num, by rw [fls_on HW1.out, ← List.append_assoc]; exact S9.out⟩
                  case measure => simp [intOf]; omega
        · obtain rfl : k = d.nodes.length := by omega
          obtain ⟨M5, h5, h6, h7, h8⟩ := S.out.note
          have c5 : wr.cell? ⟨w.heap.size + 1 + 1, 0, none⟩ = some (.int .i64 ((fls 1 (malfAt (nsOf d)) d.nodes.length ++ fls 2 (disAt (nsOf d)) d.nodes.length ++ fls 3 (wideAt (nsOf d)) d.nodes.length).length : Nat)) := by simp only [World.cell?, h5.cnt]; rfl
          have HFF : Hid (formF (nsOf d) = fls 1 (malfAt (nsOf d)) d.nodes.length ++ fls 2 (disAt (nsOf d)) d.nodes.length ++ fls 3 (wideAt (nsOf d)) d.nodes.length) := by show _ = _; unfold formF; rw [nsOf_length]
          rw [← HFF.out] at c5 h5
          obtain ⟨FL, hFL⟩ : ∃ FL, formF (nsOf d) = FL := ⟨_, rfl⟩
          have HFL := hid hFL
          rw [hFL] at c5 h5
          have H5 := hid h5
          have H6 := hid h6
          clear h5 h6 h7 h8 hFL
          go_wp2
          go_ret
          obtain ⟨M6, a1, a2, _, _⟩ := H5.out.ex
          rw [HFL.out]
          refine ⟨ret_bool ?_, ⟨M6, a1, fun q hq => H6.out q (a2 q hq)⟩, S.out.fr⟩
          cases FL with
          | nil => simp
          | cons a t => simp; omega
end Go.Proofs.YtndfncaoejbkiaaGreatDoor
end
section
/- The walk of hashcons.Table.Get. -/
namespace Go.Proofs.YtndfncaoejbkiaaGreatDoor
open Go.RowKit
set_option maxRecDepth 100000

theorem zeroEnt (w : World) : (zeroValue 143).run Tryz.prog w = .ok (.agg #[.int .i64 0, .int .i64 0, .int .u64 0, .string ⟨#[]⟩, .slice none 0 0, .int .i64 0]) w := by kernel_rfl

theorem TableAt.lookNone {M : Nat → Prop} {w : World} {bt bm : Nat} {l : List TEnt} (h : TableAt M w bt bm l) (n : Node) (hn : NodeOk n) (ht : tget l n = none) :
    (Instr.lookup 136 (.map (some bm)) (.string (keyB n)) true).run Tryz.prog w = .ok (.tuple #[.agg #[.int .i64 0, .int .i64 0, .int .u64 0, .string ⟨#[]⟩, .slice none 0 0, .int .i64 0], .bool false]) w := by
  have hg := mget_ent n hn l (fun x hx => (h.ents x hx).2.1)
  rw [ht] at hg
  exact h.map.lookNone (P := Tryz.prog) kkString Tryz.underlying136 Tryz.underlying9 (keyB n) hg (zeroEnt w) true
theorem TableAt.look {M : Nat → Prop} {w : World} {bt bm : Nat} {l : List TEnt} (h : TableAt M w bt bm l) (n : Node) (hn : NodeOk n) {x : TEnt} (ht : tget l n = some x) :
    (Instr.lookup 136 (.map (some bm)) (.string (keyB n)) true).run Tryz.prog w = .ok (.tuple #[.agg #[.int .i64 x.node.op, .int .i64 x.node.width, .int .u64 x.node.val, .string x.node.name, x.sl, .int .i64 x.id], .bool true]) w := by
  have hg := mget_ent n hn l (fun x hx => (h.ents x hx).2.1)
  rw [ht] at hg
  exact h.map.look (P := Tryz.prog) kkString Tryz.underlying136 Tryz.underlying9 (keyB n) hg true
theorem tget_mem {l : List TEnt} {n : Node} {x : TEnt} (h : tget l n = some x) : x ∈ l ∧ x.node = n := by
  refine ⟨List.mem_of_find?_eq_some h, ?_⟩
  have := List.find?_some h
  exact nodeCmp_zero.1 (by simpa using this)

set_option maxHeartbeats 1000000 in
theorem get_none (M N : Nat → Prop) (w : World) (bt bm : Nat) (l : List TEnt) (h : TableAt M w bt bm l) (n : Node) (s : Value) (hr : RdI N w s n.args) (hok : NodeOk n) (hsm : NodeSm n) (ht : Tab w) (hg : tget l n = none) :
    Calls Tryz.prog 77 #[.pointer (some ⟨bt, 0, none⟩), nodeV n s] w fun e w' => e = .returned (.tuple #[.int .i64 0, .bool false]) ∧ Fr NoB w w' := by
  obtain ⟨a, cap, rfl⟩ := hr.form
  have hne : w.heap.size ≠ bt := by have := h.lt; omega
  have hne' : bt ≠ w.heap.size := by have := h.lt; omega
  have hne2 : w.heap.size + 1 ≠ bt := by have := h.lt; omega
  have hne3 : bt ≠ w.heap.size + 1 := by have := h.lt; omega
  have HK : Hid (∀ W, Fr NoB (w.alloc (.cells (nodeCells n (.slice a n.args.length cap)) 44)) W → Calls Tryz.prog 85 #[nodeV n (.slice a n.args.length cap)] W fun e w' => e = .returned (.string (keyB n)) ∧ Fr NoB W w' ∧ Fr NoB (w.alloc (.cells (nodeCells n (.slice a n.args.length cap)) 44)) w') := fun W hW =>
    (key_any N n _ W (hr.fr (((Fr.refl NoB w).alloc _).step hW) (fun _ _ h => h.elim)) hok hsm (ht.fr (((Fr.refl NoB w).alloc _).step hW) (fun h => h))).mono (fun e w' ⟨h1, h2⟩ => ⟨h1, h2, hW.step h2⟩)
  have HT : Hid (∀ W, Fr NoB (w.alloc (.cells (nodeCells n (.slice a n.args.length cap)) 44)) W → TableAt M W bt bm l ∧ W.heap[w.heap.size]? = some (.cells (nodeCells n (.slice a n.args.length cap)) 44 (0, 0)) ∧ Fr NoB w W) := fun W hW =>
    ⟨h.fr (((Fr.refl NoB w).alloc _).step hW) (fun h => h) (fun h => h) (fun _ _ h => h.elim), hW.at (fun h => h) (at_new w _), ((Fr.refl NoB w).alloc _).step hW⟩
  have HOK := hid hok
  have HG := hid hg
  have H0 := (HT.out _ (Fr.refl NoB _)).1.cell
  clear h hr hok hsm ht hg
  unfold nodeV
  go_enter Tryz.func77, Tryz.ntmps77
  go_wp2_with (go_at_call 84; refine (made_any M _ bt bm l (HT.out _ (Fr.refl _ _)).1).mono ?_; rintro e w' ⟨rfl, rfl⟩)
  go_region_held3 (fun w' => w'.cell? ⟨bt, 0, none⟩ = some (.map (some bm)) ∧ w'.cell? ⟨w.heap.size, 0, none⟩ = some (.int .i64 n.op) ∧ w'.cell? ⟨w.heap.size, 1, none⟩ = some (.int .i64 n.width) ∧ w'.cell? ⟨w.heap.size, 2, none⟩ = some (.int .u64 n.val) ∧ w'.cell? ⟨w.heap.size, 3, none⟩ = some (.string n.name) ∧ w'.cell? ⟨w.heap.size, 4, none⟩ = some (.slice a n.args.length cap)) (go_keep)
    (first | (go_at_call 85; have X := HK.out; (with_reducible refine Calls.mono (X _ ?_) ?_); (focus (repeat (first | exact Fr.refl _ _ | refine Fr.drew ?_ | refine Fr.alloc ?_ _))); clear X; rintro e w2 ⟨rfl, hfW, hf2⟩; (try obtain ⟨z0, z1, z2, z3, z4, z5, zf, zl⟩ := six_of (hfW.at (b := w.heap.size + 1) (fun h => h) (at_new_d (by simp)))); have Y := HT.out _ hf2; obtain ⟨c0, c1, c2, c3, c4, cf, cl⟩ := five_of Y.2.1; have ct := Y.1.cell; have hn2 : bt ≠ w2.heap.size := (by have := Y.1.lt; omega); have hn3 := hn2.symm; have hn4 : w.heap.size ≠ w2.heap.size := (by omega); have hn5 := hn4.symm; have lk := Y.1.lookNone n HOK.out HG.out; have lk2 := fun o => (HT.out _ (hf2.alloc o)).1.lookNone n HOK.out HG.out))
  all_goals
    go_wp2
    go_ret2
    refine ⟨rfl, ?_⟩
    repeat (first | (with_reducible exact Y.2.2) | refine Fr.setCell ?_ (fun h => by simp only at h; omega) _ | refine Fr.alloc ?_ _)

set_option maxHeartbeats 1000000 in
theorem get_some (M N : Nat → Prop) (w : World) (bt bm : Nat) (l : List TEnt) (h : TableAt M w bt bm l) (n : Node) (s : Value) (hr : RdI N w s n.args) (hok : NodeOk n) (hsm : NodeSm n) (ht : Tab w) (x : TEnt) (hg : tget l n = some x) :
    Calls Tryz.prog 77 #[.pointer (some ⟨bt, 0, none⟩), nodeV n s] w fun e w' => e = .returned (.tuple #[.int .i64 x.id, .bool true]) ∧ Fr NoB w w' := by
  obtain ⟨xn, xs, xi⟩ := x
  obtain ⟨a2, cap2, hx⟩ := (h.ents _ (tget_mem hg).1).1.form
  simp only at hx
  subst hx
  obtain ⟨a, cap, rfl⟩ := hr.form
  have hne : w.heap.size ≠ bt := by have := h.lt; omega
  have hne' : bt ≠ w.heap.size := by have := h.lt; omega
  have hne2 : w.heap.size + 1 ≠ bt := by have := h.lt; omega
  have hne3 : bt ≠ w.heap.size + 1 := by have := h.lt; omega
  have HK : Hid (∀ W, Fr NoB (w.alloc (.cells (nodeCells n (.slice a n.args.length cap)) 44)) W → Calls Tryz.prog 85 #[nodeV n (.slice a n.args.length cap)] W fun e w' => e = .returned (.string (keyB n)) ∧ Fr NoB W w' ∧ Fr NoB (w.alloc (.cells (nodeCells n (.slice a n.args.length cap)) 44)) w') := fun W hW =>
    (key_any N n _ W (hr.fr (((Fr.refl NoB w).alloc _).step hW) (fun _ _ h => h.elim)) hok hsm (ht.fr (((Fr.refl NoB w).alloc _).step hW) (fun h => h))).mono (fun e w' ⟨h1, h2⟩ => ⟨h1, h2, hW.step h2⟩)
  have HT : Hid (∀ W, Fr NoB (w.alloc (.cells (nodeCells n (.slice a n.args.length cap)) 44)) W → TableAt M W bt bm l ∧ W.heap[w.heap.size]? = some (.cells (nodeCells n (.slice a n.args.length cap)) 44 (0, 0)) ∧ Fr NoB w W) := fun W hW =>
    ⟨h.fr (((Fr.refl NoB w).alloc _).step hW) (fun h => h) (fun h => h) (fun _ _ h => h.elim), hW.at (fun h => h) (at_new w _), ((Fr.refl NoB w).alloc _).step hW⟩
  have HOK := hid hok
  have HG := hid hg
  have H0 := (HT.out _ (Fr.refl NoB _)).1.cell
  clear h hr hok hsm ht hg
  unfold nodeV
  go_enter Tryz.func77, Tryz.ntmps77
  go_wp2_with (go_at_call 84; refine (made_any M _ bt bm l (HT.out _ (Fr.refl _ _)).1).mono ?_; rintro e w' ⟨rfl, rfl⟩)
  go_region_held3 (fun w' => w'.cell? ⟨bt, 0, none⟩ = some (.map (some bm)) ∧ w'.cell? ⟨w.heap.size, 0, none⟩ = some (.int .i64 n.op) ∧ w'.cell? ⟨w.heap.size, 1, none⟩ = some (.int .i64 n.width) ∧ w'.cell? ⟨w.heap.size, 2, none⟩ = some (.int .u64 n.val) ∧ w'.cell? ⟨w.heap.size, 3, none⟩ = some (.string n.name) ∧ w'.cell? ⟨w.heap.size, 4, none⟩ = some (.slice a n.args.length cap)) (go_keep)
    (first | (go_at_call 85; have X := HK.out; (with_reducible refine Calls.mono (X _ ?_) ?_); (focus (repeat (first | exact Fr.refl _ _ | refine Fr.drew ?_ | refine Fr.alloc ?_ _))); clear X; rintro e w2 ⟨rfl, hfW, hf2⟩; (try obtain ⟨z0, z1, z2, z3, z4, z5, zf, zl⟩ := six_of (hfW.at (b := w.heap.size + 1) (fun h => h) (at_new_d (by simp)))); have Y := HT.out _ hf2; obtain ⟨c0, c1, c2, c3, c4, cf, cl⟩ := five_of Y.2.1; have ct := Y.1.cell; have hn2 : bt ≠ w2.heap.size := (by have := Y.1.lt; omega); have hn3 := hn2.symm; have hn4 : w.heap.size ≠ w2.heap.size := (by omega); have hn5 := hn4.symm; have lk := Y.1.look n HOK.out HG.out; have lk2 := fun o => (HT.out _ (hf2.alloc o)).1.look n HOK.out HG.out))
  all_goals
    go_wp2
    go_ret2
    refine ⟨rfl, ?_⟩
    repeat (first | (with_reducible exact Y.2.2) | refine Fr.setCell ?_ (fun h => by simp only at h; omega) _ | refine Fr.alloc ?_ _)

theorem get_any (M N : Nat → Prop) (w : World) (bt bm : Nat) (l : List TEnt) (h : TableAt M w bt bm l) (n : Node) (s : Value) (hr : RdI N w s n.args) (hok : NodeOk n) (hsm : NodeSm n) (ht : Tab w) :
    Calls Tryz.prog 77 #[.pointer (some ⟨bt, 0, none⟩), nodeV n s] w fun e w' => e = .returned (.tuple #[.int .i64 ((tget l n).elim 0 (·.id)), .bool (tget l n).isSome]) ∧ Fr NoB w w' := by
  cases hg : tget l n with
  | none => exact get_none M N w bt bm l h n s hr hok hsm ht hg
  | some x => exact get_some M N w bt bm l h n s hr hok hsm ht x hg

end Go.Proofs.YtndfncaoejbkiaaGreatDoor
end
section
/- The walks of hashcons.Copy, and of hashcons.Table.Put and Del. -/
namespace Go.Proofs.YtndfncaoejbkiaaGreatDoor
open Go.RowKit
set_option maxRecDepth 100000

theorem hcCopy_any (M : Nat → Prop) (n : Node) (v : Value) (w : World) (h : RdI M w v n.args) (hl : n.args.length ≤ 17592186044416) :
    Calls Tryz.prog 53 #[nodeV n v] w fun e w' => ∃ a' c', e = .returned (nodeV n (.slice a' n.args.length c')) ∧ OwnI w.heap.size w' (.slice a' n.args.length c') n.args ∧ Fr NoB w w' := by
  obtain ⟨a, cap, rfl⟩ := h.form
  have HC : Hid (∀ W, Fr NoB w W → Calls Tryz.prog 63 #[nodeV n (.slice a n.args.length cap), .nilFunc] W fun e w' => ∃ a' c', e = .returned (nodeV n (.slice a' n.args.length c')) ∧ OwnI W.heap.size w' (.slice a' n.args.length c') n.args ∧ Fr NoB W w') := fun W hW => canonNil_any M n _ W (h.fr hW (fun _ _ h => h.elim)) hl
  clear h
  unfold nodeV
  go_enter Tryz.func53, Tryz.ntmps53
  go_wp2_with (go_at_call 63; have X := HC.out; (with_reducible refine Calls.mono (X _ ?_) ?_); (focus (repeat (first | exact Fr.refl _ _ | refine Fr.alloc ?_ _))); clear X; rintro e w1 ⟨a', c', rfl, ho, hf⟩; obtain ⟨r0, r1, r2, r3, r4, rf, rl⟩ := hf.five (b := w.heap.size + 1) (fun h => h) (at_new' (by simp)); have HF := hid hf; have HO := hid ho; clear hf ho)
  refine bodyPost_ret (v := nodeV n (.slice a' n.args.length c')) (by simp [results, Tryz.results53, go_sem, r0, r1, r2, r3, r4, nodeV]) rfl ?_
  refine ⟨a', c', rfl, OwnI.keep HO.out ?_ ?_, ?_⟩
  · simp only [World.size_alloc]; omega
  · repeat (refine Fr.setCell ?_ (fun _ => by simp <;> omega) _)
    exact Fr.refl _ _
  · repeat (refine Fr.setCell ?_ (fun h => absurd h (by simp)) _)
    exact (((Fr.refl NoB w).alloc _).alloc _).step HF.out

theorem TableAt.insert {M : Nat → Prop} {w : World} {bt bm : Nat} {l : List TEnt} (h : TableAt M w bt bm l) (x : TEnt) (hx : RdI M w x.sl x.node.args ∧ NodeOk x.node ∧ NodeSm x.node) (hg : tget l x.node = none) (hM : M bm) (hbm : bm ≠ bt) :
    ∃ w', (Instr.mapUpdate 136 (.map (some bm)) (.string (keyB x.node)) (entV x)).run Tryz.prog w = .ok () w' ∧ TableAt M w' bt bm (l ++ [x]) ∧ Fr (fun k => k = bm) w w' := by
  obtain ⟨w', h1, h2, h3⟩ := h.map.put (P := Tryz.prog) kkString Tryz.underlying136 Tryz.underlying9 (keyB x.node) (entV x)
  have hg' := mget_ent x.node hx.2.1 l (fun y hy => (h.ents y hy).2.1)
  rw [hg] at hg'
  refine ⟨w', h1, ⟨h3.at (fun h => hbm h.symm) h.head, ?_, fun y hy => ?_⟩, h3⟩
  · rw [mput, hg'] at h2
    simpa [entP] using h2
  · rw [List.mem_append, List.mem_singleton] at hy
    rcases hy with hy | rfl
    · exact ⟨(h.ents y hy).1.fr h3 (fun k _ hk => by rw [show k = bm from hk]; exact hM), (h.ents y hy).2⟩
    · exact ⟨hx.1.fr h3 (fun k _ hk => by rw [show k = bm from hk]; exact hM), hx.2⟩

set_option maxHeartbeats 2000000 in
theorem put_some (M N : Nat → Prop) (w : World) (bt bm : Nat) (l : List TEnt) (h : TableAt M w bt bm l) (n : Node) (s : Value) (id : Int) (hr : RdI N w s n.args) (hok : NodeOk n) (hsm : NodeSm n) (ht : Tab w) (x : TEnt) (hg : tget l n = some x) :
    Calls Tryz.prog 65 #[.pointer (some ⟨bt, 0, none⟩), nodeV n s, .int .i64 id] w fun e w' => e = .returned (.bool false) ∧ Fr NoB w w' := by
  obtain ⟨xn, xs, xi⟩ := x
  obtain ⟨a2, cap2, hx⟩ := (h.ents _ (tget_mem hg).1).1.form
  simp only at hx
  subst hx
  obtain ⟨a, cap, rfl⟩ := hr.form
  have HK : Hid (∀ W, Fr NoB (w.alloc (.cells (nodeCells n (.slice a n.args.length cap)) 44)) W → Calls Tryz.prog 85 #[nodeV n (.slice a n.args.length cap)] W fun e w' => e = .returned (.string (keyB n)) ∧ Fr NoB W w' ∧ Fr NoB (w.alloc (.cells (nodeCells n (.slice a n.args.length cap)) 44)) w') := fun W hW =>
    (key_any N n _ W (hr.fr (((Fr.refl NoB w).alloc _).step hW) (fun _ _ h => h.elim)) hok hsm (ht.fr (((Fr.refl NoB w).alloc _).step hW) (fun h => h))).mono (fun e w' ⟨h1, h2⟩ => ⟨h1, h2, hW.step h2⟩)
  have HT : Hid (∀ W, Fr NoB (w.alloc (.cells (nodeCells n (.slice a n.args.length cap)) 44)) W → TableAt M W bt bm l ∧ W.heap[w.heap.size]? = some (.cells (nodeCells n (.slice a n.args.length cap)) 44 (0, 0)) ∧ Fr NoB w W) := fun W hW =>
    ⟨h.fr (((Fr.refl NoB w).alloc _).step hW) (fun h => h) (fun h => h) (fun _ _ h => h.elim), hW.at (fun h => h) (at_new w _), ((Fr.refl NoB w).alloc _).step hW⟩
  have HOK := hid hok
  have HG := hid hg
  have H0 := (HT.out _ (Fr.refl NoB _)).1.cell
  clear h hr hok hsm ht hg
  unfold nodeV
  go_enter Tryz.func65, Tryz.ntmps65
  go_wp2_with (first
    | (go_at_call 84; refine (made_any M _ bt bm l (HT.out _ (Fr.refl _ _)).1).mono ?_; rintro e w' ⟨rfl, rfl⟩)
    | (go_at_call 85; have X := HK.out; (with_reducible refine Calls.mono (X _ ?_) ?_); (focus (repeat (first | exact Fr.refl _ _ | refine Fr.drew ?_ | refine Fr.alloc ?_ _))); clear X; rintro e w2 ⟨rfl, hfW, hf2⟩; have Y := HT.out _ hf2; obtain ⟨c0, c1, c2, c3, c4, cf, cl⟩ := five_of Y.2.1; have ct := Y.1.cell; have lk := Y.1.look n HOK.out HG.out))
  go_ret
  refine ⟨rfl, ?_⟩
  repeat (first | (with_reducible exact Y.2.2) | refine Fr.setCell ?_ (fun h => by simp only at h; omega) _ | refine Fr.alloc ?_ _)

set_option maxHeartbeats 2000000 in
theorem put_none (M N : Nat → Prop) (w : World) (bt bm : Nat) (l : List TEnt) (h : TableAt M w bt bm l) (n : Node) (s : Value) (id : Int) (hr : RdI N w s n.args) (hok : NodeOk n) (hsm : NodeSm n) (ht : Tab w) (hg : tget l n = none)
    (hM : M bm) (hbm : bm ≠ bt) (hMw : ∀ k, M k → k < w.heap.size) :
    Calls Tryz.prog 65 #[.pointer (some ⟨bt, 0, none⟩), nodeV n s, .int .i64 id] w fun e w' => e = .returned (.bool true) ∧ (∃ sl, TableAt M w' bt bm (l ++ [⟨n, sl, id⟩])) ∧ Fr (fun k => k = bm) w w' := by
  obtain ⟨a, cap, rfl⟩ := hr.form
  have hbl : bm < w.heap.size := h.map.lt
  have hbl2 := h.lt
  have HK : Hid (∀ W, Fr NoB (w.alloc (.cells (nodeCells n (.slice a n.args.length cap)) 44)) W → Calls Tryz.prog 85 #[nodeV n (.slice a n.args.length cap)] W fun e w' => e = .returned (.string (keyB n)) ∧ Fr NoB W w' ∧ Fr NoB (w.alloc (.cells (nodeCells n (.slice a n.args.length cap)) 44)) w') := fun W hW =>
    (key_any N n _ W (hr.fr (((Fr.refl NoB w).alloc _).step hW) (fun _ _ h => h.elim)) hok hsm (ht.fr (((Fr.refl NoB w).alloc _).step hW) (fun h => h))).mono (fun e w' ⟨h1, h2⟩ => ⟨h1, h2, hW.step h2⟩)
  have HC : Hid (∀ W, Fr NoB (w.alloc (.cells (nodeCells n (.slice a n.args.length cap)) 44)) W → Calls Tryz.prog 53 #[nodeV n (.slice a n.args.length cap)] W fun e w' => ∃ a' c', e = .returned (nodeV n (.slice a' n.args.length c')) ∧ RdI M w' (.slice a' n.args.length c') n.args ∧ Fr NoB (w.alloc (.cells (nodeCells n (.slice a n.args.length cap)) 44)) w') := fun W hW =>
    (hcCopy_any N n _ W (hr.fr (((Fr.refl NoB w).alloc _).step hW) (fun _ _ h => h.elim)) (by have := hsm.args; omega)).mono (fun e w' ⟨a', c', h1, h2, h3⟩ => ⟨a', c', h1, h2.rd (fun k hk hm => by have := hMw k hm; have := (((Fr.refl NoB w).alloc (.cells (nodeCells n (.slice a n.args.length cap)) 44)).step hW).size; omega), hW.step h3⟩)
  have HT : Hid (∀ W, Fr NoB (w.alloc (.cells (nodeCells n (.slice a n.args.length cap)) 44)) W → TableAt M W bt bm l ∧ W.heap[w.heap.size]? = some (.cells (nodeCells n (.slice a n.args.length cap)) 44 (0, 0)) ∧ Fr NoB w W) := fun W hW =>
    ⟨h.fr (((Fr.refl NoB w).alloc _).step hW) (fun h => h) (fun h => h) (fun _ _ h => h.elim), hW.at (fun h => h) (at_new w _), ((Fr.refl NoB w).alloc _).step hW⟩
  have HOK := hid hok
  have HSM := hid hsm
  have HG := hid hg
  have HM := hid hM
  have HB := hid hbm
  have H0 := (HT.out _ (Fr.refl NoB _)).1.cell
  clear h hr hok hsm ht hg hM hbm hMw
  unfold nodeV
  go_enter Tryz.func65, Tryz.ntmps65
  go_wp2_with (first
    | (go_at_call 84; refine (made_any M _ bt bm l (HT.out _ (Fr.refl _ _)).1).mono ?_; rintro e w' ⟨rfl, rfl⟩)
    | (go_at_call 85; have X := HK.out; (with_reducible refine Calls.mono (X _ ?_) ?_); (focus (repeat (first | exact Fr.refl _ _ | refine Fr.drew ?_ | refine Fr.alloc ?_ _))); clear X; rintro e w2 ⟨rfl, hfW, hf2⟩; have Y := HT.out _ hf2; obtain ⟨c0, c1, c2, c3, c4, cf, cl⟩ := five_of Y.2.1; have ct := Y.1.cell; have lk := Y.1.lookNone n HOK.out HG.out))
  have hn2 : bt ≠ w2.heap.size := by have := Y.1.lt; omega
  have hn3 := hn2.symm
  have hn4 : w.heap.size ≠ w2.heap.size := by omega
  have hn5 := hn4.symm
  go_region_held3 (fun w' => w'.cell? ⟨bt, 0, none⟩ = some (.map (some bm)) ∧ w'.cell? ⟨w.heap.size, 0, none⟩ = some (.int .i64 n.op) ∧ w'.cell? ⟨w.heap.size, 1, none⟩ = some (.int .i64 n.width) ∧ w'.cell? ⟨w.heap.size, 2, none⟩ = some (.int .u64 n.val) ∧ w'.cell? ⟨w.heap.size, 3, none⟩ = some (.string n.name) ∧ w'.cell? ⟨w.heap.size, 4, none⟩ = some (.slice a n.args.length cap)) (go_keep)
    (first | (go_at_call 53; have X := HC.out; (with_reducible refine Calls.mono (X _ ?_) ?_); (focus (repeat (first | (with_reducible exact hf2) | refine Fr.drew ?_ | refine Fr.alloc ?_ _))); clear X; rintro e w3 ⟨a', c', rfl, hrd3, hf3⟩; have Y3 := HT.out _ hf3; obtain ⟨w4, hrun, ht4, hf4⟩ := Y3.1.insert ⟨n, .slice a' n.args.length c', id⟩ ⟨hrd3, HOK.out, HSM.out⟩ HG.out HM.out HB.out; obtain ⟨d0, d1, d2, d3, d4, df, dl⟩ := five_of Y3.2.1; have dt := Y3.1.cell; obtain ⟨g0, g1, g2, g3, g4, gf, gl⟩ := five_of (hf4.at (b := w.heap.size) (by intro h; omega) Y3.2.1); have gt := ht4.cell; simp only [entV] at hrun))
  go_wp2
  go_ret
  exact ⟨rfl, ⟨_, ht4⟩, (Y3.2.2.mono (fun _ _ h => h.elim)).trans' hf4 (fun _ _ h => h)⟩

theorem mdel_ent (n : Node) (hn : NodeOk n) : ∀ (l : List TEnt), (∀ x ∈ l, NodeOk x.node) → mdel (l.map entP) (keyB n) = (l.filter (fun x => decide (nodeCmp x.node n ≠ 0))).map entP
  | [], _ => rfl
  | x :: l, h => by
    have ih := mdel_ent n hn l (fun y hy => h y (by simp [hy]))
    unfold mdel at *
    by_cases e : x.node = n
    · have e1 : nodeCmp x.node n = 0 := nodeCmp_zero.2 e
      have e2 : (entP x).1 = keyB n := by rw [entP, e]
      rw [List.map_cons, List.filter_cons_of_neg (by simp [e2]), List.filter_cons_of_neg (by simp [e1]), ih]
    · have e1 : ¬ nodeCmp x.node n = 0 := fun h => e (nodeCmp_zero.1 h)
      have e2 : ¬ (entP x).1 = keyB n := fun h2 => e ((keyB_inj (h x (by simp)) hn).1 h2)
      rw [List.map_cons, List.filter_cons_of_pos (by simp [e2]), List.filter_cons_of_pos (by simp [e1]), ih, List.map_cons]

def tdel (l : List TEnt) (n : Node) : List TEnt := l.filter (fun x => decide (nodeCmp x.node n ≠ 0))

theorem TableAt.remove {M : Nat → Prop} {w : World} {bt bm : Nat} {l : List TEnt} (h : TableAt M w bt bm l) (n : Node) (hn : NodeOk n) (hM : M bm) (hbm : bm ≠ bt) (ty : TypeId) :
    ∃ w', (Builtin.delete_ #[136, 9] ty #[.map (some bm), .string (keyB n)]).run Tryz.prog w = .ok (.tuple #[]) w' ∧ TableAt M w' bt bm (tdel l n) ∧ Fr (fun k => k = bm) w w' := by
  obtain ⟨w', h1, h2, h3⟩ := h.map.del (P := Tryz.prog) kkString Tryz.underlying136 Tryz.underlying9 (keyB n) ty 9
  rw [mdel_ent n hn l (fun x hx => (h.ents x hx).2.1)] at h2
  refine ⟨w', h1, ⟨h3.at (fun h => hbm h.symm) h.head, h2, fun y hy => ?_⟩, h3⟩
  have hy' := (List.mem_filter.1 hy).1
  exact ⟨(h.ents y hy').1.fr h3 (fun k _ hk => by rw [show k = bm from hk]; exact hM), (h.ents y hy').2⟩

end Go.Proofs.YtndfncaoejbkiaaGreatDoor
end
section
/- The state of a function that looks at a dump and reports flaws: X are the blocks of its own. -/
namespace Go.Proofs.YtndfncaoejbkiaaGreatDoor
open Go.RowKit
set_option maxRecDepth 100000

structure RepS (M : Nat → Prop) (w : World) (sN sL sR : Value) (d : Dmp) (br : Nat) (l F : List Flw) (X : Nat → Prop) (W : World) : Prop where
  fr : Fr M w W
  rd : RdD (fun q => M q ∨ w.heap.size ≤ q) W sN sL sR d
  rep : ∃ M', RepAt M' W br (l ++ F) ∧ Gr M M' w ∧ ∀ q, X q → ¬ M' q
  box : W.heap[w.heap.size]? = some (.cells (dumpCells sN sL sR) 26 (0, 0))
  lt : ∀ k, M k → k < w.heap.size
  x : ∀ q, X q → w.heap.size ≤ q ∧ q < W.heap.size
  bx : X w.heap.size
section
variable {M : Nat → Prop} {w : World} {sN sL sR : Value} {d : Dmp} {br : Nat} {l F : List Flw} {X X' N : Nat → Prop} {W W' : World}
theorem RepS.start (hd : RdD M w sN sL sR d) (hr : RepAt M w br l) : RepS M w sN sL sR d br l [] (fun q => q = w.heap.size) (w.alloc (.cells (dumpCells sN sL sR) 26)) := by
  have f := (Fr.refl NoB w).alloc (.cells (dumpCells sN sL sR) 26)
  refine ⟨f.mono (fun _ _ h => h.elim), hd.more.step f, ⟨M, by simpa using hr.step f, Gr.refl _ _, fun q hq h => ?_⟩, at_new w _, hr.lt, fun q hq => ?_, rfl⟩
  · have := hr.lt q h
    have : q = w.heap.size := hq
    omega
  · have : q = w.heap.size := hq
    simp only [World.size_alloc]
    omega
/-- Reads and new blocks, which may become its own. -/
theorem RepS.grow (h : RepS M w sN sL sR d br l F X W) (hf : Fr NoB W W') (hx : ∀ q, X' q → X q ∨ (W.heap.size ≤ q ∧ q < W'.heap.size)) (hb : X' w.heap.size) : RepS M w sN sL sR d br l F X' W' := by
  obtain ⟨h1, h2, ⟨M', h3, h3', h3''⟩, h4, h5, h6, h7⟩ := h
  refine ⟨h1.step hf, h2.step hf, ⟨M', h3.step hf, h3', fun q hq => ?_⟩, hf.at (fun h => h) h4, h5, fun q hq => ?_, hb⟩
  · rcases hx q hq with h | h
    · exact h3'' q h
    · intro h9
      have := h3.lt q h9
      omega
  · have hs := h1.size
    have hs2 := hf.size
    rcases hx q hq with h | h
    · have := h6 q h; omega
    · omega
theorem RepS.step (h : RepS M w sN sL sR d br l F X W) (hf : Fr NoB W W') : RepS M w sN sL sR d br l F X W' := h.grow hf (fun _ h => .inl h) h.bx
/-- Its own blocks turn. -/
theorem RepS.turn (h : RepS M w sN sL sR d br l F X W) (hf : Fr N W W') (hn : ∀ q, N q → X q ∧ q ≠ w.heap.size) : RepS M w sN sL sR d br l F X W' := by
  obtain ⟨h1, h2, ⟨M', h3, h3', h3''⟩, h4, h5, h6, h7⟩ := h
  exact ⟨h1.trans' hf (fun k hk e => by have := h6 k (hn k e).1; omega), h2.fr hf (fun k _ e => .inr (h6 k (hn k e).1).1), ⟨M', h3.fr hf (fun k hk e => h3'' k (hn k e).1 hk), h3', h3''⟩, hf.at (fun e => (hn _ e).2 rfl) h4, h5, fun q hq => ⟨(h6 q hq).1, Nat.lt_of_lt_of_le (h6 q hq).2 hf.size⟩, h7⟩
theorem RepS.turn' (h : RepS M w sN sL sR d br l F X W) (hf : Fr N W W') (hn : ∀ q, N q → X q ∧ q ≠ w.heap.size) (hx : ∀ q, X' q → X q ∨ (W.heap.size ≤ q ∧ q < W'.heap.size)) (hb : X' w.heap.size) : RepS M w sN sL sR d br l F X' W' := by
  have h' := h.turn hf hn
  have hbx := (h.x _ h.bx).2
  obtain ⟨_, _, ⟨M0, h3, h3', h3''⟩, _⟩ := h
  obtain ⟨a1, a2, _, a4, a5, a6, a7⟩ := h'
  refine ⟨a1, a2, ⟨M0, h3.fr hf (fun k hk e => h3'' k (hn k e).1 hk), h3', fun q hq h9 => ?_⟩, a4, a5, fun q hq => ?_, hb⟩
  · rcases hx q hq with h | h
    · exact h3'' q h h9
    · have := h3.lt q h9; omega
  · rcases hx q hq with h | h
    · exact a6 q h
    · have := a6 _ a7
      have hs := hf.size
      have h8 := (Array.getElem?_eq_some_iff.1 a4).1
      refine ⟨?_, h.2⟩
      omega
/-- A flaw is reported. -/
theorem RepS.noted (h : RepS M w sN sL sR d br l F X W) : ∃ M', RepAt M' W br (l ++ F) ∧ ∀ W2 M2 f, RepAt M2 W2 br (l ++ F ++ [f]) → Gr M' M2 W → Fr M' W W2 → RepS M w sN sL sR d br l (F ++ [f]) X W2 ∧ Fr (fun q => ¬ X q) W W2 := by
  obtain ⟨h1, h2, ⟨M', h3, h3', h3''⟩, h4, h5, h6, h7⟩ := h
  refine ⟨M', h3, fun W2 M2 f hn hg hf2 => ⟨⟨h1.trans' hf2 (fun j hj e => (h3' j e).resolve_right (by omega)), h2.fr hf2 (fun j _ e => h3' j e), ⟨M2, by rw [← List.append_assoc]; exact hn, fun j hj => ?_, fun q hq h9 => ?_⟩, hf2.at (h3'' _ h7) h4, h5, fun q hq => ⟨(h6 q hq).1, Nat.lt_of_lt_of_le (h6 q hq).2 hf2.size⟩, h7⟩, hf2.mono (fun q _ e hx => h3'' q hx e)⟩⟩
  · rcases hg j hj with h9 | h9
    · exact h3' j h9
    · exact .inr (by have := h1.size; omega)
  · rcases hg q h9 with h9 | h9
    · exact h3'' q hq h9
    · have := h6 q hq; omega
end
theorem TableAt.more {M : Nat → Prop} {w : World} {bt bm : Nat} {l : List TEnt} (h : TableAt M w bt bm l) : TableAt (fun k => M k ∨ w.heap.size ≤ k) w bt bm l := ⟨h.head, h.map, fun x hx => ⟨(h.ents x hx).1.more, (h.ents x hx).2⟩⟩
theorem TableAt.weaken {M N : Nat → Prop} {w : World} {bt bm : Nat} {l : List TEnt} (h : TableAt N w bt bm l) (hm : ∀ k, k < w.heap.size → M k → N k) : TableAt M w bt bm l := ⟨h.head, h.map, fun x hx => ⟨(h.ents x hx).1.weaken hm, (h.ents x hx).2⟩⟩
theorem tget_isSome {l : List TEnt} {n : Node} : (tget l n).isSome = true ↔ ∃ x ∈ l, x.node = n := by
  unfold tget
  rw [List.find?_isSome]
  constructor
  · rintro ⟨x, h1, h2⟩; exact ⟨x, h1, nodeCmp_zero.1 (by simpa using h2)⟩
  · rintro ⟨x, h1, h2⟩; exact ⟨x, h1, by simpa using nodeCmp_zero.2 h2⟩

/-- twiceAt, for nodes whose args are nodes: an equal node is ahead. -/
theorem lab_init {n : Nat} {x : Int} (h0 : 0 ≤ x) (h1 : x < n) : labAt (lbInit n) x = x := by
  unfold labAt lbInit
  rw [List.getD_eq_getElem?_getD, List.getElem?_map, List.getElem?_range (by omega)]
  simp; omega
theorem alike_init {a b : Node} {n : Nat} (ha : ∀ x ∈ a.args, 0 ≤ x ∧ x < n) (hb : ∀ x ∈ b.args, 0 ≤ x ∧ x < n) : alikeS a b (lbInit n) = true ↔ a = b := by
  constructor
  · intro h
    unfold alikeS at h
    simp only [Bool.and_eq_true, beq_iff_eq, List.all_eq_true] at h
    obtain ⟨⟨h1, h2⟩, h3⟩ := h
    unfold labelS at h1
    simp only [Bool.and_eq_true, beq_iff_eq] at h1
    have h4 : a.args = b.args := by
      apply List.ext_getElem h2
      intro i hi hi'
      have hp := h3 (a.args[i], b.args[i]) (by rw [List.mem_iff_getElem]; exact ⟨i, by simp; omega, by simp⟩)
      have e1 := lab_init (ha _ (List.getElem_mem hi)).1 (ha _ (List.getElem_mem hi)).2
      have e2 := lab_init (hb _ (List.getElem_mem hi')).1 (hb _ (List.getElem_mem hi')).2
      simp only at hp
      rw [e1, e2] at hp
      exact hp
    obtain ⟨⟨⟨h5, h6⟩, h7⟩, h8⟩ := h1
    cases a; cases b
    simp only at h4 h5 h6 h7 h8
    rw [h4, h5, h6, h7, toList_inj h8]
  · rintro rfl
    refine alikeS_ok (by unfold labelS; simp) rfl (fun k hk => rfl)
theorem twice_mem {ns : List Node} {i : Nat} {x : Node} (hx : ns[i]? = some x) (ho : ∀ y ∈ ns, ∀ a ∈ y.args, 0 ≤ a ∧ a < ns.length) : twiceAt ns i = true ↔ x ∈ ns.take i := by
  have hxm : x ∈ ns := List.mem_of_getElem? hx
  have hi : i < ns.length := (List.getElem?_eq_some_iff.1 hx).1
  unfold twiceAt
  rw [List.any_eq_true]
  constructor
  · rintro ⟨k, hk, h⟩
    have hk2 : k < i := List.mem_range.1 hk
    have hkl : k < ns.length := by omega
    unfold alikeAt at h
    rw [List.getElem?_eq_getElem hkl, hx] at h
    simp only [Option.elim_some] at h
    have e := (alike_init (ho _ (List.getElem_mem hkl)) (ho _ hxm)).1 h
    rw [← e, List.mem_take_iff_getElem]
    exact ⟨k, by omega, rfl⟩
  · intro h
    rw [List.mem_take_iff_getElem] at h
    obtain ⟨k, hk, e⟩ := h
    have hkl : k < ns.length := by omega
    refine ⟨k, List.mem_range.2 (by omega), ?_⟩
    unfold alikeAt
    rw [List.getElem?_eq_getElem hkl, hx]
    simp only [Option.elim_some]
    exact (alike_init (ho _ (List.getElem_mem hkl)) (ho _ hxm)).2 e
end Go.Proofs.YtndfncaoejbkiaaGreatDoor
end
