import Derived.Test.YtgpliiepoimcbaaDoorPk0
import Derived.Test.YtgpliiepoimcbaaDoorPk1
import Derived.Test.YtgpliiepoimcbaaDoorPk5
import Derived.Deep.AppendLies
import Derived.Deep.RegionHeld3
import Derived.Laws.IdiomStrings
import Derived.Laws.MakeOwn
import Derived.Laws.OwnMore
import Derived.Lib.AppendStr
import Derived.Test.YtgpliiepoimcbaaDoorShelf
set_option linter.all false
section
/- The report of flaws and its two callbacks: the walks of report.add and of the closure in nodes. Maps as functions. -/
namespace Go.Proofs.YtgpliiepoimcbaaDoor
open Go.RowKit
set_option maxRecDepth 100000

/-- A map as a function. -/
def MpIs {κ β : Type} [DecidableEq κ] (d : TypeDesc) (mk : κ → Value) (enc : β → Value) (w : World) (b : Nat) (g : κ → Option β) : Prop := ∃ m : List (κ × Value), MapIs d mk w b m ∧ ∀ k, mget m k = (g k).map enc
section
variable {κ β : Type} [DecidableEq κ] {d : TypeDesc} {mk : κ → Value} {enc : β → Value} {w : World} {b : Nat} {g : κ → Option β} {P : Program} {t kt e : TypeId}
theorem MpIs.fr {M : Nat → Prop} {w' : World} (h : MpIs d mk enc w b g) (hf : Fr M w w') (hm : ¬ M b) : MpIs d mk enc w' b g := by
  obtain ⟨m, h1, h2⟩ := h
  exact ⟨m, h1.fr hf hm, h2⟩
theorem MpIs.lt (h : MpIs d mk enc w b g) : b < w.heap.size := by obtain ⟨m, h1, _⟩ := h; exact h1.lt
theorem MpIs.ne_cells {q : Nat} (h : MpIs d mk enc w b g) {c : Array Value} {e : TypeId} {f : Nat × Nat} (h' : w.heap[q]? = some (.cells c e f)) : q ≠ b := by
  obtain ⟨m, h1, _⟩ := h
  exact h1.ne_cells h'
theorem MpIs.look (h : MpIs d mk enc w b g) (K : KK d mk) (ht : P.underlying t = some (.map kt e)) (hk : P.underlying kt = some d) {z : Value} (hz : (zeroValue e).run P w = .ok z w) (x : κ) (ok : Bool) :
    (Instr.lookup t (.map (some b)) (mk x) ok).run P w = .ok (if ok then .tuple #[((g x).map enc).getD z, .bool (g x).isSome] else ((g x).map enc).getD z) w := by
  obtain ⟨m, h1, h2⟩ := h
  cases hg : g x with
  | none => exact h1.lookNone K ht hk x (by rw [h2, hg]; rfl) hz ok
  | some p => exact h1.look K ht hk x (by rw [h2, hg]; rfl) ok
theorem MpIs.put (h : MpIs d mk enc w b g) (K : KK d mk) (ht : P.underlying t = some (.map kt e)) (hk : P.underlying kt = some d) (x : κ) (u : β) :
    ∃ w', (Instr.mapUpdate t (.map (some b)) (mk x) (enc u)).run P w = .ok () w' ∧ MpIs d mk enc w' b (fun k => if k = x then some u else g k) ∧ Fr (fun q => q = b) w w' := by
  obtain ⟨m, h1, h2⟩ := h
  obtain ⟨w', e1, e2, e3⟩ := h1.put (P := P) K ht hk x (enc u)
  refine ⟨w', e1, ⟨_, e2, fun k => ?_⟩, e3⟩
  rw [mget_put]
  by_cases e : k = x
  · simp [e]
  · simp [e, h2]
theorem MpIs.new (d : TypeDesc) (mk : κ → Value) (enc : β → Value) (w : World) : MpIs d mk enc (w.alloc (.map #[] 0)) w.heap.size (fun _ => none) := ⟨[], MapIs.new d mk w, fun _ => rfl⟩
end

/-- The report at br, with the flaws l; its blocks are in M. -/
structure RepAt (M : Nat → Prop) (w : World) (br : Nat) (l : List Flw) : Prop where
  ex : ∃ v, w.heap[br]? = some (.cells #[v] 45 (0, 0)) ∧ OwnF 0 w v l ∧ ∀ b, v.ownBlock = some b → M b
  br : M br
  lt : ∀ k, M k → k < w.heap.size
theorem RepAt.fr {M N : Nat → Prop} {w w' : World} {br : Nat} {l : List Flw} (h : RepAt M w br l) (hf : Fr N w w') (hd : ∀ k, M k → ¬ N k) : RepAt M w' br l := by
  obtain ⟨⟨v, h1, h2, h3⟩, h4, h5⟩ := h
  exact ⟨⟨v, hf.at (hd _ h4) h1, h2.fr hf (fun b hb => hd b (h3 b hb)), h3⟩, h4, fun k hk => Nat.lt_of_lt_of_le (h5 k hk) hf.size⟩
theorem RepAt.step {M : Nat → Prop} {w w' : World} {br : Nat} {l : List Flw} (h : RepAt M w br l) (hf : Fr NoB w w') : RepAt M w' br l := h.fr hf (fun _ _ h => h)
/-- M' is M with new blocks. -/
def Gr (M M' : Nat → Prop) (w : World) : Prop := ∀ k, M' k → M k ∨ w.heap.size ≤ k
theorem Gr.refl (M : Nat → Prop) (w : World) : Gr M M w := fun _ h => .inl h
theorem Gr.trans {M M' M'' : Nat → Prop} {w w' : World} (h : Gr M M' w) (h' : Gr M' M'' w') (hs : w.heap.size ≤ w'.heap.size) : Gr M M'' w := fun k hk => by
  rcases h' k hk with h1 | h1
  · exact h k h1
  · exact .inr (Nat.le_trans hs h1)
/-- Two steps of a thing that grows. -/
theorem Fr.gr {M M' : Nat → Prop} {a b c : World} (h : Fr M a b) (hg : Gr M M' a) (h' : Fr M' b c) : Fr M a c := h.trans' h' (fun k hk hm => (hg k hm).resolve_right (by omega))

theorem repAdd_any (M : Nat → Prop) (w : World) (br : Nat) (l : List Flw) (k i : Int) (h : RepAt M w br l) (hl : l.length ≤ 100000000) :
    Calls Tryd.prog 19 #[.pointer (some ⟨br, 0, none⟩), .int .i64 k, .int .i64 i] w fun e w' => e = .returned (.tuple #[]) ∧ (∃ M', RepAt M' w' br (l ++ [⟨k, i⟩]) ∧ Gr M M' w) ∧ Fr M w w' := by
  obtain ⟨⟨v, h1, h2, h3⟩, h4, h5⟩ := h
  obtain ⟨p, c, hv⟩ := OwnE.form h2
  subst hv
  have H1 := hid h1
  have H2 := hid h2
  have H3 := hid h3
  have H4 := hid h4
  have H5 := hid h5
  have c0 : w.cell? ⟨br, 0, none⟩ = some (.slice p l.length c) := by simp [World.cell?, h1]
  clear h1 h2 h3 h4 h5
  go_enter Tryd.func19, Tryd.ntmps19
  go_wp2_with (at_builtin; refine ap_flaw' _ rfl _ _ rfl 0 (.slice p l.length c) l rfl (OwnE.step H2.out ((Fr.refl NoB w).alloc _)) _ [⟨k, i⟩] rfl (rdF_lit rfl) ?_ ?_ ?_; (simp only [List.length_singleton]; omega); (exact Nat.zero_le _); intro p6 q6 w6 ho6 hg6 hb6; have F6 : Hid (Fr (fun b => (Value.slice p l.length c).ownBlock = some b) w w6) := Fr.grown ((Fr.refl _ w).alloc _) hg6 (fun k hk _ => hk); have O6 := hid ho6; have B6 := hid hb6; have hd : ¬ (Value.slice p l.length c).ownBlock = some br := (fun e => by obtain ⟨cur, hc⟩ := OwnE.head H2.out e; exact ne_of_types hc H1.out (by decide) rfl); have h6 := F6.out.at hd H1.out; have c6 : w6.cell? ⟨br, 0, none⟩ = some (.slice p l.length c) := (by simp [World.cell?, h6]); have f6 : w6.frozen? ⟨br, 0, none⟩ = false := (by simp [World.frozen?, h6]); have HD := hid hd; have HH6 := hid h6; clear ho6 hg6 hb6 hd h6 c0)
  go_end0
  have f7 : Fr (fun k => k = br) w6 (w6.setCell ⟨br, 0, none⟩ (.slice p6 (l ++ [(⟨k, i⟩ : Flw)]).length q6)) := (Fr.refl (fun k => k = br) w6).setCell (p := ⟨br, 0, none⟩) (fun _ => rfl) _
  have hf : Fr M w (w6.setCell ⟨br, 0, none⟩ (.slice p6 (l ++ [(⟨k, i⟩ : Flw)]).length q6)) := (F6.out.mono (fun b _ hb => H3.out b hb)).trans' f7 (fun k _ e => by rw [show k = br from e]; exact H4.out)
  have ho : OwnF 0 (w6.setCell ⟨br, 0, none⟩ (.slice p6 (l ++ [(⟨k, i⟩ : Flw)]).length q6)) (.slice p6 (l ++ [(⟨k, i⟩ : Flw)]).length q6) (l ++ [(⟨k, i⟩ : Flw)]) := OwnE.fr O6.out f7 (fun b hb e => by
    obtain ⟨cur, hc⟩ := OwnE.head O6.out hb
    exact ne_of_types hc HH6.out (by decide) e)
  have hh := set_at HH6.out 0 (.slice p6 (l ++ [(⟨k, i⟩ : Flw)]).length q6)
  simp only [List.length_append, List.length_singleton] at hf ho hh
  refine ⟨rfl, ⟨fun q => M q ∨ (w.heap.size ≤ q ∧ q < (w6.setCell ⟨br, 0, none⟩ (.slice p6 (l.length + 1) q6)).heap.size), ⟨⟨_, hh, ho, fun b hb => ?_⟩, .inl H4.out, fun q hq => ?_⟩, fun q hq => hq.imp_right (·.1)⟩, hf⟩
  · have h9 := (World.ownsRow.lt ho b hb).2
    have hB := B6.out
    simp only [List.length_append, List.length_singleton] at hB
    rcases hB with h6 | h6
    · rw [h6] at hb; exact .inl (H3.out b hb)
    · rw [h6] at hb
      cases hb
      refine .inr ⟨by simp only [World.size_alloc]; omega, h9⟩
  · rcases hq with hq | hq
    · exact Nat.lt_of_lt_of_le (H5.out q hq) hf.size
    · exact hq.2

/-- The callback of nodes: it counts (at bc) and hands on (the function at ba) to the report. -/
structure NoteAt (M : Nat → Prop) (w : World) (bc ba br : Nat) (c : Int) (l : List Flw) : Prop where
  ex : ∃ M', RepAt M' w br l ∧ (∀ k, M' k → M k) ∧ ¬ M' bc ∧ ¬ M' ba
  cnt : w.heap[bc]? = some (.cells #[.int .i64 c] 3 (0, 0))
  fn : w.heap[ba]? = some (.cells #[.func (.func 19) #[.pointer (some ⟨br, 0, none⟩)] #[]] 47 (0, 0))
  bc : M bc
  ba : ¬ M ba
  lt : ∀ k, M k → k < w.heap.size
theorem NoteAt.fr {M N : Nat → Prop} {w w' : World} {bc ba br : Nat} {c : Int} {l : List Flw} (h : NoteAt M w bc ba br c l) (hf : Fr N w w') (hd : ∀ k, M k → ¬ N k) (ha : ¬ N ba) : NoteAt M w' bc ba br c l := by
  obtain ⟨⟨M', h1, h2, h3, h4⟩, h5, h6, h7, h8, h9⟩ := h
  exact ⟨⟨M', h1.fr hf (fun k hk => hd k (h2 k hk)), h2, h3, h4⟩, hf.at (hd _ h7) h5, hf.at ha h6, h7, h8, fun k hk => Nat.lt_of_lt_of_le (h9 k hk) hf.size⟩
theorem NoteAt.step {M : Nat → Prop} {w w' : World} {bc ba br : Nat} {c : Int} {l : List Flw} (h : NoteAt M w bc ba br c l) (hf : Fr NoB w w') : NoteAt M w' bc ba br c l := h.fr hf (fun _ _ h => h) (fun h => h)

theorem note_any (M : Nat → Prop) (w : World) (bc ba br : Nat) (c : Int) (l : List Flw) (k i : Int) (h : NoteAt M w bc ba br c l) (hl : l.length ≤ 100000000) (hc0 : 0 ≤ c) (hc1 : c ≤ 1000000000) :
    Calls Tryd.prog 30 #[.int .i64 k, .int .i64 i, .pointer (some ⟨bc, 0, none⟩), .pointer (some ⟨ba, 0, none⟩)] w fun e w' => e = .returned (.tuple #[]) ∧ (∃ M', NoteAt M' w' bc ba br (c + 1) (l ++ [⟨k, i⟩]) ∧ Gr M M' w) ∧ Fr M w w' := by
  obtain ⟨⟨M', h1, h2, h3, h4⟩, h5, h6, h7, h8, h9⟩ := h
  have H1 := hid h1
  have H2 := hid h2
  have H3 := hid h3
  have H4 := hid h4
  have H5 := hid h5
  have H6 := hid h6
  have H7 := hid h7
  have H8 := hid h8
  have H9 := hid h9
  have c5 : w.cell? ⟨bc, 0, none⟩ = some (.int .i64 c) := by simp [World.cell?, h5]
  have f5 : w.frozen? ⟨bc, 0, none⟩ = false := by simp [World.frozen?, h5]
  have F1 : Hid (Fr (fun k => k = bc) w (w.setCell ⟨bc, 0, none⟩ (.int .i64 (c + 1)))) := (Fr.refl (fun k => k = bc) w).setCell (p := ⟨bc, 0, none⟩) (fun _ => rfl) _
  have C1 := hid (set_at h5 0 (.int .i64 (c + 1)))
  have hba : ba ≠ bc := fun e => h8 (e ▸ h7)
  have A1 := hid (F1.out.at (fun e => hba e) h6)
  have c6 : (w.setCell ⟨bc, 0, none⟩ (.int .i64 (c + 1))).cell? ⟨ba, 0, none⟩ = some (.func (.func 19) #[.pointer (some ⟨br, 0, none⟩)] #[]) := by
    have := A1.out
    simp only [World.cell?, this]
    rfl
  obtain ⟨w1, hw1⟩ : ∃ w1, w.setCell ⟨bc, 0, none⟩ (.int .i64 (c + 1)) = w1 := ⟨_, rfl⟩
  rw [hw1] at F1 C1 A1
  have HW1 := hid hw1
  clear h1 h2 h3 h4 h5 h6 h7 h8 h9 hw1 hba
  go_enter Tryd.func30, Tryd.ntmps30
  go_wp2_with fail
  rw [HW1.out]
  refine (repAdd_any M' w1 br l k i (H1.out.fr F1.out (fun q hq e => H3.out (by rw [← show q = bc from e]; exact hq))) hl).mono ?_
  rintro e w2 ⟨rfl, ⟨M2, hr, hg⟩, hf⟩
  have R2 := hid hr
  have G2 := hid hg
  have F2 := hid hf
  clear hr hg hf c5 f5 c6
  go_wp2
  go_end0
  have hf2 : Fr M w w2 := (F1.out.mono (fun q _ e => by rw [show q = bc from e]; exact H7.out)).trans' F2.out (fun q _ hq => H2.out q hq)
  have hs1 : w.heap.size ≤ w1.heap.size := F1.out.size
  have hbc : bc < w.heap.size := H9.out bc H7.out
  have hba : ba < w.heap.size := (Array.getElem?_eq_some_iff.1 H6.out).1
  refine ⟨rfl, ⟨fun q => M q ∨ (w.heap.size ≤ q ∧ q < w2.heap.size), ⟨⟨M2, R2.out, fun q hq => ?_, fun h => ?_, fun h => ?_⟩, F2.out.at H3.out C1.out, F2.out.at H4.out A1.out, .inl H7.out, fun h => h.elim H8.out (fun h => by omega), fun q hq => ?_⟩, fun q hq => hq.imp_right (·.1)⟩, hf2⟩
  · rcases G2.out q hq with h | h
    · exact .inl (H2.out q h)
    · exact .inr ⟨Nat.le_trans hs1 h, R2.out.lt q hq⟩
  · rcases G2.out _ h with h | h
    · exact H3.out h
    · omega
  · rcases G2.out _ h with h | h
    · exact H4.out h
    · omega
  · rcases hq with hq | hq
    · exact Nat.lt_of_lt_of_le (H9.out q hq) hf2.size
    · exact hq.2
end Go.Proofs.YtgpliiepoimcbaaDoor
end
section
/- Plain law of malformed: two maps tell what a search over all earlier nodes tells. Rows of bools and ints that are made whole. -/
namespace Go.Proofs.YtgpliiepoimcbaaDoor
open Go.RowKit
set_option maxRecDepth 100000

def isVar (nm : ByteArray) (x : Node) : Bool := x.op == 1 && x.name.toList == nm.toList
def firstW (T : List Node) (nm : ByteArray) : Option Int := (T.find? (isVar nm)).map (·.width)
def mixOf (T : List Node) (nm : ByteArray) : Bool := T.any (fun y => isVar nm y && firstW T nm != some y.width)
theorem firstW_app (T : List Node) (x : Node) (nm : ByteArray) : firstW (T ++ [x]) nm = (firstW T nm).or (if isVar nm x = true then some x.width else none) := by
  unfold firstW
  rw [List.find?_append]
  cases List.find? (isVar nm) T with
  | some y => simp
  | none => cases h : isVar nm x <;> simp [List.find?_cons, h]
theorem firstW_none {T : List Node} {nm : ByteArray} (h : firstW T nm = none) : ∀ y ∈ T, isVar nm y = false := by
  unfold firstW at h
  rw [Option.map_eq_none_iff, List.find?_eq_none] at h
  intro y hy
  simpa using h y hy
theorem firstW_some {T : List Node} {nm : ByteArray} {f : Int} (h : firstW T nm = some f) : ∃ y ∈ T, isVar nm y = true ∧ y.width = f := by
  unfold firstW at h
  rw [Option.map_eq_some_iff] at h
  obtain ⟨y, h1, h2⟩ := h
  exact ⟨y, List.mem_of_find?_eq_some h1, List.find?_some h1, h2⟩
theorem mixOf_none {T : List Node} {nm : ByteArray} (h : firstW T nm = none) : mixOf T nm = false := by
  unfold mixOf
  rw [List.any_eq_false]
  intro y hy
  simp [firstW_none h y hy]
theorem mixOf_app (T : List Node) (x : Node) (nm : ByteArray) : mixOf (T ++ [x]) nm = if isVar nm x = true then (mixOf T nm || ((firstW T nm).isSome && firstW T nm != some x.width)) else mixOf T nm := by
  cases h : firstW T nm with
  | none =>
    rw [mixOf_none h]
    unfold mixOf
    rw [firstW_app, h]
    rw [List.any_append]
    have h1 : T.any (fun y => isVar nm y && (none : Option Int).or (if isVar nm x = true then some x.width else none) != some y.width) = false := by
      rw [List.any_eq_false]
      intro y hy
      simp [firstW_none h y hy]
    rw [h1]
    cases hx : isVar nm x <;> simp [hx]
  | some f =>
    unfold mixOf
    rw [firstW_app, h, List.any_append]
    cases hx : isVar nm x <;> simp [hx]
theorem clash_mix (T : List Node) (x : Node) : clashS x T = (mixOf T x.name || ((firstW T x.name).isSome && firstW T x.name != some x.width)) := by
  rw [Bool.eq_iff_iff]
  unfold clashS mixOf
  rw [Bool.or_eq_true, List.any_eq_true, List.any_eq_true]
  constructor
  · rintro ⟨y, hy, h⟩
    simp only [Bool.and_eq_true, beq_iff_eq, bne_iff_ne, ne_eq] at h
    have hv : isVar x.name y = true := by unfold isVar; simp [h.1.1, h.1.2]
    cases hf : firstW T x.name with
    | none => rw [firstW_none hf y hy] at hv; cases hv
    | some f =>
      by_cases e : f = x.width
      · left
        refine ⟨y, hy, ?_⟩
        simp only [hv, Bool.true_and, bne_iff_ne, ne_eq, Option.some.injEq]
        intro e2; exact h.2 (by rw [← e2, e])
      · right
        simp [e]
  · rintro (⟨y, hy, h⟩ | h)
    · simp only [Bool.and_eq_true, bne_iff_ne, ne_eq] at h
      cases hf : firstW T x.name with
      | none => rw [firstW_none hf y hy] at h; cases h.1
      | some f =>
        rw [hf] at h
        by_cases e : f = x.width
        · refine ⟨y, hy, ?_⟩
          have h1 := h.1
          unfold isVar at h1
          simp only [Bool.and_eq_true, beq_iff_eq] at h1
          simp only [Bool.and_eq_true, beq_iff_eq, bne_iff_ne, ne_eq]
          exact ⟨⟨h1.1, h1.2⟩, fun e2 => h.2 (by rw [e2, e])⟩
        · obtain ⟨z, hz, h1, h2⟩ := firstW_some hf
          refine ⟨z, hz, ?_⟩
          unfold isVar at h1
          simp only [Bool.and_eq_true, beq_iff_eq] at h1
          simp only [Bool.and_eq_true, beq_iff_eq, bne_iff_ne, ne_eq]
          exact ⟨⟨h1.1, h1.2⟩, fun e2 => e (by rw [← h2, e2])⟩
    · cases hf : firstW T x.name with
      | none => rw [hf] at h; simp at h
      | some f =>
        rw [hf] at h
        obtain ⟨z, hz, h1, h2⟩ := firstW_some hf
        refine ⟨z, hz, ?_⟩
        unfold isVar at h1
        simp only [Bool.and_eq_true, beq_iff_eq] at h1
        simp only [Bool.and_eq_true, beq_iff_eq, bne_iff_ne, ne_eq]
        exact ⟨⟨h1.1, h1.2⟩, fun e2 => by simp [← h2, e2] at h⟩

/-- A row of bools that was made whole. -/
def BoolAt (w : World) (g : Nat) (l : List Bool) : Prop := w.heap[g]? = some (.cells (l.map Value.bool).toArray 4 (0, 0))
def IntAt (w : World) (g : Nat) (l : List Int) : Prop := w.heap[g]? = some (.cells (l.map (Value.int .i64)).toArray 3 (0, 0))
theorem infoBool : (Tryd.prog.info? 4).map (fun i => (i.zero, i.size, i.bytes)) = some (some (.bool false), 1, 1) := by kernel_rfl
theorem make_bool (w : World) (n : Nat) (hn : n ≤ 1000000) : (Instr.makeSlice 56 (.int .i64 n) (.int .i64 n)).run Tryd.prog w = .ok (.slice (some ⟨w.heap.size, 0, none⟩) n n) (w.alloc (.cells (Array.replicate n (.bool false)) 4)) := by
  obtain ⟨i0, hi, hz0, hz1, hz2⟩ := info_parts infoBool
  have h := run_make (P := Tryd.prog) w 56 4 i0 (.bool false) Tryd.underlying56 hi hz0 .i64 .i64 n n (by omega) (Int.le_refl _) (by rw [hz2]; omega) (by omega)
  simp only [Int.toNat_natCast] at h
  rw [h, hz1, Nat.mul_one]
  have e : madeCells (Value.bool false).cells n = Array.replicate n (.bool false) := by
    apply Array.ext'
    rw [show (Value.bool false).cells = #[.bool false] from rfl, toList_madeCells_one]
    simp
  rw [e]
theorem make_ints (w : World) (n : Nat) (hn : n ≤ 1000000) : (Instr.makeSlice 24 (.int .i64 n) (.int .i64 n)).run Tryd.prog w = .ok (.slice (some ⟨w.heap.size, 0, none⟩) n n) (w.alloc (.cells (Array.replicate n (.int .i64 0)) 3)) := by
  obtain ⟨i0, hi, hz0, hz1, hz2⟩ := info_parts infoInt
  have h := run_make (P := Tryd.prog) w 24 3 i0 (.int .i64 0) Tryd.underlying24 hi hz0 .i64 .i64 n n (by omega) (Int.le_refl _) (by rw [hz2]; omega) (by omega)
  simp only [Int.toNat_natCast] at h
  rw [h, hz1, Nat.mul_one]
  have e : madeCells (Value.int .i64 0).cells n = Array.replicate n (.int .i64 0) := by
    apply Array.ext'
    rw [show (Value.int .i64 0).cells = #[.int .i64 0] from rfl, toList_madeCells_one]
    simp
  rw [e]
theorem repB (n : Nat) : Array.replicate n (Value.bool false) = ((List.replicate n false).map Value.bool).toArray := by simp
theorem repI (n : Nat) : Array.replicate n (Value.int .i64 0) = ((List.replicate n (0 : Int)).map (Value.int .i64)).toArray := by simp
theorem BoolAt.fr {M : Nat → Prop} {w w' : World} {g : Nat} {l : List Bool} (h : BoolAt w g l) (hf : Fr M w w') (hm : ¬ M g) : BoolAt w' g l := hf.at hm h
theorem IntAt.fr {M : Nat → Prop} {w w' : World} {g : Nat} {l : List Int} (h : IntAt w g l) (hf : Fr M w w') (hm : ¬ M g) : IntAt w' g l := hf.at hm h
theorem BoolAt.cell {w : World} {g : Nat} {l : List Bool} (h : BoolAt w g l) {k : Nat} (hk : k < l.length) : w.cell? ⟨g, k, none⟩ = some (.bool (l.getD k false)) := by
  unfold BoolAt at h
  simp [World.cell?, h, List.getD_eq_getElem?_getD, List.getElem?_eq_getElem hk]
theorem IntAt.cell {w : World} {g : Nat} {l : List Int} (h : IntAt w g l) {k : Nat} (hk : k < l.length) : w.cell? ⟨g, k, none⟩ = some (.int .i64 (l.getD k 0)) := by
  unfold IntAt at h
  simp [World.cell?, h, List.getD_eq_getElem?_getD, List.getElem?_eq_getElem hk]
theorem BoolAt.free {w : World} {g : Nat} {l : List Bool} (h : BoolAt w g l) (k : Nat) : w.frozen? ⟨g, k, none⟩ = false := by unfold BoolAt at h; simp [World.frozen?, h]
theorem IntAt.free {w : World} {g : Nat} {l : List Int} (h : IntAt w g l) (k : Nat) : w.frozen? ⟨g, k, none⟩ = false := by unfold IntAt at h; simp [World.frozen?, h]
theorem BoolAt.set {w : World} {g : Nat} {l : List Bool} (h : BoolAt w g l) (k : Nat) (b : Bool) : BoolAt (w.setCell ⟨g, k, none⟩ (.bool b)) g (l.set k b) := by
  have := set_at h k (.bool b)
  unfold BoolAt
  rw [this, List.setIfInBounds_toArray, List.map_set]
theorem IntAt.set {w : World} {g : Nat} {l : List Int} (h : IntAt w g l) (k : Nat) (b : Int) : IntAt (w.setCell ⟨g, k, none⟩ (.int .i64 b)) g (l.set k b) := by
  have := set_at h k (.int .i64 b)
  unfold IntAt
  rw [this, List.setIfInBounds_toArray, List.map_set]
theorem BoolAt.lt {w : World} {g : Nat} {l : List Bool} (h : BoolAt w g l) : g < w.heap.size := (Array.getElem?_eq_some_iff.1 h).1
theorem IntAt.lt {w : World} {g : Nat} {l : List Int} (h : IntAt w g l) : g < w.heap.size := (Array.getElem?_eq_some_iff.1 h).1
/-- The row while it is filled. -/
def fillB (P : Nat → Bool) (k n : Nat) : List Bool := (List.range k).map P ++ List.replicate (n - k) false
theorem fillB_len (P : Nat → Bool) {k n : Nat} (h : k ≤ n) : (fillB P k n).length = n := by simp [fillB]; omega
theorem fillB_on {P : Nat → Bool} {k n : Nat} (h : k < n) (hp : P k = true) : (fillB P k n).set k true = fillB P (k + 1) n := by
  unfold fillB
  rw [List.range_succ, List.map_append, List.set_append_right _ _ (by simp)]
  simp only [List.length_map, List.length_range, Nat.sub_self, List.map_cons, List.map_nil, List.append_assoc, hp]
  congr 1
  rw [show n - k = (n - (k + 1)) + 1 by omega, List.replicate_succ]
  rfl
theorem fillB_off {P : Nat → Bool} {k n : Nat} (h : k < n) (hp : P k = false) : fillB P k n = fillB P (k + 1) n := by
  unfold fillB
  rw [List.range_succ, List.map_append, List.append_assoc]
  congr 1
  rw [show n - k = (n - (k + 1)) + 1 by omega, List.replicate_succ]
  simp [hp]
theorem fillB_all (P : Nat → Bool) (n : Nat) : fillB P n n = (List.range n).map P := by simp [fillB]
end Go.Proofs.YtgpliiepoimcbaaDoor
end
section
/- The walk of invariant's malformed. -/
namespace Go.Proofs.YtgpliiepoimcbaaDoor
open Go.RowKit
set_option maxRecDepth 100000

abbrev strMap (w : World) (b : Nat) (g : ByteArray → Option Int) : Prop := MpIs .string Value.string (Value.int .i64) w b g
abbrev flagMap (w : World) (b : Nat) (g : ByteArray → Option Bool) : Prop := MpIs .string Value.string Value.bool w b g
theorem RdD.more {M : Nat → Prop} {w : World} {sN sL sR : Value} {d : Dmp} (h : RdD M w sN sL sR d) : RdD (fun k => M k ∨ w.heap.size ≤ k) w sN sL sR d := ⟨h.nodes.more, h.links.more, h.roots.more⟩
/-- The state of malformed's loop. -/
structure MalS (M : Nat → Prop) (w : World) (sN sL sR : Value) (d : Dmp) (bc ba br : Nat) (c : Int) (l : List Flw) (g bw bm : Nat) (k : Nat) (gw : ByteArray → Option Int) (gm : ByteArray → Option Bool) (W : World) : Prop where
  nums : g = w.heap.size + 1 ∧ bw = w.heap.size + 2 ∧ bm = w.heap.size + 3
  fr : Fr M w W
  rd : RdD (fun q => M q ∨ w.heap.size ≤ q) W sN sL sR d
  note : ∃ M', NoteAt M' W bc ba br (c + (fls 1 (malfAt (nsOf d)) k).length) (l ++ fls 1 (malfAt (nsOf d)) k) ∧ Gr M M' w ∧ (∀ j, w.heap.size ≤ j → j < w.heap.size + 4 → ¬ M' j)
  box : W.heap[w.heap.size]? = some (.cells (dumpCells sN sL sR) 26 (0, 0))
  bad : BoolAt W g (fillB (malfAt (nsOf d)) k d.nodes.length)
  wd : strMap W bw gw
  mx : flagMap W bm gm
  lt : ∀ k, M k → k < w.heap.size
section
variable {M : Nat → Prop} {w : World} {sN sL sR : Value} {d : Dmp} {bc ba br : Nat} {c : Int} {l : List Flw} {g bw bm : Nat} {k : Nat} {gw : ByteArray → Option Int} {gm : ByteArray → Option Bool} {W W' : World}
theorem MalS.step (h : MalS M w sN sL sR d bc ba br c l g bw bm k gw gm W) (hf : Fr NoB W W') : MalS M w sN sL sR d bc ba br c l g bw bm k gw gm W' := by
  obtain ⟨h0, h1, h2, ⟨M', h3, h3', h3''⟩, h4, h5, h6, h7, h8⟩ := h
  exact ⟨h0, h1.step hf, h2.step hf, ⟨M', h3.step hf, h3', h3''⟩, hf.at (fun h => h) h4, h5.fr hf (fun h => h), h6.fr hf (fun h => h), h7.fr hf (fun h => h), h8⟩
theorem MalS.off (h : MalS M w sN sL sR d bc ba br c l g bw bm k gw gm W) (hk : k < d.nodes.length) (hp : malfAt (nsOf d) k = false) : MalS M w sN sL sR d bc ba br c l g bw bm (k + 1) gw gm W := by
  obtain ⟨h0, h1, h2, h3, h4, h5, h6, h7, h8⟩ := h
  rw [← fls_off hp] at h3
  rw [fillB_off hk hp] at h5
  exact ⟨h0, h1, h2, h3, h4, h5, h6, h7, h8⟩
/-- Only blocks of its own turn: not the bad row, not the report. -/
theorem MalS.turn (h : MalS M w sN sL sR d bc ba br c l g bw bm k gw gm W) {q : Nat} (hq : q = bw ∨ q = bm) (hf : Fr (fun j => j = q) W W') {gw' : ByteArray → Option Int} {gm' : ByteArray → Option Bool} (h6' : strMap W' bw gw') (h7' : flagMap W' bm gm') : MalS M w sN sL sR d bc ba br c l g bw bm k gw' gm' W' := by
  obtain ⟨h0, h1, h2, ⟨M', h3, h3', h3''⟩, h4, h5, h6, h7, h8⟩ := h
  have hba : ba ≠ q := fun e => by
    rcases hq with rfl | rfl
    · exact h6.ne_cells h3.fn e
    · exact h7.ne_cells h3.fn e
  refine ⟨h0, h1.trans' hf (fun j hj e => by omega), h2.fr hf (fun j _ e => .inr (by rw [show j = q from e]; omega)), ⟨M', h3.fr hf (fun j hj e => h3'' q (by omega) (by omega) (by rw [← show j = q from e]; exact hj)) hba, h3', h3''⟩, hf.at (by omega) h4, h5.fr hf (by omega), h6', h7', h8⟩
theorem MalS.mark (h : MalS M w sN sL sR d bc ba br c l g bw bm k gw gm W) (hk : k < d.nodes.length) (hp : malfAt (nsOf d) k = true) :
    ∃ M', NoteAt M' (W.setCell ⟨g, k, none⟩ (.bool true)) bc ba br (c + (fls 1 (malfAt (nsOf d)) k).length) (l ++ fls 1 (malfAt (nsOf d)) k) ∧
      ∀ W2 M2, NoteAt M2 W2 bc ba br (c + (fls 1 (malfAt (nsOf d)) k).length + 1) (l ++ fls 1 (malfAt (nsOf d)) k ++ [⟨1, k⟩]) → Gr M' M2 (W.setCell ⟨g, k, none⟩ (.bool true)) → Fr M' (W.setCell ⟨g, k, none⟩ (.bool true)) W2 → MalS M w sN sL sR d bc ba br c l g bw bm (k + 1) gw gm W2 := by
  obtain ⟨h0, h1, h2, ⟨M', h3, h3', h3''⟩, h4, h5, h6, h7, h8⟩ := h
  have hf : Fr (fun j => j = g) W (W.setCell ⟨g, k, none⟩ (.bool true)) := (Fr.refl (fun j => j = g) W).setCell (p := ⟨g, k, none⟩) (fun _ => rfl) _
  have hba : ba ≠ g := ne_of_types h3.fn h5 (by decide)
  have hbw := h6.lt
  have hbm := h7.lt
  have b5 := h5.set k true
  have n6 : bw ≠ g := by omega
  have n7 : bm ≠ g := by omega
  refine ⟨M', h3.fr hf (fun j hj e => h3'' g (by omega) (by omega) (by rw [← show j = g from e]; exact hj)) hba, fun W2 M2 hn hg hf2 => ?_⟩
  have hsz : (W.setCell ⟨g, k, none⟩ (.bool true)).heap.size = W.heap.size := by simp [World.setCell]
  have k2 : ∀ j, w.heap.size ≤ j → j < w.heap.size + 4 → ¬ M' j := h3''
  refine ⟨h0, (h1.trans' hf (fun j hj e => by omega)).trans' hf2 (fun j hj e => (h3' j e).resolve_right (by omega)), (h2.fr hf (fun j _ e => .inr (by rw [show j = g from e]; omega))).fr hf2 (fun j _ e => h3' j e), ⟨M2, ?_, fun j hj => ?_, fun j a1 a2 a3 => ?_⟩, hf2.at (k2 _ (by omega) (by omega)) (hf.at (by omega) h4), ?_, (h6.fr hf n6).fr hf2 (k2 _ (by omega) (by omega)), (h7.fr hf n7).fr hf2 (k2 _ (by omega) (by omega)), h8⟩
  · rw [fls_on hp, List.length_append, ← List.append_assoc]
    simpa [Int.add_assoc] using hn
  · rcases hg j hj with h9 | h9
    · exact h3' j h9
    · exact .inr (by have := h1.size; omega)
  · rcases hg j a3 with h9 | h9
    · exact h3'' j a1 a2 h9
    · omega
  · rw [← fillB_on hk hp]
    exact b5.fr hf2 (k2 _ (by omega) (by omega))
end

set_option maxHeartbeats 4000000 in
theorem malformed_any (M : Nat → Prop) (sN sL sR : Value) (d : Dmp) (w : World) (bc ba br : Nat) (c : Int) (l : List Flw) (hd : RdD M w sN sL sR d) (hna : NoteAt M w bc ba br c l) (hlen : d.nodes.length ≤ 1000000) (hll : l.length ≤ 10000000) (hc0 : 0 ≤ c) (hc1 : c ≤ 10000000) :
    Calls Tryd.prog 31 #[dumpV sN sL sR, .func (.func 30) #[] #[.pointer (some ⟨bc, 0, none⟩), .pointer (some ⟨ba, 0, none⟩)]] w fun e w' => ∃ g, e = .returned (.slice (some ⟨g, 0, none⟩) d.nodes.length d.nodes.length) ∧ BoolAt w' g ((List.range d.nodes.length).map (malfAt (nsOf d))) ∧
      (∃ M', NoteAt M' w' bc ba br (c + (fls 1 (malfAt (nsOf d)) d.nodes.length).length) (l ++ fls 1 (malfAt (nsOf d)) d.nodes.length) ∧ Gr M M' w ∧ ¬ M' g) ∧ w.heap.size ≤ g ∧ Fr M w w' := by
  obtain ⟨p, c1, hp⟩ := hd.nodes.form
  subst hp
  have hlt := hna.lt
  have S0 : Hid (MalS M w (.slice p d.nodes.length c1) sL sR d bc ba br c l (w.heap.size + 1) (w.heap.size + 1 + 1) (w.heap.size + 1 + 1 + 1) 0 (fun _ => none) (fun _ => none) ((((w.alloc (.cells (dumpCells (.slice p d.nodes.length c1) sL sR) 26)).alloc (.cells (Array.replicate d.nodes.length (.bool false)) 4)).alloc (.map #[] 0)).alloc (.map #[] 0))) := by
    have f4 : Fr NoB w ((((w.alloc (.cells (dumpCells (.slice p d.nodes.length c1) sL sR) 26)).alloc (.cells (Array.replicate d.nodes.length (.bool false)) 4)).alloc (.map #[] 0)).alloc (.map #[] 0)) := ((((Fr.refl NoB w).alloc _).alloc _).alloc _).alloc _
    refine ⟨⟨rfl, rfl, rfl⟩, f4.mono (fun _ _ h => h.elim), hd.more.step f4, ⟨M, by simpa [fls] using hna.step f4, Gr.refl _ _, fun j h1 h2 h3 => by have := hlt j h3; omega⟩, ?_, ?_, ?_, ?_, hlt⟩
    · exact at_old (at_old (at_old (at_new w _) _) _) _
    · show BoolAt _ _ (List.replicate d.nodes.length false)
      unfold BoolAt
      rw [← repB]
      exact at_old (at_old (at_new' (by simp)) _) _
    · have h := MpIs.new .string Value.string (Value.int .i64) ((w.alloc (.cells (dumpCells (.slice p d.nodes.length c1) sL sR) 26)).alloc (.cells (Array.replicate d.nodes.length (.bool false)) 4))
      simp only [World.size_alloc] at h
      exact h.fr ((Fr.refl NoB _).alloc _) (fun h => h)
    · have h := MpIs.new .string Value.string Value.bool (((w.alloc (.cells (dumpCells (.slice p d.nodes.length c1) sL sR) 26)).alloc (.cells (Array.replicate d.nodes.length (.bool false)) 4)).alloc (.map #[] 0))
      simp only [World.size_alloc] at h
      exact h
  have hmm := @run_makeMap Tryd.prog
  have hmk := fun w => make_bool w d.nodes.length hlen
  obtain ⟨w0, hw0⟩ : ∃ w0, (((w.alloc (.cells (dumpCells (.slice p d.nodes.length c1) sL sR) 26)).alloc (.cells (Array.replicate d.nodes.length (.bool false)) 4)).alloc (.map #[] 0)).alloc (.map #[] 0) = w0 := ⟨_, rfl⟩
  rw [hw0] at S0
  have HW0 := hid hw0
  clear hd hna hw0 hlt
  unfold dumpV
  go_enter Tryd.func31, Tryd.ntmps31
  go_wp2
  clear hmm hmk
  rw [HW0.out]
  go_loopw [22] (fun j wr => ∃ (k : Nat), k ≤ d.nodes.length ∧ j = .int .i64 k ∧ (∃ gw gm, MalS M w (.slice p d.nodes.length c1) sL sR d bc ba br c l (w.heap.size + 1) (w.heap.size + 1 + 1) (w.heap.size + 1 + 1 + 1) k gw gm wr ∧ (∀ nm, gw nm = firstW ((nsOf d).take k) nm) ∧ ∀ nm, (gm nm).getD false = mixOf ((nsOf d).take k) nm)) (fun j _ => d.nodes.length - (intOf j).toNat)
  case atStart => exact ⟨0, Nat.zero_le _, rfl, _, _, S0.out, fun _ => rfl, fun _ => rfl⟩
  case round =>
    obtain ⟨k, hk, rfl, gw, gm, hs, hgw, hgm⟩ := hrel
    have S := hid hs
    have GW := hid hgw
    have GM := hid hgm
    clear hs hgw hgm S0 HW0
    by_cases hlt : k < d.nodes.length
    · obtain ⟨b, off, rfl, e0, e1, e2, e3, e4, ha⟩ := S.out.rd.nodes.nodeK hlt
      have HX := hid (nsOf_at hlt)
      obtain ⟨x, hx⟩ : ∃ x, d.nodes[k] = x := ⟨_, rfl⟩
      rw [hx] at e0 e1 e2 e3 e4 ha HX
      obtain ⟨xn, xs⟩ := x
      simp only at e0 e1 e2 e3 e4 ha HX
      obtain ⟨xa, xc, hv⟩ := ha.form
      subst hv
      have HA := hid ha
      clear hx ha
      go_wp2_with fail
      clear e0 e1 e2 e3 e4
      have SB := hid (S.out.step (((Fr.refl NoB wr).alloc (.cells (nodeCells xn (.slice xa xn.args.length xc)) 40))))
      have hb := at_new wr (.cells (nodeCells xn (.slice xa xn.args.length xc)) 40)
      refine (formed_any _ xn (.slice xa xn.args.length xc) _ (HA.out.fr ((Fr.refl NoB wr).alloc _) (fun _ _ h => h.elim))).mono ?_
      rintro e w1 ⟨rfl, hf⟩
      obtain ⟨x0, x1, x2, x3, x4, xf, xl⟩ := five_of (hf.at (fun h => h) hb)
      have S1 := hid (SB.out.step hf)
      have HB := hid (hf.at (fun h => h) hb)
      have HSZ : Hid (w.heap.size + 4 ≤ wr.heap.size) := by
        have h1 := S.out.mx
        obtain ⟨gm, h1, _⟩ := h1
        have := h1.lt
        show _ ≤ _
        omega
      have HF : Hid (Fr NoB wr w1) := ((Fr.refl NoB wr).alloc _).step hf
      clear hf hb SB S
      have TK : Hid ((nsOf d).take (k + 1) = (nsOf d).take k ++ [xn]) := by show _ = _; rw [List.take_add_one, HX.out]; rfl
      have HML : Hid (malfAt (nsOf d) k = malfS xn ((nsOf d).take k)) := by show _ = _; unfold malfAt; rw [HX.out]; rfl
      have hbox : wr.heap.size ≠ w.heap.size + 1 + 1 ∧ wr.heap.size ≠ w.heap.size + 1 + 1 + 1 := by have := HSZ.out; omega
      have HBX := hid hbox
      clear hbox
      by_cases hop : xn.op = 1
      rotate_left
      · have hq : (xn.op == 1) = false := by simpa using hop
        have HOP := hid hq
        have GW1 : Hid (∀ nm, gw nm = firstW ((nsOf d).take (k + 1)) nm) := by
          intro nm
          rw [TK.out, firstW_app, GW.out nm]
          simp [isVar, HOP.out]
        have GM1 : Hid (∀ nm, (gm nm).getD false = mixOf ((nsOf d).take (k + 1)) nm) := by
          intro nm
          rw [TK.out, mixOf_app, GM.out nm]
          simp [isVar, HOP.out]
        clear hop
        cases hfm : formedS xn with
        | true =>
          have HMF : Hid (malfAt (nsOf d) k = false) := by show _ = _; rw [HML.out, malfS, hfm, HOP.out]; rfl
          clear hfm
          go_wp2
          go_roundw
          case rel => exact ⟨k + 1, by omega, by go_num, _, _, S1.out.off hlt HMF.out, GW1.out, GM1.out⟩
          case measure => simp [intOf]; omega
        | false =>
          have HMT : Hid (malfAt (nsOf d) k = true) := by show _ = _; rw [HML.out, malfS, hfm]; rfl
          clear hfm
          obtain ⟨bv, ck⟩ : ∃ bv, w1.cell? ⟨w.heap.size + 1, k, none⟩ = some (.bool bv) := ⟨_, S1.out.bad.cell (by rw [fillB_len _ (by omega)]; exact hlt)⟩
          have fk := S1.out.bad.free k
          obtain ⟨M3, n3, k3⟩ := S1.out.mark hlt HMT.out
          have HN3 := hid n3
          have HK3 := hid k3
          clear n3 k3
          go_wp2_with fail
          have hfl := fls_le 1 (malfAt (nsOf d)) k
          refine (note_any M3 _ bc ba br _ _ 1 k HN3.out (by rw [List.length_append]; omega) (by omega) (by omega)).mono ?_
          rintro e w9 ⟨rfl, ⟨M4, n4, g4⟩, f4⟩
          have S9 := hid (HK3.out w9 M4 n4 g4 f4)
          clear n4 g4 f4 hfl
          go_wp2
          go_roundw
          case rel => exact ⟨k + 1, by omega, by go_num, _, _, S9.out, GW1.out, GM1.out⟩
          case measure => simp [intOf]; omega
      · have hq : (xn.op == 1) = true := by simpa using hop
        have HOP := hid hq
        have HVN : Hid (∀ nm, isVar nm xn = decide (nm = xn.name)) := by
          intro nm
          unfold isVar
          rw [HOP.out, Bool.true_and, Bool.eq_iff_iff]
          simp only [beq_iff_eq, decide_eq_true_eq]
          exact ⟨fun e => (toList_inj e).symm, fun e => by rw [e]⟩
        clear hop
        have lkw := S1.out.wd.look (P := Tryd.prog) kkString Tryd.underlying66 Tryd.underlying9 (z := .int .i64 0) (by kernel_rfl) xn.name true
        cases hg : gw xn.name with
        | none =>
          rw [hg] at lkw
          have HG := hid hg
          obtain ⟨w2, p1, p2, p3⟩ := S1.out.wd.put (P := Tryd.prog) kkString Tryd.underlying66 Tryd.underlying9 xn.name xn.width
          have S2 := hid (S1.out.turn (.inl rfl) p3 p2 (S1.out.mx.fr p3 (by omega)))
          obtain ⟨y0, y1, y2, y3, y4, yf, yl⟩ := five_of (p3.at HBX.out.1 HB.out)
          have hmix : mixOf ((nsOf d).take k) xn.name = false := mixOf_none (by rw [← GW.out]; exact hg)
          have lkm := S2.out.mx.look (P := Tryd.prog) kkString Tryd.underlying67 Tryd.underlying9 (z := .bool false) (by kernel_rfl) xn.name false
          have hval : ((gm xn.name).map Value.bool).getD (.bool false) = .bool false := by
            have := GM.out xn.name
            rw [hmix] at this
            cases h : gm xn.name with
            | none => rfl
            | some b => rw [h] at this; simp at this; rw [this]; rfl
          simp only [Bool.false_eq_true, if_false, hval] at lkm
          have HMIX := hid hmix
          have GW1 : Hid (∀ nm, (if nm = xn.name then some xn.width else gw nm) = firstW ((nsOf d).take (k + 1)) nm) := by
            intro nm
            rw [TK.out, firstW_app, ← GW.out nm, HVN.out]
            by_cases e : nm = xn.name
            · subst e; rw [HG.out]; simp
            · simp [e]
          have GM1 : Hid (∀ nm, (gm nm).getD false = mixOf ((nsOf d).take (k + 1)) nm) := by
            intro nm
            rw [TK.out, mixOf_app, GM.out nm, HVN.out]
            by_cases e : nm = xn.name
            · subst e; rw [← GW.out, HG.out]; simp
            · simp [e]
          have HCL : Hid (clashS xn ((nsOf d).take k) = false) := by show _ = _; rw [clash_mix, HMIX.out, ← GW.out, HG.out]; rfl
          clear hg p2 p3 hmix hval x2 x4 y0 y2 y4
          cases hfm : formedS xn with
          | true =>
            have HMF : Hid (malfAt (nsOf d) k = false) := by show _ = _; rw [HML.out, malfS, hfm, HCL.out]; simp
            clear hfm
            go_wp2
            go_roundw
            case rel => exact ⟨k + 1, by omega, by go_num, _, _, S2.out.off hlt HMF.out, GW1.out, GM1.out⟩
            case measure => simp [intOf]; omega
          | false =>
            have HMT : Hid (malfAt (nsOf d) k = true) := by show _ = _; rw [HML.out, malfS, hfm]; rfl
            clear hfm
            obtain ⟨bv, ck⟩ : ∃ bv, w2.cell? ⟨w.heap.size + 1, k, none⟩ = some (.bool bv) := ⟨_, S2.out.bad.cell (by rw [fillB_len _ (by omega)]; exact hlt)⟩
            have fk := S2.out.bad.free k
            obtain ⟨M3, n3, k3⟩ := S2.out.mark hlt HMT.out
            have HN3 := hid n3
            have HK3 := hid k3
            clear n3 k3
            go_wp2_with fail
            have hfl := fls_le 1 (malfAt (nsOf d)) k
            refine (note_any M3 _ bc ba br _ _ 1 k HN3.out (by rw [List.length_append]; omega) (by omega) (by omega)).mono ?_
            rintro e w9 ⟨rfl, ⟨M4, n4, g4⟩, f4⟩
            have S9 := hid (HK3.out w9 M4 n4 g4 f4)
            clear n4 g4 f4 hfl
            go_wp2
            go_roundw
            case rel => exact ⟨k + 1, by omega, by go_num, _, _, S9.out, GW1.out, GM1.out⟩
            case measure => simp [intOf]; omega
        | some f =>
          rw [hg] at lkw
          have HG := hid hg
          have lkm := S1.out.mx.look (P := Tryd.prog) kkString Tryd.underlying67 Tryd.underlying9 (z := .bool false) (by kernel_rfl) xn.name false
          obtain ⟨mv, hmv⟩ : ∃ mv, mixOf ((nsOf d).take k) xn.name = mv := ⟨_, rfl⟩
          have hval : ((gm xn.name).map Value.bool).getD (.bool false) = .bool mv := by
            have := GM.out xn.name
            rw [hmv] at this
            cases h : gm xn.name with
            | none => rw [h] at this; simp at this; rw [this]; rfl
            | some b => rw [h] at this; simp at this; rw [this]; rfl
          simp only [Bool.false_eq_true, if_false, hval] at lkm
          have HCL : Hid (clashS xn ((nsOf d).take k) = (mv || f != xn.width)) := by
            show _ = _
            rw [clash_mix, hmv, ← GW.out, HG.out]
            simp only [Option.isSome_some, Bool.true_and]
            congr 1
          have HMV := hid hmv
          clear hg hmv hval x2 x4
          by_cases hbad : mv = true ∨ f ≠ xn.width
          · obtain ⟨w2, p1, p2, p3⟩ := S1.out.mx.put (P := Tryd.prog) kkString Tryd.underlying67 Tryd.underlying9 xn.name true
            have S2 := hid (S1.out.turn (.inr rfl) p3 (S1.out.wd.fr p3 (by omega)) p2)
            have HCT : Hid ((mv || f != xn.width) = true) := by
              show _ = _
              rcases hbad with h | h
              · rw [h]; rfl
              · simp [h]
            have HMT : Hid (malfAt (nsOf d) k = true) := by show _ = _; rw [HML.out, malfS, HCL.out, HCT.out, HOP.out]; simp
            have GW1 : Hid (∀ nm, gw nm = firstW ((nsOf d).take (k + 1)) nm) := by
              intro nm
              rw [TK.out, firstW_app, ← GW.out nm, HVN.out]
              by_cases e : nm = xn.name
              · subst e; rw [HG.out]; simp
              · simp [e]
            have GM1 : Hid (∀ nm, (if nm = xn.name then some true else gm nm).getD false = mixOf ((nsOf d).take (k + 1)) nm) := by
              intro nm
              rw [TK.out, mixOf_app, HVN.out]
              by_cases e : nm = xn.name
              · subst e
                rw [← GW.out, HG.out, HMV.out]
                have := HCT.out
                simp only [if_true, Option.getD_some, decide_true]
                rw [show ((some f).isSome && some f != some xn.width) = (f != xn.width) by simp only [Option.isSome_some, Bool.true_and]; rw [Bool.eq_iff_iff]; simp]
                exact this.symm
              · simp [e, GM.out nm]
            cases mv with
            | true =>
              clear hbad p2 p3
              obtain ⟨bv, ck⟩ : ∃ bv, w2.cell? ⟨w.heap.size + 1, k, none⟩ = some (.bool bv) := ⟨_, S2.out.bad.cell (by rw [fillB_len _ (by omega)]; exact hlt)⟩
              have fk := S2.out.bad.free k
              obtain ⟨M3, n3, k3⟩ := S2.out.mark hlt HMT.out
              have HN3 := hid n3
              have HK3 := hid k3
              clear n3 k3
              go_wp2_with fail
              have hfl := fls_le 1 (malfAt (nsOf d)) k
              refine (note_any M3 _ bc ba br _ _ 1 k HN3.out (by rw [List.length_append]; omega) (by omega) (by omega)).mono ?_
              rintro e w9 ⟨rfl, ⟨M4, n4, g4⟩, f4⟩
              have S9 := hid (HK3.out w9 M4 n4 g4 f4)
              clear n4 g4 f4 hfl
              go_wp2
              go_roundw
              case rel => exact ⟨k + 1, by omega, by go_num, _, _, S9.out, GW1.out, GM1.out⟩
              case measure => simp [intOf]; omega
            | false =>
              have hfw : (f != xn.width) = true := by simpa using hbad
              clear hbad p2 p3
              obtain ⟨bv, ck⟩ : ∃ bv, w2.cell? ⟨w.heap.size + 1, k, none⟩ = some (.bool bv) := ⟨_, S2.out.bad.cell (by rw [fillB_len _ (by omega)]; exact hlt)⟩
              have fk := S2.out.bad.free k
              obtain ⟨M3, n3, k3⟩ := S2.out.mark hlt HMT.out
              have HN3 := hid n3
              have HK3 := hid k3
              clear n3 k3
              go_wp2_with fail
              have hfl := fls_le 1 (malfAt (nsOf d)) k
              refine (note_any M3 _ bc ba br _ _ 1 k HN3.out (by rw [List.length_append]; omega) (by omega) (by omega)).mono ?_
              rintro e w9 ⟨rfl, ⟨M4, n4, g4⟩, f4⟩
              have S9 := hid (HK3.out w9 M4 n4 g4 f4)
              clear n4 g4 f4 hfl
              go_wp2
              go_roundw
              case rel => exact ⟨k + 1, by omega, by go_num, _, _, S9.out, GW1.out, GM1.out⟩
              case measure => simp [intOf]; omega
          · have hmf : mv = false := by cases mv <;> simp_all
            have hfw : f = xn.width := by by_cases e : f = xn.width; exact e; exact absurd (.inr e) hbad
            subst hmf
            have hfw2 : (f != xn.width) = false := by simpa using hfw
            have HCF : Hid (clashS xn ((nsOf d).take k) = false) := by show _ = _; rw [HCL.out, hfw2]; rfl
            have GW1 : Hid (∀ nm, gw nm = firstW ((nsOf d).take (k + 1)) nm) := by
              intro nm
              rw [TK.out, firstW_app, ← GW.out nm, HVN.out]
              by_cases e : nm = xn.name
              · subst e; rw [HG.out]; simp
              · simp [e]
            have HFW2 := hid hfw2
            have GM1 : Hid (∀ nm, (gm nm).getD false = mixOf ((nsOf d).take (k + 1)) nm) := by
              intro nm
              rw [TK.out, mixOf_app, GM.out nm, HVN.out]
              by_cases e : nm = xn.name
              · subst e
                rw [← GW.out, HG.out, HMV.out, show ((some f).isSome && some f != some xn.width) = (f != xn.width) by simp only [Option.isSome_some, Bool.true_and]; rw [Bool.eq_iff_iff]; simp, HFW2.out]
                simp
              · simp [e]
            clear hbad hfw
            cases hfm : formedS xn with
            | true =>
              have HMF : Hid (malfAt (nsOf d) k = false) := by show _ = _; rw [HML.out, malfS, hfm, HCF.out]; simp
              clear hfm
              go_wp2
              go_roundw
              case rel => exact ⟨k + 1, by omega, by go_num, _, _, S1.out.off hlt HMF.out, GW1.out, GM1.out⟩
              case measure => simp [intOf]; omega
            | false =>
              have HMT : Hid (malfAt (nsOf d) k = true) := by show _ = _; rw [HML.out, malfS, hfm]; rfl
              clear hfm
              obtain ⟨bv, ck⟩ : ∃ bv, w1.cell? ⟨w.heap.size + 1, k, none⟩ = some (.bool bv) := ⟨_, S1.out.bad.cell (by rw [fillB_len _ (by omega)]; exact hlt)⟩
              have fk := S1.out.bad.free k
              obtain ⟨M3, n3, k3⟩ := S1.out.mark hlt HMT.out
              have HN3 := hid n3
              have HK3 := hid k3
              clear n3 k3
              go_wp2_with fail
              have hfl := fls_le 1 (malfAt (nsOf d)) k
              refine (note_any M3 _ bc ba br _ _ 1 k HN3.out (by rw [List.length_append]; omega) (by omega) (by omega)).mono ?_
              rintro e w9 ⟨rfl, ⟨M4, n4, g4⟩, f4⟩
              have S9 := hid (HK3.out w9 M4 n4 g4 f4)
              clear n4 g4 f4 hfl
              go_wp2
              go_roundw
              case rel => exact ⟨k + 1, by omega, by go_num, _, _, S9.out, GW1.out, GM1.out⟩
              case measure => simp [intOf]; omega
    · obtain rfl : k = d.nodes.length := by omega
      go_wp2
      go_ret
      obtain ⟨M', h1, h2, h3⟩ := S.out.note
      exact ⟨_, rfl, by have := S.out.bad; rw [fillB_all] at this; exact this, ⟨M', h1, h2, h3 _ (by omega) (by omega)⟩, by omega, S.out.fr⟩
end Go.Proofs.YtgpliiepoimcbaaDoor
end
section
/- The walk of invariant's nodes. -/
namespace Go.Proofs.YtgpliiepoimcbaaDoor
open Go.RowKit
set_option maxRecDepth 100000

theorem RdD.weaken {N M : Nat → Prop} {w : World} {sN sL sR : Value} {d : Dmp} (h : RdD N w sN sL sR d) (hm : ∀ k, k < w.heap.size → M k → N k) : RdD M w sN sL sR d := ⟨h.nodes.weaken hm, h.links.weaken hm, h.roots.weaken hm⟩
/-- The state of nodes' loops: the flaws F found so far, the bad nodes bl. -/
structure NodS (M : Nat → Prop) (w : World) (sN sL sR : Value) (d : Dmp) (bc ba br g : Nat) (l F : List Flw) (bl : List Bool) (W : World) : Prop where
  fr : Fr M w W
  rd : RdD (fun q => M q ∨ w.heap.size ≤ q) W sN sL sR d
  note : ∃ M', NoteAt M' W bc ba br F.length (l ++ F) ∧ Gr M M' w ∧ ¬ M' g ∧ ¬ M' w.heap.size
  box : W.heap[w.heap.size]? = some (.cells (dumpCells sN sL sR) 26 (0, 0))
  bad : BoolAt W g bl
  lt : ∀ k, M k → k < w.heap.size
  gg : w.heap.size ≤ g
section
variable {M : Nat → Prop} {w : World} {sN sL sR : Value} {d : Dmp} {bc ba br g : Nat} {l F : List Flw} {bl : List Bool} {W W' : World}
theorem NodS.step (h : NodS M w sN sL sR d bc ba br g l F bl W) (hf : Fr NoB W W') : NodS M w sN sL sR d bc ba br g l F bl W' := by
  obtain ⟨h1, h2, ⟨M', h3, h3', h3'', h3x⟩, h4, h5, h6, h7⟩ := h
  exact ⟨h1.step hf, h2.step hf, ⟨M', h3.step hf, h3', h3'', h3x⟩, hf.at (fun h => h) h4, h5.fr hf (fun h => h), h6, h7⟩
theorem NodS.set (h : NodS M w sN sL sR d bc ba br g l F bl W) (k : Nat) : NodS M w sN sL sR d bc ba br g l F (bl.set k true) (W.setCell ⟨g, k, none⟩ (.bool true)) := by
  obtain ⟨h1, h2, ⟨M', h3, h3', h3'', h3x⟩, h4, h5, h6, h7⟩ := h
  have hf : Fr (fun j => j = g) W (W.setCell ⟨g, k, none⟩ (.bool true)) := (Fr.refl (fun j => j = g) W).setCell (p := ⟨g, k, none⟩) (fun _ => rfl) _
  have hba : ba ≠ g := ne_of_types h3.fn h5 (by decide)
  have hbx : w.heap.size ≠ g := ne_of_types h4 h5 (by decide)
  exact ⟨h1.trans' hf (fun j hj e => by omega), h2.fr hf (fun j _ e => .inr (by rw [show j = g from e]; omega)), ⟨M', h3.fr hf (fun j hj e => h3'' (by rw [← show j = g from e]; exact hj)) hba, h3', h3'', h3x⟩, hf.at hbx h4, h5.set k true, h6, h7⟩
theorem NodS.noted (h : NodS M w sN sL sR d bc ba br g l F bl W) : ∃ M', NoteAt M' W bc ba br F.length (l ++ F) ∧
    ∀ W2 M2 f, NoteAt M2 W2 bc ba br ((F.length : Int) + 1) (l ++ F ++ [f]) → Gr M' M2 W → Fr M' W W2 → NodS M w sN sL sR d bc ba br g l (F ++ [f]) bl W2 := by
  obtain ⟨h1, h2, ⟨M', h3, h3', h3'', h3x⟩, h4, h5, h6, h7⟩ := h
  refine ⟨M', h3, fun W2 M2 f hn hg hf2 => ⟨h1.trans' hf2 (fun j hj e => (h3' j e).resolve_right (by omega)), h2.fr hf2 (fun j _ e => h3' j e), ⟨M2, ?_, fun j hj => ?_, fun h9 => ?_, fun h9 => ?_⟩, hf2.at h3x h4, h5.fr hf2 h3'', h6, h7⟩⟩
  · rw [List.length_append, ← List.append_assoc]
    simpa using hn
  · rcases hg j hj with h9 | h9
    · exact h3' j h9
    · exact .inr (by have := h1.size; omega)
  · rcases hg _ h9 with h9 | h9
    · exact h3'' h9
    · have := h5.lt; omega
  · rcases hg _ h9 with h9 | h9
    · exact h3x h9
    · have := (Array.getElem?_eq_some_iff.1 h4).1; omega
end
theorem badAt_len (ns : List Node) (n : Nat) : ((List.range n).map (badAt ns)).length = n := by simp
/-- The bad nodes while the order is looked at. -/
def badK (ns : List Node) (k n : Nat) : List Bool := (List.range n).map (fun i => malfAt ns i || (decide (i < k) && disAt ns i))
theorem badK_len (ns : List Node) (k n : Nat) : (badK ns k n).length = n := by simp [badK]
theorem badK_get {ns : List Node} {k n i : Nat} (hi : i < n) : (badK ns k n).getD i false = (malfAt ns i || (decide (i < k) && disAt ns i)) := by
  unfold badK
  rw [List.getD_eq_getElem?_getD, List.getElem?_map, List.getElem?_range hi]; rfl
theorem badK_zero (ns : List Node) (n : Nat) : badK ns 0 n = (List.range n).map (malfAt ns) := by unfold badK; congr 1; funext i; simp
theorem badK_all (ns : List Node) (n : Nat) : badK ns n n = (List.range n).map (badAt ns) := by
  unfold badK
  apply List.map_congr_left
  intro i hi
  have := List.mem_range.1 hi
  simp [badAt, this]
theorem badK_on {ns : List Node} {k n : Nat} (hk : k < n) (h : disAt ns k = true) : (badK ns k n).set k true = badK ns (k + 1) n := by
  apply List.ext_getElem?
  intro i
  rw [List.getElem?_set]
  unfold badK
  by_cases e : k = i
  · subst e; simp [hk, h]
  · rw [if_neg e]
    by_cases hi : i < n
    · simp only [List.getElem?_map, List.getElem?_range hi, Option.map_some, Option.some.injEq]
      have : decide (i < k) = decide (i < k + 1) := by simp; omega
      rw [this]
    · rw [List.getElem?_eq_none (by simp; omega), List.getElem?_eq_none (by simp; omega)]
theorem badK_off {ns : List Node} {k n : Nat} (h : disAt ns k = false) : badK ns k n = badK ns (k + 1) n := by
  unfold badK
  apply List.map_congr_left
  intro i hi
  by_cases e : i = k
  · subst e; simp [h]
  · have : decide (i < k) = decide (i < k + 1) := by simp; omega
    rw [this]

theorem wideAt_of {ns : List Node} {k : Nat} {x : Node} (h : ns[k]? = some x) : wideAt ns k = (!(badAt ns k || x.args.any (fun a => badAt ns a.toNat)) && !wOk x ns) := by
  unfold wideAt
  rw [h]
  simp only [Option.elim_some]
  cases badAt ns k with
  | true => rfl
  | false =>
    simp only [Bool.not_false, Bool.true_and, Bool.false_or]
    rw [List.all_eq_not_any_not]
    simp
theorem badAt_ord {ns : List Node} {k : Nat} {x : Node} (h : ns[k]? = some x) (hb : badAt ns k = false) : ∀ a ∈ x.args, 0 ≤ a ∧ a < k := by
  unfold badAt at hb
  rw [Bool.or_eq_false_iff] at hb
  have h2 := hb.2
  unfold disAt at h2
  rw [h] at h2
  simp only [Option.elim_some, Bool.not_eq_false'] at h2
  unfold ordS at h2
  rw [List.all_eq_true] at h2
  intro a ha
  simpa using h2 a ha

set_option maxHeartbeats 4000000 in
theorem nodes_any (M : Nat → Prop) (sN sL sR : Value) (d : Dmp) (w : World) (br : Nat) (l : List Flw) (hd : RdD M w sN sL sR d) (hr : RepAt M w br l) (hlen : d.nodes.length ≤ 1000000) (hll : l.length ≤ 1000000) (hla : ∀ x ∈ d.nodes, x.1.args.length ≤ 1000000) :
    Calls Tryd.prog 18 #[dumpV sN sL sR, .func (.func 19) #[.pointer (some ⟨br, 0, none⟩)] #[]] w fun e w' => e = .returned (.bool (decide (formF (nsOf d) = []))) ∧
      (∃ M', RepAt M' w' br (l ++ formF (nsOf d)) ∧ Gr M M' w) ∧ Fr M w w' := by
  obtain ⟨p, c1, hp⟩ := hd.nodes.form
  subst hp
  obtain ⟨w3, hw3⟩ : ∃ w3, ((w.alloc (.cells (dumpCells (.slice p d.nodes.length c1) sL sR) 26)).alloc (.cells #[.func (.func 19) #[.pointer (some ⟨br, 0, none⟩)] #[]] 47)).alloc (.cells #[.int .i64 0] 3) = w3 := ⟨_, rfl⟩
  have HN : Hid (NoteAt (fun q => M q ∨ q = w.heap.size + 1 + 1) w3 (w.heap.size + 1 + 1) (w.heap.size + 1) br 0 l) := by
    show NoteAt _ _ _ _ _ _ _
    have hlt := hr.lt
    have f3 : Fr NoB w w3 := by rw [← hw3]; exact (((Fr.refl NoB w).alloc _).alloc _).alloc _
    refine ⟨⟨M, hr.step f3, fun _ h => .inl h, fun h => by have := hlt _ h; omega, fun h => by have := hlt _ h; omega⟩, ?_, ?_, .inr rfl, fun h => ?_, fun k hk => ?_⟩
    · rw [← hw3]; exact at_new' (by simp)
    · rw [← hw3]; exact at_old (at_new' (by simp)) _
    · rcases h with h | h
      · have := hlt _ h; omega
      · omega
    · have : w3.heap.size = w.heap.size + 3 := by rw [← hw3]; simp
      rcases hk with hk | hk
      · have := hlt _ hk; omega
      · omega
  have HD : Hid (RdD (fun q => M q ∨ w.heap.size ≤ q) w3 (.slice p d.nodes.length c1) sL sR d) := by
    show RdD _ _ _ _ _ _
    exact hd.more.step (by rw [← hw3]; exact (((Fr.refl NoB w).alloc _).alloc _).alloc _)
  have HBX : Hid (w3.heap[w.heap.size]? = some (.cells (dumpCells (.slice p d.nodes.length c1) sL sR) 26 (0, 0))) := by
    show _ = _
    rw [← hw3]; exact at_old (at_old (at_new w _) _) _
  have HF3 : Hid (Fr NoB w w3) := by show Fr _ _ _; rw [← hw3]; exact (((Fr.refl NoB w).alloc _).alloc _).alloc _
  have HSZ : Hid (w3.heap.size = w.heap.size + 3) := by show _ = _; rw [← hw3]; simp
  have HLT := hid hr.lt
  have HLA := hid hla
  have HW3 := hid hw3
  clear hd hr hla hw3
  unfold dumpV
  go_enter Tryd.func18, Tryd.ntmps18
  go_wp2_with fail
  rw [HW3.out]
  refine (malformed_any (fun q => M q ∨ q = w.heap.size + 1 + 1) _ _ _ d w3 _ _ br 0 l (HD.out.weaken (fun q hq h => by rcases h with h | h; exact .inl h; exact .inr (by omega))) HN.out hlen (by omega) (by omega) (by omega)).mono ?_
  rintro e w4 ⟨g, rfl, hb, ⟨M', hn, hg, hng⟩, hgs, hf⟩
  have HG0 : Hid (∀ j, M' j → M j ∨ w.heap.size ≤ j) := fun j hj => by
    rcases hg j hj with h | h
    · rcases h with h | h
      · exact .inl h
      · exact .inr (by omega)
    · exact .inr (by have := HSZ.out; omega)
  have S4 : Hid (NodS M w (.slice p d.nodes.length c1) sL sR d (w.heap.size + 1 + 1) (w.heap.size + 1) br g l (fls 1 (malfAt (nsOf d)) d.nodes.length ++ fls 2 (disAt (nsOf d)) 0) (badK (nsOf d) 0 d.nodes.length) w4) := by
    refine ⟨(HF3.out.mono (fun _ _ h => h.elim)).trans' hf (fun k hk h => h.resolve_right (by omega)), HD.out.fr hf (fun k _ h => ?_), ⟨M', ?_, HG0.out, hng, fun h => ?_⟩, hf.at (fun h => ?_) HBX.out, ?_, HLT.out, by have := HSZ.out; omega⟩
    · rcases h with h | h
      · exact .inl h
      · exact .inr (by omega)
    · simpa [fls] using hn
    · rcases hg _ h with h | h
      · rcases h with h | h
        · have := HLT.out _ h; omega
        · omega
      · have := HSZ.out; omega
    · rcases h with h | h
      · have := HLT.out _ h; omega
      · omega
    · rw [badK_zero]; exact hb
  have HF1 := hid (fls_le 1 (malfAt (nsOf d)) d.nodes.length)
  clear hb hn hg hng hgs hf HN HBX HD HF3 HG0
  obtain ⟨d0, d1, d2, df, dl⟩ := three_of S4.out.box
  go_wp2
  clear d0 d1 d2 df dl
  go_loopw [22] (fun j wr => ∃ (k : Nat), k ≤ d.nodes.length ∧ j = .int .i64 k ∧ NodS M w (.slice p d.nodes.length c1) sL sR d (w.heap.size + 1 + 1) (w.heap.size + 1) br g l (fls 1 (malfAt (nsOf d)) d.nodes.length ++ fls 2 (disAt (nsOf d)) k) (badK (nsOf d) k d.nodes.length) wr) (fun j _ => d.nodes.length - (intOf j).toNat)
  case atStart => exact ⟨0, Nat.zero_le _, rfl, S4.out⟩
  case round =>
    obtain ⟨k, hk, rfl, hs⟩ := hrel
    have S := hid hs
    clear hs S4
    by_cases hlt : k < d.nodes.length
    · obtain ⟨b, off, rfl, e0, e1, e2, e3, e4, ha⟩ := S.out.rd.nodes.nodeK hlt
      have HX := hid (nsOf_at hlt)
      have HMEM := hid (List.getElem_mem hlt)
      obtain ⟨x, hx⟩ : ∃ x, d.nodes[k] = x := ⟨_, rfl⟩
      rw [hx] at e0 e1 e2 e3 e4 ha HX HMEM
      obtain ⟨xn, xs⟩ := x
      simp only at e0 e1 e2 e3 e4 ha HX
      obtain ⟨xa, xc, hv⟩ := ha.form
      subst hv
      have HA := hid ha
      have HAL : Hid (xn.args.length ≤ 1000000) := HLA.out _ HMEM.out
      clear hx ha
      go_wp2_with fail
      clear e0 e1 e2 e3 e4
      have S0 := hid (S.out.step ((Fr.refl NoB wr).alloc (.cells (nodeCells xn (.slice xa xn.args.length xc)) 40)))
      refine (ordered_any _ xn _ k _ (HA.out.fr ((Fr.refl NoB wr).alloc _) (fun _ _ h => h.elim)) HAL.out).mono ?_
      rintro e w1 ⟨rfl, hf⟩
      have S1 := hid (S0.out.step hf)
      have HDS : Hid (disAt (nsOf d) k = !ordS xn.args k) := by show _ = _; unfold disAt; rw [HX.out]; rfl
      have HF2 := hid (fls_le 2 (disAt (nsOf d)) k)
      clear hf S S0
      cases ho : ordS xn.args k with
      | true =>
        have HD0 : Hid (disAt (nsOf d) k = false) := by show _ = _; rw [HDS.out, ho]; rfl
        clear ho
        go_wp2
        go_roundw
        case rel => exact ⟨k + 1, by omega, by go_num, by rw [fls_off HD0.out, ← badK_off HD0.out]; exact S1.out⟩
        case measure => simp [intOf]; omega
      | false =>
        have HD1 : Hid (disAt (nsOf d) k = true) := by show _ = _; rw [HDS.out, ho]; rfl
        clear ho
        obtain ⟨bv, ck⟩ : ∃ bv, w1.cell? ⟨g, k, none⟩ = some (.bool bv) := ⟨_, S1.out.bad.cell (by rw [badK_len]; exact hlt)⟩
        have fk := S1.out.bad.free k
        obtain ⟨M3, n3, k3⟩ := (S1.out.set k).noted
        have HN3 := hid n3
        have HK3 := hid k3
        clear n3 k3
        go_wp2_with fail
        refine (note_any M3 _ _ _ br _ _ 2 k HN3.out ?_ (by omega) ?_).mono ?_
        · simp only [List.length_append]
          have h1 := HF1.out; have h2 := HF2.out
          omega
        · simp only [List.length_append]
          have h1 := HF1.out; have h2 := HF2.out
          omega
        rintro e w9 ⟨rfl, ⟨M4, n4, g4⟩, f4⟩
        have S9 := hid (HK3.out w9 M4 _ n4 g4 f4)
        clear n4 g4 f4
        go_wp2
        go_roundw
        case rel => exact ⟨k + 1, by omega, by go_num, by rw [fls_on HD1.out, ← badK_on hlt HD1.out, ← List.append_assoc]; exact S9.out⟩
        case measure => simp [intOf]; omega
    · obtain rfl : k = d.nodes.length := by omega
      obtain ⟨d0, d1, d2, df, dl⟩ := three_of S.out.box
      go_wp2
      clear d0 d1 d2 df dl
      rw [badK_all] at S
      have HF2 := hid (fls_le 2 (disAt (nsOf d)) d.nodes.length)
      go_loopw [41] (fun j wr => ∃ (k : Nat), k ≤ d.nodes.length ∧ j = .int .i64 k ∧ NodS M w (.slice p d.nodes.length c1) sL sR d (w.heap.size + 1 + 1) (w.heap.size + 1) br g l (fls 1 (malfAt (nsOf d)) d.nodes.length ++ fls 2 (disAt (nsOf d)) d.nodes.length ++ fls 3 (wideAt (nsOf d)) k) ((List.range d.nodes.length).map (badAt (nsOf d))) wr) (fun j _ => d.nodes.length - (intOf j).toNat)
      case atStart => exact ⟨0, Nat.zero_le _, rfl, by simpa [fls] using S.out⟩
      case round =>
        obtain ⟨k, hk, rfl, hs⟩ := hrel
        have S := hid hs
        clear hs
        by_cases hlt : k < d.nodes.length
        · obtain ⟨b, off, rfl, e0, e1, e2, e3, e4, ha⟩ := S.out.rd.nodes.nodeK hlt
          have HX := hid (nsOf_at hlt)
          have HMEM := hid (List.getElem_mem hlt)
          obtain ⟨x, hx⟩ : ∃ x, d.nodes[k] = x := ⟨_, rfl⟩
          rw [hx] at e0 e1 e2 e3 e4 ha HX HMEM
          obtain ⟨xn, xs⟩ := x
          simp only at e0 e1 e2 e3 e4 ha HX
          obtain ⟨xa, xc, hv⟩ := ha.form
          subst hv
          have HA := hid ha
          have HAL : Hid (xn.args.length ≤ 1000000) := HLA.out _ HMEM.out
          clear hx ha
          have ck : wr.cell? ⟨g, k, none⟩ = some (.bool (badAt (nsOf d) k)) := by
            rw [S.out.bad.cell (by simpa using hlt)]
            simp [List.getD_eq_getElem?_getD, List.getElem?_range hlt]
          have dg : g < wr.heap.size := S.out.bad.lt
          obtain ⟨sb, hsb⟩ : ∃ sb, badAt (nsOf d) k = sb := ⟨_, rfl⟩
          rw [hsb] at ck
          have HSB := hid hsb
          clear hsb
          go_wp2
          clear e0 e1 e2 e3 e4 ck dg
          have HNB := hid (at_new wr (.cells (nodeCells xn (.slice xa xn.args.length xc)) 40))
          have S0 := hid (S.out.step ((Fr.refl NoB wr).alloc (.cells (nodeCells xn (.slice xa xn.args.length xc)) 40)))
          have HA0 := hid (HA.out.fr ((Fr.refl NoB wr).alloc (.cells (nodeCells xn (.slice xa xn.args.length xc)) 40)) (fun _ _ h => h.elim))
          obtain ⟨wb, hwb⟩ : ∃ wb, wr.alloc (.cells (nodeCells xn (.slice xa xn.args.length xc)) 40) = wb := ⟨_, rfl⟩
          rw [hwb] at HNB S0 HA0 ⊢
          clear hwb S HA
          have HBC : Hid (∀ a : Int, 0 ≤ a → a < d.nodes.length → wb.cell? ⟨g, a.toNat, none⟩ = some (.bool (badAt (nsOf d) a.toNat))) := fun a h0 h1 => by
            have h2 : a.toNat < d.nodes.length := by omega
            rw [S0.out.bad.cell (by simpa using h2)]
            simp [List.getD_eq_getElem?_getD, List.getElem?_range h2]
          go_loop [12, 53] (fun sk j => ∃ q : Nat, q ≤ xn.args.length ∧ j = .int .i64 q ∧ sk = .bool (sb || (xn.args.take q).any (fun a => badAt (nsOf d) a.toNat))) (fun _ j => xn.args.length - (intOf j).toNat)
          case atStart => exact ⟨0, Nat.zero_le _, rfl, by simp⟩
          case round =>
            obtain ⟨q, hq, rfl, rfl⟩ := hrel
            obtain ⟨sv, hsv⟩ : ∃ sv, (sb || (xn.args.take q).any (fun a => badAt (nsOf d) a.toNat)) = sv := ⟨_, rfl⟩
            have HSV := hid hsv
            have hal := HAL.out
            by_cases hqt : q < xn.args.length
            · obtain ⟨ba', oa', hv, ka⟩ := HA0.out.cellK hqt
              subst hv
              obtain ⟨y, hy⟩ : ∃ y, xn.args.getD q 0 = y := ⟨_, rfl⟩
              rw [hy] at ka
              have HY := hid hy
              have HTK : Hid ((xn.args.take (q + 1)).any (fun a => badAt (nsOf d) a.toNat) = ((xn.args.take q).any (fun a => badAt (nsOf d) a.toNat) || badAt (nsOf d) y.toNat)) := by
                show _ = _
                rw [List.take_add_one, List.any_append, List.getElem?_eq_getElem hqt]
                have h9 := HY.out
                rw [List.getD_eq_getElem?_getD, List.getElem?_eq_getElem hqt] at h9
                simp only [Option.getD_some] at h9
                simp [h9]
              rw [hsv]
              clear hy hsv
              cases sv with
              | true =>
                go_wp2
                go_round
                case rel => exact ⟨q + 1, by omega, by go_num, by rw [HTK.out, ← Bool.or_assoc, HSV.out]; rfl⟩
                case measure => simp [intOf]; omega
              | false =>
                have hsb0 : badAt (nsOf d) k = false := by
                  have := HSV.out
                  rw [Bool.or_eq_false_iff] at this
                  rw [HSB.out]; exact this.1
                obtain ⟨y0, y1⟩ := badAt_ord HX.out hsb0 y (by rw [← HY.out]; exact getD_mem hqt)
                have cy := HBC.out y y0 (by omega)
                obtain ⟨yb, hyb⟩ : ∃ yb, badAt (nsOf d) y.toNat = yb := ⟨_, rfl⟩
                rw [hyb] at cy
                have HYB := hid hyb
                clear hsb0 hyb
                go_wp2
                go_round
                case rel => exact ⟨q + 1, by omega, by go_num, by rw [HTK.out, ← Bool.or_assoc, HSV.out, HYB.out]; rfl⟩
                case measure => simp [intOf]; omega
            · obtain rfl : q = xn.args.length := by omega
              rw [List.take_length] at HSV
              rw [hsv]
              have HWI : Hid (wideAt (nsOf d) k = (!sv && !wOk xn (nsOf d))) := by show _ = _; rw [wideAt_of HX.out, HSB.out, HSV.out]
              have HF3 := hid (fls_le 3 (wideAt (nsOf d)) k)
              clear hsv
              cases sv with
              | true =>
                have HW0 : Hid (wideAt (nsOf d) k = false) := by show _ = _; rw [HWI.out]; rfl
                go_wp2
                go_roundw
                case rel => exact ⟨k + 1, by omega, by go_num, by rw [fls_off HW0.out]; exact S0.out⟩
                case measure => simp [intOf]; omega
              | false =>
                have hsb0 : badAt (nsOf d) k = false := by
                  have := HSV.out
                  rw [Bool.or_eq_false_iff] at this
                  rw [HSB.out]; exact this.1
                have HOR := hid (badAt_ord HX.out hsb0)
                obtain ⟨x0, x1, x2, x3, x4, xf, xl⟩ := five_of HNB.out
                obtain ⟨d0, d1, d2, df, dl⟩ := three_of S0.out.box
                clear hsb0
                go_wp2_with fail
                refine (widths_any _ _ _ d xn _ _ (S0.out.rd.weaken (fun _ _ h => h.elim)) (HA0.out.weaken (fun _ _ h => h.elim)) (fun a ha => by have := HOR.out a ha; omega) HAL.out).mono ?_
                rintro e w2 ⟨rfl, hf⟩
                have S2 := hid (S0.out.step hf)
                clear hf x0 x1 x2 x3 x4 xf xl d0 d1 d2 df dl
                cases hok : wOk xn (nsOf d) with
                | true =>
                  have HW0 : Hid (wideAt (nsOf d) k = false) := by show _ = _; rw [HWI.out, hok]; rfl
                  clear hok
                  go_wp2
                  go_roundw
                  case rel => exact ⟨k + 1, by omega, by go_num, by rw [fls_off HW0.out]; exact S2.out⟩
                  case measure => simp [intOf]; omega
                | false =>
                  have HW1 : Hid (wideAt (nsOf d) k = true) := by show _ = _; rw [HWI.out, hok]; rfl
                  clear hok
                  obtain ⟨M3, n3, k3⟩ := S2.out.noted
                  have HN3 := hid n3
                  have HK3 := hid k3
                  clear n3 k3
                  go_wp2_with fail
                  refine (note_any M3 _ _ _ br _ _ 3 k HN3.out ?_ (by omega) ?_).mono ?_
                  · simp only [List.length_append]
                    have h1 := HF1.out; have h2 := HF2.out; have h3 := HF3.out
                    omega
                  · simp only [List.length_append]
                    have h1 := HF1.out; have h2 := HF2.out; have h3 := HF3.out
                    omega
                  rintro e w9 ⟨rfl, ⟨M4, n4, g4⟩, f4⟩
                  have S9 := hid (HK3.out w9 M4 _ n4 g4 f4)
                  clear n4 g4 f4
                  go_wp2
                  go_roundw
                  case rel => exact ⟨k + 1, by omega, by go_num, by rw [fls_on HW1.out, ← List.append_assoc]; exact S9.out⟩
                  case measure => simp [intOf]; omega
        · obtain rfl : k = d.nodes.length := by omega
          obtain ⟨M5, h5, h6, h7, h8⟩ := S.out.note
          have c5 : wr.cell? ⟨w.heap.size + 1 + 1, 0, none⟩ = some (.int .i64 ((fls 1 (malfAt (nsOf d)) d.nodes.length ++ fls 2 (disAt (nsOf d)) d.nodes.length ++ fls 3 (wideAt (nsOf d)) d.nodes.length).length : Nat)) := by simp only [World.cell?, h5.cnt]; rfl
          have HFF : Hid (formF (nsOf d) = fls 1 (malfAt (nsOf d)) d.nodes.length ++ fls 2 (disAt (nsOf d)) d.nodes.length ++ fls 3 (wideAt (nsOf d)) d.nodes.length) := by show _ = _; unfold formF; rw [nsOf_length]
          rw [← HFF.out] at c5 h5
          obtain ⟨FL, hFL⟩ : ∃ FL, formF (nsOf d) = FL := ⟨_, rfl⟩
          have HFL := hid hFL
          rw [hFL] at c5 h5
          have H5 := hid h5
          have H6 := hid h6
          clear h5 h6 h7 h8 hFL
          go_wp2
          go_ret
          obtain ⟨M6, a1, a2, _, _⟩ := H5.out.ex
          rw [HFL.out]
          refine ⟨ret_bool ?_, ⟨M6, a1, fun q hq => H6.out q (a2 q hq)⟩, S.out.fr⟩
          cases FL with
          | nil => simp
          | cons a t => simp; omega
end Go.Proofs.YtgpliiepoimcbaaDoor
end
section
/- Slices of bytes that a call has made (OwnB), the laws of append for them, the table of powers of ten (Tab), at this program. -/
namespace Go.Proofs.YtgpliiepoimcbaaDoor
open Go.RowKit

def OwnB (B : Nat) (w : World) (v : Value) (l : List UInt8) : Prop := w.ownsRow B 5 1 v l.length (Lib.byteCells l)

theorem infoByte : (Tryd.prog.info? 5).map (fun i => (i.zero, i.size, i.bytes)) = some (some (.int .u8 0), 1, 1) := by kernel_rfl

/-- The table of powers of ten reads as the text lays it. -/
def Tab (w : World) : Prop := Lib.TabIs Tryd.prog w "internal/strconv.uint64pow10" .u64 Lib.pow10Tab
/-- The block of that table. -/
noncomputable def TB : Nat := (Tryd.prog.globalNamed "internal/strconv.uint64pow10").getD 0
theorem tb_at : Tryd.prog.globalNamed "internal/strconv.uint64pow10" = some TB := by kernel_rfl

theorem Tab.lt {w : World} (h : Tab w) : TB < w.heap.size := by
  unfold Tab Lib.TabIs World.var? at h
  rw [tb_at] at h
  simp only [Option.bind_some] at h
  rcases Nat.lt_or_ge TB w.heap.size with h1 | h1
  · exact h1
  · rw [Array.getElem?_eq_none h1] at h; simp at h
theorem Tab.fr {M : Nat → Prop} {w w' : World} (h : Tab w) (hf : Fr M w w') (hm : ¬ M TB) : Tab w' := by
  have hl := h.lt
  unfold Tab Lib.TabIs World.var? at h ⊢
  rw [tb_at] at h ⊢
  simp only [Option.bind_some] at h ⊢
  rw [hf.block TB hl hm]; exact h
theorem Tab.below {w : World} (h : Tab w) {B : Nat} (hB : TB < B) : Lib.TabBelow Tryd.prog B w "internal/strconv.uint64pow10" .u64 Lib.pow10Tab := fun w' hb => by
  have h1 : Tab w' := h.fr (M := fun k => B ≤ k) ⟨hb.os, hb.tape, hb.output, hb.size, fun k _ hk => hb.block k (by omega)⟩ (by omega)
  exact h1

theorem OwnB.row {B : Nat} {w : World} {v : Value} {l : List UInt8} (h : OwnB B w v l) : w.ownsRow B 5 1 v l.length (Lib.byteCells l) := h
theorem OwnB.drew {B : Nat} {w : World} {v : Value} {l : List UInt8} (h : OwnB B w v l) : OwnB B w.drew v l := h
theorem OwnB.form' {B : Nat} {w : World} {v : Value} {l : List UInt8} (h : OwnB B w v l) : (v = .slice none 0 0 ∧ l = []) ∨ ∃ g cap, v = .slice (some ⟨g, 0, none⟩) l.length cap ∧ B ≤ g ∧ g < w.heap.size ∧ l.length ≤ cap := by
  rcases h.2 with ⟨h, hl⟩ | ⟨g, cap, cur, h, hb, hg, hn, _⟩
  · exact .inl ⟨h, List.eq_nil_of_length_eq_zero hl⟩
  · exact .inr ⟨g, cap, h, hb, (Array.getElem?_eq_some_iff.1 hg).1, hn⟩
theorem OwnB.fr {B : Nat} {M : Nat → Prop} {w w' : World} {v : Value} {l : List UInt8} (h : OwnB B w v l) (hf : Fr M w w') (hm : ∀ k, v.ownBlock = some k → ¬ M k) : OwnB B w' v l := by
  refine ⟨h.1, ?_⟩
  rcases h.2 with h2 | ⟨g, cap, cur, h1, hb, hg, r⟩
  · exact .inl h2
  · refine .inr ⟨g, cap, cur, h1, hb, ?_, r⟩
    rw [hf.block g (Array.getElem?_eq_some_iff.1 hg).1 (hm g (by rw [h1]; rfl))]; exact hg

/-- What turns from base B on. -/
theorem Fr.own {B : Nat} {w w' : World} (h : Below B w w') : Fr (fun k => B ≤ k) w w' := ⟨h.os, h.tape, h.output, h.size, fun k _ hk => h.block k (by omega)⟩

theorem byte_step (w : World) {ops : Array Oper} {o : Oper} {a : Act} {K : Act → World → Prop} {Q : Exit → Act → World → Prop} {E : Prop} (hg : o.guard = none) (s x : Operand)
    (ho : o.op = .call { callee := .builtin .append, args := #[s, x], argTypes := #[91, 91] }) (base : Nat) (v : Value) (l : List UInt8) (hs : a.eval s = v) (hown : OwnB base w v l)
    (c : UInt8) (b n k : Nat) (hx : a.eval x = .slice (some ⟨b, 0, none⟩) n k) (hn : n = 1) (hc : w.cell? ⟨b, 0, none⟩ = some (.int .u8 (c.toNat : Int))) (hlen : l.length ≤ 140737488355000) (hbase : base ≤ w.heap.size)
    (h : ∀ v' w', OwnB base w' v' (l ++ [c]) → Fr (fun k => base ≤ k) w w' → K (a.put o.dst v') w') :
    if Region.wanted o (yielded ops a.tmps) = true then Oper.wp Tryd.prog o a w K Q else E := by
  subst hn
  obtain ⟨i0, hi, hz0, hz1, hz2⟩ := info_parts infoByte
  refine step_append_lies w hg s x 91 ho base 5 i0 (.int .u8 0) 1 1 Tryd.underlying91 hi hz0 hz1 hz2 rfl (by decide) v _ _ hs hown ⟨b, 0, none⟩ 1 k [.int .u8 (c.toNat : Int)] hx rfl (fun j u hu => ?_) (by simp [Value.oneCell']) (by decide) (by unfold maxLen; omega) (by omega) hbase w.heap.size rfl ?_
  · match j, hu with
    | 0, hu => simp at hu; subst hu; simpa [Addr.add] using hc
    | j + 1, hu => simp at hu
  · intro g cap w' h1 h2 h3 _
    have e : (l ++ [c]).length = l.length + 1 := by simp
    refine h _ w' ?_ ?_
    · unfold OwnB; rw [e, Lib.byteCells_append]; exact h1
    · exact (Fr.refl _ w).grown h2 (fun q hq _ => (World.ownsRow.lt hown q hq).1)

theorem byte_list (w : World) {ops : Array Oper} {rest : List Oper} {o : Oper} {a : Act} {Q : Exit → Act → World → Prop} (hg : o.guard = none) (s x : Operand)
    (ho : o.op = .call { callee := .builtin .append, args := #[s, x], argTypes := #[91, 91] }) (base : Nat) (v : Value) (l : List UInt8) (hs : a.eval s = v) (hown : OwnB base w v l)
    (c : UInt8) (b n k : Nat) (hx : a.eval x = .slice (some ⟨b, 0, none⟩) n k) (hn : n = 1) (hc : w.cell? ⟨b, 0, none⟩ = some (.int .u8 (c.toNat : Int))) (hlen : l.length ≤ 140737488355000) (hbase : base ≤ w.heap.size)
    (h : ∀ v' w', OwnB base w' v' (l ++ [c]) → Fr (fun k => base ≤ k) w w' → wpList Tryd.prog ops Q rest (a.put o.dst v') w') : wpList Tryd.prog ops Q (o :: rest) a w := by
  refine wpList_plain hg fun K hK => ?_
  have := byte_step (ops := ops) (E := True) (Q := Q) (K := K) w hg s x ho base v l hs hown c b n k hx hn hc hlen hbase (fun v' w' h1 h2 => hK _ _ (h v' w' h1 h2))
  have hw : Region.wanted o (yielded ops a.tmps) = true := by simp [Region.wanted, hg]
  rw [if_pos hw] at this
  exact this

theorem str_list (w : World) {ops : Array Oper} {rest : List Oper} {o : Oper} {a : Act} {Q : Exit → Act → World → Prop} (hg : o.guard = none) (s x : Operand)
    (ho : o.op = .call { callee := .builtin .append, args := #[s, x], argTypes := #[91, 9] }) (base : Nat) (v : Value) (l : List UInt8) (hs : a.eval s = v) (hown : OwnB base w v l)
    (t : ByteArray) (hx : a.eval x = .string t) (hlen : l.length + t.size ≤ 140737488355000) (hbase : base ≤ w.heap.size)
    (h : ∀ v' w', OwnB base w' v' (l ++ t.data.toList) → Fr (fun k => base ≤ k) w w' → wpList Tryd.prog ops Q rest (a.put o.dst v') w') : wpList Tryd.prog ops Q (o :: rest) a w := by
  obtain ⟨i0, hi, hz0, hz1, hz2⟩ := info_parts infoByte
  have ht : t.data.toList.length = t.size := by simp
  refine Lib.wpList_append_own_string w hg s x 91 9 ho base 5 i0 Tryd.underlying91 Tryd.underlying9 hi hz0 hz1 hz2 v _ _ hs hown t hx (by unfold maxLen; omega) (by omega) hbase ?_
  intro v' w' h1 h2 _
  refine h v' w' ?_ ((Fr.refl _ w).grown h2 (fun q hq _ => (World.ownsRow.lt hown q hq).1))
  unfold OwnB
  rw [List.length_append, ht, Lib.byteCells_append]; exact h1

/-- string(b) of bytes that a call owns. -/
theorem conv_own {B : Nat} {w : World} {v : Value} {l : List UInt8} (h : OwnB B w v l) : (convert 91 9 v).run Tryd.prog w = .ok (.string ⟨l.toArray⟩) w := by
  rcases h.form' with ⟨rfl, rfl⟩ | ⟨g, cap, rfl, _, hg, _⟩
  · exact run_convert_bytes_nil (P := Tryd.prog) (w := w) 91 5 Tryd.underlying91 Tryd.underlying5 0 0 9 Tryd.underlying9
  · refine run_convert_bytes_back w 91 9 5 ⟨g, 0, none⟩ cap l Tryd.underlying91 Tryd.underlying5 Tryd.underlying9 (fun j hj => ?_)
    refine World.ownsRow.cells h (g := g) rfl j _ ?_
    simp [Lib.byteCells, List.getElem?_eq_getElem hj]

end Go.Proofs.YtgpliiepoimcbaaDoor
end
section
/- The walk of hashcons.Key. -/
namespace Go.Proofs.YtgpliiepoimcbaaDoor
open Go.RowKit

def keyArgs (l : List Int) : List UInt8 := l.flatMap fun a => 44 :: Lib.itoa a
def keyL (n : Node) : List UInt8 := Lib.itoa n.op ++ [44] ++ Lib.itoa n.width ++ [44] ++ Lib.decDigits n.val.toNat ++ keyArgs n.args ++ [58] ++ n.name.data.toList
def keyB (n : Node) : ByteArray := ⟨(keyL n).toArray⟩

abbrev i64ok (x : Int) : Prop := -9223372036854775808 ≤ x ∧ x ≤ 9223372036854775807
/-- The numbers of a node are of their kinds. -/
structure NodeOk (n : Node) : Prop where
  op : i64ok n.op
  width : i64ok n.width
  val : 0 ≤ n.val ∧ n.val < 18446744073709551616
  args : ∀ i, i < n.args.length → i64ok (n.args.getD i 0)
/-- .. and it is of a size that a key can be made of. -/
structure NodeSm (n : Node) : Prop where
  args : n.args.length ≤ 100000
  name : n.name.size ≤ 100000000

theorem AppendUint_any (B n u : Nat) (hu64 : u < 18446744073709551616) (sv : Value) (xs : List Value) (w : World) (hown : w.ownsRow B 5 1 sv n xs) (hBw : B ≤ w.heap.size) (hlim : n + 20 ≤ 140737488355328) (htab : Tab w) :
    Calls Tryd.prog 56 #[sv, .int .u64 u, .int .i64 10] w fun e w' => ∃ v', e = .returned v' ∧ w'.ownsRow B 5 1 v' (n + (Lib.decDigits u).length) (xs ++ Lib.byteCells (Lib.decDigits u)) ∧ Below B w w' := by
  go_enter Tryd.func56, Tryd.ntmps56
  go_wp2_with (go_at_call 72; refine (Tryd.internal_strconv_AppendUint_10 B n u hu64 sv xs w hown hBw hlim htab).mono ?_; rintro e w2 ⟨v2, rfl, h1, h2, h3⟩)
  go_ret
  exact ⟨_, rfl, h1, h2⟩

/-- Where the making of a key stands. -/
structure KS (w : World) (n : Node) (s : Value) (wk : World) (v : Value) (l : List UInt8) : Prop where
  own : OwnB (w.heap.size + 1) wk v l
  box : wk.heap[w.heap.size]? = some (.cells (nodeCells n s) 40 (0, 0))
  fr : Fr NoB w wk
  tab : Tab wk
  lt : TB < w.heap.size

theorem KS.step {w : World} {n : Node} {s : Value} {wk w2 : World} {v v2 : Value} {l l2 : List UInt8} (h : KS w n s wk v l) (ho : OwnB (w.heap.size + 1) w2 v2 l2) (hf : Fr (fun k => w.heap.size + 1 ≤ k) wk w2) : KS w n s w2 v2 l2 where
  own := ho
  box := hf.at (by omega) h.box
  fr := h.fr.trans' hf (fun k hk h => by omega)
  tab := h.tab.fr hf (by have := h.lt; omega)
  lt := h.lt
theorem KS.alloc {w : World} {n : Node} {s : Value} {wk : World} {v : Value} {l : List UInt8} (h : KS w n s wk v l) (o : Obj) : KS w n s (wk.alloc o) v l where
  own := h.own.fr ((Fr.refl NoB wk).alloc o) (fun _ _ h => h)
  box := at_old h.box o
  fr := h.fr.alloc o
  tab := h.tab.fr ((Fr.refl NoB wk).alloc o) (fun h => h)
  lt := h.lt
theorem KS.drew {w : World} {n : Node} {s : Value} {wk : World} {v : Value} {l : List UInt8} (h : KS w n s wk v l) : KS w n s wk.drew v l := ⟨h.own, h.box, h.fr.drew, h.tab, h.lt⟩
theorem KS.size {w : World} {n : Node} {s : Value} {wk : World} {v : Value} {l : List UInt8} (h : KS w n s wk v l) : w.heap.size + 1 ≤ wk.heap.size := by
  have := (Array.getElem?_eq_some_iff.1 h.box).1; omega
theorem KS.num {w : World} {n : Node} {s : Value} {wk w2 : World} {v v2 : Value} {l : List UInt8} (h : KS w n s wk v l) (m : List UInt8) (ho : w2.ownsRow (w.heap.size + 1) 5 1 v2 (l.length + m.length) (Lib.byteCells l ++ Lib.byteCells m)) (hb : Below (w.heap.size + 1) wk w2) : KS w n s w2 v2 (l ++ m) := by
  refine h.step ?_ (Fr.own hb)
  unfold OwnB
  rw [List.length_append, Lib.byteCells_append]; exact ho

theorem KS.lt' {w : World} {n : Node} {s : Value} {wk : World} {v : Value} {l : List UInt8} (h : KS w n s wk v l) : TB < w.heap.size + 1 := Nat.lt_succ_of_lt h.lt
theorem KS.start {w : World} {n : Node} {s : Value} {w1 : World} {v : Value} (ho : w1.ownsRow (w.heap.size + 1) 5 1 v 0 []) (hg : (w.alloc (.cells (nodeCells n s) 40)).grownBy w1 none) (ht : Tab w) : KS w n s w1 v [] := by
  have hf : Fr NoB (w.alloc (.cells (nodeCells n s) 40)) w1 := (Fr.refl NoB _).grown hg (fun k hk => by cases hk)
  have hf0 : Fr NoB w w1 := ((Fr.refl NoB w).alloc _).step hf
  exact ⟨ho, hf.at (fun h => h) (at_new w _), hf0, ht.fr hf0 (fun h => h), ht.lt⟩

theorem keyArgs_take (l : List Int) (k : Nat) (hk : k < l.length) : keyArgs (l.take (k + 1)) = keyArgs (l.take k) ++ [44] ++ Lib.itoa (l.getD k 0) := by
  have e1 : l.take (k + 1) = l.take k ++ [l[k]] := List.take_succ_eq_append_getElem hk
  rw [e1, getD_eq hk, keyArgs, keyArgs, List.flatMap_append]
  simp

theorem decDigits_len : ∀ (d u : Nat), u < 10 ^ (d + 1) → (Lib.decDigits u).length ≤ d + 1
  | 0, u, h => by unfold Lib.decDigits; rw [dif_pos (by omega)]; simp
  | d + 1, u, h => by
    unfold Lib.decDigits
    split
    · simp
    · have := decDigits_len d (u / 10) (by rw [Nat.pow_succ] at h; omega)
      simp; omega
theorem itoa_len (x : Int) (h : i64ok x) : (Lib.itoa x).length ≤ 21 := by
  unfold Lib.itoa i64ok at *
  split
  · have := decDigits_len 19 x.natAbs (by omega); simp; omega
  · have := decDigits_len 19 x.toNat (by omega); omega

theorem keyArgs_len (l : List Int) (h : ∀ i, i < l.length → i64ok (l.getD i 0)) : ∀ k, k ≤ l.length → (keyArgs (l.take k)).length ≤ 22 * k
  | 0, _ => by simp [keyArgs]
  | k + 1, hk => by
    have ih := keyArgs_len l h k (by omega)
    have := itoa_len _ (h k (by omega))
    rw [keyArgs_take l k (by omega)]
    simp only [List.length_append, List.length_cons, List.length_nil]
    omega

set_option maxRecDepth 100000 in
set_option maxHeartbeats 2000000 in
theorem key_any (M : Nat → Prop) (n : Node) (s : Value) (w : World) (h : RdI M w s n.args) (hok : NodeOk n) (hsm : NodeSm n) (ht : Tab w) :
    Calls Tryd.prog 39 #[nodeV n s] w fun e w' => e = .returned (.string (keyB n)) ∧ Fr NoB w w' := by
  obtain ⟨a, cap, rfl⟩ := h.form
  have HR := hid (show ∀ W, Fr NoB w W → RdI M W (.slice a n.args.length cap) n.args from fun W hf => h.fr hf (fun _ _ h => h.elim))
  have HOK := hid hok
  have hn1 := hsm.name
  have hn2 := hsm.args
  obtain ⟨i0, hi, hz0, hz1, hz2⟩ := info_parts infoByte
  have k0 : Hid (w.heap.size + 1 ≤ (w.alloc (.cells (nodeCells n (.slice a n.args.length cap)) 40)).heap.size) := by show _ ≤ _; simp
  have HT := hid ht
  have hl1 := itoa_len _ hok.op
  have hl2 := itoa_len _ hok.width
  have hl3 : (Lib.decDigits n.val.toNat).length ≤ 20 := decDigits_len 19 _ (by have := hok.val; omega)
  have HL1 := hid hl1
  have HL2 := hid hl2
  have HL3 := hid hl3
  clear h hok hsm ht hl1 hl2 hl3
  unfold nodeV
  go_enter Tryd.func39, Tryd.ntmps39
  go_wp2_with (at_make; refine wpList_make_own _ rfl _ _ 91 rfl (w.heap.size + 1) 5 i0 (.int .u8 0) 1 Tryd.underlying91 hi hz0 hz1 _ _ _ (32 + n.name.size) rfl rfl (by simp) (by rw [hz2]; omega) (by unfold maxLen; omega) k0.out ?_; intro w1 ho1 hg1; have K1 := hid (KS.start ho1 hg1 HT.out); clear ho1 hg1; obtain ⟨c0, c1, c2, c3, c4, cf, cl⟩ := five_of K1.out.box)
  simp only [World.size_alloc] at K1
  refine (Tryd.strconv_AppendInt_10 (w.heap.size + 1) 0 n.op HOK.out.op.1 HOK.out.op.2 _ _ _ K1.out.own K1.out.size (by omega) (K1.out.tab.below (by have := K1.out.lt; omega))).mono ?_
  rintro e w2 ⟨v2, rfl, ho, hb, _⟩
  have K2 := hid (K1.out.num _ (by simpa using ho) hb)
  clear ho hb c0 c1 c2 c3 c4 cf cl K1
  obtain ⟨c0, c1, c2, c3, c4, cf, cl⟩ := five_of K2.out.box
  go_wp2_with fail
  have q2 : ([] ++ Lib.itoa n.op).length ≤ 21 := by simpa using HL1.out
  have Q2 := hid q2
  have Q2' : Hid (([] ++ Lib.itoa n.op).length ≤ 140737488355000) := by show _ ≤ _; omega
  have Q3' : Hid (([] ++ Lib.itoa n.op ++ [44]).length + 21 ≤ 140737488355328) := by show _ ≤ _; rw [List.length_append]; simp only [List.length_cons, List.length_nil]; omega
  clear q2
  go_region_held3 (fun w' => w'.cell? ⟨w.heap.size, 1, none⟩ = some (.int .i64 n.width)) (go_keep)
    (first
      | (go_at_call 55; have X := Tryd.strconv_AppendInt_10 (w.heap.size + 1) _ n.width HOK.out.width.1 HOK.out.width.2 _ _ _ K3.out.own.row K3.out.size Q3'.out (K3.out.tab.below K3.out.lt'); (with_reducible refine X.mono ?_); clear X; rintro e w4 ⟨v4, rfl, ho, hb, _⟩; have K4 := hid (K3.out.num _ ho hb); clear ho hb; obtain ⟨c0, c1, c2, c3, c4, cf, cl⟩ := five_of K4.out.box)
      | (refine byte_step _ (by rfl) _ _ (by rfl) (w.heap.size + 1) v2 _ (by rfl) ((K2.out.alloc _).drew.own) 44 w2.heap.size 1 1 (by rfl) (by rfl) (by simp) Q2'.out ((K2.out.alloc _).drew.size) ?_; intro v3 w3 ho3 hf3; have K3 := hid ((K2.out.alloc _).drew.step ho3 hf3); clear ho3 hf3; obtain ⟨c0, c1, c2, c3, c4, cf, cl⟩ := five_of K3.out.box))
  go_wp2_with fail
  have q4 : ([] ++ Lib.itoa n.op ++ [44] ++ Lib.itoa n.width).length ≤ 50 := by have := HL1.out; have := HL2.out; simp only [List.length_append, List.length_cons, List.length_nil]; omega
  have Q4 := hid q4
  have Q4' : Hid (([] ++ Lib.itoa n.op ++ [44] ++ Lib.itoa n.width).length ≤ 140737488355000) := by show _ ≤ _; omega
  have Q5' : Hid (([] ++ Lib.itoa n.op ++ [44] ++ Lib.itoa n.width ++ [44]).length + 20 ≤ 140737488355328) := by show _ ≤ _; rw [List.length_append]; simp only [List.length_cons, List.length_nil]; omega
  obtain ⟨u, hv, hu⟩ : ∃ u : Nat, Hid (n.val = (u : Int)) ∧ Hid (u = n.val.toNat) := ⟨n.val.toNat, by show _ = _; have := HOK.out.val.1; omega, rfl⟩
  have hv2 : Hid (u < 18446744073709551616) := by show _ < _; have := HOK.out.val; have := hu.out; omega
  clear q4
  rw [hv.out] at c2
  go_region_held3 (fun w' => w'.cell? ⟨w.heap.size, 2, none⟩ = some (.int .u64 (u : Int))) (go_keep)
    (first
      | (go_at_call 56; have X := AppendUint_any (w.heap.size + 1) _ u hv2.out _ _ _ K5.out.own.row K5.out.size Q5'.out K5.out.tab; (with_reducible refine X.mono ?_); clear X; rintro e w6 ⟨v6, rfl, ho, hb⟩; have K6 := hid (K5.out.num _ ho hb); clear ho hb; obtain ⟨c0, c1, c2, c3, c4, cf, cl⟩ := five_of K6.out.box; rw [hv.out] at c2)
      | (refine byte_step _ (by rfl) _ _ (by rfl) (w.heap.size + 1) v4 _ (by rfl) ((K4.out.alloc _).drew.own) 44 w4.heap.size 1 1 (by rfl) (by rfl) (by simp) Q4'.out ((K4.out.alloc _).drew.size) ?_; intro v5 w5 ho3 hf3; have K5 := hid ((K4.out.alloc _).drew.step ho3 hf3); clear ho3 hf3; obtain ⟨c0, c1, c2, c3, c4, cf, cl⟩ := five_of K5.out.box; rw [hv.out] at c2))
  obtain ⟨bs, hbs⟩ : ∃ bs, Hid (bs = [] ++ Lib.itoa n.op ++ [44] ++ Lib.itoa n.width ++ [44] ++ Lib.decDigits u) := ⟨_, hid rfl⟩
  have K7 : Hid (KS w n (.slice a n.args.length cap) w6 v6 bs) := by show KS _ _ _ _ _ _; rw [hbs.out]; exact K6.out
  have q7 : bs.length ≤ 100 := by have := HL1.out; have := HL2.out; have h3 := HL3.out; rw [← hu.out] at h3; rw [hbs.out]; simp only [List.length_append, List.length_cons, List.length_nil]; omega
  have Q7 := hid q7
  clear K6 K5 K4 K3 K2 q7 Q2 Q2' Q3' Q4 Q4' Q5'
  go_wp2_with fail
  go_loopw [3, 30] (fun b i wr => ∃ (k : Nat) (v : Value), k ≤ n.args.length ∧ b = v ∧ i = .int .i64 k ∧ Hid (KS w n (.slice a n.args.length cap) wr v (bs ++ keyArgs (n.args.take k)))) (fun _ i _ => n.args.length - (intOf i).toNat)
  case atStart => exact ⟨0, _, Nat.zero_le _, rfl, rfl, by show KS _ _ _ _ _ _; simpa [keyArgs] using K7.out⟩
  case round =>
    obtain ⟨k, v, hk, rfl, rfl, K8⟩ := hrel
    have q8 : (bs ++ keyArgs (n.args.take k)).length ≤ 3000000 := by have := Q7.out; have := keyArgs_len n.args HOK.out.args k hk; rw [List.length_append]; omega
    have Q8' : Hid ((bs ++ keyArgs (n.args.take k)).length ≤ 140737488355000) := by show _ ≤ _; omega
    have Q9' : Hid ((bs ++ keyArgs (n.args.take k) ++ [44]).length + 21 ≤ 140737488355328) := by show _ ≤ _; rw [List.length_append]; simp only [List.length_cons, List.length_nil]; omega
    have Q10' : Hid ((bs ++ keyArgs (n.args.take k) ++ [58]).length + n.name.size ≤ 140737488355000) := by show _ ≤ _; rw [List.length_append]; simp only [List.length_cons, List.length_nil]; omega
    clear q8
    obtain ⟨c0, c1, c2, c3, c4, cf, cl⟩ := five_of K8.out.box
    by_cases hlt : k < n.args.length
    · rcases HR.out wr K8.out.fr with ⟨h, h2⟩ | ⟨b, off, cap2, h, _, _, _, hc⟩
      · rw [h2] at hlt; simp at hlt
      · cases h
        obtain ⟨x, HX, hck⟩ := hc.get hlt
        clear hc
        have hx : Hid (i64ok x) := by show i64ok x; rw [← HX.out]; exact HOK.out.args k hlt
        go_wp2_with (first
          | (at_builtin; refine byte_list _ rfl _ _ rfl (w.heap.size + 1) _ _ rfl (K8.out.alloc _).own 44 wr.heap.size 1 1 rfl rfl (by simp) Q8'.out (K8.out.alloc _).size ?_; intro v9 w9 ho3 hf3; have K9 := hid ((K8.out.alloc _).step ho3 hf3); clear ho3 hf3)
          | (go_at_call 55; have X := Tryd.strconv_AppendInt_10 (w.heap.size + 1) _ x hx.out.1 hx.out.2 _ _ _ K9.out.own.row K9.out.size Q9'.out (K9.out.tab.below K9.out.lt'); (with_reducible refine X.mono ?_); clear X; rintro e w10 ⟨v10, rfl, ho, hb, _⟩; have K10 := hid (K9.out.num _ ho hb); clear ho hb))
        go_roundw
        case rel => exact ⟨k + 1, _, by omega, rfl, by go_num, by
          show KS _ _ _ _ _ _
          rw [keyArgs_take _ _ hlt, HX.out, ← List.append_assoc, ← List.append_assoc]
          exact K10.out⟩
        case measure => simp [intOf]; omega
    · obtain rfl : k = n.args.length := by omega
      go_wp2_with (first
        | (at_builtin; refine byte_list _ rfl _ _ rfl (w.heap.size + 1) _ _ rfl (K8.out.alloc _).own 58 wr.heap.size 1 1 rfl rfl (by simp) Q8'.out (K8.out.alloc _).size ?_; intro v9 w9 ho3 hf3; have K9 := hid ((K8.out.alloc _).step ho3 hf3); clear ho3 hf3; obtain ⟨d0, d1, d2, d3, d4, df, dl⟩ := five_of K9.out.box)
        | (at_builtin; refine str_list _ rfl _ _ rfl (w.heap.size + 1) v9 _ rfl K9.out.own n.name rfl Q10'.out K9.out.size ?_; intro v10 w10 ho3 hf3; have K10 := hid (K9.out.step ho3 hf3); have hcv := conv_own K10.out.own; clear ho3 hf3))
      go_ret
      refine ⟨?_, K10.out.fr⟩
      have e : keyB n = ⟨(bs ++ (keyArgs n.args ++ 58 :: n.name.data.toList)).toArray⟩ := by
        rw [keyB, keyL, hbs.out, hu.out]; simp
      rw [e]
      rfl

end Go.Proofs.YtgpliiepoimcbaaDoor
end
