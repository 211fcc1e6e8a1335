import Derived.Below
import Derived.BigQuiet
import Derived.Deep.QuietTactic
import Derived.KernelRfl
import Derived.Laws.AppendOwnNone
import Derived.Lib.RabinKarpLaws
import Derived.OwnWalk
import Derived.StillTailTactics
import Derived.Test.YtndfncaoejbkiaaGreatDoorProg
import Derived.WalkKit
import Derived.WalkLawsBesides
import Derived.WalkSpells
set_option linter.all false
section
/- Plain words for the proofs of this seat: frames, slices of integers as they read. No program in sight. -/
namespace Go.Proofs.YtndfncaoejbkiaaGreatDoor
open Go.RowKit

/-- All blocks of w outside M are in w' as they were; the streams are as they were. -/
structure Fr (M : Nat → Prop) (w w' : World) : Prop where
  os : w'.os = w.os
  tape : w'.tape = w.tape
  output : w'.output = w.output
  size : w.heap.size ≤ w'.heap.size
  block : ∀ k, k < w.heap.size → ¬ M k → w'.heap[k]? = w.heap[k]?

def NoB : Nat → Prop := fun _ => False

theorem Fr.refl (M : Nat → Prop) (w : World) : Fr M w w := ⟨rfl, rfl, rfl, Nat.le_refl _, fun _ _ _ => rfl⟩
theorem Fr.mono {M M' : Nat → Prop} {w w' : World} (h : Fr M w w') (hm : ∀ k, k < w.heap.size → M k → M' k) : Fr M' w w' :=
  ⟨h.os, h.tape, h.output, h.size, fun k hk hn => h.block k hk (fun hm' => hn (hm k hk hm'))⟩
theorem Fr.trans' {M M' : Nat → Prop} {a b c : World} (h : Fr M a b) (h' : Fr M' b c) (hm : ∀ k, k < a.heap.size → M' k → M k) : Fr M a c :=
  ⟨h'.os.trans h.os, h'.tape.trans h.tape, h'.output.trans h.output, Nat.le_trans h.size h'.size,
    fun k hk hn => (h'.block k (Nat.lt_of_lt_of_le hk h.size) (fun hm' => hn (hm k hk hm'))).trans (h.block k hk hn)⟩
theorem Fr.trans {M : Nat → Prop} {a b c : World} (h : Fr M a b) (h' : Fr M b c) : Fr M a c := h.trans' h' (fun _ _ h => h)
theorem Fr.step {M : Nat → Prop} {a b c : World} (h : Fr M a b) (h' : Fr NoB b c) : Fr M a c := h.trans' h' (fun _ _ h => h.elim)
theorem Fr.of_below {w w' : World} (h : Below w.heap.size w w') : Fr NoB w w' := ⟨h.os, h.tape, h.output, h.size, fun k hk _ => h.block k hk⟩
theorem Fr.below {w w' : World} (h : Fr NoB w w') : Below w.heap.size w w' := ⟨h.os, h.tape, h.output, h.size, fun k hk => h.block k hk (fun h => h)⟩
theorem Fr.below' {M : Nat → Prop} {w w' : World} (h : Fr M w w') {B : Nat} (hB : B ≤ w.heap.size) (hM : ∀ k, M k → B ≤ k) : Below B w w' :=
  ⟨h.os, h.tape, h.output, h.size, fun k hk => h.block k (Nat.lt_of_lt_of_le hk hB) (fun hm => by have := hM k hm; omega)⟩
theorem Fr.drew {M : Nat → Prop} {a w : World} (h : Fr M a w) : Fr M a w.drew := ⟨h.os, h.tape, h.output, h.size, h.block⟩
theorem Fr.drewN {M : Nat → Prop} {a w : World} (h : Fr M a w) (n : Nat) : Fr M a (w.drewN n) := ⟨h.os, h.tape, h.output, h.size, h.block⟩
theorem Fr.alloc {M : Nat → Prop} {a w : World} (h : Fr M a w) (o : Obj) : Fr M a (w.alloc o) :=
  h.step ⟨rfl, rfl, rfl, by simp, fun k hk _ => Below.heap_alloc _ _ _ hk⟩
theorem Fr.setCell {M : Nat → Prop} {a w : World} (h : Fr M a w) {p : Addr} (hp : p.block < a.heap.size → M p.block) (u : Value) : Fr M a (w.setCell p u) :=
  h.trans' (M' := fun k => k = p.block) ⟨rfl, rfl, rfl, by simp [World.setCell], fun k _ hk => Below.heap_setCell _ _ _ _ hk⟩ (fun k hk e => by cases e; exact hp hk)
theorem Fr.grown {M : Nat → Prop} {a w w' : World} {row : Option Nat} (h : Fr M a w) (hg : w.grownBy w' row) (hr : ∀ k, row = some k → k < a.heap.size → M k) : Fr M a w' :=
  h.trans' (M' := fun k => some k = row) ⟨hg.os, hg.tape, hg.output, hg.size, fun k hk hn => hg.block k hk hn⟩ (fun k hk e => hr k e.symm hk)
theorem Fr.cell {M : Nat → Prop} {w w' : World} (h : Fr M w w') {p : Addr} (hp : p.block < w.heap.size) (hm : ¬ M p.block) : w'.cell? p = w.cell? p :=
  World.cell?_of_block (w := w) (h.block p.block hp hm)
theorem Fr.frozen {M : Nat → Prop} {w w' : World} (h : Fr M w w') {p : Addr} (hp : p.block < w.heap.size) (hm : ¬ M p.block) : w'.frozen? p = w.frozen? p :=
  World.frozen?_of_block (w := w) (h.block p.block hp hm)
/-- Every cell and every mark below the old size reads as before: two rules for the walk. -/
theorem Fr.cells {w w' : World} (h : Fr NoB w w') : (∀ b o, b < w.heap.size → w'.cell? ⟨b, o, none⟩ = w.cell? ⟨b, o, none⟩) ∧ (∀ b o, b < w.heap.size → w'.frozen? ⟨b, o, none⟩ = w.frozen? ⟨b, o, none⟩) :=
  ⟨fun _ _ hb => h.cell (p := ⟨_, _, none⟩) hb (fun h => h), fun _ _ hb => h.frozen (p := ⟨_, _, none⟩) hb (fun h => h)⟩

theorem Fr.c {M : Nat → Prop} {W w1 : World} (hf : Fr M W w1) {b o : Nat} {v : Value} (hb : b < W.heap.size) (hm : ¬ M b) (h : W.cell? ⟨b, o, none⟩ = some v) : w1.cell? ⟨b, o, none⟩ = some v :=
  (hf.cell (p := ⟨b, o, none⟩) hb hm).trans h
theorem five_of {w1 : World} {b : Nat} {x0 x1 x2 x3 x4 : Value} {e : TypeId} (h1 : w1.heap[b]? = some (.cells #[x0, x1, x2, x3, x4] e (0, 0))) :
    w1.cell? ⟨b, 0, none⟩ = some x0 ∧ w1.cell? ⟨b, 1, none⟩ = some x1 ∧ w1.cell? ⟨b, 2, none⟩ = some x2 ∧ w1.cell? ⟨b, 3, none⟩ = some x3 ∧ w1.cell? ⟨b, 4, none⟩ = some x4 ∧ (∀ o, w1.frozen? ⟨b, o, none⟩ = false) ∧ b < w1.heap.size :=
  ⟨by simp [World.cell?, h1], by simp [World.cell?, h1], by simp [World.cell?, h1], by simp [World.cell?, h1], by simp [World.cell?, h1], fun o => by simp [World.frozen?, h1], (Array.getElem?_eq_some_iff.1 h1).1⟩
theorem six_of {w1 : World} {b : Nat} {x0 x1 x2 x3 x4 x5 : Value} {e : TypeId} (h1 : w1.heap[b]? = some (.cells #[x0, x1, x2, x3, x4, x5] e (0, 0))) :
    w1.cell? ⟨b, 0, none⟩ = some x0 ∧ w1.cell? ⟨b, 1, none⟩ = some x1 ∧ w1.cell? ⟨b, 2, none⟩ = some x2 ∧ w1.cell? ⟨b, 3, none⟩ = some x3 ∧ w1.cell? ⟨b, 4, none⟩ = some x4 ∧ w1.cell? ⟨b, 5, none⟩ = some x5 ∧ (∀ o, w1.frozen? ⟨b, o, none⟩ = false) ∧ b < w1.heap.size :=
  ⟨by simp [World.cell?, h1], by simp [World.cell?, h1], by simp [World.cell?, h1], by simp [World.cell?, h1], by simp [World.cell?, h1], by simp [World.cell?, h1], fun o => by simp [World.frozen?, h1], (Array.getElem?_eq_some_iff.1 h1).1⟩
theorem Fr.at {M : Nat → Prop} {W w1 : World} (hf : Fr M W w1) {b : Nat} {x : Obj} (hm : ¬ M b) (h : W.heap[b]? = some x) : w1.heap[b]? = some x :=
  (hf.block b (Array.getElem?_eq_some_iff.1 h).1 hm).trans h
theorem set_at {w : World} {b : Nat} {cs : Array Value} {e : TypeId} (h : w.heap[b]? = some (.cells cs e (0, 0))) (j : Nat) (u : Value) : (w.setCell ⟨b, j, none⟩ u).heap[b]? = some (.cells (cs.setIfInBounds j u) e (0, 0)) :=
  heap_setCell_same w b j cs e u h
theorem set_other {w : World} {b : Nat} {x : Obj} (h : w.heap[b]? = some x) {p : Addr} (hp : b ≠ p.block) (u : Value) : (w.setCell p u).heap[b]? = some x := (Below.heap_setCell _ _ _ _ hp).trans h
/-- The five cells of a block, and that it is not frozen, in a later world. -/
theorem Fr.five {M : Nat → Prop} {W w1 : World} (hf : Fr M W w1) {b : Nat} {x0 x1 x2 x3 x4 : Value} {e : TypeId} (hm : ¬ M b) (h : W.heap[b]? = some (.cells #[x0, x1, x2, x3, x4] e (0, 0))) :
    w1.cell? ⟨b, 0, none⟩ = some x0 ∧ w1.cell? ⟨b, 1, none⟩ = some x1 ∧ w1.cell? ⟨b, 2, none⟩ = some x2 ∧ w1.cell? ⟨b, 3, none⟩ = some x3 ∧ w1.cell? ⟨b, 4, none⟩ = some x4 ∧ (∀ o, w1.frozen? ⟨b, o, none⟩ = false) ∧ b < w1.heap.size := by
  have hb := (Array.getElem?_eq_some_iff.1 h).1
  have h1 : w1.heap[b]? = some (.cells #[x0, x1, x2, x3, x4] e (0, 0)) := (hf.block b hb hm).trans h
  exact ⟨by simp [World.cell?, h1], by simp [World.cell?, h1], by simp [World.cell?, h1], by simp [World.cell?, h1], by simp [World.cell?, h1], fun o => by simp [World.frozen?, h1], (Array.getElem?_eq_some_iff.1 h1).1⟩
theorem at_new (w : World) (o : Obj) : (w.alloc o).heap[w.heap.size]? = some o := heap_alloc_new w o
theorem at_new' {w : World} {o : Obj} {b : Nat} (h : b = w.heap.size) : (w.alloc o).heap[b]? = some o := by subst h; exact heap_alloc_new w o
theorem at_new_d {w : World} {o : Obj} {b : Nat} (h : b = w.heap.size) : (w.alloc o).drew.heap[b]? = some o := at_new' h
theorem at_old {w : World} {b : Nat} {x : Obj} (h : w.heap[b]? = some x) (o : Obj) : (w.alloc o).heap[b]? = some x := (Below.heap_alloc w o b (Array.getElem?_eq_some_iff.1 h).1).trans h

theorem ret_int {k : IntKind} {a b : Int} (h : a = b) : Ending.returned (.int k a) = .returned (.int k b) := by rw [h]
theorem ret_bool {a b : Bool} (h : a = b) : Ending.returned (.bool a) = .returned (.bool b) := by rw [h]

/-- The integers l lie from cell off of block b on. -/
def IntsAt (w : World) (b off : Nat) (l : List Int) : Prop := ∀ i, i < l.length → w.cell? ⟨b, off + i, none⟩ = some (.int .i64 (l.getD i 0))

/-- The slice v reads as the integers l; its block, if it has one, is in no way among M. -/
def RdI (M : Nat → Prop) (w : World) (v : Value) (l : List Int) : Prop :=
  ((∃ a cap, v = .slice a 0 cap ∧ (a = none → cap = 0)) ∧ l = []) ∨ ∃ b off cap, v = .slice (some ⟨b, off, none⟩) l.length cap ∧ b < w.heap.size ∧ ¬ M b ∧ l.length ≤ cap ∧ IntsAt w b off l

theorem hid {p : Prop} (h : p) : Hid p := h
theorem IntsAt.get {w : World} {b off : Nat} {l : List Int} (h : IntsAt w b off l) {i : Nat} (hi : i < l.length) : ∃ x, Hid (l.getD i 0 = x) ∧ w.cell? ⟨b, off + i, none⟩ = some (.int .i64 x) := ⟨_, rfl, h i hi⟩
theorem IntsAt.fr {M : Nat → Prop} {w w' : World} {b off : Nat} {l : List Int} (h : IntsAt w b off l) (hf : Fr M w w') (hb : b < w.heap.size) (hm : ¬ M b) : IntsAt w' b off l :=
  fun i hi => by rw [hf.cell (p := ⟨b, off + i, none⟩) hb hm]; exact h i hi

theorem RdI.fr {N M : Nat → Prop} {w w' : World} {v : Value} {l : List Int} (h : RdI N w v l) (hf : Fr M w w') (hm : ∀ k, k < w.heap.size → M k → N k) : RdI N w' v l := by
  rcases h with h | ⟨b, off, cap, h1, h2, h3, h4, h5⟩
  · exact .inl h
  · exact .inr ⟨b, off, cap, h1, Nat.lt_of_lt_of_le h2 hf.size, h3, h4, h5.fr hf h2 (fun h => h3 (hm b h2 h))⟩

theorem RdI.weaken {N M : Nat → Prop} {w : World} {v : Value} {l : List Int} (h : RdI N w v l) (hm : ∀ k, k < w.heap.size → M k → N k) : RdI M w v l := by
  rcases h with h | ⟨b, off, cap, h1, h2, h3, h4⟩
  · exact .inl h
  · exact .inr ⟨b, off, cap, h1, h2, fun h => h3 (hm b h2 h), h4⟩

theorem RdI.form {M : Nat → Prop} {w : World} {v : Value} {l : List Int} (h : RdI M w v l) : ∃ a cap, v = .slice a l.length cap := by
  rcases h with ⟨⟨a, cap, h, _⟩, rfl⟩ | ⟨b, off, cap, h, _⟩
  · exact ⟨a, cap, h⟩
  · exact ⟨_, cap, h⟩

/-- An owned row of integers reads as they are. -/
theorem rdI_of_owns {M : Nat → Prop} {w : World} {base n : Nat} {v : Value} {l : List Int} (h : w.ownsRow base 3 1 v n (l.map (Value.int .i64))) (hM : ∀ k, base ≤ k → ¬ M k) : RdI M w v l := by
  have hl : l.length = n := by have := h.1; simpa using this
  rcases h.2 with ⟨rfl, rfl⟩ | ⟨g, cap, cur, rfl, hb, hg, hn, hc, hs, ht⟩
  · exact .inl ⟨⟨none, 0, rfl, fun _ => rfl⟩, List.eq_nil_of_length_eq_zero hl⟩
  · refine .inr ⟨g, 0, cap, by rw [hl], (Array.getElem?_eq_some_iff.1 hg).1, hM g hb, by omega, fun i hi => ?_⟩
    have h2 := h.cellAt (j := i) (by omega)
    rw [Nat.zero_add, h2, List.getElem?_map, List.getD_eq_getElem?_getD, List.getElem?_eq_getElem hi]
    rfl

theorem RdI.drew {M : Nat → Prop} {w : World} {v : Value} {l : List Int} (h : RdI M w v l) : RdI M w.drew v l := h
theorem rdI_lit {M : Nat → Prop} (w : World) (e : TypeId) (l : List Int) (b : Nat) (hb : b = w.heap.size) (hM : ¬ M b) : RdI M (w.alloc (.cells (l.map (Value.int .i64)).toArray e)) (.slice (some ⟨b, 0, none⟩) l.length l.length) l := by
  subst hb
  refine .inr ⟨w.heap.size, 0, l.length, rfl, by simp, hM, Nat.le_refl _, fun i hi => ?_⟩
  rw [Nat.zero_add, cell_of_row (w.alloc _) w.heap.size i _ e (0, 0) (heap_alloc_new w _), List.getElem?_toArray, List.getElem?_map, List.getD_eq_getElem?_getD, List.getElem?_eq_getElem hi]
  rfl

theorem rdI_lit' {M : Nat → Prop} {w : World} {e : TypeId} {l : List Int} {b n : Nat} {cs : Array Value} (hcs : cs = (l.map (Value.int .i64)).toArray) (hn : n = l.length) (hb : b = w.heap.size) (hM : ¬ M b) : RdI M (w.alloc (.cells cs e)) (.slice (some ⟨b, 0, none⟩) n n) l := by
  subst hcs; subst hn; exact rdI_lit w e l b hb hM

/-- A node. -/
structure Node where
  op : Int
  width : Int
  val : Int
  name : ByteArray
  args : List Int

abbrev nodeCells (n : Node) (s : Value) : Array Value := #[.int .i64 n.op, .int .i64 n.width, .int .u64 n.val, .string n.name, s]
abbrev nodeV (n : Node) (s : Value) : Value := .agg #[.int .i64 n.op, .int .i64 n.width, .int .u64 n.val, .string n.name, s]

end Go.Proofs.YtndfncaoejbkiaaGreatDoor
end
section
/- Slices of integers that a call has made: the word OwnI, and the law of append for them, at this program. -/
namespace Go.Proofs.YtndfncaoejbkiaaGreatDoor
open Go.RowKit

/-- v is nil, or a row of blocks from B on that holds just the integers l. -/
def OwnI (B : Nat) (w : World) (v : Value) (l : List Int) : Prop := w.ownsRow B 3 1 v l.length (l.map (Value.int .i64))

theorem infoInt : (Tryz.prog.info? 3).map (fun i => (i.zero, i.size, i.bytes)) = some (some (.int .i64 0), 1, 8) := by kernel_rfl

theorem eqlNilI (w : World) (a : Option Addr) (n c : Nat) : (binOp .eql 24 (.slice a n c) (.slice none 0 0)).run Tryz.prog w = .ok (.bool a.isNone) w :=
  Lib.run_eql_slice_nil (P := Tryz.prog) w 24 3 a n c 0 0 Tryz.underlying24

theorem neqNilFn0 (w : World) : (binOp .neq 101 .nilFunc .nilFunc).run Tryz.prog w = .ok (.bool false) w := by kernel_rfl
theorem neqNilFn1 (w : World) (f : Fn) (x y : Array Value) : (binOp .neq 101 (.func f x y) .nilFunc).run Tryz.prog w = .ok (.bool true) w := by kernel_rfl

theorem OwnI.rd {B : Nat} {M : Nat → Prop} {w : World} {v : Value} {l : List Int} (h : OwnI B w v l) (hM : ∀ k, B ≤ k → ¬ M k) : RdI M w v l := rdI_of_owns h hM
theorem OwnI.nil (B : Nat) (w : World) : OwnI B w (.slice none 0 0) [] := World.ownsRow_nil w B _ 1
theorem OwnI.form {B : Nat} {w : World} {v : Value} {l : List Int} (h : OwnI B w v l) : ∃ a cap, v = .slice a l.length cap := by
  rcases h.2 with ⟨h, hl⟩ | ⟨g, cap, cur, h, _⟩
  · exact ⟨none, 0, by rw [hl]; exact h⟩
  · exact ⟨_, cap, h⟩
/-- Its form: nil, or the head of a block from B on. -/
theorem OwnI.form' {B : Nat} {w : World} {v : Value} {l : List Int} (h : OwnI B w v l) : (v = .slice none 0 0 ∧ l = []) ∨ ∃ g cap, v = .slice (some ⟨g, 0, none⟩) l.length cap ∧ B ≤ g ∧ g < w.heap.size ∧ l.length ≤ cap := by
  rcases h.2 with ⟨h, hl⟩ | ⟨g, cap, cur, h, hb, hg, hn, _⟩
  · exact .inl ⟨h, List.eq_nil_of_length_eq_zero hl⟩
  · exact .inr ⟨g, cap, h, hb, (Array.getElem?_eq_some_iff.1 hg).1, hn⟩
theorem OwnI.drew {B : Nat} {w : World} {v : Value} {l : List Int} (h : OwnI B w v l) : OwnI B w.drew v l := h
theorem OwnI.base {B B' : Nat} {w : World} {v : Value} {l : List Int} (h : OwnI B w v l) (hB : B' ≤ B) : OwnI B' w v l := by
  refine ⟨h.1, ?_⟩
  rcases h.2 with h2 | ⟨g, cap, cur, h1, hb, r⟩
  · exact .inl h2
  · exact .inr ⟨g, cap, cur, h1, Nat.le_trans hB hb, r⟩
/-- An owned row stays while its block is not among those that turn. -/
theorem OwnI.fr {B : Nat} {M : Nat → Prop} {w w' : World} {v : Value} {l : List Int} (h : OwnI B w v l) (hf : Fr M w w') (hm : ∀ k, v.ownBlock = some k → ¬ M k) : OwnI B w' v l := by
  refine ⟨h.1, ?_⟩
  rcases h.2 with h2 | ⟨g, cap, cur, h1, hb, hg, r⟩
  · exact .inl h2
  · refine .inr ⟨g, cap, cur, h1, hb, ?_, r⟩
    rw [hf.block g (Array.getElem?_eq_some_iff.1 hg).1 (hm g (by rw [h1]; rfl))]; exact hg
/-- .. while only blocks below the base turn. -/
theorem OwnI.keep {B B' : Nat} {w w' : World} {v : Value} {l : List Int} (h : OwnI B w v l) (hB : B' ≤ B) (hf : Fr (fun k => k < B) w w') : OwnI B' w' v l := by
  refine (h.fr hf (fun k hk => ?_)).base hB
  have := (World.ownsRow.lt h k hk).1
  omega
theorem OwnI.lit (B : Nat) (w : World) (l : List Int) (hB : B ≤ w.heap.size) (hl : l.length ≤ 17592186044416) : OwnI B (w.alloc (.cells (l.map (Value.int .i64)).toArray 3)) (.slice (some ⟨w.heap.size, 0, none⟩) l.length l.length) l := by
  have h := World.ownsRow_lit (base := B) (e := 3) (size := 1) w (l.map (Value.int .i64)).toArray l.length hB (by unfold maxLen; omega) (by simp)
  simpa [OwnI] using h

theorem OwnI.cell {B : Nat} {w : World} {g cap : Nat} {l : List Int} {n : Nat} (h : OwnI B w (.slice (some ⟨g, 0, none⟩) n cap) l) {i : Nat} (hi : i < l.length) : w.cell? ⟨g, i, none⟩ = some (.int .i64 (l.getD i 0)) := by
  have hn : n = l.length := by
    rcases h.2 with ⟨h2, _⟩ | ⟨g', cap', cur, h1, _⟩
    · cases h2
    · cases h1; rfl
  subst hn
  have h2 := World.ownsRow.cellAt h (j := i) (by omega)
  rw [h2, List.getElem?_map, List.getD_eq_getElem?_getD, List.getElem?_eq_getElem hi]; rfl

theorem OwnI.frozen {B : Nat} {w : World} {g cap : Nat} {l : List Int} {n : Nat} (h : OwnI B w (.slice (some ⟨g, 0, none⟩) n cap) l) (i : Nat) : w.frozen? ⟨g, i, none⟩ = false := by
  rcases h.2 with ⟨h2, _⟩ | ⟨g', cap', cur, h1, _, hg, _⟩
  · cases h2
  · cases h1; exact frozen_of_row w g i cur _ hg
/-- A store at index i. -/
theorem OwnI.stored {B : Nat} {w : World} {g cap n : Nat} {l : List Int} (h : OwnI B w (.slice (some ⟨g, 0, none⟩) n cap) l) (i : Nat) (x : Int) :
    OwnI B (w.setCell ⟨g, i, none⟩ (.int .i64 x)) (.slice (some ⟨g, 0, none⟩) n cap) (l.set i x) := by
  have hn : n = l.length := by
    rcases h.2 with ⟨h2, _⟩ | ⟨g', cap', cur, h1, _⟩
    · cases h2
    · cases h1; rfl
  subst hn
  have h2 := (World.ownsRow.stored h i (.int .i64 x)).1
  unfold OwnI
  rw [List.length_set, List.map_set]; exact h2

theorem IntsAt.news {w : World} {b off : Nat} {l : List Int} (h : IntsAt w b off l) : ∀ j u, (l.map (Value.int .i64))[j]? = some u → w.cell? ((⟨b, off, none⟩ : Addr).add j) = some u := by
  intro j u hu
  rw [List.getElem?_map] at hu
  have hj : j < l.length := by
    rcases Nat.lt_or_ge j l.length with h | h
    · exact h
    · rw [List.getElem?_eq_none h] at hu; cases hu
  rw [List.getElem?_eq_getElem hj] at hu
  have hx := h j hj
  rw [List.getD_eq_getElem?_getD, List.getElem?_eq_getElem hj] at hx
  have e : (⟨b, off, none⟩ : Addr).add j = ⟨b, off + j, none⟩ := by unfold Addr.add; split <;> simp_all
  rw [e, hx]; exact hu

/-- append(s, t...) on integers: s is the call's own, t reads as m. -/
theorem ap_ints (w : World) {ops : Array Oper} {rest : List Oper} {o : Oper} {a : Act} {Q : Exit → Act → World → Prop} (hg : o.guard = none) (s x : Operand)
    (ho : o.op = .call { callee := .builtin .append, args := #[s, x], argTypes := #[24, 24] }) (base : Nat) (v : Value) (l : List Int) (hs : a.eval s = v) (hown : OwnI base w v l)
    (M : Nat → Prop) (u : Value) (m : List Int) (hx : a.eval x = u) (hrd : RdI M w u m) (hlen : l.length + m.length ≤ 17592186044416) (hbase : base ≤ w.heap.size)
    (h : ∀ v' w', OwnI base w' v' (l ++ m) → w.grownBy w' v.ownBlock → wpList Tryz.prog ops Q rest (a.put o.dst v') w') : wpList Tryz.prog ops Q (o :: rest) a w := by
  obtain ⟨i0, hi, hz0, hz1, hz2⟩ := info_parts infoInt
  rcases hrd with ⟨⟨ad, cap, rfl, hcap⟩, rfl⟩ | ⟨b, off, cap, rfl, _, _, _, hc⟩
  · cases ad with
    | some ad =>
      refine wpList_append_own w hg s x 24 ho base 3 i0 (.int .i64 0) 1 8 Tryz.underlying24 hi hz0 hz1 hz2 rfl (by decide) v _ _ hs hown ad 0 cap [] hx (by simp) (fun j u hu => by simp at hu) (by simp) (by unfold maxLen; simp at hlen; omega) (by simp at hlen; omega) hbase ?_
      intro v' w' h1 h2 _
      refine h v' w' ?_ h2
      simpa [OwnI] using h1
    | none =>
    obtain rfl := hcap rfl
    refine wpList_append_own_none (w := w) hg s x 24 ho base 3 i0 1 Tryz.underlying24 hi v _ _ hs hown hx ?_
    exact h v w (by simpa using hown) ⟨rfl, rfl, rfl, Nat.le_refl _, fun _ _ _ => rfl⟩
  · refine wpList_append_own w hg s x 24 ho base 3 i0 (.int .i64 0) 1 8 Tryz.underlying24 hi hz0 hz1 hz2 rfl (by decide) v _ _ hs hown ⟨b, off, none⟩ m.length cap (m.map (Value.int .i64)) hx (by simp) hc.news (by simp [Value.oneCell']) (by unfold maxLen; omega) (by omega) hbase ?_
    intro v' w' h1 h2 _
    refine h v' w' ?_ h2
    unfold OwnI
    rw [List.length_append, List.map_append]; exact h1

end Go.Proofs.YtndfncaoejbkiaaGreatDoor
end
section
/- The walks of opinfo: known, Pattern, inside, Arity, leaf, resized, agreed. -/
namespace Go.Proofs.YtndfncaoejbkiaaGreatDoor
open Go.RowKit
set_option maxRecDepth 100000

def ariS (op : Int) : Int := if op < 1 ∨ 26 < op then -1 else if op = 1 ∨ op = 2 ∨ op = 24 ∨ op = 25 then 0 else if op = 3 ∨ op = 4 ∨ op = 21 ∨ op = 22 ∨ op = 23 ∨ op = 26 then 1 else if op = 19 then 3 else 2
def patS (op : Int) : Bool := decide (24 ≤ op ∧ op ≤ 26)
def knownS (op : Int) : Bool := decide (1 ≤ op ∧ op ≤ 26)
def insideS (x : Int) : Bool := decide (0 ≤ x ∧ x ≤ 64)

theorem known_any (op : Int) (w : World) : Calls Tryz.prog 103 #[.int .i64 op] w fun e w' => e = .returned (.bool (knownS op)) ∧ w' = w := by
  go_enter Tryz.func103, Tryz.ntmps103
  go_wp2
  all_goals (go_ret; refine ⟨ret_bool ?_, rfl⟩; unfold knownS; first | (simp; omega) | (simp [*]; done) | (simp [*]; omega))
theorem pat_any (op : Int) (w : World) : Calls Tryz.prog 96 #[.int .i64 op] w fun e w' => e = .returned (.bool (patS op)) ∧ w' = w := by
  go_enter Tryz.func96, Tryz.ntmps96
  go_wp2
  all_goals (go_ret; refine ⟨ret_bool ?_, rfl⟩; unfold patS; first | (simp; omega) | (simp [*]; done) | (simp [*]; omega))
theorem inside_any (x : Int) (w : World) : Calls Tryz.prog 104 #[.int .i64 x] w fun e w' => e = .returned (.bool (insideS x)) ∧ w' = w := by
  go_enter Tryz.func104, Tryz.ntmps104
  go_wp2
  all_goals (go_ret; refine ⟨ret_bool ?_, rfl⟩; unfold insideS; first | (simp; omega) | (simp [*]; done) | (simp [*]; omega))
theorem agreed_any (b : Bool) (r : Int) (w : World) : Calls Tryz.prog 107 #[.bool b, .int .i64 r] w fun e w' => e = .returned (.tuple #[.int .i64 (if b then r else 0), .int .i64 (if b then 0 else 3)]) ∧ w' = w := by
  cases b <;>
  · go_enter Tryz.func107, Tryz.ntmps107
    go_wp2
    go_ret2
    exact ⟨rfl, rfl⟩
set_option maxHeartbeats 4000000 in
theorem arity_any (op : Int) (w : World) : Calls Tryz.prog 95 #[.int .i64 op] w fun e w' => e = .returned (.int .i64 (ariS op)) ∧ w' = w := by
  go_enter Tryz.func95, Tryz.ntmps95
  go_wp2
  all_goals (go_ret; refine ⟨ret_int ?_, rfl⟩; simp only [beq_iff_eq, beq_eq_false_iff_ne, Bool.not_eq_true, ne_eq] at *; unfold ariS; (repeat' split) <;> omega)

end Go.Proofs.YtndfncaoejbkiaaGreatDoor
end
section
/- The walks of opinfo's leaf and resized, and the reference's: Is, Leaf, Pattern, Arity, width, leaf, parts. -/
namespace Go.Proofs.YtndfncaoejbkiaaGreatDoor
open Go.RowKit
set_option maxRecDepth 100000

def leafS (op x val : Int) : Int × Int := if !insideS x ∨ (op = 2 ∧ 0 < x ∧ val / 2 ^ x.toNat ≠ 0) then (0, 3) else (x, 0)
def resS (op x val o : Int) : Int × Int := if (x < 1 ∨ 64 < x) ∨ o < 1 then (0, 3) else if (op ≠ 21 ∧ x < o) ∨ (op = 21 ∧ (o < x ∨ o - x < val)) then (0, 3) else (x, 0)
abbrev pairV (p : Int × Int) : Value := .tuple #[.int .i64 p.1, .int .i64 p.2]
theorem ret_pair {a b : Int} {p : Int × Int} (h : p = (a, b)) : Ending.returned (.tuple #[.int .i64 a, .int .i64 b]) = .returned (pairV p) := by rw [h]

theorem leaf_any (op x val : Int) (w : World) : Calls Tryz.prog 105 #[.int .i64 op, .int .i64 x, .int .u64 val] w fun e w' => e = .returned (pairV (leafS op x val)) ∧ w' = w := by
  by_cases h : insideS x = true
  · have hx0 : 0 ≤ x := by simp [insideS] at h; omega
    have hx1 : x ≤ 64 := by simp [insideS] at h; omega
    go_enter Tryz.func105, Tryz.ntmps105
    go_wp2_with (go_at_call 104; refine (inside_any x w).mono ?_; rintro e w9 ⟨rfl, h9⟩; have h9 := h9.symm; subst h9)
    all_goals (go_ret2; refine ⟨ret_pair ?_, rfl⟩; unfold leafS; split <;> first | rfl | (exfalso; simp_all; done) | (exfalso; simp_all; omega))
  · go_enter Tryz.func105, Tryz.ntmps105
    go_wp2_with (go_at_call 104; refine (inside_any x w).mono ?_; rintro e w9 ⟨rfl, h9⟩; have h9 := h9.symm; subst h9)
    all_goals (go_ret2; refine ⟨ret_pair ?_, rfl⟩; unfold leafS; split <;> first | rfl | (exfalso; simp_all; done))
theorem resized_any (op x val o : Int) (w : World) (ho : o ≤ 64) : Calls Tryz.prog 106 #[.int .i64 op, .int .i64 x, .int .u64 val, .int .i64 o] w fun e w' => e = .returned (pairV (resS op x val o)) ∧ w' = w := by
  go_enter Tryz.func106, Tryz.ntmps106
  go_wp2
  all_goals
    go_ret2
    refine ⟨ret_pair ?_, rfl⟩
    unfold resS
    first
      | rw [if_pos (by omega)]
      | rw [if_neg (by omega), if_pos (by omega)]
      | rw [if_neg (by omega), if_neg (by omega)]
      | (rw [if_neg (by omega)]; simp only [IntKind.wrap_u64, wrap64] at *; first | rw [if_pos (by omega)] | rw [if_neg (by omega)])

theorem shl_fact {x val : Int} (h0 : 0 ≤ x) (hv : 0 ≤ val ∧ val < 18446744073709551616) (hx : x < 64) : (IntKind.u64.wrap (2 ^ x.toNat) ≤ val) ↔ ¬ val / 2 ^ x.toNat = 0 := by
  have hp : (2 : Int) ^ x.toNat < 18446744073709551616 := by
    have : (2 : Nat) ^ x.toNat < 2 ^ 64 := Nat.pow_lt_pow_right (by decide) (by omega)
    have h2 : ((2 ^ x.toNat : Nat) : Int) < ((2 ^ 64 : Nat) : Int) := by exact_mod_cast this
    simpa using h2
  have hp0 : (0 : Int) < 2 ^ x.toNat := Int.pow_pos (by decide)
  rw [IntKind.wrap_u64, Int.emod_eq_of_lt (by omega) (by omega)]
  constructor
  · intro h e
    have h1 := Int.mul_ediv_add_emod val (2 ^ x.toNat)
    have h2 := Int.emod_lt_of_pos val hp0
    rw [e, Int.mul_zero] at h1
    omega
  · intro h
    by_cases h1 : val < 2 ^ x.toNat
    · exact absurd (Int.ediv_eq_zero_of_lt hv.1 h1) h
    · omega
theorem shr64 {x val : Int} (h1 : x ≤ 64) (hx : ¬ x < 64) (hv : 0 ≤ val ∧ val < 18446744073709551616) : val / 2 ^ x.toNat = 0 := by
  have e : x = 64 := by omega
  subst e
  exact Int.ediv_eq_zero_of_lt hv.1 hv.2
end Go.Proofs.YtndfncaoejbkiaaGreatDoor
end
section
/- The walks of the reference's Leaf, Pattern, Arity, and of the two Names. -/
namespace Go.Proofs.YtndfncaoejbkiaaGreatDoor
open Go.RowKit
set_option maxRecDepth 100000

def leafOp (op : Int) : Bool := decide (op = 1 ∨ op = 2 ∨ op = 24 ∨ op = 25)
end Go.Proofs.YtndfncaoejbkiaaGreatDoor
end
section
/- The walks of term.Name and of the reference's Name. -/
namespace Go.Proofs.YtndfncaoejbkiaaGreatDoor
open Go.RowKit
set_option maxRecDepth 100000

def chO (c : Int) : Bool := decide ((97 ≤ c ∧ c ≤ 122) ∨ (48 ≤ c ∧ c ≤ 57) ∨ c = 95)
def bytesI (s : ByteArray) : List Int := s.data.toList.map (fun b => (b.toNat : Int))
def nameL (l : List Int) : Bool := decide (1 ≤ l.length ∧ l.length ≤ 16) && decide (97 ≤ l.getD 0 0 ∧ l.getD 0 0 ≤ 122) && l.all chO
def nameS (s : ByteArray) : Bool := nameL (bytesI s)
theorem bytesI_len (s : ByteArray) : (bytesI s).length = s.size := by simp [bytesI]
theorem bytesI_get (s : ByteArray) (k : Nat) (h : k < s.size) : (bytesI s).getD k 0 = (s[k].toNat : Int) := by
  have h2 : k < (bytesI s).length := by rw [bytesI_len]; exact h
  rw [List.getD_eq_getElem?_getD, List.getElem?_eq_getElem h2]
  simp [bytesI]
  rfl
theorem nameS_len {s : ByteArray} (h : s.size < 1 ∨ 16 < s.size) : nameS s = false := by
  unfold nameS nameL
  rw [bytesI_len]
  have : decide (1 ≤ s.size ∧ s.size ≤ 16) = false := by simp; omega
  rw [this]; rfl
theorem nameS_first {s : ByteArray} (h0 : 0 < s.size) (h : (s[0].toNat : Int) < 97 ∨ (122 : Int) < (s[0].toNat : Int)) : nameS s = false := by
  unfold nameS nameL
  rw [bytesI_get s 0 h0]
  have : decide ((97 : Int) ≤ (s[0].toNat : Int) ∧ (s[0].toNat : Int) ≤ 122) = false := by simp; omega
  rw [this]; simp
theorem nameS_bad {s : ByteArray} {k : Nat} (hk : k < s.size) (h : chO (s[k].toNat : Int) = false) : nameS s = false := by
  unfold nameS nameL
  have : (bytesI s).all chO = false := by
    rw [List.all_eq_false]
    have h2 : k < (bytesI s).length := by rw [bytesI_len]; exact hk
    refine ⟨(bytesI s)[k], List.getElem_mem _, ?_⟩
    have e := bytesI_get s k hk
    rw [List.getD_eq_getElem?_getD, List.getElem?_eq_getElem h2] at e
    simp only [Option.getD_some] at e
    rw [e, h]; simp
  rw [this]; simp
theorem nameS_ok {s : ByteArray} (h1 : 1 ≤ s.size) (h2 : s.size ≤ 16) (h3 : (97 : Int) ≤ (s[0].toNat : Int)) (h4 : (s[0].toNat : Int) ≤ 122) (h : ∀ k (hk : k < s.size), chO (s[k].toNat : Int) = true) : nameS s = true := by
  unfold nameS nameL
  rw [bytesI_len, bytesI_get s 0 h1]
  have e1 : decide (1 ≤ s.size ∧ s.size ≤ 16) = true := by simp; omega
  have e2 : decide ((97 : Int) ≤ (s[0].toNat : Int) ∧ (s[0].toNat : Int) ≤ 122) = true := by simp; omega
  have e3 : (bytesI s).all chO = true := by
    rw [List.all_eq_true]
    intro x hx
    obtain ⟨k, hk, rfl⟩ := List.mem_iff_getElem.1 hx
    have hk2 : k < s.size := by rw [← bytesI_len]; exact hk
    have e := bytesI_get s k hk2
    rw [List.getD_eq_getElem?_getD, List.getElem?_eq_getElem hk] at e
    simp only [Option.getD_some] at e
    rw [e]; exact h k hk2
  rw [e1, e2, e3]; rfl

theorem name_any (s : ByteArray) (w : World) : Calls Tryz.prog 97 #[.string s] w fun e w' => e = .returned (.bool (nameS s)) ∧ w' = w := by
  by_cases h1 : (s.size : Int) < 1
  · go_enter Tryz.func97, Tryz.ntmps97
    go_wp2
    go_ret
    exact ⟨ret_bool (nameS_len (.inl (by omega))).symm, rfl⟩
  by_cases h2 : (16 : Int) < s.size
  · go_enter Tryz.func97, Tryz.ntmps97
    go_wp2
    go_ret
    exact ⟨ret_bool (nameS_len (.inr (by omega))).symm, rfl⟩
  have h3 : (0 : Int) < s.size := by omega
  have h0 : 0 < s.size := by omega
  by_cases h4 : (s[0].toNat : Int) < 97 ∨ (122 : Int) < (s[0].toNat : Int)
  · go_enter Tryz.func97, Tryz.ntmps97
    go_wp2
    all_goals first | (go_ret; exact ⟨ret_bool (nameS_first h0 h4).symm, rfl⟩) | (exfalso; omega)
  have h5 : (97 : Int) ≤ (s[0].toNat : Int) := by omega
  have h6 : (s[0].toNat : Int) ≤ 122 := by omega
  clear h4
  go_enter Tryz.func97, Tryz.ntmps97
  go_wp2
  go_loop [25] (fun i => ∃ k : Nat, k ≤ s.size ∧ i = .int .i64 k ∧ ∀ j (hj : j < s.size), j < k → chO (s[j].toNat : Int) = true) (fun i => s.size - (intOf i).toNat)
  case atStart => exact ⟨0, Nat.zero_le _, rfl, fun j hj h => by omega⟩
  case round =>
    obtain ⟨k, hk, rfl, hall⟩ := hrel
    have HALL := hid hall
    clear hall
    by_cases hlt : k < s.size
    · by_cases hc : chO (s[k].toNat : Int) = true
      · have HC := hid hc
        clear hc
        go_wp2
        all_goals first
          | (exfalso; have h9 := HC.out; simp only [chO, decide_eq_true_eq] at h9; clear HC HALL; simp at *; omega)
          | skip
        all_goals
          go_round
          case rel => exact ⟨k + 1, by omega, by go_num, fun j hj h => by
            by_cases e : j = k
            · subst e; exact HC.out
            · exact HALL.out j hj (by omega)⟩
          case measure => simp [intOf]; omega
      · have hc' : chO (s[k].toNat : Int) = false := by simpa using hc
        have HC := hid hc'
        clear hc hc'
        go_wp2
        all_goals first
          | (go_ret; exact ⟨ret_bool (nameS_bad hlt HC.out).symm, rfl⟩)
          | (exfalso; have h9 := HC.out; simp only [chO, decide_eq_false_iff_not] at h9; clear HC HALL; simp at *; omega)
    · go_wp2
      go_ret
      exact ⟨ret_bool (nameS_ok h0 (by omega) h5 h6 (fun j hj => HALL.out j hj (by omega))).symm, rfl⟩

end Go.Proofs.YtndfncaoejbkiaaGreatDoor
end
section
/- The walk of opinfo.Width. -/
namespace Go.Proofs.YtndfncaoejbkiaaGreatDoor
open Go.RowKit
set_option maxRecDepth 100000

def opC (op x val : Int) (a : List Int) : Int × Int :=
  if op = 1 ∨ op = 2 ∨ op = 24 ∨ op = 25 then leafS op x val
  else if op = 3 ∨ op = 4 ∨ op = 26 then (a.getD 0 0, 0)
  else if op = 21 ∨ op = 22 ∨ op = 23 then resS op x val (a.getD 0 0)
  else if op = 19 then (if a.getD 0 0 = 1 ∧ a.getD 1 0 = a.getD 2 0 then (a.getD 1 0, 0) else (0, 3))
  else if op = 20 then (if 1 ≤ a.getD 0 0 ∧ 1 ≤ a.getD 1 0 ∧ a.getD 0 0 + a.getD 1 0 ≤ 64 then (a.getD 0 0 + a.getD 1 0, 0) else (0, 3))
  else if op = 16 ∨ op = 17 ∨ op = 18 then (if a.getD 0 0 = a.getD 1 0 then (1, 0) else (0, 3))
  else if a.getD 0 0 = a.getD 1 0 then (a.getD 0 0, 0) else (0, 3)

def opW (op x val : Int) (a : List Int) : Int × Int :=
  if knownS op = false ∨ (a.length : Int) ≠ ariS op then (0, 4)
  else if a.any (fun y => !insideS y) then (0, 3)
  else opC op x val a
theorem opW_ok {op x val : Int} {a : List Int} (hk : knownS op = true) (ha : ariS op = a.length) (h : ∀ y ∈ a, 0 ≤ y ∧ y ≤ 64) : opW op x val a = opC op x val a := by
  unfold opW
  rw [if_neg (by simp [hk, ha]), if_neg]
  simp only [List.any_eq_true, not_exists, not_and]
  intro y hy
  have := h y hy
  simp [insideS, this]
theorem insideS_iff {y : Int} : insideS y = true ↔ 0 ≤ y ∧ y ≤ 64 := by simp [insideS]
theorem Fr.of_eq {w w' : World} (h : w' = w) : Fr NoB w w' := by subst h; exact Fr.refl _ _
theorem RdI.lit2 {M : Nat → Prop} {w : World} {p : Option Addr} {n c : Nat} {l : List Int} (h : RdI M w (.slice p n c) l) (hn : 0 < l.length) : ∃ b off, p = some ⟨b, off, none⟩ ∧ n = l.length ∧ ∀ i, i < l.length → w.cell? ⟨b, off + i, none⟩ = some (.int .i64 (l.getD i 0)) := by
  rcases h with ⟨_, h2⟩ | ⟨b, off, cap, h1, _, _, _, hc⟩
  · rw [h2] at hn; simp at hn
  · simp only [Value.slice.injEq] at h1
    obtain ⟨rfl, rfl, rfl⟩ := h1
    exact ⟨b, off, rfl, rfl, hc⟩

set_option maxHeartbeats 2000000 in
theorem width_leaf (M : Nat → Prop) (op x val : Int) (v : Value) (w : World) (h : RdI M w v []) (hop : op = 1 ∨ op = 2 ∨ op = 24 ∨ op = 25) (hk : knownS op = true) (ha : ariS op = 0) :
    Calls Tryz.prog 98 #[.int .i64 op, .int .i64 x, .int .u64 val, v] w fun e w' => e = .returned (pairV (opW op x val [])) ∧ Fr NoB w w' := by
  obtain ⟨p, c, rfl⟩ := h.form
  simp only [List.length_nil] at *
  rw [opW_ok (a := []) hk (by simpa using ha) (by simp)]
  have HOP := hid hop
  clear hop
  go_enter Tryz.func98, Tryz.ntmps98
  go_wp2_with (first | (go_at_call 103; refine (known_any op _).mono ?_; rintro e w9 ⟨rfl, h9⟩; have h9 := h9.symm; subst h9) | (go_at_call 95; refine (arity_any op _).mono ?_; rintro e w9 ⟨rfl, h9⟩; have h9 := h9.symm; subst h9))
  go_loop [24] (fun i => ∃ k : Nat, k ≤ 0 ∧ i = .int .i64 k) (fun i => 0 - (intOf i).toNat)
  case atStart => exact ⟨0, Nat.zero_le _, rfl⟩
  case round =>
    obtain ⟨k, hkn, rfl⟩ := hrel
    by_cases hlt : k < 0
    · omega
    · obtain rfl : k = 0 := by omega
      rcases HOP.out with rfl | rfl | rfl | rfl <;>
      · go_wp2_with (go_at_call 105; refine (leaf_any _ x val _).mono ?_; rintro e w9 ⟨rfl, h9⟩; have h9 := h9.symm; subst h9)
        go_ret2
        exact ⟨rfl, Fr.refl _ _⟩
set_option maxHeartbeats 2000000 in
theorem width_un (M : Nat → Prop) (op x val : Int) (v : Value) (w : World) (a0 : Int) (h : RdI M w v [a0]) (hop : op = 3 ∨ op = 4 ∨ op = 26) (hk : knownS op = true) (ha : ariS op = 1) (h0 : 0 ≤ a0 ∧ a0 ≤ 64) :
    Calls Tryz.prog 98 #[.int .i64 op, .int .i64 x, .int .u64 val, v] w fun e w' => e = .returned (pairV (opW op x val [a0])) ∧ Fr NoB w w' := by
  obtain ⟨p, c, rfl⟩ := h.form
  simp only [List.length_cons, List.length_nil, Nat.zero_add] at *
  obtain ⟨b, off, rfl, hlen, hc⟩ := h.lit2 (by simp)
  clear hlen
  have c0 := hc 0 (by simp)
  simp only [List.getD_cons_zero, Nat.add_zero] at c0
  clear hc h
  have hA : ∀ k : Nat, k < 1 → ∃ y, w.cell? ⟨b, off + k, none⟩ = some (.int .i64 y) ∧ insideS y = true := fun k hk => by
    match k, hk with
    | 0, _ => exact ⟨_, c0, insideS_iff.2 h0⟩
  have HA := hid hA
  clear hA
  rw [opW_ok (a := [a0]) hk (by simpa using ha) (by simp [h0])]
  have H0 := hid h0
  have HOP := hid hop
  clear hop h0
  go_enter Tryz.func98, Tryz.ntmps98
  go_wp2_with (first | (go_at_call 103; refine (known_any op _).mono ?_; rintro e w9 ⟨rfl, h9⟩; have h9 := h9.symm; subst h9) | (go_at_call 95; refine (arity_any op _).mono ?_; rintro e w9 ⟨rfl, h9⟩; have h9 := h9.symm; subst h9))
  go_loop [24] (fun i => ∃ k : Nat, k ≤ 1 ∧ i = .int .i64 k) (fun i => 1 - (intOf i).toNat)
  case atStart => exact ⟨0, Nat.zero_le _, rfl⟩
  case round =>
    obtain ⟨k, hkn, rfl⟩ := hrel
    by_cases hlt : k < 1
    · obtain ⟨y, hy, hin⟩ := HA.out k hlt
      go_wp2_with (go_at_call 104; refine (inside_any y _).mono ?_; rintro e w9 ⟨rfl, h9⟩; have h9 := h9.symm; subst h9)
      go_round
      case rel => exact ⟨k + 1, by omega, by go_num⟩
      case measure => simp [intOf]; omega
    · obtain rfl : k = 1 := by omega
      rcases HOP.out with rfl | rfl | rfl <;>
      · go_wp2
        go_ret2
        exact ⟨rfl, Fr.refl _ _⟩
set_option maxHeartbeats 2000000 in
theorem width_ext (M : Nat → Prop) (op x val : Int) (v : Value) (w : World) (a0 : Int) (h : RdI M w v [a0]) (hop : op = 21 ∨ op = 22 ∨ op = 23) (hk : knownS op = true) (ha : ariS op = 1) (h0 : 0 ≤ a0 ∧ a0 ≤ 64) :
    Calls Tryz.prog 98 #[.int .i64 op, .int .i64 x, .int .u64 val, v] w fun e w' => e = .returned (pairV (opW op x val [a0])) ∧ Fr NoB w w' := by
  obtain ⟨p, c, rfl⟩ := h.form
  simp only [List.length_cons, List.length_nil, Nat.zero_add] at *
  obtain ⟨b, off, rfl, hlen, hc⟩ := h.lit2 (by simp)
  clear hlen
  have c0 := hc 0 (by simp)
  simp only [List.getD_cons_zero, Nat.add_zero] at c0
  clear hc h
  have hA : ∀ k : Nat, k < 1 → ∃ y, w.cell? ⟨b, off + k, none⟩ = some (.int .i64 y) ∧ insideS y = true := fun k hk => by
    match k, hk with
    | 0, _ => exact ⟨_, c0, insideS_iff.2 h0⟩
  have HA := hid hA
  clear hA
  rw [opW_ok (a := [a0]) hk (by simpa using ha) (by simp [h0])]
  have H0 := hid h0
  have HOP := hid hop
  clear hop h0
  go_enter Tryz.func98, Tryz.ntmps98
  go_wp2_with (first | (go_at_call 103; refine (known_any op _).mono ?_; rintro e w9 ⟨rfl, h9⟩; have h9 := h9.symm; subst h9) | (go_at_call 95; refine (arity_any op _).mono ?_; rintro e w9 ⟨rfl, h9⟩; have h9 := h9.symm; subst h9))
  go_loop [24] (fun i => ∃ k : Nat, k ≤ 1 ∧ i = .int .i64 k) (fun i => 1 - (intOf i).toNat)
  case atStart => exact ⟨0, Nat.zero_le _, rfl⟩
  case round =>
    obtain ⟨k, hkn, rfl⟩ := hrel
    by_cases hlt : k < 1
    · obtain ⟨y, hy, hin⟩ := HA.out k hlt
      go_wp2_with (go_at_call 104; refine (inside_any y _).mono ?_; rintro e w9 ⟨rfl, h9⟩; have h9 := h9.symm; subst h9)
      go_round
      case rel => exact ⟨k + 1, by omega, by go_num⟩
      case measure => simp [intOf]; omega
    · obtain rfl : k = 1 := by omega
      rcases HOP.out with rfl | rfl | rfl <;>
      · go_wp2_with (go_at_call 106; refine (resized_any _ x val a0 _ H0.out.2).mono ?_; rintro e w9 ⟨rfl, h9⟩; have h9 := h9.symm; subst h9)
        go_ret2
        exact ⟨rfl, Fr.refl _ _⟩
set_option maxHeartbeats 2000000 in
theorem width_ite (M : Nat → Prop) (op x val : Int) (v : Value) (w : World) (a0 a1 a2 : Int) (h : RdI M w v [a0, a1, a2]) (hop : op = 19) (hk : knownS op = true) (ha : ariS op = 3) (h0 : 0 ≤ a0 ∧ a0 ≤ 64) (h1 : 0 ≤ a1 ∧ a1 ≤ 64) (h2 : 0 ≤ a2 ∧ a2 ≤ 64) :
    Calls Tryz.prog 98 #[.int .i64 op, .int .i64 x, .int .u64 val, v] w fun e w' => e = .returned (pairV (opW op x val [a0, a1, a2])) ∧ Fr NoB w w' := by
  obtain ⟨p, c, rfl⟩ := h.form
  simp only [List.length_cons, List.length_nil, Nat.zero_add, Nat.reduceAdd] at *
  obtain ⟨b, off, rfl, hlen, hc⟩ := h.lit2 (by simp)
  clear hlen
  have c0 := hc 0 (by simp)
  have c1 := hc 1 (by simp)
  have c2 := hc 2 (by simp)
  simp only [List.getD_cons_zero, List.getD_cons_succ, Nat.add_zero] at c0 c1 c2
  clear hc h
  have hA : ∀ k : Nat, k < 3 → ∃ y, w.cell? ⟨b, off + k, none⟩ = some (.int .i64 y) ∧ insideS y = true := fun k hk => by
    match k, hk with
    | 0, _ => exact ⟨_, c0, insideS_iff.2 h0⟩
    | 1, _ => exact ⟨_, c1, insideS_iff.2 h1⟩
    | 2, _ => exact ⟨_, c2, insideS_iff.2 h2⟩
  have HA := hid hA
  clear hA
  rw [opW_ok (a := [a0, a1, a2]) hk (by simpa using ha) (by simp [h0, h1, h2])]
  have H0 := hid h0
  have H1 := hid h1
  have H2 := hid h2
  have HOP := hid hop
  clear hop h0 h1 h2
  go_enter Tryz.func98, Tryz.ntmps98
  go_wp2_with (first | (go_at_call 103; refine (known_any op _).mono ?_; rintro e w9 ⟨rfl, h9⟩; have h9 := h9.symm; subst h9) | (go_at_call 95; refine (arity_any op _).mono ?_; rintro e w9 ⟨rfl, h9⟩; have h9 := h9.symm; subst h9))
  go_loop [24] (fun i => ∃ k : Nat, k ≤ 3 ∧ i = .int .i64 k) (fun i => 3 - (intOf i).toNat)
  case atStart => exact ⟨0, Nat.zero_le _, rfl⟩
  case round =>
    obtain ⟨k, hkn, rfl⟩ := hrel
    by_cases hlt : k < 3
    · obtain ⟨y, hy, hin⟩ := HA.out k hlt
      go_wp2_with (go_at_call 104; refine (inside_any y _).mono ?_; rintro e w9 ⟨rfl, h9⟩; have h9 := h9.symm; subst h9)
      go_round
      case rel => exact ⟨k + 1, by omega, by go_num⟩
      case measure => simp [intOf]; omega
    · obtain rfl : k = 3 := by omega
      have hop := HOP.out
      subst hop
      by_cases e0 : a0 = 1
      · by_cases e1 : a1 = a2
        · have q0 : (a0 == 1) = true := by simpa using e0
          have q1 : (a1 == a2) = true := by simpa using e1
          have E0 := hid e0
          have E1 := hid e1
          clear e0 e1
          go_wp2
          go_quiet ((go_at_call 107; refine Calls.quiet_of_same (agreed_any _ _ _)))
          go_wp2
          go_ret2
          exact ⟨ret_pair (by simp [opC, E0.out, E1.out]), (Fr.refl _ _).drewN _⟩
        · have q0 : (a0 == 1) = true := by simpa using e0
          have q1 : (a1 == a2) = false := by simpa using e1
          have E0 := hid e0
          have E1 := hid e1
          clear e0 e1
          go_wp2
          go_quiet ((go_at_call 107; refine Calls.quiet_of_same (agreed_any _ _ _)))
          go_wp2
          go_ret2
          exact ⟨ret_pair (by simp [opC, E0.out, E1.out]), (Fr.refl _ _).drewN _⟩
      · have q0 : (a0 == 1) = false := by simpa using e0
        have E0 := hid e0
        clear e0
        go_wp2
        go_quiet ((go_at_call 107; refine Calls.quiet_of_same (agreed_any _ _ _)))
        go_wp2
        go_ret2
        exact ⟨ret_pair (by simp [opC, E0.out]), (Fr.refl _ _).drewN _⟩
set_option maxHeartbeats 2000000 in
theorem width_cat (M : Nat → Prop) (op x val : Int) (v : Value) (w : World) (a0 a1 : Int) (h : RdI M w v [a0, a1]) (hop : op = 20) (hk : knownS op = true) (ha : ariS op = 2) (h0 : 0 ≤ a0 ∧ a0 ≤ 64) (h1 : 0 ≤ a1 ∧ a1 ≤ 64) :
    Calls Tryz.prog 98 #[.int .i64 op, .int .i64 x, .int .u64 val, v] w fun e w' => e = .returned (pairV (opW op x val [a0, a1])) ∧ Fr NoB w w' := by
  obtain ⟨p, c, rfl⟩ := h.form
  simp only [List.length_cons, List.length_nil, Nat.zero_add, Nat.reduceAdd] at *
  obtain ⟨b, off, rfl, hlen, hc⟩ := h.lit2 (by simp)
  clear hlen
  have c0 := hc 0 (by simp)
  have c1 := hc 1 (by simp)
  simp only [List.getD_cons_zero, List.getD_cons_succ, Nat.add_zero] at c0 c1
  clear hc h
  have hA : ∀ k : Nat, k < 2 → ∃ y, w.cell? ⟨b, off + k, none⟩ = some (.int .i64 y) ∧ insideS y = true := fun k hk => by
    match k, hk with
    | 0, _ => exact ⟨_, c0, insideS_iff.2 h0⟩
    | 1, _ => exact ⟨_, c1, insideS_iff.2 h1⟩
  have HA := hid hA
  clear hA
  rw [opW_ok (a := [a0, a1]) hk (by simpa using ha) (by simp [h0, h1])]
  have H0 := hid h0
  have H1 := hid h1
  have HOP := hid hop
  clear hop h0 h1
  go_enter Tryz.func98, Tryz.ntmps98
  go_wp2_with (first | (go_at_call 103; refine (known_any op _).mono ?_; rintro e w9 ⟨rfl, h9⟩; have h9 := h9.symm; subst h9) | (go_at_call 95; refine (arity_any op _).mono ?_; rintro e w9 ⟨rfl, h9⟩; have h9 := h9.symm; subst h9))
  go_loop [24] (fun i => ∃ k : Nat, k ≤ 2 ∧ i = .int .i64 k) (fun i => 2 - (intOf i).toNat)
  case atStart => exact ⟨0, Nat.zero_le _, rfl⟩
  case round =>
    obtain ⟨k, hkn, rfl⟩ := hrel
    by_cases hlt : k < 2
    · obtain ⟨y, hy, hin⟩ := HA.out k hlt
      go_wp2_with (go_at_call 104; refine (inside_any y _).mono ?_; rintro e w9 ⟨rfl, h9⟩; have h9 := h9.symm; subst h9)
      go_round
      case rel => exact ⟨k + 1, by omega, by go_num⟩
      case measure => simp [intOf]; omega
    · obtain rfl : k = 2 := by omega
      have hop := HOP.out
      subst hop
      have b0 := H0.out
      have b1 := H1.out
      have w0 : IntKind.i64.wrap (a0 + a1) = a0 + a1 := by rw [IntKind.wrap_i64]; omega
      have w1 : wrap64 (a0 + a1) = a0 + a1 := by unfold wrap64; omega
      clear b0 b1
      by_cases e0 : 1 ≤ a0
      · have q0 : (1 : Int) ≤ a0 := e0
        have E0 := hid e0
        clear e0
        by_cases e1 : 1 ≤ a1
        · have q1 : (1 : Int) ≤ a1 := e1
          have E1 := hid e1
          clear e1
          by_cases e2 : a0 + a1 ≤ 64
          · have q2 : a0 + a1 ≤ 64 := e2
            have E2 := hid e2
            clear e2
            go_wp2
            go_quiet ((go_at_call 107; refine Calls.quiet_of_same (agreed_any _ _ _)))
            go_wp2
            go_ret2
            exact ⟨ret_pair (by have f0 := E0.out; have f1 := E1.out; have f2 := E2.out; unfold opC; rw [if_neg (by omega), if_neg (by omega), if_neg (by omega), if_neg (by omega), if_pos rfl]; simp only [List.getD_cons_zero, List.getD_cons_succ]; split <;> first | rfl | (exfalso; omega)), (Fr.refl _ _).drewN _⟩
          · have q2 : decide (a0 + a1 ≤ 64) = false := by simpa using e2
            have E2 := hid e2
            clear e2
            go_wp2
            go_quiet ((go_at_call 107; refine Calls.quiet_of_same (agreed_any _ _ _)))
            go_wp2
            go_ret2
            exact ⟨ret_pair (by have f0 := E0.out; have f1 := E1.out; have f2 := E2.out; unfold opC; rw [if_neg (by omega), if_neg (by omega), if_neg (by omega), if_neg (by omega), if_pos rfl]; simp only [List.getD_cons_zero, List.getD_cons_succ]; split <;> first | rfl | (exfalso; omega)), (Fr.refl _ _).drewN _⟩
        · have q1 : decide ((1 : Int) ≤ a1) = false := by simpa using e1
          have E1 := hid e1
          clear e1
          go_wp2
          go_quiet ((go_at_call 107; refine Calls.quiet_of_same (agreed_any _ _ _)))
          go_wp2
          go_ret2
          exact ⟨ret_pair (by have f0 := E0.out; have f1 := E1.out; unfold opC; rw [if_neg (by omega), if_neg (by omega), if_neg (by omega), if_neg (by omega), if_pos rfl]; simp only [List.getD_cons_zero, List.getD_cons_succ]; split <;> first | rfl | (exfalso; omega)), (Fr.refl _ _).drewN _⟩
      · have q0 : decide ((1 : Int) ≤ a0) = false := by simpa using e0
        have E0 := hid e0
        clear e0
        go_wp2
        go_quiet ((go_at_call 107; refine Calls.quiet_of_same (agreed_any _ _ _)))
        go_wp2
        go_ret2
        exact ⟨ret_pair (by have f0 := E0.out; unfold opC; rw [if_neg (by omega), if_neg (by omega), if_neg (by omega), if_neg (by omega), if_pos rfl]; simp only [List.getD_cons_zero, List.getD_cons_succ]; split <;> first | rfl | (exfalso; omega)), (Fr.refl _ _).drewN _⟩
set_option maxHeartbeats 2000000 in
theorem width_cmp (M : Nat → Prop) (op x val : Int) (v : Value) (w : World) (a0 a1 : Int) (h : RdI M w v [a0, a1]) (hop : op = 16 ∨ op = 17 ∨ op = 18) (hk : knownS op = true) (ha : ariS op = 2) (h0 : 0 ≤ a0 ∧ a0 ≤ 64) (h1 : 0 ≤ a1 ∧ a1 ≤ 64) :
    Calls Tryz.prog 98 #[.int .i64 op, .int .i64 x, .int .u64 val, v] w fun e w' => e = .returned (pairV (opW op x val [a0, a1])) ∧ Fr NoB w w' := by
  obtain ⟨p, c, rfl⟩ := h.form
  simp only [List.length_cons, List.length_nil, Nat.zero_add, Nat.reduceAdd] at *
  obtain ⟨b, off, rfl, hlen, hc⟩ := h.lit2 (by simp)
  clear hlen
  have c0 := hc 0 (by simp)
  have c1 := hc 1 (by simp)
  simp only [List.getD_cons_zero, List.getD_cons_succ, Nat.add_zero] at c0 c1
  clear hc h
  have hA : ∀ k : Nat, k < 2 → ∃ y, w.cell? ⟨b, off + k, none⟩ = some (.int .i64 y) ∧ insideS y = true := fun k hk => by
    match k, hk with
    | 0, _ => exact ⟨_, c0, insideS_iff.2 h0⟩
    | 1, _ => exact ⟨_, c1, insideS_iff.2 h1⟩
  have HA := hid hA
  clear hA
  rw [opW_ok (a := [a0, a1]) hk (by simpa using ha) (by simp [h0, h1])]
  have H0 := hid h0
  have H1 := hid h1
  have HOP := hid hop
  clear hop h0 h1
  go_enter Tryz.func98, Tryz.ntmps98
  go_wp2_with (first | (go_at_call 103; refine (known_any op _).mono ?_; rintro e w9 ⟨rfl, h9⟩; have h9 := h9.symm; subst h9) | (go_at_call 95; refine (arity_any op _).mono ?_; rintro e w9 ⟨rfl, h9⟩; have h9 := h9.symm; subst h9))
  go_loop [24] (fun i => ∃ k : Nat, k ≤ 2 ∧ i = .int .i64 k) (fun i => 2 - (intOf i).toNat)
  case atStart => exact ⟨0, Nat.zero_le _, rfl⟩
  case round =>
    obtain ⟨k, hkn, rfl⟩ := hrel
    by_cases hlt : k < 2
    · obtain ⟨y, hy, hin⟩ := HA.out k hlt
      go_wp2_with (go_at_call 104; refine (inside_any y _).mono ?_; rintro e w9 ⟨rfl, h9⟩; have h9 := h9.symm; subst h9)
      go_round
      case rel => exact ⟨k + 1, by omega, by go_num⟩
      case measure => simp [intOf]; omega
    · obtain rfl : k = 2 := by omega
      rcases HOP.out with rfl | rfl | rfl <;>
      · by_cases e0 : a0 = a1
        · have q0 : (a0 == a1) = true := by simpa using e0
          have E0 := hid e0
          clear e0
          go_wp2
          go_quiet ((go_at_call 107; refine Calls.quiet_of_same (agreed_any _ _ _)))
          go_wp2
          go_ret2
          exact ⟨ret_pair (by simp [opC, E0.out]), (Fr.refl _ _).drewN _⟩
        · have q0 : (a0 == a1) = false := by simpa using e0
          have E0 := hid e0
          clear e0
          go_wp2
          go_quiet ((go_at_call 107; refine Calls.quiet_of_same (agreed_any _ _ _)))
          go_wp2
          go_ret2
          exact ⟨ret_pair (by simp [opC, E0.out]), (Fr.refl _ _).drewN _⟩
set_option maxHeartbeats 2000000 in
theorem width_bin (M : Nat → Prop) (op x val : Int) (v : Value) (w : World) (a0 a1 : Int) (h : RdI M w v [a0, a1]) (hop : 5 ≤ op ∧ op ≤ 15) (hk : knownS op = true) (ha : ariS op = 2) (h0 : 0 ≤ a0 ∧ a0 ≤ 64) (h1 : 0 ≤ a1 ∧ a1 ≤ 64) :
    Calls Tryz.prog 98 #[.int .i64 op, .int .i64 x, .int .u64 val, v] w fun e w' => e = .returned (pairV (opW op x val [a0, a1])) ∧ Fr NoB w w' := by
  obtain ⟨p, c, rfl⟩ := h.form
  simp only [List.length_cons, List.length_nil, Nat.zero_add, Nat.reduceAdd] at *
  obtain ⟨b, off, rfl, hlen, hc⟩ := h.lit2 (by simp)
  clear hlen
  have c0 := hc 0 (by simp)
  have c1 := hc 1 (by simp)
  simp only [List.getD_cons_zero, List.getD_cons_succ, Nat.add_zero] at c0 c1
  clear hc h
  have hA : ∀ k : Nat, k < 2 → ∃ y, w.cell? ⟨b, off + k, none⟩ = some (.int .i64 y) ∧ insideS y = true := fun k hk => by
    match k, hk with
    | 0, _ => exact ⟨_, c0, insideS_iff.2 h0⟩
    | 1, _ => exact ⟨_, c1, insideS_iff.2 h1⟩
  have HA := hid hA
  clear hA
  rw [opW_ok (a := [a0, a1]) hk (by simpa using ha) (by simp [h0, h1])]
  have H0 := hid h0
  have H1 := hid h1
  have HOP := hid hop
  clear hop h0 h1
  go_enter Tryz.func98, Tryz.ntmps98
  go_wp2_with (first | (go_at_call 103; refine (known_any op _).mono ?_; rintro e w9 ⟨rfl, h9⟩; have h9 := h9.symm; subst h9) | (go_at_call 95; refine (arity_any op _).mono ?_; rintro e w9 ⟨rfl, h9⟩; have h9 := h9.symm; subst h9))
  go_loop [24] (fun i => ∃ k : Nat, k ≤ 2 ∧ i = .int .i64 k) (fun i => 2 - (intOf i).toNat)
  case atStart => exact ⟨0, Nat.zero_le _, rfl⟩
  case round =>
    obtain ⟨k, hkn, rfl⟩ := hrel
    by_cases hlt : k < 2
    · obtain ⟨y, hy, hin⟩ := HA.out k hlt
      go_wp2_with (go_at_call 104; refine (inside_any y _).mono ?_; rintro e w9 ⟨rfl, h9⟩; have h9 := h9.symm; subst h9)
      go_round
      case rel => exact ⟨k + 1, by omega, by go_num⟩
      case measure => simp [intOf]; omega
    · obtain rfl : k = 2 := by omega
      obtain ⟨o1, o2⟩ := HOP.out
      by_cases e0 : a0 = a1
      · have q0 : (a0 == a1) = true := by simpa using e0
        have E0 := hid e0
        clear e0
        go_wp2
        go_quiet ((go_at_call 107; refine Calls.quiet_of_same (agreed_any _ _ _)))
        go_wp2
        go_ret2
        exact ⟨ret_pair (by unfold opC; rw [if_neg (by omega), if_neg (by omega), if_neg (by omega), if_neg (by omega), if_neg (by omega), if_neg (by omega)]; simp [E0.out]), (Fr.refl _ _).drewN _⟩
      · have q0 : (a0 == a1) = false := by simpa using e0
        have E0 := hid e0
        clear e0
        go_wp2
        go_quiet ((go_at_call 107; refine Calls.quiet_of_same (agreed_any _ _ _)))
        go_wp2
        go_ret2
        exact ⟨ret_pair (by unfold opC; rw [if_neg (by omega), if_neg (by omega), if_neg (by omega), if_neg (by omega), if_neg (by omega), if_neg (by omega)]; simp [E0.out]), (Fr.refl _ _).drewN _⟩

end Go.Proofs.YtndfncaoejbkiaaGreatDoor
end
section
/- The walk of opinfo.Width, whole. -/
namespace Go.Proofs.YtndfncaoejbkiaaGreatDoor
open Go.RowKit
set_option maxRecDepth 100000

theorem opW_un {op x val : Int} {a : List Int} (h : knownS op = false ∨ (a.length : Int) ≠ ariS op) : opW op x val a = (0, 4) := by unfold opW; rw [if_pos h]
theorem opW_out {op x val : Int} {a : List Int} (hk : knownS op = true) (ha : (a.length : Int) = ariS op) {k : Nat} (hlt : k < a.length) (hy : insideS (a.getD k 0) = false) : opW op x val a = (0, 3) := by
  unfold opW
  rw [if_neg (by simp [hk, ha]), if_pos]
  rw [List.any_eq_true]
  refine ⟨a[k], List.getElem_mem _, ?_⟩
  rw [List.getD_eq_getElem?_getD, List.getElem?_eq_getElem hlt] at hy
  simpa using hy
theorem getD_mem {a : List Int} {k : Nat} (h : k < a.length) : a.getD k 0 ∈ a := by
  rw [List.getD_eq_getElem?_getD, List.getElem?_eq_getElem h]; exact List.getElem_mem _
theorem all_of {a : List Int} (h : ∀ k, k < a.length → insideS (a.getD k 0) = true) : ∀ y ∈ a, 0 ≤ y ∧ y ≤ 64 := fun y hy => by
  obtain ⟨k, hk, rfl⟩ := List.mem_iff_getElem.1 hy
  have := h k hk
  rw [List.getD_eq_getElem?_getD, List.getElem?_eq_getElem hk] at this
  exact insideS_iff.1 this
theorem len0 {a : List Int} (h : a.length = 0) : a = [] := List.eq_nil_of_length_eq_zero h
theorem len1 {a : List Int} (h : a.length = 1) : ∃ x, a = [x] := by
  match a, h with
  | [x], _ => exact ⟨x, rfl⟩
theorem len2 {a : List Int} (h : a.length = 2) : ∃ x y, a = [x, y] := by
  match a, h with
  | [x, y], _ => exact ⟨x, y, rfl⟩
theorem len3 {a : List Int} (h : a.length = 3) : ∃ x y z, a = [x, y, z] := by
  match a, h with
  | [x, y, z], _ => exact ⟨x, y, z, rfl⟩
theorem ari_cases (op : Int) (hk : knownS op = true) : (ariS op = 0 ∧ (op = 1 ∨ op = 2 ∨ op = 24 ∨ op = 25)) ∨ (ariS op = 1 ∧ (op = 3 ∨ op = 4 ∨ op = 26)) ∨ (ariS op = 1 ∧ (op = 21 ∨ op = 22 ∨ op = 23)) ∨ (ariS op = 3 ∧ op = 19) ∨ (ariS op = 2 ∧ op = 20) ∨ (ariS op = 2 ∧ (op = 16 ∨ op = 17 ∨ op = 18)) ∨ (ariS op = 2 ∧ 5 ≤ op ∧ op ≤ 15) := by
  simp only [knownS, decide_eq_true_eq] at hk
  unfold ariS
  rw [if_neg (by omega)]
  by_cases h0 : op = 1 ∨ op = 2 ∨ op = 24 ∨ op = 25
  · rw [if_pos h0]; exact .inl ⟨rfl, h0⟩
  rw [if_neg h0]
  by_cases h1 : op = 3 ∨ op = 4 ∨ op = 21 ∨ op = 22 ∨ op = 23 ∨ op = 26
  · rw [if_pos h1]
    by_cases h2 : op = 3 ∨ op = 4 ∨ op = 26
    · exact .inr (.inl ⟨rfl, h2⟩)
    · exact .inr (.inr (.inl ⟨rfl, by omega⟩))
  rw [if_neg h1]
  by_cases h2 : op = 19
  · rw [if_pos h2]; exact .inr (.inr (.inr (.inl ⟨rfl, h2⟩)))
  rw [if_neg h2]
  by_cases h3 : op = 20
  · exact .inr (.inr (.inr (.inr (.inl ⟨rfl, h3⟩))))
  by_cases h4 : op = 16 ∨ op = 17 ∨ op = 18
  · exact .inr (.inr (.inr (.inr (.inr (.inl ⟨rfl, h4⟩)))))
  · exact .inr (.inr (.inr (.inr (.inr (.inr ⟨rfl, by omega, by omega⟩)))))

set_option maxHeartbeats 2000000 in
theorem width_any (M : Nat → Prop) (op x val : Int) (v : Value) (w : World) (a : List Int) (h : RdI M w v a) (hl : a.length ≤ 1000000) :
    Calls Tryz.prog 98 #[.int .i64 op, .int .i64 x, .int .u64 val, v] w fun e w' => e = .returned (pairV (opW op x val a)) ∧ Fr NoB w w' := by
  by_cases hk : knownS op = true
  rotate_left
  · have hk : knownS op = false := by simpa using hk
    obtain ⟨p, c, rfl⟩ := h.form
    rw [opW_un (.inl hk)]
    clear h
    go_enter Tryz.func98, Tryz.ntmps98
    go_wp2_with (go_at_call 103; refine (known_any op _).mono ?_; rintro e w9 ⟨rfl, h9⟩; have h9 := h9.symm; subst h9)
    go_ret2
    exact ⟨rfl, Fr.refl _ _⟩
  by_cases ha : (a.length : Int) = ariS op
  rotate_left
  · have hq : ((a.length : Int) != ariS op) = true := by simpa using ha
    obtain ⟨p, c, rfl⟩ := h.form
    rw [opW_un (.inr ha)]
    clear h ha
    go_enter Tryz.func98, Tryz.ntmps98
    go_wp2_with (first | (go_at_call 103; refine (known_any op _).mono ?_; rintro e w9 ⟨rfl, h9⟩; have h9 := h9.symm; subst h9) | (go_at_call 95; refine (arity_any op _).mono ?_; rintro e w9 ⟨rfl, h9⟩; have h9 := h9.symm; subst h9))
    go_ret2
    exact ⟨rfl, Fr.refl _ _⟩
  by_cases hin : ∀ k, k < a.length → insideS (a.getD k 0) = true
  · have hb := all_of hin
    clear hin
    rcases ari_cases op hk with ⟨e, hop⟩ | ⟨e, hop⟩ | ⟨e, hop⟩ | ⟨e, hop⟩ | ⟨e, hop⟩ | ⟨e, hop⟩ | ⟨e, hop⟩
    · obtain rfl := len0 (a := a) (by omega)
      exact width_leaf M op x val v w h hop hk e
    · obtain ⟨y, rfl⟩ := len1 (a := a) (by omega)
      exact width_un M op x val v w y h hop hk e (hb y (by simp))
    · obtain ⟨y, rfl⟩ := len1 (a := a) (by omega)
      exact width_ext M op x val v w y h hop hk e (hb y (by simp))
    · obtain ⟨y, z, u, rfl⟩ := len3 (a := a) (by omega)
      exact width_ite M op x val v w y z u h hop hk e (hb y (by simp)) (hb z (by simp)) (hb u (by simp))
    · obtain ⟨y, z, rfl⟩ := len2 (a := a) (by omega)
      exact width_cat M op x val v w y z h hop hk e (hb y (by simp)) (hb z (by simp))
    · obtain ⟨y, z, rfl⟩ := len2 (a := a) (by omega)
      exact width_cmp M op x val v w y z h hop hk e (hb y (by simp)) (hb z (by simp))
    · obtain ⟨y, z, rfl⟩ := len2 (a := a) (by omega)
      exact width_bin M op x val v w y z h hop hk e (hb y (by simp)) (hb z (by simp))
  · have HIN := hid hin
    have HA := hid ha
    have HH := hid h
    have hq : ((a.length : Int) != ariS op) = false := by simpa using ha
    obtain ⟨p, c, rfl⟩ := h.form
    clear h hin ha
    go_enter Tryz.func98, Tryz.ntmps98
    go_wp2_with (first | (go_at_call 103; refine (known_any op _).mono ?_; rintro e w9 ⟨rfl, h9⟩; have h9 := h9.symm; subst h9) | (go_at_call 95; refine (arity_any op _).mono ?_; rintro e w9 ⟨rfl, h9⟩; have h9 := h9.symm; subst h9))
    go_loop [24] (fun i => ∃ k : Nat, k ≤ a.length ∧ i = .int .i64 k ∧ ∀ j, j < k → insideS (a.getD j 0) = true) (fun i => a.length - (intOf i).toNat)
    case atStart => exact ⟨0, Nat.zero_le _, rfl, fun j h => by omega⟩
    case round =>
      obtain ⟨k, hkn, rfl, hall⟩ := hrel
      have HALL := hid hall
      clear hall
      by_cases hlt : k < a.length
      · obtain ⟨b, off, rfl, _, hc⟩ := HH.out.lit2 (by omega)
        have hck := hc k hlt
        clear hc
        obtain ⟨y, hy⟩ : ∃ y, a.getD k 0 = y := ⟨_, rfl⟩
        rw [hy] at hck
        have HY := hid hy
        clear hy
        cases hyi : insideS y with
        | true =>
          go_wp2_with (go_at_call 104; refine (inside_any y _).mono ?_; rintro e w9 ⟨rfl, h9⟩; have h9 := h9.symm; subst h9)
          go_round
          case rel => exact ⟨k + 1, by omega, by go_num, fun j hj => by
            by_cases e : j = k
            · subst e; rw [HY.out]; exact hyi
            · exact HALL.out j (by omega)⟩
          case measure => simp [intOf]; omega
        | false =>
          have HF := hid hyi
          go_wp2_with (go_at_call 104; refine (inside_any y _).mono ?_; rintro e w9 ⟨rfl, h9⟩; have h9 := h9.symm; subst h9)
          go_ret2
          exact ⟨ret_pair (opW_out hk HA.out hlt (by rw [HY.out]; exact HF.out)), Fr.refl _ _⟩
      · exact absurd (fun j hj => HALL.out j (by omega)) HIN.out

end Go.Proofs.YtndfncaoejbkiaaGreatDoor
end
section
/- The walk of the reference's Width. -/
namespace Go.Proofs.YtndfncaoejbkiaaGreatDoor
open Go.RowKit
set_option maxRecDepth 100000

theorem RdI.lit3 {M : Nat → Prop} {w : World} {p : Option Addr} {n c : Nat} {l : List Int} (h : RdI M w (.slice p n c) l) (hn : 0 < l.length) : ∃ b off, p = some ⟨b, off, none⟩ ∧ b < w.heap.size ∧ ∀ i, i < l.length → w.cell? ⟨b, off + i, none⟩ = some (.int .i64 (l.getD i 0)) := by
  rcases h with ⟨_, h2⟩ | ⟨b, off, cap, h1, h2, _, _, hc⟩
  · rw [h2] at hn; simp at hn
  · simp only [Value.slice.injEq] at h1
    obtain ⟨rfl, rfl, rfl⟩ := h1
    exact ⟨b, off, rfl, h2, hc⟩
theorem cell_in {w W : World} {b off : Nat} (F : Fr NoB w W) (hb : b < w.heap.size) {l : List Int} (hc : ∀ i, i < l.length → w.cell? ⟨b, off + i, none⟩ = some (.int .i64 (l.getD i 0))) (hin : ∀ y ∈ l, 0 ≤ y ∧ y ≤ 64) {k : Nat} (hk : k < l.length) :
    ∃ y, W.cell? ⟨b, off + k, none⟩ = some (.int .i64 y) ∧ insideS y = true :=
  ⟨_, F.c hb (fun h => h) (hc k hk), insideS_iff.2 (hin _ (getD_mem hk))⟩

end Go.Proofs.YtndfncaoejbkiaaGreatDoor
end
section
/- The walk of the reference's Width, whole. -/
namespace Go.Proofs.YtndfncaoejbkiaaGreatDoor
open Go.RowKit
set_option maxRecDepth 100000

theorem ari_unknown {op : Int} (h : knownS op = false) : ariS op = -1 := by
  simp only [knownS, decide_eq_false_iff_not] at h
  unfold ariS
  rw [if_pos (by omega)]
theorem ari_nonneg {op : Int} (h : knownS op = true) : 0 ≤ ariS op := by
  rcases ari_cases op h with ⟨e, _⟩ | ⟨e, _⟩ | ⟨e, _⟩ | ⟨e, _⟩ | ⟨e, _⟩ | ⟨e, _⟩ | ⟨e, _⟩ <;> omega

end Go.Proofs.YtndfncaoejbkiaaGreatDoor
end
section
/- Comparing integers, byte strings, lists and nodes: plain functions, no program in sight. -/
namespace Go.Proofs.YtndfncaoejbkiaaGreatDoor
open Go.RowKit

def cmpI (a b : Int) : Int := if a < b then -1 else if b < a then 1 else 0
def cmpB (a b : ByteArray) : Int := if Op.bytesLess a.toList b.toList then -1 else if Op.bytesLess a.toList b.toList || a.toList == b.toList then 0 else 1
def cmpL : List Int → List Int → Int
  | [], [] => 0
  | [], _ :: _ => -1
  | _ :: _, [] => 1
  | a :: x, b :: y => if cmpI a b = 0 then cmpL x y else cmpI a b

/-- The first number that is not 0, or 0. -/
def orI : List Int → Int
  | [] => 0
  | a :: l => if a = 0 then orI l else a

def nodeCmp (a b : Node) : Int :=
  orI [cmpI a.op b.op, cmpI a.width b.width, cmpI a.val b.val, cmpB a.name b.name, cmpI a.args.length b.args.length, cmpL a.args b.args]

theorem cmpI_zero {a b : Int} : cmpI a b = 0 ↔ a = b := by unfold cmpI; split <;> (try split) <;> omega
theorem cmpI_self (a : Int) : cmpI a a = 0 := by simp [cmpI]
theorem cmpI_cases (a b : Int) : cmpI a b = -1 ∨ cmpI a b = 0 ∨ cmpI a b = 1 := by unfold cmpI; split <;> (try split) <;> simp
theorem cmpI_neg (a b : Int) : cmpI b a = - cmpI a b := by unfold cmpI; split <;> split <;> (try split) <;> omega

theorem bytesLess_irrefl : ∀ l : List UInt8, Op.bytesLess l l = false
  | [] => rfl
  | a :: l => by simp [Op.bytesLess, bytesLess_irrefl l]
theorem bytesLess_asymm : ∀ a b : List UInt8, Op.bytesLess a b = true → Op.bytesLess b a = false
  | [], [] => by simp [Op.bytesLess]
  | [], _ :: _ => by simp [Op.bytesLess]
  | _ :: _, [] => by simp [Op.bytesLess]
  | a :: x, b :: y => by
    have ih := bytesLess_asymm x y
    simp only [Op.bytesLess, Bool.or_eq_true, Bool.and_eq_true, decide_eq_true_eq, beq_iff_eq, Bool.or_eq_false_iff, Bool.and_eq_false_iff, decide_eq_false_iff_not, UInt8.lt_iff_toNat_lt]
    rintro (h | ⟨h, h2⟩)
    · exact ⟨by omega, .inl (by simp only [beq_eq_false_iff_ne, ne_eq]; rintro rfl; omega)⟩
    · subst h; exact ⟨by omega, .inr (ih h2)⟩
theorem bytesLess_total : ∀ a b : List UInt8, Op.bytesLess a b = false → Op.bytesLess b a = false → a = b
  | [], [] => by simp
  | [], _ :: _ => by simp [Op.bytesLess]
  | _ :: _, [] => by simp [Op.bytesLess]
  | a :: x, b :: y => by
    have ih := bytesLess_total x y
    simp only [Op.bytesLess, Bool.or_eq_false_iff, Bool.and_eq_false_iff, decide_eq_false_iff_not, UInt8.lt_iff_toNat_lt, beq_eq_false_iff_ne, ne_eq]
    rintro ⟨h1, h2⟩ ⟨h3, h4⟩
    have e : a = b := UInt8.toNat_inj.1 (by omega)
    subst e
    simp only [not_true, false_or] at h2 h4
    rw [ih h2 h4]
theorem bytesLess_trans : ∀ a b c : List UInt8, Op.bytesLess a b = true → Op.bytesLess b c = true → Op.bytesLess a c = true
  | [], [], _ => by simp [Op.bytesLess]
  | _ :: _, [], _ => by simp [Op.bytesLess]
  | _, _ :: _, [] => by simp [Op.bytesLess]
  | [], _ :: _, _ :: _ => by simp [Op.bytesLess]
  | a :: x, b :: y, c :: z => by
    have ih := bytesLess_trans x y z
    simp only [Op.bytesLess, Bool.or_eq_true, Bool.and_eq_true, decide_eq_true_eq, beq_iff_eq, UInt8.lt_iff_toNat_lt]
    rintro (h | ⟨h, h2⟩) (k | ⟨k, k2⟩)
    · exact .inl (by omega)
    · subst k; exact .inl h
    · subst h; exact .inl k
    · subst h; subst k; exact .inr ⟨rfl, ih h2 k2⟩

theorem toList_data (s : ByteArray) : s.toList = s.data.toList := ByteArray.toList_eq s

theorem toList_inj {a b : ByteArray} (h : a.toList = b.toList) : a = b := by
  rw [toList_data, toList_data] at h
  cases a; cases b; simp_all [Array.toList_inj]

theorem cmpB_zero {a b : ByteArray} : cmpB a b = 0 ↔ a = b := by
  unfold cmpB
  constructor
  · intro h
    by_cases h1 : Op.bytesLess a.toList b.toList = true
    · simp [h1] at h
    · by_cases h2 : (a.toList == b.toList) = true
      · exact toList_inj (by simpa using h2)
      · simp [h1, h2] at h
  · rintro rfl
    simp [bytesLess_irrefl]
theorem cmpB_cases (a b : ByteArray) : cmpB a b = -1 ∨ cmpB a b = 0 ∨ cmpB a b = 1 := by unfold cmpB; split <;> (try split) <;> simp
theorem cmpB_neg (a b : ByteArray) : cmpB b a = - cmpB a b := by
  by_cases h : a = b
  · subst h; rw [cmpB_zero.2 rfl]; rfl
  · have hn : ¬ a.toList = b.toList := fun e => h (toList_inj e)
    have hn' : ¬ b.toList = a.toList := fun e => hn e.symm
    unfold cmpB
    by_cases h1 : Op.bytesLess a.toList b.toList = true
    · simp [h1, bytesLess_asymm _ _ h1, hn']
    · have h2 : Op.bytesLess b.toList a.toList = true := by
        rcases hb : Op.bytesLess b.toList a.toList with _ | _
        · exact absurd (bytesLess_total _ _ (by simpa using h1) hb) hn
        · rfl
      simp [h1, h2, hn]

theorem cmpL_zero : ∀ {a b : List Int}, cmpL a b = 0 ↔ a = b
  | [], [] => by simp [cmpL]
  | [], _ :: _ => by simp [cmpL]
  | _ :: _, [] => by simp [cmpL]
  | a :: x, b :: y => by
    unfold cmpL
    by_cases h : cmpI a b = 0
    · rw [if_pos h, cmpL_zero, cmpI_zero.1 h]; simp
    · rw [if_neg h]; simp only [List.cons.injEq]; exact ⟨fun e => absurd e h, fun e => absurd (cmpI_zero.2 e.1) h⟩
theorem cmpL_cases : ∀ (a b : List Int), cmpL a b = -1 ∨ cmpL a b = 0 ∨ cmpL a b = 1
  | [], [] => by simp [cmpL]
  | [], _ :: _ => by simp [cmpL]
  | _ :: _, [] => by simp [cmpL]
  | a :: x, b :: y => by unfold cmpL; split; exact cmpL_cases x y; exact cmpI_cases a b
theorem cmpL_neg : ∀ (a b : List Int), cmpL b a = - cmpL a b
  | [], [] => by simp [cmpL]
  | [], _ :: _ => by simp [cmpL]
  | _ :: _, [] => by simp [cmpL]
  | a :: x, b :: y => by
    unfold cmpL
    rw [cmpI_neg a b, cmpL_neg x y]
    by_cases h : cmpI a b = 0 <;> simp [h]

theorem orI_nil : orI [] = 0 := rfl

/-- What a comparison by parts needs of each part: three answers, and the signs turn with the sides. -/
theorem orI_neg : ∀ (l m : List Int), l.length = m.length → (∀ i, m.getD i 0 = - l.getD i 0) → orI m = - orI l
  | [], [], _, _ => rfl
  | a :: l, b :: m, hl, h => by
    have h0 : b = -a := by simpa using h 0
    unfold orI
    rw [orI_neg l m (by simpa using hl) (fun i => by simpa using h (i + 1)), h0]
    by_cases h0 : a = 0 <;> simp [h0]

theorem nodeCmp_neg (a b : Node) : nodeCmp b a = - nodeCmp a b := by
  unfold nodeCmp
  refine orI_neg _ _ rfl (fun i => ?_)
  match i with
  | 0 => exact cmpI_neg _ _
  | 1 => exact cmpI_neg _ _
  | 2 => exact cmpI_neg _ _
  | 3 => exact cmpB_neg _ _
  | 4 => exact cmpI_neg _ _
  | 5 => exact cmpL_neg _ _
  | _ + 6 => simp

theorem orI_zero : ∀ (l : List Int), orI l = 0 ↔ ∀ x ∈ l, x = 0
  | [] => by simp [orI]
  | a :: l => by
    unfold orI
    by_cases h : a = 0
    · simp [h, orI_zero l]
    · simp [h]
theorem orI_cases : ∀ (l : List Int), (∀ x ∈ l, x = -1 ∨ x = 0 ∨ x = 1) → orI l = -1 ∨ orI l = 0 ∨ orI l = 1
  | [], _ => by simp [orI]
  | a :: l, h => by
    unfold orI
    split
    · exact orI_cases l (fun x hx => h x (by simp [hx]))
    · exact h a (by simp)

theorem node_ext {a b : Node} (h1 : a.op = b.op) (h2 : a.width = b.width) (h3 : a.val = b.val) (h4 : a.name = b.name) (h5 : a.args = b.args) : a = b := by
  cases a; cases b; simp_all

theorem nodeCmp_zero {a b : Node} : nodeCmp a b = 0 ↔ a = b := by
  unfold nodeCmp
  rw [orI_zero]
  simp only [List.mem_cons, List.not_mem_nil, or_false, forall_eq_or_imp, forall_eq, cmpI_zero, cmpB_zero, cmpL_zero]
  exact ⟨fun ⟨h1, h2, h3, h4, _, h5⟩ => node_ext h1 h2 h3 h4 h5, by rintro rfl; simp⟩
theorem nodeCmp_cases (a b : Node) : nodeCmp a b = -1 ∨ nodeCmp a b = 0 ∨ nodeCmp a b = 1 := by
  refine orI_cases _ fun x hx => ?_
  simp only [List.mem_cons, List.not_mem_nil, or_false] at hx
  rcases hx with rfl | rfl | rfl | rfl | rfl | rfl
  · exact cmpI_cases _ _
  · exact cmpI_cases _ _
  · exact cmpI_cases _ _
  · exact cmpB_cases _ _
  · exact cmpI_cases _ _
  · exact cmpL_cases _ _

/-- less or equal, by parts, is transitive: a strict step anywhere stays strict. -/
def LeT (x y z : Int) : Prop := x ≤ 0 → y ≤ 0 → z ≤ 0 ∧ (x < 0 ∨ y < 0 → z < 0)

theorem tr_core {p q r p' q' r' : Int} (h : LeT p q r) (hz : p = 0 → q = 0 → r = 0) (ih : LeT p' q' r') : LeT (if p = 0 then p' else p) (if q = 0 then q' else q) (if r = 0 then r' else r) := by
  intro h1 h2
  by_cases hp : p = 0 <;> by_cases hq : q = 0
  · rw [if_pos hp] at h1 ⊢; rw [if_pos hq] at h2 ⊢; rw [if_pos (hz hp hq)]; exact ih h1 h2
  all_goals
    simp only [hp, hq, if_true, if_false] at h1 h2 ⊢
    obtain ⟨h3, h4⟩ := h (by omega) (by omega)
    have h5 := h4 (by omega)
    rw [if_neg (by omega)]
    exact ⟨by omega, fun _ => h5⟩
theorem cmpI_tr (a b c : Int) : LeT (cmpI a b) (cmpI b c) (cmpI a c) := by
  unfold LeT cmpI; split <;> (try split) <;> split <;> (try split) <;> (try split) <;> (try split) <;> omega
theorem cmpB_lt {a b : ByteArray} : cmpB a b < 0 ↔ Op.bytesLess a.toList b.toList = true := by
  unfold cmpB; split <;> (try split) <;> simp_all
theorem cmpB_le {a b : ByteArray} : cmpB a b ≤ 0 ↔ (Op.bytesLess a.toList b.toList = true ∨ a = b) := by
  constructor
  · intro h
    rcases cmpB_cases a b with e | e | e
    · exact .inl (cmpB_lt.1 (by omega))
    · exact .inr (cmpB_zero.1 e)
    · omega
  · rintro (h | rfl)
    · have := cmpB_lt.2 h; omega
    · rw [cmpB_zero.2 rfl]; omega
theorem cmpB_tr (a b c : ByteArray) : LeT (cmpB a b) (cmpB b c) (cmpB a c) := by
  intro h1 h2
  rcases cmpB_le.1 h1 with h1' | rfl
  · rcases cmpB_le.1 h2 with h2' | rfl
    · have := cmpB_lt.2 (bytesLess_trans _ _ _ h1' h2'); exact ⟨by omega, fun _ => this⟩
    · have := cmpB_lt.2 h1'; exact ⟨by omega, fun _ => this⟩
  · refine ⟨h2, fun h => ?_⟩
    rw [cmpB_zero.2 rfl] at h; omega
theorem cmpL_tr : ∀ (a b c : List Int), LeT (cmpL a b) (cmpL b c) (cmpL a c)
  | [], [], [] => by simp [LeT, cmpL]
  | [], [], _ :: _ => by simp [LeT, cmpL]
  | [], _ :: _, [] => by simp [LeT, cmpL]
  | [], _ :: _, _ :: _ => by simp [LeT, cmpL]
  | _ :: _, [], _ => by simp [LeT, cmpL]
  | _ :: _, _ :: _, [] => by simp [LeT, cmpL]
  | a :: x, b :: y, c :: z => by
    have ih := cmpL_tr x y z
    have h := cmpI_tr a b c
    have hz : cmpI a b = 0 → cmpI b c = 0 → cmpI a c = 0 := fun e1 e2 => cmpI_zero.2 ((cmpI_zero.1 e1).trans (cmpI_zero.1 e2))
    unfold cmpL
    exact tr_core h hz ih

theorem orI_tr : ∀ (l m n : List Int), l.length = m.length → m.length = n.length → (∀ i, LeT (l.getD i 0) (m.getD i 0) (n.getD i 0)) → (∀ i, l.getD i 0 = 0 → m.getD i 0 = 0 → n.getD i 0 = 0) → LeT (orI l) (orI m) (orI n)
  | [], [], [], _, _, _, _ => by simp [LeT, orI]
  | a :: l, b :: m, c :: n, h1, h2, h, hz => by
    have ih := orI_tr l m n (by simpa using h1) (by simpa using h2) (fun i => by simpa using h (i + 1)) (fun i => by simpa using hz (i + 1))
    have h0 : LeT a b c := by simpa using h 0
    have z0 : a = 0 → b = 0 → c = 0 := by simpa using hz 0
    unfold orI
    exact tr_core h0 z0 ih

theorem nodeCmp_tr (a b c : Node) : LeT (nodeCmp a b) (nodeCmp b c) (nodeCmp a c) := by
  unfold nodeCmp
  refine orI_tr _ _ _ rfl rfl (fun i => ?_) (fun i => ?_)
  · match i with
    | 0 => exact cmpI_tr _ _ _
    | 1 => exact cmpI_tr _ _ _
    | 2 => exact cmpI_tr _ _ _
    | 3 => exact cmpB_tr _ _ _
    | 4 => exact cmpI_tr _ _ _
    | 5 => exact cmpL_tr _ _ _
    | _ + 6 => simp [LeT]
  · match i with
    | 0 => simp only [List.getD_cons_zero, cmpI_zero]; exact fun h k => h.trans k
    | 1 => simp only [List.getD_cons_zero, List.getD_cons_succ, cmpI_zero]; exact fun h k => h.trans k
    | 2 => simp only [List.getD_cons_zero, List.getD_cons_succ, cmpI_zero]; exact fun h k => h.trans k
    | 3 => simp only [List.getD_cons_zero, List.getD_cons_succ, cmpB_zero]; exact fun h k => h.trans k
    | 4 => simp only [List.getD_cons_zero, List.getD_cons_succ, cmpI_zero]; exact fun h k => h.trans k
    | 5 => simp only [List.getD_cons_zero, List.getD_cons_succ, cmpL_zero]; exact fun h k => h.trans k
    | _ + 6 => simp

end Go.Proofs.YtndfncaoejbkiaaGreatDoor
end
section
/- The walks of the comparing functions: cmp.Compare, cmp.Or, slices.Compare, hashcons.Compare, hashcons.Same, and of the reference. -/
namespace Go.Proofs.YtndfncaoejbkiaaGreatDoor
open Go.RowKit

theorem orI_take (l : List Int) : ∀ k, k ≤ l.length → (∀ i, i < k → l.getD i 0 = 0) → orI l = orI (l.drop k) := by
  intro k
  induction k with
  | zero => intro _ _; rfl
  | succ k ih =>
    intro hk h
    rw [ih (by omega) (fun i hi => h i (by omega))]
    have hd : l.drop k = l[k] :: l.drop (k + 1) := List.drop_eq_getElem_cons (by omega)
    have h0 := h k (by omega)
    rw [List.getD_eq_getElem?_getD, List.getElem?_eq_getElem (by omega)] at h0
    rw [hd, orI, if_pos (by simpa using h0)]

theorem getD_eq {l : List Int} {k : Nat} (h : k < l.length) : l.getD k 0 = l[k] := by
  rw [List.getD_eq_getElem?_getD, List.getElem?_eq_getElem h]; rfl

theorem cmpL_take : ∀ (l m : List Int) (k : Nat), k ≤ l.length → k ≤ m.length → (∀ i, i < k → cmpI (l.getD i 0) (m.getD i 0) = 0) → cmpL l m = cmpL (l.drop k) (m.drop k)
  | l, m, 0, _, _, _ => rfl
  | a :: l, b :: m, k + 1, hl, hm, h => by
    have h0 : cmpI a b = 0 := by simpa using h 0 (by omega)
    rw [cmpL, if_pos h0, List.drop_succ_cons, List.drop_succ_cons]
    exact cmpL_take l m k (by simpa using hl) (by simpa using hm) (fun i hi => by simpa using h (i + 1) (by omega))

end Go.Proofs.YtndfncaoejbkiaaGreatDoor
end
section
/- The walks of hashcons.Compare and Same, and of the reference's Compare and Same. -/
namespace Go.Proofs.YtndfncaoejbkiaaGreatDoor
open Go.RowKit

theorem region_tail {P : Program} {id : Nat} {Q : Exit → Act → World → Prop} {a : Act} {w : World} {l : List Oper} (n : Nat) (hm : P.follows .mixedOrders = true) (hB : Region.lexTailB .any l.toArray n = true)
    (h : wpStill P l.toArray w.drew (fun a' => wpList P l.toArray Q (l.drop n) a' w.drew) (l.take n) a) : (Code.region id l.toArray true).wp P Q a w := wp_region_still_tail n hm hB h

theorem region_still {P : Program} {id : Nat} {Q : Exit → Act → World → Prop} {a : Act} {w : World} {l : List Oper} (hm : P.follows .mixedOrders = true) (hB : Region.lexB .any l.toArray = true)
    (h : wpStill P l.toArray w.drew (fun a' => Q .normal a' w.drew) l a) : (Code.region id l.toArray true).wp P Q a w := wp_region_still_lit hm hB h

end Go.Proofs.YtndfncaoejbkiaaGreatDoor
end
section
/- The walks of the reference's Compare and Same of nodes. -/
namespace Go.Proofs.YtndfncaoejbkiaaGreatDoor
open Go.RowKit

def sgnB (x : Bool) : Int := if x = true then -1 else 1

theorem sign_any (x : Bool) (w : World) : Calls Tryz.prog 67 #[.bool x, .bool true] w fun e w' => e = .returned (.int .i64 (sgnB x)) ∧ w' = w := by
  cases x <;>
  · go_enter Tryz.func67, Tryz.ntmps67
    go_wp2
    go_ret
    exact ⟨rfl, rfl⟩

theorem cmpI_of_ne {a b : Int} (h : a ≠ b) : sgnB (decide (a < b)) = cmpI a b := by
  unfold cmpI sgnB
  by_cases h1 : a < b
  · simp [h1]
  · rw [if_neg (by simpa using h1), if_neg h1, if_pos (by omega)]
theorem cmpB_of_ne {a b : ByteArray} (h : (a.toList == b.toList) = false) : sgnB (Op.bytesLess a.toList b.toList) = cmpB a b := by
  unfold cmpB sgnB
  cases Op.bytesLess a.toList b.toList <;> simp [h]

set_option maxRecDepth 100000 in
set_option maxHeartbeats 1000000 in
theorem refCompare_any (M : Nat → Prop) (a b : Node) (v u : Value) (w : World) (h : RdI M w v a.args) (h' : RdI M w u b.args) (hl : a.args.length ≤ 1000000) (_hm : b.args.length ≤ 1000000) :
    Calls Tryz.prog 55 #[nodeV a v, nodeV b u] w fun e w' => e = .returned (.int .i64 (nodeCmp a b)) ∧ Fr NoB w w' := by
  obtain ⟨a1, cap, rfl⟩ := h.form
  obtain ⟨a2, cap', rfl⟩ := h'.form
  have hF : Hid (∀ W, Fr NoB ((w.alloc (.cells (nodeCells a (.slice a1 a.args.length cap)) 44)).alloc (.cells (nodeCells b (.slice a2 b.args.length cap')) 44)) W → Fr NoB w W) := fun W hf => (((Fr.refl NoB w).alloc _).alloc _).step hf
  have HW := hid (show ∀ (W : World), Fr NoB w W → RdI M W (.slice a1 a.args.length cap) a.args ∧ RdI M W (.slice a2 b.args.length cap') b.args from fun W hf => ⟨h.fr hf (fun _ _ h => h.elim), h'.fr hf (fun _ _ h => h.elim)⟩)
  clear h h'
  unfold nodeV
  by_cases e1 : a.op = b.op
  case neg =>
    have b1 : (a.op != b.op) = true := by simpa using e1
    have hr : Hid (sgnB (decide (a.op < b.op)) = nodeCmp a b) := by
      rw [cmpI_of_ne e1, nodeCmp, orI, if_neg (fun h => e1 (cmpI_zero.1 h))]; rfl
    clear e1
    go_enter Tryz.func55, Tryz.ntmps55
    go_wp2_with (go_at_call 67; refine (sign_any _ _).mono ?_; rintro e w' ⟨rfl, rfl⟩)
    go_ret
    exact ⟨ret_int hr.out, ((Fr.refl NoB w).alloc _).alloc _⟩
  have b1 : (a.op != b.op) = false := by simpa using e1
  by_cases e2 : a.width = b.width
  case neg =>
    have b2 : (a.width != b.width) = true := by simpa using e2
    have hr : Hid (sgnB (decide (a.width < b.width)) = nodeCmp a b) := by
      rw [cmpI_of_ne e2, nodeCmp, orI, if_pos (cmpI_zero.2 e1), orI, if_neg (fun h => e2 (cmpI_zero.1 h))]; rfl
    clear e1 e2
    go_enter Tryz.func55, Tryz.ntmps55
    go_wp2_with (go_at_call 67; refine (sign_any _ _).mono ?_; rintro e w' ⟨rfl, rfl⟩)
    go_ret
    exact ⟨ret_int hr.out, ((Fr.refl NoB w).alloc _).alloc _⟩
  have b2 : (a.width != b.width) = false := by simpa using e2
  by_cases e3 : a.val = b.val
  case neg =>
    have b3 : (a.val != b.val) = true := by simpa using e3
    have hr : Hid (sgnB (decide (a.val < b.val)) = nodeCmp a b) := by
      rw [cmpI_of_ne e3, nodeCmp, orI, if_pos (cmpI_zero.2 e1), orI, if_pos (cmpI_zero.2 e2), orI, if_neg (fun h => e3 (cmpI_zero.1 h))]; rfl
    clear e1 e2 e3
    go_enter Tryz.func55, Tryz.ntmps55
    go_wp2_with (go_at_call 67; refine (sign_any _ _).mono ?_; rintro e w' ⟨rfl, rfl⟩)
    go_ret
    exact ⟨ret_int hr.out, ((Fr.refl NoB w).alloc _).alloc _⟩
  have b3 : (a.val != b.val) = false := by simpa using e3
  by_cases e4 : a.name = b.name
  case neg =>
    have b4 : (a.name.toList == b.name.toList) = false := by simpa using fun h => e4 (toList_inj h)
    have hr : Hid (sgnB (Op.bytesLess a.name.toList b.name.toList) = nodeCmp a b) := by
      rw [cmpB_of_ne b4, nodeCmp, orI, if_pos (cmpI_zero.2 e1), orI, if_pos (cmpI_zero.2 e2), orI, if_pos (cmpI_zero.2 e3), orI, if_neg (fun h => e4 (cmpB_zero.1 h))]; rfl
    clear e1 e2 e3 e4
    go_enter Tryz.func55, Tryz.ntmps55
    go_wp2_with (go_at_call 67; refine (sign_any _ _).mono ?_; rintro e w' ⟨rfl, rfl⟩)
    go_ret
    exact ⟨ret_int hr.out, ((Fr.refl NoB w).alloc _).alloc _⟩
  have b4 : (a.name.toList == b.name.toList) = true := by simp [e4]
  by_cases e5 : a.args.length = b.args.length
  case neg =>
    have b5 : ((a.args.length : Int) != (b.args.length : Int)) = true := by rw [bne_iff_ne]; omega
    have hr : Hid (sgnB (decide (a.args.length < b.args.length)) = nodeCmp a b) := by
      have := cmpI_of_ne (a := a.args.length) (b := b.args.length) (by omega)
      rw [nodeCmp, orI, if_pos (cmpI_zero.2 e1), orI, if_pos (cmpI_zero.2 e2), orI, if_pos (cmpI_zero.2 e3), orI, if_pos (cmpB_zero.2 e4), orI, if_neg (fun h => e5 (by have := cmpI_zero.1 h; omega)), ← this]
      simp only [Int.ofNat_lt]
      exact trivial
    clear e1 e2 e3 e4 e5
    go_enter Tryz.func55, Tryz.ntmps55
    go_wp2_with (go_at_call 67; refine (sign_any _ _).mono ?_; rintro e w' ⟨rfl, rfl⟩)
    go_ret
    exact ⟨ret_int hr.out, ((Fr.refl NoB w).alloc _).alloc _⟩
  have b5 : ((a.args.length : Int) != (b.args.length : Int)) = false := by rw [bne_eq_false_iff_eq]; omega
  have hr : Hid (cmpL a.args b.args = nodeCmp a b) := by
    rw [nodeCmp, orI, if_pos (cmpI_zero.2 e1), orI, if_pos (cmpI_zero.2 e2), orI, if_pos (cmpI_zero.2 e3), orI, if_pos (cmpB_zero.2 e4), orI, if_pos (cmpI_zero.2 (by omega)), orI]
    split
    · rename_i h; rw [h]; rfl
    · rfl
  have E5 := hid e5
  have q5 : a.args.length ≤ b.args.length := by omega
  have q6 : b.args.length ≤ a.args.length := by omega
  clear e1 e2 e3 e4 e5
  go_enter Tryz.func55, Tryz.ntmps55
  go_wp2
  go_loopw [5] (fun i wr => ∃ k : Nat, k ≤ a.args.length ∧ i = .int .i64 k ∧ (∀ i, i < k → cmpI (a.args.getD i 0) (b.args.getD i 0) = 0) ∧
    wr.cell? ⟨w.heap.size, 4, none⟩ = some (.slice a1 a.args.length cap) ∧ wr.cell? ⟨w.heap.size + 1, 4, none⟩ = some (.slice a2 b.args.length cap') ∧ Fr NoB w wr) (fun i _ => a.args.length - (intOf i).toNat)
  case atStart => exact ⟨0, Nat.zero_le _, rfl, fun _ h => by omega, by simp, by simp, ((Fr.refl NoB w).alloc _).alloc _⟩
  case round =>
    obtain ⟨k, hk, rfl, hz, c1, c2, hfr⟩ := hrel
    have hz' := hid hz
    clear hz
    obtain ⟨h, h'⟩ := HW.out wr hfr
    have HFR := hid hfr
    clear hfr
    by_cases hlt : k < a.args.length
    · rcases h with ⟨h, h2⟩ | ⟨bb, off, cap2, h, _, _, _, hc⟩
      · rw [h2] at hlt; simp at hlt
      · cases h
        obtain ⟨x, HX, hck⟩ := hc.get hlt
        clear hc
        rcases h' with ⟨h', h2⟩ | ⟨b', off', cap3, h', _, _, _, hc'⟩
        · rw [h2] at q5; simp at q5; rw [q5] at hlt; simp at hlt
        · cases h'
          obtain ⟨y, HY, hck'⟩ := hc'.get (i := k) (by omega)
          clear hc'
          have hltb : k < b.args.length := by omega
          by_cases h0 : x = y
          · have hb : (x != y) = false := by simpa using h0
            have H0 := hid h0
            clear h0
            go_wp2
            refine region_still (by kernel_rfl) (by kernel_rfl) ?_
            repeat still_step
            refine wpStill_nil ?_
            go_wp2
            go_roundw
            case rel => exact ⟨k + 1, by omega, by go_num, fun i hi => by
              by_cases e : i = k
              · subst e; rw [HX.out, HY.out]; exact cmpI_zero.2 H0.out
              · exact hz' i (by omega), c1, c2, HFR.out.drew⟩
            case measure => simp [intOf]; omega
          · have hb : (x != y) = true := by simpa using h0
            have H0 := hid h0
            clear h0
            go_wp2
            refine region_still (by kernel_rfl) (by kernel_rfl) ?_
            repeat still_step
            refine wpStill_nil ?_
            go_wp2
            refine region_still (by kernel_rfl) (by kernel_rfl) ?_
            repeat (first | still_step | still_call (sign_any _ _))
            refine wpStill_nil ?_
            go_wp2
            go_ret
            refine ⟨ret_int ?_, HFR.out.drew.drew⟩
            rw [← hr.out, cmpL_take a.args b.args k hk (by omega) hz', List.drop_eq_getElem_cons hlt, List.drop_eq_getElem_cons hltb, cmpL, ← getD_eq hlt, ← getD_eq hltb, HX.out, HY.out, if_neg (fun h => H0.out (cmpI_zero.1 h)), ← cmpI_of_ne H0.out]
    · go_wp2
      go_ret
      refine ⟨ret_int ?_, HFR.out⟩
      rw [← hr.out, cmpL_take a.args b.args k hk (by omega) hz', List.drop_of_length_le (l := a.args) (by omega), List.drop_of_length_le (l := b.args) (by omega)]; rfl

end Go.Proofs.YtndfncaoejbkiaaGreatDoor
end
