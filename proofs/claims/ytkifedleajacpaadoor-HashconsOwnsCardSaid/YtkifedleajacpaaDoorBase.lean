/- Plain words for the proofs of this seat: frames, slices of integers as they read. No program in sight. -/
import Derived.WalkKit
import Derived.WalkSpells
import Derived.WalkLawsBesides
import Derived.Below
import Derived.OwnWalk
import Derived.Laws.AppendOwnNone
namespace Go.Proofs.YtkifedleajacpaaDoor
open Go.RowKit

/-- All blocks of w outside M are in w' as they were; the streams are as they were. -/
structure Fr (M : Nat → Prop) (w w' : World) : Prop where
  os : w'.os = w.os
  tape : w'.tape = w.tape
  output : w'.output = w.output
  size : w.heap.size ≤ w'.heap.size
  block : ∀ k, k < w.heap.size → ¬ M k → w'.heap[k]? = w.heap[k]?

def NoB : Nat → Prop := fun _ => False

theorem Fr.refl (M : Nat → Prop) (w : World) : Fr M w w := ⟨rfl, rfl, rfl, Nat.le_refl _, fun _ _ _ => rfl⟩
theorem Fr.mono {M M' : Nat → Prop} {w w' : World} (h : Fr M w w') (hm : ∀ k, k < w.heap.size → M k → M' k) : Fr M' w w' :=
  ⟨h.os, h.tape, h.output, h.size, fun k hk hn => h.block k hk (fun hm' => hn (hm k hk hm'))⟩
theorem Fr.trans' {M M' : Nat → Prop} {a b c : World} (h : Fr M a b) (h' : Fr M' b c) (hm : ∀ k, k < a.heap.size → M' k → M k) : Fr M a c :=
  ⟨h'.os.trans h.os, h'.tape.trans h.tape, h'.output.trans h.output, Nat.le_trans h.size h'.size,
    fun k hk hn => (h'.block k (Nat.lt_of_lt_of_le hk h.size) (fun hm' => hn (hm k hk hm'))).trans (h.block k hk hn)⟩
theorem Fr.trans {M : Nat → Prop} {a b c : World} (h : Fr M a b) (h' : Fr M b c) : Fr M a c := h.trans' h' (fun _ _ h => h)
theorem Fr.step {M : Nat → Prop} {a b c : World} (h : Fr M a b) (h' : Fr NoB b c) : Fr M a c := h.trans' h' (fun _ _ h => h.elim)
theorem Fr.of_below {w w' : World} (h : Below w.heap.size w w') : Fr NoB w w' := ⟨h.os, h.tape, h.output, h.size, fun k hk _ => h.block k hk⟩
theorem Fr.below {w w' : World} (h : Fr NoB w w') : Below w.heap.size w w' := ⟨h.os, h.tape, h.output, h.size, fun k hk => h.block k hk (fun h => h)⟩
theorem Fr.below' {M : Nat → Prop} {w w' : World} (h : Fr M w w') {B : Nat} (hB : B ≤ w.heap.size) (hM : ∀ k, M k → B ≤ k) : Below B w w' :=
  ⟨h.os, h.tape, h.output, h.size, fun k hk => h.block k (Nat.lt_of_lt_of_le hk hB) (fun hm => by have := hM k hm; omega)⟩
theorem Fr.drew {M : Nat → Prop} {a w : World} (h : Fr M a w) : Fr M a w.drew := ⟨h.os, h.tape, h.output, h.size, h.block⟩
theorem Fr.drewN {M : Nat → Prop} {a w : World} (h : Fr M a w) (n : Nat) : Fr M a (w.drewN n) := ⟨h.os, h.tape, h.output, h.size, h.block⟩
theorem Fr.alloc {M : Nat → Prop} {a w : World} (h : Fr M a w) (o : Obj) : Fr M a (w.alloc o) :=
  h.step ⟨rfl, rfl, rfl, by simp, fun k hk _ => Below.heap_alloc _ _ _ hk⟩
theorem Fr.setCell {M : Nat → Prop} {a w : World} (h : Fr M a w) {p : Addr} (hp : p.block < a.heap.size → M p.block) (u : Value) : Fr M a (w.setCell p u) :=
  h.trans' (M' := fun k => k = p.block) ⟨rfl, rfl, rfl, by simp [World.setCell], fun k _ hk => Below.heap_setCell _ _ _ _ hk⟩ (fun k hk e => by cases e; exact hp hk)
theorem Fr.grown {M : Nat → Prop} {a w w' : World} {row : Option Nat} (h : Fr M a w) (hg : w.grownBy w' row) (hr : ∀ k, row = some k → k < a.heap.size → M k) : Fr M a w' :=
  h.trans' (M' := fun k => some k = row) ⟨hg.os, hg.tape, hg.output, hg.size, fun k hk hn => hg.block k hk hn⟩ (fun k hk e => hr k e.symm hk)
theorem Fr.cell {M : Nat → Prop} {w w' : World} (h : Fr M w w') {p : Addr} (hp : p.block < w.heap.size) (hm : ¬ M p.block) : w'.cell? p = w.cell? p :=
  World.cell?_of_block (w := w) (h.block p.block hp hm)
theorem Fr.frozen {M : Nat → Prop} {w w' : World} (h : Fr M w w') {p : Addr} (hp : p.block < w.heap.size) (hm : ¬ M p.block) : w'.frozen? p = w.frozen? p :=
  World.frozen?_of_block (w := w) (h.block p.block hp hm)
/-- Every cell and every mark below the old size reads as before: two rules for the walk. -/
theorem Fr.cells {w w' : World} (h : Fr NoB w w') : (∀ b o, b < w.heap.size → w'.cell? ⟨b, o, none⟩ = w.cell? ⟨b, o, none⟩) ∧ (∀ b o, b < w.heap.size → w'.frozen? ⟨b, o, none⟩ = w.frozen? ⟨b, o, none⟩) :=
  ⟨fun _ _ hb => h.cell (p := ⟨_, _, none⟩) hb (fun h => h), fun _ _ hb => h.frozen (p := ⟨_, _, none⟩) hb (fun h => h)⟩

theorem Fr.c {M : Nat → Prop} {W w1 : World} (hf : Fr M W w1) {b o : Nat} {v : Value} (hb : b < W.heap.size) (hm : ¬ M b) (h : W.cell? ⟨b, o, none⟩ = some v) : w1.cell? ⟨b, o, none⟩ = some v :=
  (hf.cell (p := ⟨b, o, none⟩) hb hm).trans h
theorem five_of {w1 : World} {b : Nat} {x0 x1 x2 x3 x4 : Value} {e : TypeId} (h1 : w1.heap[b]? = some (.cells #[x0, x1, x2, x3, x4] e (0, 0))) :
    w1.cell? ⟨b, 0, none⟩ = some x0 ∧ w1.cell? ⟨b, 1, none⟩ = some x1 ∧ w1.cell? ⟨b, 2, none⟩ = some x2 ∧ w1.cell? ⟨b, 3, none⟩ = some x3 ∧ w1.cell? ⟨b, 4, none⟩ = some x4 ∧ (∀ o, w1.frozen? ⟨b, o, none⟩ = false) ∧ b < w1.heap.size :=
  ⟨by simp [World.cell?, h1], by simp [World.cell?, h1], by simp [World.cell?, h1], by simp [World.cell?, h1], by simp [World.cell?, h1], fun o => by simp [World.frozen?, h1], (Array.getElem?_eq_some_iff.1 h1).1⟩
theorem six_of {w1 : World} {b : Nat} {x0 x1 x2 x3 x4 x5 : Value} {e : TypeId} (h1 : w1.heap[b]? = some (.cells #[x0, x1, x2, x3, x4, x5] e (0, 0))) :
    w1.cell? ⟨b, 0, none⟩ = some x0 ∧ w1.cell? ⟨b, 1, none⟩ = some x1 ∧ w1.cell? ⟨b, 2, none⟩ = some x2 ∧ w1.cell? ⟨b, 3, none⟩ = some x3 ∧ w1.cell? ⟨b, 4, none⟩ = some x4 ∧ w1.cell? ⟨b, 5, none⟩ = some x5 ∧ (∀ o, w1.frozen? ⟨b, o, none⟩ = false) ∧ b < w1.heap.size :=
  ⟨by simp [World.cell?, h1], by simp [World.cell?, h1], by simp [World.cell?, h1], by simp [World.cell?, h1], by simp [World.cell?, h1], by simp [World.cell?, h1], fun o => by simp [World.frozen?, h1], (Array.getElem?_eq_some_iff.1 h1).1⟩
theorem Fr.at {M : Nat → Prop} {W w1 : World} (hf : Fr M W w1) {b : Nat} {x : Obj} (hm : ¬ M b) (h : W.heap[b]? = some x) : w1.heap[b]? = some x :=
  (hf.block b (Array.getElem?_eq_some_iff.1 h).1 hm).trans h
theorem set_at {w : World} {b : Nat} {cs : Array Value} {e : TypeId} (h : w.heap[b]? = some (.cells cs e (0, 0))) (j : Nat) (u : Value) : (w.setCell ⟨b, j, none⟩ u).heap[b]? = some (.cells (cs.setIfInBounds j u) e (0, 0)) :=
  heap_setCell_same w b j cs e u h
theorem set_other {w : World} {b : Nat} {x : Obj} (h : w.heap[b]? = some x) {p : Addr} (hp : b ≠ p.block) (u : Value) : (w.setCell p u).heap[b]? = some x := (Below.heap_setCell _ _ _ _ hp).trans h
/-- The five cells of a block, and that it is not frozen, in a later world. -/
theorem Fr.five {M : Nat → Prop} {W w1 : World} (hf : Fr M W w1) {b : Nat} {x0 x1 x2 x3 x4 : Value} {e : TypeId} (hm : ¬ M b) (h : W.heap[b]? = some (.cells #[x0, x1, x2, x3, x4] e (0, 0))) :
    w1.cell? ⟨b, 0, none⟩ = some x0 ∧ w1.cell? ⟨b, 1, none⟩ = some x1 ∧ w1.cell? ⟨b, 2, none⟩ = some x2 ∧ w1.cell? ⟨b, 3, none⟩ = some x3 ∧ w1.cell? ⟨b, 4, none⟩ = some x4 ∧ (∀ o, w1.frozen? ⟨b, o, none⟩ = false) ∧ b < w1.heap.size := by
  have hb := (Array.getElem?_eq_some_iff.1 h).1
  have h1 : w1.heap[b]? = some (.cells #[x0, x1, x2, x3, x4] e (0, 0)) := (hf.block b hb hm).trans h
  exact ⟨by simp [World.cell?, h1], by simp [World.cell?, h1], by simp [World.cell?, h1], by simp [World.cell?, h1], by simp [World.cell?, h1], fun o => by simp [World.frozen?, h1], (Array.getElem?_eq_some_iff.1 h1).1⟩
theorem at_new (w : World) (o : Obj) : (w.alloc o).heap[w.heap.size]? = some o := heap_alloc_new w o
theorem at_new' {w : World} {o : Obj} {b : Nat} (h : b = w.heap.size) : (w.alloc o).heap[b]? = some o := by subst h; exact heap_alloc_new w o
theorem at_new_d {w : World} {o : Obj} {b : Nat} (h : b = w.heap.size) : (w.alloc o).drew.heap[b]? = some o := at_new' h
theorem at_old {w : World} {b : Nat} {x : Obj} (h : w.heap[b]? = some x) (o : Obj) : (w.alloc o).heap[b]? = some x := (Below.heap_alloc w o b (Array.getElem?_eq_some_iff.1 h).1).trans h

theorem ret_int {k : IntKind} {a b : Int} (h : a = b) : Ending.returned (.int k a) = .returned (.int k b) := by rw [h]
theorem ret_bool {a b : Bool} (h : a = b) : Ending.returned (.bool a) = .returned (.bool b) := by rw [h]

/-- The integers l lie from cell off of block b on. -/
def IntsAt (w : World) (b off : Nat) (l : List Int) : Prop := ∀ i, i < l.length → w.cell? ⟨b, off + i, none⟩ = some (.int .i64 (l.getD i 0))

/-- The slice v reads as the integers l; its block, if it has one, is in no way among M. -/
def RdI (M : Nat → Prop) (w : World) (v : Value) (l : List Int) : Prop :=
  ((∃ a cap, v = .slice a 0 cap ∧ (a = none → cap = 0)) ∧ l = []) ∨ ∃ b off cap, v = .slice (some ⟨b, off, none⟩) l.length cap ∧ b < w.heap.size ∧ ¬ M b ∧ l.length ≤ cap ∧ IntsAt w b off l

theorem hid {p : Prop} (h : p) : Hid p := h
theorem IntsAt.get {w : World} {b off : Nat} {l : List Int} (h : IntsAt w b off l) {i : Nat} (hi : i < l.length) : ∃ x, Hid (l.getD i 0 = x) ∧ w.cell? ⟨b, off + i, none⟩ = some (.int .i64 x) := ⟨_, rfl, h i hi⟩
theorem IntsAt.fr {M : Nat → Prop} {w w' : World} {b off : Nat} {l : List Int} (h : IntsAt w b off l) (hf : Fr M w w') (hb : b < w.heap.size) (hm : ¬ M b) : IntsAt w' b off l :=
  fun i hi => by rw [hf.cell (p := ⟨b, off + i, none⟩) hb hm]; exact h i hi

theorem RdI.fr {N M : Nat → Prop} {w w' : World} {v : Value} {l : List Int} (h : RdI N w v l) (hf : Fr M w w') (hm : ∀ k, k < w.heap.size → M k → N k) : RdI N w' v l := by
  rcases h with h | ⟨b, off, cap, h1, h2, h3, h4, h5⟩
  · exact .inl h
  · exact .inr ⟨b, off, cap, h1, Nat.lt_of_lt_of_le h2 hf.size, h3, h4, h5.fr hf h2 (fun h => h3 (hm b h2 h))⟩

theorem RdI.weaken {N M : Nat → Prop} {w : World} {v : Value} {l : List Int} (h : RdI N w v l) (hm : ∀ k, k < w.heap.size → M k → N k) : RdI M w v l := by
  rcases h with h | ⟨b, off, cap, h1, h2, h3, h4⟩
  · exact .inl h
  · exact .inr ⟨b, off, cap, h1, h2, fun h => h3 (hm b h2 h), h4⟩

theorem RdI.form {M : Nat → Prop} {w : World} {v : Value} {l : List Int} (h : RdI M w v l) : ∃ a cap, v = .slice a l.length cap := by
  rcases h with ⟨⟨a, cap, h, _⟩, rfl⟩ | ⟨b, off, cap, h, _⟩
  · exact ⟨a, cap, h⟩
  · exact ⟨_, cap, h⟩

/-- An owned row of integers reads as they are. -/
theorem rdI_of_owns {M : Nat → Prop} {w : World} {base n : Nat} {v : Value} {l : List Int} (h : w.ownsRow base 3 1 v n (l.map (Value.int .i64))) (hM : ∀ k, base ≤ k → ¬ M k) : RdI M w v l := by
  have hl : l.length = n := by have := h.1; simpa using this
  rcases h.2 with ⟨rfl, rfl⟩ | ⟨g, cap, cur, rfl, hb, hg, hn, hc, hs, ht⟩
  · exact .inl ⟨⟨none, 0, rfl, fun _ => rfl⟩, List.eq_nil_of_length_eq_zero hl⟩
  · refine .inr ⟨g, 0, cap, by rw [hl], (Array.getElem?_eq_some_iff.1 hg).1, hM g hb, by omega, fun i hi => ?_⟩
    have h2 := h.cellAt (j := i) (by omega)
    rw [Nat.zero_add, h2, List.getElem?_map, List.getD_eq_getElem?_getD, List.getElem?_eq_getElem hi]
    rfl

theorem RdI.drew {M : Nat → Prop} {w : World} {v : Value} {l : List Int} (h : RdI M w v l) : RdI M w.drew v l := h
theorem rdI_lit {M : Nat → Prop} (w : World) (e : TypeId) (l : List Int) (b : Nat) (hb : b = w.heap.size) (hM : ¬ M b) : RdI M (w.alloc (.cells (l.map (Value.int .i64)).toArray e)) (.slice (some ⟨b, 0, none⟩) l.length l.length) l := by
  subst hb
  refine .inr ⟨w.heap.size, 0, l.length, rfl, by simp, hM, Nat.le_refl _, fun i hi => ?_⟩
  rw [Nat.zero_add, cell_of_row (w.alloc _) w.heap.size i _ e (0, 0) (heap_alloc_new w _), List.getElem?_toArray, List.getElem?_map, List.getD_eq_getElem?_getD, List.getElem?_eq_getElem hi]
  rfl

theorem rdI_lit' {M : Nat → Prop} {w : World} {e : TypeId} {l : List Int} {b n : Nat} {cs : Array Value} (hcs : cs = (l.map (Value.int .i64)).toArray) (hn : n = l.length) (hb : b = w.heap.size) (hM : ¬ M b) : RdI M (w.alloc (.cells cs e)) (.slice (some ⟨b, 0, none⟩) n n) l := by
  subst hcs; subst hn; exact rdI_lit w e l b hb hM

/-- A node. -/
structure Node where
  op : Int
  width : Int
  val : Int
  name : ByteArray
  args : List Int

abbrev nodeCells (n : Node) (s : Value) : Array Value := #[.int .i64 n.op, .int .i64 n.width, .int .u64 n.val, .string n.name, s]
abbrev nodeV (n : Node) (s : Value) : Value := .agg #[.int .i64 n.op, .int .i64 n.width, .int .u64 n.val, .string n.name, s]

end Go.Proofs.YtkifedleajacpaaDoor
