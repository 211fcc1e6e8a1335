/- Slices of integers that a call has made: the word OwnI, and the law of append for them, at this program. -/
import Derived.Test.YtkifedleajacpaaDoorProg
import Derived.Test.YtkifedleajacpaaDoorBase
namespace Go.Proofs.YtkifedleajacpaaDoor
open Go.RowKit

/-- v is nil, or a row of blocks from B on that holds just the integers l. -/
def OwnI (B : Nat) (w : World) (v : Value) (l : List Int) : Prop := w.ownsRow B 3 1 v l.length (l.map (Value.int .i64))

theorem infoInt : (Tryd.prog.info? 3).map (fun i => (i.zero, i.size, i.bytes)) = some (some (.int .i64 0), 1, 8) := by kernel_rfl

theorem eqlNilI (w : World) (a : Option Addr) (n c : Nat) : (binOp .eql 24 (.slice a n c) (.slice none 0 0)).run Tryd.prog w = .ok (.bool a.isNone) w :=
  Lib.run_eql_slice_nil (P := Tryd.prog) w 24 3 a n c 0 0 Tryd.underlying24

theorem neqNilFn0 (w : World) : (binOp .neq 34 .nilFunc .nilFunc).run Tryd.prog w = .ok (.bool false) w := by kernel_rfl
theorem neqNilFn1 (w : World) (f : Fn) (x y : Array Value) : (binOp .neq 34 (.func f x y) .nilFunc).run Tryd.prog w = .ok (.bool true) w := by kernel_rfl

theorem OwnI.rd {B : Nat} {M : Nat → Prop} {w : World} {v : Value} {l : List Int} (h : OwnI B w v l) (hM : ∀ k, B ≤ k → ¬ M k) : RdI M w v l := rdI_of_owns h hM
theorem OwnI.nil (B : Nat) (w : World) : OwnI B w (.slice none 0 0) [] := World.ownsRow_nil w B _ 1
theorem OwnI.form {B : Nat} {w : World} {v : Value} {l : List Int} (h : OwnI B w v l) : ∃ a cap, v = .slice a l.length cap := by
  rcases h.2 with ⟨h, hl⟩ | ⟨g, cap, cur, h, _⟩
  · exact ⟨none, 0, by rw [hl]; exact h⟩
  · exact ⟨_, cap, h⟩
/-- Its form: nil, or the head of a block from B on. -/
theorem OwnI.form' {B : Nat} {w : World} {v : Value} {l : List Int} (h : OwnI B w v l) : (v = .slice none 0 0 ∧ l = []) ∨ ∃ g cap, v = .slice (some ⟨g, 0, none⟩) l.length cap ∧ B ≤ g ∧ g < w.heap.size ∧ l.length ≤ cap := by
  rcases h.2 with ⟨h, hl⟩ | ⟨g, cap, cur, h, hb, hg, hn, _⟩
  · exact .inl ⟨h, List.eq_nil_of_length_eq_zero hl⟩
  · exact .inr ⟨g, cap, h, hb, (Array.getElem?_eq_some_iff.1 hg).1, hn⟩
theorem OwnI.drew {B : Nat} {w : World} {v : Value} {l : List Int} (h : OwnI B w v l) : OwnI B w.drew v l := h
theorem OwnI.base {B B' : Nat} {w : World} {v : Value} {l : List Int} (h : OwnI B w v l) (hB : B' ≤ B) : OwnI B' w v l := by
  refine ⟨h.1, ?_⟩
  rcases h.2 with h2 | ⟨g, cap, cur, h1, hb, r⟩
  · exact .inl h2
  · exact .inr ⟨g, cap, cur, h1, Nat.le_trans hB hb, r⟩
/-- An owned row stays while its block is not among those that turn. -/
theorem OwnI.fr {B : Nat} {M : Nat → Prop} {w w' : World} {v : Value} {l : List Int} (h : OwnI B w v l) (hf : Fr M w w') (hm : ∀ k, v.ownBlock = some k → ¬ M k) : OwnI B w' v l := by
  refine ⟨h.1, ?_⟩
  rcases h.2 with h2 | ⟨g, cap, cur, h1, hb, hg, r⟩
  · exact .inl h2
  · refine .inr ⟨g, cap, cur, h1, hb, ?_, r⟩
    rw [hf.block g (Array.getElem?_eq_some_iff.1 hg).1 (hm g (by rw [h1]; rfl))]; exact hg
/-- .. while only blocks below the base turn. -/
theorem OwnI.keep {B B' : Nat} {w w' : World} {v : Value} {l : List Int} (h : OwnI B w v l) (hB : B' ≤ B) (hf : Fr (fun k => k < B) w w') : OwnI B' w' v l := by
  refine (h.fr hf (fun k hk => ?_)).base hB
  have := (World.ownsRow.lt h k hk).1
  omega
theorem OwnI.lit (B : Nat) (w : World) (l : List Int) (hB : B ≤ w.heap.size) (hl : l.length ≤ 17592186044416) : OwnI B (w.alloc (.cells (l.map (Value.int .i64)).toArray 3)) (.slice (some ⟨w.heap.size, 0, none⟩) l.length l.length) l := by
  have h := World.ownsRow_lit (base := B) (e := 3) (size := 1) w (l.map (Value.int .i64)).toArray l.length hB (by unfold maxLen; omega) (by simp)
  simpa [OwnI] using h

theorem OwnI.cell {B : Nat} {w : World} {g cap : Nat} {l : List Int} {n : Nat} (h : OwnI B w (.slice (some ⟨g, 0, none⟩) n cap) l) {i : Nat} (hi : i < l.length) : w.cell? ⟨g, i, none⟩ = some (.int .i64 (l.getD i 0)) := by
  have hn : n = l.length := by
    rcases h.2 with ⟨h2, _⟩ | ⟨g', cap', cur, h1, _⟩
    · cases h2
    · cases h1; rfl
  subst hn
  have h2 := World.ownsRow.cellAt h (j := i) (by omega)
  rw [h2, List.getElem?_map, List.getD_eq_getElem?_getD, List.getElem?_eq_getElem hi]; rfl

theorem OwnI.frozen {B : Nat} {w : World} {g cap : Nat} {l : List Int} {n : Nat} (h : OwnI B w (.slice (some ⟨g, 0, none⟩) n cap) l) (i : Nat) : w.frozen? ⟨g, i, none⟩ = false := by
  rcases h.2 with ⟨h2, _⟩ | ⟨g', cap', cur, h1, _, hg, _⟩
  · cases h2
  · cases h1; exact frozen_of_row w g i cur _ hg
/-- A store at index i. -/
theorem OwnI.stored {B : Nat} {w : World} {g cap n : Nat} {l : List Int} (h : OwnI B w (.slice (some ⟨g, 0, none⟩) n cap) l) (i : Nat) (x : Int) :
    OwnI B (w.setCell ⟨g, i, none⟩ (.int .i64 x)) (.slice (some ⟨g, 0, none⟩) n cap) (l.set i x) := by
  have hn : n = l.length := by
    rcases h.2 with ⟨h2, _⟩ | ⟨g', cap', cur, h1, _⟩
    · cases h2
    · cases h1; rfl
  subst hn
  have h2 := (World.ownsRow.stored h i (.int .i64 x)).1
  unfold OwnI
  rw [List.length_set, List.map_set]; exact h2

theorem IntsAt.news {w : World} {b off : Nat} {l : List Int} (h : IntsAt w b off l) : ∀ j u, (l.map (Value.int .i64))[j]? = some u → w.cell? ((⟨b, off, none⟩ : Addr).add j) = some u := by
  intro j u hu
  rw [List.getElem?_map] at hu
  have hj : j < l.length := by
    rcases Nat.lt_or_ge j l.length with h | h
    · exact h
    · rw [List.getElem?_eq_none h] at hu; cases hu
  rw [List.getElem?_eq_getElem hj] at hu
  have hx := h j hj
  rw [List.getD_eq_getElem?_getD, List.getElem?_eq_getElem hj] at hx
  have e : (⟨b, off, none⟩ : Addr).add j = ⟨b, off + j, none⟩ := by unfold Addr.add; split <;> simp_all
  rw [e, hx]; exact hu

/-- append(s, t...) on integers: s is the call's own, t reads as m. -/
theorem ap_ints (w : World) {ops : Array Oper} {rest : List Oper} {o : Oper} {a : Act} {Q : Exit → Act → World → Prop} (hg : o.guard = none) (s x : Operand)
    (ho : o.op = .call { callee := .builtin .append, args := #[s, x], argTypes := #[24, 24] }) (base : Nat) (v : Value) (l : List Int) (hs : a.eval s = v) (hown : OwnI base w v l)
    (M : Nat → Prop) (u : Value) (m : List Int) (hx : a.eval x = u) (hrd : RdI M w u m) (hlen : l.length + m.length ≤ 17592186044416) (hbase : base ≤ w.heap.size)
    (h : ∀ v' w', OwnI base w' v' (l ++ m) → w.grownBy w' v.ownBlock → wpList Tryd.prog ops Q rest (a.put o.dst v') w') : wpList Tryd.prog ops Q (o :: rest) a w := by
  obtain ⟨i0, hi, hz0, hz1, hz2⟩ := info_parts infoInt
  rcases hrd with ⟨⟨ad, cap, rfl, hcap⟩, rfl⟩ | ⟨b, off, cap, rfl, _, _, _, hc⟩
  · cases ad with
    | some ad =>
      refine wpList_append_own w hg s x 24 ho base 3 i0 (.int .i64 0) 1 8 Tryd.underlying24 hi hz0 hz1 hz2 rfl (by decide) v _ _ hs hown ad 0 cap [] hx (by simp) (fun j u hu => by simp at hu) (by simp) (by unfold maxLen; simp at hlen; omega) (by simp at hlen; omega) hbase ?_
      intro v' w' h1 h2 _
      refine h v' w' ?_ h2
      simpa [OwnI] using h1
    | none =>
    obtain rfl := hcap rfl
    refine wpList_append_own_none (w := w) hg s x 24 ho base 3 i0 1 Tryd.underlying24 hi v _ _ hs hown hx ?_
    exact h v w (by simpa using hown) ⟨rfl, rfl, rfl, Nat.le_refl _, fun _ _ _ => rfl⟩
  · refine wpList_append_own w hg s x 24 ho base 3 i0 (.int .i64 0) 1 8 Tryd.underlying24 hi hz0 hz1 hz2 rfl (by decide) v _ _ hs hown ⟨b, off, none⟩ m.length cap (m.map (Value.int .i64)) hx (by simp) hc.news (by simp [Value.oneCell']) (by unfold maxLen; omega) (by omega) hbase ?_
    intro v' w' h1 h2 _
    refine h v' w' ?_ h2
    unfold OwnI
    rw [List.length_append, List.map_append]; exact h1

end Go.Proofs.YtkifedleajacpaaDoor
