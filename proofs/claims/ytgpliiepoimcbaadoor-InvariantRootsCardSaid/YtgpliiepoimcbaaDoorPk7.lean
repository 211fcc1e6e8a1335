import Derived.Test.YtgpliiepoimcbaaDoorPk1
import Derived.Test.YtgpliiepoimcbaaDoorPk4
import Derived.Test.YtgpliiepoimcbaaDoorPk6
import Derived.Deep.RegionHeld3
import Derived.Maps.OwnOps
set_option linter.all false
section
/- A key tells the node: plain lists, no program in sight. -/
namespace Go.Proofs.YtgpliiepoimcbaaDoor
open Go.RowKit

/-- The number that decimal digits spell. -/
def spell (l : List UInt8) : Nat := l.foldl (fun s c => 10 * s + (c.toNat - 48)) 0
theorem spell_snoc (l : List UInt8) (c : UInt8) : spell (l ++ [c]) = 10 * spell l + (c.toNat - 48) := by simp [spell]
theorem ofNat_digit (d : Nat) (h : d < 10) : (UInt8.ofNat (48 + d)).toNat = 48 + d := by
  simp; omega
theorem spell_dec : ∀ (n u : Nat), u ≤ n → spell (Lib.decDigits u) = u
  | n, u, h => by
    rw [Lib.decDigits]
    split
    · rename_i h1; rw [spell, List.foldl_cons, List.foldl_nil, ofNat_digit u h1]; omega
    · rename_i h1
      match n, h with
      | 0, h => omega
      | n + 1, h =>
        rw [spell_snoc, spell_dec n (u / 10) (by omega), ofNat_digit _ (by omega)]; omega
theorem decDigits_inj {u v : Nat} (h : Lib.decDigits u = Lib.decDigits v) : u = v := by
  rw [← spell_dec u u (Nat.le_refl _), ← spell_dec v v (Nat.le_refl _), h]
/-- A digit is no mark. -/
def noMark (l : List UInt8) : Prop := ∀ c ∈ l, c ≠ 44 ∧ c ≠ 58
theorem digit_ne (d : Nat) (h : d < 10) : UInt8.ofNat (48 + d) ≠ 44 ∧ UInt8.ofNat (48 + d) ≠ 58 ∧ UInt8.ofNat (48 + d) ≠ 45 := by
  have e := ofNat_digit d h
  refine ⟨fun h2 => ?_, fun h2 => ?_, fun h2 => ?_⟩
  · rw [h2] at e; have : (44 : UInt8).toNat = 44 := rfl; omega
  · rw [h2] at e; have : (58 : UInt8).toNat = 58 := rfl; omega
  · rw [h2] at e; have : (45 : UInt8).toNat = 45 := rfl; omega
theorem dec_mem : ∀ (n u : Nat), u ≤ n → ∀ c ∈ Lib.decDigits u, c ≠ 44 ∧ c ≠ 58 ∧ c ≠ 45
  | n, u, h => by
    rw [Lib.decDigits]
    split
    · rename_i h1; intro c hc; simp only [List.mem_singleton] at hc; subst hc; exact digit_ne u h1
    · rename_i h1
      match n, h with
      | 0, h => omega
      | n + 1, h =>
        intro c hc
        rw [List.mem_append] at hc
        rcases hc with hc | hc
        · exact dec_mem n (u / 10) (by omega) c hc
        · simp only [List.mem_singleton] at hc; subst hc; exact digit_ne _ (by omega)
theorem dec_noMark (u : Nat) : noMark (Lib.decDigits u) := fun c hc => ⟨(dec_mem u u (Nat.le_refl _) c hc).1, (dec_mem u u (Nat.le_refl _) c hc).2.1⟩
theorem itoa_noMark (x : Int) : noMark (Lib.itoa x) := by
  unfold Lib.itoa
  split
  · intro c hc
    rcases List.mem_cons.1 hc with rfl | hc
    · decide
    · exact dec_noMark _ c hc
  · exact dec_noMark _
theorem dec_ne_nil (u : Nat) : Lib.decDigits u ≠ [] := by rw [Lib.decDigits]; split <;> simp
theorem itoa_inj {x y : Int} (h : Lib.itoa x = Lib.itoa y) : x = y := by
  unfold Lib.itoa at h
  by_cases h1 : x < 0 <;> by_cases h2 : y < 0
  · rw [if_pos h1, if_pos h2] at h; have := decDigits_inj (List.cons.inj h).2; omega
  · rw [if_pos h1, if_neg h2] at h
    have := (dec_mem y.toNat y.toNat (Nat.le_refl _) 45 (by rw [← h]; simp)).2.2
    exact absurd rfl this
  · rw [if_neg h1, if_pos h2] at h
    have := (dec_mem x.toNat x.toNat (Nat.le_refl _) 45 (by rw [h]; simp)).2.2
    exact absurd rfl this
  · rw [if_neg h1, if_neg h2] at h; have := decDigits_inj h; omega

/-- Text up to the first mark. -/
theorem cut_mark : ∀ (p q : List UInt8) (c d : UInt8) (r s : List UInt8), noMark p → noMark q → (c = 44 ∨ c = 58) → (d = 44 ∨ d = 58) → p ++ c :: r = q ++ d :: s → p = q ∧ c = d ∧ r = s
  | [], [], c, d, r, s, _, _, _, _, h => by simp at h; exact ⟨rfl, h⟩
  | [], y :: q, c, d, r, s, _, hq, hc, _, h => by
    simp at h
    have := hq y (by simp)
    rcases hc with e | e <;> (rw [e] at h; exact absurd h.1.symm (by first | exact this.1 | exact this.2))
  | x :: p, [], c, d, r, s, hp, _, _, hd, h => by
    simp at h
    have := hp x (by simp)
    rcases hd with e | e <;> (rw [e] at h; exact absurd h.1 (by first | exact this.1 | exact this.2))
  | x :: p, y :: q, c, d, r, s, hp, hq, hc, hd, h => by
    simp only [List.cons_append, List.cons.injEq] at h
    obtain ⟨h1, h2, h3⟩ := cut_mark p q c d r s (fun c hc => hp c (by simp [hc])) (fun c hc => hq c (by simp [hc])) hc hd h.2
    exact ⟨by rw [h.1, h1], h2, h3⟩

theorem keyArgs_cons (a : Int) (l : List Int) : keyArgs (a :: l) = 44 :: (Lib.itoa a ++ keyArgs l) := by simp [keyArgs]
theorem tail_mark (l : List Int) (s : List UInt8) : ∃ c r, (c = 44 ∨ c = 58) ∧ keyArgs l ++ 58 :: s = c :: r := by
  cases l with
  | nil => exact ⟨58, s, .inr rfl, rfl⟩
  | cons a l => exact ⟨44, _, .inl rfl, by rw [keyArgs_cons]; rfl⟩
theorem tail_inj : ∀ (l m : List Int) (s t : List UInt8), keyArgs l ++ 58 :: s = keyArgs m ++ 58 :: t → l = m ∧ s = t
  | [], [], s, t, h => by simp [keyArgs] at h; exact ⟨rfl, h⟩
  | [], b :: m, s, t, h => by rw [keyArgs_cons] at h; simp [keyArgs] at h
  | a :: l, [], s, t, h => by rw [keyArgs_cons] at h; simp [keyArgs] at h
  | a :: l, b :: m, s, t, h => by
    rw [keyArgs_cons, keyArgs_cons] at h
    simp only [List.cons_append, List.cons.injEq, true_and, List.append_assoc] at h
    obtain ⟨c, r, hc, e1⟩ := tail_mark l s
    obtain ⟨d, q, hd, e2⟩ := tail_mark m t
    rw [e1, e2] at h
    obtain ⟨h1, h2, h3⟩ := cut_mark _ _ c d r q (itoa_noMark a) (itoa_noMark b) hc hd h
    have h4 : keyArgs l ++ 58 :: s = keyArgs m ++ 58 :: t := by rw [e1, e2, h2, h3]
    obtain ⟨h5, h6⟩ := tail_inj l m s t h4
    exact ⟨by rw [itoa_inj h1, h5], h6⟩

theorem keyL_eq (n : Node) : keyL n = Lib.itoa n.op ++ 44 :: (Lib.itoa n.width ++ 44 :: (Lib.decDigits n.val.toNat ++ (keyArgs n.args ++ 58 :: n.name.data.toList))) := by simp [keyL]

theorem keyL_inj {a b : Node} (ha : NodeOk a) (hb : NodeOk b) (h : keyL a = keyL b) : a = b := by
  rw [keyL_eq, keyL_eq] at h
  obtain ⟨h1, _, h⟩ := cut_mark _ _ 44 44 _ _ (itoa_noMark _) (itoa_noMark _) (.inl rfl) (.inl rfl) h
  obtain ⟨h2, _, h⟩ := cut_mark _ _ 44 44 _ _ (itoa_noMark _) (itoa_noMark _) (.inl rfl) (.inl rfl) h
  obtain ⟨c, r, hc, e1⟩ := tail_mark a.args a.name.data.toList
  obtain ⟨d, q, hd, e2⟩ := tail_mark b.args b.name.data.toList
  rw [e1, e2] at h
  obtain ⟨h3, h4, h5⟩ := cut_mark _ _ c d r q (dec_noMark _) (dec_noMark _) hc hd h
  obtain ⟨h6, h7⟩ := tail_inj a.args b.args a.name.data.toList b.name.data.toList (by rw [e1, e2, h4, h5])
  refine node_ext (itoa_inj h1) (itoa_inj h2) ?_ ?_ h6
  · have := decDigits_inj h3; have := ha.val.1; have := hb.val.1; omega
  · exact toList_inj (by rw [toList_data, toList_data]; exact h7)
theorem keyB_inj {a b : Node} (ha : NodeOk a) (hb : NodeOk b) : keyB a = keyB b ↔ a = b := by
  constructor
  · intro h
    refine keyL_inj ha hb ?_
    have := congrArg (fun s : ByteArray => s.data.toList) h
    simpa [keyB] using this
  · rintro rfl; rfl

end Go.Proofs.YtgpliiepoimcbaaDoor
end
section
/- hashcons.Table: what it holds, and the walks of New, made, Len, Get. -/
namespace Go.Proofs.YtgpliiepoimcbaaDoor
open Go.RowKit
set_option maxRecDepth 100000

/-- An entry of a table: a node, the slice that holds its args, an id. -/
structure TEnt where
  node : Node
  sl : Value
  id : Int

def entV (x : TEnt) : Value := .agg #[.int .i64 x.node.op, .int .i64 x.node.width, .int .u64 x.node.val, .string x.node.name, x.sl, .int .i64 x.id]
def entP (x : TEnt) : ByteArray × Value := (keyB x.node, entV x)

/-- Block bt is a table whose map is block bm, with the entries l; their args lie outside M. -/
structure TableAt (M : Nat → Prop) (w : World) (bt bm : Nat) (l : List TEnt) : Prop where
  head : w.heap[bt]? = some (.cells #[.map (some bm)] 80 (0, 0))
  map : MapIs .string Value.string w bm (l.map entP)
  ents : ∀ x ∈ l, RdI M w x.sl x.node.args ∧ NodeOk x.node ∧ NodeSm x.node

theorem TableAt.fr {M N : Nat → Prop} {w w' : World} {bt bm : Nat} {l : List TEnt} (h : TableAt M w bt bm l) (hf : Fr N w w') (h1 : ¬ N bt) (h2 : ¬ N bm) (hm : ∀ k, k < w.heap.size → N k → M k) : TableAt M w' bt bm l :=
  ⟨hf.at h1 h.head, h.map.fr hf h2, fun x hx => ⟨(h.ents x hx).1.fr hf hm, (h.ents x hx).2⟩⟩
theorem TableAt.cell {M : Nat → Prop} {w : World} {bt bm : Nat} {l : List TEnt} (h : TableAt M w bt bm l) : w.cell? ⟨bt, 0, none⟩ = some (.map (some bm)) := by simp [World.cell?, h.head]
theorem TableAt.lt {M : Nat → Prop} {w : World} {bt bm : Nat} {l : List TEnt} (h : TableAt M w bt bm l) : bt < w.heap.size := (Array.getElem?_eq_some_iff.1 h.head).1

/-- The id of a node. -/
def tget (l : List TEnt) (n : Node) : Option TEnt := l.find? (fun x => decide (nodeCmp x.node n = 0))

theorem mget_ent (n : Node) (hn : NodeOk n) : ∀ (l : List TEnt), (∀ x ∈ l, NodeOk x.node) → mget (l.map entP) (keyB n) = (tget l n).map entV
  | [], _ => rfl
  | x :: l, h => by
    have ih := mget_ent n hn l (fun y hy => h y (by simp [hy]))
    unfold mget tget at *
    by_cases e : x.node = n
    · have e1 : nodeCmp x.node n = 0 := nodeCmp_zero.2 e
      have e2 : (entP x).1 = keyB n := by rw [entP, e]
      simp only [List.map_cons, List.find?_cons, e1, e2, decide_true]
      rfl
    · have e1 : ¬ nodeCmp x.node n = 0 := fun h => e (nodeCmp_zero.1 h)
      have e2 : ¬ (entP x).1 = keyB n := fun h2 => e ((keyB_inj (h x (by simp)) hn).1 h2)
      simp only [List.map_cons, List.find?_cons, e1, e2, decide_false]
      exact ih

theorem new_any (w : World) : Calls Tryd.prog 34 #[] w fun e w' => ∃ bm bt, e = .returned (.pointer (some ⟨bt, 0, none⟩)) ∧ w.heap.size ≤ bm ∧ w.heap.size ≤ bt ∧ bm ≠ bt ∧ (∀ M, TableAt M w' bt bm []) ∧ Fr NoB w w' := by
  have hmm := @run_makeMap Tryd.prog
  go_enter Tryd.func34, Tryd.ntmps34
  go_wp2
  go_ret
  refine ⟨w.heap.size, w.heap.size + 1, rfl, Nat.le_refl _, by omega, by omega, fun M => ⟨at_new' (by simp), (MapIs.new .string Value.string w).fr ((Fr.refl NoB _).alloc _) (fun h => h), fun x hx => by cases hx⟩, ((Fr.refl NoB w).alloc _).alloc _⟩

theorem neqMapNil (w : World) (r : Option Nat) : (binOp .neq 78 (.map r) (.map none)).run Tryd.prog w = .ok (.bool (!r.isNone)) w :=
  run_neq_map_nil w 78 9 82 r Tryd.underlying78
theorem neqPtrNil (w : World) (r : Option Addr) : (binOp .neq 60 (.pointer r) (.pointer none)).run Tryd.prog w = .ok (.bool (!r.isNone)) w := by
  cases r <;> kernel_rfl

theorem made_any (M : Nat → Prop) (w : World) (bt bm : Nat) (l : List TEnt) (h : TableAt M w bt bm l) : Calls Tryd.prog 50 #[.pointer (some ⟨bt, 0, none⟩)] w fun e w' => e = .returned (.bool true) ∧ w' = w := by
  have hc := h.cell
  clear h
  have qm := neqMapNil
  have qp := neqPtrNil
  go_enter Tryd.func50, Tryd.ntmps50
  go_wp2
  go_ret
  exact ⟨rfl, rfl⟩

theorem made_nil (w : World) : Calls Tryd.prog 50 #[.pointer none] w fun e w' => e = .returned (.bool false) ∧ w' = w := by
  have qm := neqMapNil
  have qp := neqPtrNil
  go_enter Tryd.func50, Tryd.ntmps50
  go_wp2
  go_ret
  exact ⟨rfl, rfl⟩

theorem made_zero (w : World) (bt : Nat) (hc : w.cell? ⟨bt, 0, none⟩ = some (.map none)) : Calls Tryd.prog 50 #[.pointer (some ⟨bt, 0, none⟩)] w fun e w' => e = .returned (.bool false) ∧ w' = w := by
  have qm := neqMapNil
  have qp := neqPtrNil
  go_enter Tryd.func50, Tryd.ntmps50
  go_wp2
  go_ret
  exact ⟨rfl, rfl⟩

theorem MapIs.len {κ : Type} [DecidableEq κ] {d : TypeDesc} {mk : κ → Value} {w : World} {b : Nat} {m : List (κ × Value)} (h : MapIs d mk w b m) {P : Program} {t kt e : TypeId} (ht : P.underlying t = some (.map kt e)) (ty : TypeId) :
    (Builtin.len_ #[t] ty #[.map (some b)]).run P w = .ok (.int .i64 m.length) w := by
  obtain ⟨es, clock, hb, hm, _⟩ := h
  have hs : es.size = m.length := by have := congrArg List.length hm; simpa using this
  simp [Builtin.len_, run_underlying ht, MapKept.run_getObj_map hb, Result.andThen, goInt, hs]

end Go.Proofs.YtgpliiepoimcbaaDoor
end
section
/- The walk of hashcons.Table.Get. -/
namespace Go.Proofs.YtgpliiepoimcbaaDoor
open Go.RowKit
set_option maxRecDepth 100000

theorem zeroEnt (w : World) : (zeroValue 82).run Tryd.prog w = .ok (.agg #[.int .i64 0, .int .i64 0, .int .u64 0, .string ⟨#[]⟩, .slice none 0 0, .int .i64 0]) w := by kernel_rfl

theorem TableAt.lookNone {M : Nat → Prop} {w : World} {bt bm : Nat} {l : List TEnt} (h : TableAt M w bt bm l) (n : Node) (hn : NodeOk n) (ht : tget l n = none) :
    (Instr.lookup 78 (.map (some bm)) (.string (keyB n)) true).run Tryd.prog w = .ok (.tuple #[.agg #[.int .i64 0, .int .i64 0, .int .u64 0, .string ⟨#[]⟩, .slice none 0 0, .int .i64 0], .bool false]) w := by
  have hg := mget_ent n hn l (fun x hx => (h.ents x hx).2.1)
  rw [ht] at hg
  exact h.map.lookNone (P := Tryd.prog) kkString Tryd.underlying78 Tryd.underlying9 (keyB n) hg (zeroEnt w) true
theorem TableAt.look {M : Nat → Prop} {w : World} {bt bm : Nat} {l : List TEnt} (h : TableAt M w bt bm l) (n : Node) (hn : NodeOk n) {x : TEnt} (ht : tget l n = some x) :
    (Instr.lookup 78 (.map (some bm)) (.string (keyB n)) true).run Tryd.prog w = .ok (.tuple #[.agg #[.int .i64 x.node.op, .int .i64 x.node.width, .int .u64 x.node.val, .string x.node.name, x.sl, .int .i64 x.id], .bool true]) w := by
  have hg := mget_ent n hn l (fun x hx => (h.ents x hx).2.1)
  rw [ht] at hg
  exact h.map.look (P := Tryd.prog) kkString Tryd.underlying78 Tryd.underlying9 (keyB n) hg true
theorem tget_mem {l : List TEnt} {n : Node} {x : TEnt} (h : tget l n = some x) : x ∈ l ∧ x.node = n := by
  refine ⟨List.mem_of_find?_eq_some h, ?_⟩
  have := List.find?_some h
  exact nodeCmp_zero.1 (by simpa using this)

end Go.Proofs.YtgpliiepoimcbaaDoor
end
section
/- The walks of hashcons.Copy, and of hashcons.Table.Put and Del. -/
namespace Go.Proofs.YtgpliiepoimcbaaDoor
open Go.RowKit
set_option maxRecDepth 100000

theorem hcCopy_any (M : Nat → Prop) (n : Node) (v : Value) (w : World) (h : RdI M w v n.args) (hl : n.args.length ≤ 17592186044416) :
    Calls Tryd.prog 51 #[nodeV n v] w fun e w' => ∃ a' c', e = .returned (nodeV n (.slice a' n.args.length c')) ∧ OwnI w.heap.size w' (.slice a' n.args.length c') n.args ∧ Fr NoB w w' := by
  obtain ⟨a, cap, rfl⟩ := h.form
  have HC : Hid (∀ W, Fr NoB w W → Calls Tryd.prog 40 #[nodeV n (.slice a n.args.length cap), .nilFunc] W fun e w' => ∃ a' c', e = .returned (nodeV n (.slice a' n.args.length c')) ∧ OwnI W.heap.size w' (.slice a' n.args.length c') n.args ∧ Fr NoB W w') := fun W hW => canonNil_any M n _ W (h.fr hW (fun _ _ h => h.elim)) hl
  clear h
  unfold nodeV
  go_enter Tryd.func51, Tryd.ntmps51
  go_wp2_with (go_at_call 40; have X := HC.out; (with_reducible refine Calls.mono (X _ ?_) ?_); (focus (repeat (first | exact Fr.refl _ _ | refine Fr.alloc ?_ _))); clear X; rintro e w1 ⟨a', c', rfl, ho, hf⟩; obtain ⟨r0, r1, r2, r3, r4, rf, rl⟩ := hf.five (b := w.heap.size + 1) (fun h => h) (at_new' (by simp)); have HF := hid hf; have HO := hid ho; clear hf ho)
  refine bodyPost_ret (v := nodeV n (.slice a' n.args.length c')) (by simp [results, Tryd.results51, go_sem, r0, r1, r2, r3, r4, nodeV]) rfl ?_
  refine ⟨a', c', rfl, OwnI.keep HO.out ?_ ?_, ?_⟩
  · simp only [World.size_alloc]; omega
  · repeat (refine Fr.setCell ?_ (fun _ => by simp <;> omega) _)
    exact Fr.refl _ _
  · repeat (refine Fr.setCell ?_ (fun h => absurd h (by simp)) _)
    exact (((Fr.refl NoB w).alloc _).alloc _).step HF.out

theorem TableAt.insert {M : Nat → Prop} {w : World} {bt bm : Nat} {l : List TEnt} (h : TableAt M w bt bm l) (x : TEnt) (hx : RdI M w x.sl x.node.args ∧ NodeOk x.node ∧ NodeSm x.node) (hg : tget l x.node = none) (hM : M bm) (hbm : bm ≠ bt) :
    ∃ w', (Instr.mapUpdate 78 (.map (some bm)) (.string (keyB x.node)) (entV x)).run Tryd.prog w = .ok () w' ∧ TableAt M w' bt bm (l ++ [x]) ∧ Fr (fun k => k = bm) w w' := by
  obtain ⟨w', h1, h2, h3⟩ := h.map.put (P := Tryd.prog) kkString Tryd.underlying78 Tryd.underlying9 (keyB x.node) (entV x)
  have hg' := mget_ent x.node hx.2.1 l (fun y hy => (h.ents y hy).2.1)
  rw [hg] at hg'
  refine ⟨w', h1, ⟨h3.at (fun h => hbm h.symm) h.head, ?_, fun y hy => ?_⟩, h3⟩
  · rw [mput, hg'] at h2
    simpa [entP] using h2
  · rw [List.mem_append, List.mem_singleton] at hy
    rcases hy with hy | rfl
    · exact ⟨(h.ents y hy).1.fr h3 (fun k _ hk => by rw [show k = bm from hk]; exact hM), (h.ents y hy).2⟩
    · exact ⟨hx.1.fr h3 (fun k _ hk => by rw [show k = bm from hk]; exact hM), hx.2⟩

set_option maxHeartbeats 2000000 in
theorem put_some (M N : Nat → Prop) (w : World) (bt bm : Nat) (l : List TEnt) (h : TableAt M w bt bm l) (n : Node) (s : Value) (id : Int) (hr : RdI N w s n.args) (hok : NodeOk n) (hsm : NodeSm n) (ht : Tab w) (x : TEnt) (hg : tget l n = some x) :
    Calls Tryd.prog 35 #[.pointer (some ⟨bt, 0, none⟩), nodeV n s, .int .i64 id] w fun e w' => e = .returned (.bool false) ∧ Fr NoB w w' := by
  obtain ⟨xn, xs, xi⟩ := x
  obtain ⟨a2, cap2, hx⟩ := (h.ents _ (tget_mem hg).1).1.form
  simp only at hx
  subst hx
  obtain ⟨a, cap, rfl⟩ := hr.form
  have HK : Hid (∀ W, Fr NoB (w.alloc (.cells (nodeCells n (.slice a n.args.length cap)) 40)) W → Calls Tryd.prog 39 #[nodeV n (.slice a n.args.length cap)] W fun e w' => e = .returned (.string (keyB n)) ∧ Fr NoB W w' ∧ Fr NoB (w.alloc (.cells (nodeCells n (.slice a n.args.length cap)) 40)) w') := fun W hW =>
    (key_any N n _ W (hr.fr (((Fr.refl NoB w).alloc _).step hW) (fun _ _ h => h.elim)) hok hsm (ht.fr (((Fr.refl NoB w).alloc _).step hW) (fun h => h))).mono (fun e w' ⟨h1, h2⟩ => ⟨h1, h2, hW.step h2⟩)
  have HT : Hid (∀ W, Fr NoB (w.alloc (.cells (nodeCells n (.slice a n.args.length cap)) 40)) W → TableAt M W bt bm l ∧ W.heap[w.heap.size]? = some (.cells (nodeCells n (.slice a n.args.length cap)) 40 (0, 0)) ∧ Fr NoB w W) := fun W hW =>
    ⟨h.fr (((Fr.refl NoB w).alloc _).step hW) (fun h => h) (fun h => h) (fun _ _ h => h.elim), hW.at (fun h => h) (at_new w _), ((Fr.refl NoB w).alloc _).step hW⟩
  have HOK := hid hok
  have HG := hid hg
  have H0 := (HT.out _ (Fr.refl NoB _)).1.cell
  clear h hr hok hsm ht hg
  unfold nodeV
  go_enter Tryd.func35, Tryd.ntmps35
  go_wp2_with (first
    | (go_at_call 50; refine (made_any M _ bt bm l (HT.out _ (Fr.refl _ _)).1).mono ?_; rintro e w' ⟨rfl, rfl⟩)
    | (go_at_call 39; have X := HK.out; (with_reducible refine Calls.mono (X _ ?_) ?_); (focus (repeat (first | exact Fr.refl _ _ | refine Fr.drew ?_ | refine Fr.alloc ?_ _))); clear X; rintro e w2 ⟨rfl, hfW, hf2⟩; have Y := HT.out _ hf2; obtain ⟨c0, c1, c2, c3, c4, cf, cl⟩ := five_of Y.2.1; have ct := Y.1.cell; have lk := Y.1.look n HOK.out HG.out))
  go_ret
  refine ⟨rfl, ?_⟩
  repeat (first | (with_reducible exact Y.2.2) | refine Fr.setCell ?_ (fun h => by simp only at h; omega) _ | refine Fr.alloc ?_ _)

set_option maxHeartbeats 2000000 in
theorem put_none (M N : Nat → Prop) (w : World) (bt bm : Nat) (l : List TEnt) (h : TableAt M w bt bm l) (n : Node) (s : Value) (id : Int) (hr : RdI N w s n.args) (hok : NodeOk n) (hsm : NodeSm n) (ht : Tab w) (hg : tget l n = none)
    (hM : M bm) (hbm : bm ≠ bt) (hMw : ∀ k, M k → k < w.heap.size) :
    Calls Tryd.prog 35 #[.pointer (some ⟨bt, 0, none⟩), nodeV n s, .int .i64 id] w fun e w' => e = .returned (.bool true) ∧ (∃ sl, TableAt M w' bt bm (l ++ [⟨n, sl, id⟩])) ∧ Fr (fun k => k = bm) w w' := by
  obtain ⟨a, cap, rfl⟩ := hr.form
  have hbl : bm < w.heap.size := h.map.lt
  have hbl2 := h.lt
  have HK : Hid (∀ W, Fr NoB (w.alloc (.cells (nodeCells n (.slice a n.args.length cap)) 40)) W → Calls Tryd.prog 39 #[nodeV n (.slice a n.args.length cap)] W fun e w' => e = .returned (.string (keyB n)) ∧ Fr NoB W w' ∧ Fr NoB (w.alloc (.cells (nodeCells n (.slice a n.args.length cap)) 40)) w') := fun W hW =>
    (key_any N n _ W (hr.fr (((Fr.refl NoB w).alloc _).step hW) (fun _ _ h => h.elim)) hok hsm (ht.fr (((Fr.refl NoB w).alloc _).step hW) (fun h => h))).mono (fun e w' ⟨h1, h2⟩ => ⟨h1, h2, hW.step h2⟩)
  have HC : Hid (∀ W, Fr NoB (w.alloc (.cells (nodeCells n (.slice a n.args.length cap)) 40)) W → Calls Tryd.prog 51 #[nodeV n (.slice a n.args.length cap)] W fun e w' => ∃ a' c', e = .returned (nodeV n (.slice a' n.args.length c')) ∧ RdI M w' (.slice a' n.args.length c') n.args ∧ Fr NoB (w.alloc (.cells (nodeCells n (.slice a n.args.length cap)) 40)) w') := fun W hW =>
    (hcCopy_any N n _ W (hr.fr (((Fr.refl NoB w).alloc _).step hW) (fun _ _ h => h.elim)) (by have := hsm.args; omega)).mono (fun e w' ⟨a', c', h1, h2, h3⟩ => ⟨a', c', h1, h2.rd (fun k hk hm => by have := hMw k hm; have := (((Fr.refl NoB w).alloc (.cells (nodeCells n (.slice a n.args.length cap)) 40)).step hW).size; omega), hW.step h3⟩)
  have HT : Hid (∀ W, Fr NoB (w.alloc (.cells (nodeCells n (.slice a n.args.length cap)) 40)) W → TableAt M W bt bm l ∧ W.heap[w.heap.size]? = some (.cells (nodeCells n (.slice a n.args.length cap)) 40 (0, 0)) ∧ Fr NoB w W) := fun W hW =>
    ⟨h.fr (((Fr.refl NoB w).alloc _).step hW) (fun h => h) (fun h => h) (fun _ _ h => h.elim), hW.at (fun h => h) (at_new w _), ((Fr.refl NoB w).alloc _).step hW⟩
  have HOK := hid hok
  have HSM := hid hsm
  have HG := hid hg
  have HM := hid hM
  have HB := hid hbm
  have H0 := (HT.out _ (Fr.refl NoB _)).1.cell
  clear h hr hok hsm ht hg hM hbm hMw
  unfold nodeV
  go_enter Tryd.func35, Tryd.ntmps35
  go_wp2_with (first
    | (go_at_call 50; refine (made_any M _ bt bm l (HT.out _ (Fr.refl _ _)).1).mono ?_; rintro e w' ⟨rfl, rfl⟩)
    | (go_at_call 39; have X := HK.out; (with_reducible refine Calls.mono (X _ ?_) ?_); (focus (repeat (first | exact Fr.refl _ _ | refine Fr.drew ?_ | refine Fr.alloc ?_ _))); clear X; rintro e w2 ⟨rfl, hfW, hf2⟩; have Y := HT.out _ hf2; obtain ⟨c0, c1, c2, c3, c4, cf, cl⟩ := five_of Y.2.1; have ct := Y.1.cell; have lk := Y.1.lookNone n HOK.out HG.out))
  have hn2 : bt ≠ w2.heap.size := by have := Y.1.lt; omega
  have hn3 := hn2.symm
  have hn4 : w.heap.size ≠ w2.heap.size := by omega
  have hn5 := hn4.symm
  go_region_held3 (fun w' => w'.cell? ⟨bt, 0, none⟩ = some (.map (some bm)) ∧ w'.cell? ⟨w.heap.size, 0, none⟩ = some (.int .i64 n.op) ∧ w'.cell? ⟨w.heap.size, 1, none⟩ = some (.int .i64 n.width) ∧ w'.cell? ⟨w.heap.size, 2, none⟩ = some (.int .u64 n.val) ∧ w'.cell? ⟨w.heap.size, 3, none⟩ = some (.string n.name) ∧ w'.cell? ⟨w.heap.size, 4, none⟩ = some (.slice a n.args.length cap)) (go_keep)
    (first | (go_at_call 51; have X := HC.out; (with_reducible refine Calls.mono (X _ ?_) ?_); (focus (repeat (first | (with_reducible exact hf2) | refine Fr.drew ?_ | refine Fr.alloc ?_ _))); clear X; rintro e w3 ⟨a', c', rfl, hrd3, hf3⟩; have Y3 := HT.out _ hf3; obtain ⟨w4, hrun, ht4, hf4⟩ := Y3.1.insert ⟨n, .slice a' n.args.length c', id⟩ ⟨hrd3, HOK.out, HSM.out⟩ HG.out HM.out HB.out; obtain ⟨d0, d1, d2, d3, d4, df, dl⟩ := five_of Y3.2.1; have dt := Y3.1.cell; obtain ⟨g0, g1, g2, g3, g4, gf, gl⟩ := five_of (hf4.at (b := w.heap.size) (by intro h; omega) Y3.2.1); have gt := ht4.cell; simp only [entV] at hrun))
  go_wp2
  go_ret
  exact ⟨rfl, ⟨_, ht4⟩, (Y3.2.2.mono (fun _ _ h => h.elim)).trans' hf4 (fun _ _ h => h)⟩

theorem mdel_ent (n : Node) (hn : NodeOk n) : ∀ (l : List TEnt), (∀ x ∈ l, NodeOk x.node) → mdel (l.map entP) (keyB n) = (l.filter (fun x => decide (nodeCmp x.node n ≠ 0))).map entP
  | [], _ => rfl
  | x :: l, h => by
    have ih := mdel_ent n hn l (fun y hy => h y (by simp [hy]))
    unfold mdel at *
    by_cases e : x.node = n
    · have e1 : nodeCmp x.node n = 0 := nodeCmp_zero.2 e
      have e2 : (entP x).1 = keyB n := by rw [entP, e]
      rw [List.map_cons, List.filter_cons_of_neg (by simp [e2]), List.filter_cons_of_neg (by simp [e1]), ih]
    · have e1 : ¬ nodeCmp x.node n = 0 := fun h => e (nodeCmp_zero.1 h)
      have e2 : ¬ (entP x).1 = keyB n := fun h2 => e ((keyB_inj (h x (by simp)) hn).1 h2)
      rw [List.map_cons, List.filter_cons_of_pos (by simp [e2]), List.filter_cons_of_pos (by simp [e1]), ih, List.map_cons]

def tdel (l : List TEnt) (n : Node) : List TEnt := l.filter (fun x => decide (nodeCmp x.node n ≠ 0))

theorem TableAt.remove {M : Nat → Prop} {w : World} {bt bm : Nat} {l : List TEnt} (h : TableAt M w bt bm l) (n : Node) (hn : NodeOk n) (hM : M bm) (hbm : bm ≠ bt) (ty : TypeId) :
    ∃ w', (Builtin.delete_ #[78, 9] ty #[.map (some bm), .string (keyB n)]).run Tryd.prog w = .ok (.tuple #[]) w' ∧ TableAt M w' bt bm (tdel l n) ∧ Fr (fun k => k = bm) w w' := by
  obtain ⟨w', h1, h2, h3⟩ := h.map.del (P := Tryd.prog) kkString Tryd.underlying78 Tryd.underlying9 (keyB n) ty 9
  rw [mdel_ent n hn l (fun x hx => (h.ents x hx).2.1)] at h2
  refine ⟨w', h1, ⟨h3.at (fun h => hbm h.symm) h.head, h2, fun y hy => ?_⟩, h3⟩
  have hy' := (List.mem_filter.1 hy).1
  exact ⟨(h.ents y hy').1.fr h3 (fun k _ hk => by rw [show k = bm from hk]; exact hM), (h.ents y hy').2⟩

end Go.Proofs.YtgpliiepoimcbaaDoor
end
section
/- The state of a function that looks at a dump and reports flaws: X are the blocks of its own. -/
namespace Go.Proofs.YtgpliiepoimcbaaDoor
open Go.RowKit
set_option maxRecDepth 100000

structure RepS (M : Nat → Prop) (w : World) (sN sL sR : Value) (d : Dmp) (br : Nat) (l F : List Flw) (X : Nat → Prop) (W : World) : Prop where
  fr : Fr M w W
  rd : RdD (fun q => M q ∨ w.heap.size ≤ q) W sN sL sR d
  rep : ∃ M', RepAt M' W br (l ++ F) ∧ Gr M M' w ∧ ∀ q, X q → ¬ M' q
  box : W.heap[w.heap.size]? = some (.cells (dumpCells sN sL sR) 26 (0, 0))
  lt : ∀ k, M k → k < w.heap.size
  x : ∀ q, X q → w.heap.size ≤ q ∧ q < W.heap.size
  bx : X w.heap.size
section
variable {M : Nat → Prop} {w : World} {sN sL sR : Value} {d : Dmp} {br : Nat} {l F : List Flw} {X X' N : Nat → Prop} {W W' : World}
theorem RepS.start (hd : RdD M w sN sL sR d) (hr : RepAt M w br l) : RepS M w sN sL sR d br l [] (fun q => q = w.heap.size) (w.alloc (.cells (dumpCells sN sL sR) 26)) := by
  have f := (Fr.refl NoB w).alloc (.cells (dumpCells sN sL sR) 26)
  refine ⟨f.mono (fun _ _ h => h.elim), hd.more.step f, ⟨M, by simpa using hr.step f, Gr.refl _ _, fun q hq h => ?_⟩, at_new w _, hr.lt, fun q hq => ?_, rfl⟩
  · have := hr.lt q h
    have : q = w.heap.size := hq
    omega
  · have : q = w.heap.size := hq
    simp only [World.size_alloc]
    omega
/-- Reads and new blocks, which may become its own. -/
theorem RepS.grow (h : RepS M w sN sL sR d br l F X W) (hf : Fr NoB W W') (hx : ∀ q, X' q → X q ∨ (W.heap.size ≤ q ∧ q < W'.heap.size)) (hb : X' w.heap.size) : RepS M w sN sL sR d br l F X' W' := by
  obtain ⟨h1, h2, ⟨M', h3, h3', h3''⟩, h4, h5, h6, h7⟩ := h
  refine ⟨h1.step hf, h2.step hf, ⟨M', h3.step hf, h3', fun q hq => ?_⟩, hf.at (fun h => h) h4, h5, fun q hq => ?_, hb⟩
  · rcases hx q hq with h | h
    · exact h3'' q h
    · intro h9
      have := h3.lt q h9
      omega
  · have hs := h1.size
    have hs2 := hf.size
    rcases hx q hq with h | h
    · have := h6 q h; omega
    · omega
theorem RepS.step (h : RepS M w sN sL sR d br l F X W) (hf : Fr NoB W W') : RepS M w sN sL sR d br l F X W' := h.grow hf (fun _ h => .inl h) h.bx
/-- Its own blocks turn. -/
theorem RepS.turn (h : RepS M w sN sL sR d br l F X W) (hf : Fr N W W') (hn : ∀ q, N q → X q ∧ q ≠ w.heap.size) : RepS M w sN sL sR d br l F X W' := by
  obtain ⟨h1, h2, ⟨M', h3, h3', h3''⟩, h4, h5, h6, h7⟩ := h
  exact ⟨h1.trans' hf (fun k hk e => by have := h6 k (hn k e).1; omega), h2.fr hf (fun k _ e => .inr (h6 k (hn k e).1).1), ⟨M', h3.fr hf (fun k hk e => h3'' k (hn k e).1 hk), h3', h3''⟩, hf.at (fun e => (hn _ e).2 rfl) h4, h5, fun q hq => ⟨(h6 q hq).1, Nat.lt_of_lt_of_le (h6 q hq).2 hf.size⟩, h7⟩
theorem RepS.turn' (h : RepS M w sN sL sR d br l F X W) (hf : Fr N W W') (hn : ∀ q, N q → X q ∧ q ≠ w.heap.size) (hx : ∀ q, X' q → X q ∨ (W.heap.size ≤ q ∧ q < W'.heap.size)) (hb : X' w.heap.size) : RepS M w sN sL sR d br l F X' W' := by
  have h' := h.turn hf hn
  have hbx := (h.x _ h.bx).2
  obtain ⟨_, _, ⟨M0, h3, h3', h3''⟩, _⟩ := h
  obtain ⟨a1, a2, _, a4, a5, a6, a7⟩ := h'
  refine ⟨a1, a2, ⟨M0, h3.fr hf (fun k hk e => h3'' k (hn k e).1 hk), h3', fun q hq h9 => ?_⟩, a4, a5, fun q hq => ?_, hb⟩
  · rcases hx q hq with h | h
    · exact h3'' q h h9
    · have := h3.lt q h9; omega
  · rcases hx q hq with h | h
    · exact a6 q h
    · have := a6 _ a7
      have hs := hf.size
      have h8 := (Array.getElem?_eq_some_iff.1 a4).1
      refine ⟨?_, h.2⟩
      omega
/-- A flaw is reported. -/
theorem RepS.noted (h : RepS M w sN sL sR d br l F X W) : ∃ M', RepAt M' W br (l ++ F) ∧ ∀ W2 M2 f, RepAt M2 W2 br (l ++ F ++ [f]) → Gr M' M2 W → Fr M' W W2 → RepS M w sN sL sR d br l (F ++ [f]) X W2 ∧ Fr (fun q => ¬ X q) W W2 := by
  obtain ⟨h1, h2, ⟨M', h3, h3', h3''⟩, h4, h5, h6, h7⟩ := h
  refine ⟨M', h3, fun W2 M2 f hn hg hf2 => ⟨⟨h1.trans' hf2 (fun j hj e => (h3' j e).resolve_right (by omega)), h2.fr hf2 (fun j _ e => h3' j e), ⟨M2, by rw [← List.append_assoc]; exact hn, fun j hj => ?_, fun q hq h9 => ?_⟩, hf2.at (h3'' _ h7) h4, h5, fun q hq => ⟨(h6 q hq).1, Nat.lt_of_lt_of_le (h6 q hq).2 hf2.size⟩, h7⟩, hf2.mono (fun q _ e hx => h3'' q hx e)⟩⟩
  · rcases hg j hj with h9 | h9
    · exact h3' j h9
    · exact .inr (by have := h1.size; omega)
  · rcases hg q h9 with h9 | h9
    · exact h3'' q hq h9
    · have := h6 q hq; omega
end
theorem TableAt.more {M : Nat → Prop} {w : World} {bt bm : Nat} {l : List TEnt} (h : TableAt M w bt bm l) : TableAt (fun k => M k ∨ w.heap.size ≤ k) w bt bm l := ⟨h.head, h.map, fun x hx => ⟨(h.ents x hx).1.more, (h.ents x hx).2⟩⟩
theorem TableAt.weaken {M N : Nat → Prop} {w : World} {bt bm : Nat} {l : List TEnt} (h : TableAt N w bt bm l) (hm : ∀ k, k < w.heap.size → M k → N k) : TableAt M w bt bm l := ⟨h.head, h.map, fun x hx => ⟨(h.ents x hx).1.weaken hm, (h.ents x hx).2⟩⟩
theorem tget_isSome {l : List TEnt} {n : Node} : (tget l n).isSome = true ↔ ∃ x ∈ l, x.node = n := by
  unfold tget
  rw [List.find?_isSome]
  constructor
  · rintro ⟨x, h1, h2⟩; exact ⟨x, h1, nodeCmp_zero.1 (by simpa using h2)⟩
  · rintro ⟨x, h1, h2⟩; exact ⟨x, h1, by simpa using nodeCmp_zero.2 h2⟩

/-- twiceAt, for nodes whose args are nodes: an equal node is ahead. -/
theorem lab_init {n : Nat} {x : Int} (h0 : 0 ≤ x) (h1 : x < n) : labAt (lbInit n) x = x := by
  unfold labAt lbInit
  rw [List.getD_eq_getElem?_getD, List.getElem?_map, List.getElem?_range (by omega)]
  simp; omega
theorem alike_init {a b : Node} {n : Nat} (ha : ∀ x ∈ a.args, 0 ≤ x ∧ x < n) (hb : ∀ x ∈ b.args, 0 ≤ x ∧ x < n) : alikeS a b (lbInit n) = true ↔ a = b := by
  constructor
  · intro h
    unfold alikeS at h
    simp only [Bool.and_eq_true, beq_iff_eq, List.all_eq_true] at h
    obtain ⟨⟨h1, h2⟩, h3⟩ := h
    unfold labelS at h1
    simp only [Bool.and_eq_true, beq_iff_eq] at h1
    have h4 : a.args = b.args := by
      apply List.ext_getElem h2
      intro i hi hi'
      have hp := h3 (a.args[i], b.args[i]) (by rw [List.mem_iff_getElem]; exact ⟨i, by simp; omega, by simp⟩)
      have e1 := lab_init (ha _ (List.getElem_mem hi)).1 (ha _ (List.getElem_mem hi)).2
      have e2 := lab_init (hb _ (List.getElem_mem hi')).1 (hb _ (List.getElem_mem hi')).2
      simp only at hp
      rw [e1, e2] at hp
      exact hp
    obtain ⟨⟨⟨h5, h6⟩, h7⟩, h8⟩ := h1
    cases a; cases b
    simp only at h4 h5 h6 h7 h8
    rw [h4, h5, h6, h7, toList_inj h8]
  · rintro rfl
    refine alikeS_ok (by unfold labelS; simp) rfl (fun k hk => rfl)
theorem twice_mem {ns : List Node} {i : Nat} {x : Node} (hx : ns[i]? = some x) (ho : ∀ y ∈ ns, ∀ a ∈ y.args, 0 ≤ a ∧ a < ns.length) : twiceAt ns i = true ↔ x ∈ ns.take i := by
  have hxm : x ∈ ns := List.mem_of_getElem? hx
  have hi : i < ns.length := (List.getElem?_eq_some_iff.1 hx).1
  unfold twiceAt
  rw [List.any_eq_true]
  constructor
  · rintro ⟨k, hk, h⟩
    have hk2 : k < i := List.mem_range.1 hk
    have hkl : k < ns.length := by omega
    unfold alikeAt at h
    rw [List.getElem?_eq_getElem hkl, hx] at h
    simp only [Option.elim_some] at h
    have e := (alike_init (ho _ (List.getElem_mem hkl)) (ho _ hxm)).1 h
    rw [← e, List.mem_take_iff_getElem]
    exact ⟨k, by omega, rfl⟩
  · intro h
    rw [List.mem_take_iff_getElem] at h
    obtain ⟨k, hk, e⟩ := h
    have hkl : k < ns.length := by omega
    refine ⟨k, List.mem_range.2 (by omega), ?_⟩
    unfold alikeAt
    rw [List.getElem?_eq_getElem hkl, hx]
    simp only [Option.elim_some]
    exact (alike_init (ho _ (List.getElem_mem hkl)) (ho _ hxm)).2 e
end Go.Proofs.YtgpliiepoimcbaaDoor
end
section
/- The walk of invariant's twice. -/
namespace Go.Proofs.YtgpliiepoimcbaaDoor
open Go.RowKit
set_option maxRecDepth 100000

abbrev AvX (X : Nat → Prop) (W : World) (bm : Nat) : Nat → Prop := fun q => (¬ X q ∧ q < W.heap.size) ∨ q = bm

/-- The table of twice. -/
structure TwT (X : Nat → Prop) (W : World) (bt bm : Nat) (T : List Node) (L : List TEnt) : Prop where
  tab : TableAt (AvX X W bm) W bt bm L
  xbt : X bt
  xbm : X bm
  ne : bm ≠ bt
  mem : ∀ m, (tget L m).isSome = true ↔ m ∈ T
  pow : Tab W
theorem TwT.noted {X : Nat → Prop} {W W' : World} {bt bm : Nat} {T : List Node} {L : List TEnt} (h : TwT X W bt bm T L) (hf : Fr (fun q => ¬ X q) W W') (hx : ∀ q, X q → q < W.heap.size) (hp : Tab W') : TwT X W' bt bm T L := by
  obtain ⟨h1, h2, h3, h4, h5, h6⟩ := h
  refine ⟨?_, h2, h3, h4, h5, hp⟩
  refine (h1.more.fr hf (fun h => h h2) (fun h => h h3) (fun k hk hn => .inl (.inl ⟨hn, hk⟩))).weaken (fun k _ hk => ?_)
  rcases hk with hk | hk
  · by_cases e : k < W.heap.size
    · exact .inl (.inl ⟨hk.1, e⟩)
    · exact .inr (by omega)
  · exact .inl (.inr hk)
/-- Reads, and new blocks of its own. -/
theorem TwT.grow {X X' : Nat → Prop} {W W' : World} {bt bm : Nat} {T : List Node} {L : List TEnt} (h : TwT X W bt bm T L) (hf : Fr NoB W W') (hx : ∀ q, X q → X' q) (hn : ∀ q, W.heap.size ≤ q → q < W'.heap.size → X' q) : TwT X' W' bt bm T L := by
  obtain ⟨h1, h2, h3, h4, h5, h6⟩ := h
  refine ⟨?_, hx _ h2, hx _ h3, h4, h5, h6.fr hf (fun h => h)⟩
  refine (h1.fr hf (fun h => h) (fun h => h) (fun _ _ h => h.elim)).weaken (fun k _ hk => ?_)
  rcases hk with hk | hk
  · by_cases e : k < W.heap.size
    · exact .inl ⟨fun h => hk.1 (hx k h), e⟩
    · exact absurd (hn k (by omega) hk.2) hk.1
  · exact .inr hk

set_option maxHeartbeats 4000000 in
theorem twice2_any (M : Nat → Prop) (sN sL sR : Value) (d : Dmp) (w : World) (br : Nat) (l : List Flw) (hd : RdD M w sN sL sR d) (hr : RepAt M w br l) (hlen : d.nodes.length ≤ 1000000) (hll : l.length ≤ 1000000) (ht : Tab w) (hMT : ¬ M TB)
    (hok : ∀ x ∈ d.nodes, NodeOk x.1 ∧ NodeSm x.1) (hord : ∀ x ∈ d.nodes, ∀ y ∈ x.1.args, 0 ≤ y ∧ y < d.nodes.length) :
    Calls Tryd.prog 20 #[dumpV sN sL sR, .func (.func 19) #[.pointer (some ⟨br, 0, none⟩)] #[]] w fun e w' => e = .returned (.tuple #[]) ∧
      (∃ M', RepAt M' w' br (l ++ fls 4 (twiceAt (nsOf d)) d.nodes.length) ∧ Gr M M' w) ∧ Fr M w w' := by
  obtain ⟨p, c1, hp⟩ := hd.nodes.form
  subst hp
  have S0 := hid (RepS.start hd hr)
  have HT := hid ht
  have HMT := hid hMT
  have HOK := hid hok
  have HORD : Hid (∀ y ∈ nsOf d, ∀ a ∈ y.args, 0 ≤ a ∧ a < (nsOf d).length) := by
    intro y hy a ha
    rw [nsOf_length]
    unfold nsOf at hy
    obtain ⟨x, hx, rfl⟩ := List.mem_map.1 hy
    exact hord x hx a ha
  have HX : Hid (∀ k, k < w.heap.size → ¬ (k = w.heap.size)) := fun k h e => by omega
  clear hd hr ht hMT hok hord
  unfold dumpV
  go_enter Tryd.func20, Tryd.ntmps20
  go_wp2_with fail
  refine (new_any _).mono ?_
  rintro e w1 ⟨bm, bt, rfl, b1, b2, b3, tab, hf⟩
  simp only [World.size_alloc] at b1 b2
  obtain ⟨X, hX⟩ : ∃ X : Nat → Prop, X = (fun q => w.heap.size ≤ q ∧ q < w1.heap.size) := ⟨_, rfl⟩
  have hsz : w.heap.size + 1 ≤ w1.heap.size := by have := hf.size; simp only [World.size_alloc] at this; omega
  have hmt : bm < w1.heap.size := (tab NoB).map.lt
  have hbt : bt < w1.heap.size := (tab NoB).lt
  have S1 : Hid (RepS M w (.slice p d.nodes.length c1) sL sR d br l [] X w1) := S0.out.grow hf (fun q hq => by rw [hX] at hq; simp only [World.size_alloc]; by_cases e : q = w.heap.size; exact .inl e; exact .inr (by omega)) (by rw [hX]; omega)
  have T1 : Hid (TwT X w1 bt bm [] []) := ⟨tab _, by rw [hX]; omega, by rw [hX]; omega, b3, fun m => by simp [tget], HT.out.fr (((Fr.refl NoB w).alloc _).step hf) (fun h => h)⟩
  clear hX hmt hbt hsz tab hf b1 b2 b3 S0 HX
  obtain ⟨d0, d1, d2, df, dl⟩ := three_of S1.out.box
  go_wp2
  clear d0 d1 d2 df dl
  go_loopw [11] (fun j wr => ∃ (k : Nat), k ≤ d.nodes.length ∧ j = .int .i64 k ∧ (∃ X L, RepS M w (.slice p d.nodes.length c1) sL sR d br l (fls 4 (twiceAt (nsOf d)) k) X wr ∧ TwT X wr bt bm ((nsOf d).take k) L)) (fun j _ => d.nodes.length - (intOf j).toNat)
  case atStart => exact ⟨0, Nat.zero_le _, rfl, X, [], by simpa [fls] using S1.out, by simpa using T1.out⟩
  case round =>
    obtain ⟨k, hk, rfl, X, L, hs, htt⟩ := hrel
    have S := hid hs
    have T := hid htt
    clear hs htt S1 T1
    by_cases hlt : k < d.nodes.length
    · obtain ⟨b, off, rfl, e0, e1, e2, e3, e4, ha⟩ := S.out.rd.nodes.nodeK hlt
      have HX := hid (nsOf_at hlt)
      have HMEM := hid (List.getElem_mem hlt)
      obtain ⟨x, hx⟩ : ∃ x, d.nodes[k] = x := ⟨_, rfl⟩
      rw [hx] at e0 e1 e2 e3 e4 ha HX HMEM
      obtain ⟨xn, xs⟩ := x
      simp only at e0 e1 e2 e3 e4 ha HX
      obtain ⟨xa, xc, hv⟩ := ha.form
      subst hv
      have HA := hid ha
      have HTW := hid (twice_mem HX.out HORD.out)
      have TK : Hid ((nsOf d).take (k + 1) = (nsOf d).take k ++ [xn]) := by show _ = _; rw [List.take_add_one, HX.out]; rfl
      have HF1 := hid (fls_le 4 (twiceAt (nsOf d)) k)
      clear hx ha
      go_wp2_with fail
      clear e0 e1 e2 e3 e4
      have FA := (Fr.refl NoB wr).alloc (.cells (nodeCells xn (.slice xa xn.args.length xc)) 40)
      have hsz : (wr.alloc (.cells (nodeCells xn (.slice xa xn.args.length xc)) 40)).heap.size = wr.heap.size + 1 := by simp
      obtain ⟨X1, hX1⟩ : ∃ X1 : Nat → Prop, X1 = (fun q => X q ∨ q = wr.heap.size) := ⟨_, rfl⟩
      have S0 : Hid (RepS M w (.slice (some ⟨b, off, none⟩) d.nodes.length c1) sL sR d br l (fls 4 (twiceAt (nsOf d)) k) X1 (wr.alloc (.cells (nodeCells xn (.slice xa xn.args.length xc)) 40))) := S.out.grow FA (fun q hq => by rw [hX1] at hq; exact hq.imp_right (fun h => by omega)) (by rw [hX1]; exact .inl S.out.bx)
      have T0 : Hid (TwT X1 (wr.alloc (.cells (nodeCells xn (.slice xa xn.args.length xc)) 40)) bt bm ((nsOf d).take k) L) := T.out.grow FA (fun q h => by rw [hX1]; exact .inl h) (fun q h1 h2 => by rw [hX1]; exact .inr (by omega))
      have HA0 := hid (HA.out.fr FA (fun _ _ h => h.elim))
      have HNB := hid (at_new wr (.cells (nodeCells xn (.slice xa xn.args.length xc)) 40))
      obtain ⟨wb, hwb⟩ : ∃ wb, wr.alloc (.cells (nodeCells xn (.slice xa xn.args.length xc)) 40) = wb := ⟨_, rfl⟩
      rw [hwb] at S0 T0 HA0 HNB ⊢
      clear hwb hX1 hsz FA S T HA
      cases hg : tget L xn with
      | some y =>
        have HTT : Hid (twiceAt (nsOf d) k = true) := HTW.out.2 ((T0.out.mem xn).1 (by rw [hg]; rfl))
        refine (put_some (AvX X1 wb bm) _ wb bt bm L T0.out.tab xn _ k HA0.out (HOK.out _ HMEM.out).1 (HOK.out _ HMEM.out).2 T0.out.pow y hg).mono ?_
        rintro e w2 ⟨rfl, hf⟩
        obtain ⟨X2, hX2⟩ : ∃ X2 : Nat → Prop, X2 = (fun q => X1 q ∨ (wb.heap.size ≤ q ∧ q < w2.heap.size)) := ⟨_, rfl⟩
        have S2 : Hid (RepS M w (.slice (some ⟨b, off, none⟩) d.nodes.length c1) sL sR d br l (fls 4 (twiceAt (nsOf d)) k) X2 w2) := S0.out.grow hf (fun q hq => by rw [hX2] at hq; exact hq) (by rw [hX2]; exact .inl S0.out.bx)
        have T2 : Hid (TwT X2 w2 bt bm ((nsOf d).take k) L) := T0.out.grow hf (fun q h => by rw [hX2]; exact .inl h) (fun q h1 h2 => by rw [hX2]; exact .inr ⟨h1, h2⟩)
        have HIN := hid ((T0.out.mem xn).1 (by rw [hg]; rfl))
        clear hf hX2 hg S0 T0
        obtain ⟨M3, n3, k3⟩ := S2.out.noted
        have HN3 := hid n3
        have HK3 := hid k3
        clear n3 k3
        go_wp2_with fail
        refine (repAdd_any M3 _ br _ 4 k HN3.out ?_).mono ?_
        · simp only [List.length_append]
          have h1 := HF1.out
          omega
        rintro e w9 ⟨rfl, ⟨M4, n4, g4⟩, f4⟩
        have S9 := hid (HK3.out w9 M4 _ n4 g4 f4)
        clear n4 g4 f4
        have T9 : Hid (TwT X2 w9 bt bm ((nsOf d).take (k + 1)) L) := by
          have h := T2.out.noted S9.out.2 (fun q hq => (S2.out.x q hq).2) (HT.out.fr S9.out.1.fr HMT.out)
          refine ⟨h.tab, h.xbt, h.xbm, h.ne, fun m => ?_, h.pow⟩
          rw [h.mem m, TK.out, List.mem_append, List.mem_singleton]
          exact ⟨.inl, fun h => h.elim id (fun e => by rw [e]; exact HIN.out)⟩
        go_wp2
        go_roundw
        case rel => exact ⟨k + 1, by omega, by go_num, X2, L, by rw [fls_on HTT.out]; exact S9.out.1, T9.out⟩
        case measure => simp [intOf]; omega
      | none =>
        have HNI : Hid (xn ∉ (nsOf d).take k) := fun h => by
          have := (T0.out.mem xn).2 h
          rw [hg] at this; cases this
        have HTF : Hid (twiceAt (nsOf d) k = false) := by
          show _ = _
          cases h : twiceAt (nsOf d) k with
          | false => rfl
          | true => exact absurd (HTW.out.1 h) HNI.out
        have hbmlt := T0.out.tab.map.lt
        refine (put_none (AvX X1 wb bm) _ wb bt bm L T0.out.tab xn _ k HA0.out (HOK.out _ HMEM.out).1 (HOK.out _ HMEM.out).2 T0.out.pow hg (.inr rfl) T0.out.ne (fun q hq => by rcases hq with h | h; exact h.2; omega)).mono ?_
        rintro e w2 ⟨rfl, ⟨sl, ht2⟩, hf⟩
        obtain ⟨X2, hX2⟩ : ∃ X2 : Nat → Prop, X2 = (fun q => X1 q ∨ (wb.heap.size ≤ q ∧ q < w2.heap.size)) := ⟨_, rfl⟩
        have hx1 := S0.out.x _ T0.out.xbm
        have hbne : bm ≠ w.heap.size := fun e => by
          have h5 := S0.out.box
          rw [← e] at h5
          exact T0.out.tab.map.ne_cells h5 rfl
        have S2 : Hid (RepS M w (.slice (some ⟨b, off, none⟩) d.nodes.length c1) sL sR d br l (fls 4 (twiceAt (nsOf d)) k) X2 w2) := S0.out.turn' hf (fun q e => by rw [show q = bm from e]; exact ⟨T0.out.xbm, hbne⟩) (fun q hq => by rw [hX2] at hq; exact hq) (by rw [hX2]; exact .inl S0.out.bx)
        have T2 : Hid (TwT X2 w2 bt bm ((nsOf d).take (k + 1)) (L ++ [⟨xn, sl, k⟩])) := by
          refine ⟨ht2.weaken (fun q _ hq => ?_), by rw [hX2]; exact .inl T0.out.xbt, by rw [hX2]; exact .inl T0.out.xbm, T0.out.ne, fun m => ?_, T0.out.pow.fr hf (fun e => ?_)⟩
          · rcases hq with hq | hq
            · rw [hX2] at hq
              by_cases e : q < wb.heap.size
              · exact .inl ⟨fun h => hq.1 (.inl h), e⟩
              · exact absurd (.inr ⟨by omega, hq.2⟩) hq.1
            · exact .inr hq
          · rw [TK.out, List.mem_append, List.mem_singleton, ← T0.out.mem m, tget_isSome, tget_isSome]
            constructor
            · rintro ⟨y, hy, e⟩
              rw [List.mem_append, List.mem_singleton] at hy
              rcases hy with hy | hy
              · exact .inl ⟨y, hy, e⟩
              · subst hy; exact .inr e.symm
            · rintro (⟨y, hy, e⟩ | e)
              · exact ⟨y, List.mem_append_left _ hy, e⟩
              · exact ⟨_, List.mem_append_right _ (List.mem_singleton.2 rfl), e.symm⟩
          · have := HT.out.lt
            have e2 : TB = bm := e
            omega
        clear hf hX2 hg S0 T0 ht2 hx1 hbne hbmlt
        go_wp2
        go_roundw
        case rel => exact ⟨k + 1, by omega, by go_num, X2, _, by rw [fls_off HTF.out]; exact S2.out, T2.out⟩
        case measure => simp [intOf]; omega
    · obtain rfl : k = d.nodes.length := by omega
      go_wp2
      go_end0
      obtain ⟨M', h1, h2, _⟩ := S.out.rep
      exact ⟨rfl, ⟨M', h1, h2⟩, S.out.fr⟩
end Go.Proofs.YtgpliiepoimcbaaDoor
end
section
/- The walk of invariant's links. -/
namespace Go.Proofs.YtgpliiepoimcbaaDoor
open Go.RowKit
set_option maxRecDepth 100000

abbrev NewX (X : Nat → Prop) (W W' : World) : Nat → Prop := fun q => X q ∨ (W.heap.size ≤ q ∧ q < W'.heap.size)
/-- The state of links' first loop: k kinds are found, kf links are in the forest at bf. -/
structure LkS (M : Nat → Prop) (w : World) (sN sL sR : Value) (d : Dmp) (br : Nat) (l F : List Flw) (g bf : Nat) (k kf : Nat) (Mf X : Nat → Prop) (W : World) : Prop where
  st : RepS M w sN sL sR d br l F X W
  row : IntAt W g (fillI (lkBad (nsOf d) d.links) k d.links.length)
  xg : X g
  gb : g ≠ w.heap.size
  frs : ∃ Lf r, ForAt Mf W bf Lf r ∧ (∀ q, Mf q → X q) ∧ ¬ Mf g ∧ ¬ Mf w.heap.size ∧ PR r (lbAt d.nodes.length d.links kf) ∧ Lf.length ≤ kf
section
variable {M : Nat → Prop} {w : World} {sN sL sR : Value} {d : Dmp} {br : Nat} {l F : List Flw} {g bf k kf : Nat} {Mf X : Nat → Prop} {W W' : World}
theorem LkS.grow (h : LkS M w sN sL sR d br l F g bf k kf Mf X W) (hf : Fr NoB W W') : LkS M w sN sL sR d br l F g bf k kf Mf (NewX X W W') W' := by
  obtain ⟨h1, h2, h3, h4, Lf, r, h5, h6, h7, h8, h9⟩ := h
  exact ⟨h1.grow hf (fun _ h => h) (.inl h1.bx), h2.fr hf (fun h => h), .inl h3, h4, Lf, r, h5.step hf, fun q hq => .inl (h6 q hq), h7, h8, h9⟩
theorem LkS.set (h : LkS M w sN sL sR d br l F g bf k kf Mf X W) (hk : k < d.links.length) {v : Int} (hv : lkBad (nsOf d) d.links k = v) : LkS M w sN sL sR d br l F g bf (k + 1) kf Mf X (W.setCell ⟨g, k, none⟩ (.int .i64 v)) := by
  obtain ⟨h1, h2, h3, h4, Lf, r, h5, h6, h7, h8, h9⟩ := h
  have hf : Fr (fun q => q = g) W (W.setCell ⟨g, k, none⟩ (.int .i64 v)) := (Fr.refl (fun q => q = g) W).setCell (p := ⟨g, k, none⟩) (fun _ => rfl) _
  refine ⟨h1.turn hf (fun q e => by rw [show q = g from e]; exact ⟨h3, h4⟩), ?_, h3, h4, Lf, r, h5.fr hf (fun q hq e => h7 (by rw [← show q = g from e]; exact hq)), h6, h7, h8, h9⟩
  have := h2.set k v
  rw [fillI_on hk hv] at this
  exact this
theorem LkS.skip (h : LkS M w sN sL sR d br l F g bf k kf Mf X W) (hk : k < d.links.length) (hv : lkBad (nsOf d) d.links k = 0) : LkS M w sN sL sR d br l F g bf (k + 1) kf Mf X W := by
  obtain ⟨h1, h2, h3, h4, h5⟩ := h
  rw [fillI_off hk hv] at h2
  exact ⟨h1, h2, h3, h4, h5⟩
theorem LkS.out (h : LkS M w sN sL sR d br l F g bf k kf Mf X W) {x : Lnk} (hx : d.links[kf]? = some x) (hin : lbIn d.nodes.length x = false) : LkS M w sN sL sR d br l F g bf k (kf + 1) Mf X W := by
  obtain ⟨h1, h2, h3, h4, Lf, r, h5, h6, h7, h8, h9, h10⟩ := h
  refine ⟨h1, h2, h3, h4, Lf, r, h5, h6, h7, h8, ?_, by omega⟩
  have hk := (List.getElem?_eq_some_iff.1 hx)
  obtain ⟨hk1, hk2⟩ := hk
  rw [lbAt_succ _ _ hk1, hk2]
  have := h9.step (lbAt_length _ _ _) x
  unfold rStep at this
  rw [if_neg (fun h => by rw [hin] at h; cases h.1)] at this
  exact this
/-- The call of Link. -/
theorem LkS.link (h : LkS M w sN sL sR d br l F g bf k kf Mf X W) {x : Lnk} (hx : d.links[kf]? = some x) (hin : lbIn d.nodes.length x = true) : ∃ Lf r, ForAt Mf W bf Lf r ∧ Lf.length ≤ kf ∧ PR r (lbAt d.nodes.length d.links kf) ∧
    ∀ e W2, LinkPost Mf W bf Lf r x.a x.b x.why e W2 → e = .returned (.bool (decide (r x.a ≠ r x.b))) ∧ (∃ Mf', LkS M w sN sL sR d br l F g bf k (kf + 1) Mf' (NewX X W W2) W2) ∧ (∀ q c, q < W.heap.size → ¬ Mf q → W.cell? ⟨q, c, none⟩ = W2.cell? ⟨q, c, none⟩) ∧ W.heap.size ≤ W2.heap.size := by
  obtain ⟨h1, h2, h3, h4, Lf, r, h5, h6, h7, h8, h9, h10⟩ := h
  refine ⟨Lf, r, h5, h10, h9, fun e W2 hp => ?_⟩
  unfold LinkPost at hp
  obtain ⟨he, ⟨M', h11, h12⟩, hf⟩ := hp
  have hh := hin
  unfold lbIn at hh
  simp only [decide_eq_true_eq] at hh
  have hb : (0 ≤ x.a ∧ 0 ≤ x.b ∧ r x.a ≠ r x.b) ↔ r x.a ≠ r x.b := ⟨fun h => h.2.2, fun h => ⟨hh.1, hh.2.1, h⟩⟩
  have hk := (List.getElem?_eq_some_iff.1 hx)
  obtain ⟨hk1, hk2⟩ := hk
  have hpr := h9.step (lbAt_length _ _ _) x
  rw [← hk2, ← lbAt_succ _ _ hk1, hk2] at hpr
  have hlt := h2.lt
  have hbl := (h1.x _ h1.bx).2
  refine ⟨by rw [he]; simp only [hb], ⟨M', h1.turn' hf (fun q hq => ⟨h6 q hq, fun e => h8 (e ▸ hq)⟩) (fun _ h => h) (.inl h1.bx), h2.fr hf h7, .inl h3, h4, _, _, h11, fun q hq => ?_, fun h => ?_, fun h => ?_, ?_, ?_⟩, fun q c hq hn => (hf.cell (p := ⟨q, c, none⟩) hq hn).symm, hf.size⟩
  · rcases h12 q hq with h | h
    · exact .inl (h6 q h)
    · exact .inr ⟨h, h11.lt q hq⟩
  · rcases h12 _ h with h | h
    · exact h7 h
    · omega
  · rcases h12 _ h with h | h
    · exact h8 h
    · omega
  · unfold rStep at hpr
    by_cases c : r x.a ≠ r x.b
    · rw [if_pos ⟨hin, c⟩] at hpr
      rw [if_pos ⟨hh.1, hh.2.1, c⟩]; exact hpr
    · rw [if_neg (fun h => c h.2)] at hpr
      rw [if_neg (fun h => c h.2.2)]; exact hpr
  · split
    · rw [List.length_append, List.length_singleton]; omega
    · omega
theorem LkS.flt (h : LkS M w sN sL sR d br l F g bf k kf Mf X W) : ∀ q, Mf q → q < W.heap.size := by
  obtain ⟨_, _, _, _, Lf, r, h5, _⟩ := h
  exact h5.lt
end


set_option maxHeartbeats 4000000 in
theorem links_any (M : Nat → Prop) (sN sL sR : Value) (d : Dmp) (w : World) (br : Nat) (l : List Flw) (hd : RdD M w sN sL sR d) (hr : RepAt M w br l) (hlen : d.nodes.length ≤ 1000000) (hlk : d.links.length ≤ 1000000) (hll : l.length ≤ 1000000) :
    Calls Tryd.prog 21 #[dumpV sN sL sR, .func (.func 19) #[.pointer (some ⟨br, 0, none⟩)] #[]] w fun e w' => e = .returned (.tuple #[]) ∧
      (∃ M', RepAt M' w' br (l ++ lkPre (nsOf d) d.links 3) ∧ Gr M M' w) ∧ Fr M w w' := by
  obtain ⟨p, c1, hp⟩ := hd.nodes.form
  subst hp
  obtain ⟨pl, cl, hp⟩ := hd.links.form3
  subst hp
  have S0 := hid (RepS.start hd hr)
  have hmk := fun w => make_ints w d.links.length hlk
  clear hd hr
  unfold dumpV
  go_enter Tryd.func21, Tryd.ntmps21
  go_wp2_with fail
  clear hmk
  refine (fnew_any _).mono ?_
  rintro e w1 ⟨bf, Mf, rfl, hF, hM, hf⟩
  have fa : Fr NoB (w.alloc (.cells (dumpCells (.slice p d.nodes.length c1) (.slice pl d.links.length cl) sR) 26)) w1 := ((Fr.refl NoB _).alloc (.cells (Array.replicate d.links.length (.int .i64 0)) 3)).step hf
  have hsz : w.heap.size + 2 ≤ w1.heap.size := by have := hf.size; simp only [World.size_alloc] at this; omega
  simp only [World.size_alloc] at hM
  obtain ⟨X, hX⟩ : ∃ X : Nat → Prop, X = (fun q => w.heap.size ≤ q ∧ q < w1.heap.size) := ⟨_, rfl⟩
  have S1 : Hid (LkS M w (.slice p d.nodes.length c1) (.slice pl d.links.length cl) sR d br l [] (w.heap.size + 1) bf 0 0 Mf X w1) := by
    refine ⟨S0.out.grow fa (fun q hq => by rw [hX] at hq; simp only [World.size_alloc]; by_cases e : q = w.heap.size; exact .inl e; exact .inr (by omega)) (by rw [hX]; omega), ?_, by rw [hX]; omega, by omega, [], _, hF, fun q hq => by rw [hX]; exact ⟨by have := hM q hq; omega, hF.lt q hq⟩, fun h => by have := hM _ h; omega, fun h => by have := hM _ h; omega, PR.init _, Nat.le_refl _⟩
    show IntAt _ _ (List.replicate d.links.length 0)
    unfold IntAt
    rw [← repI]
    exact hf.at (fun h => h) (at_new' (by simp))
  clear S0 fa hsz hX hF hM hf
  obtain ⟨d0, d1, d2, df, dl⟩ := three_of S1.out.st.box
  go_wp2
  clear d0 d1 d2 df dl
  obtain ⟨g, hg⟩ : ∃ g, w.heap.size + 1 = g := ⟨_, rfl⟩
  rw [hg] at S1 ⊢
  clear hg
  go_loopw [19] (fun j wr => ∃ (k : Nat), k ≤ d.links.length ∧ j = .int .i64 k ∧ (∃ Mf X, LkS M w (.slice p d.nodes.length c1) (.slice pl d.links.length cl) sR d br l [] g bf k k Mf X wr)) (fun j _ => d.links.length - (intOf j).toNat)
  case atStart => exact ⟨0, Nat.zero_le _, rfl, Mf, X, S1.out⟩
  case round =>
    obtain ⟨k, hk, rfl, Mf, X, hs⟩ := hrel
    have S := hid hs
    clear hs S1
    by_cases hlt : k < d.links.length
    · obtain ⟨b, off, rfl, _, e0, e1, e2⟩ := S.out.st.rd.links.lkK hlt
      have HX := hid (List.getElem?_eq_getElem hlt)
      obtain ⟨x, hx⟩ : ∃ x, d.links[k] = x := ⟨_, rfl⟩
      rw [hx] at e0 e1 e2 HX
      clear hx
      obtain ⟨d0, d1, d2, df, dl⟩ := three_of S.out.st.box
      go_wp2_with fail
      clear d0 d1 d2 df dl e0 e1 e2
      have F0 := (Fr.refl NoB wr).alloc (.cells #[.int .i64 x.a, .int .i64 x.b, .int .i64 x.why] 50)
      have S0 := hid (S.out.grow F0)
      have HB0 := hid (at_new wr (.cells #[.int .i64 x.a, .int .i64 x.b, .int .i64 x.why] 50))
      have HQ := hid S.out.flt
      clear F0 S
      refine (inside_id_any _ _ _ p d.nodes.length c1 rfl x.a _).mono ?_
      rintro e w2 ⟨rfl, hf⟩
      have S2 := hid (S0.out.grow hf)
      have HB2 := hid (hf.at (fun h => h) HB0.out)
      have HSZ2 : Hid (wr.heap.size < w2.heap.size) := (Array.getElem?_eq_some_iff.1 HB2.out).1
      clear hf S0 HB0
      have H5 : Hid (lbIn d.nodes.length x = false → lkBad (nsOf d) d.links k = 5) := fun h => by
        unfold lkBad
        rw [HX.out]
        simp [nsOf_length, h]
      by_cases hA : 0 ≤ x.a ∧ x.a < d.nodes.length
      rotate_left
      · have hq : decide (0 ≤ x.a ∧ x.a < (d.nodes.length : Int)) = false := by simpa using hA
        have hin : lbIn d.nodes.length x = false := by unfold lbIn; simp; omega
        have HV := hid (H5.out hin)
        have S3 := hid (S2.out.out HX.out hin)
        rw [hq]
        clear hq hA hin
        obtain ⟨bv, ck⟩ : ∃ bv, w2.cell? ⟨g, k, none⟩ = some (.int .i64 bv) := ⟨_, S3.out.row.cell (by rw [fillI_len _ (by omega)]; exact hlt)⟩
        have fk := S3.out.row.free k
        go_wp2
        go_roundw
        case rel => exact ⟨k + 1, by omega, by go_num, _, _, S3.out.set hlt HV.out⟩
        case measure => simp [intOf]; omega
      · have hq : decide (0 ≤ x.a ∧ x.a < (d.nodes.length : Int)) = true := by simpa using hA
        rw [hq]
        have HA := hid hA
        clear hq hA
        obtain ⟨d0, d1, d2, df, dl⟩ := three_of S2.out.st.box
        obtain ⟨y0, y1, y2, yf, yl⟩ := three_of HB2.out
        go_wp2_with fail
        clear d0 d1 d2 df dl y0 y1 y2 yf yl
        refine (inside_id_any _ _ _ p d.nodes.length c1 rfl x.b _).mono ?_
        rintro e w3 ⟨rfl, hf⟩
        have S3 := hid (S2.out.grow hf)
        have HB3 := hid (hf.at (fun h => h) HB2.out)
        have HSZ3 : Hid (wr.heap.size < w3.heap.size) := (Array.getElem?_eq_some_iff.1 HB3.out).1
        clear hf S2 HB2
        by_cases hB : 0 ≤ x.b ∧ x.b < d.nodes.length
        rotate_left
        · have hq : decide (0 ≤ x.b ∧ x.b < (d.nodes.length : Int)) = false := by simpa using hB
          have hin : lbIn d.nodes.length x = false := by unfold lbIn; simp; omega
          have HV := hid (H5.out hin)
          have S4 := hid (S3.out.out HX.out hin)
          rw [hq]
          clear hq hB hin
          obtain ⟨bv, ck⟩ : ∃ bv, w3.cell? ⟨g, k, none⟩ = some (.int .i64 bv) := ⟨_, S4.out.row.cell (by rw [fillI_len _ (by omega)]; exact hlt)⟩
          have fk := S4.out.row.free k
          go_wp2
          go_roundw
          case rel => exact ⟨k + 1, by omega, by go_num, _, _, S4.out.set hlt HV.out⟩
          case measure => simp [intOf]; omega
        · have hq : decide (0 ≤ x.b ∧ x.b < (d.nodes.length : Int)) = true := by simpa using hB
          rw [hq]
          have HBb := hid hB
          have HIN : Hid (lbIn d.nodes.length x = true) := by
            have := HA.out
            show _ = _
            unfold lbIn; simp; omega
          clear hq hB
          obtain ⟨y0, y1, y2, yf, yl⟩ := three_of HB3.out
          go_wp2_with fail
          clear y0 y1 y2 yf yl
          obtain ⟨Lf, r, hF, hL, hPR, post⟩ := S3.out.link HX.out HIN.out
          have POST := hid post
          have HPR := hid hPR
          clear post hPR
          refine (flink_any Mf _ bf Lf r x.a x.b x.why hF (by omega)).mono ?_
          intro e w4 hp
          obtain ⟨he, ⟨Mf', s4⟩, hcell, hs4⟩ := POST.out e w4 hp
          subst he
          have S4 := hid s4
          have HC4 : Hid (w4.cell? ⟨wr.heap.size, 0, none⟩ = some (.int .i64 x.a) ∧ w4.cell? ⟨wr.heap.size, 1, none⟩ = some (.int .i64 x.b)) := by
            obtain ⟨y0, y1, y2, yf, yl⟩ := three_of HB3.out
            have hn : ¬ Mf wr.heap.size := fun h => by have := HQ.out _ h; omega
            exact ⟨(hcell _ _ HSZ3.out hn).symm.trans y0, (hcell _ _ HSZ3.out hn).symm.trans y1⟩
          have HLB := hid (lkBad_of HX.out (by rw [nsOf_length]; exact HPR.out))
          rw [nsOf_length, HIN.out] at HLB
          have HSZ4 : Hid (wr.heap.size < w4.heap.size) := by have := HSZ3.out; show _ < _; omega
          clear hp s4 hcell hs4 POST hF hL S3 HB3
          by_cases hr : r x.a = r x.b
          · have hq : decide (r x.a ≠ r x.b) = false := by simpa using hr
            have HV : Hid (lkBad (nsOf d) d.links k = 6) := by show _ = _; rw [HLB.out, if_neg (by simp), if_pos hr]
            rw [hq]
            clear hq hr
            obtain ⟨bv, ck⟩ : ∃ bv, w4.cell? ⟨g, k, none⟩ = some (.int .i64 bv) := ⟨_, S4.out.row.cell (by rw [fillI_len _ (by omega)]; exact hlt)⟩
            have fk := S4.out.row.free k
            go_wp2
            go_roundw
            case rel => exact ⟨k + 1, by omega, by go_num, _, _, S4.out.set hlt HV.out⟩
            case measure => simp [intOf]; omega
          · have hq : decide (r x.a ≠ r x.b) = true := by simpa using hr
            have HR := hid hr
            rw [hq]
            clear hq hr
            obtain ⟨a0, a1⟩ := HA.out
            obtain ⟨b0, b1⟩ := HBb.out
            have ha : x.a.toNat < d.nodes.length := by omega
            have hb : x.b.toNat < d.nodes.length := by omega
            obtain ⟨bn, on, hp1, _, g1, _, _, _, _⟩ := S4.out.st.rd.nodes.nodeK ha
            subst hp1
            obtain ⟨bn', on', hp2, _, g2, _, _, _, _⟩ := S4.out.st.rd.nodes.nodeK hb
            simp only [Option.some.injEq, Addr.mk.injEq, and_true] at hp2
            obtain ⟨rfl, rfl⟩ := hp2
            have HWA := hid (wAt_of (d := d) (a := x.a) (List.getElem?_eq_getElem ha))
            have HWB := hid (wAt_of (d := d) (a := x.b) (List.getElem?_eq_getElem hb))
            generalize d.nodes[x.a.toNat] = na at g1 HWA
            generalize d.nodes[x.b.toNat] = nb at g2 HWB
            obtain ⟨d0, d1, d2, df, dl⟩ := three_of S4.out.st.box
            obtain ⟨y0, y1⟩ := HC4.out
            have db := lt_of_cell g1
            have yl := HSZ4.out
            by_cases hw : na.1.width = nb.1.width
            · have hq : (na.1.width != nb.1.width) = false := by simpa using hw
              have HV : Hid (lkBad (nsOf d) d.links k = 0) := by show _ = _; rw [HLB.out, if_neg (by simp), if_neg HR.out, HWA.out, HWB.out, if_neg (by simpa using hw)]
              clear hw df
              go_wp2
              refine region_txt (Fr NoB _) (by kernel_rfl) (by kernel_rfl) ((Fr.refl NoB _).drew) ?_
              repeat (first | (refine txt_off (by rfl) ?_; (try simp only [Act.put, List.setIfInBounds_toArray, List.set_cons_zero, List.set_cons_succ])) | (refine txt_read ?_ (by rfl) ?_ ?_; rotate_left; (focus (intro W hW; have hWc := Fr.cq hW; clear hW; go_simp; (try with_reducible rfl); done)); (try simp only [Act.put, List.setIfInBounds_toArray, List.set_cons_zero, List.set_cons_succ])))
              refine txt_nil ?_
              intro W hW
              have S5 := hid (S4.out.grow hW)
              clear hW d0 d1 d2 dl y0 y1 g1 g2 db yl
              go_wp2
              go_roundw
              case rel => exact ⟨k + 1, by omega, by go_num, _, _, S5.out.skip hlt HV.out⟩
              case measure => simp [intOf]; omega
            · have hq : (na.1.width != nb.1.width) = true := by simpa using hw
              have HV : Hid (lkBad (nsOf d) d.links k = 7) := by show _ = _; rw [HLB.out, if_neg (by simp), if_neg HR.out, HWA.out, HWB.out, if_pos hw]
              clear hw df
              go_wp2
              refine region_txt (Fr NoB _) (by kernel_rfl) (by kernel_rfl) ((Fr.refl NoB _).drew) ?_
              repeat (first | (refine txt_off (by rfl) ?_; (try simp only [Act.put, List.setIfInBounds_toArray, List.set_cons_zero, List.set_cons_succ])) | (refine txt_read ?_ (by rfl) ?_ ?_; rotate_left; (focus (intro W hW; have hWc := Fr.cq hW; clear hW; go_simp; (try with_reducible rfl); done)); (try simp only [Act.put, List.setIfInBounds_toArray, List.set_cons_zero, List.set_cons_succ])))
              refine txt_nil ?_
              intro W hW
              have S5 := hid (S4.out.grow hW)
              clear hW d0 d1 d2 dl y0 y1 g1 g2 db yl
              obtain ⟨bv, ck⟩ : ∃ bv, W.cell? ⟨g, k, none⟩ = some (.int .i64 bv) := ⟨_, S5.out.row.cell (by rw [fillI_len _ (by omega)]; exact hlt)⟩
              have fk := S5.out.row.free k
              go_wp2
              go_roundw
              case rel => exact ⟨k + 1, by omega, by go_num, _, _, S5.out.set hlt HV.out⟩
              case measure => simp [intOf]; omega
    · obtain rfl : k = d.links.length := by omega
      have ROW := S.out.row
      rw [fillI_all] at ROW
      have RS := hid S.out.st
      have RW := hid ROW
      have XG := hid S.out.xg
      have GB := hid S.out.gb
      clear ROW S
      go_wp2
      go_loopw [8] (fun j wr => ∃ (q : Nat), 5 ≤ q ∧ q ≤ 8 ∧ j = .int .i64 q ∧ (RepS M w (.slice p d.nodes.length c1) (.slice pl d.links.length cl) sR d br l (lkPre (nsOf d) d.links (q - 5)) X wr ∧ IntAt wr g ((List.range d.links.length).map (lkBad (nsOf d) d.links)))) (fun j _ => 8 - (intOf j).toNat)
      case atStart => exact ⟨5, by omega, by omega, rfl, RS.out, RW.out⟩
      case round =>
        obtain ⟨q, hq5, hq8, rfl, hs, hrow⟩ := hrel
        have S := hid hs
        have R := hid hrow
        clear hs hrow RS RW
        by_cases hq7 : (q : Int) ≤ 7
        · have HPS := hid (@lkPre_succ (nsOf d) d.links q hq5)
          have hpl := lkPre_le (nsOf d) d.links (q - 5)
          have HPL : Hid ((lkPre (nsOf d) d.links (q - 5)).length ≤ 3 * d.links.length) := by
            have : (q - 5) * d.links.length ≤ 3 * d.links.length := Nat.mul_le_mul_right _ (by omega)
            show _ ≤ _
            omega
          clear hpl
          go_wp2
          go_loopw [79] (fun j wx => ∃ (k : Nat), k ≤ d.links.length ∧ j = .int .i64 k ∧ (RepS M w (.slice p d.nodes.length c1) (.slice pl d.links.length cl) sR d br l (lkPre (nsOf d) d.links (q - 5) ++ fls (q : Int) (fun i => lkBad (nsOf d) d.links i == (q : Int)) k) X wx ∧ IntAt wx g ((List.range d.links.length).map (lkBad (nsOf d) d.links)))) (fun j _ => d.links.length - (intOf j).toNat)
          case atStart => exact ⟨0, Nat.zero_le _, rfl, by simpa [fls] using S.out, R.out⟩
          case round =>
            obtain ⟨k, hk, rfl, hs, hrow⟩ := hrel
            have S2 := hid hs
            have R2 := hid hrow
            clear hs hrow
            by_cases hlt : k < d.links.length
            · have ck : wr.cell? ⟨g, k, none⟩ = some (.int .i64 (lkBad (nsOf d) d.links k)) := by
                rw [R2.out.cell (by simpa using hlt)]
                simp [List.getD_eq_getElem?_getD, List.getElem?_range hlt]
              have HON := hid (@fls_on (q : Int) (fun i => lkBad (nsOf d) d.links i == (q : Int)) k)
              have HOFF := hid (@fls_off (q : Int) (fun i => lkBad (nsOf d) d.links i == (q : Int)) k)
              have HF1 := hid (fls_le (q : Int) (fun i => lkBad (nsOf d) d.links i == (q : Int)) k)
              obtain ⟨v, hv⟩ : ∃ v, lkBad (nsOf d) d.links k = v := ⟨_, rfl⟩
              rw [hv] at ck
              have HV := hid hv
              clear hv
              by_cases he : v = (q : Int)
              · have hb : (v == (q : Int)) = true := by simpa using he
                have HB : Hid ((lkBad (nsOf d) d.links k == (q : Int)) = true) := by show _ = _; rw [HV.out]; exact hb
                clear he
                obtain ⟨M3, n3, k3⟩ := S2.out.noted
                have HN3 := hid n3
                have HK3 := hid k3
                clear n3 k3
                go_wp2_with fail
                refine (repAdd_any M3 _ br _ q k HN3.out ?_).mono ?_
                · simp only [List.length_append]
                  have h1 := HF1.out; have h2 := HPL.out
                  omega
                rintro e w9 ⟨rfl, ⟨M4, n4, g4⟩, f4⟩
                have S9 := hid (HK3.out w9 M4 _ n4 g4 f4)
                clear n4 g4 f4
                have R9 := hid (R2.out.fr S9.out.2 (fun h => h XG.out))
                go_wp2
                go_roundw
                case rel => exact ⟨k + 1, by omega, by go_num, by rw [HON.out HB.out, ← List.append_assoc]; exact S9.out.1, R9.out⟩
                case measure => simp [intOf]; omega
              · have hb : (v == (q : Int)) = false := by simpa using he
                have HB : Hid ((lkBad (nsOf d) d.links k == (q : Int)) = false) := by show _ = _; rw [HV.out]; exact hb
                clear he
                go_wp2
                go_roundw
                case rel => exact ⟨k + 1, by omega, by go_num, by rw [HOFF.out HB.out]; exact S2.out, R2.out⟩
                case measure => simp [intOf]; omega
            · obtain rfl : k = d.links.length := by omega
              go_wp2
              go_roundw
              case rel => exact ⟨q + 1, by omega, by omega, by go_num, by rw [HPS.out]; exact S2.out, R2.out⟩
              case measure => simp [intOf]; omega
        · obtain rfl : q = 8 := by omega
          go_wp2
          go_end0
          obtain ⟨M', h1, h2, _⟩ := S.out.rep
          exact ⟨rfl, ⟨M', h1, h2⟩, S.out.fr⟩
end Go.Proofs.YtgpliiepoimcbaaDoor
end
section
/- The walks of invariant's congruent and reasons. -/
namespace Go.Proofs.YtgpliiepoimcbaaDoor
open Go.RowKit
set_option maxRecDepth 100000

def congS (r : Int → Int) (a b : Node) : Bool := labelS a b && (a.args.length == b.args.length) && (a.args.zip b.args).all (fun p => r p.1 == r p.2)
theorem congS_lab {r : Int → Int} {lab : List Int} (h : PR r lab) {a b : Node} (ha : ∀ x ∈ a.args, 0 ≤ x ∧ x < lab.length) (hb : ∀ x ∈ b.args, 0 ≤ x ∧ x < lab.length) : congS r a b = alikeS a b lab := by
  unfold congS alikeS
  congr 1
  rw [Bool.eq_iff_iff, List.all_eq_true, List.all_eq_true]
  constructor
  · intro h2 p hp
    have e := h2 p hp
    have m := List.of_mem_zip hp
    simp only [beq_iff_eq] at e ⊢
    exact (h p.1 p.2 (ha _ m.1).1 (ha _ m.1).2 (hb _ m.2).1 (hb _ m.2).2).1 e
  · intro h2 p hp
    have e := h2 p hp
    have m := List.of_mem_zip hp
    simp only [beq_iff_eq] at e ⊢
    exact (h p.1 p.2 (ha _ m.1).1 (ha _ m.1).2 (hb _ m.2).1 (hb _ m.2).2).2 e
theorem congS_no {r : Int → Int} {a b : Node} (h : ¬ (labelS a b = true ∧ a.args.length = b.args.length)) : congS r a b = false := by
  unfold congS
  by_cases h1 : labelS a b = true
  · have h2 : ¬ a.args.length = b.args.length := fun e => h ⟨h1, e⟩
    have : (a.args.length == b.args.length) = false := by simpa using h2
    rw [this]; simp
  · have : labelS a b = false := by simpa using h1
    rw [this]; simp
theorem congS_bad {r : Int → Int} {a b : Node} {k : Nat} (h1 : k < a.args.length) (h2 : k < b.args.length) (h : r (a.args.getD k 0) ≠ r (b.args.getD k 0)) : congS r a b = false := by
  unfold congS
  have : (a.args.zip b.args).all (fun p => r p.1 == r p.2) = false := by
    rw [List.all_eq_false]
    refine ⟨(a.args.zip b.args)[k]'(by simp; omega), List.getElem_mem _, ?_⟩
    rw [zip_get h1 h2]
    simpa using h
  rw [this]; simp
theorem congS_ok {r : Int → Int} {a b : Node} (h0 : labelS a b = true) (hl : a.args.length = b.args.length) (h : ∀ k, k < a.args.length → r (a.args.getD k 0) = r (b.args.getD k 0)) : congS r a b = true := by
  unfold congS
  have : (a.args.zip b.args).all (fun p => r p.1 == r p.2) = true := by
    rw [List.all_eq_true]
    intro p hp
    obtain ⟨k, hk, rfl⟩ := List.mem_iff_getElem.1 hp
    have hk2 : k < a.args.length := by simp at hk; omega
    rw [zip_get hk2 (by omega)]
    simpa using h k hk2
  rw [this, h0]; simp [hl]

set_option maxHeartbeats 4000000 in
theorem congruent_any (Mf : Nat → Prop) (w : World) (bf : Nat) (L : List Lnk) (r : Int → Int) (a b : Node) (v u : Value) (hF : ForAt Mf w bf L r) (ha : RdI Mf w v a.args) (hb : RdI Mf w u b.args) (hna : ∀ x ∈ a.args, 0 ≤ x) (hnb : ∀ x ∈ b.args, 0 ≤ x) (hla : a.args.length ≤ 1000000) :
    Calls Tryd.prog 38 #[.pointer (some ⟨bf, 0, none⟩), nodeV a v, nodeV b u] w fun e w' => e = .returned (.bool (congS r a b)) ∧ ForAt Mf w' bf L r ∧ Fr Mf w w' := by
  obtain ⟨a1, ca, rfl⟩ := ha.form
  obtain ⟨b1, cb, rfl⟩ := hb.form
  have W2 : Hid (Fr NoB w ((w.alloc (.cells (nodeCells a (.slice a1 a.args.length ca)) 40)).alloc (.cells (nodeCells b (.slice b1 b.args.length cb)) 40))) := ((Fr.refl NoB w).alloc _).alloc _
  have HA := hid (ha.fr W2.out (fun _ _ h => h.elim))
  have HB := hid (hb.fr W2.out (fun _ _ h => h.elim))
  have HF := hid (hF.step W2.out)
  have BA := hid (at_old (at_new w (.cells (nodeCells a (.slice a1 a.args.length ca)) 40)) (.cells (nodeCells b (.slice b1 b.args.length cb)) 40))
  have BB : Hid (((w.alloc (.cells (nodeCells a (.slice a1 a.args.length ca)) 40)).alloc (.cells (nodeCells b (.slice b1 b.args.length cb)) 40)).heap[w.heap.size + 1]? = some (.cells (nodeCells b (.slice b1 b.args.length cb)) 40 (0, 0))) := at_new' (by simp)
  have HLT := hid hF.lt
  have HNA := hid hna
  have HNB := hid hnb
  obtain ⟨w2, hw2⟩ : ∃ w2, (w.alloc (.cells (nodeCells a (.slice a1 a.args.length ca)) 40)).alloc (.cells (nodeCells b (.slice b1 b.args.length cb)) 40) = w2 := ⟨_, rfl⟩
  rw [hw2] at W2 HA HB HF BA BB
  have HW2 := hid hw2
  clear ha hb hF hna hnb hw2
  unfold nodeV
  by_cases hlab : labelS a b = true
  rotate_left
  · have HNO : Hid (congS r a b = false) := congS_no (fun h => hlab h.1)
    have hcs : a.op ≠ b.op ∨ a.op = b.op ∧ (a.width ≠ b.width ∨ a.width = b.width ∧ (a.val ≠ b.val ∨ a.val = b.val ∧ ¬ a.name.toList = b.name.toList)) := by
      by_cases e1 : a.op = b.op
      · by_cases e2 : a.width = b.width
        · by_cases e3 : a.val = b.val
          · refine .inr ⟨e1, .inr ⟨e2, .inr ⟨e3, fun e4 => hlab ?_⟩⟩⟩
            unfold labelS; simp [e1, e2, e3, e4]
          · exact .inr ⟨e1, .inr ⟨e2, .inl e3⟩⟩
        · exact .inr ⟨e1, .inl e2⟩
      · exact .inl e1
    clear hlab
    rcases hcs with e1 | ⟨e1, e2 | ⟨e2, e3 | ⟨e3, e4⟩⟩⟩
    · have q1 : (a.op != b.op) = true := by simpa using e1
      clear e1
      go_enter Tryd.func38, Tryd.ntmps38
      go_wp2
      go_ret
      rw [HW2.out]
      exact ⟨ret_bool HNO.out.symm, HF.out, W2.out.mono (fun _ _ h => h.elim)⟩
    · have q1 : (a.op != b.op) = false := by simpa using e1
      have q2 : (a.width != b.width) = true := by simpa using e2
      clear e1 e2
      go_enter Tryd.func38, Tryd.ntmps38
      go_wp2
      go_ret
      rw [HW2.out]
      exact ⟨ret_bool HNO.out.symm, HF.out, W2.out.mono (fun _ _ h => h.elim)⟩
    · have q1 : (a.op != b.op) = false := by simpa using e1
      have q2 : (a.width != b.width) = false := by simpa using e2
      have q3 : (a.val != b.val) = true := by simpa using e3
      clear e1 e2 e3
      go_enter Tryd.func38, Tryd.ntmps38
      go_wp2
      go_ret
      rw [HW2.out]
      exact ⟨ret_bool HNO.out.symm, HF.out, W2.out.mono (fun _ _ h => h.elim)⟩
    · have q1 : (a.op != b.op) = false := by simpa using e1
      have q2 : (a.width != b.width) = false := by simpa using e2
      have q3 : (a.val != b.val) = false := by simpa using e3
      clear e1 e2 e3
      go_enter Tryd.func38, Tryd.ntmps38
      go_wp2
      go_ret
      rw [HW2.out]
      exact ⟨ret_bool HNO.out.symm, HF.out, W2.out.mono (fun _ _ h => h.elim)⟩
  · have HL1 := hid hlab
    have h1 := hlab
    unfold labelS at h1
    simp only [Bool.and_eq_true, beq_iff_eq] at h1
    obtain ⟨⟨⟨o1, o2⟩, o3⟩, o4⟩ := h1
    have q1 : (a.op != b.op) = false := by simpa using o1
    have q2 : (a.width != b.width) = false := by simpa using o2
    have q3 : (a.val != b.val) = false := by simpa using o3
    clear o1 o2 o3 hlab
    by_cases hlen : a.args.length = b.args.length
    rotate_left
    · have q5 : ((a.args.length : Int) != (b.args.length : Int)) = true := by simp; omega
      have HNO : Hid (congS r a b = false) := congS_no (fun h => hlen h.2)
      clear hlen
      go_enter Tryd.func38, Tryd.ntmps38
      go_wp2
      go_ret
      rw [HW2.out]
      exact ⟨ret_bool HNO.out.symm, HF.out, W2.out.mono (fun _ _ h => h.elim)⟩
    have HL2 := hid hlen
    have q5 : ((a.args.length : Int) != (b.args.length : Int)) = false := by simp; omega
    clear hlen
    go_enter Tryd.func38, Tryd.ntmps38
    go_wp2
    rw [HW2.out]
    clear q1 q2 q3 q5 o4
    go_loopw [46] (fun j wr => ∃ (k : Nat), k ≤ a.args.length ∧ j = .int .i64 k ∧ ForAt Mf wr bf L r ∧ Fr Mf w2 wr ∧ ∀ i, i < k → r (a.args.getD i 0) = r (b.args.getD i 0)) (fun j _ => a.args.length - (intOf j).toNat)
    case atStart => exact ⟨0, Nat.zero_le _, rfl, HF.out, Fr.refl _ _, fun i h => by omega⟩
    case round =>
      obtain ⟨k, hk, rfl, hfor, hf, hall⟩ := hrel
      have H1 := hid hfor
      have F1 := hid hf
      have HALL := hid hall
      clear hfor hf hall
      by_cases hlt : k < a.args.length
      · have hlt2 : k < b.args.length := by have := HL2.out; omega
        have n0 : ¬ Mf w.heap.size := fun h => by have := HLT.out _ h; omega
        have n1 : ¬ Mf (w.heap.size + 1) := fun h => by have := HLT.out _ h; omega
        obtain ⟨_, _, _, _, x4, _, _⟩ := five_of (F1.out.at n0 BA.out)
        obtain ⟨_, _, _, _, y4, _, _⟩ := five_of (F1.out.at n1 BB.out)
        obtain ⟨ba, oa, rfl, ka⟩ := (HA.out.fr F1.out (fun _ _ h => h)).cellK hlt
        obtain ⟨bb, ob, rfl, kb⟩ := (HB.out.fr F1.out (fun _ _ h => h)).cellK hlt2
        obtain ⟨pv, hp⟩ : ∃ pv, a.args.getD k 0 = pv := ⟨_, rfl⟩
        obtain ⟨qv, hq⟩ : ∃ qv, b.args.getD k 0 = qv := ⟨_, rfl⟩
        have p0 : 0 ≤ pv := by rw [← hp]; exact HNA.out _ (getD_mem hlt)
        have q0 : 0 ≤ qv := by rw [← hq]; exact HNB.out _ (getD_mem hlt2)
        rw [hp] at ka
        rw [hq] at kb
        have HP := hid hp
        have HQ := hid hq
        clear hp hq n0 n1
        have hl2 := HL2.out
        rw [← hl2] at y4
        clear hl2
        have HS : Hid (∀ W', Fr Mf wr.drew W' → W'.cell? ⟨w.heap.size, 4, none⟩ = some (.slice (some ⟨ba, oa, none⟩) a.args.length ca) ∧ W'.cell? ⟨w.heap.size + 1, 4, none⟩ = some (.slice (some ⟨bb, ob, none⟩) a.args.length cb) ∧ W'.cell? ⟨ba, oa + k, none⟩ = some (.int .i64 pv) ∧ W'.cell? ⟨bb, ob + k, none⟩ = some (.int .i64 qv)) := fun W' hf => by
          have n0 : ¬ Mf w.heap.size := fun h => by have := HLT.out _ h; omega
          have n1 : ¬ Mf (w.heap.size + 1) := fun h => by have := HLT.out _ h; omega
          have hf' := F1.out.drew.trans hf
          obtain ⟨_, _, _, _, x4, _, _⟩ := five_of (hf'.at n0 BA.out)
          obtain ⟨_, _, _, _, y4, _, _⟩ := five_of (hf'.at n1 BB.out)
          obtain ⟨ba', oa', e, ka⟩ := (HA.out.fr hf' (fun _ _ h => h)).cellK hlt
          simp only [Option.some.injEq, Addr.mk.injEq, and_true] at e
          obtain ⟨rfl, rfl⟩ := e
          obtain ⟨bb', ob', e, kb⟩ := (HB.out.fr hf' (fun _ _ h => h)).cellK hlt2
          simp only [Option.some.injEq, Addr.mk.injEq, and_true] at e
          obtain ⟨rfl, rfl⟩ := e
          rw [HP.out] at ka
          rw [HQ.out] at kb
          rw [← HL2.out] at y4
          exact ⟨x4, y4, ka, kb⟩
        go_wp2
        refine region_eff (fun w' => w'.cell? ⟨w.heap.size, 4, none⟩ = some (.slice (some ⟨ba, oa, none⟩) a.args.length ca) ∧ w'.cell? ⟨w.heap.size + 1, 4, none⟩ = some (.slice (some ⟨bb, ob, none⟩) a.args.length cb) ∧ w'.cell? ⟨ba, oa + k, none⟩ = some (.int .i64 pv) ∧ w'.cell? ⟨bb, ob + k, none⟩ = some (.int .i64 qv)) 13 [(0, 1), (1, 1), (2, 0), (3, 1), (4, 1), (5, 0), (6, 1), (7, 0), (8, 1), (9, 1), (10, 0), (11, 2), (12, 1)] (by kernel_rfl) (by kernel_rfl) ?_ ?_
        · exact ⟨x4, y4, ka, kb⟩
        clear x4 y4 ka kb
        repeat (first | (refine eff_off (by rfl) (by rfl) ?_; (try simp only [Act.put, List.setIfInBounds_toArray, List.set_cons_zero, List.set_cons_succ])) | (refine eff_off0 (by rfl) (by rfl) ?_; (try simp only [Act.put, List.setIfInBounds_toArray, List.set_cons_zero, List.set_cons_succ])) | (refine eff_pu ?_ (by rfl) (by rfl) ?_ ?_; rotate_left; (focus (intro w'; go_simp; (try with_reducible rfl); done)); (try simp only [Act.put, List.setIfInBounds_toArray, List.set_cons_zero, List.set_cons_succ])) | (refine eff_rd ?_ (by rfl) (by rfl) ?_ ?_; rotate_left; (focus (intro w' hS; (try obtain ⟨hq1, hS⟩ := hS); (try obtain ⟨hq2, hS⟩ := hS); (try obtain ⟨hq3, hS⟩ := hS); (try obtain ⟨hq4, hS⟩ := hS); (try obtain ⟨hq5, hS⟩ := hS); (try obtain ⟨hq6, hS⟩ := hS); (try obtain ⟨hq7, hS⟩ := hS); (try obtain ⟨hq8, hS⟩ := hS); (try obtain ⟨hq9, hS⟩ := hS); (try obtain ⟨hq10, hS⟩ := hS); (try obtain ⟨hq11, hS⟩ := hS); (try obtain ⟨hq12, hS⟩ := hS); (try obtain ⟨hq13, hS⟩ := hS); (try obtain ⟨hq14, hS⟩ := hS); (try obtain ⟨hq15, hS⟩ := hS); (try obtain ⟨hq16, hS⟩ := hS); (try obtain ⟨hq17, hS⟩ := hS); (try obtain ⟨hq18, hS⟩ := hS); (try obtain ⟨hq19, hS⟩ := hS); (try dsimp only at hS); go_simp; (try with_reducible rfl); done)); (try simp only [Act.put, List.setIfInBounds_toArray, List.set_cons_zero, List.set_cons_succ])))
        refine eff_call 54 #[.pointer (some ⟨bf, 0, none⟩), .int .i64 pv, .int .i64 qv] (by rfl) (by rfl) (by intro w'; go_simp) ?_
        refine (fsame_any Mf _ bf L r pv qv (H1.out.step (Fr.refl NoB wr).drew)).mono ?_
        rintro e w4 ⟨rfl, h4, f4⟩
        have H4 := hid h4
        have F4 := hid (F1.out.drew.trans f4)
        refine ⟨_, rfl, fun _ => HS.out w4 f4, ?_⟩
        clear h4 f4 HS
        (try simp only [Act.put, List.setIfInBounds_toArray, List.set_cons_zero, List.set_cons_succ])
        by_cases hr : r pv = r qv
        · have hd : decide (0 ≤ pv ∧ 0 ≤ qv ∧ r pv = r qv) = true := by simp [p0, q0, hr]
          have HR := hid hr
          rw [hd]
          clear hd hr
          repeat (first | (refine eff_off (by rfl) (by rfl) ?_; (try simp only [Act.put, List.setIfInBounds_toArray, List.set_cons_zero, List.set_cons_succ])) | (refine eff_off0 (by rfl) (by rfl) ?_; (try simp only [Act.put, List.setIfInBounds_toArray, List.set_cons_zero, List.set_cons_succ])) | (refine eff_pu ?_ (by rfl) (by rfl) ?_ ?_; rotate_left; (focus (intro w'; go_simp; (try with_reducible rfl); done)); (try simp only [Act.put, List.setIfInBounds_toArray, List.set_cons_zero, List.set_cons_succ])) | (refine eff_rd ?_ (by rfl) (by rfl) ?_ ?_; rotate_left; (focus (intro w' hS; (try obtain ⟨hq1, hS⟩ := hS); (try obtain ⟨hq2, hS⟩ := hS); (try obtain ⟨hq3, hS⟩ := hS); (try obtain ⟨hq4, hS⟩ := hS); (try obtain ⟨hq5, hS⟩ := hS); (try obtain ⟨hq6, hS⟩ := hS); (try obtain ⟨hq7, hS⟩ := hS); (try obtain ⟨hq8, hS⟩ := hS); (try obtain ⟨hq9, hS⟩ := hS); (try obtain ⟨hq10, hS⟩ := hS); (try obtain ⟨hq11, hS⟩ := hS); (try obtain ⟨hq12, hS⟩ := hS); (try obtain ⟨hq13, hS⟩ := hS); (try obtain ⟨hq14, hS⟩ := hS); (try obtain ⟨hq15, hS⟩ := hS); (try obtain ⟨hq16, hS⟩ := hS); (try obtain ⟨hq17, hS⟩ := hS); (try obtain ⟨hq18, hS⟩ := hS); (try obtain ⟨hq19, hS⟩ := hS); (try dsimp only at hS); go_simp; (try with_reducible rfl); done)); (try simp only [Act.put, List.setIfInBounds_toArray, List.set_cons_zero, List.set_cons_succ])))
          refine eff_nil ?_
          go_wp2
          go_roundw
          case rel => exact ⟨k + 1, by omega, by go_num, H4.out, F4.out, fun i hi => by
            by_cases e : i = k
            · subst e; rw [HP.out, HQ.out]; exact HR.out
            · exact HALL.out i (by omega)⟩
          case measure => simp [intOf]; omega
        · have hd : decide (0 ≤ pv ∧ 0 ≤ qv ∧ r pv = r qv) = false := by simp [hr]
          have HR := hid hr
          rw [hd]
          clear hd hr
          repeat (first | (refine eff_off (by rfl) (by rfl) ?_; (try simp only [Act.put, List.setIfInBounds_toArray, List.set_cons_zero, List.set_cons_succ])) | (refine eff_off0 (by rfl) (by rfl) ?_; (try simp only [Act.put, List.setIfInBounds_toArray, List.set_cons_zero, List.set_cons_succ])) | (refine eff_pu ?_ (by rfl) (by rfl) ?_ ?_; rotate_left; (focus (intro w'; go_simp; (try with_reducible rfl); done)); (try simp only [Act.put, List.setIfInBounds_toArray, List.set_cons_zero, List.set_cons_succ])) | (refine eff_rd ?_ (by rfl) (by rfl) ?_ ?_; rotate_left; (focus (intro w' hS; (try obtain ⟨hq1, hS⟩ := hS); (try obtain ⟨hq2, hS⟩ := hS); (try obtain ⟨hq3, hS⟩ := hS); (try obtain ⟨hq4, hS⟩ := hS); (try obtain ⟨hq5, hS⟩ := hS); (try obtain ⟨hq6, hS⟩ := hS); (try obtain ⟨hq7, hS⟩ := hS); (try obtain ⟨hq8, hS⟩ := hS); (try obtain ⟨hq9, hS⟩ := hS); (try obtain ⟨hq10, hS⟩ := hS); (try obtain ⟨hq11, hS⟩ := hS); (try obtain ⟨hq12, hS⟩ := hS); (try obtain ⟨hq13, hS⟩ := hS); (try obtain ⟨hq14, hS⟩ := hS); (try obtain ⟨hq15, hS⟩ := hS); (try obtain ⟨hq16, hS⟩ := hS); (try obtain ⟨hq17, hS⟩ := hS); (try obtain ⟨hq18, hS⟩ := hS); (try obtain ⟨hq19, hS⟩ := hS); (try dsimp only at hS); go_simp; (try with_reducible rfl); done)); (try simp only [Act.put, List.setIfInBounds_toArray, List.set_cons_zero, List.set_cons_succ])))
          refine eff_nil ?_
          go_wp2
          go_ret
          exact ⟨ret_bool (congS_bad hlt hlt2 (by rw [HP.out, HQ.out]; exact HR.out)).symm, H4.out, (W2.out.mono (fun _ _ h => h.elim)).trans F4.out⟩
      · obtain rfl : k = a.args.length := by omega
        go_wp2
        go_ret
        exact ⟨ret_bool (congS_ok HL1.out HL2.out HALL.out).symm, H1.out, (W2.out.mono (fun _ _ h => h.elim)).trans F1.out⟩
end Go.Proofs.YtgpliiepoimcbaaDoor
end
