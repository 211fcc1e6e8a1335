import Derived.Test.YtlekoceindepnaaGreatDoorPk0
import Derived.Test.YtlekoceindepnaaGreatDoorPk1
import Derived.Test.YtlekoceindepnaaGreatDoorPk2
set_option linter.all false
section
/- An e-graph: its plain state, and how it lies in memory. The blocks of memory are coloured: each part of the graph owns the blocks of its colour; rows that are only read have colour 12. -/
namespace Go.Proofs.YtlekoceindepnaaGreatDoor
open Go.RowKit
set_option maxRecDepth 100000

/-- What a mark records. -/
structure St where
  nodes : Nat
  links : Nat
  sets : Nat
  keys : List Node
  todo : List Int
  dirty : Bool
structure GS where
  uf : Uf
  nodes : List Node
  keys : List Node
  users : List (List Int)
  exact : List (Node × Int)
  table : List (Node × Int)
  links : List Lnk
  lr : Int → Int
  vars : List (ByteArray × Int)
  todo : List Int
  dirty : Bool
  marks : List St
def GS.new : GS := ⟨Uf.new, [], [], [], [], [], [], fun x => x, [], [], false, []⟩

abbrev Col := Nat → Nat
/-- The blocks made since w get colour i. -/
def paint (c : Col) (w w' : World) (i : Nat) : Col := fun k => if w.heap.size ≤ k ∧ k < w'.heap.size then i else c k
theorem paint_old {c : Col} {w w' : World} {i k : Nat} (h : k < w.heap.size) : paint c w w' i k = c k := by unfold paint; rw [if_neg (by omega)]
theorem paint_new {c : Col} {w w' : World} {i k : Nat} (h : w.heap.size ≤ k) (h' : k < w'.heap.size) : paint c w w' i k = i := by unfold paint; rw [if_pos ⟨h, h'⟩]
/-- c' is c on the blocks of w. -/
def Ext (c c' : Col) (w : World) : Prop := ∀ k, k < w.heap.size → c' k = c k
theorem Ext.refl (c : Col) (w : World) : Ext c c w := fun _ _ => rfl
theorem Ext.paint (c : Col) (w w' : World) (i : Nat) : Ext c (paint c w w' i) w := fun _ h => paint_old h
theorem Ext.trans {c c' c'' : Col} {w w' : World} (h : Ext c c' w) (h' : Ext c' c'' w') (hs : w.heap.size ≤ w'.heap.size) : Ext c c'' w := fun k hk => (h' k (by omega)).trans (h k hk)

/-- A row of nodes of colour i, their args of colour 12. -/
def NodesAt (c : Col) (i : Nat) (w : World) (v : Value) (ns : List Node) : Prop :=
  ∃ d : List (Node × Value), d.map (·.1) = ns ∧ OwnN 0 w v d ∧ (∀ b, v.ownBlock = some b → c b = i) ∧ ∀ x ∈ d, RdI (fun k => c k ≠ 12) w x.2 x.1.args
def TblAt (c : Col) (i : Nat) (w : World) (bt : Nat) (es : List (Node × Int)) : Prop :=
  ∃ bm l, TableAt (fun k => c k ≠ 12) w bt bm l ∧ l.map (fun x => (x.node, x.id)) = es ∧ c bt = i ∧ c bm = i ∧ bm ≠ bt
def IntsRow (c : Col) (i : Nat) (w : World) (v : Value) (l : List Int) : Prop := OwnI 0 w v l ∧ ∀ b, v.ownBlock = some b → c b = i
def rowC (v : Value) : List Value := [v]
structure UsersVs (c : Col) (w : World) (v : Value) (svs : List Value) (us : List (List Int)) : Prop where
  len : svs.length = us.length
  row : OwnE rowC 1 28 0 w v svs
  col : ∀ b, v.ownBlock = some b → c b = 3
  rows : ∀ k, k < us.length → OwnI 0 w (svs.getD k .nilFunc) (us.getD k []) ∧ ∀ b, (svs.getD k .nilFunc).ownBlock = some b → c b = 3
  apart : ∀ k k', k < us.length → k' < us.length → k ≠ k' → ∀ b, (svs.getD k .nilFunc).ownBlock = some b → (svs.getD k' .nilFunc).ownBlock ≠ some b
def UsersAt (c : Col) (w : World) (v : Value) (us : List (List Int)) : Prop := ∃ svs, UsersVs c w v svs us
def VarsAt (c : Col) (w : World) (b : Nat) (vs : List (ByteArray × Int)) : Prop := MapIs .string Value.string w b (vs.map fun x => (x.1, .int .i64 x.2)) ∧ c b = 7
def stC (x : St × Value × Value) : List Value := [.int .i64 x.1.nodes, .int .i64 x.1.links, .int .i64 x.1.sets, x.2.1, x.2.2, .bool x.1.dirty]
def MarksAt (c : Col) (w : World) (v : Value) (ms : List St) : Prop :=
  ∃ d : List (St × Value × Value), d.map (·.1) = ms ∧ OwnE stC 6 76 0 w v d ∧ (∀ b, v.ownBlock = some b → c b = 10) ∧
    ∀ x ∈ d, (∃ dk : List (Node × Value), dk.map (·.1) = x.1.keys ∧ RdN (fun k => c k ≠ 12) w x.2.1 dk) ∧ RdI (fun k => c k ≠ 12) w x.2.2 x.1.todo
structure GH where
  bs : Nat
  vn : Value
  vk : Value
  vu : Value
  be : Nat
  bt : Nat
  bf : Nat
  bv : Nat
  vt : Value
  vm : Value
def coreC (h : GH) (d : Bool) : Array Value := #[.pointer (some ⟨h.bs, 0, none⟩), h.vn, h.vk, h.vu, .pointer (some ⟨h.be, 0, none⟩), .pointer (some ⟨h.bt, 0, none⟩), .pointer (some ⟨h.bf, 0, none⟩), .map (some h.bv), h.vt, .bool d, h.vm]
structure GIs (c : Col) (w : World) (bc : Nat) (h : GH) (s : GS) : Prop where
  head : w.heap[bc]? = some (.cells (coreC h s.dirty) 66 (0, 0))
  sets : SetsAt (fun k => c k = 1) w h.bs s.uf
  nodes : NodesAt c 9 w h.vn s.nodes
  keys : NodesAt c 8 w h.vk s.keys
  users : UsersAt c w h.vu s.users
  exact : TblAt c 5 w h.be s.exact
  table : TblAt c 6 w h.bt s.table
  proofs : ForAt (fun k => c k = 2) w h.bf s.links s.lr
  vars : VarsAt c w h.bv s.vars
  todo : IntsRow c 4 w h.vt s.todo
  marks : MarksAt c w h.vm s.marks
  own : c bc = 11
  lt : ∀ k, c k ≠ 0 → k < w.heap.size
section
variable {c c' : Col} {M : Nat → Prop} {w w' : World} {i bt bc : Nat} {v : Value}
/-- What a part of colour j needs of a step that turns the blocks of M. -/
structure Keep (c c' : Col) (M : Nat → Prop) (w w' : World) (j : Nat) : Prop where
  fr : Fr M w w'
  ext : Ext c c' w
  out : ∀ k, k < w.heap.size → M k → c k ≠ j ∧ c k ≠ 12
theorem keep_rd {l : List Int} (h : RdI (fun k => c k ≠ 12) w v l) (hf : Fr M w w') (he : Ext c c' w) (ho : ∀ k, k < w.heap.size → M k → c k ≠ 12) : RdI (fun k => c' k ≠ 12) w' v l := by
  rcases h with h | ⟨b, off, cap, h1, h2, h3, h4, h5⟩
  · exact .inl h
  · exact .inr ⟨b, off, cap, h1, Nat.lt_of_lt_of_le h2 hf.size, by show ¬ (c' b ≠ 12); rw [he b h2]; exact h3, h4, h5.fr hf h2 (fun h => h3 (ho b h2 h))⟩
theorem NodesAt.keep {ns : List Node} (h : NodesAt c i w v ns) (k : Keep c c' M w w' i) : NodesAt c' i w' v ns := by
  obtain ⟨d, h1, h2, h3, h4⟩ := h
  exact ⟨d, h1, OwnE.fr h2 k.fr (fun b hb hm => (k.out b (World.ownsRow.lt h2 b hb).2 hm).1 (h3 b hb)), fun b hb => by rw [k.ext b (World.ownsRow.lt h2 b hb).2]; exact h3 b hb,
    fun x hx => keep_rd (h4 x hx) k.fr k.ext (fun b hb hm => (k.out b hb hm).2)⟩
theorem keep_tbl {bm : Nat} {l : List TEnt} (h : TableAt (fun k => c k ≠ 12) w bt bm l) (k : Keep c c' M w w' i) (h1 : c bt = i) (h2 : c bm = i) : TableAt (fun k => c' k ≠ 12) w' bt bm l :=
  ⟨k.fr.at (fun hm => (k.out bt h.lt hm).1 h1) h.head, h.map.fr k.fr (fun hm => (k.out bm h.map.lt hm).1 h2), fun x hx => ⟨keep_rd (h.ents x hx).1 k.fr k.ext (fun b hb hm => (k.out b hb hm).2), (h.ents x hx).2⟩⟩
theorem TblAt.keep {es : List (Node × Int)} (h : TblAt c i w bt es) (k : Keep c c' M w w' i) : TblAt c' i w' bt es := by
  obtain ⟨bm, l, h1, h2, h3, h4, h5⟩ := h
  exact ⟨bm, l, keep_tbl h1 k h3 h4, h2, by rw [k.ext bt h1.lt]; exact h3, by rw [k.ext bm h1.map.lt]; exact h4, h5⟩
theorem IntsRow.keep {l : List Int} (h : IntsRow c i w v l) (k : Keep c c' M w w' i) : IntsRow c' i w' v l :=
  ⟨h.1.fr k.fr (fun b hb hm => (k.out b (World.ownsRow.lt h.1 b hb).2 hm).1 (h.2 b hb)), fun b hb => by rw [k.ext b (World.ownsRow.lt h.1 b hb).2]; exact h.2 b hb⟩
theorem UsersVs.keep {svs : List Value} {us : List (List Int)} (h : UsersVs c w v svs us) (k : Keep c c' M w w' 3) : UsersVs c' w' v svs us :=
  ⟨h.len, OwnE.fr h.row k.fr (fun b hb hm => (k.out b (World.ownsRow.lt h.row b hb).2 hm).1 (h.col b hb)), fun b hb => by rw [k.ext b (World.ownsRow.lt h.row b hb).2]; exact h.col b hb,
    fun j hj => ⟨(h.rows j hj).1.fr k.fr (fun b hb hm => (k.out b (World.ownsRow.lt (h.rows j hj).1 b hb).2 hm).1 ((h.rows j hj).2 b hb)), fun b hb => by rw [k.ext b (World.ownsRow.lt (h.rows j hj).1 b hb).2]; exact (h.rows j hj).2 b hb⟩, h.apart⟩
theorem UsersAt.keep {us : List (List Int)} (h : UsersAt c w v us) (k : Keep c c' M w w' 3) : UsersAt c' w' v us := by
  obtain ⟨svs, h⟩ := h
  exact ⟨svs, h.keep k⟩
theorem VarsAt.keep {vs : List (ByteArray × Int)} (h : VarsAt c w bt vs) (k : Keep c c' M w w' 7) : VarsAt c' w' bt vs :=
  ⟨h.1.fr k.fr (fun hm => (k.out bt h.1.lt hm).1 h.2), by rw [k.ext bt h.1.lt]; exact h.2⟩
theorem keep_rdN {d : List (Node × Value)} (h : RdN (fun k => c k ≠ 12) w v d) (hf : Fr M w w') (he : Ext c c' w) (ho : ∀ k, k < w.heap.size → M k → c k ≠ 12) : RdN (fun k => c' k ≠ 12) w' v d := by
  refine ⟨?_, fun x hx => keep_rd (h.args x hx) hf he ho⟩
  rcases h.row with h | ⟨b, off, cap, h1, h2, h3, h4, h5⟩
  · exact .inl h
  · exact .inr ⟨b, off, cap, h1, Nat.lt_of_lt_of_le h2 hf.size, by show ¬ (c' b ≠ 12); rw [he b h2]; exact h3, h4, h5.fr hf h2 (fun h => h3 (ho b h2 h))⟩
theorem MarksAt.keep {ms : List St} (h : MarksAt c w v ms) (k : Keep c c' M w w' 10) : MarksAt c' w' v ms := by
  obtain ⟨d, h1, h2, h3, h4⟩ := h
  refine ⟨d, h1, OwnE.fr h2 k.fr (fun b hb hm => (k.out b (World.ownsRow.lt h2 b hb).2 hm).1 (h3 b hb)), fun b hb => by rw [k.ext b (World.ownsRow.lt h2 b hb).2]; exact h3 b hb, fun x hx => ?_⟩
  obtain ⟨⟨dk, h5, h6⟩, h7⟩ := h4 x hx
  exact ⟨⟨dk, h5, keep_rdN h6 k.fr k.ext (fun b hb hm => (k.out b hb hm).2)⟩, keep_rd h7 k.fr k.ext (fun b hb hm => (k.out b hb hm).2)⟩
theorem SetsAt.keep {bs : Nat} {s : Uf} (h : SetsAt (fun k => c k = 1) w bs s) (k : Keep c c' M w w' 1) : SetsAt (fun k => c' k = 1) w' bs s := by
  obtain ⟨⟨sP, sT, h1, h2, h3, h4, h5⟩, h6, h7, h8⟩ := h
  have hlt := (Array.getElem?_eq_some_iff.1 h1).1
  exact ⟨⟨sP, sT, k.fr.at (fun hm => (k.out _ hlt hm).1 h6) h1, h2.fr k.fr (fun b hb hm => (k.out b (World.ownsRow.lt h2 b hb).2 hm).1 (h4 b hb)), OwnE.fr h3 k.fr (fun b hb hm => (k.out b (World.ownsRow.lt h3 b hb).2 hm).1 (h5 b hb)),
    fun b hb => by rw [k.ext b (World.ownsRow.lt h2 b hb).2]; exact h4 b hb, fun b hb => by rw [k.ext b (World.ownsRow.lt h3 b hb).2]; exact h5 b hb⟩, by show c' bs = 1; rw [k.ext bs hlt]; exact h6, h7, h8⟩
theorem ForAt.keep {bf : Nat} {L : List Lnk} {r : Int → Int} (h : ForAt (fun k => c k = 2) w bf L r) (k : Keep c c' M w w' 2) (hlt : ∀ b, c' b ≠ 0 → b < w'.heap.size) : ForAt (fun b => c' b = 2) w' bf L r := by
  obtain ⟨⟨bn, bu, sl, g, rk, h1, h2, h3, h4, h5, h6, h7, m1, m2, m3⟩, h8⟩ := h
  have l1 := h8 bf m1
  have l2 := h8 bn m2
  have l3 := h8 bu m3
  have no : ∀ b, b < w.heap.size → c b = 2 → ¬ M b := fun b hb hc hm => (k.out b hb hm).1 hc
  refine ⟨⟨bn, bu, sl, g, rk, h1.fr k.fr (no _ l1 m1), OwnE.fr h2 k.fr (fun b hb => no b (h8 b (h3 b hb)) (h3 b hb)), fun b hb => by show c' b = 2; rw [k.ext b (h8 b (h3 b hb))]; exact h3 b hb, ?_, h5.fr k.fr (no _ l3 m3), h6, h7, ?_, ?_, ?_⟩, fun b hb => hlt b (by have e : c' b = 2 := hb; omega)⟩
  · have h9 := h4.fr k.fr (no _ l2 m2) (fun b hb hm => no b (h8 b hb) hb hm)
    obtain ⟨m, a1, a2, a3, a4⟩ := h4
    obtain ⟨m', b1, b2, b3, b4⟩ := h9
    refine ⟨m, a1.fr k.fr (no _ l2 m2), a2, fun x v hx => ⟨(a3 x v hx).1.fr k.fr (fun b hb => no b (h8 b ((a3 x v hx).2 b hb)) ((a3 x v hx).2 b hb)), fun b hb => ?_⟩, a4⟩
    show c' b = 2
    rw [k.ext b (h8 b ((a3 x v hx).2 b hb))]
    exact (a3 x v hx).2 b hb
  · show c' bf = 2; rw [k.ext bf l1]; exact m1
  · show c' bn = 2; rw [k.ext bn l2]; exact m2
  · show c' bu = 2; rw [k.ext bu l3]; exact m3
/-- A step that turns blocks of colour i alone. -/
theorem keep_of (hf : Fr M w w') (he : Ext c c' w) (hM : ∀ k, k < w.heap.size → M k → c k = i) (hi : i ≠ 12) : ∀ j, j ≠ i → Keep c c' M w w' j :=
  fun j hj => ⟨hf, he, fun k hk hm => by rw [hM k hk hm]; exact ⟨fun e => hj e.symm, hi⟩⟩
variable {h : GH} {s : GS}
theorem GIs.keep (g : GIs c w bc h s) (hf : Fr M w w') (he : Ext c c' w) (hM : ∀ k, k < w.heap.size → M k → c k = 0) (hlt : ∀ b, c' b ≠ 0 → b < w'.heap.size) : GIs c' w' bc h s := by
  have K := keep_of hf he hM (by decide)
  have lb : bc < w.heap.size := (Array.getElem?_eq_some_iff.1 g.head).1
  exact ⟨hf.at (fun hm => by have := hM bc lb hm; have := g.own; omega) g.head, g.sets.keep (K 1 (by decide)), g.nodes.keep (K 9 (by decide)), g.keys.keep (K 8 (by decide)), g.users.keep (K 3 (by decide)), g.exact.keep (K 5 (by decide)), g.table.keep (K 6 (by decide)),
    g.proofs.keep (K 2 (by decide)) hlt, g.vars.keep (K 7 (by decide)), g.todo.keep (K 4 (by decide)), g.marks.keep (K 10 (by decide)), by rw [he bc lb]; exact g.own, hlt⟩
theorem GIs.quiet (g : GIs c w bc h s) (hf : Fr NoB w w') : GIs c w' bc h s := g.keep hf (Ext.refl _ _) (fun _ _ h => h.elim) (fun b hb => Nat.lt_of_lt_of_le (g.lt b hb) hf.size)
theorem GIs.lb (g : GIs c w bc h s) : bc < w.heap.size := (Array.getElem?_eq_some_iff.1 g.head).1
/-- The blocks made since get colour i. -/
theorem GIs.paintLt (g : GIs c w bc h s) (i : Nat) (hs : w.heap.size ≤ w'.heap.size) : ∀ b, paint c w w' i b ≠ 0 → b < w'.heap.size := fun b hb => by
  unfold paint at hb
  split at hb
  · next e => exact e.2
  · exact Nat.lt_of_lt_of_le (g.lt b hb) hs
theorem cells_at {w : World} {b : Nat} {cs : Array Value} {e : TypeId} (h : w.heap[b]? = some (.cells cs e (0, 0))) (j : Nat) : w.cell? ⟨b, j, none⟩ = cs[j]? := by simp [World.cell?, h]
theorem frozen_at {w : World} {b : Nat} {cs : Array Value} {e : TypeId} (h : w.heap[b]? = some (.cells cs e (0, 0))) (o : Nat) : w.frozen? ⟨b, o, none⟩ = false := by simp [World.frozen?, h]
end
end Go.Proofs.YtlekoceindepnaaGreatDoor
end
section
/- The walks of egraph.New and made. -/
namespace Go.Proofs.YtlekoceindepnaaGreatDoor
open Go.RowKit
set_option maxRecDepth 100000

def GrAt (c : Col) (w : World) (bg : Nat) (s : GS) : Prop := ∃ bc h, w.heap[bg]? = some (.cells #[.pointer (some ⟨bc, 0, none⟩)] 57 (0, 0)) ∧ GIs c w bc h s ∧ c bg = 13
theorem GrAt.quiet {c : Col} {w w' : World} {bg : Nat} {s : GS} (h : GrAt c w bg s) (hf : Fr NoB w w') : GrAt c w' bg s := by
  obtain ⟨bc, hh, h1, h2, h3⟩ := h
  exact ⟨bc, hh, hf.at (fun h => h) h1, h2.quiet hf, h3⟩
theorem GrAt.lt {c : Col} {w : World} {bg : Nat} {s : GS} (h : GrAt c w bg s) : ∀ k, c k ≠ 0 → k < w.heap.size := by
  obtain ⟨_, _, _, h2, _⟩ := h
  exact h2.lt
theorem GrAt.keep {c : Col} {M : Nat → Prop} {w w' : World} {bg : Nat} {s : GS} (h : GrAt c w bg s) (hf : Fr M w w') (hM : ∀ k, k < w.heap.size → M k → c k = 0) : GrAt c w' bg s := by
  obtain ⟨bc, hh, h1, h2, h3⟩ := h
  have lb : bg < w.heap.size := (Array.getElem?_eq_some_iff.1 h1).1
  exact ⟨bc, hh, hf.at (fun hm => by have := hM bg lb hm; omega) h1, h2.keep hf (Ext.refl _ _) hM (fun b hb => Nat.lt_of_lt_of_le (h2.lt b hb) hf.size), h3⟩
theorem ufnew2_any (w : World) : Calls Tryz.prog 74 #[] w fun e w' => ∃ b, e = .returned (.pointer (some ⟨b, 0, none⟩)) ∧ w.heap.size ≤ b ∧ w'.heap[b]? = some (.cells #[.bool true, .slice none 0 0, .slice none 0 0] 95 (0, 0)) ∧ Fr NoB w w' := by
  go_enter Tryz.func74, Tryz.ntmps74
  go_wp2
  go_ret
  exact ⟨_, rfl, Nat.le_refl _, at_new w _, (Fr.refl NoB w).alloc _⟩
theorem ForAt.mono {M M' : Nat → Prop} {w : World} {bf : Nat} {L : List Lnk} {r : Int → Int} (h : ForAt M w bf L r) (hm : ∀ k, k < w.heap.size → M k → M' k) (hlt : ∀ k, M' k → k < w.heap.size) : ForAt M' w bf L r := by
  obtain ⟨⟨bn, bu, sl, g, rk, h1, h2, h3, h4, h5, h6, h7, m1, m2, m3⟩, h8⟩ := h
  exact ⟨⟨bn, bu, sl, g, rk, h1, h2, fun b hb => hm b (h8 b (h3 b hb)) (h3 b hb), h4.mono hm, h5, h6, h7, hm _ (h8 _ m1) m1, hm _ (h8 _ m2) m2, hm _ (h8 _ m3) m3⟩, hlt⟩
/-- The colours of a new graph. -/
def newC (a b c d e : Nat) : Col := fun k => if k < a then 0 else if k < b then 1 else if k < c then 5 else if k < d then 6 else if k < e then 2 else if k = e then 7 else if k < e + 2 then 11 else if k < e + 3 then 13 else 0
set_option maxHeartbeats 2000000 in
theorem enew_any (w : World) : Calls Tryz.prog 50 #[] w fun e w' => ∃ bg c, e = .returned (.pointer (some ⟨bg, 0, none⟩)) ∧ GrAt c w' bg GS.new ∧ (∀ k, k < w.heap.size → c k = 0) ∧ w.heap.size ≤ bg ∧ Fr NoB w w' := by
  have hmm := @run_makeMap Tryz.prog
  go_enter Tryz.func50, Tryz.ntmps50
  go_wp2_with fail
  refine (ufnew2_any w).mono ?_
  rintro e w1 ⟨b1, rfl, lb1, hb1, h1⟩
  have F1 := hid h1
  have B1 := hid hb1
  have L1 := hid lb1
  clear h1 hb1 lb1
  go_wp2_with fail
  refine (new_any w1).mono ?_
  rintro e w2 ⟨bm, bt, rfl, l1, l2, l3, ht, h2⟩
  have F2 := hid h2
  have T2 := hid (ht (fun k => newC 0 0 0 0 0 k ≠ 12))
  have HT2 := hid ht
  have L2 := hid (And.intro l1 (And.intro l2 l3))
  clear h2 l1 l2 l3 ht
  go_wp2_with fail
  refine (new_any w2).mono ?_
  rintro e w3 ⟨bm2, bt2, rfl, l1, l2, l3, ht, h2⟩
  have F3 := hid h2
  have HT3 := hid ht
  have L3 := hid (And.intro l1 (And.intro l2 l3))
  clear h2 l1 l2 l3 ht
  go_wp2_with fail
  refine (fnew_any w3).mono ?_
  rintro e w4 ⟨bf, M, rfl, hfo, hM, h2⟩
  have F4 := hid h2
  have HFO := hid hfo
  have HMM := hid hM
  clear h2 hfo hM
  go_wp2
  go_ret
  have f1 := F1.out
  have f2 := F2.out
  have f3 := F3.out
  have f4 := F4.out
  have s1 := f1.size
  have s2 := f2.size
  have s3 := f3.size
  have s4 := f4.size
  have F5 : Fr NoB w4 (((w4.alloc (.map #[] 0)).alloc (.cells (coreC ⟨b1, .slice none 0 0, .slice none 0 0, .slice none 0 0, bt, bt2, bf, w4.heap.size, .slice none 0 0, .slice none 0 0⟩ false) 66)).alloc (.cells #[.pointer (some ⟨w4.heap.size + 1, 0, none⟩)] 57)) := (((Fr.refl NoB _).alloc _).alloc _).alloc _
  have lb1 : b1 < w1.heap.size := (Array.getElem?_eq_some_iff.1 B1.out).1
  obtain ⟨l1, l2, l3⟩ := L2.out
  obtain ⟨l4, l5, l6⟩ := L3.out
  have t1 := HT2.out (fun k => newC w.heap.size w1.heap.size w2.heap.size w3.heap.size w4.heap.size k ≠ 12)
  have t2 := HT3.out (fun k => newC w.heap.size w1.heap.size w2.heap.size w3.heap.size w4.heap.size k ≠ 12)
  have lt1 := t1.lt
  have lt2 := t2.lt
  have lt3 := t1.map.lt
  have lt4 := t2.map.lt
  have L0 := L1.out
  refine ⟨w4.heap.size + 2, newC w.heap.size w1.heap.size w2.heap.size w3.heap.size w4.heap.size, rfl, ⟨w4.heap.size + 1, ⟨b1, .slice none 0 0, .slice none 0 0, .slice none 0 0, bt, bt2, bf, w4.heap.size, .slice none 0 0, .slice none 0 0⟩, at_new' (by simp), ?_, by unfold newC; (try dsimp only); (repeat' split) <;> omega⟩, fun k hk => by unfold newC; rw [if_pos hk], by omega, (((f1.step f2).step f3).step f4).step F5⟩
  refine ⟨at_old (at_new' (by simp)) _, ⟨⟨_, _, ((f2.step f3).step f4).step F5 |>.at (fun h => h) B1.out, OwnI.nil _ _, OwnE.nil _ _ _ _ _, fun b hb => (by cases hb), fun b hb => (by cases hb)⟩, by show newC _ _ _ _ _ b1 = 1; unfold newC; (try dsimp only); (repeat' split) <;> omega, UfOk.new, ⟨by simp [GS.new, Uf.new], by simp [GS.new, Uf.new]⟩⟩,
    ⟨[], rfl, OwnE.nil _ _ _ _ _, fun b hb => (by cases hb), fun x hx => (by simp at hx)⟩, ⟨[], rfl, OwnE.nil _ _ _ _ _, fun b hb => (by cases hb), fun x hx => (by simp at hx)⟩,
    ⟨[], rfl, OwnE.nil _ _ _ _ _, fun b hb => (by cases hb), fun k hk => (by simp [GS.new] at hk), fun k k' hk => (by simp [GS.new] at hk)⟩,
    ⟨bm, [], t1.fr ((f3.step f4).step F5) (fun h => h) (fun h => h) (fun _ _ h => h.elim), rfl, by unfold newC; (try dsimp only); (repeat' split) <;> omega, by unfold newC; (try dsimp only); (repeat' split) <;> omega, l3⟩,
    ⟨bm2, [], t2.fr (f4.step F5) (fun h => h) (fun h => h) (fun _ _ h => h.elim), rfl, by unfold newC; (try dsimp only); (repeat' split) <;> omega, by unfold newC; (try dsimp only); (repeat' split) <;> omega, l6⟩, ?_,
    ⟨?_, by unfold newC; (try dsimp only); (repeat' split) <;> omega⟩, ⟨OwnI.nil _ _, fun b hb => (by cases hb)⟩, ⟨[], rfl, OwnE.nil _ _ _ _ _, fun b hb => (by cases hb), fun x hx => (by simp at hx)⟩, by unfold newC; (try dsimp only); (repeat' split) <;> omega, fun b hb => ?_⟩
  · have hfo := HFO.out.mono (M' := fun k => newC w.heap.size w1.heap.size w2.heap.size w3.heap.size w4.heap.size k = 2) (fun k hk hm => by have := HMM.out k hm; unfold newC; (try dsimp only); (repeat' split) <;> omega) (fun k hk => by unfold newC at hk; (repeat' split at hk) <;> omega)
    refine ForAt.keep (c := newC w.heap.size w1.heap.size w2.heap.size w3.heap.size w4.heap.size) hfo ⟨F5, Ext.refl _ _, fun _ _ h => h.elim⟩ (fun b hb => ?_)
    simp only [World.size_alloc]
    unfold newC at hb
    (repeat' split at hb) <;> omega
  · exact ((MapIs.new .string Value.string w4).fr (((Fr.refl NoB _).alloc _).alloc _) (fun h => h))
  · simp only [World.size_alloc]
    unfold newC at hb
    (repeat' split at hb) <;> omega
theorem emade_any {c : Col} {w : World} {bg : Nat} {s : GS} (h : GrAt c w bg s) : Calls Tryz.prog 25 #[.pointer (some ⟨bg, 0, none⟩)] w fun e w' => e = .returned (.bool true) ∧ w' = w := by
  obtain ⟨bc, hh, h1, _⟩ := h
  have c0 := cells_at h1 0
  simp only [List.getElem?_toArray, List.getElem?_cons_zero] at c0
  have lb : bg < w.heap.size := (Array.getElem?_eq_some_iff.1 h1).1
  have e1 : ∀ w1 r, (binOp .neq 22 (.pointer (some r)) (.pointer none)).run Tryz.prog w1 = .ok (.bool true) w1 := fun w1 r => by kernel_rfl
  have e2 : ∀ w1 r, (binOp .neq 55 (.pointer (some r)) (.pointer none)).run Tryz.prog w1 = .ok (.bool true) w1 := fun w1 r => by kernel_rfl
  go_enter Tryz.func25, Tryz.ntmps25
  go_wp2
  go_ret
  exact ⟨rfl, rfl⟩
end Go.Proofs.YtlekoceindepnaaGreatDoor
end
section
/- An e-graph in memory: the steps of its parts. -/
namespace Go.Proofs.YtlekoceindepnaaGreatDoor
open Go.RowKit
set_option maxRecDepth 100000

section
variable {c : Col} {w W W6 : World} {bc : Nat} {h : GH} {s : GS} {v v6 : Value} {i j0 : Nat}
theorem Fr.put' {W6 : World} {bc j : Nat} (v : Value) : Fr (fun b => b = bc) W6 (W6.setCell ⟨bc, j, none⟩ v) := (Fr.refl (fun b => b = bc) W6).setCell (p := ⟨bc, j, none⟩) (fun _ => rfl) _
/-- The blocks that a graph's methods may turn. -/
def Mut (c : Col) : Nat → Prop := fun k => c k ≠ 0 ∧ c k ≠ 12 ∧ c k ≠ 13
/-- A row of colour i that grew, and its slice stored in the core. -/
structure RowK (c : Col) (W W6 : World) (bc : Nat) (i j0 : Nat) (v v6 : Value) (hd : Array Value) : Prop where
  head : W6.heap[bc]? = some (.cells hd 66 (0, 0))
  head' : (W6.setCell ⟨bc, j0, none⟩ v6).heap[bc]? = some (.cells (hd.setIfInBounds j0 v6) 66 (0, 0))
  keep : ∀ j, j ≠ i → j ≠ 11 → Keep c (paint c W W6 i) (fun b => v.ownBlock = some b ∨ b = bc) W (W6.setCell ⟨bc, j0, none⟩ v6) j
  lt : ∀ b, paint c W W6 i b ≠ 0 → b < (W6.setCell ⟨bc, j0, none⟩ v6).heap.size
  own : paint c W W6 i bc = 11
  fr : Fr (Mut c) W (W6.setCell ⟨bc, j0, none⟩ v6)
  ext : Ext c (paint c W W6 i) W
theorem GIs.rowK (g : GIs c W bc h s) (v6 : Value) (j0 : Nat) (hi : i ≠ 12) (hi' : i ≠ 11) (hi0 : i ≠ 0 ∧ i ≠ 13) (hvc : ∀ b, v.ownBlock = some b → c b = i) (hf : Fr (fun b => v.ownBlock = some b) W W6) : RowK c W W6 bc i j0 v v6 (coreC h s.dirty) := by
  have hd := hf.at (fun e => by have h1 := hvc bc e; rw [g.own] at h1; exact hi' h1.symm) g.head
  have f7 : Fr (fun b => b = bc) W6 (W6.setCell ⟨bc, j0, none⟩ v6) := Fr.put' v6
  have f8 : Fr (fun b => v.ownBlock = some b ∨ b = bc) W (W6.setCell ⟨bc, j0, none⟩ v6) := (hf.mono (fun _ _ h => .inl h)).trans (f7.mono (fun _ _ h => .inr h))
  refine ⟨hd, set_at hd j0 v6, fun j hj hj' => ⟨f8, Ext.paint _ _ _ _, fun k hk hm => ?_⟩, fun b hb => Nat.lt_of_lt_of_le (g.paintLt i hf.size b hb) f7.size, by rw [paint_old g.lb]; exact g.own, f8.mono (fun k hk hm => ?_), Ext.paint _ _ _ _⟩
  · rcases hm with hm | rfl
    · rw [hvc k hm]; exact ⟨fun e => hj e.symm, hi⟩
    · rw [g.own]; exact ⟨fun e => hj' e.symm, by decide⟩
  · rcases hm with hm | rfl
    · unfold Mut; rw [hvc k hm]; exact ⟨hi0.1, hi, hi0.2⟩
    · unfold Mut; rw [g.own]; decide
theorem own_grow {B : Nat} {W7 : World} {b : Nat} (hlt : b < W6.heap.size) (hvc : ∀ b, v.ownBlock = some b → c b = i) (hbl : ∀ b, v.ownBlock = some b → b < W.heap.size) (hb : v6.ownBlock = v.ownBlock ∨ ∃ q, v6.ownBlock = some q ∧ W.heap.size ≤ q) (h6 : v6.ownBlock = some b) : paint c W W6 i b = i := by
  rcases hb with h | ⟨q, h, hq⟩
  · rw [h] at h6; rw [paint_old (hbl b h6)]; exact hvc b h6
  · rw [h] at h6; cases h6; exact paint_new hq hlt
theorem own_bc {B k : Nat} {α : Type} {enc : α → List Value} {e : TypeId} {l : List α} {hd : Array Value} {j0 : Nat} (ho : OwnE enc k e B W6 v6 l) (hh : W6.heap[bc]? = some (.cells hd 66 (0, 0))) (he : e ≠ 66) : OwnE enc k e B (W6.setCell ⟨bc, j0, none⟩ v6) v6 l :=
  OwnE.fr ho (Fr.put' v6) (fun b hb hm => by
    obtain ⟨cur, hc⟩ := OwnE.head ho hb
    exact ne_of_types hc hh he hm)
theorem GIs.setNodes (g : GIs c W bc h s) {d' : List (Node × Value)} {ns' : List Node} (hf : Fr (fun b => h.vn.ownBlock = some b) W W6) (ho : OwnN 0 W6 v6 d') (hb : v6.ownBlock = h.vn.ownBlock ∨ ∃ q, v6.ownBlock = some q ∧ W.heap.size ≤ q)
    (hd : d'.map (·.1) = ns') (ha : ∀ x ∈ d', RdI (fun k => c k ≠ 12) W x.2 x.1.args) :
    RowK c W W6 bc 9 1 h.vn v6 (coreC h s.dirty) ∧ GIs (paint c W W6 9) (W6.setCell ⟨bc, 1, none⟩ v6) bc { h with vn := v6 } { s with nodes := ns' } := by
  obtain ⟨d, e1, e2, e3, e4⟩ := g.nodes
  have K := g.rowK v6 1 (by decide) (by decide) (by decide) e3 hf
  refine ⟨K, K.head', g.sets.keep (K.keep 1 (by decide) (by decide)), ⟨d', hd, own_bc ho K.head (by decide), fun b hb9 => own_grow (W7 := W6) (B := 0) (World.ownsRow.lt ho b hb9).2 e3 (fun b hb => (World.ownsRow.lt e2 b hb).2) hb hb9, fun x hx => keep_rd (ha x hx) (K.keep 1 (by decide) (by decide)).fr K.ext (fun b hb hm => ((K.keep 1 (by decide) (by decide)).out b hb hm).2)⟩,
    g.keys.keep (K.keep 8 (by decide) (by decide)), g.users.keep (K.keep 3 (by decide) (by decide)), g.exact.keep (K.keep 5 (by decide) (by decide)), g.table.keep (K.keep 6 (by decide) (by decide)), g.proofs.keep (K.keep 2 (by decide) (by decide)) K.lt, g.vars.keep (K.keep 7 (by decide) (by decide)), g.todo.keep (K.keep 4 (by decide) (by decide)), g.marks.keep (K.keep 10 (by decide) (by decide)), K.own, K.lt⟩
theorem GIs.setKeys (g : GIs c W bc h s) {d' : List (Node × Value)} {ns' : List Node} (hf : Fr (fun b => h.vk.ownBlock = some b) W W6) (ho : OwnN 0 W6 v6 d') (hb : v6.ownBlock = h.vk.ownBlock ∨ ∃ q, v6.ownBlock = some q ∧ W.heap.size ≤ q)
    (hd : d'.map (·.1) = ns') (ha : ∀ x ∈ d', RdI (fun k => c k ≠ 12) W x.2 x.1.args) :
    RowK c W W6 bc 8 2 h.vk v6 (coreC h s.dirty) ∧ GIs (paint c W W6 8) (W6.setCell ⟨bc, 2, none⟩ v6) bc { h with vk := v6 } { s with keys := ns' } := by
  obtain ⟨d, e1, e2, e3, e4⟩ := g.keys
  have K := g.rowK v6 2 (by decide) (by decide) (by decide) e3 hf
  refine ⟨K, K.head', g.sets.keep (K.keep 1 (by decide) (by decide)), g.nodes.keep (K.keep 9 (by decide) (by decide)), ⟨d', hd, own_bc ho K.head (by decide), fun b hb9 => own_grow (W7 := W6) (B := 0) (World.ownsRow.lt ho b hb9).2 e3 (fun b hb => (World.ownsRow.lt e2 b hb).2) hb hb9, fun x hx => keep_rd (ha x hx) (K.keep 1 (by decide) (by decide)).fr K.ext (fun b hb hm => ((K.keep 1 (by decide) (by decide)).out b hb hm).2)⟩,
    g.users.keep (K.keep 3 (by decide) (by decide)), g.exact.keep (K.keep 5 (by decide) (by decide)), g.table.keep (K.keep 6 (by decide) (by decide)), g.proofs.keep (K.keep 2 (by decide) (by decide)) K.lt, g.vars.keep (K.keep 7 (by decide) (by decide)), g.todo.keep (K.keep 4 (by decide) (by decide)), g.marks.keep (K.keep 10 (by decide) (by decide)), K.own, K.lt⟩
theorem GIs.setTodo (g : GIs c W bc h s) {l' : List Int} (hf : Fr (fun b => h.vt.ownBlock = some b) W W6) (ho : OwnI 0 W6 v6 l') (hb : v6.ownBlock = h.vt.ownBlock ∨ ∃ q, v6.ownBlock = some q ∧ W.heap.size ≤ q) :
    RowK c W W6 bc 4 8 h.vt v6 (coreC h s.dirty) ∧ GIs (paint c W W6 4) (W6.setCell ⟨bc, 8, none⟩ v6) bc { h with vt := v6 } { s with todo := l' } := by
  have K := g.rowK v6 8 (by decide) (by decide) (by decide) g.todo.2 hf
  have ho2 : OwnI 0 (W6.setCell ⟨bc, 8, none⟩ v6) v6 l' := ho.fr (Fr.put' v6) (fun b hb hm => by
    obtain ⟨cur, hc⟩ := ho.head hb
    exact ne_of_types hc K.head (by decide) hm)
  exact ⟨K, K.head', g.sets.keep (K.keep 1 (by decide) (by decide)), g.nodes.keep (K.keep 9 (by decide) (by decide)), g.keys.keep (K.keep 8 (by decide) (by decide)), g.users.keep (K.keep 3 (by decide) (by decide)), g.exact.keep (K.keep 5 (by decide) (by decide)), g.table.keep (K.keep 6 (by decide) (by decide)),
    g.proofs.keep (K.keep 2 (by decide) (by decide)) K.lt, g.vars.keep (K.keep 7 (by decide) (by decide)), ⟨ho2, fun b hb9 => own_grow (W7 := W6) (B := 0) (World.ownsRow.lt ho b hb9).2 g.todo.2 (fun b hb => (World.ownsRow.lt g.todo.1 b hb).2) hb hb9⟩, g.marks.keep (K.keep 10 (by decide) (by decide)), K.own, K.lt⟩
/-- New blocks get colour i: nothing else is touched. -/
theorem GIs.fresh (g : GIs c W bc h s) (i : Nat) (hf : Fr NoB W W6) : GIs (paint c W W6 i) W6 bc h s := g.keep hf (Ext.paint _ _ _ _) (fun _ _ h => h.elim) (g.paintLt i hf.size)
/-- The sets have turned. -/
theorem GIs.setUf (g : GIs c W bc h s) {u : Uf} (hs : SetsAt (Grow (fun k => c k = 1) W W6) W6 h.bs u) (hf : Fr (fun k => c k = 1) W W6) : GIs (paint c W W6 1) W6 bc h { s with uf := u } := by
  have K := keep_of (c := c) (c' := paint c W W6 1) hf (Ext.paint _ _ _ _) (fun k _ h => h) (by decide)
  have lt := g.paintLt 1 hf.size
  refine ⟨hf.at (fun hm => by have h1 : c bc = 1 := hm; rw [g.own] at h1; exact absurd h1 (by decide)) g.head, hs.mono (fun k hk => ?_), g.nodes.keep (K 9 (by decide)), g.keys.keep (K 8 (by decide)), g.users.keep (K 3 (by decide)), g.exact.keep (K 5 (by decide)), g.table.keep (K 6 (by decide)),
    g.proofs.keep (K 2 (by decide)) lt, g.vars.keep (K 7 (by decide)), g.todo.keep (K 4 (by decide)), g.marks.keep (K 10 (by decide)), by rw [paint_old g.lb]; exact g.own, lt⟩
  rcases hk with hk | ⟨h1, h2⟩
  · show paint c W W6 1 k = 1
    rw [paint_old (g.lt k (by rw [show c k = 1 from hk]; decide))]; exact hk
  · exact paint_new h1 h2
/-- The forest has turned. -/
theorem GIs.setFor (g : GIs c W bc h s) {M' : Nat → Prop} {L : List Lnk} {r : Int → Int} (hs : ForAt M' W6 h.bf L r) (hM : ∀ k, M' k → c k = 2 ∨ W.heap.size ≤ k) (hf : Fr (fun k => c k = 2) W W6) : GIs (paint c W W6 2) W6 bc h { s with links := L, lr := r } := by
  have K := keep_of (c := c) (c' := paint c W W6 2) hf (Ext.paint _ _ _ _) (fun k _ h => h) (by decide)
  have lt := g.paintLt 2 hf.size
  refine ⟨hf.at (fun hm => by have h1 : c bc = 2 := hm; rw [g.own] at h1; exact absurd h1 (by decide)) g.head, g.sets.keep (K 1 (by decide)), g.nodes.keep (K 9 (by decide)), g.keys.keep (K 8 (by decide)), g.users.keep (K 3 (by decide)), g.exact.keep (K 5 (by decide)), g.table.keep (K 6 (by decide)),
    hs.mono (fun k hk hm => ?_) (fun k hk => lt k (by rw [show paint c W W6 2 k = 2 from hk]; decide)), g.vars.keep (K 7 (by decide)), g.todo.keep (K 4 (by decide)), g.marks.keep (K 10 (by decide)), by rw [paint_old g.lb]; exact g.own, lt⟩
  rcases hM k hm with h1 | h1
  · show paint c W W6 2 k = 2
    rw [paint_old (g.lt k (by rw [h1]; decide))]; exact h1
  · exact paint_new h1 hk
end
end Go.Proofs.YtlekoceindepnaaGreatDoor
end
section
/- The walk of egraph's core.flaw (printed by gen_flaw.py). -/
namespace Go.Proofs.YtlekoceindepnaaGreatDoor
open Go.RowKit
set_option maxRecDepth 100000

def vget (vs : List (ByteArray × Int)) (nm : ByteArray) : Option Int := (vs.find? (fun x => decide (x.1 = nm))).map (·.2)
theorem vget_mget (vs : List (ByteArray × Int)) (nm : ByteArray) : mget (vs.map fun x => (x.1, Value.int .i64 x.2)) nm = (vget vs nm).map (Value.int .i64) := by
  unfold mget vget
  induction vs with
  | nil => rfl
  | cons x l ih =>
    simp only [List.map_cons, List.find?_cons]
    by_cases h : x.1 = nm
    · simp [h]
    · simp only [h, decide_false]
      exact ih
theorem VarsAt.look {c : Col} {w : World} {b : Nat} {vs : List (ByteArray × Int)} (h : VarsAt c w b vs) (nm : ByteArray) :
    (Instr.lookup 63 (.map (some b)) (.string nm) true).run Tryz.prog w = .ok (.tuple #[.int .i64 ((vget vs nm).getD 0), .bool (vget vs nm).isSome]) w := by
  have hg := vget_mget vs nm
  cases hv : vget vs nm with
  | none =>
    rw [hv] at hg
    exact h.1.lookNone (P := Tryz.prog) kkString Tryz.underlying63 Tryz.underlying9 nm hg (z := .int .i64 0) (by kernel_rfl) true
  | some x =>
    rw [hv] at hg
    exact h.1.look (P := Tryz.prog) kkString Tryz.underlying63 Tryz.underlying9 nm hg true
theorem make_cap (w : World) (n : Nat) (hn : n ≤ 1000000) : (Instr.makeSlice 28 (.int .i64 0) (.int .i64 n)).run Tryz.prog w = .ok (.slice (some ⟨w.heap.size, 0, none⟩) 0 n) (w.alloc (.cells (Array.replicate n (.int .i64 0)) 3)) := by
  obtain ⟨i0, hi, hz0, hz1, hz2⟩ := info_parts infoInt
  have h := run_make (P := Tryz.prog) w 28 3 i0 (.int .i64 0) Tryz.underlying28 hi hz0 .i64 .i64 0 n (by omega) (by omega) (by rw [hz2]; omega) (by omega)
  simp only [Int.toNat_natCast, Int.toNat_zero] at h
  rw [h, hz1, Nat.mul_one]
  have e : madeCells (Value.int .i64 0).cells n = Array.replicate n (.int .i64 0) := by
    apply Array.ext'
    rw [show (Value.int .i64 0).cells = #[.int .i64 0] from rfl, toList_madeCells_one]
    simp
  rw [e]
theorem ownI_cap (w : World) (B n : Nat) (hB : B ≤ w.heap.size) (hn : n ≤ 1000000) : OwnI B (w.alloc (.cells (Array.replicate n (.int .i64 0)) 3)) (.slice (some ⟨w.heap.size, 0, none⟩) 0 n) [] :=
  ⟨rfl, .inr ⟨w.heap.size, n, _, rfl, hB, at_new w _, Nat.zero_le _, by unfold maxLen; omega, by simp, by simp⟩⟩

def inR (k : Nat) (l : List Int) : Bool := l.all (fun a => decide (0 ≤ a ∧ a < (k : Int)))
def flawT (s : GS) (n : Node) : Int :=
  if inR s.nodes.length n.args = false then 2
  else if n.width < 1 ∨ (opW n.op n.width n.val (n.args.map (wAt s.nodes))).2 ≠ 0 ∨ (opW n.op n.width n.val (n.args.map (wAt s.nodes))).1 ≠ n.width then 3
  else if n.op = 1 ∧ (vget s.vars n.name).isSome = true ∧ (vget s.vars n.name).getD 0 ≠ n.width then 12 else 0
def flawS (s : GS) (n : Node) : Int :=
  if ariS n.op < 0 ∨ patS n.op = true ∨ (n.args.length : Int) ≠ ariS n.op then 4
  else if (n.name.toList ≠ [] ∧ n.op ≠ 1) ∨ (n.val ≠ 0 ∧ n.op ≠ 2 ∧ n.op ≠ 21) then 4
  else if n.op = 1 ∧ nameS n.name = false then 5
  else flawT s n
theorem inR_snoc {k j : Nat} {l : List Int} (h : j < l.length) (h1 : inR k (l.take j) = true) (h2 : 0 ≤ l.getD j 0 ∧ l.getD j 0 < (k : Int)) : inR k (l.take (j + 1)) = true := by
  unfold inR at *
  rw [List.take_add_one, List.all_append, h1, List.getElem?_eq_getElem h]
  rw [List.getD_eq_getElem?_getD, List.getElem?_eq_getElem h] at h2
  simp only [Option.getD_some] at h2
  simp [h2]
theorem inR_bad {k j : Nat} {l : List Int} (h : j < l.length) (h2 : ¬ (0 ≤ l.getD j 0 ∧ l.getD j 0 < (k : Int))) : inR k l = false := by
  unfold inR
  rw [List.all_eq_false]
  rw [List.getD_eq_getElem?_getD, List.getElem?_eq_getElem h] at h2
  simp only [Option.getD_some] at h2
  exact ⟨l[j], List.getElem_mem _, by simpa using h2⟩
theorem inR_mem {k : Nat} {l : List Int} (h : inR k l = true) : ∀ a ∈ l, 0 ≤ a ∧ a < (k : Int) := fun a ha => by
  unfold inR at h
  rw [List.all_eq_true] at h
  simpa using h a ha
theorem wAt_get {ns : List Node} {d : List (Node × Value)} (h : d.map (·.1) = ns) {a : Nat} (ha : a < d.length) : wAt ns (a : Int) = d[a].1.width := by
  unfold wAt
  rw [← h, Int.toNat_natCast, List.getElem?_map, List.getElem?_eq_getElem ha]; rfl

set_option maxHeartbeats 16000000 in
theorem flaw_any {c : Col} {w : World} {bc : Nat} {h : GH} {s : GS} (g : GIs c w bc h s) (n : Node) (v : Value) (hr : RdI NoB w v n.args) (hla : n.args.length ≤ 1000000) :
    Calls Tryz.prog 26 #[.pointer (some ⟨bc, 0, none⟩), nodeV n v] w fun e w' => e = .returned (.int .i64 (flawS s n)) ∧ Fr NoB w w' := by
  obtain ⟨a0, c0, rfl⟩ := hr.form
  have HN := hid hr
  have G := hid g
  clear hr g
  unfold nodeV
  by_cases hc1 : ariS n.op < 0 ∨ patS n.op = true ∨ (n.args.length : Int) ≠ ariS n.op
  · have HV : Hid (flawS s n = 4) := by show _ = _; unfold flawS; rw [if_pos hc1]
    go_enter Tryz.func26, Tryz.ntmps26
    by_cases h1 : ariS n.op < 0
    · clear hc1
      go_wp2_with (first
        | (go_at_call 52; refine (arity_any _ _).mono ?_; rintro e w9 ⟨rfl, h9⟩; have h9 := h9.symm; subst h9)
        | (go_at_call 53; refine (pat_any _ _).mono ?_; rintro e w9 ⟨rfl, h9⟩; have h9 := h9.symm; subst h9)
        | (go_at_call 54; refine (name_any _ _).mono ?_; rintro e w9 ⟨rfl, h9⟩; have h9 := h9.symm; subst h9))
      go_ret
      exact ⟨by rw [HV.out]; rfl, (Fr.refl NoB w).alloc _⟩
    · by_cases h2 : patS n.op = true
      · clear hc1
        go_wp2_with (first
          | (go_at_call 52; refine (arity_any _ _).mono ?_; rintro e w9 ⟨rfl, h9⟩; have h9 := h9.symm; subst h9)
          | (go_at_call 53; refine (pat_any _ _).mono ?_; rintro e w9 ⟨rfl, h9⟩; have h9 := h9.symm; subst h9)
          | (go_at_call 54; refine (name_any _ _).mono ?_; rintro e w9 ⟨rfl, h9⟩; have h9 := h9.symm; subst h9))
        go_ret
        exact ⟨by rw [HV.out]; rfl, (Fr.refl NoB w).alloc _⟩
      · have h2' : patS n.op = false := by simpa using h2
        have h3 : (n.args.length : Int) ≠ ariS n.op := by
          rcases hc1 with h | h | h
          · exact absurd h h1
          · exact absurd h h2
          · exact h
        have h3' : ((n.args.length : Int) != ariS n.op) = true := by simpa using h3
        clear hc1
        go_wp2_with (first
          | (go_at_call 52; refine (arity_any _ _).mono ?_; rintro e w9 ⟨rfl, h9⟩; have h9 := h9.symm; subst h9)
          | (go_at_call 53; refine (pat_any _ _).mono ?_; rintro e w9 ⟨rfl, h9⟩; have h9 := h9.symm; subst h9)
          | (go_at_call 54; refine (name_any _ _).mono ?_; rintro e w9 ⟨rfl, h9⟩; have h9 := h9.symm; subst h9))
        go_ret
        exact ⟨by rw [HV.out]; rfl, (Fr.refl NoB w).alloc _⟩
  have hA : ¬ ariS n.op < 0 := fun h => hc1 (.inl h)
  have hP : patS n.op = false := by
    cases hp : patS n.op with
    | false => rfl
    | true => exact absurd (.inr (.inl hp)) hc1
  have hL : ((n.args.length : Int) != ariS n.op) = false := by
    have h9 : (n.args.length : Int) = ariS n.op := Decidable.byContradiction fun h => hc1 (.inr (.inr h))
    simp [h9]
  by_cases hc2 : (n.name.toList ≠ [] ∧ n.op ≠ 1) ∨ (n.val ≠ 0 ∧ n.op ≠ 2 ∧ n.op ≠ 21)
  · have HV : Hid (flawS s n = 4) := by show _ = _; unfold flawS; rw [if_neg hc1, if_pos hc2]
    have HC2 := hid hc2
    clear hc1 hc2
    go_enter Tryz.func26, Tryz.ntmps26
    go_wp2_with (first
      | (go_at_call 52; refine (arity_any _ _).mono ?_; rintro e w9 ⟨rfl, h9⟩; have h9 := h9.symm; subst h9)
      | (go_at_call 53; refine (pat_any _ _).mono ?_; rintro e w9 ⟨rfl, h9⟩; have h9 := h9.symm; subst h9)
      | (go_at_call 54; refine (name_any _ _).mono ?_; rintro e w9 ⟨rfl, h9⟩; have h9 := h9.symm; subst h9))
    all_goals first
      | (go_ret; exact ⟨by rw [HV.out]; rfl, (Fr.refl NoB w).alloc _⟩)
      | (exfalso; have := HC2.out; simp_all; done)
      | (exfalso; have := HC2.out; simp_all; omega)
  by_cases hc3 : n.op = 1 ∧ nameS n.name = false
  · have HV : Hid (flawS s n = 5) := by show _ = _; unfold flawS; rw [if_neg hc1, if_neg hc2, if_pos hc3]
    have HC2 := hid hc2
    obtain ⟨h1, h2⟩ := hc3
    have HH1 := hid h1
    clear hc1 hc2
    go_enter Tryz.func26, Tryz.ntmps26
    go_wp2_with (first
      | (go_at_call 52; refine (arity_any _ _).mono ?_; rintro e w9 ⟨rfl, h9⟩; have h9 := h9.symm; subst h9)
      | (go_at_call 53; refine (pat_any _ _).mono ?_; rintro e w9 ⟨rfl, h9⟩; have h9 := h9.symm; subst h9)
      | (go_at_call 54; refine (name_any _ _).mono ?_; rintro e w9 ⟨rfl, h9⟩; have h9 := h9.symm; subst h9))
    all_goals first
      | (go_ret; exact ⟨by rw [HV.out]; rfl, (Fr.refl NoB w).alloc _⟩)
      | (exfalso; have := HC2.out; have := HH1.out; simp_all; done)
      | (exfalso; have := HC2.out; have := HH1.out; simp_all; omega)
  have HFT : Hid (flawS s n = flawT s n) := by show _ = _; unfold flawS; rw [if_neg hc1, if_neg hc2, if_neg hc3]
  have hall : (n.name.toList = [] ∧ n.val = 0 ∧ n.op ≠ 1) ∨ (n.name.toList = [] ∧ n.val ≠ 0 ∧ n.op = 2) ∨ (n.name.toList = [] ∧ n.val ≠ 0 ∧ n.op ≠ 2 ∧ n.op = 21) ∨ (n.name.toList ≠ [] ∧ n.val = 0 ∧ n.op = 1 ∧ nameS n.name = true) ∨ (n.name.toList = [] ∧ n.val = 0 ∧ n.op = 1 ∧ nameS n.name = true) := by
    have hb : nameS n.name = true ∨ nameS n.name = false := by cases nameS n.name <;> simp
    by_cases a1 : n.name.toList = [] <;> by_cases a2 : n.val = 0 <;> by_cases a3 : n.op = 1 <;> by_cases a4 : n.op = 2 <;> by_cases a5 : n.op = 21 <;> rcases hb with a6 | a6 <;> simp_all
  clear hc1 hc2 hc3
  rcases hall with ⟨hn, hv, ho⟩ | ⟨hn, hv, ho⟩ | ⟨hn, hv, ho', ho⟩ | ⟨hn, hv, ho, hN⟩ | ⟨hn, hv, ho, hN⟩
  · have hno : ¬ n.op = 1 := ho
    go_enter Tryz.func26, Tryz.ntmps26
    have mk := fun W => make_cap W n.args.length hla
    go_wp2_with (first
      | (go_at_call 52; refine (arity_any _ _).mono ?_; rintro e w9 ⟨rfl, h9⟩; have h9 := h9.symm; subst h9)
      | (go_at_call 53; refine (pat_any _ _).mono ?_; rintro e w9 ⟨rfl, h9⟩; have h9 := h9.symm; subst h9)
      | (go_at_call 54; refine (name_any _ _).mono ?_; rintro e w9 ⟨rfl, h9⟩; have h9 := h9.symm; subst h9))
    obtain ⟨w2, hw2⟩ : ∃ w2, w.alloc (.cells (nodeCells n (.slice a0 n.args.length c0)) 30) = w2 := ⟨_, rfl⟩
    have HB2 : Hid (w2.heap[w.heap.size]? = some (.cells (nodeCells n (.slice a0 n.args.length c0)) 30 (0, 0))) := by
      show _ = _
      rw [← hw2]
      exact at_new w _
    have F02 : Hid (Fr NoB w w2) := by show Fr _ _ _; rw [← hw2]; exact (Fr.refl NoB w).alloc _
    have HSZ : Hid (w.heap.size + 1 = w2.heap.size) := by show _ = _; rw [← hw2]; simp
    try simp only [nodeCells] at hw2
    try simp only [hv] at hw2
    rw [hw2]
    clear hw2
    go_loopw [6, 69] (fun t j wr => ∃ (k : Nat), k ≤ n.args.length ∧ j = .int .i64 k ∧ Fr NoB w2 wr ∧ OwnI w2.heap.size wr t ((n.args.take k).map (wAt s.nodes)) ∧ Hid (inR s.nodes.length (n.args.take k) = true)) (fun _ j _ => n.args.length - (intOf j).toNat)
    case atStart => exact ⟨0, Nat.zero_le _, rfl, (Fr.refl NoB w2).alloc _, by rw [HSZ.out]; exact ownI_cap w2 _ _ (Nat.le_refl _) hla, hid rfl⟩
    case round =>
      obtain ⟨k, hk, rfl, hf, ho, HIN⟩ := hrel
      obtain ⟨tp, tc, hv⟩ := ho.form
      rw [show ((n.args.take k).map (wAt s.nodes)).length = k by simp; omega] at hv
      subst hv
      have F := hid hf
      have O := hid ho
      have FW := hid (F02.out.step hf)
      have B2 := hid (hf.at (fun h => h) HB2.out)
      have G2 := hid (G.out.quiet FW.out)
      have hcell := cells_at G2.out.head 1
      simp only [coreC, List.getElem?_toArray, List.getElem?_cons_succ, List.getElem?_cons_zero] at hcell
      have lbc := G2.out.lb
      obtain ⟨x0, x1, x2, x3, x4, xf, xl⟩ := five_of B2.out
      clear hf ho
      by_cases hlt : k < n.args.length
      · obtain ⟨ba, oa, hpp, ka⟩ := (HN.out.fr FW.out (fun _ _ h => h)).cellK hlt
        subst hpp
        obtain ⟨y, hy⟩ : ∃ y, n.args.getD k 0 = y := ⟨_, rfl⟩
        rw [hy] at ka
        have HY := hid hy
        clear hy
        by_cases hy0 : 0 ≤ y ∧ y < (s.nodes.length : Int)
        · obtain ⟨y0, y1⟩ := hy0
          obtain ⟨dn, hd1, hd2, hd3, hd4⟩ := G2.out.nodes
          have hdl : dn.length = s.nodes.length := by rw [← hd1, List.length_map]
          obtain ⟨np, nc, hvn⟩ := OwnE.form hd2
          rw [hdl] at hvn
          have HVN := hid hvn
          rw [hvn] at hcell
          obtain ⟨yn, rfl⟩ : ∃ yn : Nat, y = yn := ⟨y.toNat, by omega⟩
          have hyn : yn < dn.length := by omega
          have hrdn : RdN NoB wr h.vn dn := OwnE.rdN hd2 (fun _ _ h => h) (fun x hx => (hd4 x hx).weaken (fun _ _ h => h.elim))
          rw [hvn] at hrdn
          obtain ⟨b, off, hpp, e0, e1, e2, e3, e4, _⟩ := hrdn.nodeK hyn
          subst hpp
          have HWA := hid (wAt_get hd1 hyn)
          generalize dn[yn] = z at e0 e1 e2 e3 e4 HWA
          have e1' := e1
          clear e0 e2 e3 e4 hrdn hd2 hd3 hd4
          have hB : w2.heap.size ≤ wr.heap.size := F.out.size
          go_wp2_with (at_builtin; go_loud (refine ap_ints_at _ rfl _ _ rfl w2.heap.size (.slice tp k tc) _ rfl (OwnI.fr O.out ((Fr.refl NoB wr).alloc (.cells #[.int .i64 z.1.width] 3)) (fun _ _ h => h)) NoB _ [z.1.width] rfl (rdI_lit' (l := [z.1.width]) rfl rfl rfl (fun h => h)) ?_ ?_ ?_; (simp; omega); (simp only [World.size_alloc]; omega); intro v6 w6 ho6 hg6 ha6; obtain ⟨p6, q6, hv6⟩ := ho6.form; rw [show ((n.args.take k).map (wAt s.nodes) ++ [z.1.width]).length = k + 1 by simp; omega] at hv6; subst hv6; have F6 : Hid (Fr NoB w2 w6) := Fr.grown (F.out.alloc _) hg6 (fun j hj hj2 => by have := (World.ownsRow.lt O.out j hj).1; omega); have O6 := hid ho6; clear ho6 hg6 ha6))
          go_roundw
          case rel => exact ⟨k + 1, by omega, by go_num, F6.out, by rw [take_map_snoc _ hlt, HY.out, HWA.out]; exact O6.out, hid (inR_snoc hlt HIN.out (by rw [HY.out]; omega))⟩
          case measure => simp [intOf]; omega
        · have HBAD := hid (inR_bad (k := s.nodes.length) hlt (by rw [HY.out]; exact hy0))
          obtain ⟨dn, hd1, hd2, hd3, hd4⟩ := G2.out.nodes
          have hdl : dn.length = s.nodes.length := by rw [← hd1, List.length_map]
          obtain ⟨np, nc, hvn⟩ := OwnE.form hd2
          rw [hdl] at hvn
          rw [hvn] at hcell
          clear hd2 hd3 hd4
          by_cases hneg : y < 0
          · go_wp2
            go_ret
            refine ⟨ret_int ?_, FW.out⟩
            rw [HFT.out]; unfold flawT; rw [if_pos HBAD.out]
          · have hge : (s.nodes.length : Int) ≤ y := by omega
            go_wp2
            go_ret
            refine ⟨ret_int ?_, FW.out⟩
            rw [HFT.out]; unfold flawT; rw [if_pos HBAD.out]
      · obtain rfl : k = n.args.length := by omega
        rw [List.take_length] at HIN O
        have HT : Hid (flawT s n = if n.width < 1 ∨ (opW n.op n.width n.val (n.args.map (wAt s.nodes))).2 ≠ 0 ∨ (opW n.op n.width n.val (n.args.map (wAt s.nodes))).1 ≠ n.width then 3
          else if n.op = 1 ∧ (vget s.vars n.name).isSome = true ∧ (vget s.vars n.name).getD 0 ≠ n.width then 12 else 0) := by
          show _ = _
          unfold flawT
          rw [if_neg (by rw [HIN.out]; decide)]
        go_wp2_with fail
        refine (width_any NoB n.op n.width 0 _ _ (n.args.map (wAt s.nodes)) (O.out.rd (fun _ _ h => h)) (by simp; omega)).mono ?_
        rintro e w5 ⟨rfl, hf5⟩
        have B5 := hid (hf5.at (fun h => h) B2.out)
        have FW5 := hid (FW.out.step hf5)
        clear hf5 x0 x1 x2 x3 x4 xf xl hcell lbc
        obtain ⟨x0, x1, x2, x3, x4, xf, xl⟩ := five_of B5.out
        obtain ⟨⟨q1, q2⟩, hq⟩ : ∃ q, opW n.op n.width 0 (n.args.map (wAt s.nodes)) = q := ⟨_, rfl⟩
        rw [hq]
        have HQ : Hid (opW n.op n.width n.val (n.args.map (wAt s.nodes)) = (q1, q2)) := by show _ = _; rw [← hq]; rw [hv]
        clear hq
        simp only
        by_cases hw1 : n.width < 1
        · go_wp2
          go_ret
          refine ⟨ret_int ?_, FW5.out⟩
          rw [HFT.out, HT.out, if_pos (.inl hw1)]
        have hw1' : ¬ n.width < 1 := hw1
        by_cases hq2 : q2 = 0
        rotate_left
        · have hq2' : (q2 == 0) = false := by simpa using hq2
          have HQ2 := hid hq2
          go_wp2
          go_ret
          refine ⟨ret_int ?_, FW5.out⟩
          rw [HFT.out, HT.out, if_pos (.inr (.inl (by rw [HQ.out]; exact HQ2.out)))]
        subst hq2
        by_cases hq1 : q1 = n.width
        rotate_left
        · have hq1' : (q1 == n.width) = false := by simpa using hq1
          have HQ1 := hid hq1
          go_wp2
          go_ret
          refine ⟨ret_int ?_, FW5.out⟩
          rw [HFT.out, HT.out, if_pos (.inr (.inr (by rw [HQ.out]; exact HQ1.out)))]
        subst hq1
        have HT2 : Hid (flawT s n = if n.op = 1 ∧ (vget s.vars n.name).isSome = true ∧ (vget s.vars n.name).getD 0 ≠ n.width then 12 else 0) := by
          show _ = _
          rw [HT.out, if_neg (by rw [HQ.out]; omega)]
        have G5 := hid (G.out.quiet FW5.out)
        have hcell := cells_at G5.out.head 7
        simp only [coreC, List.getElem?_toArray, List.getElem?_cons_succ, List.getElem?_cons_zero] at hcell
        have lbc := G5.out.lb
        go_wp2
        refine region_txt (Fr NoB _) (by kernel_rfl) (by kernel_rfl) ((Fr.refl NoB _).drew) ?_
        repeat (first | (refine txt_off (by rfl) ?_; (try simp only [Act.put, List.setIfInBounds_toArray, List.set_cons_zero, List.set_cons_succ])) | (refine txt_read ?_ (by rfl) ?_ ?_; rotate_left; (focus (intro W hW; have hWc := Fr.cq hW; clear hW; go_simp; (try with_reducible rfl); done)); (try simp only [Act.put, List.setIfInBounds_toArray, List.set_cons_zero, List.set_cons_succ])))
        obtain ⟨ov, hov⟩ : ∃ o, (vget s.vars n.name).getD 0 = o := ⟨_, rfl⟩
        obtain ⟨ob, hob⟩ : ∃ o, (vget s.vars n.name).isSome = o := ⟨_, rfl⟩
        refine txt_read (.tuple #[.int .i64 ov, .bool ob]) (by rfl) (fun W hW => by
          have h9 := ((G5.out.quiet hW).vars).look n.name
          rw [hov, hob] at h9
          go_simp) ?_
        repeat (first | (refine txt_off (by rfl) ?_; (try simp only [Act.put, List.setIfInBounds_toArray, List.set_cons_zero, List.set_cons_succ])) | (refine txt_read ?_ (by rfl) ?_ ?_; rotate_left; (focus (intro W hW; have hWc := Fr.cq hW; clear hW; go_simp; (try with_reducible rfl); done)); (try simp only [Act.put, List.setIfInBounds_toArray, List.set_cons_zero, List.set_cons_succ])))
        refine txt_nil ?_
        intro W hW
        have HOV := hid hov
        have HOB := hid hob
        have B6 := hid (hW.at (fun h => h) B5.out)
        have FW6 := hid (FW5.out.step hW)
        clear hW x0 x1 x2 x3 x4 xf xl hov hob hcell lbc
        obtain ⟨x0, x1, x2, x3, x4, xf, xl⟩ := five_of B6.out
        go_wp2
        go_ret
        refine ⟨ret_int ?_, FW6.out⟩
        rw [HFT.out, HT2.out, if_neg (fun h => hno h.1)]

  · have hA2 := hA
    have hP2 := hP
    have hL2 := hL
    rw [ho] at hA2 hP2 hL2
    have hno : ¬ n.op = 1 := by omega
    go_enter Tryz.func26, Tryz.ntmps26
    have mk := fun W => make_cap W n.args.length hla
    go_wp2_with (first
      | (go_at_call 52; refine (arity_any _ _).mono ?_; rintro e w9 ⟨rfl, h9⟩; have h9 := h9.symm; subst h9)
      | (go_at_call 53; refine (pat_any _ _).mono ?_; rintro e w9 ⟨rfl, h9⟩; have h9 := h9.symm; subst h9)
      | (go_at_call 54; refine (name_any _ _).mono ?_; rintro e w9 ⟨rfl, h9⟩; have h9 := h9.symm; subst h9))
    obtain ⟨w2, hw2⟩ : ∃ w2, w.alloc (.cells (nodeCells n (.slice a0 n.args.length c0)) 30) = w2 := ⟨_, rfl⟩
    have HB2 : Hid (w2.heap[w.heap.size]? = some (.cells (nodeCells n (.slice a0 n.args.length c0)) 30 (0, 0))) := by
      show _ = _
      rw [← hw2]
      exact at_new w _
    have F02 : Hid (Fr NoB w w2) := by show Fr _ _ _; rw [← hw2]; exact (Fr.refl NoB w).alloc _
    have HSZ : Hid (w.heap.size + 1 = w2.heap.size) := by show _ = _; rw [← hw2]; simp
    try simp only [nodeCells] at hw2
    try simp only [ho] at hw2
    rw [hw2]
    clear hw2
    go_loopw [6, 69] (fun t j wr => ∃ (k : Nat), k ≤ n.args.length ∧ j = .int .i64 k ∧ Fr NoB w2 wr ∧ OwnI w2.heap.size wr t ((n.args.take k).map (wAt s.nodes)) ∧ Hid (inR s.nodes.length (n.args.take k) = true)) (fun _ j _ => n.args.length - (intOf j).toNat)
    case atStart => exact ⟨0, Nat.zero_le _, rfl, (Fr.refl NoB w2).alloc _, by rw [HSZ.out]; exact ownI_cap w2 _ _ (Nat.le_refl _) hla, hid rfl⟩
    case round =>
      obtain ⟨k, hk, rfl, hf, ho, HIN⟩ := hrel
      obtain ⟨tp, tc, hv⟩ := ho.form
      rw [show ((n.args.take k).map (wAt s.nodes)).length = k by simp; omega] at hv
      subst hv
      have F := hid hf
      have O := hid ho
      have FW := hid (F02.out.step hf)
      have B2 := hid (hf.at (fun h => h) HB2.out)
      have G2 := hid (G.out.quiet FW.out)
      have hcell := cells_at G2.out.head 1
      simp only [coreC, List.getElem?_toArray, List.getElem?_cons_succ, List.getElem?_cons_zero] at hcell
      have lbc := G2.out.lb
      obtain ⟨x0, x1, x2, x3, x4, xf, xl⟩ := five_of B2.out
      clear hf ho
      by_cases hlt : k < n.args.length
      · obtain ⟨ba, oa, hpp, ka⟩ := (HN.out.fr FW.out (fun _ _ h => h)).cellK hlt
        subst hpp
        obtain ⟨y, hy⟩ : ∃ y, n.args.getD k 0 = y := ⟨_, rfl⟩
        rw [hy] at ka
        have HY := hid hy
        clear hy
        by_cases hy0 : 0 ≤ y ∧ y < (s.nodes.length : Int)
        · obtain ⟨y0, y1⟩ := hy0
          obtain ⟨dn, hd1, hd2, hd3, hd4⟩ := G2.out.nodes
          have hdl : dn.length = s.nodes.length := by rw [← hd1, List.length_map]
          obtain ⟨np, nc, hvn⟩ := OwnE.form hd2
          rw [hdl] at hvn
          have HVN := hid hvn
          rw [hvn] at hcell
          obtain ⟨yn, rfl⟩ : ∃ yn : Nat, y = yn := ⟨y.toNat, by omega⟩
          have hyn : yn < dn.length := by omega
          have hrdn : RdN NoB wr h.vn dn := OwnE.rdN hd2 (fun _ _ h => h) (fun x hx => (hd4 x hx).weaken (fun _ _ h => h.elim))
          rw [hvn] at hrdn
          obtain ⟨b, off, hpp, e0, e1, e2, e3, e4, _⟩ := hrdn.nodeK hyn
          subst hpp
          have HWA := hid (wAt_get hd1 hyn)
          generalize dn[yn] = z at e0 e1 e2 e3 e4 HWA
          have e1' := e1
          clear e0 e2 e3 e4 hrdn hd2 hd3 hd4
          have hB : w2.heap.size ≤ wr.heap.size := F.out.size
          go_wp2_with (at_builtin; go_loud (refine ap_ints_at _ rfl _ _ rfl w2.heap.size (.slice tp k tc) _ rfl (OwnI.fr O.out ((Fr.refl NoB wr).alloc (.cells #[.int .i64 z.1.width] 3)) (fun _ _ h => h)) NoB _ [z.1.width] rfl (rdI_lit' (l := [z.1.width]) rfl rfl rfl (fun h => h)) ?_ ?_ ?_; (simp; omega); (simp only [World.size_alloc]; omega); intro v6 w6 ho6 hg6 ha6; obtain ⟨p6, q6, hv6⟩ := ho6.form; rw [show ((n.args.take k).map (wAt s.nodes) ++ [z.1.width]).length = k + 1 by simp; omega] at hv6; subst hv6; have F6 : Hid (Fr NoB w2 w6) := Fr.grown (F.out.alloc _) hg6 (fun j hj hj2 => by have := (World.ownsRow.lt O.out j hj).1; omega); have O6 := hid ho6; clear ho6 hg6 ha6))
          go_roundw
          case rel => exact ⟨k + 1, by omega, by go_num, F6.out, by rw [take_map_snoc _ hlt, HY.out, HWA.out]; exact O6.out, hid (inR_snoc hlt HIN.out (by rw [HY.out]; omega))⟩
          case measure => simp [intOf]; omega
        · have HBAD := hid (inR_bad (k := s.nodes.length) hlt (by rw [HY.out]; exact hy0))
          obtain ⟨dn, hd1, hd2, hd3, hd4⟩ := G2.out.nodes
          have hdl : dn.length = s.nodes.length := by rw [← hd1, List.length_map]
          obtain ⟨np, nc, hvn⟩ := OwnE.form hd2
          rw [hdl] at hvn
          rw [hvn] at hcell
          clear hd2 hd3 hd4
          by_cases hneg : y < 0
          · go_wp2
            go_ret
            refine ⟨ret_int ?_, FW.out⟩
            rw [HFT.out]; unfold flawT; rw [if_pos HBAD.out]
          · have hge : (s.nodes.length : Int) ≤ y := by omega
            go_wp2
            go_ret
            refine ⟨ret_int ?_, FW.out⟩
            rw [HFT.out]; unfold flawT; rw [if_pos HBAD.out]
      · obtain rfl : k = n.args.length := by omega
        rw [List.take_length] at HIN O
        have HT : Hid (flawT s n = if n.width < 1 ∨ (opW n.op n.width n.val (n.args.map (wAt s.nodes))).2 ≠ 0 ∨ (opW n.op n.width n.val (n.args.map (wAt s.nodes))).1 ≠ n.width then 3
          else if n.op = 1 ∧ (vget s.vars n.name).isSome = true ∧ (vget s.vars n.name).getD 0 ≠ n.width then 12 else 0) := by
          show _ = _
          unfold flawT
          rw [if_neg (by rw [HIN.out]; decide)]
        go_wp2_with fail
        refine (width_any NoB 2 n.width n.val _ _ (n.args.map (wAt s.nodes)) (O.out.rd (fun _ _ h => h)) (by simp; omega)).mono ?_
        rintro e w5 ⟨rfl, hf5⟩
        have B5 := hid (hf5.at (fun h => h) B2.out)
        have FW5 := hid (FW.out.step hf5)
        clear hf5 x0 x1 x2 x3 x4 xf xl hcell lbc
        obtain ⟨x0, x1, x2, x3, x4, xf, xl⟩ := five_of B5.out
        obtain ⟨⟨q1, q2⟩, hq⟩ : ∃ q, opW 2 n.width n.val (n.args.map (wAt s.nodes)) = q := ⟨_, rfl⟩
        rw [hq]
        have HQ : Hid (opW n.op n.width n.val (n.args.map (wAt s.nodes)) = (q1, q2)) := by show _ = _; rw [← hq]; rw [ho]
        clear hq
        simp only
        by_cases hw1 : n.width < 1
        · go_wp2
          go_ret
          refine ⟨ret_int ?_, FW5.out⟩
          rw [HFT.out, HT.out, if_pos (.inl hw1)]
        have hw1' : ¬ n.width < 1 := hw1
        by_cases hq2 : q2 = 0
        rotate_left
        · have hq2' : (q2 == 0) = false := by simpa using hq2
          have HQ2 := hid hq2
          go_wp2
          go_ret
          refine ⟨ret_int ?_, FW5.out⟩
          rw [HFT.out, HT.out, if_pos (.inr (.inl (by rw [HQ.out]; exact HQ2.out)))]
        subst hq2
        by_cases hq1 : q1 = n.width
        rotate_left
        · have hq1' : (q1 == n.width) = false := by simpa using hq1
          have HQ1 := hid hq1
          go_wp2
          go_ret
          refine ⟨ret_int ?_, FW5.out⟩
          rw [HFT.out, HT.out, if_pos (.inr (.inr (by rw [HQ.out]; exact HQ1.out)))]
        subst hq1
        have HT2 : Hid (flawT s n = if n.op = 1 ∧ (vget s.vars n.name).isSome = true ∧ (vget s.vars n.name).getD 0 ≠ n.width then 12 else 0) := by
          show _ = _
          rw [HT.out, if_neg (by rw [HQ.out]; omega)]
        have G5 := hid (G.out.quiet FW5.out)
        have hcell := cells_at G5.out.head 7
        simp only [coreC, List.getElem?_toArray, List.getElem?_cons_succ, List.getElem?_cons_zero] at hcell
        have lbc := G5.out.lb
        go_wp2
        refine region_txt (Fr NoB _) (by kernel_rfl) (by kernel_rfl) ((Fr.refl NoB _).drew) ?_
        repeat (first | (refine txt_off (by rfl) ?_; (try simp only [Act.put, List.setIfInBounds_toArray, List.set_cons_zero, List.set_cons_succ])) | (refine txt_read ?_ (by rfl) ?_ ?_; rotate_left; (focus (intro W hW; have hWc := Fr.cq hW; clear hW; go_simp; (try with_reducible rfl); done)); (try simp only [Act.put, List.setIfInBounds_toArray, List.set_cons_zero, List.set_cons_succ])))
        obtain ⟨ov, hov⟩ : ∃ o, (vget s.vars n.name).getD 0 = o := ⟨_, rfl⟩
        obtain ⟨ob, hob⟩ : ∃ o, (vget s.vars n.name).isSome = o := ⟨_, rfl⟩
        refine txt_read (.tuple #[.int .i64 ov, .bool ob]) (by rfl) (fun W hW => by
          have h9 := ((G5.out.quiet hW).vars).look n.name
          rw [hov, hob] at h9
          go_simp) ?_
        repeat (first | (refine txt_off (by rfl) ?_; (try simp only [Act.put, List.setIfInBounds_toArray, List.set_cons_zero, List.set_cons_succ])) | (refine txt_read ?_ (by rfl) ?_ ?_; rotate_left; (focus (intro W hW; have hWc := Fr.cq hW; clear hW; go_simp; (try with_reducible rfl); done)); (try simp only [Act.put, List.setIfInBounds_toArray, List.set_cons_zero, List.set_cons_succ])))
        refine txt_nil ?_
        intro W hW
        have HOV := hid hov
        have HOB := hid hob
        have B6 := hid (hW.at (fun h => h) B5.out)
        have FW6 := hid (FW5.out.step hW)
        clear hW x0 x1 x2 x3 x4 xf xl hov hob hcell lbc
        obtain ⟨x0, x1, x2, x3, x4, xf, xl⟩ := five_of B6.out
        go_wp2
        go_ret
        refine ⟨ret_int ?_, FW6.out⟩
        rw [HFT.out, HT2.out, if_neg (fun h => hno h.1)]

  · have hA2 := hA
    have hP2 := hP
    have hL2 := hL
    rw [ho] at hA2 hP2 hL2
    have hno : ¬ n.op = 1 := by omega
    go_enter Tryz.func26, Tryz.ntmps26
    have mk := fun W => make_cap W n.args.length hla
    go_wp2_with (first
      | (go_at_call 52; refine (arity_any _ _).mono ?_; rintro e w9 ⟨rfl, h9⟩; have h9 := h9.symm; subst h9)
      | (go_at_call 53; refine (pat_any _ _).mono ?_; rintro e w9 ⟨rfl, h9⟩; have h9 := h9.symm; subst h9)
      | (go_at_call 54; refine (name_any _ _).mono ?_; rintro e w9 ⟨rfl, h9⟩; have h9 := h9.symm; subst h9))
    obtain ⟨w2, hw2⟩ : ∃ w2, w.alloc (.cells (nodeCells n (.slice a0 n.args.length c0)) 30) = w2 := ⟨_, rfl⟩
    have HB2 : Hid (w2.heap[w.heap.size]? = some (.cells (nodeCells n (.slice a0 n.args.length c0)) 30 (0, 0))) := by
      show _ = _
      rw [← hw2]
      exact at_new w _
    have F02 : Hid (Fr NoB w w2) := by show Fr _ _ _; rw [← hw2]; exact (Fr.refl NoB w).alloc _
    have HSZ : Hid (w.heap.size + 1 = w2.heap.size) := by show _ = _; rw [← hw2]; simp
    try simp only [nodeCells] at hw2
    try simp only [ho] at hw2
    rw [hw2]
    clear hw2
    go_loopw [6, 69] (fun t j wr => ∃ (k : Nat), k ≤ n.args.length ∧ j = .int .i64 k ∧ Fr NoB w2 wr ∧ OwnI w2.heap.size wr t ((n.args.take k).map (wAt s.nodes)) ∧ Hid (inR s.nodes.length (n.args.take k) = true)) (fun _ j _ => n.args.length - (intOf j).toNat)
    case atStart => exact ⟨0, Nat.zero_le _, rfl, (Fr.refl NoB w2).alloc _, by rw [HSZ.out]; exact ownI_cap w2 _ _ (Nat.le_refl _) hla, hid rfl⟩
    case round =>
      obtain ⟨k, hk, rfl, hf, ho, HIN⟩ := hrel
      obtain ⟨tp, tc, hv⟩ := ho.form
      rw [show ((n.args.take k).map (wAt s.nodes)).length = k by simp; omega] at hv
      subst hv
      have F := hid hf
      have O := hid ho
      have FW := hid (F02.out.step hf)
      have B2 := hid (hf.at (fun h => h) HB2.out)
      have G2 := hid (G.out.quiet FW.out)
      have hcell := cells_at G2.out.head 1
      simp only [coreC, List.getElem?_toArray, List.getElem?_cons_succ, List.getElem?_cons_zero] at hcell
      have lbc := G2.out.lb
      obtain ⟨x0, x1, x2, x3, x4, xf, xl⟩ := five_of B2.out
      clear hf ho
      by_cases hlt : k < n.args.length
      · obtain ⟨ba, oa, hpp, ka⟩ := (HN.out.fr FW.out (fun _ _ h => h)).cellK hlt
        subst hpp
        obtain ⟨y, hy⟩ : ∃ y, n.args.getD k 0 = y := ⟨_, rfl⟩
        rw [hy] at ka
        have HY := hid hy
        clear hy
        by_cases hy0 : 0 ≤ y ∧ y < (s.nodes.length : Int)
        · obtain ⟨y0, y1⟩ := hy0
          obtain ⟨dn, hd1, hd2, hd3, hd4⟩ := G2.out.nodes
          have hdl : dn.length = s.nodes.length := by rw [← hd1, List.length_map]
          obtain ⟨np, nc, hvn⟩ := OwnE.form hd2
          rw [hdl] at hvn
          have HVN := hid hvn
          rw [hvn] at hcell
          obtain ⟨yn, rfl⟩ : ∃ yn : Nat, y = yn := ⟨y.toNat, by omega⟩
          have hyn : yn < dn.length := by omega
          have hrdn : RdN NoB wr h.vn dn := OwnE.rdN hd2 (fun _ _ h => h) (fun x hx => (hd4 x hx).weaken (fun _ _ h => h.elim))
          rw [hvn] at hrdn
          obtain ⟨b, off, hpp, e0, e1, e2, e3, e4, _⟩ := hrdn.nodeK hyn
          subst hpp
          have HWA := hid (wAt_get hd1 hyn)
          generalize dn[yn] = z at e0 e1 e2 e3 e4 HWA
          have e1' := e1
          clear e0 e2 e3 e4 hrdn hd2 hd3 hd4
          have hB : w2.heap.size ≤ wr.heap.size := F.out.size
          go_wp2_with (at_builtin; go_loud (refine ap_ints_at _ rfl _ _ rfl w2.heap.size (.slice tp k tc) _ rfl (OwnI.fr O.out ((Fr.refl NoB wr).alloc (.cells #[.int .i64 z.1.width] 3)) (fun _ _ h => h)) NoB _ [z.1.width] rfl (rdI_lit' (l := [z.1.width]) rfl rfl rfl (fun h => h)) ?_ ?_ ?_; (simp; omega); (simp only [World.size_alloc]; omega); intro v6 w6 ho6 hg6 ha6; obtain ⟨p6, q6, hv6⟩ := ho6.form; rw [show ((n.args.take k).map (wAt s.nodes) ++ [z.1.width]).length = k + 1 by simp; omega] at hv6; subst hv6; have F6 : Hid (Fr NoB w2 w6) := Fr.grown (F.out.alloc _) hg6 (fun j hj hj2 => by have := (World.ownsRow.lt O.out j hj).1; omega); have O6 := hid ho6; clear ho6 hg6 ha6))
          go_roundw
          case rel => exact ⟨k + 1, by omega, by go_num, F6.out, by rw [take_map_snoc _ hlt, HY.out, HWA.out]; exact O6.out, hid (inR_snoc hlt HIN.out (by rw [HY.out]; omega))⟩
          case measure => simp [intOf]; omega
        · have HBAD := hid (inR_bad (k := s.nodes.length) hlt (by rw [HY.out]; exact hy0))
          obtain ⟨dn, hd1, hd2, hd3, hd4⟩ := G2.out.nodes
          have hdl : dn.length = s.nodes.length := by rw [← hd1, List.length_map]
          obtain ⟨np, nc, hvn⟩ := OwnE.form hd2
          rw [hdl] at hvn
          rw [hvn] at hcell
          clear hd2 hd3 hd4
          by_cases hneg : y < 0
          · go_wp2
            go_ret
            refine ⟨ret_int ?_, FW.out⟩
            rw [HFT.out]; unfold flawT; rw [if_pos HBAD.out]
          · have hge : (s.nodes.length : Int) ≤ y := by omega
            go_wp2
            go_ret
            refine ⟨ret_int ?_, FW.out⟩
            rw [HFT.out]; unfold flawT; rw [if_pos HBAD.out]
      · obtain rfl : k = n.args.length := by omega
        rw [List.take_length] at HIN O
        have HT : Hid (flawT s n = if n.width < 1 ∨ (opW n.op n.width n.val (n.args.map (wAt s.nodes))).2 ≠ 0 ∨ (opW n.op n.width n.val (n.args.map (wAt s.nodes))).1 ≠ n.width then 3
          else if n.op = 1 ∧ (vget s.vars n.name).isSome = true ∧ (vget s.vars n.name).getD 0 ≠ n.width then 12 else 0) := by
          show _ = _
          unfold flawT
          rw [if_neg (by rw [HIN.out]; decide)]
        go_wp2_with fail
        refine (width_any NoB 21 n.width n.val _ _ (n.args.map (wAt s.nodes)) (O.out.rd (fun _ _ h => h)) (by simp; omega)).mono ?_
        rintro e w5 ⟨rfl, hf5⟩
        have B5 := hid (hf5.at (fun h => h) B2.out)
        have FW5 := hid (FW.out.step hf5)
        clear hf5 x0 x1 x2 x3 x4 xf xl hcell lbc
        obtain ⟨x0, x1, x2, x3, x4, xf, xl⟩ := five_of B5.out
        obtain ⟨⟨q1, q2⟩, hq⟩ : ∃ q, opW 21 n.width n.val (n.args.map (wAt s.nodes)) = q := ⟨_, rfl⟩
        rw [hq]
        have HQ : Hid (opW n.op n.width n.val (n.args.map (wAt s.nodes)) = (q1, q2)) := by show _ = _; rw [← hq]; rw [ho]
        clear hq
        simp only
        by_cases hw1 : n.width < 1
        · go_wp2
          go_ret
          refine ⟨ret_int ?_, FW5.out⟩
          rw [HFT.out, HT.out, if_pos (.inl hw1)]
        have hw1' : ¬ n.width < 1 := hw1
        by_cases hq2 : q2 = 0
        rotate_left
        · have hq2' : (q2 == 0) = false := by simpa using hq2
          have HQ2 := hid hq2
          go_wp2
          go_ret
          refine ⟨ret_int ?_, FW5.out⟩
          rw [HFT.out, HT.out, if_pos (.inr (.inl (by rw [HQ.out]; exact HQ2.out)))]
        subst hq2
        by_cases hq1 : q1 = n.width
        rotate_left
        · have hq1' : (q1 == n.width) = false := by simpa using hq1
          have HQ1 := hid hq1
          go_wp2
          go_ret
          refine ⟨ret_int ?_, FW5.out⟩
          rw [HFT.out, HT.out, if_pos (.inr (.inr (by rw [HQ.out]; exact HQ1.out)))]
        subst hq1
        have HT2 : Hid (flawT s n = if n.op = 1 ∧ (vget s.vars n.name).isSome = true ∧ (vget s.vars n.name).getD 0 ≠ n.width then 12 else 0) := by
          show _ = _
          rw [HT.out, if_neg (by rw [HQ.out]; omega)]
        have G5 := hid (G.out.quiet FW5.out)
        have hcell := cells_at G5.out.head 7
        simp only [coreC, List.getElem?_toArray, List.getElem?_cons_succ, List.getElem?_cons_zero] at hcell
        have lbc := G5.out.lb
        go_wp2
        refine region_txt (Fr NoB _) (by kernel_rfl) (by kernel_rfl) ((Fr.refl NoB _).drew) ?_
        repeat (first | (refine txt_off (by rfl) ?_; (try simp only [Act.put, List.setIfInBounds_toArray, List.set_cons_zero, List.set_cons_succ])) | (refine txt_read ?_ (by rfl) ?_ ?_; rotate_left; (focus (intro W hW; have hWc := Fr.cq hW; clear hW; go_simp; (try with_reducible rfl); done)); (try simp only [Act.put, List.setIfInBounds_toArray, List.set_cons_zero, List.set_cons_succ])))
        obtain ⟨ov, hov⟩ : ∃ o, (vget s.vars n.name).getD 0 = o := ⟨_, rfl⟩
        obtain ⟨ob, hob⟩ : ∃ o, (vget s.vars n.name).isSome = o := ⟨_, rfl⟩
        refine txt_read (.tuple #[.int .i64 ov, .bool ob]) (by rfl) (fun W hW => by
          have h9 := ((G5.out.quiet hW).vars).look n.name
          rw [hov, hob] at h9
          go_simp) ?_
        repeat (first | (refine txt_off (by rfl) ?_; (try simp only [Act.put, List.setIfInBounds_toArray, List.set_cons_zero, List.set_cons_succ])) | (refine txt_read ?_ (by rfl) ?_ ?_; rotate_left; (focus (intro W hW; have hWc := Fr.cq hW; clear hW; go_simp; (try with_reducible rfl); done)); (try simp only [Act.put, List.setIfInBounds_toArray, List.set_cons_zero, List.set_cons_succ])))
        refine txt_nil ?_
        intro W hW
        have HOV := hid hov
        have HOB := hid hob
        have B6 := hid (hW.at (fun h => h) B5.out)
        have FW6 := hid (FW5.out.step hW)
        clear hW x0 x1 x2 x3 x4 xf xl hov hob hcell lbc
        obtain ⟨x0, x1, x2, x3, x4, xf, xl⟩ := five_of B6.out
        go_wp2
        go_ret
        refine ⟨ret_int ?_, FW6.out⟩
        rw [HFT.out, HT2.out, if_neg (fun h => hno h.1)]

  · have hA2 := hA
    have hP2 := hP
    have hL2 := hL
    rw [ho] at hA2 hP2 hL2
    go_enter Tryz.func26, Tryz.ntmps26
    have mk := fun W => make_cap W n.args.length hla
    go_wp2_with (first
      | (go_at_call 52; refine (arity_any _ _).mono ?_; rintro e w9 ⟨rfl, h9⟩; have h9 := h9.symm; subst h9)
      | (go_at_call 53; refine (pat_any _ _).mono ?_; rintro e w9 ⟨rfl, h9⟩; have h9 := h9.symm; subst h9)
      | (go_at_call 54; refine (name_any _ _).mono ?_; rintro e w9 ⟨rfl, h9⟩; have h9 := h9.symm; subst h9))
    obtain ⟨w2, hw2⟩ : ∃ w2, w.alloc (.cells (nodeCells n (.slice a0 n.args.length c0)) 30) = w2 := ⟨_, rfl⟩
    have HB2 : Hid (w2.heap[w.heap.size]? = some (.cells (nodeCells n (.slice a0 n.args.length c0)) 30 (0, 0))) := by
      show _ = _
      rw [← hw2]
      exact at_new w _
    have F02 : Hid (Fr NoB w w2) := by show Fr _ _ _; rw [← hw2]; exact (Fr.refl NoB w).alloc _
    have HSZ : Hid (w.heap.size + 1 = w2.heap.size) := by show _ = _; rw [← hw2]; simp
    try simp only [nodeCells] at hw2
    try simp only [ho, hv] at hw2
    rw [hw2]
    clear hw2
    go_loopw [6, 69] (fun t j wr => ∃ (k : Nat), k ≤ n.args.length ∧ j = .int .i64 k ∧ Fr NoB w2 wr ∧ OwnI w2.heap.size wr t ((n.args.take k).map (wAt s.nodes)) ∧ Hid (inR s.nodes.length (n.args.take k) = true)) (fun _ j _ => n.args.length - (intOf j).toNat)
    case atStart => exact ⟨0, Nat.zero_le _, rfl, (Fr.refl NoB w2).alloc _, by rw [HSZ.out]; exact ownI_cap w2 _ _ (Nat.le_refl _) hla, hid rfl⟩
    case round =>
      obtain ⟨k, hk, rfl, hf, ho, HIN⟩ := hrel
      obtain ⟨tp, tc, hv⟩ := ho.form
      rw [show ((n.args.take k).map (wAt s.nodes)).length = k by simp; omega] at hv
      subst hv
      have F := hid hf
      have O := hid ho
      have FW := hid (F02.out.step hf)
      have B2 := hid (hf.at (fun h => h) HB2.out)
      have G2 := hid (G.out.quiet FW.out)
      have hcell := cells_at G2.out.head 1
      simp only [coreC, List.getElem?_toArray, List.getElem?_cons_succ, List.getElem?_cons_zero] at hcell
      have lbc := G2.out.lb
      obtain ⟨x0, x1, x2, x3, x4, xf, xl⟩ := five_of B2.out
      clear hf ho
      by_cases hlt : k < n.args.length
      · obtain ⟨ba, oa, hpp, ka⟩ := (HN.out.fr FW.out (fun _ _ h => h)).cellK hlt
        subst hpp
        obtain ⟨y, hy⟩ : ∃ y, n.args.getD k 0 = y := ⟨_, rfl⟩
        rw [hy] at ka
        have HY := hid hy
        clear hy
        by_cases hy0 : 0 ≤ y ∧ y < (s.nodes.length : Int)
        · obtain ⟨y0, y1⟩ := hy0
          obtain ⟨dn, hd1, hd2, hd3, hd4⟩ := G2.out.nodes
          have hdl : dn.length = s.nodes.length := by rw [← hd1, List.length_map]
          obtain ⟨np, nc, hvn⟩ := OwnE.form hd2
          rw [hdl] at hvn
          have HVN := hid hvn
          rw [hvn] at hcell
          obtain ⟨yn, rfl⟩ : ∃ yn : Nat, y = yn := ⟨y.toNat, by omega⟩
          have hyn : yn < dn.length := by omega
          have hrdn : RdN NoB wr h.vn dn := OwnE.rdN hd2 (fun _ _ h => h) (fun x hx => (hd4 x hx).weaken (fun _ _ h => h.elim))
          rw [hvn] at hrdn
          obtain ⟨b, off, hpp, e0, e1, e2, e3, e4, _⟩ := hrdn.nodeK hyn
          subst hpp
          have HWA := hid (wAt_get hd1 hyn)
          generalize dn[yn] = z at e0 e1 e2 e3 e4 HWA
          have e1' := e1
          clear e0 e2 e3 e4 hrdn hd2 hd3 hd4
          have hB : w2.heap.size ≤ wr.heap.size := F.out.size
          go_wp2_with (at_builtin; go_loud (refine ap_ints_at _ rfl _ _ rfl w2.heap.size (.slice tp k tc) _ rfl (OwnI.fr O.out ((Fr.refl NoB wr).alloc (.cells #[.int .i64 z.1.width] 3)) (fun _ _ h => h)) NoB _ [z.1.width] rfl (rdI_lit' (l := [z.1.width]) rfl rfl rfl (fun h => h)) ?_ ?_ ?_; (simp; omega); (simp only [World.size_alloc]; omega); intro v6 w6 ho6 hg6 ha6; obtain ⟨p6, q6, hv6⟩ := ho6.form; rw [show ((n.args.take k).map (wAt s.nodes) ++ [z.1.width]).length = k + 1 by simp; omega] at hv6; subst hv6; have F6 : Hid (Fr NoB w2 w6) := Fr.grown (F.out.alloc _) hg6 (fun j hj hj2 => by have := (World.ownsRow.lt O.out j hj).1; omega); have O6 := hid ho6; clear ho6 hg6 ha6))
          go_roundw
          case rel => exact ⟨k + 1, by omega, by go_num, F6.out, by rw [take_map_snoc _ hlt, HY.out, HWA.out]; exact O6.out, hid (inR_snoc hlt HIN.out (by rw [HY.out]; omega))⟩
          case measure => simp [intOf]; omega
        · have HBAD := hid (inR_bad (k := s.nodes.length) hlt (by rw [HY.out]; exact hy0))
          obtain ⟨dn, hd1, hd2, hd3, hd4⟩ := G2.out.nodes
          have hdl : dn.length = s.nodes.length := by rw [← hd1, List.length_map]
          obtain ⟨np, nc, hvn⟩ := OwnE.form hd2
          rw [hdl] at hvn
          rw [hvn] at hcell
          clear hd2 hd3 hd4
          by_cases hneg : y < 0
          · go_wp2
            go_ret
            refine ⟨ret_int ?_, FW.out⟩
            rw [HFT.out]; unfold flawT; rw [if_pos HBAD.out]
          · have hge : (s.nodes.length : Int) ≤ y := by omega
            go_wp2
            go_ret
            refine ⟨ret_int ?_, FW.out⟩
            rw [HFT.out]; unfold flawT; rw [if_pos HBAD.out]
      · obtain rfl : k = n.args.length := by omega
        rw [List.take_length] at HIN O
        have HT : Hid (flawT s n = if n.width < 1 ∨ (opW n.op n.width n.val (n.args.map (wAt s.nodes))).2 ≠ 0 ∨ (opW n.op n.width n.val (n.args.map (wAt s.nodes))).1 ≠ n.width then 3
          else if n.op = 1 ∧ (vget s.vars n.name).isSome = true ∧ (vget s.vars n.name).getD 0 ≠ n.width then 12 else 0) := by
          show _ = _
          unfold flawT
          rw [if_neg (by rw [HIN.out]; decide)]
        go_wp2_with fail
        refine (width_any NoB 1 n.width 0 _ _ (n.args.map (wAt s.nodes)) (O.out.rd (fun _ _ h => h)) (by simp; omega)).mono ?_
        rintro e w5 ⟨rfl, hf5⟩
        have B5 := hid (hf5.at (fun h => h) B2.out)
        have FW5 := hid (FW.out.step hf5)
        clear hf5 x0 x1 x2 x3 x4 xf xl hcell lbc
        obtain ⟨x0, x1, x2, x3, x4, xf, xl⟩ := five_of B5.out
        obtain ⟨⟨q1, q2⟩, hq⟩ : ∃ q, opW 1 n.width 0 (n.args.map (wAt s.nodes)) = q := ⟨_, rfl⟩
        rw [hq]
        have HQ : Hid (opW n.op n.width n.val (n.args.map (wAt s.nodes)) = (q1, q2)) := by show _ = _; rw [← hq]; rw [ho, hv]
        clear hq
        simp only
        by_cases hw1 : n.width < 1
        · go_wp2
          go_ret
          refine ⟨ret_int ?_, FW5.out⟩
          rw [HFT.out, HT.out, if_pos (.inl hw1)]
        have hw1' : ¬ n.width < 1 := hw1
        by_cases hq2 : q2 = 0
        rotate_left
        · have hq2' : (q2 == 0) = false := by simpa using hq2
          have HQ2 := hid hq2
          go_wp2
          go_ret
          refine ⟨ret_int ?_, FW5.out⟩
          rw [HFT.out, HT.out, if_pos (.inr (.inl (by rw [HQ.out]; exact HQ2.out)))]
        subst hq2
        by_cases hq1 : q1 = n.width
        rotate_left
        · have hq1' : (q1 == n.width) = false := by simpa using hq1
          have HQ1 := hid hq1
          go_wp2
          go_ret
          refine ⟨ret_int ?_, FW5.out⟩
          rw [HFT.out, HT.out, if_pos (.inr (.inr (by rw [HQ.out]; exact HQ1.out)))]
        subst hq1
        have HT2 : Hid (flawT s n = if n.op = 1 ∧ (vget s.vars n.name).isSome = true ∧ (vget s.vars n.name).getD 0 ≠ n.width then 12 else 0) := by
          show _ = _
          rw [HT.out, if_neg (by rw [HQ.out]; omega)]
        have G5 := hid (G.out.quiet FW5.out)
        have hcell := cells_at G5.out.head 7
        simp only [coreC, List.getElem?_toArray, List.getElem?_cons_succ, List.getElem?_cons_zero] at hcell
        have lbc := G5.out.lb
        go_wp2
        refine region_txt (Fr NoB _) (by kernel_rfl) (by kernel_rfl) ((Fr.refl NoB _).drew) ?_
        repeat (first | (refine txt_off (by rfl) ?_; (try simp only [Act.put, List.setIfInBounds_toArray, List.set_cons_zero, List.set_cons_succ])) | (refine txt_read ?_ (by rfl) ?_ ?_; rotate_left; (focus (intro W hW; have hWc := Fr.cq hW; clear hW; go_simp; (try with_reducible rfl); done)); (try simp only [Act.put, List.setIfInBounds_toArray, List.set_cons_zero, List.set_cons_succ])))
        obtain ⟨ov, hov⟩ : ∃ o, (vget s.vars n.name).getD 0 = o := ⟨_, rfl⟩
        obtain ⟨ob, hob⟩ : ∃ o, (vget s.vars n.name).isSome = o := ⟨_, rfl⟩
        refine txt_read (.tuple #[.int .i64 ov, .bool ob]) (by rfl) (fun W hW => by
          have h9 := ((G5.out.quiet hW).vars).look n.name
          rw [hov, hob] at h9
          go_simp) ?_
        repeat (first | (refine txt_off (by rfl) ?_; (try simp only [Act.put, List.setIfInBounds_toArray, List.set_cons_zero, List.set_cons_succ])) | (refine txt_read ?_ (by rfl) ?_ ?_; rotate_left; (focus (intro W hW; have hWc := Fr.cq hW; clear hW; go_simp; (try with_reducible rfl); done)); (try simp only [Act.put, List.setIfInBounds_toArray, List.set_cons_zero, List.set_cons_succ])))
        refine txt_nil ?_
        intro W hW
        have HOV := hid hov
        have HOB := hid hob
        have B6 := hid (hW.at (fun h => h) B5.out)
        have FW6 := hid (FW5.out.step hW)
        clear hW x0 x1 x2 x3 x4 xf xl hov hob hcell lbc
        obtain ⟨x0, x1, x2, x3, x4, xf, xl⟩ := five_of B6.out
        cases ob with
        | false =>
          go_wp2
          go_ret
          refine ⟨ret_int ?_, FW6.out⟩
          rw [HFT.out, HT2.out, if_neg (by rw [HOB.out]; simp)]
        | true =>
          by_cases hoo : ov = n.width
          · go_wp2
            go_ret
            refine ⟨ret_int ?_, FW6.out⟩
            rw [HFT.out, HT2.out, if_neg (by rw [HOV.out]; intro h; exact h.2.2 hoo)]
          · have hoo' : (ov == n.width) = false := by simpa using hoo
            have HOO := hid hoo
            go_wp2
            go_ret
            refine ⟨ret_int ?_, FW6.out⟩
            rw [HFT.out, HT2.out, if_pos ⟨ho, HOB.out, by rw [HOV.out]; exact HOO.out⟩]

  · have hA2 := hA
    have hP2 := hP
    have hL2 := hL
    rw [ho] at hA2 hP2 hL2
    go_enter Tryz.func26, Tryz.ntmps26
    have mk := fun W => make_cap W n.args.length hla
    go_wp2_with (first
      | (go_at_call 52; refine (arity_any _ _).mono ?_; rintro e w9 ⟨rfl, h9⟩; have h9 := h9.symm; subst h9)
      | (go_at_call 53; refine (pat_any _ _).mono ?_; rintro e w9 ⟨rfl, h9⟩; have h9 := h9.symm; subst h9)
      | (go_at_call 54; refine (name_any _ _).mono ?_; rintro e w9 ⟨rfl, h9⟩; have h9 := h9.symm; subst h9))
    obtain ⟨w2, hw2⟩ : ∃ w2, w.alloc (.cells (nodeCells n (.slice a0 n.args.length c0)) 30) = w2 := ⟨_, rfl⟩
    have HB2 : Hid (w2.heap[w.heap.size]? = some (.cells (nodeCells n (.slice a0 n.args.length c0)) 30 (0, 0))) := by
      show _ = _
      rw [← hw2]
      exact at_new w _
    have F02 : Hid (Fr NoB w w2) := by show Fr _ _ _; rw [← hw2]; exact (Fr.refl NoB w).alloc _
    have HSZ : Hid (w.heap.size + 1 = w2.heap.size) := by show _ = _; rw [← hw2]; simp
    try simp only [nodeCells] at hw2
    try simp only [ho, hv] at hw2
    rw [hw2]
    clear hw2
    go_loopw [6, 69] (fun t j wr => ∃ (k : Nat), k ≤ n.args.length ∧ j = .int .i64 k ∧ Fr NoB w2 wr ∧ OwnI w2.heap.size wr t ((n.args.take k).map (wAt s.nodes)) ∧ Hid (inR s.nodes.length (n.args.take k) = true)) (fun _ j _ => n.args.length - (intOf j).toNat)
    case atStart => exact ⟨0, Nat.zero_le _, rfl, (Fr.refl NoB w2).alloc _, by rw [HSZ.out]; exact ownI_cap w2 _ _ (Nat.le_refl _) hla, hid rfl⟩
    case round =>
      obtain ⟨k, hk, rfl, hf, ho, HIN⟩ := hrel
      obtain ⟨tp, tc, hv⟩ := ho.form
      rw [show ((n.args.take k).map (wAt s.nodes)).length = k by simp; omega] at hv
      subst hv
      have F := hid hf
      have O := hid ho
      have FW := hid (F02.out.step hf)
      have B2 := hid (hf.at (fun h => h) HB2.out)
      have G2 := hid (G.out.quiet FW.out)
      have hcell := cells_at G2.out.head 1
      simp only [coreC, List.getElem?_toArray, List.getElem?_cons_succ, List.getElem?_cons_zero] at hcell
      have lbc := G2.out.lb
      obtain ⟨x0, x1, x2, x3, x4, xf, xl⟩ := five_of B2.out
      clear hf ho
      by_cases hlt : k < n.args.length
      · obtain ⟨ba, oa, hpp, ka⟩ := (HN.out.fr FW.out (fun _ _ h => h)).cellK hlt
        subst hpp
        obtain ⟨y, hy⟩ : ∃ y, n.args.getD k 0 = y := ⟨_, rfl⟩
        rw [hy] at ka
        have HY := hid hy
        clear hy
        by_cases hy0 : 0 ≤ y ∧ y < (s.nodes.length : Int)
        · obtain ⟨y0, y1⟩ := hy0
          obtain ⟨dn, hd1, hd2, hd3, hd4⟩ := G2.out.nodes
          have hdl : dn.length = s.nodes.length := by rw [← hd1, List.length_map]
          obtain ⟨np, nc, hvn⟩ := OwnE.form hd2
          rw [hdl] at hvn
          have HVN := hid hvn
          rw [hvn] at hcell
          obtain ⟨yn, rfl⟩ : ∃ yn : Nat, y = yn := ⟨y.toNat, by omega⟩
          have hyn : yn < dn.length := by omega
          have hrdn : RdN NoB wr h.vn dn := OwnE.rdN hd2 (fun _ _ h => h) (fun x hx => (hd4 x hx).weaken (fun _ _ h => h.elim))
          rw [hvn] at hrdn
          obtain ⟨b, off, hpp, e0, e1, e2, e3, e4, _⟩ := hrdn.nodeK hyn
          subst hpp
          have HWA := hid (wAt_get hd1 hyn)
          generalize dn[yn] = z at e0 e1 e2 e3 e4 HWA
          have e1' := e1
          clear e0 e2 e3 e4 hrdn hd2 hd3 hd4
          have hB : w2.heap.size ≤ wr.heap.size := F.out.size
          go_wp2_with (at_builtin; go_loud (refine ap_ints_at _ rfl _ _ rfl w2.heap.size (.slice tp k tc) _ rfl (OwnI.fr O.out ((Fr.refl NoB wr).alloc (.cells #[.int .i64 z.1.width] 3)) (fun _ _ h => h)) NoB _ [z.1.width] rfl (rdI_lit' (l := [z.1.width]) rfl rfl rfl (fun h => h)) ?_ ?_ ?_; (simp; omega); (simp only [World.size_alloc]; omega); intro v6 w6 ho6 hg6 ha6; obtain ⟨p6, q6, hv6⟩ := ho6.form; rw [show ((n.args.take k).map (wAt s.nodes) ++ [z.1.width]).length = k + 1 by simp; omega] at hv6; subst hv6; have F6 : Hid (Fr NoB w2 w6) := Fr.grown (F.out.alloc _) hg6 (fun j hj hj2 => by have := (World.ownsRow.lt O.out j hj).1; omega); have O6 := hid ho6; clear ho6 hg6 ha6))
          go_roundw
          case rel => exact ⟨k + 1, by omega, by go_num, F6.out, by rw [take_map_snoc _ hlt, HY.out, HWA.out]; exact O6.out, hid (inR_snoc hlt HIN.out (by rw [HY.out]; omega))⟩
          case measure => simp [intOf]; omega
        · have HBAD := hid (inR_bad (k := s.nodes.length) hlt (by rw [HY.out]; exact hy0))
          obtain ⟨dn, hd1, hd2, hd3, hd4⟩ := G2.out.nodes
          have hdl : dn.length = s.nodes.length := by rw [← hd1, List.length_map]
          obtain ⟨np, nc, hvn⟩ := OwnE.form hd2
          rw [hdl] at hvn
          rw [hvn] at hcell
          clear hd2 hd3 hd4
          by_cases hneg : y < 0
          · go_wp2
            go_ret
            refine ⟨ret_int ?_, FW.out⟩
            rw [HFT.out]; unfold flawT; rw [if_pos HBAD.out]
          · have hge : (s.nodes.length : Int) ≤ y := by omega
            go_wp2
            go_ret
            refine ⟨ret_int ?_, FW.out⟩
            rw [HFT.out]; unfold flawT; rw [if_pos HBAD.out]
      · obtain rfl : k = n.args.length := by omega
        rw [List.take_length] at HIN O
        have HT : Hid (flawT s n = if n.width < 1 ∨ (opW n.op n.width n.val (n.args.map (wAt s.nodes))).2 ≠ 0 ∨ (opW n.op n.width n.val (n.args.map (wAt s.nodes))).1 ≠ n.width then 3
          else if n.op = 1 ∧ (vget s.vars n.name).isSome = true ∧ (vget s.vars n.name).getD 0 ≠ n.width then 12 else 0) := by
          show _ = _
          unfold flawT
          rw [if_neg (by rw [HIN.out]; decide)]
        go_wp2_with fail
        refine (width_any NoB 1 n.width 0 _ _ (n.args.map (wAt s.nodes)) (O.out.rd (fun _ _ h => h)) (by simp; omega)).mono ?_
        rintro e w5 ⟨rfl, hf5⟩
        have B5 := hid (hf5.at (fun h => h) B2.out)
        have FW5 := hid (FW.out.step hf5)
        clear hf5 x0 x1 x2 x3 x4 xf xl hcell lbc
        obtain ⟨x0, x1, x2, x3, x4, xf, xl⟩ := five_of B5.out
        obtain ⟨⟨q1, q2⟩, hq⟩ : ∃ q, opW 1 n.width 0 (n.args.map (wAt s.nodes)) = q := ⟨_, rfl⟩
        rw [hq]
        have HQ : Hid (opW n.op n.width n.val (n.args.map (wAt s.nodes)) = (q1, q2)) := by show _ = _; rw [← hq]; rw [ho, hv]
        clear hq
        simp only
        by_cases hw1 : n.width < 1
        · go_wp2
          go_ret
          refine ⟨ret_int ?_, FW5.out⟩
          rw [HFT.out, HT.out, if_pos (.inl hw1)]
        have hw1' : ¬ n.width < 1 := hw1
        by_cases hq2 : q2 = 0
        rotate_left
        · have hq2' : (q2 == 0) = false := by simpa using hq2
          have HQ2 := hid hq2
          go_wp2
          go_ret
          refine ⟨ret_int ?_, FW5.out⟩
          rw [HFT.out, HT.out, if_pos (.inr (.inl (by rw [HQ.out]; exact HQ2.out)))]
        subst hq2
        by_cases hq1 : q1 = n.width
        rotate_left
        · have hq1' : (q1 == n.width) = false := by simpa using hq1
          have HQ1 := hid hq1
          go_wp2
          go_ret
          refine ⟨ret_int ?_, FW5.out⟩
          rw [HFT.out, HT.out, if_pos (.inr (.inr (by rw [HQ.out]; exact HQ1.out)))]
        subst hq1
        have HT2 : Hid (flawT s n = if n.op = 1 ∧ (vget s.vars n.name).isSome = true ∧ (vget s.vars n.name).getD 0 ≠ n.width then 12 else 0) := by
          show _ = _
          rw [HT.out, if_neg (by rw [HQ.out]; omega)]
        have G5 := hid (G.out.quiet FW5.out)
        have hcell := cells_at G5.out.head 7
        simp only [coreC, List.getElem?_toArray, List.getElem?_cons_succ, List.getElem?_cons_zero] at hcell
        have lbc := G5.out.lb
        go_wp2
        refine region_txt (Fr NoB _) (by kernel_rfl) (by kernel_rfl) ((Fr.refl NoB _).drew) ?_
        repeat (first | (refine txt_off (by rfl) ?_; (try simp only [Act.put, List.setIfInBounds_toArray, List.set_cons_zero, List.set_cons_succ])) | (refine txt_read ?_ (by rfl) ?_ ?_; rotate_left; (focus (intro W hW; have hWc := Fr.cq hW; clear hW; go_simp; (try with_reducible rfl); done)); (try simp only [Act.put, List.setIfInBounds_toArray, List.set_cons_zero, List.set_cons_succ])))
        obtain ⟨ov, hov⟩ : ∃ o, (vget s.vars n.name).getD 0 = o := ⟨_, rfl⟩
        obtain ⟨ob, hob⟩ : ∃ o, (vget s.vars n.name).isSome = o := ⟨_, rfl⟩
        refine txt_read (.tuple #[.int .i64 ov, .bool ob]) (by rfl) (fun W hW => by
          have h9 := ((G5.out.quiet hW).vars).look n.name
          rw [hov, hob] at h9
          go_simp) ?_
        repeat (first | (refine txt_off (by rfl) ?_; (try simp only [Act.put, List.setIfInBounds_toArray, List.set_cons_zero, List.set_cons_succ])) | (refine txt_read ?_ (by rfl) ?_ ?_; rotate_left; (focus (intro W hW; have hWc := Fr.cq hW; clear hW; go_simp; (try with_reducible rfl); done)); (try simp only [Act.put, List.setIfInBounds_toArray, List.set_cons_zero, List.set_cons_succ])))
        refine txt_nil ?_
        intro W hW
        have HOV := hid hov
        have HOB := hid hob
        have B6 := hid (hW.at (fun h => h) B5.out)
        have FW6 := hid (FW5.out.step hW)
        clear hW x0 x1 x2 x3 x4 xf xl hov hob hcell lbc
        obtain ⟨x0, x1, x2, x3, x4, xf, xl⟩ := five_of B6.out
        cases ob with
        | false =>
          go_wp2
          go_ret
          refine ⟨ret_int ?_, FW6.out⟩
          rw [HFT.out, HT2.out, if_neg (by rw [HOB.out]; simp)]
        | true =>
          by_cases hoo : ov = n.width
          · go_wp2
            go_ret
            refine ⟨ret_int ?_, FW6.out⟩
            rw [HFT.out, HT2.out, if_neg (by rw [HOV.out]; intro h; exact h.2.2 hoo)]
          · have hoo' : (ov == n.width) = false := by simpa using hoo
            have HOO := hid hoo
            go_wp2
            go_ret
            refine ⟨ret_int ?_, FW6.out⟩
            rw [HFT.out, HT2.out, if_pos ⟨ho, HOB.out, by rw [HOV.out]; exact HOO.out⟩]

end Go.Proofs.YtlekoceindepnaaGreatDoor
end
section
/- An e-graph in memory: the steps of its tables, its variables and its users. -/
namespace Go.Proofs.YtlekoceindepnaaGreatDoor
open Go.RowKit
set_option maxRecDepth 100000

section
variable {c : Col} {w W W6 : World} {bc : Nat} {h : GH} {s : GS} {v v6 : Value} {i j0 : Nat}
theorem tbl_paint {bt bm : Nat} {l : List TEnt} (ht : TableAt (fun k => k < W.heap.size ∧ c k ≠ 12) W6 bt bm l) : TableAt (fun k => paint c W W6 12 k ≠ 12) W6 bt bm l :=
  ⟨ht.head, ht.map, fun x hx => ⟨(ht.ents x hx).1.weaken (fun k hk hm => by
    by_cases hw : k < W.heap.size
    · rw [paint_old hw] at hm; exact ⟨hw, hm⟩
    · exact absurd (paint_new (by omega) hk) hm), (ht.ents x hx).2⟩⟩
theorem tbl_old {bt bm : Nat} {l : List TEnt} (ht : TableAt (fun k => c k ≠ 12) W bt bm l) : TableAt (fun k => k < W.heap.size ∧ c k ≠ 12) W bt bm l :=
  ⟨ht.head, ht.map, fun x hx => ⟨(ht.ents x hx).1.weaken (fun _ _ hm => hm.2), (ht.ents x hx).2⟩⟩
theorem GIs.setExact (g : GIs c W bc h s) {bm : Nat} {l : List TEnt} {es : List (Node × Int)} (ht : TableAt (fun k => k < W.heap.size ∧ c k ≠ 12) W6 h.be bm l) (hf : Fr (fun k => k = bm) W W6) (h1 : c h.be = 5) (h2 : c bm = 5) (h3 : bm ≠ h.be) (he : l.map (fun x => (x.node, x.id)) = es) (h4 : h.be < W.heap.size) (h5 : bm < W.heap.size) :
    GIs (paint c W W6 12) W6 bc h { s with exact := es } := by
  have K := keep_of (c := c) (c' := paint c W W6 12) (i := 5) hf (Ext.paint _ _ _ _) (fun k _ e => by rw [show k = bm from e]; exact h2) (by decide)
  have lt := g.paintLt 12 hf.size
  exact ⟨hf.at (fun e => by have e2 : bc = bm := e; have h9 := g.own; rw [e2, h2] at h9; exact absurd h9 (by decide)) g.head, g.sets.keep (K 1 (by decide)), g.nodes.keep (K 9 (by decide)), g.keys.keep (K 8 (by decide)), g.users.keep (K 3 (by decide)), ⟨bm, l, tbl_paint ht, he, by rw [paint_old h4]; exact h1, by rw [paint_old h5]; exact h2, h3⟩, g.table.keep (K 6 (by decide)),
    g.proofs.keep (K 2 (by decide)) lt, g.vars.keep (K 7 (by decide)), g.todo.keep (K 4 (by decide)), g.marks.keep (K 10 (by decide)), by rw [paint_old g.lb]; exact g.own, lt⟩
theorem GIs.setTable (g : GIs c W bc h s) {bm : Nat} {l : List TEnt} {es : List (Node × Int)} (ht : TableAt (fun k => k < W.heap.size ∧ c k ≠ 12) W6 h.bt bm l) (hf : Fr (fun k => k = bm) W W6) (h1 : c h.bt = 6) (h2 : c bm = 6) (h3 : bm ≠ h.bt) (he : l.map (fun x => (x.node, x.id)) = es) (h4 : h.bt < W.heap.size) (h5 : bm < W.heap.size) :
    GIs (paint c W W6 12) W6 bc h { s with table := es } := by
  have K := keep_of (c := c) (c' := paint c W W6 12) (i := 6) hf (Ext.paint _ _ _ _) (fun k _ e => by rw [show k = bm from e]; exact h2) (by decide)
  have lt := g.paintLt 12 hf.size
  exact ⟨hf.at (fun e => by have e2 : bc = bm := e; have h9 := g.own; rw [e2, h2] at h9; exact absurd h9 (by decide)) g.head, g.sets.keep (K 1 (by decide)), g.nodes.keep (K 9 (by decide)), g.keys.keep (K 8 (by decide)), g.users.keep (K 3 (by decide)), g.exact.keep (K 5 (by decide)), ⟨bm, l, tbl_paint ht, he, by rw [paint_old h4]; exact h1, by rw [paint_old h5]; exact h2, h3⟩,
    g.proofs.keep (K 2 (by decide)) lt, g.vars.keep (K 7 (by decide)), g.todo.keep (K 4 (by decide)), g.marks.keep (K 10 (by decide)), by rw [paint_old g.lb]; exact g.own, lt⟩
theorem GIs.setVars (g : GIs c W bc h s) {vs : List (ByteArray × Int)} (hv : MapIs .string Value.string W6 h.bv (vs.map fun x => (x.1, .int .i64 x.2))) (hf : Fr (fun k => k = h.bv) W W6) : GIs c W6 bc h { s with vars := vs } := by
  have K := keep_of (c := c) (c' := c) (i := 7) hf (Ext.refl _ _) (fun k _ e => by rw [show k = h.bv from e]; exact g.vars.2) (by decide)
  have lt : ∀ b, c b ≠ 0 → b < W6.heap.size := fun b hb => Nat.lt_of_lt_of_le (g.lt b hb) hf.size
  exact ⟨hf.at (fun e => by have e2 : bc = h.bv := e; have h9 := g.own; rw [e2, g.vars.2] at h9; exact absurd h9 (by decide)) g.head, g.sets.keep (K 1 (by decide)), g.nodes.keep (K 9 (by decide)), g.keys.keep (K 8 (by decide)), g.users.keep (K 3 (by decide)), g.exact.keep (K 5 (by decide)), g.table.keep (K 6 (by decide)),
    g.proofs.keep (K 2 (by decide)) lt, ⟨hv, g.vars.2⟩, g.todo.keep (K 4 (by decide)), g.marks.keep (K 10 (by decide)), g.own, lt⟩
theorem flatE_row : ∀ l : List Value, flatE rowC l = l
  | [] => rfl
  | x :: l => by rw [flatE, flatE_row l]; rfl
theorem UsersVs.ne {svs : List Value} {us : List (List Int)} (u : UsersVs c W v svs us) {k : Nat} (hk : k < us.length) {b b' : Nat} (hb : v.ownBlock = some b) (hb' : (svs.getD k .nilFunc).ownBlock = some b') : b' ≠ b := by
  obtain ⟨cur, hc⟩ := OwnE.head u.row hb
  obtain ⟨cur', hc'⟩ := (u.rows k hk).1.head hb'
  exact ne_of_types hc' hc (by decide)
theorem GIs.setUsers (g : GIs c W bc h s) {svs' : List Value} {us' : List (List Int)} (hvc : ∀ b, h.vu.ownBlock = some b → c b = 3) (hvl : ∀ b, h.vu.ownBlock = some b → ∃ cur, W.heap[b]? = some (.cells cur 28 (0, 0)))
    (hf : Fr (fun b => h.vu.ownBlock = some b) W W6) (ho : OwnE rowC 1 28 0 W6 v6 svs') (hb : v6.ownBlock = h.vu.ownBlock ∨ ∃ q, v6.ownBlock = some q ∧ W.heap.size ≤ q) (hl : svs'.length = us'.length)
    (hr : ∀ k, k < us'.length → OwnI 0 W (svs'.getD k .nilFunc) (us'.getD k []) ∧ ∀ b, (svs'.getD k .nilFunc).ownBlock = some b → c b = 3)
    (ha : ∀ k k', k < us'.length → k' < us'.length → k ≠ k' → ∀ b, (svs'.getD k .nilFunc).ownBlock = some b → (svs'.getD k' .nilFunc).ownBlock ≠ some b) :
    RowK c W W6 bc 3 3 h.vu v6 (coreC h s.dirty) ∧ GIs (paint c W W6 3) (W6.setCell ⟨bc, 3, none⟩ v6) bc { h with vu := v6 } { s with users := us' } := by
  have K := g.rowK v6 3 (by decide) (by decide) (by decide) hvc hf
  have hrow : ∀ k, k < us'.length → OwnI 0 (W6.setCell ⟨bc, 3, none⟩ v6) (svs'.getD k .nilFunc) (us'.getD k []) ∧ ∀ b, (svs'.getD k .nilFunc).ownBlock = some b → paint c W W6 3 b = 3 := fun k hk => by
    obtain ⟨r1, r2⟩ := hr k hk
    have r3 : OwnI 0 W6 (svs'.getD k .nilFunc) (us'.getD k []) := r1.fr hf (fun b hb1 hb2 => by
      obtain ⟨cur, hc⟩ := hvl b hb2
      obtain ⟨cur', hc'⟩ := r1.head hb1
      exact ne_of_types hc' hc (by decide) rfl)
    exact ⟨r3.fr (Fr.put' v6) (fun b hb1 e => by
      obtain ⟨cur', hc'⟩ := r3.head hb1
      exact ne_of_types hc' K.head (by decide) e), fun b hb1 => by rw [paint_old (World.ownsRow.lt r1 b hb1).2]; exact r2 b hb1⟩
  refine ⟨K, K.head', g.sets.keep (K.keep 1 (by decide) (by decide)), g.nodes.keep (K.keep 9 (by decide) (by decide)), g.keys.keep (K.keep 8 (by decide) (by decide)), ⟨svs', hl, own_bc ho K.head (by decide), fun b hb9 => ?_, hrow, ha⟩, g.exact.keep (K.keep 5 (by decide) (by decide)), g.table.keep (K.keep 6 (by decide) (by decide)),
    g.proofs.keep (K.keep 2 (by decide) (by decide)) K.lt, g.vars.keep (K.keep 7 (by decide) (by decide)), g.todo.keep (K.keep 4 (by decide) (by decide)), g.marks.keep (K.keep 10 (by decide) (by decide)), K.own, K.lt⟩
  exact own_grow (W7 := W6) (B := 0) (World.ownsRow.lt ho b hb9).2 hvc (fun b hb => by obtain ⟨cur, hc⟩ := hvl b hb; exact (Array.getElem?_eq_some_iff.1 hc).1) hb hb9
theorem infoRow2 : (Tryz.prog.info? 28).map (fun i => (i.zero, i.size, i.bytes)) = some (some (.slice none 0 0), 1, 24) := by kernel_rfl
theorem ap_users (w : World) {ops : Array Oper} {rest : List Oper} {o : Oper} {a : Act} {Q : Exit → Act → World → Prop} (hg : o.guard = none) (s x : Operand)
    (ho : o.op = .call { callee := .builtin .append, args := #[s, x], argTypes := #[60, 60] }) (v : Value) (l : List Value) (hs : a.eval s = v) (hown : OwnE rowC 1 28 0 w v l)
    (u : Value) (hx : a.eval x = u) (hrd : RdE rowC NoB w u [.slice none 0 0]) (hlen : l.length + 1 ≤ 1000000000)
    (h : ∀ p q w', OwnE rowC 1 28 0 w' (.slice p (l.length + 1) q) (l ++ [.slice none 0 0]) → w.grownBy w' v.ownBlock → ((Value.slice p (l.length + 1) q).ownBlock = v.ownBlock ∨ (Value.slice p (l.length + 1) q).ownBlock = some w.heap.size) → wpList Tryz.prog ops Q rest (a.put o.dst (.slice p (l.length + 1) q)) w') : wpList Tryz.prog ops Q (o :: rest) a w := by
  refine ap_rows (z := .slice none 0 0) (bytes := 24) w (enc := rowC) (fun _ => rfl) (by decide) Tryz.underlying60 infoRow2 rfl hg s x ho 0 v l hs hown NoB u [.slice none 0 0] hx hrd (fun y hy u hu => ?_) (by simp only [List.length_singleton]; omega) (by simp only [List.length_singleton]; omega) (Nat.zero_le _) (fun v' w' h1 h2 h3 => ?_)
  · simp only [List.mem_singleton] at hy
    subst hy
    simp only [rowC, List.mem_singleton] at hu
    subst hu
    rfl
  · obtain ⟨p, q, rfl⟩ := OwnE.form h1
    simp only [List.length_append, List.length_singleton] at h1 h3 ⊢
    exact h p q w' h1 h2 h3
/-- The row of the users of a, as it lies; and what an append to it leaves. -/
theorem GIs.look (g : GIs c W bc h s) {a : Nat} (ha : a < s.users.length) :
    ∃ gb cap p q, h.vu = .slice (some ⟨gb, 0, none⟩) s.users.length cap ∧ W.cell? ⟨gb, a, none⟩ = some (.slice p (s.users.getD a []).length q) ∧ OwnI 0 W (.slice p (s.users.getD a []).length q) (s.users.getD a []) ∧ (∀ b, (Value.slice p (s.users.getD a []).length q).ownBlock = some b → c b = 3) ∧
      ∀ (W6 : World) (v6 : Value) (l' : List Int), Fr (fun b => (Value.slice p (s.users.getD a []).length q).ownBlock = some b) W W6 → OwnI 0 W6 v6 l' → (v6.ownBlock = (Value.slice p (s.users.getD a []).length q).ownBlock ∨ ∃ q, v6.ownBlock = some q ∧ W.heap.size ≤ q) →
        W6.frozen? ⟨gb, a, none⟩ = false ∧ (∃ u, W6.cell? ⟨gb, a, none⟩ = some u) ∧ GIs (paint c W W6 3) (W6.setCell ⟨gb, a, none⟩ v6) bc h { s with users := s.users.set a l' } ∧ Fr (fun k => c k = 3) W (W6.setCell ⟨gb, a, none⟩ v6) := by
  obtain ⟨svs, u⟩ := g.users
  have hal : a < svs.length := by rw [u.len]; exact ha
  obtain ⟨gb, cap, hv, hgl⟩ : ∃ gb cap, h.vu = .slice (some ⟨gb, 0, none⟩) s.users.length cap ∧ gb < W.heap.size := by
    rcases OwnE.form' u.row with ⟨_, h2⟩ | ⟨gb, cap, h1, _, h3, _⟩
    · rw [h2] at hal; simp at hal
    · exact ⟨gb, cap, by rw [h1, u.len], h3⟩
  have hrow := u.row
  rw [hv] at hrow
  obtain ⟨r1, r2⟩ := u.rows a ha
  obtain ⟨p, q, hsv⟩ := r1.form
  have hcell : W.cell? ⟨gb, a, none⟩ = some (svs.getD a .nilFunc) := by
    have h1 := hrow.cells a (svs.getD a .nilFunc) (by
      have := flatE_get rowC (k := 1) (fun _ => rfl) svs a hal 0 (by omega)
      simp only [Nat.mul_one, Nat.add_zero, rowC, List.getElem?_cons_zero] at this
      rw [this, List.getD_eq_getElem?_getD, List.getElem?_eq_getElem hal]; rfl)
    rw [Nat.zero_add] at h1; exact h1
  have hvo : h.vu.ownBlock = some gb := by rw [hv]; rfl
  have hgc : c gb = 3 := u.col gb hvo
  refine ⟨gb, cap, p, q, hv, by rw [hcell, hsv], by rw [← hsv]; exact r1, by rw [← hsv]; exact r2, ?_⟩
  rw [← hsv]
  intro W6 v6 l' hf ho hb
  obtain ⟨cur, hcur⟩ := OwnE.head hrow (b := gb) rfl
  have hgne : ∀ b, (svs.getD a .nilFunc).ownBlock = some b → b ≠ gb := fun b hb => u.ne ha hvo hb
  have hg6 := hf.at (fun e => hgne gb e rfl) hcur
  have f7 : Fr (fun k => k = gb) W6 (W6.setCell ⟨gb, a, none⟩ v6) := (Fr.refl (fun k => k = gb) W6).setCell (p := ⟨gb, a, none⟩) (fun _ => rfl) _
  have f8 : Fr (fun k => c k = 3) W (W6.setCell ⟨gb, a, none⟩ v6) := (hf.mono (fun b _ hb => r2 b hb)).trans' f7 (fun k _ e => by rw [show k = gb from e]; exact hgc)
  have K := keep_of (c := c) (c' := paint c W W6 3) f8 (Ext.paint _ _ _ _) (fun k _ h => h) (by decide)
  have lt : ∀ b, paint c W W6 3 b ≠ 0 → b < (W6.setCell ⟨gb, a, none⟩ v6).heap.size := fun b hb => Nat.lt_of_lt_of_le (g.paintLt 3 hf.size b hb) f7.size
  have hsv6 : (svs.set a v6).length = (s.users.set a l').length := by simp [u.len]
  have hgd : ∀ k, (svs.set a v6).getD k .nilFunc = if a = k ∧ k < svs.length then v6 else svs.getD k .nilFunc := fun k => by
    rw [List.getD_eq_getElem?_getD, List.getD_eq_getElem?_getD, List.getElem?_set]
    by_cases e : a = k
    · subst e; simp [hal]
    · simp [e]
  have hgu : ∀ k, (s.users.set a l').getD k [] = if a = k ∧ k < s.users.length then l' else s.users.getD k [] := fun k => by
    rw [List.getD_eq_getElem?_getD, List.getD_eq_getElem?_getD, List.getElem?_set]
    by_cases e : a = k
    · subst e; simp [ha]
    · simp [e]
  refine ⟨frozen_at hg6 _, ⟨svs.getD a .nilFunc, ?_⟩, ?_, f8⟩
  · rw [cells_at hg6]
    rw [cells_at hcur] at hcell; exact hcell
  refine ⟨f8.at (fun hm => by have h1 : c bc = 3 := hm; rw [g.own] at h1; exact absurd h1 (by decide)) g.head, g.sets.keep (K 1 (by decide)), g.nodes.keep (K 9 (by decide)), g.keys.keep (K 8 (by decide)), ⟨svs.set a v6, hsv6, ?_, ?_, ?_, ?_⟩, g.exact.keep (K 5 (by decide)), g.table.keep (K 6 (by decide)),
    g.proofs.keep (K 2 (by decide)) lt, g.vars.keep (K 7 (by decide)), g.todo.keep (K 4 (by decide)), g.marks.keep (K 10 (by decide)), by rw [paint_old g.lb]; exact g.own, lt⟩
  · have h8 : OwnE rowC 1 28 0 W6 (.slice (some ⟨gb, 0, none⟩) s.users.length cap) svs := OwnE.fr hrow hf (fun b hb e => by cases hb; exact hgne gb e rfl)
    rw [← u.len] at h8
    have h9 := (World.ownsRow.stored (show W6.ownsRow 0 28 1 (.slice (some ⟨gb, 0, none⟩) svs.length cap) svs.length (flatE rowC svs) from h8) a v6).1
    show OwnE rowC 1 28 0 _ h.vu _
    rw [hv, ← u.len]
    unfold OwnE
    rw [flatE_row] at h9 ⊢
    rw [List.length_set]
    exact h9
  · intro b hb9
    rw [hv] at hb9
    cases hb9
    rw [paint_old hgl]; exact hgc
  · intro k hk
    rw [List.length_set] at hk
    rw [hgd, hgu, ← u.len]
    by_cases e : a = k ∧ k < svs.length
    · rw [if_pos e, if_pos e]
      refine ⟨ho.fr f7 (fun b hb9 e9 => ?_), fun b hb9 => ?_⟩
      · obtain ⟨cur', hc'⟩ := ho.head hb9
        exact ne_of_types hc' hg6 (by decide) e9
      · rcases hb with hb | ⟨q, hb, hq⟩
        · rw [hb] at hb9
          rw [paint_old (World.ownsRow.lt r1 b hb9).2]; exact r2 b hb9
        · have h9 := (World.ownsRow.lt ho b hb9).2
          rw [hb] at hb9; cases hb9
          exact paint_new hq h9
    · rw [if_neg e, if_neg e]
      have hak : a ≠ k := fun h => e ⟨h, by rw [u.len]; exact hk⟩
      obtain ⟨s1, s2⟩ := u.rows k hk
      refine ⟨(s1.fr hf (fun b hb1 hb2 => u.apart k a hk ha (fun h => hak h.symm) b hb1 hb2)).fr f7 (fun b hb1 e9 => u.ne hk hvo hb1 e9), fun b hb1 => by rw [paint_old (World.ownsRow.lt s1 b hb1).2]; exact s2 b hb1⟩
  · intro k k' hk hk' hne b hbk
    rw [List.length_set] at hk hk'
    have hks : k < svs.length := by rw [u.len]; exact hk
    have hks' : k' < svs.length := by rw [u.len]; exact hk'
    rw [hgd] at hbk
    rw [hgd]
    by_cases e : a = k
    · rw [if_pos ⟨e, hks⟩] at hbk
      rw [if_neg (fun h => hne (e.symm.trans h.1))]
      rcases hb with hb | ⟨q, hb, hq⟩
      · exact u.apart a k' ha hk' (fun h => hne (e.symm.trans h)) b (by rw [← hb]; exact hbk)
      · rw [hb] at hbk; cases hbk
        intro h9
        have := (World.ownsRow.lt (u.rows k' hk').1 _ h9).2
        omega
    · rw [if_neg (fun h => e h.1)] at hbk
      by_cases e' : a = k'
      · rw [if_pos ⟨e', hks'⟩]
        rcases hb with hb | ⟨q, hb, hq⟩
        · rw [hb]; exact u.apart k a hk ha (fun h => e h.symm) b hbk
        · rw [hb]
          intro h9
          cases h9
          have := (World.ownsRow.lt (u.rows k hk).1 _ hbk).2
          omega
      · rw [if_neg (fun h => e' h.1)]
        exact u.apart k k' hk hk' hne b hbk
end
end Go.Proofs.YtlekoceindepnaaGreatDoor
end
section
/- Canon with the Find of disjoint sets. -/
namespace Go.Proofs.YtlekoceindepnaaGreatDoor
open Go.RowKit
set_option maxRecDepth 100000

def canonU (p : List Int) (n : Node) : Node := { n with args := n.args.map (findS p) }
theorem SetsAt.small' {N : Nat → Prop} {w : World} {bs : Nat} {s : Uf} (h : SetsAt N w bs s) : SetsAt (fun k => N k ∧ k < w.heap.size) w bs s := by
  obtain ⟨⟨sP, sT, h1, h2, h3, h4, h5⟩, h6, h7, h8⟩ := h
  exact ⟨⟨sP, sT, h1, h2, h3, fun b hb => ⟨h4 b hb, (World.ownsRow.lt h2 b hb).2⟩, fun b hb => ⟨h5 b hb, (World.ownsRow.lt h3 b hb).2⟩⟩, ⟨h6, (Array.getElem?_eq_some_iff.1 h1).1⟩, h7, h8⟩
theorem OwnI.at_eq2 {B : Nat} {w w1 : World} {v : Value} {l : List Int} (h : OwnI B w v l) (e : ∀ b, v.ownBlock = some b → w1.heap[b]? = w.heap[b]?) : OwnI B w1 v l := by
  refine ⟨h.1, ?_⟩
  rcases h.2 with h2 | ⟨g, cap, cur, h1, hb, hg, r⟩
  · exact .inl h2
  · exact .inr ⟨g, cap, cur, h1, hb, by rw [e g (by rw [h1]; rfl)]; exact hg, r⟩
theorem OwnE.at_eq {α : Type} {enc : α → List Value} {k : Nat} {e : TypeId} {B : Nat} {w w1 : World} {v : Value} {l : List α} (h : OwnE enc k e B w v l) (he : ∀ b, v.ownBlock = some b → w1.heap[b]? = w.heap[b]?) : OwnE enc k e B w1 v l := by
  refine ⟨h.1, ?_⟩
  rcases h.2 with h2 | ⟨g, cap, cur, h1, hb, hg, r⟩
  · exact .inl h2
  · exact .inr ⟨g, cap, cur, h1, hb, by rw [he g (by rw [h1]; rfl)]; exact hg, r⟩
theorem SetsAt.at_eq {N : Nat → Prop} {w w1 : World} {bs : Nat} {s : Uf} (h : SetsAt N w bs s) (he : ∀ b, N b → w1.heap[b]? = w.heap[b]?) : SetsAt N w1 bs s := by
  obtain ⟨⟨sP, sT, h1, h2, h3, h4, h5⟩, h6, h7, h8⟩ := h
  exact ⟨⟨sP, sT, by rw [he _ h6]; exact h1, OwnI.at_eq2 h2 (fun b hb => he b (h4 b hb)), OwnE.at_eq h3 (fun b hb => he b (h5 b hb)), h4, h5⟩, h6, h7, h8⟩
theorem findCanon_any {N : Nat → Prop} {w : World} {bs : Nat} {s : Uf} (h0 : SetsAt N w bs s) (n : Node) (v : Value) (hv : RdI NoB w v n.args) (hn : n.args.length ≤ 1000000) :
    Calls Tryz.prog 30 #[nodeV n v, .func (.func 31) #[.pointer (some ⟨bs, 0, none⟩)] #[]] w fun e w' => ∃ a' c', e = .returned (nodeV (canonU s.par n) (.slice a' n.args.length c')) ∧ OwnI w.heap.size w' (.slice a' n.args.length c') (n.args.map (findS s.par)) ∧ Fr NoB w w' := by
  have h := h0.small'
  have hI : FindOk 31 #[.pointer (some ⟨bs, 0, none⟩)] #[] (fun Pr _ W => (∀ b, N b ∧ b < w.heap.size → W.heap[b]? = w.heap[b]?) ∧ (∀ b, N b ∧ b < w.heap.size → ¬ Pr b) ∧ w.heap.size ≤ W.heap.size) n.args (findS s.par) := by
    refine ⟨enters_of Tryz.func31 (by kernel_rfl) rfl, fun Pr k W W' h hf => ⟨fun b hb => ?_, h.2.1, Nat.le_trans h.2.2 hf.size⟩, fun Pr k W hk h9 => ?_⟩
    · rw [hf.block b (Nat.lt_of_lt_of_le hb.2 h.2.2) (h.2.1 b hb)]; exact h.1 b hb
    · refine (uffind_any (n.args.getD k 0) (h.at_eq h9.1)).mono ?_
      rintro e W' ⟨rfl, rfl⟩
      exact ⟨rfl, h9, Fr.refl _ _⟩
  refine (canon_any NoB (fun b => ¬ N b ∧ b < w.heap.size) 31 #[.pointer (some ⟨bs, 0, none⟩)] #[] _ (findS s.par) n v w hv (by omega) hI (fun w1 hf => ⟨fun b hb => hf.block b hb.2 (fun h => h), fun b hb h => ?_, hf.size⟩)).mono ?_
  · rcases h with h | h
    · exact h.1 hb.1
    · omega
  rintro e w' ⟨a', c', rfl, h1, ⟨Pr, h2, _⟩, h3⟩
  refine ⟨a', c', rfl, h1, h3.os, h3.tape, h3.output, h3.size, fun k hk _ => ?_⟩
  by_cases c : N k
  · exact h2.1 k ⟨c, hk⟩
  · exact h3.block k hk (fun hn => hn ⟨c, hk⟩)
end Go.Proofs.YtlekoceindepnaaGreatDoor
end
section
/- Where a method of an e-graph stands. -/
namespace Go.Proofs.YtlekoceindepnaaGreatDoor
open Go.RowKit
set_option maxRecDepth 100000

theorem Mut.of {c : Col} {i : Nat} (hi : i ≠ 0 ∧ i ≠ 12 ∧ i ≠ 13) {k : Nat} (h : c k = i) : Mut c k := by unfold Mut; rw [h]; exact hi
/-- A graph at bg, as a method of it works on it since w. -/
structure AdW (c0 : Col) (w : World) (bg bc : Nat) (c : Col) (W : World) (h : GH) (s : GS) : Prop where
  g : GIs c W bc h s
  gr : W.heap[bg]? = some (.cells #[.pointer (some ⟨bc, 0, none⟩)] 57 (0, 0))
  gc : c bg = 13
  fr : Fr (Mut c0) w W
  ext : Ext c0 c w
  tab : Tab W
  tbc : c TB = 0
  tlt : TB < w.heap.size
section
variable {c0 c c' : Col} {w W W' : World} {bg bc : Nat} {h h' : GH} {s s' : GS}
theorem AdW.turn (a : AdW c0 w bg bc c W h s) (g' : GIs c' W' bc h' s') (hf : Fr (Mut c) W W') (he : Ext c c' W) : AdW c0 w bg bc c' W' h' s' := by
  have lb := (Array.getElem?_eq_some_iff.1 a.gr).1
  refine ⟨g', hf.at (fun hm => hm.2.2 a.gc) a.gr, by rw [he bg lb]; exact a.gc, a.fr.trans' hf (fun k hk hm => ?_), a.ext.trans he a.fr.size, a.tab.fr hf (fun hm => hm.1 a.tbc), by rw [he TB a.tab.lt]; exact a.tbc, a.tlt⟩
  unfold Mut at hm ⊢
  rw [a.ext k hk] at hm; exact hm
theorem AdW.quiet (a : AdW c0 w bg bc c W h s) (hf : Fr NoB W W') : AdW c0 w bg bc c W' h s := a.turn (a.g.quiet hf) (hf.mono (fun _ _ h => h.elim)) (Ext.refl _ _)
theorem AdW.fresh (a : AdW c0 w bg bc c W h s) (i : Nat) (hf : Fr NoB W W') : AdW c0 w bg bc (paint c W W' i) W' h s := a.turn (a.g.fresh i hf) (hf.mono (fun _ _ h => h.elim)) (Ext.paint _ _ _ _)
theorem AdW.done (a : AdW c0 w bg bc c W h s) : GrAt c W bg s := ⟨bc, h, a.gr, a.g, a.gc⟩
theorem AdW.start (h0 : GrAt c0 w bg s) (ht : Tab w) (hb : c0 TB = 0) : ∃ bc h, AdW c0 w bg bc c0 w h s := by
  obtain ⟨bc, h, h1, h2, h3⟩ := h0
  exact ⟨bc, h, h2, h1, h3, Fr.refl _ _, Ext.refl _ _, ht, hb, ht.lt⟩
/-- A block b of the method's own that holds a node; the node's args lie in a row of colour i. -/
structure Loc (c : Col) (W : World) (b : Nat) (n : Node) (sl : Value) (i : Nat) : Prop where
  box : W.heap[b]? = some (.cells (nodeCells n sl) 30 (0, 0))
  col : c b = 0
  arg : RdI (fun k => c k ≠ i) W sl n.args
theorem Loc.turn {b i : Nat} {n : Node} {sl : Value} (l : Loc c W b n sl i) (hf : Fr (Mut c) W W') (he : Ext c c' W) (hi : i = 0 ∨ i = 12) : Loc c' W' b n sl i := by
  have lb := (Array.getElem?_eq_some_iff.1 l.box).1
  refine ⟨hf.at (fun hm => hm.1 l.col) l.box, by rw [he b lb]; exact l.col, ?_⟩
  rcases l.arg with h | ⟨q, off, cap, h1, h2, h3, h4, h5⟩
  · exact .inl h
  · have h3' : c q = i := Decidable.byContradiction fun h => h3 h
    exact .inr ⟨q, off, cap, h1, Nat.lt_of_lt_of_le h2 hf.size, by show ¬ (c' q ≠ i); rw [he q h2]; exact h3, h4, h5.fr hf h2 (fun hm => by
      unfold Mut at hm
      rw [h3'] at hm
      omega)⟩
theorem Loc.quiet {b i : Nat} {n : Node} {sl : Value} (l : Loc c W b n sl i) (hf : Fr NoB W W') (hi : i = 0 ∨ i = 12) : Loc c W' b n sl i := l.turn (hf.mono (fun _ _ h => h.elim)) (Ext.refl _ _) hi
theorem Loc.rd {b i : Nat} {n : Node} {sl : Value} (l : Loc c W b n sl i) : RdI NoB W sl n.args := l.arg.weaken (fun _ _ h => h.elim)
/-- A step that turns a block of the method's own. -/
theorem AdW.put0 {b : Nat} (a : AdW c0 w bg bc c W h s) (hf : Fr (fun k => k = b) W W') (hb : w.heap.size ≤ b) (hc : c b = 0) : AdW c0 w bg bc c W' h s :=
  ⟨a.g.keep hf (Ext.refl _ _) (fun k _ e => by rw [show k = b from e]; exact hc) (fun k hk => Nat.lt_of_lt_of_le (a.g.lt k hk) hf.size), hf.at (fun e => by have e2 : bg = b := e; have := a.gc; rw [e2, hc] at this; omega) a.gr, a.gc, a.fr.trans' hf (fun k hk e => by have e2 : k = b := e; omega), a.ext, a.tab.fr hf (fun e => by have e2 : TB = b := e; have := a.tlt; omega), a.tbc, a.tlt⟩
theorem Loc.put0 {b q : Nat} {n : Node} {sl : Value} (l : Loc c W q n sl 12) (hf : Fr (fun k => k = b) W W') (hb : q ≠ b) (hc : c b = 0) : Loc c W' q n sl 12 :=
  ⟨hf.at hb l.box, l.col, l.arg.fr hf (fun k _ e => by rw [show k = b from e, hc]; decide)⟩
/-- The argument's box: at the block that the method made first. -/
structure BoxA (c0 : Col) (w W : World) (n : Node) (v : Value) : Prop where
  box : W.heap[w.heap.size]? = some (.cells (nodeCells n v) 30 (0, 0))
  arg : RdI (fun k => w.heap.size ≤ k ∨ c0 k ≠ 0) W v n.args
theorem BoxA.turn {n : Node} {v : Value} (l : BoxA c0 w W n v) (a : AdW c0 w bg bc c W h s) (hc : c w.heap.size = 0) (hf : Fr (Mut c) W W') : BoxA c0 w W' n v :=
  ⟨hf.at (fun hm => hm.1 hc) l.box, l.arg.fr hf (fun k hk hm => by
    rcases Nat.lt_or_ge k w.heap.size with h | h
    · exact .inr (by rw [← a.ext k h]; exact hm.1)
    · exact .inl h)⟩
theorem BoxA.quiet {n : Node} {v : Value} (l : BoxA c0 w W n v) (hf : Fr NoB W W') : BoxA c0 w W' n v := ⟨hf.at (fun h => h) l.box, l.arg.fr hf (fun _ _ h => h.elim)⟩
theorem BoxA.put0 {b : Nat} {n : Node} {v : Value} (l : BoxA c0 w W n v) (hf : Fr (fun k => k = b) W W') (hb : w.heap.size < b) : BoxA c0 w W' n v :=
  ⟨hf.at (fun e => by have e2 : w.heap.size = b := e; omega) l.box, l.arg.fr hf (fun k _ e => .inl (by have e2 : k = b := e; omega))⟩
theorem BoxA.rd {n : Node} {v : Value} (l : BoxA c0 w W n v) : RdI NoB W v n.args := l.arg.weaken (fun _ _ h => h.elim)
theorem BoxA.lt {n : Node} {v : Value} (l : BoxA c0 w W n v) : w.heap.size < W.heap.size := (Array.getElem?_eq_some_iff.1 l.box).1
/-- Where Add stands once its two nodes are made. -/
structure AddM (c0 : Col) (w : World) (bg bc : Nat) (n : Node) (v : Value) (ob : Nat) (so : Value) (kb : Nat) (k : Node) (sk : Value) (c : Col) (W : World) (h : GH) (s : GS) : Prop where
  a : AdW c0 w bg bc c W h s
  hc : c w.heap.size = 0
  box : BoxA c0 w W n v
  own : Loc c W ob n so 12
  key : Loc c W kb k sk 12
theorem AddM.turn {n k : Node} {v so sk : Value} {ob kb : Nat} (m : AddM c0 w bg bc n v ob so kb k sk c W h s) (a' : AdW c0 w bg bc c' W' h' s') (hf : Fr (Mut c) W W') (he : Ext c c' W) : AddM c0 w bg bc n v ob so kb k sk c' W' h' s' :=
  ⟨a', by rw [he _ m.box.lt]; exact m.hc, m.box.turn m.a m.hc hf, m.own.turn hf he (.inr rfl), m.key.turn hf he (.inr rfl)⟩
theorem AddM.quiet {n k : Node} {v so sk : Value} {ob kb : Nat} (m : AddM c0 w bg bc n v ob so kb k sk c W h s) (hf : Fr NoB W W') : AddM c0 w bg bc n v ob so kb k sk c W' h s :=
  m.turn (m.a.quiet hf) (hf.mono (fun _ _ h => h.elim)) (Ext.refl _ _)
theorem st5 {W : World} {b : Nat} {e : TypeId} {y0 y1 y2 y3 y4 x0 x1 x2 x3 x4 : Value} (h : W.heap[b]? = some (.cells #[y0, y1, y2, y3, y4] e (0, 0))) :
    let WF := ((((W.setCell ⟨b, 0, none⟩ x0).setCell ⟨b, 1, none⟩ x1).setCell ⟨b, 2, none⟩ x2).setCell ⟨b, 3, none⟩ x3).setCell ⟨b, 4, none⟩ x4
    WF.heap[b]? = some (.cells #[x0, x1, x2, x3, x4] e (0, 0)) ∧ Fr (fun k => k = b) W WF := by
  intro WF
  have h0 := set_at h 0 x0
  have h1 := set_at h0 1 x1
  have h2 := set_at h1 2 x2
  have h3 := set_at h2 3 x3
  have h4 := set_at h3 4 x4
  have f := fun (W9 : World) (j : Nat) (u : Value) => (Fr.refl (fun k => k = b) W9).setCell (p := ⟨b, j, none⟩) (fun _ => rfl) u
  exact ⟨h4, ((((f _ 0 x0).trans (f _ 1 x1)).trans (f _ 2 x2)).trans (f _ 3 x3)).trans (f _ 4 x4)⟩
theorem AddM.mk1 {n k : Node} {v so sk : Value} {ob : Nat} {W7 : World} (a : AdW c0 w bg bc c W h s) (hc : c w.heap.size = 0) (box : BoxA c0 w W n v) (own : Loc c W ob n so 12) (hf : Fr NoB W W7) (ho : RdI (fun k => paint c W W7 12 k ≠ 12) W7 sk k.args) :
    AddM c0 w bg bc n v ob so W7.heap.size k sk (paint c W W7 12) (W7.alloc (.cells (nodeCells k sk) 30)) h s := by
  have f8 : Fr NoB W7 (W7.alloc (.cells (nodeCells k sk) 30)) := (Fr.refl NoB W7).alloc _
  have m : AddM c0 w bg bc n v ob so ob n so c W h s := ⟨a, hc, box, own, own⟩
  have m2 := (m.turn (a.fresh 12 hf) (hf.mono (fun _ _ h => h.elim)) (Ext.paint _ _ _ _)).quiet f8
  exact ⟨m2.a, m2.hc, m2.box, m2.own, ⟨at_new W7 _, Decidable.byContradiction fun hc => by have := (a.fresh 12 hf).g.lt _ hc; omega, ho.fr f8 (fun _ _ h => h.elim)⟩⟩
theorem AddM.mk2 {n k : Node} {v so sk : Value} {ob : Nat} {W7 : World} {y0 y1 y2 y3 y4 : Value} (a : AdW c0 w bg bc c W h s) (hc : c w.heap.size = 0) (box : BoxA c0 w W n v) (own : Loc c W ob n so 12)
    (hf : Fr NoB (W.alloc (.cells #[y0, y1, y2, y3, y4] 30)).drew W7) (ho : RdI (fun k => paint c (W.alloc (.cells #[y0, y1, y2, y3, y4] 30)).drew W7 12 k ≠ 12) W7 sk k.args) :
    AddM c0 w bg bc n v ob so W.heap.size k sk (paint c (W.alloc (.cells #[y0, y1, y2, y3, y4] 30)).drew W7 12) (((((W7.setCell ⟨W.heap.size, 0, none⟩ (.int .i64 k.op)).setCell ⟨W.heap.size, 1, none⟩ (.int .i64 k.width)).setCell ⟨W.heap.size, 2, none⟩ (.int .u64 k.val)).setCell ⟨W.heap.size, 3, none⟩ (.string k.name)).setCell ⟨W.heap.size, 4, none⟩ sk) h s := by
  have f1 : Fr NoB W (W.alloc (.cells #[y0, y1, y2, y3, y4] 30)).drew := ((Fr.refl NoB W).alloc _).drew
  have m : AddM c0 w bg bc n v ob so ob n so c W h s := ⟨a, hc, box, own, own⟩
  have m1 := m.quiet f1
  have m2 := m1.turn (m1.a.fresh 12 hf) (hf.mono (fun _ _ h => h.elim)) (Ext.paint _ _ _ _)
  have hw : W.heap.size < (W.alloc (.cells #[y0, y1, y2, y3, y4] 30)).drew.heap.size := by simp
  have k7 := hf.at (fun h => h) (show (W.alloc (.cells #[y0, y1, y2, y3, y4] 30)).drew.heap[W.heap.size]? = _ from at_new W _)
  obtain ⟨h8, f8⟩ := st5 (x0 := .int .i64 k.op) (x1 := .int .i64 k.width) (x2 := .int .u64 k.val) (x3 := .string k.name) (x4 := sk) k7
  have hcb : paint c (W.alloc (.cells #[y0, y1, y2, y3, y4] 30)).drew W7 12 W.heap.size = 0 := by
    rw [paint_old hw]
    exact Decidable.byContradiction fun hc => by have := a.g.lt _ hc; omega
  have hlo := (Array.getElem?_eq_some_iff.1 own.box).1
  refine ⟨m2.a.put0 f8 a.fr.size hcb, m2.hc, m2.box.put0 f8 box.lt, m2.own.put0 f8 (by omega) hcb, ⟨h8, hcb, ho.fr f8 (fun k _ e => by rw [show k = W.heap.size from e, hcb]; decide)⟩⟩
theorem own_paint {B : Nat} {l : List Int} {v : Value} (ho : OwnI B W' v l) (hB : B = W.heap.size) (c : Col) : RdI (fun k => paint c W W' 12 k ≠ 12) W' v l :=
  (OwnI.rd ho (M := fun k => k < W.heap.size) (fun k h1 h2 => by omega)).weaken (fun k hk hm => Decidable.byContradiction fun h => hm (paint_new (by omega) hk))
theorem AdW.cell (a : AdW c0 w bg bc c W h s) (j : Nat) : W.cell? ⟨bc, j, none⟩ = (coreC h s.dirty)[j]? := cells_at a.g.head j
end
end Go.Proofs.YtlekoceindepnaaGreatDoor
end
section
/- What Add does to an e-graph's state; the calls that it makes. -/
namespace Go.Proofs.YtlekoceindepnaaGreatDoor
open Go.RowKit
set_option maxRecDepth 100000

def tgetS (es : List (Node × Int)) (n : Node) : Option Int := (es.find? (fun x => decide (nodeCmp x.1 n = 0))).map (·.2)
theorem tgetS_of {l : List TEnt} {es : List (Node × Int)} (h : l.map (fun x => (x.node, x.id)) = es) (n : Node) : tgetS es n = (tget l n).map (·.id) := by
  subst h
  unfold tgetS tget
  induction l with
  | nil => rfl
  | cons x l ih =>
    simp only [List.map_cons, List.find?_cons]
    by_cases h : nodeCmp x.node n = 0
    · simp [h]
    · simp only [h, decide_false]
      exact ih
def vput (vs : List (ByteArray × Int)) (nm : ByteArray) (x : Int) : List (ByteArray × Int) := if (vget vs nm).isSome then vs.map (fun p => if p.1 = nm then (p.1, x) else p) else vs ++ [(nm, x)]
theorem vput_mput (vs : List (ByteArray × Int)) (nm : ByteArray) (x : Int) : mput (vs.map fun p => (p.1, Value.int .i64 p.2)) nm (.int .i64 x) = (vput vs nm x).map fun p => (p.1, Value.int .i64 p.2) := by
  unfold mput vput
  rw [vget_mget]
  simp only [Option.isSome_map]
  by_cases h : (vget vs nm).isSome = true
  · rw [if_pos h, if_pos h, List.map_map, List.map_map]
    apply List.map_congr_left
    intro p _
    simp only [Function.comp]
    by_cases e : p.1 = nm
    · simp [e]
    · simp [e]
  · rw [if_neg h, if_neg h, List.map_append]; rfl
def addUser (us : List (List Int)) (id a : Int) : List (List Int) := if (us.getD a.toNat []).getLast? = some id then us else us.set a.toNat (us.getD a.toNat [] ++ [id])
def addUsers (us : List (List Int)) (id : Int) (l : List Int) : List (List Int) := l.foldl (fun us a => addUser us id a) us
theorem addUser_len (us : List (List Int)) (id a : Int) : (addUser us id a).length = us.length := by unfold addUser; split <;> simp
theorem addUsers_snoc (us : List (List Int)) (id : Int) {l : List Int} {k : Nat} (hk : k < l.length) : addUsers us id (l.take (k + 1)) = addUser (addUsers us id (l.take k)) id (l.getD k 0) := by
  unfold addUsers
  rw [List.take_add_one, List.getElem?_eq_getElem hk, List.foldl_append, List.getD_eq_getElem?_getD, List.getElem?_eq_getElem hk]
  rfl
/-- A link, as flink_any tells it. -/
def linkS (s : GS) (x y why : Int) : GS := if 0 ≤ x ∧ 0 ≤ y ∧ s.lr x ≠ s.lr y then { s with links := s.links ++ [⟨x, y, why⟩], lr := fun k => if s.lr k = s.lr x then s.lr y else s.lr k } else s
/-- The state behind the tables' part of Add. -/
def addIn (s : GS) (n : Node) : GS :=
  let id : Int := s.uf.par.length
  { s with uf := s.uf.make, nodes := s.nodes ++ [n], keys := s.keys ++ [canonU s.uf.make.par n], users := addUsers (s.users ++ [[]]) id n.args, exact := s.exact ++ [(n, id)], vars := if n.op = 1 then vput s.vars n.name n.width else s.vars }
def addJoin (s : GS) (key : Node) (id : Int) : GS :=
  match tgetS s.table key with
  | some other => linkS { s with uf := (s.uf.union other id).1 } other id (-1)
  | none => { s with table := s.table ++ [(key, id)] }
def addS (s : GS) (n : Node) : GS × Int × Int :=
  if flawS s n ≠ 0 then (s, 0, flawS s n)
  else match tgetS s.exact n with
    | some id => (s, id, 0)
    | none => if 65536 ≤ s.nodes.length then (s, 0, 10) else (addJoin (addIn s n) (canonU s.uf.make.par n) s.uf.par.length, s.uf.par.length, 0)
section
variable {c0 c c' : Col} {w W W' : World} {bg bc : Nat} {h h' : GH} {s s' : GS}
/-- A graph's state has turned to s'. -/
def TurnTo (c0 : Col) (w : World) (bg bc : Nat) (c : Col) (W : World) (h : GH) (s' : GS) (w' : World) : Prop := ∃ c', AdW c0 w bg bc c' w' h s' ∧ Fr (Mut c) W w' ∧ Ext c c' W
theorem AdW.make_any (a : AdW c0 w bg bc c W h s) (hn : s.uf.par.length < 1000000) (ht : s.uf.tr.length < 3000000) :
    Calls Tryz.prog 28 #[.pointer (some ⟨h.bs, 0, none⟩)] W fun e w' => e = .returned (.int .i64 s.uf.par.length) ∧ TurnTo c0 w bg bc c W h { s with uf := s.uf.make } w' := by
  refine (ufmake_any a.g.sets hn ht).mono ?_
  rintro e w' ⟨rfl, h1, h2⟩
  have f : Fr (Mut c) W w' := h2.mono (fun k _ hk => Mut.of (by decide) hk)
  exact ⟨rfl, _, a.turn (a.g.setUf h1 h2) f (Ext.paint _ _ _ _), f, Ext.paint _ _ _ _⟩
theorem AdW.union_any (x y : Int) (a : AdW c0 w bg bc c W h s) (ht : s.uf.tr.length < 3000000) :
    Calls Tryz.prog 33 #[.pointer (some ⟨h.bs, 0, none⟩), .int .i64 x, .int .i64 y] W fun e w' => e = .returned (.tuple #[.int .i64 (s.uf.union x y).2.1, .bool (s.uf.union x y).2.2]) ∧ TurnTo c0 w bg bc c W h { s with uf := (s.uf.union x y).1 } w' := by
  refine (ufunion_any x y a.g.sets ht).mono ?_
  rintro e w' ⟨rfl, h1, h2⟩
  have f : Fr (Mut c) W w' := h2.mono (fun k _ hk => Mut.of (by decide) hk)
  exact ⟨rfl, _, a.turn (a.g.setUf h1 h2) f (Ext.paint _ _ _ _), f, Ext.paint _ _ _ _⟩
theorem AdW.link_any (x y why : Int) (a : AdW c0 w bg bc c W h s) (hL : s.links.length ≤ 1000000) :
    Calls Tryz.prog 34 #[.pointer (some ⟨h.bf, 0, none⟩), .int .i64 x, .int .i64 y, .int .i64 why] W fun e w' => e = .returned (.bool (decide (0 ≤ x ∧ 0 ≤ y ∧ s.lr x ≠ s.lr y))) ∧ TurnTo c0 w bg bc c W h (linkS s x y why) w' := by
  refine (flink_any _ W h.bf s.links s.lr x y why a.g.proofs hL).mono ?_
  rintro e w' ⟨rfl, ⟨M', h1, h2⟩, h3⟩
  have f : Fr (Mut c) W w' := h3.mono (fun k _ hk => Mut.of (by decide) hk)
  refine ⟨rfl, paint c W w' 2, a.turn (s' := linkS s x y why) ?_ f (Ext.paint _ _ _ _), f, Ext.paint _ _ _ _⟩
  have h9 := a.g.setFor h1 h2 h3
  unfold linkS
  by_cases hc : 0 ≤ x ∧ 0 ≤ y ∧ s.lr x ≠ s.lr y
  · simp only [if_pos hc] at h9 ⊢; exact h9
  · simp only [if_neg hc] at h9 ⊢; exact h9
theorem TblAt.get_any {i bt : Nat} {es : List (Node × Int)} (t : TblAt c i W bt es) (n : Node) (v : Value) (hr : RdI NoB W v n.args) (hok : NodeOk n) (hsm : NodeSm n) (ht : Tab W) :
    Calls Tryz.prog 27 #[.pointer (some ⟨bt, 0, none⟩), nodeV n v] W fun e w' => e = .returned (.tuple #[.int .i64 ((tgetS es n).getD 0), .bool (tgetS es n).isSome]) ∧ Fr NoB W w' := by
  obtain ⟨bm, l, h1, h2, _⟩ := t
  refine (Go.Proofs.YtlekoceindepnaaGreatDoor.get_any _ NoB W bt bm l h1 n v hr hok hsm ht).mono ?_
  rintro e w' ⟨rfl, hf⟩
  refine ⟨?_, hf⟩
  rw [tgetS_of h2]
  cases tget l n <;> rfl
theorem AdW.putX_any (a : AdW c0 w bg bc c W h s) (n : Node) (v : Value) (id : Int) (hr : RdI NoB W v n.args) (hok : NodeOk n) (hsm : NodeSm n) (hg : tgetS s.exact n = none) :
    Calls Tryz.prog 32 #[.pointer (some ⟨h.be, 0, none⟩), nodeV n v, .int .i64 id] W fun e w' => e = .returned (.bool true) ∧ TurnTo c0 w bg bc c W h { s with exact := s.exact ++ [(n, id)] } w' := by
  obtain ⟨bm, l, h1, h2, h3, h4, h5⟩ := a.g.exact
  rw [tgetS_of h2] at hg
  have hg' : tget l n = none := by simpa using hg
  refine (put_none _ NoB W h.be bm l (tbl_old h1) n v id hr hok hsm a.tab hg' ⟨h1.map.lt, by rw [h4]; decide⟩ h5 (fun k hk => hk.1)).mono ?_
  rintro e w' ⟨rfl, ⟨sl, h6⟩, h7⟩
  have f : Fr (Mut c) W w' := h7.mono (fun k _ hk => by rw [show k = bm from hk]; exact Mut.of (by decide) h4)
  exact ⟨rfl, _, a.turn (a.g.setExact h6 h7 h3 h4 h5 (by rw [List.map_append, h2]; rfl) h1.lt h1.map.lt) f (Ext.paint _ _ _ _), f, Ext.paint _ _ _ _⟩
theorem AdW.putT_any (a : AdW c0 w bg bc c W h s) (n : Node) (v : Value) (id : Int) (hr : RdI NoB W v n.args) (hok : NodeOk n) (hsm : NodeSm n) (hg : tgetS s.table n = none) :
    Calls Tryz.prog 32 #[.pointer (some ⟨h.bt, 0, none⟩), nodeV n v, .int .i64 id] W fun e w' => e = .returned (.bool true) ∧ TurnTo c0 w bg bc c W h { s with table := s.table ++ [(n, id)] } w' := by
  obtain ⟨bm, l, h1, h2, h3, h4, h5⟩ := a.g.table
  rw [tgetS_of h2] at hg
  have hg' : tget l n = none := by simpa using hg
  refine (put_none _ NoB W h.bt bm l (tbl_old h1) n v id hr hok hsm a.tab hg' ⟨h1.map.lt, by rw [h4]; decide⟩ h5 (fun k hk => hk.1)).mono ?_
  rintro e w' ⟨rfl, ⟨sl, h6⟩, h7⟩
  have f : Fr (Mut c) W w' := h7.mono (fun k _ hk => by rw [show k = bm from hk]; exact Mut.of (by decide) h4)
  exact ⟨rfl, _, a.turn (a.g.setTable h6 h7 h3 h4 h5 (by rw [List.map_append, h2]; rfl) h1.lt h1.map.lt) f (Ext.paint _ _ _ _), f, Ext.paint _ _ _ _⟩
theorem AdW.flaw_any (a : AdW c0 w bg bc c W h s) (n : Node) (v : Value) (hr : RdI NoB W v n.args) (hla : n.args.length ≤ 1000000) :
    Calls Tryz.prog 26 #[.pointer (some ⟨bc, 0, none⟩), nodeV n v] W fun e w' => e = .returned (.int .i64 (flawS s n)) ∧ Fr NoB W w' := Go.Proofs.YtlekoceindepnaaGreatDoor.flaw_any a.g n v hr hla
end
end Go.Proofs.YtlekoceindepnaaGreatDoor
end
