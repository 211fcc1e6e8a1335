import Derived.Test.YtlekoceindepnaaGreatDoorPk0
import Derived.Test.YtlekoceindepnaaGreatDoorPk3
import Derived.Deep.DeepCutAuto
import Derived.IntWalk
set_option linter.all false
section
/- The appends of Add. -/
namespace Go.Proofs.YtlekoceindepnaaGreatDoor
open Go.RowKit
set_option maxRecDepth 100000

theorem GIs.cells {c : Col} {w : World} {bc : Nat} {h : GH} {s : GS} (g : GIs c w bc h s) :
    w.cell? ⟨bc, 0, none⟩ = some (.pointer (some ⟨h.bs, 0, none⟩)) ∧ w.cell? ⟨bc, 1, none⟩ = some h.vn ∧ w.cell? ⟨bc, 2, none⟩ = some h.vk ∧ w.cell? ⟨bc, 3, none⟩ = some h.vu ∧ w.cell? ⟨bc, 4, none⟩ = some (.pointer (some ⟨h.be, 0, none⟩)) ∧ w.cell? ⟨bc, 5, none⟩ = some (.pointer (some ⟨h.bt, 0, none⟩)) ∧
      w.cell? ⟨bc, 6, none⟩ = some (.pointer (some ⟨h.bf, 0, none⟩)) ∧ w.cell? ⟨bc, 7, none⟩ = some (.map (some h.bv)) ∧ w.cell? ⟨bc, 8, none⟩ = some h.vt ∧ w.cell? ⟨bc, 9, none⟩ = some (.bool s.dirty) ∧ w.cell? ⟨bc, 10, none⟩ = some h.vm ∧ (∀ o, w.frozen? ⟨bc, o, none⟩ = false) ∧ bc < w.heap.size := by
  have hh := g.head
  unfold coreC at hh
  exact ⟨by simp [World.cell?, hh], by simp [World.cell?, hh], by simp [World.cell?, hh], by simp [World.cell?, hh], by simp [World.cell?, hh], by simp [World.cell?, hh], by simp [World.cell?, hh], by simp [World.cell?, hh], by simp [World.cell?, hh], by simp [World.cell?, hh], by simp [World.cell?, hh], fun o => by simp [World.frozen?, hh], g.lb⟩
section
variable {c0 c c' : Col} {w W W' W6 : World} {bg bc : Nat} {h h' : GH} {s s' : GS} {n k : Node} {v so sk v6 : Value} {ob kb : Nat} {M : Nat → Prop}
theorem Loc.see {b : Nat} (l : Loc c W b n so 12) (hf : Fr M W W') (hM : ∀ b, M b → c b ≠ 0) : W'.cell? ⟨b, 0, none⟩ = some (.int .i64 n.op) ∧ W'.cell? ⟨b, 1, none⟩ = some (.int .i64 n.width) ∧ W'.cell? ⟨b, 2, none⟩ = some (.int .u64 n.val) ∧ W'.cell? ⟨b, 3, none⟩ = some (.string n.name) ∧ W'.cell? ⟨b, 4, none⟩ = some so := by
  obtain ⟨x0, x1, x2, x3, x4, _, _⟩ := five_of (hf.at (fun hm => hM b hm l.col) l.box)
  exact ⟨x0, x1, x2, x3, x4⟩
theorem GIs.see (g : GIs c W bc h s) (hf : Fr M W W') (hM : ∀ b, M b → c b ≠ 11) : W'.heap[bc]? = some (.cells (coreC h s.dirty) 66 (0, 0)) := hf.at (fun hm => hM bc hm g.own) g.head
theorem AddM.pushN (m : AddM c0 w bg bc n v ob so kb k sk c W h s) {d : List (Node × Value)} (hd1 : d.map (·.1) = s.nodes) (hd4 : ∀ x ∈ d, RdI (fun k => c k ≠ 12) W x.2 x.1.args) (hf : Fr (fun b => h.vn.ownBlock = some b) W W6) (ho : OwnN 0 W6 v6 (d ++ [(n, so)]))
    (hb : v6.ownBlock = h.vn.ownBlock ∨ ∃ q, v6.ownBlock = some q ∧ W.heap.size ≤ q) :
    AddM c0 w bg bc n v ob so kb k sk (paint c W W6 9) (W6.setCell ⟨bc, 1, none⟩ v6) { h with vn := v6 } { s with nodes := s.nodes ++ [n] } := by
  obtain ⟨K, g'⟩ := m.a.g.setNodes (ns' := s.nodes ++ [n]) hf ho hb (by rw [List.map_append, hd1]; rfl) (fun x hx => by
    rcases List.mem_append.1 hx with hx | hx
    · exact hd4 x hx
    · obtain rfl := List.mem_singleton.1 hx
      exact m.own.arg)
  exact m.turn (m.a.turn g' K.fr K.ext) K.fr K.ext
theorem AddM.pushK (m : AddM c0 w bg bc n v ob so kb k sk c W h s) {d : List (Node × Value)} (hd1 : d.map (·.1) = s.keys) (hd4 : ∀ x ∈ d, RdI (fun k => c k ≠ 12) W x.2 x.1.args) (hf : Fr (fun b => h.vk.ownBlock = some b) W W6) (ho : OwnN 0 W6 v6 (d ++ [(k, sk)]))
    (hb : v6.ownBlock = h.vk.ownBlock ∨ ∃ q, v6.ownBlock = some q ∧ W.heap.size ≤ q) :
    AddM c0 w bg bc n v ob so kb k sk (paint c W W6 8) (W6.setCell ⟨bc, 2, none⟩ v6) { h with vk := v6 } { s with keys := s.keys ++ [k] } := by
  obtain ⟨K, g'⟩ := m.a.g.setKeys (ns' := s.keys ++ [k]) hf ho hb (by rw [List.map_append, hd1]; rfl) (fun x hx => by
    rcases List.mem_append.1 hx with hx | hx
    · exact hd4 x hx
    · obtain rfl := List.mem_singleton.1 hx
      exact m.key.arg)
  exact m.turn (m.a.turn g' K.fr K.ext) K.fr K.ext
theorem AddM.pushU (m : AddM c0 w bg bc n v ob so kb k sk c W h s) {svs : List Value} (u : UsersVs c W h.vu svs s.users) (hf : Fr (fun b => h.vu.ownBlock = some b) W W6) (ho : OwnE rowC 1 28 0 W6 v6 (svs ++ [.slice none 0 0]))
    (hb : v6.ownBlock = h.vu.ownBlock ∨ ∃ q, v6.ownBlock = some q ∧ W.heap.size ≤ q) :
    AddM c0 w bg bc n v ob so kb k sk (paint c W W6 3) (W6.setCell ⟨bc, 3, none⟩ v6) { h with vu := v6 } { s with users := s.users ++ [[]] } := by
  have hg1 : ∀ j, j < s.users.length → (svs ++ [Value.slice none 0 0]).getD j .nilFunc = svs.getD j .nilFunc := fun j hj => by
    rw [List.getD_eq_getElem?_getD, List.getD_eq_getElem?_getD, List.getElem?_append_left (by rw [u.len]; exact hj)]
  have hg2 : (svs ++ [Value.slice none 0 0]).getD s.users.length .nilFunc = .slice none 0 0 := by
    rw [List.getD_eq_getElem?_getD, List.getElem?_append_right (by rw [u.len]; exact Nat.le_refl _), u.len, Nat.sub_self]; rfl
  have hu1 : ∀ j, j < s.users.length → (s.users ++ [[]]).getD j [] = s.users.getD j [] := fun j hj => by
    rw [List.getD_eq_getElem?_getD, List.getD_eq_getElem?_getD, List.getElem?_append_left hj]
  have hu2 : (s.users ++ [[]]).getD s.users.length [] = [] := by
    rw [List.getD_eq_getElem?_getD, List.getElem?_append_right (Nat.le_refl _), Nat.sub_self]; rfl
  obtain ⟨K, g'⟩ := m.a.g.setUsers (us' := s.users ++ [[]]) u.col (fun b hb => OwnE.head u.row hb) hf ho hb (by simp [u.len]) (fun j hj => by
    rw [List.length_append, List.length_singleton] at hj
    by_cases e : j < s.users.length
    · rw [hg1 j e, hu1 j e]; exact u.rows j e
    · obtain rfl : j = s.users.length := by omega
      rw [hg2, hu2]
      exact ⟨OwnI.nil _ _, fun b hb => (by cases hb)⟩) (fun j j' hj hj' hne b hb9 => by
    rw [List.length_append, List.length_singleton] at hj hj'
    by_cases e : j < s.users.length
    · rw [hg1 j e] at hb9
      by_cases e' : j' < s.users.length
      · rw [hg1 j' e']; exact u.apart j j' e e' hne b hb9
      · obtain rfl : j' = s.users.length := by omega
        rw [hg2]; exact fun h => by cases h
    · obtain rfl : j = s.users.length := by omega
      rw [hg2] at hb9; cases hb9)
  exact m.turn (m.a.turn g' K.fr K.ext) K.fr K.ext
theorem rdU_lit {w : World} {e : TypeId} {b : Nat} (hb : b = w.heap.size) : RdE rowC NoB (w.alloc (.cells #[.slice none 0 0] e)) (.slice (some ⟨b, 0, none⟩) 1 1) [.slice none 0 0] := by
  subst hb
  refine .inr ⟨w.heap.size, 0, 1, rfl, by simp, fun h => h, Nat.le_refl _, ?_⟩
  have hb := at_new w (.cells #[.slice none 0 0] e)
  intro j u hj
  rw [Nat.zero_add]
  match j, hj with
  | 0, hj => simp [flatE, rowC] at hj; subst hj; (unfold World.cell?; simp only [hb]; rfl)
  | j + 1, hj => simp [flatE, rowC] at hj
theorem flaw_in {s : GS} {n : Node} (h : flawS s n = 0) : ∀ a ∈ n.args, 0 ≤ a ∧ a < (s.nodes.length : Int) := by
  unfold flawS at h
  split at h
  · omega
  · split at h
    · omega
    · split at h
      · omega
      · unfold flawT at h
        split at h
        · omega
        · next h9 =>
          refine inR_mem ?_
          simpa using h9
theorem AddM.addU (m : AddM c0 w bg bc n v ob so kb k sk c W h s) {us : List (List Int)} (g' : GIs (paint c W W6 3) W' bc h { s with users := us }) (hf : Fr (fun k => c k = 3) W W') :
    AddM c0 w bg bc n v ob so kb k sk (paint c W W6 3) W' h { s with users := us } := by
  have f : Fr (Mut c) W W' := hf.mono (fun k _ hk => Mut.of (by decide) hk)
  exact m.turn (m.a.turn g' f (Ext.paint _ _ _ _)) f (Ext.paint _ _ _ _)
theorem last_at {L : List Int} {m : Nat} (h : L.length = m + 1) : L.getLast? = some (L.getD m 0) := by
  rw [List.getLast?_eq_getElem?, h, List.getD_eq_getElem?_getD, Nat.add_sub_cancel, List.getElem?_eq_getElem (by omega)]; rfl
theorem addUser_rows {us : List (List Int)} {id a : Int} {B : Nat} (h : ∀ l ∈ us, l.length ≤ B) : ∀ l ∈ addUser us id a, l.length ≤ B + 1 := fun l hl => by
  unfold addUser at hl
  split at hl
  · have := h l hl; omega
  · rcases List.mem_or_eq_of_mem_set hl with h1 | h1
    · have := h l h1; omega
    · rw [h1, List.length_append, List.length_singleton]
      have : (us.getD a.toNat []).length ≤ B := by
        rw [List.getD_eq_getElem?_getD]
        cases he : us[a.toNat]? with
        | none => simp
        | some x => exact h x (List.mem_of_getElem? he)
      omega
theorem addUsers_rows (id : Int) : ∀ (al : List Int) (us : List (List Int)) (B : Nat), (∀ l ∈ us, l.length ≤ B) → ∀ l ∈ addUsers us id al, l.length ≤ B + al.length
  | [], us, B, h, l, hl => by have := h l hl; simp only [List.length_nil]; omega
  | a :: al, us, B, h, l, hl => by
    have h1 := addUsers_rows id al (addUser us id a) (B + 1) (addUser_rows h) l hl
    simp only [List.length_cons]
    omega
theorem AddM.putV (m : AddM c0 w bg bc n v ob so kb k sk c W h s) (nm : ByteArray) (x : Int) :
    ∃ w', (Instr.mapUpdate 63 (.map (some h.bv)) (.string nm) (.int .i64 x)).run Tryz.prog W = .ok () w' ∧ AddM c0 w bg bc n v ob so kb k sk c w' h { s with vars := vput s.vars nm x } := by
  obtain ⟨w', e1, e2, e3⟩ := m.a.g.vars.1.put (P := Tryz.prog) kkString Tryz.underlying63 Tryz.underlying9 nm (.int .i64 x)
  rw [vput_mput] at e2
  have f : Fr (Mut c) W w' := e3.mono (fun q _ hq => by rw [show q = h.bv from hq]; exact Mut.of (by decide) m.a.g.vars.2)
  exact ⟨w', e1, m.turn (m.a.turn (m.a.g.setVars e2 e3) f (Ext.refl _ _)) f (Ext.refl _ _)⟩
theorem AddM.to (m : AddM c0 w bg bc n v ob so kb k sk c W h s) (t : TurnTo c0 w bg bc c W h s' W') : ∃ c', AddM c0 w bg bc n v ob so kb k sk c' W' h s' := by
  obtain ⟨c', a, f, e⟩ := t
  exact ⟨c', m.turn a f e⟩
theorem canon_ok2 {p : List Int} (hp : POk p) (hl : p.length ≤ 1000000) (hn : NodeOk n) : NodeOk (canonU p n) := by
  refine ⟨hn.op, hn.width, hn.val, fun i hi => ?_⟩
  simp only [canonU, List.length_map] at hi ⊢
  rw [List.getD_eq_getElem?_getD, List.getElem?_map, List.getElem?_eq_getElem hi]
  simp only [Option.map_some, Option.getD_some]
  by_cases h : 0 ≤ n.args[i] ∧ n.args[i] < (p.length : Int)
  · have := findS_in hp h.1 h.2
    unfold i64ok; omega
  · rw [findS_out h]; unfold i64ok; omega
theorem canon_sm2 {p : List Int} (hn : NodeSm n) : NodeSm (canonU p n) := ⟨by simpa [canonU] using hn.args, hn.name⟩
theorem grown_own {o : Obj} {a : Option Nat} (hb : v6.ownBlock = a ∨ v6.ownBlock = some (W.alloc o).heap.size) : v6.ownBlock = a ∨ ∃ q, v6.ownBlock = some q ∧ W.heap.size ≤ q := by
  rcases hb with h | h
  · exact .inl h
  · exact .inr ⟨_, h, by simp⟩
end
end Go.Proofs.YtlekoceindepnaaGreatDoor
end
section
/- The walks of Sets.Same, of egraph's join and Union. -/
namespace Go.Proofs.YtlekoceindepnaaGreatDoor
open Go.RowKit
set_option maxRecDepth 100000

section
variable {c0 c c' : Col} {w W W' W6 : World} {bg bc : Nat} {h h' : GH} {s s' : GS}
theorem AdW.self (a : AdW c0 w bg bc c W h s) : AdW c W bg bc c W h s := ⟨a.g, a.gr, a.gc, Fr.refl _ _, Ext.refl _ _, a.tab, a.tbc, a.tab.lt⟩
theorem AdW.comp (a : AdW c0 w bg bc c W h s) (b : AdW c W bg bc c' W' h' s') : AdW c0 w bg bc c' W' h' s' := a.turn b.g b.fr b.ext
theorem AdW.to (a : AdW c0 w bg bc c W h s) (t : TurnTo c0 w bg bc c W h s' W') : ∃ c', AdW c0 w bg bc c' W' h s' := by
  obtain ⟨c', a', _, _⟩ := t
  exact ⟨c', a'⟩
def sameS2 (p : List Int) (x y : Int) : Bool := decide (0 ≤ x ∧ x < (p.length : Int)) && decide (findS p x = findS p y)
theorem ufsame_any {N : Nat → Prop} {w : World} {bs : Nat} {u : Uf} (x y : Int) (hs : SetsAt N w bs u) : Calls Tryz.prog 35 #[.pointer (some ⟨bs, 0, none⟩), .int .i64 x, .int .i64 y] w fun e w' => e = .returned (.bool (sameS2 u.par x y)) ∧ w' = w := by
  have H := hid hs
  clear hs
  obtain ⟨r, hr⟩ : ∃ r, Hid (sameS2 u.par x y = r) := ⟨_, hid rfl⟩
  rw [hr.out]
  obtain ⟨fx, hfx⟩ : ∃ r, Hid (findS u.par x = r) := ⟨_, hid rfl⟩
  obtain ⟨fy, hfy⟩ : ∃ r, Hid (findS u.par y = r) := ⟨_, hid rfl⟩
  go_enter Tryz.func35, Tryz.ntmps35
  go_wp2_with fail
  refine (ufhas_any x H.out).mono ?_
  rintro e w' ⟨rfl, h9⟩
  subst h9
  by_cases hx : 0 ≤ x ∧ x < u.par.length
  · rw [decide_eq_true hx]
    have HX := hid hx
    clear hx
    go_wp2_with fail
    refine (uffind_any x H.out).mono ?_
    rintro e w' ⟨rfl, h9⟩
    subst h9
    rw [hfx.out]
    go_wp2_with fail
    refine (uffind_any y H.out).mono ?_
    rintro e w' ⟨rfl, h9⟩
    subst h9
    rw [hfy.out]
    by_cases e : fx = fy
    · have he : (fx == fy) = true := by simp [e]
      have HE := hid e
      clear e
      go_wp2
      go_ret
      refine ⟨?_, rfl⟩
      rw [← hr.out]
      unfold sameS2
      rw [hfx.out, hfy.out, decide_eq_true HX.out, decide_eq_true HE.out]; rfl
    · have he : (fx == fy) = false := by simpa using e
      have HE := hid e
      clear e
      go_wp2
      go_ret
      refine ⟨?_, rfl⟩
      rw [← hr.out]
      unfold sameS2
      rw [hfx.out, hfy.out, decide_eq_true HX.out, decide_eq_false HE.out]; rfl
  · rw [decide_eq_false hx]
    have HX := hid hx
    clear hx
    go_wp2
    go_ret
    refine ⟨?_, rfl⟩
    rw [← hr.out]
    unfold sameS2
    rw [decide_eq_false HX.out]; rfl
def joinS (s : GS) (a b why : Int) : GS :=
  let t := linkS { s with uf := (s.uf.union a b).1 } a b why
  { t with todo := t.todo ++ [(s.uf.union a b).2.1] }
theorem AdW.pushT (a : AdW c0 w bg bc c W h s) {v6 : Value} {l' : List Int} (hf : Fr (fun b => h.vt.ownBlock = some b) W W6) (ho : OwnI 0 W6 v6 l') (hb : v6.ownBlock = h.vt.ownBlock ∨ ∃ q, v6.ownBlock = some q ∧ W.heap.size ≤ q) :
    AdW c0 w bg bc (paint c W W6 4) (W6.setCell ⟨bc, 8, none⟩ v6) { h with vt := v6 } { s with todo := l' } := by
  obtain ⟨K, g'⟩ := a.g.setTodo hf ho hb
  exact a.turn g' K.fr K.ext
theorem GIs.setDirty (g : GIs c W bc h s) (d : Bool) : GIs c (W.setCell ⟨bc, 9, none⟩ (.bool d)) bc h { s with dirty := d } := by
  have f : Fr (fun b => b = bc) W (W.setCell ⟨bc, 9, none⟩ (.bool d)) := Fr.put' _
  have K := keep_of (c := c) (c' := c) (i := 11) f (Ext.refl _ _) (fun k _ e => by rw [show k = bc from e]; exact g.own) (by decide)
  have lt : ∀ b, c b ≠ 0 → b < (W.setCell ⟨bc, 9, none⟩ (.bool d)).heap.size := fun b hb => Nat.lt_of_lt_of_le (g.lt b hb) f.size
  exact ⟨set_at g.head 9 _, g.sets.keep (K 1 (by decide)), g.nodes.keep (K 9 (by decide)), g.keys.keep (K 8 (by decide)), g.users.keep (K 3 (by decide)), g.exact.keep (K 5 (by decide)), g.table.keep (K 6 (by decide)), g.proofs.keep (K 2 (by decide)) lt, g.vars.keep (K 7 (by decide)), g.todo.keep (K 4 (by decide)), g.marks.keep (K 10 (by decide)), g.own, lt⟩
theorem AdW.setDirty (a : AdW c0 w bg bc c W h s) (d : Bool) : AdW c0 w bg bc c (W.setCell ⟨bc, 9, none⟩ (.bool d)) h { s with dirty := d } :=
  a.turn (a.g.setDirty d) ((Fr.put' (W6 := W) (bc := bc) (j := 9) (.bool d)).mono (fun k _ e => by rw [show k = bc from e]; exact Mut.of (by decide) a.g.own)) (Ext.refl _ _)
set_option maxHeartbeats 4000000 in
theorem join_any (a : AdW c W bg bc c W h s) (x y why : Int) (ht : s.uf.tr.length < 3000000) (hL : s.links.length ≤ 1000000) (hT : s.todo.length ≤ 1000000000) :
    Calls Tryz.prog 36 #[.pointer (some ⟨bc, 0, none⟩), .int .i64 x, .int .i64 y, .int .i64 why] W fun e w' => e = .returned (.tuple #[]) ∧ ∃ c' h', AdW c W bg bc c' w' h' (joinS s x y why) := by
  have A1 := hid a
  have HB := hid (And.intro ht (And.intro hL hT))
  clear a ht hL hT
  obtain ⟨R, hR⟩ : ∃ R, Hid (R = joinS s x y why) := ⟨_, hid rfl⟩
  rw [← hR.out]
  obtain ⟨rt, hrt⟩ : ∃ r, Hid ((s.uf.union x y).2.1 = r) := ⟨_, hid rfl⟩
  obtain ⟨rb, hrb⟩ : ∃ r, Hid ((s.uf.union x y).2.2 = r) := ⟨_, hid rfl⟩
  obtain ⟨k0, k1, k2, k3, k4, k5, k6, k7, k8, k9, k10, kf, kl⟩ := A1.out.g.cells
  clear k1 k2 k3 k4 k5 k6 k7 k8 k9 k10 kf
  go_enter Tryz.func36, Tryz.ntmps36
  go_wp2_with fail
  refine (A1.out.union_any x y HB.out.1).mono ?_
  rintro e w2 ⟨rfl, t⟩
  rw [hrt.out, hrb.out]
  obtain ⟨c2, N2⟩ := A1.out.to t
  obtain ⟨s2, HS2⟩ : ∃ q : GS, Hid (q = { s with uf := (s.uf.union x y).1 }) := ⟨_, hid rfl⟩
  rw [← HS2.out] at N2
  have A2 := hid N2
  clear t N2 A1 k0 kl
  obtain ⟨k0, k1, k2, k3, k4, k5, k6, k7, k8, k9, k10, kf, kl⟩ := A2.out.g.cells
  clear k0 k1 k2 k3 k4 k5 k7 k8 k9 k10 kf
  go_wp2_with fail
  refine (A2.out.link_any x y why (by rw [HS2.out]; exact HB.out.2.1)).mono ?_
  rintro e w3 ⟨rfl, t⟩
  obtain ⟨c3, N3⟩ := A2.out.to t
  obtain ⟨s3, HS3⟩ : ∃ q : GS, Hid (q = linkS s2 x y why) := ⟨_, hid rfl⟩
  rw [← HS3.out] at N3
  have A3 := hid N3
  have HTL : Hid (s3.todo.length ≤ 1000000000) := by
    show _ ≤ _
    rw [HS3.out]
    have h9 : (linkS s2 x y why).todo = s2.todo := by unfold linkS; split <;> rfl
    rw [h9, HS2.out]; exact HB.out.2.2
  clear t N3 A2 k6 kl
  obtain ⟨k0, k1, k2, k3, k4, k5, k6, k7, k8, k9, k10, kf, kl⟩ := A3.out.g.cells
  clear k0 k1 k2 k3 k4 k5 k6 k7 k9 k10 kf
  go_wp2_with (at_builtin; go_loud (refine ap_ints_at _ rfl _ _ rfl 0 h.vt s3.todo rfl (OwnI.fr A3.out.g.todo.1 ((Fr.refl NoB w3).alloc _) (fun _ _ h => h)) NoB _ [rt] rfl (rdI_lit' (l := [rt]) rfl rfl rfl (fun h => h)) ?_ (Nat.zero_le _) ?_; (have := HTL.out; simp only [List.length_singleton]; omega); intro v6 W6 ho6 hg6 hb6; obtain ⟨p6, q6, hv6⟩ := ho6.form; obtain ⟨m6, hm6⟩ : ∃ m, (s3.todo ++ [rt]).length = m := ⟨_, rfl⟩; rw [hm6] at hv6; subst hv6; clear hm6; have f6 : Fr (fun b => h.vt.ownBlock = some b) w3 W6 := Fr.grown ((Fr.refl _ w3).alloc _) hg6 (fun k hk _ => hk); have hh6 := A3.out.g.see f6 (fun b hb => by rw [A3.out.g.todo.2 b hb]; decide); have e3 : W6.cell? ⟨bc, 8, none⟩ = some h.vt := cells_at hh6 8; have ef := frozen_at hh6; have N6 := hid (A3.out.pushT f6 ho6 (grown_own (W := w3) hb6)); clear ho6 hg6 hb6 f6 hh6 k8 kl))
  go_end0
  have e1 : R = { s3 with todo := s3.todo ++ [rt] } := by
    rw [hR.out]
    unfold joinS
    simp only
    rw [HS3.out, HS2.out, hrt.out]
  rw [e1]
  exact ⟨rfl, _, _, N6.out⟩
def unionG (s : GS) (x y why : Int) : GS × Bool × Int :=
  if why = -1 then (s, false, 1)
  else if ¬ (0 ≤ x ∧ 0 ≤ y ∧ x < (s.nodes.length : Int) ∧ y < (s.nodes.length : Int)) then (s, false, 2)
  else if wAt s.nodes x ≠ wAt s.nodes y then (s, false, 3)
  else if sameS2 s.uf.par x y = true then (s, false, 0)
  else ({ joinS s x y why with dirty := true }, true, 0)
set_option maxHeartbeats 8000000 in
theorem eunion_any (h0 : GrAt c0 w bg s) (ht : Tab w) (htb : c0 TB = 0) (x y why : Int) (hz : s.uf.tr.length < 3000000) (hL : s.links.length ≤ 1000000) (hT : s.todo.length ≤ 1000000000) :
    Calls Tryz.prog 6 #[.pointer (some ⟨bg, 0, none⟩), .int .i64 x, .int .i64 y, .int .i64 why] w fun e w' => e = .returned (.tuple #[.bool (unionG s x y why).2.1, .int .i64 (unionG s x y why).2.2]) ∧ (∃ c', GrAt c' w' bg (unionG s x y why).1 ∧ Ext c0 c' w) ∧ Fr (Mut c0) w w' := by
  obtain ⟨bc, h, a0⟩ := AdW.start h0 ht htb
  have A1 := hid a0
  have HB := hid (And.intro hz (And.intro hL hT))
  clear h0 ht htb a0 hz hL hT
  obtain ⟨R, hR⟩ : ∃ R, Hid (R = unionG s x y why) := ⟨_, hid rfl⟩
  rw [← hR.out]
  go_enter Tryz.func6, Tryz.ntmps6
  go_wp2_with fail
  refine (emade_any A1.out.done).mono ?_
  rintro e w' ⟨rfl, h9⟩
  subst h9
  have g0 := cells_at A1.out.gr 0
  have gl := (Array.getElem?_eq_some_iff.1 A1.out.gr).1
  simp only [List.getElem?_toArray, List.getElem?_cons_zero] at g0
  obtain ⟨k0, k1, k2, k3, k4, k5, k6, k7, k8, k9, k10, kf, kl⟩ := A1.out.g.cells
  clear k2 k3 k4 k5 k6 k7 k8 k9 k10
  obtain ⟨dn, hd1, hd2, hd3, hd4⟩ := A1.out.g.nodes
  have hdl : dn.length = s.nodes.length := by rw [← hd1, List.length_map]
  have HDL := hid hdl
  have HD1 := hid hd1
  obtain ⟨np, nc, hvn⟩ := OwnE.form hd2
  rw [hdl] at hvn
  have hrdn : RdN NoB w' h.vn dn := OwnE.rdN hd2 (fun _ _ h => h) (fun x hx => (hd4 x hx).weaken (fun _ _ h => h.elim))
  rw [hvn] at k1 hrdn
  have HRD := hid hrdn
  clear hd1 hd2 hd3 hd4 hdl hvn hrdn
  by_cases c1 : why = -1
  · have e1 : R = (s, false, 1) := by rw [hR.out]; unfold unionG; rw [if_pos c1]
    subst c1
    go_wp2
    go_ret2
    rw [e1]
    exact ⟨rfl, ⟨_, A1.out.done, A1.out.ext⟩, A1.out.fr⟩
  have c1b : (why == -1) = false := by simpa using c1
  by_cases c2 : 0 ≤ x ∧ 0 ≤ y ∧ x < (s.nodes.length : Int) ∧ y < (s.nodes.length : Int)
  rotate_left
  · have E1 : Hid (R = (s, false, 2)) := by show _ = _; rw [hR.out]; unfold unionG; rw [if_neg c1, if_pos c2]
    have HC2 := hid c2
    clear c2 c1
    go_wp2
    all_goals first
      | (go_ret2; rw [E1.out]; exact ⟨rfl, ⟨_, A1.out.done, A1.out.ext⟩, A1.out.fr⟩)
      | (exfalso; have := HC2.out; omega)
  obtain ⟨x0, y0, x1, y1⟩ := c2
  obtain ⟨xn, rfl⟩ : ∃ xn : Nat, x = xn := ⟨x.toNat, by omega⟩
  obtain ⟨yn, rfl⟩ : ∃ yn : Nat, y = yn := ⟨y.toNat, by omega⟩
  have hxn : xn < dn.length := by rw [HDL.out]; omega
  have hyn : yn < dn.length := by rw [HDL.out]; omega
  obtain ⟨b, off, hpp, e0, ex, e2, e3, e4, -⟩ := HRD.out.nodeK hxn
  subst hpp
  obtain ⟨b', off', hpp, e0', ey, e2', e3', e4', -⟩ := HRD.out.nodeK hyn
  cases hpp
  clear e0 e2 e3 e4 e0' e2' e3' e4'
  have HWX := hid (wAt_get HD1.out hxn)
  have HWY := hid (wAt_get HD1.out hyn)
  obtain ⟨wx, hwx⟩ : ∃ q, dn[xn].1.width = q := ⟨_, rfl⟩
  obtain ⟨wy, hwy⟩ : ∃ q, dn[yn].1.width = q := ⟨_, rfl⟩
  rw [hwx] at ex HWX
  rw [hwy] at ey HWY
  clear hwx hwy hxn hyn
  have n0 : ¬ (xn : Int) < 0 := by omega
  have n1 : ¬ (yn : Int) < 0 := by omega
  have n2 : ¬ (s.nodes.length : Int) ≤ (xn : Int) := by omega
  have n3 : ¬ (s.nodes.length : Int) ≤ (yn : Int) := by omega
  have n4 : xn < s.nodes.length := by omega
  have n5 : yn < s.nodes.length := by omega
  have HC2 := hid (And.intro x0 (And.intro y0 (And.intro x1 y1)))
  clear x0 y0
  have lb := lt_of_cell ex
  go_wp2
  refine region_txt (Fr NoB _) (by kernel_rfl) (by kernel_rfl) ((Fr.refl NoB _).drew) ?_
  repeat (first | (refine txt_off (by rfl) ?_; (try simp only [Act.put, List.setIfInBounds_toArray, List.set_cons_zero, List.set_cons_succ])) | (refine txt_read ?_ (by rfl) ?_ ?_; rotate_left; (focus (intro W hW; have hWc := Fr.cq hW; clear hW; go_simp; (try with_reducible rfl); done)); (try simp only [Act.put, List.setIfInBounds_toArray, List.set_cons_zero, List.set_cons_succ])))
  refine txt_nil ?_
  intro W1 hW
  have A2 := hid (A1.out.quiet hW)
  clear hW ex ey lb k0 k1 kf kl g0 gl A1 HRD
  by_cases c3 : wx = wy
  rotate_left
  · have E1 : Hid (R = (s, false, 3)) := by
      show _ = _
      rw [hR.out]; unfold unionG
      rw [if_neg c1, if_neg (fun h => h HC2.out), HWX.out, HWY.out, if_pos c3]
    have c3b : (wx != wy) = true := by simpa using c3
    go_wp2
    go_ret2
    rw [E1.out]
    exact ⟨rfl, ⟨_, A2.out.done, A2.out.ext⟩, A2.out.fr⟩
  subst c3
  obtain ⟨k0, k1, k2, k3, k4, k5, k6, k7, k8, k9, k10, kf, kl⟩ := A2.out.g.cells
  clear k1 k2 k3 k4 k5 k6 k7 k8 k9 k10
  obtain ⟨sm, hsm⟩ : ∃ q, Hid (sameS2 s.uf.par xn yn = q) := ⟨_, hid rfl⟩
  go_wp2_with fail
  refine (ufsame_any xn yn A2.out.g.sets).mono ?_
  rintro e w' ⟨rfl, h9⟩
  subst h9
  rw [hsm.out]
  have HU : Hid (R = if sm = true then (s, false, 0) else ({ joinS s xn yn why with dirty := true }, true, 0)) := by
    show _ = _
    rw [hR.out]; unfold unionG
    rw [if_neg c1, if_neg (fun h => h HC2.out), HWX.out, HWY.out, if_neg (fun h => h rfl), hsm.out]
  cases sm with
  | true =>
    go_wp2
    go_ret2
    have e1 : R = (s, false, 0) := by rw [HU.out]; rfl
    rw [e1]
    exact ⟨rfl, ⟨_, A2.out.done, A2.out.ext⟩, A2.out.fr⟩
  | false =>
    clear k0 kf
    go_wp2_with fail
    refine (join_any A2.out.self xn yn why HB.out.1 HB.out.2.1 HB.out.2.2).mono ?_
    rintro e w3 ⟨rfl, c3, h3, b3⟩
    have A3 := hid (A2.out.comp b3)
    have A4 := hid (A3.out.setDirty true)
    clear b3 kl A2
    obtain ⟨k0, k1, k2, k3, k4, k5, k6, k7, k8, k9, k10, kf, kl⟩ := A3.out.g.cells
    clear k0 k1 k2 k3 k4 k5 k6 k7 k8 k10
    go_wp2
    go_ret2
    have e1 : R = ({ joinS s xn yn why with dirty := true }, true, 0) := by rw [HU.out]; rfl
    rw [e1]
    exact ⟨rfl, ⟨_, A4.out.done, A4.out.ext⟩, A4.out.fr⟩
end
end Go.Proofs.YtlekoceindepnaaGreatDoor
end
section
/- The walks of Sets.Len, collect, Members, Roots. -/
namespace Go.Proofs.YtlekoceindepnaaGreatDoor
open Go.RowKit
set_option maxRecDepth 100000

section
variable {N : Nat → Prop} {w : World} {bs : Nat} {u : Uf}
theorem uflen_any (h : SetsAt N w bs u) : Calls Tryz.prog 83 #[.pointer (some ⟨bs, 0, none⟩)] w fun e w' => e = .returned (.int .i64 u.par.length) ∧ w' = w := by
  have H := hid h
  obtain ⟨sP, sT, h1, h2, _⟩ := h.ex
  obtain ⟨pp, pc, hv⟩ := h2.form
  subst hv
  obtain ⟨c0, c1, c2, cf, cl⟩ := three_of h1
  clear h h1 h2
  go_enter Tryz.func83, Tryz.ntmps83
  go_wp2_with fail
  refine (ufvalid_any H.out).mono ?_
  rintro e w' ⟨rfl, h9⟩
  subst h9
  go_wp2
  go_ret
  exact ⟨rfl, rfl⟩
/-- The numbers below k for which φ holds. -/
def colS (φ : Int → Bool) (k : Nat) : List Int := ((List.range k).map (fun i : Nat => (i : Int))).filter φ
theorem colS_succ (φ : Int → Bool) (k : Nat) : colS φ (k + 1) = if φ (k : Int) = true then colS φ k ++ [(k : Int)] else colS φ k := by
  unfold colS
  rw [List.range_succ, List.map_append, List.filter_append]
  by_cases h : φ (k : Int) = true
  · rw [if_pos h]; simp [h]
  · rw [if_neg h]; simp [h]
theorem colS_le (φ : Int → Bool) (k : Nat) : (colS φ k).length ≤ k := by
  unfold colS
  refine Nat.le_trans (List.length_filter_le _ _) ?_
  simp
set_option maxHeartbeats 2000000 in
theorem collect_any (h : SetsAt N w bs u) (F : FuncId) (caps : Array Value) (φ : Int → Bool) (hen : ∀ (args : Array Value) (w : World), (callFunc F args).run Tryz.prog w = .ok (.enter F args) w)
    (hc : ∀ W, Fr NoB w W → ∀ x : Nat, x < u.par.length → Calls Tryz.prog F (#[.int .i64 x] ++ caps) W fun e w' => e = .returned (.bool (φ x)) ∧ Fr NoB W w') :
    Calls Tryz.prog 68 #[.pointer (some ⟨bs, 0, none⟩), .func (.func F) #[] caps] w fun e w' => ∃ p q, e = .returned (.slice p (colS φ u.par.length).length q) ∧ OwnI w.heap.size w' (.slice p (colS φ u.par.length).length q) (colS φ u.par.length) ∧ Fr NoB w w' := by
  have H := hid h
  have HC := hid hc
  have HLN := hid h.small.1
  clear h hc
  go_enter Tryz.func68, Tryz.ntmps68
  go_wp2_with fail
  refine (uflen_any H.out).mono ?_
  rintro e w' ⟨rfl, h9⟩
  subst h9
  go_wp2
  go_loopw [5, 9] (fun t j wr => ∃ k : Nat, k ≤ u.par.length ∧ j = .int .i64 k ∧ Fr NoB w' wr ∧ OwnI w'.heap.size wr t (colS φ k)) (fun _ j _ => u.par.length - (intOf j).toNat)
  case atStart => exact ⟨0, Nat.zero_le _, rfl, Fr.refl _ _, OwnI.nil _ _⟩
  case round =>
    obtain ⟨k, hk, rfl, hf, ho⟩ := hrel
    have F1 := hid hf
    have O1 := hid ho
    obtain ⟨tp, tc, hv⟩ := ho.form
    subst hv
    have hln := HLN.out
    clear hf ho
    by_cases hlt : k < u.par.length
    · have hlt' : (k : Int) < (u.par.length : Int) := by omega
      obtain ⟨b, hb⟩ : ∃ b, Hid (φ (k : Int) = b) := ⟨_, hid rfl⟩
      have HK := hid (HC.out wr F1.out k hlt)
      rw [hb.out] at HK
      obtain ⟨m, hm⟩ : ∃ m, (colS φ k).length = m := ⟨_, rfl⟩
      have HM : Hid (m ≤ u.par.length) := by show m ≤ _; rw [← hm]; exact Nat.le_trans (colS_le φ k) (by omega)
      rw [hm] at O1 ⊢
      clear hm
      go_wp2_with fail
      refine HK.out.mono ?_
      rintro e w2 ⟨rfl, hf2⟩
      have F2 := hid (F1.out.step hf2)
      have O2 := hid (O1.out.fr hf2 (fun _ _ h => h))
      clear hf2
      have hsz := F2.out.size
      cases b with
      | false =>
        go_wp2
        go_roundw
        case rel => exact ⟨k + 1, by omega, by go_num, F2.out, by rw [colS_succ, if_neg (by rw [hb.out]; decide)]; exact O2.out⟩
        case measure => simp [intOf]; omega
      | true =>
        go_wp2_with (at_builtin; go_loud (refine ap_ints_at _ rfl _ _ rfl w'.heap.size (.slice tp m tc) (colS φ k) rfl (OwnI.fr O2.out ((Fr.refl NoB w2).alloc _) (fun _ _ h => h)) NoB _ [(k : Int)] rfl (rdI_lit' (l := [(k : Int)]) rfl rfl rfl (fun h => h)) ?_ ?_ ?_; (have := colS_le φ k; simp only [List.length_singleton]; omega); (simp only [World.size_alloc]; omega); intro v6 w6 ho6 hg6 ha6; obtain ⟨p6, q6, hv6⟩ := ho6.form; obtain ⟨m6, hm6⟩ : ∃ m, (colS φ k ++ [(k : Int)]).length = m := ⟨_, rfl⟩; rw [hm6] at hv6; subst hv6; clear hm6; have F6 : Hid (Fr NoB w' w6) := Fr.grown (F2.out.alloc _) hg6 (fun j hj hj2 => by have := (World.ownsRow.lt O2.out j hj).1; omega); have O6 := hid ho6; clear ho6 hg6 ha6))
        go_roundw
        case rel => exact ⟨k + 1, by omega, by go_num, F6.out, by rw [colS_succ, if_pos hb.out]; exact O6.out⟩
        case measure => simp [intOf]; omega
    · obtain rfl : k = u.par.length := by omega
      go_wp2
      go_ret
      exact ⟨tp, tc, rfl, O1.out, F1.out⟩
theorem memfn_any (h : SetsAt N w bs u) (q2 q5 : Nat) (r x : Int) (h2 : w.heap[q2]? = some (.cells #[.pointer (some ⟨bs, 0, none⟩)] 59 (0, 0))) (h5 : w.heap[q5]? = some (.cells #[.int .i64 r] 3 (0, 0))) :
    Calls Tryz.prog 70 #[.int .i64 x, .pointer (some ⟨q2, 0, none⟩), .pointer (some ⟨q5, 0, none⟩)] w fun e w' => e = .returned (.bool (decide (findS u.par x = r))) ∧ Fr NoB w w' := by
  have c2 : w.cell? ⟨q2, 0, none⟩ = some (.pointer (some ⟨bs, 0, none⟩)) := by simp [World.cell?, h2]
  have c5 : w.cell? ⟨q5, 0, none⟩ = some (.int .i64 r) := by simp [World.cell?, h5]
  have l2 := lt_of_cell c2
  have l5 := lt_of_cell c5
  obtain ⟨f, hf⟩ : ∃ f, Hid (findS u.par x = f) := ⟨_, hid rfl⟩
  have CG : Hid (∀ W, Fr NoB w W → Calls Tryz.prog 31 #[.pointer (some ⟨bs, 0, none⟩), .int .i64 x] W fun e w' => e = .returned (.int .i64 f) ∧ Fr NoB w w') := fun W hW => by
    refine (uffind_any x (h.step hW)).mono ?_
    rintro e w' ⟨rfl, rfl⟩
    rw [hf.out]
    exact ⟨rfl, hW⟩
  clear h h2 h5
  rw [hf.out]
  by_cases e : f = r
  · have eb : (f == r) = true := by simp [e]
    have HE := hid e
    clear e
    go_enter Tryz.func70, Tryz.ntmps70
    go_wp2
    refine region_txt (Fr NoB _) (by kernel_rfl) (by kernel_rfl) ((Fr.refl NoB _).drew) ?_
    repeat (first | (refine txt_off (by rfl) ?_; (try simp only [Act.put, List.setIfInBounds_toArray, List.set_cons_zero, List.set_cons_succ])) | (refine txt_read ?_ (by rfl) ?_ ?_; rotate_left; (focus (intro W hW; have hWc := Fr.cq hW; clear hW; go_simp; (try with_reducible rfl); done)); (try simp only [Act.put, List.setIfInBounds_toArray, List.set_cons_zero, List.set_cons_succ])))
    (refine txt_call (.int .i64 f) ?_ ?_ (by rfl) ?_ ?_ ?_; rotate_left; rotate_left; (focus (intro W; go_simp; (first | done | (refine And.intro ?_ ?_ <;> with_reducible rfl) | with_reducible rfl); done)); (focus (exact (fun W hW => CG.out W hW))); (try simp only [Act.put, List.setIfInBounds_toArray, List.set_cons_zero, List.set_cons_succ]))
    repeat (first | (refine txt_off (by rfl) ?_; (try simp only [Act.put, List.setIfInBounds_toArray, List.set_cons_zero, List.set_cons_succ])) | (refine txt_read ?_ (by rfl) ?_ ?_; rotate_left; (focus (intro W hW; have hWc := Fr.cq hW; clear hW; go_simp; (try with_reducible rfl); done)); (try simp only [Act.put, List.setIfInBounds_toArray, List.set_cons_zero, List.set_cons_succ])))
    refine txt_nil ?_
    intro W hW
    have HW := hid hW
    clear hW
    go_wp2
    go_ret
    exact ⟨by rw [decide_eq_true HE.out]; rfl, HW.out⟩
  · have eb : (f == r) = false := by simpa using e
    have HE := hid e
    clear e
    go_enter Tryz.func70, Tryz.ntmps70
    go_wp2
    refine region_txt (Fr NoB _) (by kernel_rfl) (by kernel_rfl) ((Fr.refl NoB _).drew) ?_
    repeat (first | (refine txt_off (by rfl) ?_; (try simp only [Act.put, List.setIfInBounds_toArray, List.set_cons_zero, List.set_cons_succ])) | (refine txt_read ?_ (by rfl) ?_ ?_; rotate_left; (focus (intro W hW; have hWc := Fr.cq hW; clear hW; go_simp; (try with_reducible rfl); done)); (try simp only [Act.put, List.setIfInBounds_toArray, List.set_cons_zero, List.set_cons_succ])))
    (refine txt_call (.int .i64 f) ?_ ?_ (by rfl) ?_ ?_ ?_; rotate_left; rotate_left; (focus (intro W; go_simp; (first | done | (refine And.intro ?_ ?_ <;> with_reducible rfl) | with_reducible rfl); done)); (focus (exact (fun W hW => CG.out W hW))); (try simp only [Act.put, List.setIfInBounds_toArray, List.set_cons_zero, List.set_cons_succ]))
    repeat (first | (refine txt_off (by rfl) ?_; (try simp only [Act.put, List.setIfInBounds_toArray, List.set_cons_zero, List.set_cons_succ])) | (refine txt_read ?_ (by rfl) ?_ ?_; rotate_left; (focus (intro W hW; have hWc := Fr.cq hW; clear hW; go_simp; (try with_reducible rfl); done)); (try simp only [Act.put, List.setIfInBounds_toArray, List.set_cons_zero, List.set_cons_succ])))
    refine txt_nil ?_
    intro W hW
    have HW := hid hW
    clear hW
    go_wp2
    go_ret
    exact ⟨by rw [decide_eq_false HE.out]; rfl, HW.out⟩
def membersS (p : List Int) (x : Int) : List Int := if findS p x < 0 then [] else colS (fun y => decide (findS p y = findS p x)) p.length
theorem members_any (x : Int) (h : SetsAt N w bs u) :
    Calls Tryz.prog 42 #[.pointer (some ⟨bs, 0, none⟩), .int .i64 x] w fun e w' => ∃ p q, e = .returned (.slice p (membersS u.par x).length q) ∧ OwnI w.heap.size w' (.slice p (membersS u.par x).length q) (membersS u.par x) ∧ Fr NoB w w' := by
  obtain ⟨l, hl⟩ : ∃ l, Hid (membersS u.par x = l) := ⟨_, hid rfl⟩
  rw [hl.out]
  obtain ⟨r, hr⟩ : ∃ r, Hid (findS u.par x = r) := ⟨_, hid rfl⟩
  have F1 : Fr NoB w (w.alloc (.cells #[.pointer (some ⟨bs, 0, none⟩)] 59)) := (Fr.refl NoB w).alloc _
  have F2 : Fr NoB w ((w.alloc (.cells #[.pointer (some ⟨bs, 0, none⟩)] 59)).alloc (.cells #[.int .i64 r] 3)) := F1.alloc _
  have H := hid h
  have H1 := hid (h.step F1)
  have H2 := hid (h.step F2)
  have B1 : Hid (((w.alloc (.cells #[.pointer (some ⟨bs, 0, none⟩)] 59)).alloc (.cells #[.int .i64 r] 3)).heap[w.heap.size]? = some (.cells #[.pointer (some ⟨bs, 0, none⟩)] 59 (0, 0))) := at_old (at_new w _) _
  have B2 : Hid (((w.alloc (.cells #[.pointer (some ⟨bs, 0, none⟩)] 59)).alloc (.cells #[.int .i64 r] 3)).heap[w.heap.size + 1]? = some (.cells #[.int .i64 r] 3 (0, 0))) := at_new' (by simp)
  have FF2 := hid F2
  clear h F1 F2
  go_enter Tryz.func42, Tryz.ntmps42
  go_wp2_with fail
  refine (uffind_any x H1.out).mono ?_
  rintro e w' ⟨rfl, h9⟩
  subst h9
  rw [hr.out]
  by_cases hn : r < 0
  · have e1 : l = [] := by rw [← hl.out]; unfold membersS; rw [hr.out, if_pos hn]
    go_wp2
    go_ret
    subst e1
    exact ⟨none, 0, rfl, OwnI.nil _ _, FF2.out⟩
  · have HL : Hid (l = colS (fun y => decide (findS u.par y = r)) u.par.length) := by show _ = _; rw [← hl.out]; unfold membersS; rw [hr.out, if_neg hn]
    go_wp2_with fail
    refine (collect_any H2.out 70 #[.pointer (some ⟨w.heap.size, 0, none⟩), .pointer (some ⟨w.heap.size + 1, 0, none⟩)] (fun y => decide (findS u.par y = r)) (enters_of Tryz.func70 (by kernel_rfl) rfl) (fun W hW y hy => ?_)).mono ?_
    · refine (memfn_any (H2.out.step hW) w.heap.size (w.heap.size + 1) r y (hW.at (fun h => h) B1.out) (hW.at (fun h => h) B2.out)).mono ?_
      rintro e w' ⟨rfl, hf⟩
      exact ⟨rfl, hf⟩
    rw [← HL.out]
    rintro e w3 ⟨p, q, rfl, ho, hf⟩
    have HO := hid (OwnI.base ho (show w.heap.size ≤ _ by simp only [World.size_alloc]; omega))
    have HF := hid (FF2.out.step hf)
    clear ho hf
    go_wp2
    go_ret
    exact ⟨p, q, rfl, HO.out, HF.out⟩
theorem rootfn_any (h : SetsAt N w bs u) (q1 : Nat) (x : Nat) (hx : x < u.par.length) (h1 : w.heap[q1]? = some (.cells #[.pointer (some ⟨bs, 0, none⟩)] 59 (0, 0))) :
    Calls Tryz.prog 69 #[.int .i64 x, .pointer (some ⟨q1, 0, none⟩)] w fun e w' => e = .returned (.bool (decide (u.par.getD x 0 = (x : Int)))) ∧ Fr NoB w w' := by
  have c2 : w.cell? ⟨q1, 0, none⟩ = some (.pointer (some ⟨bs, 0, none⟩)) := by simp [World.cell?, h1]
  obtain ⟨sP, sT, hh, ho, _⟩ := h.ex
  rcases ho.form' with ⟨_, h9⟩ | ⟨g, cap, h3, _⟩
  · rw [h9] at hx; simp at hx
  subst h3
  obtain ⟨c0, c1, _, _, _⟩ := three_of hh
  have cz := ho.cell hx
  obtain ⟨z, hz⟩ : ∃ z, u.par.getD x 0 = z := ⟨_, rfl⟩
  rw [hz] at cz ⊢
  clear hz h h1 hh ho c0
  by_cases e : z = x
  · have eb : (z == (x : Int)) = true := by simp [e]
    have HE := hid e
    clear e
    go_enter Tryz.func69, Tryz.ntmps69
    go_wp2
    go_ret
    exact ⟨by rw [decide_eq_true HE.out]; rfl, Fr.refl _ _⟩
  · have eb : (z == (x : Int)) = false := by simpa using e
    have HE := hid e
    clear e
    go_enter Tryz.func69, Tryz.ntmps69
    go_wp2
    go_ret
    exact ⟨by rw [decide_eq_false HE.out]; rfl, Fr.refl _ _⟩
def rootsS (p : List Int) : List Int := colS (fun y => decide (p.getD y.toNat 0 = y)) p.length
theorem roots_any (h : SetsAt N w bs u) :
    Calls Tryz.prog 40 #[.pointer (some ⟨bs, 0, none⟩)] w fun e w' => ∃ p q, e = .returned (.slice p (rootsS u.par).length q) ∧ OwnI w.heap.size w' (.slice p (rootsS u.par).length q) (rootsS u.par) ∧ Fr NoB w w' := by
  obtain ⟨l, hl⟩ : ∃ l, Hid (rootsS u.par = l) := ⟨_, hid rfl⟩
  rw [hl.out]
  have F1 : Fr NoB w (w.alloc (.cells #[.pointer (some ⟨bs, 0, none⟩)] 59)) := (Fr.refl NoB w).alloc _
  have H1 := hid (h.step F1)
  have B1 := hid (at_new w (.cells #[.pointer (some ⟨bs, 0, none⟩)] 59))
  have FF1 := hid F1
  clear h F1
  go_enter Tryz.func40, Tryz.ntmps40
  go_wp2_with fail
  refine (collect_any H1.out 69 #[.pointer (some ⟨w.heap.size, 0, none⟩)] (fun y => decide (u.par.getD y.toNat 0 = y)) (enters_of Tryz.func69 (by kernel_rfl) rfl) (fun W hW y hy => ?_)).mono ?_
  · refine (rootfn_any (H1.out.step hW) w.heap.size y hy (hW.at (fun h => h) B1.out)).mono ?_
    rintro e w' ⟨rfl, hf⟩
    exact ⟨rfl, hf⟩
  rw [show colS (fun y => decide (u.par.getD y.toNat 0 = y)) u.par.length = l from hl.out]
  rintro e w3 ⟨p, q, rfl, ho, hf⟩
  have HO := hid (OwnI.base ho (show w.heap.size ≤ _ by simp only [World.size_alloc]; omega))
  have HF := hid (FF1.out.step hf)
  clear ho hf
  go_wp2
  go_ret
  exact ⟨p, q, rfl, HO.out, HF.out⟩
end
end Go.Proofs.YtlekoceindepnaaGreatDoor
end
section
/- Drawn regions with two stores behind all reads: an order in two parts; the first ends with the operation brk, behind which nothing is read. -/
namespace Go.Proofs.YtlekoceindepnaaGreatDoor
open Go.RowKit
set_option maxRecDepth 100000

section
variable {P : Program} {ops : Array Oper} {S : World → Prop} {Q : Exit → Act → World → Prop} {md : Region.Mode} {brk : Nat}
def effBt (md : Region.Mode) (ops : Array Oper) (brk : Nat) : List (Nat × Nat) → Array Bool → Bool
  | [], listed => Region.ready md ops listed == []
  | (_, 0) :: _, _ => false
  | (i, 1) :: s, listed => Region.free md ops listed i && (Region.ready md ops listed).contains i && (i != brk) && effBt md ops brk s (listed.setIfInBounds i true)
  | (i, _ + 2) :: s, listed => (Region.ready md ops listed == [i]) && (decide (i < listed.size)) && (i != brk) && effBt md ops brk s (listed.setIfInBounds i true)
def effBh (md : Region.Mode) (ops : Array Oper) (brk : Nat) (s2 : List (Nat × Nat)) : List (Nat × Nat) → Array Bool → Bool
  | [], listed => listed.getD brk false && effBt md ops brk s2 listed
  | (i, 0) :: s, listed => Region.free md ops listed i && (Region.ready md ops listed).contains i && (i != brk) && !listed.getD brk false && anch md ops brk i && effBh md ops brk s2 s (listed.setIfInBounds i true)
  | (i, 1) :: s, listed => Region.free md ops listed i && (Region.ready md ops listed).contains i && (i != brk) && effBh md ops brk s2 s (listed.setIfInBounds i true)
  | (i, _ + 2) :: s, listed => (Region.ready md ops listed == [i]) && (decide (i < listed.size)) && (!listed.getD brk false) && effBh md ops brk s2 s (listed.setIfInBounds i true)
theorem effT_any {R : Act → World → Prop} {brk' : Nat} (hs : Region.noSelect ops = true) (hR : ∀ a w, R a w → Q .normal a w) (hQ : ∀ c a w, ¬ Q (.panic c) a w) :
    ∀ (s : List (Nat × Nat)) (listed : Array Bool) (a : Act) (w : World), effBt md ops brk s listed = true → listed.getD brk false = true → effL P ops AnyW brk' R s a w → wpAnyT P md ops Q S brk s.length listed a w
  | [], listed, a, w, hB, _, h => ⟨by simpa [effBt] using hB, hR _ _ h⟩
  | (i, 0) :: s, listed, a, w, hB, _, h => by simp [effBt] at hB
  | (i, 1) :: s, listed, a, w, hB, hT, h => by
    simp only [effBt, Bool.and_eq_true, bne_iff_ne, ne_eq] at hB
    obtain ⟨⟨⟨h1, h2⟩, h3⟩, h6⟩ := hB
    obtain ⟨o, v, hi, hy, hk⟩ := h
    exact wpAnyT_first (S' := AnyW) hi (Region.noSelect_spec hs) (fun c a w h => absurd h (hQ c _ _)) h3 (.inl (fun _ => trivial)) s.length listed a w (Region.free_spec hi h1) (by simpa using h2) hy (.inl hT) (.inl (fun _ => trivial))
      (effT_any hs hR hQ s _ _ _ h6 (by rw [getD_set_ne' h3]; exact hT) hk)
  | (i, n + 2) :: s, listed, a, w, hB, hT, h => by
    simp only [effBt, Bool.and_eq_true, beq_iff_eq, decide_eq_true_eq, bne_iff_ne, ne_eq] at hB
    obtain ⟨⟨⟨h1, h2⟩, h3⟩, h6⟩ := hB
    obtain ⟨o, hi, hk⟩ := h
    refine ⟨fun h0 => (by rw [h1] at h0; cases h0), fun j hj => ?_⟩
    rw [h1] at hj
    obtain rfl : j = i := by simpa using hj
    refine wpOp_mono (fun a' w' hh => ?_) (effL_one hi hk)
    have hT' : (listed.setIfInBounds j true).getD brk false = true := by rw [getD_set_ne' h3]; exact hT
    exact ⟨.inl hT', effT_any hs hR hQ s _ _ _ h6 hT' hh.2⟩
theorem effH_any {R : Act → World → Prop} {brk' : Nat} (hs : Region.noSelect ops = true) (hR : ∀ a w, R a w → Q .normal a w) (hQ : ∀ c a w, ¬ Q (.panic c) a w) (s2 : List (Nat × Nat)) :
    ∀ (s : List (Nat × Nat)) (listed : Array Bool) (a : Act) (w : World), effBh md ops brk s2 s listed = true → TT S brk listed w → effL P ops S brk (fun a' w' => effL P ops AnyW brk' R s2 a' w') s a w → wpAnyT P md ops Q S brk (s.length + s2.length) listed a w
  | [], listed, a, w, hB, _, h => by
    simp only [effBh, Bool.and_eq_true] at hB
    simpa using effT_any hs hR hQ s2 listed a w hB.2 hB.1 h
  | (i, 0) :: s, listed, a, w, hB, hT, h => by
    rw [show (((i, 0) :: s).length + s2.length) = (s.length + s2.length) + 1 by simp only [List.length_cons]; omega]
    simp only [effBh, Bool.and_eq_true, bne_iff_ne, ne_eq, Bool.not_eq_true'] at hB
    obtain ⟨⟨⟨⟨⟨h1, h2⟩, h3⟩, h4⟩, h5⟩, h6⟩ := hB
    obtain ⟨o, v, hi, hy, hk⟩ := h
    cases hb : ops[brk]? with
    | none =>
      have hn : ∀ listed : Array Bool, listed.getD i true = false → brk ∉ Region.ready md ops listed := fun listed _ hr => by
        obtain ⟨_, o, ho, _⟩ := mem_ready.1 hr
        rw [hb] at ho; cases ho
      exact wpAnyT_first (S' := S) hi (Region.noSelect_spec hs) (fun c a w h => absurd h (hQ c _ _)) h3 (.inr ⟨hn, fun w h => h⟩) (s.length + s2.length) listed a w (Region.free_spec hi h1) (by simpa using h2) hy hT (.inr h4)
        (effH_any hs hR hQ s2 s _ _ _ h6 (by unfold TT; rw [getD_set_ne' h3]; exact hT) hk)
    | some ob =>
      exact wpAnyT_first (S' := S) hi (Region.noSelect_spec hs) (fun c a w h => absurd h (hQ c _ _)) h3 (.inr ⟨anch_spec hb h5, fun w h => h⟩) (s.length + s2.length) listed a w (Region.free_spec hi h1) (by simpa using h2) hy hT (.inr h4)
        (effH_any hs hR hQ s2 s _ _ _ h6 (by unfold TT; rw [getD_set_ne' h3]; exact hT) hk)
  | (i, 1) :: s, listed, a, w, hB, hT, h => by
    rw [show (((i, 1) :: s).length + s2.length) = (s.length + s2.length) + 1 by simp only [List.length_cons]; omega]
    simp only [effBh, Bool.and_eq_true, bne_iff_ne, ne_eq] at hB
    obtain ⟨⟨⟨h1, h2⟩, h3⟩, h6⟩ := hB
    obtain ⟨o, v, hi, hy, hk⟩ := h
    exact wpAnyT_first (S' := AnyW) hi (Region.noSelect_spec hs) (fun c a w h => absurd h (hQ c _ _)) h3 (.inl (fun _ => trivial)) (s.length + s2.length) listed a w (Region.free_spec hi h1) (by simpa using h2) hy hT (.inl (fun _ => trivial))
      (effH_any hs hR hQ s2 s _ _ _ h6 (by unfold TT; rw [getD_set_ne' h3]; exact hT) hk)
  | (i, n + 2) :: s, listed, a, w, hB, hT, h => by
    rw [show (((i, n + 2) :: s).length + s2.length) = (s.length + s2.length) + 1 by simp only [List.length_cons]; omega]
    simp only [effBh, Bool.and_eq_true, beq_iff_eq, decide_eq_true_eq, Bool.not_eq_true'] at hB
    obtain ⟨⟨⟨h1, h2⟩, h4⟩, h6⟩ := hB
    obtain ⟨o, hi, hk⟩ := h
    refine ⟨fun h0 => (by rw [h1] at h0; cases h0), fun j hj => ?_⟩
    rw [h1] at hj
    obtain rfl : j = i := by simpa using hj
    refine wpOp_mono (fun a' w' hh => ?_) (effL_one hi hk)
    have hT' : TT S brk (listed.setIfInBounds j true) w' := by
      by_cases e : j = brk
      · subst e; exact .inl (by simp [h2])
      · exact .inr (hh.1 e)
    exact ⟨hT', effH_any hs hR hQ s2 s _ _ _ h6 hT' hh.2⟩
/-- The region, by the order s1 ++ s2; brk ends s1. -/
theorem region_effH (S : World → Prop) (brk : Nat) (s1 s2 : List (Nat × Nat)) {id : Nat} {a : Act} {w : World} {l : List Oper} (hm : P.follows .mixedOrders = true)
    (hB : (Region.noSelect l.toArray && (s1.length + s2.length == l.length) && effBh .any l.toArray brk s2 s1 (Array.replicate l.length false)) = true) (hS : S w.drew) (h : effL P l.toArray S brk (fun a' W' => effL P l.toArray AnyW l.length (fun a' W' => Q .normal a' W') s2 a' W') s1 a w.drew) : (Code.region id l.toArray true).wp P Q a w := by
  simp only [Bool.and_eq_true, beq_iff_eq] at hB
  obtain ⟨⟨h1, h2⟩, h3⟩ := hB
  refine wp_mono (Q := fun x a w => x = .normal ∧ Q .normal a w) (wp_region_any hm (wpAny_of_T (S := S) (brk := brk) _ _ _ _ ?_)) (fun e a w hh => by obtain ⟨rfl, hh⟩ := hh; exact hh)
  have := effH_any (md := .any) (Q := fun x a w => x = .normal ∧ Q .normal a w) h1 (fun a w hh => ⟨rfl, hh⟩) (fun c a w hh => by simp at hh) s2 s1 _ a w.drew h3 (.inr hS) h
  rw [h2] at this
  simpa using this
end
end Go.Proofs.YtlekoceindepnaaGreatDoor
end
section
/- The walk of egraph's sorted. -/
namespace Go.Proofs.YtlekoceindepnaaGreatDoor
open Go.RowKit
set_option maxRecDepth 100000

def swapS (l : List Int) (k : Nat) : List Int := (l.set (k + 1) (l.getD k 0)).set k (l.getD (k + 1) 0)
def sinkF (l : List Int) : Nat → List Int
  | 0 => l
  | k + 1 => if l.getD (k + 1) 0 < l.getD k 0 then sinkF (swapS l k) k else l
def sortTo (l : List Int) (i : Nat) : List Int := (List.range i).foldl (fun l i => sinkF l i) l
def sortS (l : List Int) : List Int := sortTo l l.length
theorem sortTo_succ (l : List Int) (i : Nat) : sortTo l (i + 1) = sinkF (sortTo l i) i := by
  unfold sortTo
  rw [List.range_succ, List.foldl_append]; rfl
theorem swapS_len (l : List Int) (k : Nat) : (swapS l k).length = l.length := by simp [swapS]
theorem sinkF_len : ∀ (k : Nat) (l : List Int), (sinkF l k).length = l.length
  | 0, l => rfl
  | k + 1, l => by
    unfold sinkF
    split
    · rw [sinkF_len k, swapS_len]
    · rfl
theorem sortTo_len (l : List Int) (i : Nat) : (sortTo l i).length = l.length := by
  induction i with
  | zero => rfl
  | succ i ih => rw [sortTo_succ, sinkF_len, ih]
set_option maxHeartbeats 4000000 in
theorem sorted_any {B : Nat} {w : World} {v : Value} {l : List Int} (ho : OwnI B w v l) (hl : l.length ≤ 1000000000000000) :
    Calls Tryz.prog 65 #[v] w fun e w' => e = .returned v ∧ OwnI B w' v (sortS l) ∧ Fr (fun b => v.ownBlock = some b) w w' := by
  obtain ⟨p, q, hv⟩ := ho.form
  subst hv
  have HO := hid ho
  have HL := hid hl
  clear ho
  go_enter Tryz.func65, Tryz.ntmps65
  go_wp2
  go_loopw [7] (fun i wr => ∃ (k : Nat), k ≤ l.length ∧ i = .int .i64 k ∧ Hid (OwnI B wr (.slice p l.length q) (sortTo l k)) ∧ Hid (Fr (fun b => (Value.slice p l.length q).ownBlock = some b) w wr)) (fun i _ => l.length - (intOf i).toNat)
  case atStart => exact ⟨0, Nat.zero_le _, rfl, HO, Fr.refl _ _⟩
  case round =>
    obtain ⟨k, hk, rfl, OK, FK⟩ := hrel
    by_cases hlt : k < l.length
    · have hlt' : (k : Int) < (l.length : Int) := by omega
      go_wp2
      obtain ⟨T, hT⟩ : ∃ T, Hid (sinkF (sortTo l k) k = T) := ⟨_, hid rfl⟩
      go_loopw [4] (fun i wr2 => ∃ (j : Nat) (m : List Int), j ≤ k ∧ i = .int .i64 j ∧ Hid (m.length = l.length) ∧ Hid (sinkF m j = T) ∧ Hid (OwnI B wr2 (.slice p l.length q) m) ∧ Hid (Fr (fun b => (Value.slice p l.length q).ownBlock = some b) w wr2)) (fun i _ => (intOf i).toNat)
      case atStart => exact ⟨k, sortTo l k, Nat.le_refl _, rfl, sortTo_len l k, hT, OK, FK⟩
      case round =>
        obtain ⟨j, m, hj, rfl, HM, HS, OM, FM⟩ := hrel
        cases j with
        | zero =>
          go_wp2
          refine region_txt (Fr NoB _) (by kernel_rfl) (by kernel_rfl) ((Fr.refl NoB _).drew) ?_
          repeat (first | (refine txt_off (by rfl) ?_; (try simp only [Act.put, List.setIfInBounds_toArray, List.set_cons_zero, List.set_cons_succ])) | (refine txt_read ?_ (by rfl) ?_ ?_; rotate_left; (focus (intro W hW; have hWc := Fr.cq hW; clear hW; go_simp; (try with_reducible rfl); done)); (try simp only [Act.put, List.setIfInBounds_toArray, List.set_cons_zero, List.set_cons_succ])))
          refine txt_nil ?_
          intro W hW
          have O9 := hid (OM.out.fr hW (fun _ _ h => h))
          have F9 := hid (FM.out.step hW)
          clear hW
          go_wp2
          go_roundw
          case rel => exact ⟨k + 1, by omega, by go_num, by rw [sortTo_succ, hT.out, ← HS.out]; exact O9, F9⟩
          case measure => simp [intOf]; omega
        | succ j =>
          obtain ⟨g, hp⟩ : ∃ g, p = some ⟨g, 0, none⟩ := by
            rcases OM.out.form' with ⟨_, h2⟩ | ⟨g, cap, h3, _⟩
            · have := HM.out; rw [h2] at this; simp at this; omega
            · simp only [Value.slice.injEq] at h3; exact ⟨g, h3.1⟩
          subst hp
          have hml := HM.out
          have ca := OM.out.cell (i := j + 1) (by omega)
          have cb := OM.out.cell (i := j) (by omega)
          obtain ⟨xa, hxa⟩ : ∃ x, m.getD (j + 1) 0 = x := ⟨_, rfl⟩
          obtain ⟨xb, hxb⟩ : ∃ x, m.getD j 0 = x := ⟨_, rfl⟩
          rw [hxa] at ca
          rw [hxb] at cb
          have HXA := hid hxa
          have HXB := hid hxb
          clear hml hxa hxb
          have hw1 : IntKind.i64.wrap ((j : Int) + 1 - 1) = (j : Int) := by rw [IntKind.wrap_i64]; omega
          have hj1 : (j : Int) + 1 < (l.length : Int) := by omega
          have hj2 : j + 1 < l.length := by omega
          have hj3 : j < l.length := by omega
          have lb := lt_of_cell ca
          have hw2 : IntKind.i64.wrap (j : Int) = (j : Int) := by rw [IntKind.wrap_i64]; omega
          have hj4 : (j : Int) < (l.length : Int) := by omega
          have hj5 : (0 : Int) < (j : Int) + 1 := by omega
          have hj6 : ((j : Int) + 1).toNat = j + 1 := by omega
          have hj7 : (0 : Int) ≤ (j : Int) + 1 := by omega
          have hj8 : ¬ (j : Int) + 1 < 0 := by omega
          have HLT : Hid (m.length = l.length) := HM
          by_cases hlt2 : xa < xb
          · have hd : decide (xa < xb) = true := decide_eq_true hlt2
            have HD := hid hlt2
            go_wp2
            refine region_txt (Fr NoB _) (by kernel_rfl) (by kernel_rfl) ((Fr.refl NoB _).drew) ?_
            repeat (first | (refine txt_off (by rfl) ?_; (try simp only [Act.put, List.setIfInBounds_toArray, List.set_cons_zero, List.set_cons_succ])) | (refine txt_read ?_ (by rfl) ?_ ?_; rotate_left; (focus (intro W hW; have hWc := Fr.cq hW; clear hW; go_simp; (try with_reducible rfl); done)); (try simp only [Act.put, List.setIfInBounds_toArray, List.set_cons_zero, List.set_cons_succ])))
            refine txt_nil ?_
            intro W hW
            have O9 := hid (OM.out.fr hW (fun _ _ h => h))
            have F9 := hid (FM.out.step hW)
            clear hW ca cb lb hd
            have ca := O9.out.cell (i := j + 1) (by have := HM.out; omega)
            have cb := O9.out.cell (i := j) (by have := HM.out; omega)
            rw [HXA.out] at ca
            rw [HXB.out] at cb
            have cz := O9.out.frozen
            have lb := lt_of_cell ca
            have O10 := hid ((O9.out.drew.stored (j + 1) xb).stored j xa)
            have e1 : (W.drew.setCell ⟨g, j + 1, none⟩ (.int .i64 xb)).cell? ⟨g, j, none⟩ = some (.int .i64 xb) := by
              have h9 := (O9.out.drew.stored (j + 1) xb).cell (i := j) (by rw [List.length_set]; have := HM.out; omega)
              rw [h9, getD_set (by have := HM.out; omega), if_neg (by omega), HXB.out]
            have ez := (O9.out.drew.stored (j + 1) xb).frozen
            have F10 : Hid (Fr (fun b => (Value.slice (some ⟨g, 0, none⟩) l.length q).ownBlock = some b) w ((W.drew.setCell ⟨g, j + 1, none⟩ (.int .i64 xb)).setCell ⟨g, j, none⟩ (.int .i64 xa))) := (F9.out.drew.setCell (p := ⟨g, j + 1, none⟩) (fun _ => rfl) _).setCell (p := ⟨g, j, none⟩) (fun _ => rfl) _
            go_wp2
            refine region_effH (fun w' => w'.cell? ⟨g, j, none⟩ = some (.int .i64 xb) ∧ w'.cell? ⟨g, j + 1, none⟩ = some (.int .i64 xa)) 15 [(0, 1), (1, 1), (2, 1), (3, 1), (4, 1), (5, 1), (6, 1), (7, 1), (8, 1), (9, 0), (10, 1), (11, 1), (12, 1), (13, 0), (14, 1), (15, 2)] [(16, 1), (17, 2)] (by kernel_rfl) (by kernel_rfl) ?_ ?_
            · exact ⟨cb, ca⟩
            repeat (first | (refine eff_off (by rfl) (by rfl) ?_; (try simp only [Act.put, List.setIfInBounds_toArray, List.set_cons_zero, List.set_cons_succ])) | (refine eff_off0 (by rfl) (by rfl) ?_; (try simp only [Act.put, List.setIfInBounds_toArray, List.set_cons_zero, List.set_cons_succ])) | (refine eff_pu ?_ (by rfl) (by rfl) ?_ ?_; rotate_left; (focus (intro w'; go_simp; (try with_reducible rfl); done)); (try simp only [Act.put, List.setIfInBounds_toArray, List.set_cons_zero, List.set_cons_succ])) | (refine eff_rd ?_ (by rfl) (by rfl) ?_ ?_; rotate_left; (focus (intro w' hS; (try obtain ⟨hq1, hS⟩ := hS); (try obtain ⟨hq2, hS⟩ := hS); (try obtain ⟨hq3, hS⟩ := hS); (try obtain ⟨hq4, hS⟩ := hS); (try obtain ⟨hq5, hS⟩ := hS); (try obtain ⟨hq6, hS⟩ := hS); (try obtain ⟨hq7, hS⟩ := hS); (try obtain ⟨hq8, hS⟩ := hS); (try obtain ⟨hq9, hS⟩ := hS); (try obtain ⟨hq10, hS⟩ := hS); (try obtain ⟨hq11, hS⟩ := hS); (try obtain ⟨hq12, hS⟩ := hS); (try obtain ⟨hq13, hS⟩ := hS); (try obtain ⟨hq14, hS⟩ := hS); (try obtain ⟨hq15, hS⟩ := hS); (try obtain ⟨hq16, hS⟩ := hS); (try obtain ⟨hq17, hS⟩ := hS); (try obtain ⟨hq18, hS⟩ := hS); (try obtain ⟨hq19, hS⟩ := hS); (try dsimp only at hS); go_simp; (try with_reducible rfl); done)); (try simp only [Act.put, List.setIfInBounds_toArray, List.set_cons_zero, List.set_cons_succ])))
            refine eff_skip (W' := W.drew.setCell ⟨g, j + 1, none⟩ (.int .i64 xb)) (by rfl) (by rfl) (by go_simp) (fun h => absurd rfl h) ?_
            (try simp only [Act.put, List.setIfInBounds_toArray, List.set_cons_zero, List.set_cons_succ])
            refine eff_nil ?_
            repeat (first | (refine eff_off (by rfl) (by rfl) ?_; (try simp only [Act.put, List.setIfInBounds_toArray, List.set_cons_zero, List.set_cons_succ])) | (refine eff_off0 (by rfl) (by rfl) ?_; (try simp only [Act.put, List.setIfInBounds_toArray, List.set_cons_zero, List.set_cons_succ])) | (refine eff_pu ?_ (by rfl) (by rfl) ?_ ?_; rotate_left; (focus (intro w'; go_simp; (try with_reducible rfl); done)); (try simp only [Act.put, List.setIfInBounds_toArray, List.set_cons_zero, List.set_cons_succ])) | (refine eff_rd ?_ (by rfl) (by rfl) ?_ ?_; rotate_left; (focus (intro w' hS; (try obtain ⟨hq1, hS⟩ := hS); (try obtain ⟨hq2, hS⟩ := hS); (try obtain ⟨hq3, hS⟩ := hS); (try obtain ⟨hq4, hS⟩ := hS); (try obtain ⟨hq5, hS⟩ := hS); (try obtain ⟨hq6, hS⟩ := hS); (try obtain ⟨hq7, hS⟩ := hS); (try obtain ⟨hq8, hS⟩ := hS); (try obtain ⟨hq9, hS⟩ := hS); (try obtain ⟨hq10, hS⟩ := hS); (try obtain ⟨hq11, hS⟩ := hS); (try obtain ⟨hq12, hS⟩ := hS); (try obtain ⟨hq13, hS⟩ := hS); (try obtain ⟨hq14, hS⟩ := hS); (try obtain ⟨hq15, hS⟩ := hS); (try obtain ⟨hq16, hS⟩ := hS); (try obtain ⟨hq17, hS⟩ := hS); (try obtain ⟨hq18, hS⟩ := hS); (try obtain ⟨hq19, hS⟩ := hS); (try dsimp only at hS); go_simp; (try with_reducible rfl); done)); (try simp only [Act.put, List.setIfInBounds_toArray, List.set_cons_zero, List.set_cons_succ])))
            refine eff_skip (W' := (W.drew.setCell ⟨g, j + 1, none⟩ (.int .i64 xb)).setCell ⟨g, j, none⟩ (.int .i64 xa)) (by rfl) (by rfl) (by go_simp) (fun _ => trivial) ?_
            (try simp only [Act.put, List.setIfInBounds_toArray, List.set_cons_zero, List.set_cons_succ])
            refine eff_nil ?_
            clear e1 ez lb ca cb cz
            have HSW : Hid (swapS m j = (m.set (j + 1) xb).set j xa) := by show _ = _; unfold swapS; rw [HXA.out, HXB.out]
            go_wp2
            go_roundw
            case rel => exact ⟨j, swapS m j, by omega, by go_num, by show _ = _; rw [swapS_len]; exact HM.out, by show _ = _; rw [← HS.out, sinkF, if_pos (by rw [HXA.out, HXB.out]; exact HD.out)], by rw [HSW.out]; exact O10, F10⟩
            case measure => simp [intOf] <;> omega
          · have hd : decide (xa < xb) = false := decide_eq_false hlt2
            have HD := hid hlt2
            go_wp2
            refine region_txt (Fr NoB _) (by kernel_rfl) (by kernel_rfl) ((Fr.refl NoB _).drew) ?_
            repeat (first | (refine txt_off (by rfl) ?_; (try simp only [Act.put, List.setIfInBounds_toArray, List.set_cons_zero, List.set_cons_succ])) | (refine txt_read ?_ (by rfl) ?_ ?_; rotate_left; (focus (intro W hW; have hWc := Fr.cq hW; clear hW; go_simp; (try with_reducible rfl); done)); (try simp only [Act.put, List.setIfInBounds_toArray, List.set_cons_zero, List.set_cons_succ])))
            refine txt_nil ?_
            intro W hW
            have O9 := hid (OM.out.fr hW (fun _ _ h => h))
            have F9 := hid (FM.out.step hW)
            clear hW ca cb lb
            go_wp2
            go_roundw
            case rel => exact ⟨k + 1, by omega, by go_num, by
              rw [sortTo_succ, hT.out, ← HS.out, sinkF, if_neg (by rw [HXA.out, HXB.out]; have := HD.out; omega)]; exact O9, F9⟩
            case measure => simp [intOf]; omega
    · obtain rfl : k = l.length := by omega
      go_wp2
      go_ret
      exact ⟨rfl, OK.out, FK.out⟩
end Go.Proofs.YtlekoceindepnaaGreatDoor
end
section
/- The walk of egraph's parents. -/
namespace Go.Proofs.YtlekoceindepnaaGreatDoor
open Go.RowKit
set_option maxRecDepth 100000

def parIn (out : List Int) (row : List Int) : List Int := row.foldl (fun out p => if p ∈ out then out else out ++ [p]) out
def parOut (us : List (List Int)) (ms : List Int) : List Int := ms.foldl (fun out m => parIn out (us.getD m.toNat [])) []
def parentsS (s : GS) (id : Int) : List Int := sortS (parOut s.users (membersS s.uf.par id))
theorem parIn_snoc (out : List Int) {row : List Int} {k : Nat} (h : k < row.length) : parIn out (row.take (k + 1)) = if row.getD k 0 ∈ parIn out (row.take k) then parIn out (row.take k) else parIn out (row.take k) ++ [row.getD k 0] := by
  unfold parIn
  rw [List.take_add_one, List.getElem?_eq_getElem h, List.foldl_append, List.getD_eq_getElem?_getD, List.getElem?_eq_getElem h]
  rfl
theorem parOut_snoc (us : List (List Int)) {ms : List Int} {k : Nat} (h : k < ms.length) : parOut us (ms.take (k + 1)) = parIn (parOut us (ms.take k)) (us.getD (ms.getD k 0).toNat []) := by
  have e : ms.getD k 0 = ms[k] := by rw [List.getD_eq_getElem?_getD, List.getElem?_eq_getElem h]; rfl
  rw [e]
  unfold parOut
  rw [List.take_add_one, List.getElem?_eq_getElem h, List.foldl_append]
  rfl
theorem parIn_le : ∀ (row out : List Int), (parIn out row).length ≤ out.length + row.length
  | [], out => Nat.le_refl _
  | x :: row, out => by
    have h1 := parIn_le row (if x ∈ out then out else out ++ [x])
    have h2 : (if x ∈ out then out else out ++ [x]).length ≤ out.length + 1 := by
      split
      · omega
      · rw [List.length_append, List.length_singleton]; omega
    show (parIn (if x ∈ out then out else out ++ [x]) row).length ≤ _
    rw [List.length_cons]; omega
theorem parOut_le {us : List (List Int)} {B : Nat} (hB : ∀ l ∈ us, l.length ≤ B) : ∀ (ms : List Int) (out : List Int), (ms.foldl (fun out m => parIn out (us.getD m.toNat [])) out).length ≤ out.length + ms.length * B
  | [], out => by simp
  | m :: ms, out => by
    have h1 := parOut_le hB ms (parIn out (us.getD m.toNat []))
    have h2 := parIn_le (us.getD m.toNat []) out
    have h3 : (us.getD m.toNat []).length ≤ B := by
      rw [List.getD_eq_getElem?_getD]
      cases he : us[m.toNat]? with
      | none => simp
      | some x => exact hB x (List.mem_of_getElem? he)
    simp only [List.foldl_cons, List.length_cons]
    rw [Nat.succ_mul]; omega
theorem members_mem {p : List Int} {x m : Int} (h : m ∈ membersS p x) : 0 ≤ m ∧ m < (p.length : Int) := by
  unfold membersS at h
  split at h
  · simp at h
  · unfold colS at h
    have h1 := (List.mem_filter.1 h).1
    obtain ⟨i, hi, rfl⟩ := List.mem_map.1 h1
    have := List.mem_range.1 hi
    omega
theorem RdI.weaken' {M N : Nat → Prop} {w : World} {v : Value} {l : List Int} (h : RdI N w v l) (hm : ∀ b, v.ownBlock = some b → ¬ M b) : RdI M w v l := by
  rcases h with h | ⟨b, off, cap, h1, h2, h3, h4⟩
  · exact .inl h
  · exact .inr ⟨b, off, cap, h1, h2, hm b (by rw [h1]; rfl), h4⟩
/-- The map seen holds just the numbers of out. -/
def SeenIs (w : World) (b : Nat) (out : List Int) : Prop := ∃ m : List (Int × Value), MapIs (.int .i64) (Value.int .i64) w b m ∧ ∀ k, mget m k = if k ∈ out then some (.bool true) else none
theorem SeenIs.look {w : World} {b : Nat} {out : List Int} (h : SeenIs w b out) (x : Int) : (Instr.lookup 104 (.map (some b)) (.int .i64 x) false).run Tryz.prog w = .ok (.bool (decide (x ∈ out))) w := by
  obtain ⟨m, h1, h2⟩ := h
  by_cases e : x ∈ out
  · rw [decide_eq_true e]
    exact h1.look (P := Tryz.prog) kkInt Tryz.underlying104 Tryz.underlying3 x (by rw [h2, if_pos e]) false
  · rw [decide_eq_false e]
    exact h1.lookNone (P := Tryz.prog) kkInt Tryz.underlying104 Tryz.underlying3 x (by rw [h2, if_neg e]) (z := .bool false) (by kernel_rfl) false
theorem SeenIs.put {w : World} {b : Nat} {out : List Int} (h : SeenIs w b out) (x : Int) : ∃ w', (Instr.mapUpdate 104 (.map (some b)) (.int .i64 x) (.bool true)).run Tryz.prog w = .ok () w' ∧ SeenIs w' b (out ++ [x]) ∧ Fr (fun q => q = b) w w' := by
  obtain ⟨m, h1, h2⟩ := h
  obtain ⟨w', e1, e2, e3⟩ := h1.put (P := Tryz.prog) kkInt Tryz.underlying104 Tryz.underlying3 x (.bool true)
  refine ⟨w', e1, ⟨_, e2, fun k => ?_⟩, e3⟩
  rw [mget_put]
  by_cases e : k = x
  · subst e; simp
  · rw [if_neg e, h2]
    by_cases e2 : k ∈ out
    · rw [if_pos e2, if_pos (by simp [e2])]
    · rw [if_neg e2, if_neg (by simp [e2, e])]
theorem SeenIs.fr {M : Nat → Prop} {w w' : World} {b : Nat} {out : List Int} (h : SeenIs w b out) (hf : Fr M w w') (hb : ¬ M b) : SeenIs w' b out := by
  obtain ⟨m, h1, h2⟩ := h
  exact ⟨m, h1.fr hf hb, h2⟩
theorem SeenIs.ne {w : World} {b q : Nat} {out : List Int} {c : Array Value} {e : TypeId} {f : Nat × Nat} (h : SeenIs w b out) (h' : w.heap[q]? = some (.cells c e f)) : q ≠ b := by
  obtain ⟨m, h1, _⟩ := h
  exact h1.ne_cells h'
/-- Where parents stands: since w; the members' row was made from lo on, and w4 came then. -/
structure ParS (w w4 : World) (lo bm : Nat) (ov : Value) (out : List Int) (W : World) : Prop where
  fr : Fr NoB w W
  fr4 : Fr (fun k => k < lo) w4 W
  seen : SeenIs W bm out
  own : OwnI w.heap.size W ov out
  rng : ∀ b, ov.ownBlock = some b → b < lo ∨ w4.heap.size ≤ b
  bm1 : w.heap.size ≤ bm
  bm2 : bm < lo
theorem ParS.add {w w4 W w5 W6 : World} {lo bm : Nat} {ov v6 : Value} {out : List Int} {x : Int} (h : ParS w w4 lo bm ov out W) (hs : SeenIs w5 bm (out ++ [x])) (hf : Fr (fun q => q = bm) W w5) (o : Obj) (hg : (w5.alloc o).grownBy W6 ov.ownBlock)
    (ho : OwnI w.heap.size W6 v6 (out ++ [x])) (hb : v6.ownBlock = ov.ownBlock ∨ v6.ownBlock = some (w5.alloc o).heap.size) : ParS w w4 lo bm v6 (out ++ [x]) W6 := by
  have f6 : Fr (fun b => ov.ownBlock = some b) w5 W6 := Fr.grown ((Fr.refl _ w5).alloc o) hg (fun k hk _ => hk)
  have hs1 := hf.size
  have hs2 := h.fr4.size
  refine ⟨(h.fr.trans' hf (fun k hk e => by have e2 : k = bm := e; have := h.bm1; omega)).trans' f6 (fun k hk e => by have := (World.ownsRow.lt h.own k e).1; omega),
    (h.fr4.trans' hf (fun k hk e => by rw [show k = bm from e]; exact h.bm2)).trans' f6 (fun k hk e => (h.rng k e).resolve_right (by omega)), hs.fr f6 (fun e => ?_), ho, fun b hb9 => ?_, h.bm1, h.bm2⟩
  · obtain ⟨cur, hc⟩ := (h.own.fr hf (fun b hb e => by
      obtain ⟨cur, hc⟩ := h.own.head hb
      exact h.seen.ne hc e)).head e
    exact hs.ne hc rfl
  · rcases hb with h1 | h1
    · rw [h1] at hb9; exact h.rng b hb9
    · rw [h1] at hb9
      simp only [World.size_alloc, Option.some.injEq] at hb9
      exact .inr (by omega)
set_option maxHeartbeats 8000000 in
theorem parents_any {c0 c : Col} {w0 w : World} {bg bc : Nat} {h : GH} {s : GS} (a : AdW c0 w0 bg bc c w h s) (id : Int) (hlen : s.users.length = s.uf.par.length) (hrows : ∀ l ∈ s.users, l.length ≤ 2000000) :
    Calls Tryz.prog 38 #[.pointer (some ⟨bc, 0, none⟩), .int .i64 id] w fun e w' => ∃ p q, e = .returned (.slice p (parentsS s id).length q) ∧ OwnI w.heap.size w' (.slice p (parentsS s id).length q) (parentsS s id) ∧ Fr NoB w w' := by
  have hmm := @run_makeMap Tryz.prog
  have A := hid a
  have HLEN := hid hlen
  have HROWS := hid hrows
  clear a hlen hrows
  obtain ⟨R, hR⟩ : ∃ R, Hid (parentsS s id = R) := ⟨_, hid rfl⟩
  rw [hR.out]
  have F3 : Hid (Fr NoB w ((w.alloc (.map #[] 0)).alloc (.cells #[] 3))) := ((Fr.refl NoB w).alloc _).alloc _
  have A3 := hid (A.out.quiet F3.out)
  have S3 : Hid (SeenIs ((w.alloc (.map #[] 0)).alloc (.cells #[] 3)) w.heap.size []) := ⟨[], (MapIs.new (.int .i64) (Value.int .i64) w).fr ((Fr.refl NoB _).alloc _) (fun h => h), fun k => rfl⟩
  have O3 : Hid (OwnI w.heap.size ((w.alloc (.map #[] 0)).alloc (.cells #[] 3)) (.slice (some ⟨w.heap.size + 1, 0, none⟩) 0 0) []) := by
    have h9 := OwnI.lit w.heap.size (w.alloc (.map #[] 0)) [] (by simp) (by simp)
    show OwnI _ _ _ _
    simpa using h9
  obtain ⟨k0, k1, k2, k3, k4, k5, k6, k7, k8, k9, k10, kf, kl⟩ := A3.out.g.cells
  clear k1 k2 k3 k4 k5 k6 k7 k8 k9 k10 kf
  go_enter Tryz.func38, Tryz.ntmps38
  go_wp2_with fail
  obtain ⟨w3, hw3⟩ : ∃ w3, (w.alloc (.map #[] 0)).alloc (.cells #[] 3) = w3 := ⟨_, rfl⟩
  have hsz : w3.heap.size = w.heap.size + 2 := by rw [← hw3]; simp
  rw [hw3] at F3 A3 S3 O3 k0 kl ⊢
  have HSZ := hid hsz
  clear hw3 hsz
  refine (members_any id A3.out.g.sets).mono ?_
  rintro e w4 ⟨mp, mq, rfl, ho4, hf4⟩
  obtain ⟨ms, hms⟩ : ∃ ms, Hid (membersS s.uf.par id = ms) := ⟨_, hid rfl⟩
  rw [hms.out] at ho4 ⊢
  have HMM : Hid (∀ m ∈ ms, 0 ≤ m ∧ m < (s.users.length : Int)) := fun m hm => by
    rw [HLEN.out]
    rw [← hms.out] at hm
    exact members_mem hm
  have HML : Hid (ms.length ≤ 1000000) := by
    show _ ≤ _
    have h1 := A3.out.g.sets.small.1
    rw [← hms.out]
    unfold membersS
    split
    · simp
    · exact Nat.le_trans (colS_le _ _) h1
  have A4 := hid (A3.out.quiet hf4)
  have OMS := hid ho4
  have PS0 : Hid (ParS w w4 w3.heap.size w.heap.size (.slice (some ⟨w.heap.size + 1, 0, none⟩) 0 0) [] w4) := ⟨F3.out.step hf4, Fr.refl _ _, S3.out.fr hf4 (fun h => h), O3.out.fr hf4 (fun _ _ h => h), fun b hb => .inl (by cases hb; have := HSZ.out; show w.heap.size + 1 < _; omega), Nat.le_refl _, by have := HSZ.out; omega⟩
  clear ho4 hf4 k0 kl A3 F3 S3 O3
  go_wp2
  go_loopw [6, 20] (fun ov i wr => ∃ k : Nat, k ≤ ms.length ∧ i = .int .i64 k ∧ Hid (ParS w w4 w3.heap.size w.heap.size ov (parOut s.users (ms.take k)) wr)) (fun _ i _ => ms.length - (intOf i).toNat)
  case atStart => exact ⟨0, Nat.zero_le _, rfl, PS0⟩
  case round =>
    obtain ⟨k, hk, rfl, PK⟩ := hrel
    obtain ⟨op, oq, hov⟩ := PK.out.own.form
    subst hov
    have HOL : Hid ((parOut s.users (ms.take k)).length ≤ ms.length * 2000000) := by
      show _ ≤ _
      have h1 := parOut_le HROWS.out (ms.take k) []
      rw [List.length_take] at h1
      unfold parOut
      simp only [List.length_nil, Nat.zero_add] at h1
      exact Nat.le_trans h1 (Nat.mul_le_mul_right _ (by omega))
    by_cases hlt : k < ms.length
    · have hlt' : (k : Int) < (ms.length : Int) := by omega
      have hmr := HMM.out _ (getD_mem hlt)
      obtain ⟨ba, oa, hpp, ka⟩ := ((OwnI.rd OMS.out (M := fun k => k < w3.heap.size) (fun k h1 h2 => by omega)).fr PK.out.fr4 (fun _ _ h => h)).cellK hlt
      subst hpp
      obtain ⟨m, hm⟩ : ∃ m, ms.getD k 0 = m := ⟨_, rfl⟩
      rw [hm] at ka hmr
      obtain ⟨mn, rfl⟩ : ∃ mn : Nat, m = mn := ⟨m.toNat, by omega⟩
      have HMK := hid hm
      have hmn : mn < s.users.length := by omega
      have A5 := hid (A.out.quiet PK.out.fr)
      obtain ⟨gb, gcap, rp, rq, hvu, hcell, hrow, hrc, -⟩ := A5.out.g.look (a := mn) hmn
      obtain ⟨row, hrw⟩ : ∃ row, s.users.getD mn [] = row := ⟨_, rfl⟩
      rw [hrw] at hcell hrow hrc
      have HRW := hid hrw
      have HROW := hid hrow
      have HRL : Hid (row.length ≤ 2000000) := by
        show _ ≤ _
        rw [← hrw, List.getD_eq_getElem?_getD, List.getElem?_eq_getElem hmn]
        exact HROWS.out _ (List.getElem_mem _)
      have HRC := hid hrc
      obtain ⟨k0, k1, k2, k3, k4, k5, k6, k7, k8, k9, k10, kf, kl⟩ := A5.out.g.cells
      rw [hvu] at k3
      clear k0 k1 k2 k4 k5 k6 k7 k8 k9 k10 kf hm hrw hrow hrc hvu
      have HNX : Hid (parOut s.users (ms.take (k + 1)) = parIn (parOut s.users (ms.take k)) row) := by
        show _ = _
        rw [parOut_snoc _ hlt, HMK.out, Int.toNat_natCast, HRW.out]
      obtain ⟨out0, hout⟩ : ∃ o, parOut s.users (ms.take k) = o := ⟨_, rfl⟩
      rw [hout] at PK HOL HNX ⊢
      clear hout
      have HROW2 : Hid (RdI (fun q => w.heap.size ≤ q) wr (.slice rp row.length rq) row) := by
        have h9 := HROW.out
        rcases h9.form' with ⟨e1, e2⟩ | ⟨g9, c9, e1, e2, e3, e4⟩
        · rw [e1]; exact .inl ⟨⟨none, 0, rfl, fun _ => rfl⟩, e2⟩
        · have h8 := h9.rd (M := NoB) (fun _ _ h => h)
          refine h8.weaken' (fun b hb => ?_)
          have hc3 := HRC.out b hb
          have := A.out.g.lt b (by rw [hc3]; decide)
          show ¬ w.heap.size ≤ b
          omega
      have hrl := HRL.out
      have hml := HML.out
      go_wp2
      go_loopw [6, 32] (fun ov i wr2 => ∃ j : Nat, j ≤ row.length ∧ i = .int .i64 j ∧ Hid (ParS w w4 w3.heap.size w.heap.size ov (parIn out0 (row.take j)) wr2) ∧ Hid (Fr (fun q => w.heap.size ≤ q) wr wr2)) (fun _ i _ => row.length - (intOf i).toNat)
      case atStart => exact ⟨0, Nat.zero_le _, rfl, PK, Fr.refl _ _⟩
      case round =>
        obtain ⟨j, hj, rfl, PJ, FJ⟩ := hrel
        obtain ⟨op2, oq2, hov⟩ := PJ.out.own.form
        subst hov
        obtain ⟨cur, hcur⟩ : ∃ cur, parIn out0 (row.take j) = cur := ⟨_, rfl⟩
        have HCUR := hid hcur
        have HCL : Hid (cur.length ≤ ms.length * 2000000 + 2000000) := by
          show _ ≤ _
          have h1 := parIn_le (row.take j) out0
          rw [hcur, List.length_take] at h1
          have := HOL.out
          have := HRL.out
          omega
        rw [hcur] at PJ ⊢
        clear hcur
        by_cases hlj : j < row.length
        · have hlj' : (j : Int) < (row.length : Int) := by omega
          obtain ⟨rb, ro, hpp, kb⟩ := (HROW2.out.fr FJ.out (fun _ _ h => h)).cellK hlj
          subst hpp
          obtain ⟨y, hy⟩ : ∃ y, row.getD j 0 = y := ⟨_, rfl⟩
          rw [hy] at kb
          have HY := hid hy
          clear hy
          have lk := PJ.out.seen.look y
          by_cases hin : y ∈ cur
          · rw [decide_eq_true hin] at lk
            have HN : Hid (parIn out0 (row.take (j + 1)) = cur) := by show _ = _; rw [parIn_snoc _ hlj, HCUR.out, HY.out, if_pos hin]
            clear hin
            go_wp2
            go_roundw
            case rel => exact ⟨j + 1, by omega, by go_num, by rw [HN.out]; exact PJ, FJ⟩
            case measure => simp [intOf]; omega
          · rw [decide_eq_false hin] at lk
            have HN : Hid (parIn out0 (row.take (j + 1)) = cur ++ [y]) := by show _ = _; rw [parIn_snoc _ hlj, HCUR.out, HY.out, if_neg hin]
            obtain ⟨w5, e1, e2, e3⟩ := PJ.out.seen.put y
            have E2 := hid e2
            have E3 := hid e3
            have O5 := hid (PJ.out.own.fr e3 (fun b hb e => by
              obtain ⟨cu, hc⟩ := PJ.out.own.head hb
              exact PJ.out.seen.ne hc e))
            clear hin e2 e3
            go_wp2_with (at_builtin; go_loud (refine ap_ints_at _ rfl _ _ rfl w.heap.size (.slice op2 cur.length oq2) cur rfl (OwnI.fr O5.out ((Fr.refl NoB w5).alloc _) (fun _ _ h => h)) NoB _ [y] rfl (rdI_lit' (l := [y]) rfl rfl rfl (fun h => h)) ?_ ?_ ?_; (have := HCL.out; have := HML.out; simp only [List.length_singleton]; omega); (have := PJ.out.fr.size; have := E3.out.size; simp only [World.size_alloc]; omega); intro v6 W6 ho6 hg6 hb6; have f6 : Fr (fun q => w.heap.size ≤ q) w5 W6 := Fr.grown ((Fr.refl _ w5).alloc _) hg6 (fun q hq _ => (World.ownsRow.lt O5.out q hq).1); have P6 := hid (PJ.out.add E2.out E3.out _ hg6 ho6 hb6); have F6 : Hid (Fr (fun q => w.heap.size ≤ q) _ W6) := (FJ.out.trans' E3.out (fun q _ e => by have e2 : q = w.heap.size := e; omega)).trans f6; obtain ⟨p6, q6, hv6⟩ := ho6.form; obtain ⟨m6, hm6⟩ : ∃ m, (cur ++ [y]).length = m := ⟨_, rfl⟩; rw [hm6] at hv6; subst hv6; clear ho6 hg6 hb6 f6 e1 hm6))
            go_roundw
            case rel => exact ⟨j + 1, by omega, by go_num, by rw [HN.out]; exact P6, F6⟩
            case measure => simp [intOf]; omega
        · obtain rfl : j = row.length := by omega
          rw [List.take_length] at HCUR
          have HN2 : Hid (parOut s.users (ms.take (k + 1)) = cur) := by show _ = _; rw [HNX.out, HCUR.out]
          go_wp2
          go_roundw
          case rel => exact ⟨k + 1, by omega, by go_num, by rw [HN2.out]; exact PJ⟩
          case measure => simp [intOf]; omega
    · obtain rfl : k = ms.length := by omega
      have HRR : Hid (R = sortS (parOut s.users (ms.take ms.length))) := by
        show _ = _
        rw [List.take_length, ← hR.out, ← hms.out]; rfl
      obtain ⟨out0, hout⟩ : ∃ o, parOut s.users (ms.take ms.length) = o := ⟨_, rfl⟩
      rw [hout] at PK HOL HRR ⊢
      clear hout
      have HRL : Hid (R.length = out0.length) := by show _ = _; rw [HRR.out]; exact sortTo_len _ _
      go_wp2_with fail
      refine (sorted_any PK.out.own (by have := HOL.out; have := HML.out; omega)).mono ?_
      rintro e w9 ⟨rfl, ho9, hf9⟩
      have O9 := hid ho9
      have F9 := hid (PK.out.fr.trans' hf9 (fun q hq e => by have := (World.ownsRow.lt PK.out.own q e).1; omega))
      clear ho9 hf9
      go_wp2
      go_ret
      refine ⟨op, oq, by rw [HRL.out]; rfl, ?_, F9.out⟩
      rw [HRL.out, HRR.out]
      exact O9.out
end Go.Proofs.YtlekoceindepnaaGreatDoor
end
section
/- A key stored in its row; an entry deleted. -/
namespace Go.Proofs.YtlekoceindepnaaGreatDoor
open Go.RowKit
set_option maxRecDepth 100000

def tdelS (es : List (Node × Int)) (n : Node) : List (Node × Int) := es.filter (fun x => decide (nodeCmp x.1 n ≠ 0))
theorem flatE_set5 (x : Node × Value) : ∀ (l : List (Node × Value)) (p : Nat), p < l.length →
    flatE nsCells (l.set p x) = (((((flatE nsCells l).set (p * 5) (.int .i64 x.1.op)).set (p * 5 + 1) (.int .i64 x.1.width)).set (p * 5 + 2) (.int .u64 x.1.val)).set (p * 5 + 3) (.string x.1.name)).set (p * 5 + 4) x.2
  | [], p, h => by simp at h
  | y :: l, 0, _ => by simp [flatE, nsCells]
  | y :: l, p + 1, h => by
    have ih := flatE_set5 x l p (by simpa using h)
    have hs : ∀ (t : List Value) (j : Nat) (v : Value), (nsCells y ++ t).set ((p + 1) * 5 + j) v = nsCells y ++ t.set (p * 5 + j) v := fun t j v => by
      rw [List.set_append_right _ _ (by rw [nsLen]; omega), nsLen, show (p + 1) * 5 + j - 5 = p * 5 + j by omega]
    have hs0 : ∀ (t : List Value) (v : Value), (nsCells y ++ t).set ((p + 1) * 5) v = nsCells y ++ t.set (p * 5) v := fun t v => hs t 0 v
    rw [List.set_cons_succ, flatE, flatE, ih, hs0, hs, hs, hs, hs]
section
variable {c0 c c' : Col} {w W W' : World} {bg bc : Nat} {h h' : GH} {s s' : GS} {key : Node} {sk : Value}
theorem GIs.setKeyAt (g : GIs c W bc h s) {b2 cap n : Nat} (hvk : h.vk = .slice (some ⟨b2, 0, none⟩) n cap) {p : Nat} (hp : p < s.keys.length) (hsk : RdI (fun k => c k ≠ 12) W sk key.args) :
    let WF := (((((W.setCell ⟨b2, p * 5, none⟩ (.int .i64 key.op)).setCell ⟨b2, p * 5 + 1, none⟩ (.int .i64 key.width)).setCell ⟨b2, p * 5 + 2, none⟩ (.int .u64 key.val)).setCell ⟨b2, p * 5 + 3, none⟩ (.string key.name)).setCell ⟨b2, p * 5 + 4, none⟩ sk)
    GIs c WF bc h { s with keys := s.keys.set p key } ∧ Fr (Mut c) W WF := by
  intro WF
  obtain ⟨d, h1, h2, h3, h4⟩ := g.keys
  have hb : c b2 = 8 := h3 b2 (by rw [hvk]; rfl)
  have hdl : d.length = s.keys.length := by rw [← h1, List.length_map]
  have f := fun (W9 : World) (j : Nat) (u : Value) => (Fr.refl (fun k => k = b2) W9).setCell (p := ⟨b2, j, none⟩) (fun _ => rfl) u
  have f8 : Fr (fun k => k = b2) W WF := ((((f _ (p * 5) _).trans (f _ (p * 5 + 1) _)).trans (f _ (p * 5 + 2) _)).trans (f _ (p * 5 + 3) _)).trans (f _ (p * 5 + 4) _)
  have K := keep_of (c := c) (c' := c) (i := 8) f8 (Ext.refl _ _) (fun k _ e => by rw [show k = b2 from e]; exact hb) (by decide)
  have lt : ∀ b, c b ≠ 0 → b < WF.heap.size := fun b hb => Nat.lt_of_lt_of_le (g.lt b hb) f8.size
  have hlen : n = d.length := by
    rcases h2.form' with ⟨e1, _⟩ | ⟨g9, c9, e1, _⟩
    · rw [hvk] at e1; cases e1
    · rw [hvk] at e1; simp only [Value.slice.injEq] at e1; exact e1.2.1
  have o1 : W.ownsRow 0 30 5 (.slice (some ⟨b2, 0, none⟩) d.length cap) d.length (flatE nsCells d) := by
    have h9 : OwnE nsCells 5 30 0 W h.vk d := h2
    rw [hvk, hlen] at h9; exact h9
  have o2 := (World.ownsRow.stored ((World.ownsRow.stored ((World.ownsRow.stored ((World.ownsRow.stored ((World.ownsRow.stored o1 (p * 5) (.int .i64 key.op)).1) (p * 5 + 1) (.int .i64 key.width)).1) (p * 5 + 2) (.int .u64 key.val)).1) (p * 5 + 3) (.string key.name)).1) (p * 5 + 4) sk).1
  have o3 : OwnN 0 WF h.vk (d.set p (key, sk)) := by
    show WF.ownsRow 0 30 5 h.vk (d.set p (key, sk)).length (flatE nsCells (d.set p (key, sk)))
    rw [flatE_set5 (key, sk) d p (by omega), hvk, hlen, List.length_set]
    exact o2
  refine ⟨⟨f8.at (fun e => by have e2 : bc = b2 := e; have h9 := g.own; rw [e2, hb] at h9; exact absurd h9 (by decide)) g.head, g.sets.keep (K 1 (by decide)), g.nodes.keep (K 9 (by decide)), ⟨d.set p (key, sk), by rw [List.map_set, h1], o3, h3, fun x hx => ?_⟩, g.users.keep (K 3 (by decide)), g.exact.keep (K 5 (by decide)), g.table.keep (K 6 (by decide)),
    g.proofs.keep (K 2 (by decide)) lt, g.vars.keep (K 7 (by decide)), g.todo.keep (K 4 (by decide)), g.marks.keep (K 10 (by decide)), g.own, lt⟩, f8.mono (fun k _ e => by rw [show k = b2 from e]; exact Mut.of (by decide) hb)⟩
  have hx' : RdI (fun k => c k ≠ 12) W x.2 x.1.args := by
    rcases List.mem_or_eq_of_mem_set hx with hx | rfl
    · exact h4 x hx
    · exact hsk
  exact hx'.fr f8 (fun k _ e => by rw [show k = b2 from e, hb]; decide)
theorem GIs.keyCells (g : GIs c W bc h s) {b2 cap n : Nat} (hvk : h.vk = .slice (some ⟨b2, 0, none⟩) n cap) {p : Nat} (hp : p < s.keys.length) :
    ∃ x0 x1 x2 x3 x4, W.cell? ⟨b2, p * 5, none⟩ = some x0 ∧ W.cell? ⟨b2, p * 5 + 1, none⟩ = some x1 ∧ W.cell? ⟨b2, p * 5 + 2, none⟩ = some x2 ∧ W.cell? ⟨b2, p * 5 + 3, none⟩ = some x3 ∧ W.cell? ⟨b2, p * 5 + 4, none⟩ = some x4 ∧ ∀ o, W.frozen? ⟨b2, o, none⟩ = false := by
  obtain ⟨d, h1, h2, h3, h4⟩ := g.keys
  have hdl : d.length = s.keys.length := by rw [← h1, List.length_map]
  have hrdn : RdN NoB W h.vk d := OwnE.rdN h2 (fun _ _ h => h) (fun x hx => (h4 x hx).weaken (fun _ _ h => h.elim))
  have h2' := h2
  rw [hvk] at hrdn h2'
  obtain ⟨b, off, hpp, e0, e1, e2, e3, e4, -⟩ := hrdn.nodeK (show p < d.length by omega)
  simp only [Option.some.injEq, Addr.mk.injEq, and_true] at hpp
  obtain ⟨rfl, rfl⟩ := hpp
  simp only [Nat.zero_add] at e0 e1 e2 e3 e4
  exact ⟨_, _, _, _, _, e0, e1, e2, e3, e4, fun o => OwnE.frozen h2' o⟩
theorem tdelS_of {l : List TEnt} {es : List (Node × Int)} (he : l.map (fun x => (x.node, x.id)) = es) (n : Node) : (tdel l n).map (fun x => (x.node, x.id)) = tdelS es n := by
  subst he
  unfold tdel tdelS
  rw [List.filter_map]
  rfl
theorem tdelS_none {es : List (Node × Int)} {n : Node} (hg : tgetS es n = none) : tdelS es n = es := by
  unfold tgetS at hg
  unfold tdelS
  rw [List.filter_eq_self]
  intro x hx
  simp only [Option.map_eq_none_iff, List.find?_eq_none] at hg
  have := hg x hx
  simpa using this
theorem AdW.delT_any (a : AdW c0 w bg bc c W h s) (n : Node) (v : Value) (hr : RdI NoB W v n.args) (hok : NodeOk n) (hsm : NodeSm n) :
    Calls Tryz.prog 67 #[.pointer (some ⟨h.bt, 0, none⟩), nodeV n v] W fun e w' => (∃ b, e = .returned (.bool b)) ∧ TurnTo c0 w bg bc c W h { s with table := tdelS s.table n } w' ∧ ∃ bm, c bm = 6 ∧ Fr (fun k => k = bm) W w' := by
  obtain ⟨bm, l, h1, h2, h3, h4, h5⟩ := a.g.table
  cases hg : tget l n with
  | none =>
    refine (del_none _ NoB W h.bt bm l h1 n v hr hok hsm a.tab hg).mono ?_
    rintro e w' ⟨rfl, hf⟩
    have hn : tgetS s.table n = none := by rw [tgetS_of h2, hg]; rfl
    refine ⟨⟨_, rfl⟩, ⟨c, ?_, hf.mono (fun _ _ h => h.elim), Ext.refl _ _⟩, bm, h4, hf.mono (fun _ _ h => h.elim)⟩
    rw [tdelS_none hn]
    exact a.quiet hf
  | some x =>
    refine (del_some _ NoB W h.bt bm l (tbl_old h1) n v hr hok hsm a.tab x hg ⟨h1.map.lt, by rw [h4]; decide⟩ h5).mono ?_
    rintro e w' ⟨rfl, h6, h7⟩
    have f : Fr (Mut c) W w' := h7.mono (fun k _ hk => by rw [show k = bm from hk]; exact Mut.of (by decide) h4)
    exact ⟨⟨_, rfl⟩, ⟨_, a.turn (a.g.setTable h6 h7 h3 h4 h5 (tdelS_of h2 n) h1.lt h1.map.lt) f (Ext.paint _ _ _ _), f, Ext.paint _ _ _ _⟩, bm, h4, h7⟩
end
end Go.Proofs.YtlekoceindepnaaGreatDoor
end
section
/- Drawn regions that write, as Eff, but what is known of the worlds that are reached may grow with each operation that turns the world: an operation that reads what an earlier call has made may come up later. -/
namespace Go.Proofs.YtlekoceindepnaaGreatDoor
open Go.RowKit
set_option maxRecDepth 100000

section
variable {P : Program} {ops : Array Oper} {S : World → Prop} {Q : Exit → Act → World → Prop} {md : Region.Mode} {brk : Nat}

theorem wpAnyT_weak {S1 : World → Prop} (h1 : ∀ w, S1 w → S w) : ∀ (fuel : Nat) (listed : Array Bool) (a : Act) (w : World), wpAnyT P md ops Q S1 brk fuel listed a w → wpAnyT P md ops Q S brk fuel listed a w
  | 0, _, _, _, h => h
  | fuel + 1, _, _, _, h => ⟨h.1, fun i hi => wpOp_mono (fun a' w' h' => ⟨h'.1.imp_right (h1 w'), wpAnyT_weak h1 fuel _ a' w' h'.2⟩) (h.2 i hi)⟩
def effG (P : Program) (ops : Array Oper) (brk : Nat) (R : Act → World → Prop) : List (Nat × Nat) → (World → Prop) → Act → World → Prop
  | [], _, a, W => R a W
  | (i, 0) :: s, S, a, W => ∃ o v, ops[i]? = some o ∧ YieldsIf P ops S o v a ∧ effG P ops brk R s S (a.put o.dst v) W
  | (i, 1) :: s, S, a, W => ∃ o v, ops[i]? = some o ∧ YieldsIf P ops AnyW o v a ∧ effG P ops brk R s S (a.put o.dst v) W
  | (i, _ + 2) :: s, S, a, W => ∃ o, ops[i]? = some o ∧ wpList P ops (fun x a' W' => x = .normal ∧ ∃ S1 : World → Prop, (∀ w, S1 w → S w) ∧ (i ≠ brk → S1 W') ∧ effG P ops brk R s S1 a' W') [o] a W
theorem effG_any {R : Act → World → Prop} (hs : Region.noSelect ops = true) (hR : ∀ a w, R a w → Q .normal a w) (hQ : ∀ c a w, ¬ Q (.panic c) a w) :
    ∀ (s : List (Nat × Nat)) (S : World → Prop) (listed : Array Bool) (a : Act) (w : World), effB md ops brk s listed = true → TT S brk listed w → effG P ops brk R s S a w → wpAnyT P md ops Q S brk s.length listed a w
  | [], S, listed, a, w, hB, _, h => ⟨by simpa [effB] using hB, hR _ _ h⟩
  | (i, 0) :: s, S, listed, a, w, hB, hT, h => by
    simp only [effB, Bool.and_eq_true, bne_iff_ne, ne_eq, Bool.not_eq_true'] at hB
    obtain ⟨⟨⟨⟨⟨h1, h2⟩, h3⟩, h4⟩, h5⟩, h6⟩ := hB
    obtain ⟨o, v, hi, hy, hk⟩ := h
    cases hb : ops[brk]? with
    | none =>
      have hn : ∀ listed : Array Bool, listed.getD i true = false → brk ∉ Region.ready md ops listed := fun listed _ hr => by
        obtain ⟨_, o, ho, _⟩ := mem_ready.1 hr
        rw [hb] at ho; cases ho
      exact wpAnyT_first (S' := S) hi (Region.noSelect_spec hs) (fun c a w h => absurd h (hQ c _ _)) h3 (.inr ⟨hn, fun w h => h⟩) s.length listed a w (Region.free_spec hi h1) (by simpa using h2) hy hT (.inr h4)
        (effG_any hs hR hQ s S _ _ _ h6 (by unfold TT; rw [getD_set_ne' h3]; exact hT) hk)
    | some ob =>
      exact wpAnyT_first (S' := S) hi (Region.noSelect_spec hs) (fun c a w h => absurd h (hQ c _ _)) h3 (.inr ⟨anch_spec hb h5, fun w h => h⟩) s.length listed a w (Region.free_spec hi h1) (by simpa using h2) hy hT (.inr h4)
        (effG_any hs hR hQ s S _ _ _ h6 (by unfold TT; rw [getD_set_ne' h3]; exact hT) hk)
  | (i, 1) :: s, S, listed, a, w, hB, hT, h => by
    simp only [effB, Bool.and_eq_true, bne_iff_ne, ne_eq] at hB
    obtain ⟨⟨⟨h1, h2⟩, h3⟩, h6⟩ := hB
    obtain ⟨o, v, hi, hy, hk⟩ := h
    exact wpAnyT_first (S' := AnyW) hi (Region.noSelect_spec hs) (fun c a w h => absurd h (hQ c _ _)) h3 (.inl (fun _ => trivial)) s.length listed a w (Region.free_spec hi h1) (by simpa using h2) hy hT (.inl (fun _ => trivial))
      (effG_any hs hR hQ s S _ _ _ h6 (by unfold TT; rw [getD_set_ne' h3]; exact hT) hk)
  | (i, n + 2) :: s, S, listed, a, w, hB, hT, h => by
    simp only [effB, Bool.and_eq_true, beq_iff_eq, decide_eq_true_eq, Bool.not_eq_true'] at hB
    obtain ⟨⟨⟨h1, h2⟩, h4⟩, h6⟩ := hB
    obtain ⟨o, hi, hk⟩ := h
    refine ⟨fun h0 => (by rw [h1] at h0; cases h0), fun j hj => ?_⟩
    rw [h1] at hj
    obtain rfl : j = i := by simpa using hj
    refine wpOp_mono (fun a' w' hh => ?_) (effL_one hi hk)
    obtain ⟨S1, g1, g2, g3⟩ := hh
    have hT' : TT S1 brk (listed.setIfInBounds j true) w' := by
      by_cases e : j = brk
      · subst e; exact .inl (by simp [h2])
      · exact .inr (g2 e)
    exact ⟨hT'.imp_right (g1 w'), wpAnyT_weak g1 _ _ _ _ (effG_any hs hR hQ s S1 _ _ _ h6 hT' g3)⟩

theorem region_effG (S : World → Prop) (brk : Nat) (s : List (Nat × Nat)) {id : Nat} {a : Act} {w : World} {l : List Oper} (hm : P.follows .mixedOrders = true)
    (hB : (Region.noSelect l.toArray && (s.length == l.length) && effB .any l.toArray brk s (Array.replicate l.length false)) = true) (hS : S w.drew) (h : effG P l.toArray brk (fun a' W' => Q .normal a' W') s S a w.drew) : (Code.region id l.toArray true).wp P Q a w := by
  simp only [Bool.and_eq_true, beq_iff_eq] at hB
  obtain ⟨⟨h1, h2⟩, h3⟩ := hB
  refine wp_mono (Q := fun x a w => x = .normal ∧ Q .normal a w) (wp_region_any hm (wpAny_of_T (S := S) (brk := brk) _ _ _ _ ?_)) (fun e a w hh => by obtain ⟨rfl, hh⟩ := hh; exact hh)
  have := effG_any (md := .any) (Q := fun x a w => x = .normal ∧ Q .normal a w) h1 (fun a w hh => ⟨rfl, hh⟩) (fun c a w hh => by simp at hh) s S _ a w.drew h3 (.inr hS) h
  rw [h2] at this
  simpa using this
variable {R : Act → World → Prop} {a : Act} {W W' : World} {i : Nat} {s : List (Nat × Nat)} {o : Oper} {l : List Oper}
theorem effg_nil (h : R a W) : effG P l.toArray brk R [] S a W := h
theorem effg_off (hi : l[i]? = some o) (hw : Region.wanted o (yielded l.toArray a.tmps) = false) (h : effG P l.toArray brk R s S (a.put o.dst undef) W) : effG P l.toArray brk R ((i, 1) :: s) S a W :=
  ⟨o, undef, at_l hi, .inr ⟨hw, rfl⟩, h⟩
theorem effg_rd (v : Value) (hi : l[i]? = some o) (hw : Region.wanted o (yielded l.toArray a.tmps) = true) (hy : ∀ w', S w' → (execOp a.eval o).run P w' = .ok (.value v) w') (h : effG P l.toArray brk R s S (a.put o.dst v) W) :
    effG P l.toArray brk R ((i, 0) :: s) S a W := ⟨o, v, at_l hi, .inl ⟨hw, hy⟩, h⟩
theorem effg_pu (v : Value) (hi : l[i]? = some o) (hw : Region.wanted o (yielded l.toArray a.tmps) = true) (hy : ∀ w', (execOp a.eval o).run P w' = .ok (.value v) w') (h : effG P l.toArray brk R s S (a.put o.dst v) W) :
    effG P l.toArray brk R ((i, 1) :: s) S a W := ⟨o, v, at_l hi, .inl ⟨hw, fun w _ => hy w⟩, h⟩
/-- A call, that goes through as its contract says. -/
theorem effg_call (f : FuncId) (args : Array Value) (hi : l[i]? = some o) (hw : Region.wanted o (yielded l.toArray a.tmps) = true) (hy : ∀ w', (execOp a.eval o).run P w' = .ok (.enter f args) w')
    (hc : Calls P f args W (fun e W' => ∃ v, e = .returned v ∧ ∃ S1 : World → Prop, (∀ w, S1 w → S w) ∧ (i ≠ brk → S1 W') ∧ effG P l.toArray brk R s S1 (a.put o.dst v) W')) : effG P l.toArray brk R ((i, 2) :: s) S a W := by
  refine ⟨o, at_l hi, ?_⟩
  unfold wpList
  rw [if_pos hw]
  refine .inl ?_
  unfold Oper.wp
  rw [hy W]
  simp only [Oper.upon, wpList]
  refine Calls.mono hc fun e w' he => ?_
  obtain ⟨v, rfl, h1⟩ := he
  exact ⟨trivial, h1⟩
end
/-- What the worlds are known by: nothing of W has turned, and T. -/
def KnW (W : World) (T : World → Prop) (w : World) : Prop := Hid (Fr NoB W w) ∧ T w
end Go.Proofs.YtlekoceindepnaaGreatDoor
end
section
/- The walk of egraph's repair. -/
namespace Go.Proofs.YtlekoceindepnaaGreatDoor
open Go.RowKit
set_option maxRecDepth 100000

def nodeAt (ns : List Node) (p : Nat) : Node := ns.getD p ⟨0, 0, 0, ⟨#[]⟩, []⟩
def repair1 (s : GS) (p : Nat) : GS :=
  let key := canonU s.uf.par (nodeAt s.nodes p)
  if nodeCmp key (nodeAt s.keys p) = 0 then s else { s with table := tdelS s.table (nodeAt s.keys p), keys := s.keys.set p key }
theorem repair1_same (s : GS) (p : Nat) : (repair1 s p).uf = s.uf ∧ (repair1 s p).links = s.links ∧ (repair1 s p).todo = s.todo ∧ (repair1 s p).nodes = s.nodes ∧ (repair1 s p).users = s.users := by
  unfold repair1
  simp only
  split <;> exact ⟨rfl, rfl, rfl, rfl, rfl⟩
def repair2 (s : GS) (key : Node) (p : Int) : GS × Int :=
  match tgetS s.table key with
  | none => ({ s with table := s.table ++ [(key, p)] }, 0)
  | some other => if sameS2 s.uf.par other p = true then (s, 0) else (joinS s other p (-1), 1)
def repairS (s : GS) (p : Nat) : GS × Int := repair2 (repair1 s p) (canonU s.uf.par (nodeAt s.nodes p)) p
section
variable {c0 c c' : Col} {w W W' W6 W7 : World} {bg bc : Nat} {h h' : GH} {s s' : GS} {n k : Node} {sk : Value}
theorem RepM.mk1 (a : AdW c0 w bg bc c W h s) (hf : Fr NoB W W7) (ho : RdI (fun k => paint c W W7 12 k ≠ 12) W7 sk k.args) :
    AdW c0 w bg bc (paint c W W7 12) (W7.alloc (.cells (nodeCells k sk) 30)) h s ∧ Loc (paint c W W7 12) (W7.alloc (.cells (nodeCells k sk) 30)) W7.heap.size k sk 12 := by
  have f8 : Fr NoB W7 (W7.alloc (.cells (nodeCells k sk) 30)) := (Fr.refl NoB W7).alloc _
  exact ⟨(a.fresh 12 hf).quiet f8, ⟨at_new W7 _, Decidable.byContradiction fun hc => by have := (a.fresh 12 hf).g.lt _ hc; omega, ho.fr f8 (fun _ _ h => h.elim)⟩⟩
theorem RepM.mk2 {y0 y1 y2 y3 y4 : Value} (a : AdW c0 w bg bc c W h s) (hf : Fr NoB (W.alloc (.cells #[y0, y1, y2, y3, y4] 30)).drew W7) (ho : RdI (fun k => paint c (W.alloc (.cells #[y0, y1, y2, y3, y4] 30)).drew W7 12 k ≠ 12) W7 sk k.args) :
    let WF := (((((W7.setCell ⟨W.heap.size, 0, none⟩ (.int .i64 k.op)).setCell ⟨W.heap.size, 1, none⟩ (.int .i64 k.width)).setCell ⟨W.heap.size, 2, none⟩ (.int .u64 k.val)).setCell ⟨W.heap.size, 3, none⟩ (.string k.name)).setCell ⟨W.heap.size, 4, none⟩ sk)
    AdW c0 w bg bc (paint c (W.alloc (.cells #[y0, y1, y2, y3, y4] 30)).drew W7 12) WF h s ∧ Loc (paint c (W.alloc (.cells #[y0, y1, y2, y3, y4] 30)).drew W7 12) WF W.heap.size k sk 12 := by
  intro WF
  have f1 : Fr NoB W (W.alloc (.cells #[y0, y1, y2, y3, y4] 30)).drew := ((Fr.refl NoB W).alloc _).drew
  have m1 := a.quiet f1
  have m2 := m1.fresh 12 hf
  have hw : W.heap.size < (W.alloc (.cells #[y0, y1, y2, y3, y4] 30)).drew.heap.size := by simp
  have k7 := hf.at (fun h => h) (show (W.alloc (.cells #[y0, y1, y2, y3, y4] 30)).drew.heap[W.heap.size]? = _ from at_new W _)
  obtain ⟨h8, f8⟩ := st5 (x0 := .int .i64 k.op) (x1 := .int .i64 k.width) (x2 := .int .u64 k.val) (x3 := .string k.name) (x4 := sk) k7
  have hcb : paint c (W.alloc (.cells #[y0, y1, y2, y3, y4] 30)).drew W7 12 W.heap.size = 0 := by
    rw [paint_old hw]
    exact Decidable.byContradiction fun hc => by have := a.g.lt _ hc; omega
  exact ⟨m2.put0 f8 a.fr.size hcb, ⟨h8, hcb, ho.fr f8 (fun k _ e => by rw [show k = W.heap.size from e, hcb]; decide)⟩⟩
theorem nodeAt_of {ns : List Node} {d : List (Node × Value)} (h : d.map (·.1) = ns) {p : Nat} (hp : p < d.length) : nodeAt ns p = d[p].1 := by
  unfold nodeAt
  rw [← h, List.getD_eq_getElem?_getD, List.getElem?_map, List.getElem?_eq_getElem hp]; rfl
set_option maxHeartbeats 16000000 in
theorem repair_any (a : AdW c W bg bc c W h s) (p : Nat) (hp : p < s.nodes.length) (hkl : s.keys.length = s.nodes.length) (hok : ∀ n ∈ s.nodes, NodeOk n ∧ NodeSm n) (hok2 : ∀ n ∈ s.keys, NodeOk n ∧ NodeSm n)
    (ht : s.uf.tr.length < 3000000) (hL : s.links.length ≤ 1000000) (hT : s.todo.length ≤ 1000000000) :
    Calls Tryz.prog 39 #[.pointer (some ⟨bc, 0, none⟩), .int .i64 p] W fun e w' => e = .returned (.int .i64 (repairS s p).2) ∧ ∃ c' h', AdW c W bg bc c' w' h' (repairS s p).1 := by
  have A1 := hid a
  have HSZ := hid (And.intro ht (And.intro hL hT))
  have HOK := hid (And.intro hok hok2)
  have HKL := hid hkl
  have HP := hid hp
  clear a ht hL hT hok hok2 hkl hp
  obtain ⟨R, hR⟩ : ∃ R, Hid (R = repairS s p) := ⟨_, hid rfl⟩
  rw [← hR.out]
  obtain ⟨dn, hd1, hd2, hd3, hd4⟩ := A1.out.g.nodes
  have hdl : dn.length = s.nodes.length := by rw [← hd1, List.length_map]
  have hpl : p < dn.length := by rw [hdl]; exact HP.out
  obtain ⟨np, nc, hvn⟩ := OwnE.form hd2
  have hrdn : RdN NoB W h.vn dn := OwnE.rdN hd2 (fun _ _ h => h) (fun x hx => (hd4 x hx).weaken (fun _ _ h => h.elim))
  rw [hvn] at hrdn
  obtain ⟨b, off, hpp, e0, e1, e2, e3, e4, hargs⟩ := hrdn.nodeK hpl
  subst hpp
  obtain ⟨n, hn⟩ : ∃ n, Hid (nodeAt s.nodes p = n) := ⟨_, hid rfl⟩
  have hnd : dn[p].1 = n := (nodeAt_of hd1 hpl).symm.trans hn.out
  obtain ⟨sl, hsl⟩ : ∃ sl, dn[p].2 = sl := ⟨_, rfl⟩
  rw [hnd] at e0 e1 e2 e3 hargs
  rw [hsl] at e4 hargs
  obtain ⟨va, vc, hvv⟩ := hargs.form
  subst hvv
  have HNO : Hid (NodeOk n ∧ NodeSm n) := by
    refine HOK.out.1 n ?_
    rw [← hnd, ← hd1]
    exact List.mem_map_of_mem (List.getElem_mem hpl)
  have hla : n.args.length ≤ 1000000 := by have := HNO.out.2.args; omega
  have HAR := hid hargs
  have HVN := hid hvn
  have hpi : (p : Int) < (dn.length : Int) := by omega
  have E0 := hid (And.intro e0 (And.intro e1 (And.intro e2 (And.intro e3 e4))))
  obtain ⟨dl, hdl2⟩ : ∃ dl, dn.length = dl := ⟨_, rfl⟩
  rw [hdl2] at HVN hpi hpl
  have HC1 : Hid (∀ W', Fr NoB W W' → W'.cell? ⟨bc, 0, none⟩ = some (.pointer (some ⟨h.bs, 0, none⟩)) ∧ W'.cell? ⟨bc, 1, none⟩ = some (.slice (some ⟨b, off, none⟩) dl nc) ∧ W'.cell? ⟨b, off + p * 5, none⟩ = some (.int .i64 n.op) ∧ W'.cell? ⟨b, off + p * 5 + 1, none⟩ = some (.int .i64 n.width) ∧ W'.cell? ⟨b, off + p * 5 + 2, none⟩ = some (.int .u64 n.val) ∧ W'.cell? ⟨b, off + p * 5 + 3, none⟩ = some (.string n.name) ∧ W'.cell? ⟨b, off + p * 5 + 4, none⟩ = some (.slice va n.args.length vc)) := fun W' hf => by
    obtain ⟨q0, q1, _⟩ := (A1.out.quiet hf).g.cells
    rw [HVN.out] at q1
    exact ⟨q0, q1, hf.cf E0.out.1, hf.cf E0.out.2.1, hf.cf E0.out.2.2.1, hf.cf E0.out.2.2.2.1, hf.cf E0.out.2.2.2.2⟩
  have CF : Hid (∀ W', Fr NoB W W' → Calls Tryz.prog 30 #[nodeV n (.slice va n.args.length vc), .func (.func 31) #[.pointer (some ⟨h.bs, 0, none⟩)] #[]] W' fun e w' => ∃ a' c', e = .returned (nodeV (canonU s.uf.par n) (.slice a' n.args.length c')) ∧ OwnI W'.heap.size w' (.slice a' n.args.length c') (n.args.map (findS s.uf.par)) ∧ Fr NoB W' w') :=
    fun W' hf => findCanon_any (A1.out.quiet hf).g.sets n (.slice va n.args.length vc) (HAR.out.fr hf (fun _ _ h => h.elim)) hla
  have lb := lt_of_cell e0
  have kl := A1.out.g.lb
  clear hd1 hd2 hd3 hd4 hdl hvn hrdn hnd hsl hargs hdl2 e0 e1 e2 e3 e4
  go_enter Tryz.func39, Tryz.ntmps39
  go_upto_region 1 with fail
  go_cut [5] (fun s5 wx => ∃ kb ka kc c7, s5 = .pointer (some ⟨kb, 0, none⟩) ∧ Hid (AdW c W bg bc c7 wx h s) ∧ Hid (Loc c7 wx kb (canonU s.uf.par n) (.slice ka n.args.length kc) 12))
  case first =>
    obtain ⟨k0, k1, x0, x1, x2, x3, x4⟩ := HC1.out W (Fr.refl _ _)
    have q1 : bc ≠ W.heap.size := by omega
    have q2 : b ≠ W.heap.size := by omega
    have q3 := q1.symm
    have q4 := q2.symm
    go_region_held3 (fun W' => W'.cell? ⟨bc, 0, none⟩ = some (.pointer (some ⟨h.bs, 0, none⟩)) ∧ W'.cell? ⟨bc, 1, none⟩ = some (.slice (some ⟨b, off, none⟩) dl nc) ∧ W'.cell? ⟨b, off + p * 5, none⟩ = some (.int .i64 n.op) ∧ W'.cell? ⟨b, off + p * 5 + 1, none⟩ = some (.int .i64 n.width) ∧ W'.cell? ⟨b, off + p * 5 + 2, none⟩ = some (.int .u64 n.val) ∧ W'.cell? ⟨b, off + p * 5 + 3, none⟩ = some (.string n.name) ∧ W'.cell? ⟨b, off + p * 5 + 4, none⟩ = some (.slice va n.args.length vc)) (go_keep)
      (first
        | (go_at_call 30; have X := CF.out W.drew (Fr.refl NoB W).drew; unfold nodeV at X; (with_reducible refine X.mono ?_); clear X; rintro e w7 ⟨ka, kc, rfl, ho7, hf7⟩; have F7 : Hid (Fr NoB W w7) := (Fr.refl NoB W).drew.step hf7; have O7 : Hid (RdI (fun k => paint c W w7 12 k ≠ 12) w7 (.slice ka n.args.length kc) (canonU s.uf.par n).args) := own_paint (W := W) ho7 rfl c; clear ho7 hf7 k0 k1 x0 x1 x2 x3 x4; obtain ⟨k0, k1, x0, x1, x2, x3, x4⟩ := HC1.out w7 F7.out)
        | (go_at_call 30; have X := CF.out (W.alloc (.cells #[.int .i64 0, .int .i64 0, .int .u64 0, .string ⟨#[]⟩, .slice none 0 0] 30)).drew ((Fr.refl NoB W).alloc _).drew; unfold nodeV at X; (with_reducible refine X.mono ?_); clear X; rintro e w7 ⟨ka, kc, rfl, ho7, hf7⟩; have F7 : Hid (Fr NoB W w7) := ((Fr.refl NoB W).alloc _).drew.step hf7; have F77 := hid hf7; have O7 : Hid (RdI (fun k => paint c (W.alloc (.cells #[.int .i64 0, .int .i64 0, .int .u64 0, .string ⟨#[]⟩, .slice none 0 0] 30)).drew w7 12 k ≠ 12) w7 (.slice ka n.args.length kc) (canonU s.uf.par n).args) := own_paint ho7 rfl c; have K7 : Hid (w7.heap[W.heap.size]? = some (.cells #[.int .i64 0, .int .i64 0, .int .u64 0, .string ⟨#[]⟩, .slice none 0 0] 30 (0, 0))) := hf7.at (fun h => h) (at_new W (.cells #[.int .i64 0, .int .i64 0, .int .u64 0, .string ⟨#[]⟩, .slice none 0 0] 30)); clear ho7 hf7 k0 k1 x0 x1 x2 x3 x4; obtain ⟨k0, k1, x0, x1, x2, x3, x4⟩ := HC1.out w7 F7.out; obtain ⟨y0, y1, y2, y3, y4, yf, yl⟩ := five_of K7.out))
    all_goals (go_wp2_with fail; go_meet)
    · exact ⟨_, ka, kc, _, rfl, hid (RepM.mk1 A1.out F7.out O7.out).1, hid (RepM.mk1 A1.out F7.out O7.out).2⟩
    all_goals exact ⟨_, ka, kc, _, rfl, hid (RepM.mk2 A1.out F77.out O7.out).1, hid (RepM.mk2 A1.out F77.out O7.out).2⟩
  case rest =>
    obtain ⟨kb, ka, kc, c7, rfl, A7, L7⟩ := hcut
    clear CF HC1 lb kl HAR HVN hpi hpl E0 A1
    obtain ⟨key, HKEY⟩ : ∃ key, Hid (key = canonU s.uf.par n) := ⟨_, hid rfl⟩
    rw [← HKEY.out] at L7
    have HKO : Hid (NodeOk key ∧ NodeSm key) := by
      show _ ∧ _
      rw [HKEY.out]
      exact ⟨canon_ok2 A7.out.g.sets.ok.par A7.out.g.sets.small.1 HNO.out.1, canon_sm2 HNO.out.2⟩
    have hka : key.args.length ≤ 1000000 := by have := HKO.out.2.args; omega
    have HKA : Hid (key.args.length = n.args.length) := by show _ = _; rw [HKEY.out]; exact List.length_map _
    obtain ⟨dk, hd1, hd2, hd3, hd4⟩ := A7.out.g.keys
    have hdl : dk.length = s.keys.length := by rw [← hd1, List.length_map]
    have hpl : p < dk.length := by rw [hdl, HKL.out]; exact HP.out
    obtain ⟨np2, nc2, hvn⟩ := OwnE.form hd2
    have hrdn : RdN NoB wc h.vk dk := OwnE.rdN hd2 (fun _ _ h => h) (fun x hx => (hd4 x hx).weaken (fun _ _ h => h.elim))
    rw [hvn] at hrdn
    obtain ⟨b2, off2, hpp, e0, e1, e2, e3, e4, hargs⟩ := hrdn.nodeK hpl
    subst hpp
    have ho2 : off2 = 0 := by
      rcases hd2.form' with ⟨e, _⟩ | ⟨g9, c9, e, _⟩
      · rw [hvn] at e; cases e
      · rw [hvn] at e; simp only [Value.slice.injEq, Option.some.injEq, Addr.mk.injEq] at e; exact e.1.2.1
    subst ho2
    rw [Nat.zero_add] at e0 e1 e2 e3 e4
    obtain ⟨kn, hkn⟩ : ∃ n, Hid (nodeAt s.keys p = n) := ⟨_, hid rfl⟩
    have hnd : dk[p].1 = kn := (nodeAt_of hd1 hpl).symm.trans hkn.out
    obtain ⟨sl, hsl⟩ : ∃ sl, dk[p].2 = sl := ⟨_, rfl⟩
    rw [hnd] at e0 e1 e2 e3 hargs
    rw [hsl] at e4 hargs
    obtain ⟨ua, uc, hvv⟩ := hargs.form
    subst hvv
    have HKN : Hid (NodeOk kn ∧ NodeSm kn) := by
      refine HOK.out.2 kn ?_
      rw [← hnd, ← hd1]
      exact List.mem_map_of_mem (List.getElem_mem hpl)
    have hlk : kn.args.length ≤ 1000000 := by have := HKN.out.2.args; omega
    have HAR := hid hargs
    have HVK := hid hvn
    obtain ⟨dl2, hdl2⟩ : ∃ dl, dk.length = dl := ⟨_, rfl⟩
    rw [hdl2] at HVK hpl
    have hpi : (p : Int) < (dl2 : Int) := by omega
    have E0 := hid (And.intro e0 (And.intro e1 (And.intro e2 (And.intro e3 e4))))
    obtain ⟨rs, hrs⟩ : ∃ r, Hid ((nodeCmp key kn == 0) = r) := ⟨_, hid rfl⟩
    have CS : Hid (∀ W', Fr NoB wc W' → Calls Tryz.prog 66 #[nodeV key (.slice ka n.args.length kc), nodeV kn (.slice ua kn.args.length uc)] W' fun e w' => e = .returned (.bool rs) ∧ Fr NoB wc w') := fun W' hf => by
      refine (hcSame_any NoB key kn (.slice ka n.args.length kc) (.slice ua kn.args.length uc) W' (L7.out.quiet hf (.inr rfl)).rd (HAR.out.fr hf (fun _ _ h => h.elim)) hka hlk).mono ?_
      rintro e w' ⟨rfl, hf2⟩
      rw [hrs.out]
      exact ⟨rfl, hf.step hf2⟩
    clear hd1 hd2 hd3 hd4 hdl hvn hrdn hnd hsl hargs hdl2
    obtain ⟨k0, k1, k2, k3, k4, k5, k6, k7, k8, k9, k10, kf, kl⟩ := A7.out.g.cells
    rw [HVK.out] at k2
    clear k0 k1 k3 k4 k5 k6 k7 k8 k9 k10 kf
    obtain ⟨y0, y1, y2, y3, y4, yf, yl⟩ := five_of L7.out.box
    have lb := lt_of_cell e0
    go_wp2
    refine region_txt (Fr NoB _) (by kernel_rfl) (by kernel_rfl) ((Fr.refl NoB _).drew) ?_
    repeat (first | (refine txt_off (by rfl) ?_; (try simp only [Act.put, List.setIfInBounds_toArray, List.set_cons_zero, List.set_cons_succ])) | (refine txt_read ?_ (by rfl) ?_ ?_; rotate_left; (focus (intro W hW; have hWc := Fr.cq hW; clear hW; go_simp; (try with_reducible rfl); done)); (try simp only [Act.put, List.setIfInBounds_toArray, List.set_cons_zero, List.set_cons_succ])))
    (refine txt_call (.bool rs) ?_ ?_ (by rfl) ?_ ?_ ?_; rotate_left; rotate_left; (focus (intro W; go_simp; (first | done | (refine And.intro ?_ ?_ <;> with_reducible rfl) | with_reducible rfl); done)); (focus (exact (fun W hW => CS.out W hW))); (try simp only [Act.put, List.setIfInBounds_toArray, List.set_cons_zero, List.set_cons_succ]))
    repeat (first | (refine txt_off (by rfl) ?_; (try simp only [Act.put, List.setIfInBounds_toArray, List.set_cons_zero, List.set_cons_succ])) | (refine txt_read ?_ (by rfl) ?_ ?_; rotate_left; (focus (intro W hW; have hWc := Fr.cq hW; clear hW; go_simp; (try with_reducible rfl); done)); (try simp only [Act.put, List.setIfInBounds_toArray, List.set_cons_zero, List.set_cons_succ])))
    refine txt_nil ?_
    intro w8 hW
    have A8 := hid (A7.out.quiet hW)
    have L8 := hid (L7.out.quiet hW (.inr rfl))
    have E8 := hid (And.intro (hW.cf E0.out.1) (And.intro (hW.cf E0.out.2.1) (And.intro (hW.cf E0.out.2.2.1) (And.intro (hW.cf E0.out.2.2.2.1) (hW.cf E0.out.2.2.2.2)))))
    have HAR8 := hid (HAR.out.fr hW (fun _ _ h => h.elim))
    clear hW k2 kl y0 y1 y2 y3 y4 yf yl lb e0 e1 e2 e3 e4 E0 HAR CS A7 L7
    go_upto_if 30 with fail
    obtain ⟨s9, HS9⟩ : ∃ q, Hid (q = repair1 s p) := ⟨_, hid rfl⟩
    go_cut [] (fun wx => ∃ c9 h9, Hid (AdW c W bg bc c9 wx h9 s9) ∧ Hid (Loc c9 wx kb key (.slice ka n.args.length kc) 12))
    case first =>
      cases rs with
      | true =>
        have e1 : s9 = s := by
          rw [HS9.out]
          unfold repair1
          simp only
          rw [hn.out, hkn.out, ← HKEY.out, if_pos (by simpa using hrs.out)]
        go_wp2
        go_meet
        exact ⟨c7, h, by rw [e1]; exact A8, L8⟩
      | false =>
        have E1 : Hid (s9 = { s with table := tdelS s.table kn, keys := s.keys.set p key }) := by
          show _ = _
          rw [HS9.out]
          unfold repair1
          simp only
          rw [hn.out, hkn.out, ← HKEY.out, if_neg (by have := hrs.out; simpa using this)]
        have HC3 : Hid (∀ W', Fr NoB w8 W' → W'.cell? ⟨bc, 5, none⟩ = some (.pointer (some ⟨h.bt, 0, none⟩)) ∧ W'.cell? ⟨bc, 2, none⟩ = some (.slice (some ⟨b2, 0, none⟩) dl2 nc2) ∧ W'.cell? ⟨b2, p * 5, none⟩ = some (.int .i64 kn.op) ∧ W'.cell? ⟨b2, p * 5 + 1, none⟩ = some (.int .i64 kn.width) ∧ W'.cell? ⟨b2, p * 5 + 2, none⟩ = some (.int .u64 kn.val) ∧ W'.cell? ⟨b2, p * 5 + 3, none⟩ = some (.string kn.name) ∧ W'.cell? ⟨b2, p * 5 + 4, none⟩ = some (.slice ua kn.args.length uc)) := fun W' hf => by
          obtain ⟨q0, q1, q2, q3, q4, q5, _⟩ := (A8.out.quiet hf).g.cells
          rw [HVK.out] at q2
          exact ⟨q5, q2, hf.cf E8.out.1, hf.cf E8.out.2.1, hf.cf E8.out.2.2.1, hf.cf E8.out.2.2.2.1, hf.cf E8.out.2.2.2.2⟩
        have HC5 : Hid (∀ W' bm, c7 bm = 6 → Fr (fun k => k = bm) w8.drew W' → W'.cell? ⟨bc, 5, none⟩ = some (.pointer (some ⟨h.bt, 0, none⟩)) ∧ W'.cell? ⟨bc, 2, none⟩ = some (.slice (some ⟨b2, 0, none⟩) dl2 nc2) ∧ W'.cell? ⟨b2, p * 5, none⟩ = some (.int .i64 kn.op) ∧ W'.cell? ⟨b2, p * 5 + 1, none⟩ = some (.int .i64 kn.width) ∧ W'.cell? ⟨b2, p * 5 + 2, none⟩ = some (.int .u64 kn.val) ∧ W'.cell? ⟨b2, p * 5 + 3, none⟩ = some (.string kn.name) ∧ W'.cell? ⟨b2, p * 5 + 4, none⟩ = some (.slice ua kn.args.length uc)) := fun W' bm hb hf => by
          have h1 : bc ≠ bm := fun e => by have := A8.out.g.own; rw [e, hb] at this; omega
          obtain ⟨dk9, _, _, hcol, _⟩ := A8.out.g.keys
          have h2 : b2 ≠ bm := fun e => by
            have := hcol b2 (by rw [HVK.out]; rfl)
            rw [e, hb] at this; omega
          obtain ⟨a1, a2, a3, a4, a5, a6, a7⟩ := HC3.out w8.drew (Fr.refl _ _).drew
          exact ⟨(hf.cell (p := ⟨bc, 5, none⟩) (lt_of_cell a1) h1).trans a1, (hf.cell (p := ⟨bc, 2, none⟩) (lt_of_cell a2) h1).trans a2, (hf.cell (p := ⟨b2, p * 5, none⟩) (lt_of_cell a3) h2).trans a3, (hf.cell (p := ⟨b2, p * 5 + 1, none⟩) (lt_of_cell a4) h2).trans a4, (hf.cell (p := ⟨b2, p * 5 + 2, none⟩) (lt_of_cell a5) h2).trans a5, (hf.cell (p := ⟨b2, p * 5 + 3, none⟩) (lt_of_cell a6) h2).trans a6, (hf.cell (p := ⟨b2, p * 5 + 4, none⟩) (lt_of_cell a7) h2).trans a7⟩
        go_wp2
        refine region_eff (fun W' => W'.cell? ⟨bc, 5, none⟩ = some (.pointer (some ⟨h.bt, 0, none⟩)) ∧ W'.cell? ⟨bc, 2, none⟩ = some (.slice (some ⟨b2, 0, none⟩) dl2 nc2) ∧ W'.cell? ⟨b2, p * 5, none⟩ = some (.int .i64 kn.op) ∧ W'.cell? ⟨b2, p * 5 + 1, none⟩ = some (.int .i64 kn.width) ∧ W'.cell? ⟨b2, p * 5 + 2, none⟩ = some (.int .u64 kn.val) ∧ W'.cell? ⟨b2, p * 5 + 3, none⟩ = some (.string kn.name) ∧ W'.cell? ⟨b2, p * 5 + 4, none⟩ = some (.slice ua kn.args.length uc)) 12 [(0, 1), (1, 1), (2, 1), (3, 0), (4, 1), (5, 1), (6, 1), (7, 0), (8, 1), (9, 1), (10, 0), (11, 2)] (by kernel_rfl) (by kernel_rfl) ?_ ?_
        · exact HC3.out w8.drew (Fr.refl _ _).drew
        repeat (first | (refine eff_off (by rfl) (by rfl) ?_; (try simp only [Act.put, List.setIfInBounds_toArray, List.set_cons_zero, List.set_cons_succ])) | (refine eff_off0 (by rfl) (by rfl) ?_; (try simp only [Act.put, List.setIfInBounds_toArray, List.set_cons_zero, List.set_cons_succ])) | (refine eff_pu ?_ (by rfl) (by rfl) ?_ ?_; rotate_left; (focus (intro w'; go_simp; (try with_reducible rfl); done)); (try simp only [Act.put, List.setIfInBounds_toArray, List.set_cons_zero, List.set_cons_succ])) | (refine eff_rd ?_ (by rfl) (by rfl) ?_ ?_; rotate_left; (focus (intro w' hS; (try obtain ⟨hq1, hS⟩ := hS); (try obtain ⟨hq2, hS⟩ := hS); (try obtain ⟨hq3, hS⟩ := hS); (try obtain ⟨hq4, hS⟩ := hS); (try obtain ⟨hq5, hS⟩ := hS); (try obtain ⟨hq6, hS⟩ := hS); (try obtain ⟨hq7, hS⟩ := hS); (try obtain ⟨hq8, hS⟩ := hS); (try obtain ⟨hq9, hS⟩ := hS); (try obtain ⟨hq10, hS⟩ := hS); (try obtain ⟨hq11, hS⟩ := hS); (try obtain ⟨hq12, hS⟩ := hS); (try obtain ⟨hq13, hS⟩ := hS); (try obtain ⟨hq14, hS⟩ := hS); (try obtain ⟨hq15, hS⟩ := hS); (try obtain ⟨hq16, hS⟩ := hS); (try obtain ⟨hq17, hS⟩ := hS); (try obtain ⟨hq18, hS⟩ := hS); (try obtain ⟨hq19, hS⟩ := hS); (try dsimp only at hS); go_simp; (try with_reducible rfl); done)); (try simp only [Act.put, List.setIfInBounds_toArray, List.set_cons_zero, List.set_cons_succ])))
        refine eff_call 67 #[.pointer (some ⟨h.bt, 0, none⟩), nodeV kn (.slice ua kn.args.length uc)] (by rfl) (by rfl) (by intro w'; go_simp) ?_
        refine ((A8.out.quiet (Fr.refl NoB w8).drew).delT_any kn (.slice ua kn.args.length uc) (HAR8.out.fr (Fr.refl NoB w8).drew (fun _ _ h => h.elim)) HKN.out.1 HKN.out.2).mono ?_
        rintro e w10 ⟨⟨bb, rfl⟩, ⟨c10, N10, f10, x10⟩, bm, hbm, fbm⟩
        have A10 := hid N10
        have L10 := hid ((L8.out.quiet (Fr.refl NoB w8).drew (.inr rfl)).turn f10 x10 (.inr rfl))
        refine ⟨_, rfl, fun _ => HC5.out w10 bm hbm fbm, ?_⟩
        (try simp only [Act.put, List.setIfInBounds_toArray, List.set_cons_zero, List.set_cons_succ])
        refine eff_nil ?_
        clear fbm hbm HC5 N10 f10 x10 HC3 E8 HAR8 A8 L8
        have hkp : p < s.keys.length := by rw [HKL.out]; exact HP.out
        have HKC := hid (A10.out.g.keyCells HVK.out hkp)
        have HC4 : Hid (∀ W', Fr NoB w10 W' → W'.cell? ⟨bc, 2, none⟩ = some (.slice (some ⟨b2, 0, none⟩) dl2 nc2) ∧ W'.cell? ⟨kb, 0, none⟩ = some (.int .i64 key.op) ∧ W'.cell? ⟨kb, 1, none⟩ = some (.int .i64 key.width) ∧ W'.cell? ⟨kb, 2, none⟩ = some (.int .u64 key.val) ∧ W'.cell? ⟨kb, 3, none⟩ = some (.string key.name) ∧ W'.cell? ⟨kb, 4, none⟩ = some (.slice ka n.args.length kc)) := fun W' hf => by
          obtain ⟨q0, q1, q2, _⟩ := (A10.out.quiet hf).g.cells
          rw [show h.vk = _ from HVK.out] at q2
          obtain ⟨y0, y1, y2, y3, y4, _, _⟩ := five_of (L10.out.quiet hf (.inr rfl)).box
          exact ⟨q2, y0, y1, y2, y3, y4⟩
        obtain ⟨z0, z1, z2, z3, z4, a0, a1, a2, a3, a4, az⟩ := HKC.out
        have lz := lt_of_cell a0
        have SK := hid (A10.out.quiet (Fr.refl NoB w10).drew |>.g.setKeyAt HVK.out hkp (L10.out.quiet (Fr.refl NoB w10).drew (.inr rfl)).arg)
        go_wp2
        refine region_eff (fun W' => W'.cell? ⟨bc, 2, none⟩ = some (.slice (some ⟨b2, 0, none⟩) dl2 nc2) ∧ W'.cell? ⟨kb, 0, none⟩ = some (.int .i64 key.op) ∧ W'.cell? ⟨kb, 1, none⟩ = some (.int .i64 key.width) ∧ W'.cell? ⟨kb, 2, none⟩ = some (.int .u64 key.val) ∧ W'.cell? ⟨kb, 3, none⟩ = some (.string key.name) ∧ W'.cell? ⟨kb, 4, none⟩ = some (.slice ka n.args.length kc)) 7 [(0, 1), (1, 1), (2, 1), (3, 0), (4, 1), (5, 0), (6, 1), (7, 2)] (by kernel_rfl) (by kernel_rfl) ?_ ?_
        · exact HC4.out w10.drew (Fr.refl _ _).drew
        repeat (first | (refine eff_off (by rfl) (by rfl) ?_; (try simp only [Act.put, List.setIfInBounds_toArray, List.set_cons_zero, List.set_cons_succ])) | (refine eff_off0 (by rfl) (by rfl) ?_; (try simp only [Act.put, List.setIfInBounds_toArray, List.set_cons_zero, List.set_cons_succ])) | (refine eff_pu ?_ (by rfl) (by rfl) ?_ ?_; rotate_left; (focus (intro w'; go_simp; (try with_reducible rfl); done)); (try simp only [Act.put, List.setIfInBounds_toArray, List.set_cons_zero, List.set_cons_succ])) | (refine eff_rd ?_ (by rfl) (by rfl) ?_ ?_; rotate_left; (focus (intro w' hS; (try obtain ⟨hq1, hS⟩ := hS); (try obtain ⟨hq2, hS⟩ := hS); (try obtain ⟨hq3, hS⟩ := hS); (try obtain ⟨hq4, hS⟩ := hS); (try obtain ⟨hq5, hS⟩ := hS); (try obtain ⟨hq6, hS⟩ := hS); (try obtain ⟨hq7, hS⟩ := hS); (try obtain ⟨hq8, hS⟩ := hS); (try obtain ⟨hq9, hS⟩ := hS); (try obtain ⟨hq10, hS⟩ := hS); (try obtain ⟨hq11, hS⟩ := hS); (try obtain ⟨hq12, hS⟩ := hS); (try obtain ⟨hq13, hS⟩ := hS); (try obtain ⟨hq14, hS⟩ := hS); (try obtain ⟨hq15, hS⟩ := hS); (try obtain ⟨hq16, hS⟩ := hS); (try obtain ⟨hq17, hS⟩ := hS); (try obtain ⟨hq18, hS⟩ := hS); (try obtain ⟨hq19, hS⟩ := hS); (try dsimp only at hS); go_simp; (try with_reducible rfl); done)); (try simp only [Act.put, List.setIfInBounds_toArray, List.set_cons_zero, List.set_cons_succ])))
        refine eff_skip (W' := (((((w10.drew.setCell ⟨b2, p * 5, none⟩ (.int .i64 key.op)).setCell ⟨b2, p * 5 + 1, none⟩ (.int .i64 key.width)).setCell ⟨b2, p * 5 + 2, none⟩ (.int .u64 key.val)).setCell ⟨b2, p * 5 + 3, none⟩ (.string key.name)).setCell ⟨b2, p * 5 + 4, none⟩ (.slice ka n.args.length kc))) (by rfl) (by rfl) (by go_simp) (fun h => absurd rfl h) ?_
        (try simp only [Act.put, List.setIfInBounds_toArray, List.set_cons_zero, List.set_cons_succ])
        refine eff_nil ?_
        clear a0 a1 a2 a3 a4 az lz
        go_wp2
        go_meet
        refine ⟨c10, h, ?_, ?_⟩
        · rw [E1.out]
          exact (A10.out.quiet (Fr.refl NoB w10).drew).turn SK.out.1 SK.out.2 (Ext.refl _ _)
        · exact (L10.out.quiet (Fr.refl NoB w10).drew (.inr rfl)).turn SK.out.2 (Ext.refl _ _) (.inr rfl)
    case rest =>
      obtain ⟨c9, h9, A9, L9⟩ := hcut
      clear E8 HAR8 A8 L8
      have HRR : Hid (R = repair2 s9 key p) := by
        show _ = _
        rw [hR.out, HS9.out]
        unfold repairS
        rw [hn.out, ← HKEY.out]
      have HSM : Hid (s9.uf.tr.length < 3000000 ∧ s9.links.length ≤ 1000000 ∧ s9.todo.length ≤ 1000000000) := by
        show _ ∧ _ ∧ _
        obtain ⟨e1, e2, e3, _⟩ := repair1_same s p
        rw [HS9.out, e1, e2, e3]
        exact HSZ.out
      obtain ⟨xt, hxt⟩ : ∃ xt, Hid (tgetS s9.table key = xt) := ⟨_, hid rfl⟩
      obtain ⟨wv, hwv⟩ : ∃ w, wc = w := ⟨_, rfl⟩
      subst hwv
      have CG : Hid (∀ W', Fr NoB wc W' → Calls Tryz.prog 27 #[.pointer (some ⟨h9.bt, 0, none⟩), nodeV key (.slice ka n.args.length kc)] W' fun e w' => e = .returned (.tuple #[.int .i64 (xt.getD 0), .bool xt.isSome]) ∧ Fr NoB wc w') := fun W' hW => by
        refine ((A9.out.quiet hW).g.table.get_any key (.slice ka n.args.length kc) (L9.out.quiet hW (.inr rfl)).rd HKO.out.1 HKO.out.2 (A9.out.quiet hW).tab).mono ?_
        rintro e w' ⟨rfl, hf⟩
        rw [hxt.out]
        exact ⟨rfl, hW.step hf⟩
      obtain ⟨k0, k1, k2, k3, k4, k5, k6, k7, k8, k9, k10, kf, kl⟩ := A9.out.g.cells
      clear k0 k1 k2 k3 k4 k6 k7 k8 k9 k10 kf
      obtain ⟨y0, y1, y2, y3, y4, yf, yl⟩ := five_of L9.out.box
      go_wp2
      refine region_txt (Fr NoB _) (by kernel_rfl) (by kernel_rfl) ((Fr.refl NoB _).drew) ?_
      repeat (first | (refine txt_off (by rfl) ?_; (try simp only [Act.put, List.setIfInBounds_toArray, List.set_cons_zero, List.set_cons_succ])) | (refine txt_read ?_ (by rfl) ?_ ?_; rotate_left; (focus (intro W hW; have hWc := Fr.cq hW; clear hW; go_simp; (try with_reducible rfl); done)); (try simp only [Act.put, List.setIfInBounds_toArray, List.set_cons_zero, List.set_cons_succ])))
      (refine txt_call (.tuple #[.int .i64 (xt.getD 0), .bool xt.isSome]) ?_ ?_ (by rfl) ?_ ?_ ?_; rotate_left; rotate_left; (focus (intro W; go_simp; (first | done | (refine And.intro ?_ ?_ <;> with_reducible rfl) | with_reducible rfl); done)); (focus (exact (fun W hW => CG.out W hW))); (try simp only [Act.put, List.setIfInBounds_toArray, List.set_cons_zero, List.set_cons_succ]))
      repeat (first | (refine txt_off (by rfl) ?_; (try simp only [Act.put, List.setIfInBounds_toArray, List.set_cons_zero, List.set_cons_succ])) | (refine txt_read ?_ (by rfl) ?_ ?_; rotate_left; (focus (intro W hW; have hWc := Fr.cq hW; clear hW; go_simp; (try with_reducible rfl); done)); (try simp only [Act.put, List.setIfInBounds_toArray, List.set_cons_zero, List.set_cons_succ])))
      refine txt_nil ?_
      intro w14 hW
      have A14 := hid (A9.out.quiet hW)
      have L14 := hid (L9.out.quiet hW (.inr rfl))
      clear hW k5 kl y0 y1 y2 y3 y4 yf yl CG A9 L9
      cases xt with
      | none =>
        simp only [Option.getD_none, Option.isSome_none]
        have e1 : R = ({ s9 with table := s9.table ++ [(key, (p : Int))] }, 0) := by
          rw [HRR.out]
          unfold repair2
          rw [hxt.out]
        have E1 := hid e1
        clear e1
        have kl := A14.out.g.lb
        have obl := (Array.getElem?_eq_some_iff.1 L14.out.box).1
        have HS : Hid (∀ W', Fr NoB w14 W' → W'.cell? ⟨bc, 5, none⟩ = some (.pointer (some ⟨h9.bt, 0, none⟩)) ∧ W'.cell? ⟨kb, 0, none⟩ = some (.int .i64 key.op) ∧ W'.cell? ⟨kb, 1, none⟩ = some (.int .i64 key.width) ∧ W'.cell? ⟨kb, 2, none⟩ = some (.int .u64 key.val) ∧ W'.cell? ⟨kb, 3, none⟩ = some (.string key.name) ∧ W'.cell? ⟨kb, 4, none⟩ = some (.slice ka n.args.length kc)) := fun W' hf => by
          obtain ⟨q0, q1, q2, q3, q4, q5, _⟩ := (A14.out.quiet hf).g.cells
          obtain ⟨y0, y1, y2, y3, y4, _, _⟩ := five_of (L14.out.quiet hf (.inr rfl)).box
          exact ⟨q5, y0, y1, y2, y3, y4⟩
        go_wp2
        refine region_eff (fun W' => W'.cell? ⟨bc, 5, none⟩ = some (.pointer (some ⟨h9.bt, 0, none⟩)) ∧ W'.cell? ⟨kb, 0, none⟩ = some (.int .i64 key.op) ∧ W'.cell? ⟨kb, 1, none⟩ = some (.int .i64 key.width) ∧ W'.cell? ⟨kb, 2, none⟩ = some (.int .u64 key.val) ∧ W'.cell? ⟨kb, 3, none⟩ = some (.string key.name) ∧ W'.cell? ⟨kb, 4, none⟩ = some (.slice ka n.args.length kc)) 6 [(0, 1), (1, 1), (2, 1), (3, 0), (4, 0), (5, 1), (6, 2)] (by kernel_rfl) (by kernel_rfl) ?_ ?_
        · exact HS.out w14.drew (Fr.refl _ _).drew
        repeat (first | (refine eff_off (by rfl) (by rfl) ?_; (try simp only [Act.put, List.setIfInBounds_toArray, List.set_cons_zero, List.set_cons_succ])) | (refine eff_off0 (by rfl) (by rfl) ?_; (try simp only [Act.put, List.setIfInBounds_toArray, List.set_cons_zero, List.set_cons_succ])) | (refine eff_pu ?_ (by rfl) (by rfl) ?_ ?_; rotate_left; (focus (intro w'; go_simp; (try with_reducible rfl); done)); (try simp only [Act.put, List.setIfInBounds_toArray, List.set_cons_zero, List.set_cons_succ])) | (refine eff_rd ?_ (by rfl) (by rfl) ?_ ?_; rotate_left; (focus (intro w' hS; (try obtain ⟨hq1, hS⟩ := hS); (try obtain ⟨hq2, hS⟩ := hS); (try obtain ⟨hq3, hS⟩ := hS); (try obtain ⟨hq4, hS⟩ := hS); (try obtain ⟨hq5, hS⟩ := hS); (try obtain ⟨hq6, hS⟩ := hS); (try obtain ⟨hq7, hS⟩ := hS); (try obtain ⟨hq8, hS⟩ := hS); (try obtain ⟨hq9, hS⟩ := hS); (try obtain ⟨hq10, hS⟩ := hS); (try obtain ⟨hq11, hS⟩ := hS); (try obtain ⟨hq12, hS⟩ := hS); (try obtain ⟨hq13, hS⟩ := hS); (try obtain ⟨hq14, hS⟩ := hS); (try obtain ⟨hq15, hS⟩ := hS); (try obtain ⟨hq16, hS⟩ := hS); (try obtain ⟨hq17, hS⟩ := hS); (try obtain ⟨hq18, hS⟩ := hS); (try obtain ⟨hq19, hS⟩ := hS); (try dsimp only at hS); go_simp; (try with_reducible rfl); done)); (try simp only [Act.put, List.setIfInBounds_toArray, List.set_cons_zero, List.set_cons_succ])))
        refine eff_call 32 #[.pointer (some ⟨h9.bt, 0, none⟩), nodeV key (.slice ka n.args.length kc), .int .i64 p] (by rfl) (by rfl) (by intro w'; go_simp) ?_
        refine ((A14.out.quiet (Fr.refl NoB w14).drew).putT_any key (.slice ka n.args.length kc) p ((L14.out.quiet (Fr.refl NoB w14).drew (.inr rfl)).rd) HKO.out.1 HKO.out.2 (by exact hxt.out)).mono ?_
        rintro e w15 ⟨rfl, ht⟩
        obtain ⟨c15, N15, _, _⟩ := ht
        have A15 := hid N15
        refine ⟨_, rfl, fun h => absurd rfl h, ?_⟩
        (try simp only [Act.put, List.setIfInBounds_toArray, List.set_cons_zero, List.set_cons_succ])
        refine eff_nil ?_
        clear N15 HS kl obl A14 L14
        go_wp2
        go_ret
        rw [E1.out]
        exact ⟨rfl, _, _, A15.out⟩
      | some other =>
        simp only [Option.getD_some, Option.isSome_some]
        obtain ⟨sm, hsm⟩ : ∃ q, Hid (sameS2 s9.uf.par other p = q) := ⟨_, hid rfl⟩
        obtain ⟨k0, k1, k2, k3, k4, k5, k6, k7, k8, k9, k10, kf, kl⟩ := A14.out.g.cells
        clear k1 k2 k3 k4 k5 k6 k7 k8 k9 k10 kf
        go_wp2_with fail
        refine (ufsame_any other p A14.out.g.sets).mono ?_
        rintro e w' ⟨rfl, hw9⟩
        subst hw9
        rw [hsm.out]
        clear k0 kl
        cases sm with
        | true =>
          have e1 : R = (s9, 0) := by
            rw [HRR.out]
            unfold repair2
            rw [hxt.out]
            simp only
            rw [hsm.out]; rfl
          have E1 := hid e1
          clear e1
          go_wp2
          go_ret
          rw [E1.out]
          exact ⟨rfl, _, _, A14.out⟩
        | false =>
          have e1 : R = (joinS s9 other p (-1), 1) := by
            rw [HRR.out]
            unfold repair2
            rw [hxt.out]
            simp only
            rw [hsm.out]; rfl
          have E1 := hid e1
          clear e1
          go_wp2_with fail
          refine (join_any A14.out.self other p (-1) HSM.out.1 HSM.out.2.1 HSM.out.2.2).mono ?_
          rintro e w15 ⟨rfl, c15, h15, b15⟩
          have A15 := hid (A14.out.comp b15)
          clear b15
          go_wp2
          go_ret
          rw [E1.out]
          exact ⟨rfl, _, _, A15.out⟩
end
end Go.Proofs.YtlekoceindepnaaGreatDoor
end
