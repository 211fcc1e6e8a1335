import Derived.Test.YtlekoceindepnaaGreatDoorPk0
import Derived.Test.YtlekoceindepnaaGreatDoorPk1
import Derived.Deep.AppendLies
import Derived.Deep.RegionHeld3
import Derived.Laws.IdiomStrings
import Derived.Lib.AppendStr
import Derived.Maps.OwnOps
import Derived.Test.YtlekoceindepnaaGreatDoorShelf
set_option linter.all false
section
/- The walk of forest.add. -/
namespace Go.Proofs.YtlekoceindepnaaGreatDoor
open Go.RowKit
set_option maxRecDepth 100000

abbrev OwnL (w : World) (v : Value) (l : List Lnk) : Prop := OwnE lkCells 3 81 0 w v l
theorem infoLnk : (Tryz.prog.info? 81).map (fun i => (i.zero, i.size, i.bytes)) = some (some (.agg #[.int .i64 0, .int .i64 0, .int .i64 0]), 3, 24) := by kernel_rfl
theorem ap_lnk (w : World) {ops : Array Oper} {rest : List Oper} {o : Oper} {a : Act} {Q : Exit → Act → World → Prop} (hg : o.guard = none) (s x : Operand)
    (ho : o.op = .call { callee := .builtin .append, args := #[s, x], argTypes := #[38, 38] }) (v : Value) (l : List Lnk) (hs : a.eval s = v) (hown : OwnL w v l)
    (u : Value) (m : List Lnk) (hx : a.eval x = u) (hrd : RdE lkCells NoB w u m) (hlen : l.length + m.length ≤ 1000000000)
    (h : ∀ p q w', OwnL w' (.slice p (l ++ m).length q) (l ++ m) → w.grownBy w' v.ownBlock → ((Value.slice p (l ++ m).length q).ownBlock = v.ownBlock ∨ (Value.slice p (l ++ m).length q).ownBlock = some w.heap.size) → wpList Tryz.prog ops Q rest (a.put o.dst (.slice p (l ++ m).length q)) w') : wpList Tryz.prog ops Q (o :: rest) a w := by
  refine ap_rows (z := .agg #[.int .i64 0, .int .i64 0, .int .i64 0]) (bytes := 24) w lkLen (by decide) Tryz.underlying38 infoLnk rfl hg s x ho 0 v l hs hown NoB u m hx hrd (fun y hy u hu => ?_) (by omega) (by omega) (Nat.zero_le _) (fun v' w' h1 h2 h3 => ?_)
  · simp only [lkCells, List.mem_cons, List.not_mem_nil, or_false] at hu
    rcases hu with rfl | rfl | rfl <;> rfl
  · obtain ⟨p, q, hv⟩ := OwnE.form h1
    subst hv
    exact h p q w' h1 h2 h3
theorem rdL_lit {w : World} (l : Lnk) {e : TypeId} {b : Nat} (hb : b = w.heap.size) : RdE lkCells NoB (w.alloc (.cells #[.int .i64 l.a, .int .i64 l.b, .int .i64 l.why] e)) (.slice (some ⟨b, 0, none⟩) 1 1) [l] := by
  subst hb
  refine .inr ⟨w.heap.size, 0, 1, rfl, by simp, fun h => h, Nat.le_refl _, ?_⟩
  have hb := at_new w (.cells #[.int .i64 l.a, .int .i64 l.b, .int .i64 l.why] e)
  intro j u hj
  rw [Nat.zero_add]
  match j, hj with
  | 0, hj => simp [flatE, lkCells] at hj; subst hj; (unfold World.cell?; simp only [hb]; rfl)
  | 1, hj => simp [flatE, lkCells] at hj; subst hj; (unfold World.cell?; simp only [hb]; rfl)
  | 2, hj => simp [flatE, lkCells] at hj; subst hj; (unfold World.cell?; simp only [hb]; rfl)
  | j + 3, hj => simp [flatE, lkCells] at hj

/-- A forest of the links L, of whose ids r gives the root; all its blocks are in M. -/
structure ForAt (M : Nat → Prop) (w : World) (bf : Nat) (L : List Lnk) (r : Int → Int) : Prop where
  ex : ∃ bn bu sl g rk, FHead w bf bn bu sl ∧ OwnL w sl L ∧ (∀ b, sl.ownBlock = some b → M b) ∧ NearIs M w bn (nearL L) ∧ UpIs w bu g ∧ UpOk g r rk ∧ bu ≠ bn ∧ M bf ∧ M bn ∧ M bu
  lt : ∀ k, M k → k < w.heap.size
theorem UpIs.ne_cells {w : World} {q b : Nat} {g : Int → Option Int} (h : UpIs w q g) {c : Array Value} {e : TypeId} {f : Nat × Nat} (h' : w.heap[b]? = some (.cells c e f)) : b ≠ q := by
  obtain ⟨m, h1, _⟩ := h
  exact h1.ne_cells h'
theorem NearIs.ne_cells {N : Nat → Prop} {w : World} {q b : Nat} {g : Int → List Int} (h : NearIs N w q g) {c : Array Value} {e : TypeId} {f : Nat × Nat} (h' : w.heap[b]? = some (.cells c e f)) : b ≠ q := by
  obtain ⟨m, h1, _⟩ := h
  exact h1.ne_cells h'
theorem NearIs.lt {N : Nat → Prop} {w : World} {q : Nat} {g : Int → List Int} (h : NearIs N w q g) : q < w.heap.size := by obtain ⟨m, h1, _⟩ := h; exact h1.lt
theorem NearIs.mono {N N' : Nat → Prop} {w : World} {q : Nat} {g : Int → List Int} (h : NearIs N w q g) (hn : ∀ k, k < w.heap.size → N k → N' k) : NearIs N' w q g := by
  obtain ⟨m, h1, h2, h3, h4⟩ := h
  exact ⟨m, h1, h2, fun k v hk => ⟨(h3 k v hk).1, fun b hb => hn b (World.ownsRow.lt (h3 k v hk).1 b hb).2 ((h3 k v hk).2 b hb)⟩, h4⟩
theorem FHead.fr {M : Nat → Prop} {w w' : World} {bf bn bu : Nat} {sl : Value} (h : FHead w bf bn bu sl) (hf : Fr M w w') (hm : ¬ M bf) : FHead w' bf bn bu sl := hf.at hm h

/-- What the links' rows (near) of one end turn to. -/
structure Mid (M : Nat → Prop) (w W : World) (bf bn bu : Nat) (sl : Value) (L : List Lnk) (nl : Int → List Int) (g : Int → Option Int) (q : Nat) (l : Lnk) : Prop where
  head : FHead W bf bn bu sl
  own : OwnL W sl L
  near : NearIs (fun k => M k ∨ w.heap.size ≤ k) W bn nl
  up : UpIs W bu g
  box : W.heap[q]? = some (.cells #[.int .i64 l.a, .int .i64 l.b, .int .i64 l.why] 81 (0, 0))
  fr : Fr M w W
theorem Mid.quiet {M : Nat → Prop} {w W W' : World} {bf bn bu q : Nat} {sl : Value} {L : List Lnk} {nl : Int → List Int} {g : Int → Option Int} {l : Lnk} (h : Mid M w W bf bn bu sl L nl g q l) (hf : Fr NoB W W') : Mid M w W' bf bn bu sl L nl g q l :=
  ⟨h.head.fr hf (fun h => h), h.own.step hf, h.near.fr hf (fun h => h) (fun _ _ h => h), h.up.fr hf (fun h => h), hf.at (fun h => h) h.box, h.fr.step hf⟩
theorem Mid.cells {M : Nat → Prop} {w W : World} {bf bn bu q : Nat} {sl : Value} {L : List Lnk} {nl : Int → List Int} {g : Int → Option Int} {l : Lnk} (h : Mid M w W bf bn bu sl L nl g q l) :
    W.cell? ⟨bf, 1, none⟩ = some sl ∧ W.cell? ⟨bf, 2, none⟩ = some (.map (some bn)) ∧ W.cell? ⟨q, 0, none⟩ = some (.int .i64 l.a) ∧ W.cell? ⟨q, 1, none⟩ = some (.int .i64 l.b) := by
  obtain ⟨_, c1, c2, _, _, _⟩ := h.head.cells
  obtain ⟨e0, e1, _⟩ := three_of h.box
  exact ⟨c1, c2, e0, e1⟩

/-- What the region reads. -/
def MidS (bf bn q : Nat) (sl : Value) (l : Lnk) (x : Int) (row : Value) (w' : World) : Prop := w'.cell? ⟨bf, 1, none⟩ = some sl ∧ w'.cell? ⟨bf, 2, none⟩ = some (.map (some bn)) ∧ w'.cell? ⟨q, 0, none⟩ = some (.int .i64 l.a) ∧ w'.cell? ⟨q, 1, none⟩ = some (.int .i64 l.b) ∧
  (Instr.lookup 99 (.map (some bn)) (.int .i64 x) false).run Tryz.prog w' = .ok row w'
theorem Mid.look {M : Nat → Prop} {w W : World} {bf bn bu q : Nat} {sl : Value} {L : List Lnk} {nl : Int → List Int} {g : Int → Option Int} {l : Lnk} (h : Mid M w W bf bn bu sl L nl g q l) (hne : bu ≠ bn) (hM : M bn) (x : Int) :
    ∃ p c, OwnI 0 W (.slice p (nl x).length c) (nl x) ∧ (∀ W', Fr (fun b => (Value.slice p (nl x).length c).ownBlock = some b) W W' → MidS bf bn q sl l x (.slice p (nl x).length c) W') ∧
      (∀ (w6 : World) (v6 : Value) (l' : List Int), Fr (fun b => (Value.slice p (nl x).length c).ownBlock = some b) W w6 → OwnI 0 w6 v6 l' → (v6.ownBlock = (Value.slice p (nl x).length c).ownBlock ∨ ∃ q, v6.ownBlock = some q ∧ W.heap.size ≤ q) →
        ∃ w7, (Instr.mapUpdate 99 (.map (some bn)) (.int .i64 x) v6).run Tryz.prog w6 = .ok () w7 ∧ Mid M w w7 bf bn bu sl L (fun k => if k = x then l' else nl k) g q l) := by
  obtain ⟨p, c, lk, ow, hN, upd⟩ := h.near.look x
  have dbf : ¬ (Value.slice p (nl x).length c).ownBlock = some bf := fun e => by
    obtain ⟨cur, hc⟩ := ow.head e
    exact ne_of_types hc h.head (by decide) rfl
  have dq : ¬ (Value.slice p (nl x).length c).ownBlock = some q := fun e => by
    obtain ⟨cur, hc⟩ := ow.head e
    exact ne_of_types hc h.box (by decide) rfl
  have dbn : ¬ (Value.slice p (nl x).length c).ownBlock = some bn := fun e => by
    obtain ⟨cur, hc⟩ := ow.head e
    exact h.near.ne_cells hc rfl
  have dbu : ¬ (Value.slice p (nl x).length c).ownBlock = some bu := fun e => by
    obtain ⟨cur, hc⟩ := ow.head e
    exact h.up.ne_cells hc rfl
  have dsl : ∀ b, sl.ownBlock = some b → ¬ (Value.slice p (nl x).length c).ownBlock = some b := fun b hb e => by
    obtain ⟨cur, hc⟩ := ow.head e
    obtain ⟨cur', hc'⟩ := OwnE.head h.own hb
    exact ne_of_types hc hc' (by decide) rfl
  refine ⟨p, c, ow, fun W' hf => ?_, fun w6 v6 l' hf ho hb => ?_⟩
  · obtain ⟨_, c1, c2, _, _, _⟩ := (h.head.fr hf dbf).cells
    obtain ⟨e0, e1, _⟩ := three_of (hf.at dq h.box)
    exact ⟨c1, c2, e0, e1, lk W' (hf.block bn h.near.lt dbn)⟩
  · obtain ⟨w7, e1, e2, e3⟩ := upd w6 v6 l' hf ho hb
    have h6 := h.head.fr hf dbf
    have hbn : bf ≠ bn := h.near.ne_cells h.head
    have hq : q ≠ bn := h.near.ne_cells h.box
    refine ⟨w7, e1, ⟨h6.fr e3 hbn, (h.own.fr hf dsl).fr e3 (fun b hb2 e9 => ?_), e2.mono (fun k _ hk => ?_), (h.up.fr hf dbu).fr e3 hne, e3.at hq (hf.at dq h.box), ?_⟩⟩
    · obtain ⟨cur', hc'⟩ := OwnE.head h.own hb2
      exact h.near.ne_cells hc' e9
    · rcases hk with hk | hk
      · exact hk
      · exact .inr (Nat.le_trans h.fr.size hk)
    · refine (h.fr.trans' hf (fun k hk e9 => ?_)).trans' e3 (fun k _ e9 => by rw [show k = bn from e9]; exact hM)
      rcases hN k e9 with h1 | h1
      · exact h1
      · omega


set_option maxHeartbeats 4000000 in
theorem fadd_any (M : Nat → Prop) (w : World) (bf : Nat) (L : List Lnk) (r : Int → Int) (l : Lnk) (h : ForAt M w bf L r) (hL : L.length ≤ 1000000) (hab : r l.a ≠ r l.b) (hne : l.a ≠ l.b) :
    Calls Tryz.prog 62 #[.pointer (some ⟨bf, 0, none⟩), .agg #[.int .i64 l.a, .int .i64 l.b, .int .i64 l.why]] w fun e w' => e = .returned (.tuple #[]) ∧ (∃ M', ForAt M' w' bf (L ++ [l]) (fun k => if r k = r l.a then r l.b else r k) ∧ ∀ k, M' k → M k ∨ w.heap.size ≤ k) ∧ Fr M w w' := by
  obtain ⟨bn, bu, sl, g, rk, hh, hs, hsM, hn, hu, ho, hbu, m1, m2, m3⟩ := h.ex
  have HLT := hid h.lt
  obtain ⟨sp, sc, hv⟩ := OwnE.form hs
  subst hv
  have F0 : Fr NoB w (w.alloc (.cells #[.int .i64 l.a, .int .i64 l.b, .int .i64 l.why] 81)) := (Fr.refl NoB w).alloc _
  have MD : Hid (Mid M w (w.alloc (.cells #[.int .i64 l.a, .int .i64 l.b, .int .i64 l.why] 81)) bf bn bu (.slice sp L.length sc) L (nearL L) g w.heap.size l) :=
    ⟨hh.fr F0 (fun h => h), hs.step F0, (hn.mono (fun k _ hk => .inl hk)).fr F0 (fun h => h) (fun _ _ h => h), hu.fr F0 (fun h => h), at_new w _, (Fr.refl M w).alloc _⟩
  obtain ⟨w1, hw1⟩ : ∃ w1, w.alloc (.cells #[.int .i64 l.a, .int .i64 l.b, .int .i64 l.why] 81) = w1 := ⟨_, rfl⟩
  rw [hw1] at MD
  have HW1 := hid hw1
  have HO := hid ho
  have HBU := hid hbu
  have HSM := hid hsM
  have HM1 := hid m1
  have HM2 := hid m2
  have HM3 := hid m3
  have HAB := hid hab
  have HNE := hid hne
  have HNL := hid (nearL_le L)
  clear h hh hs hsM hn hu ho hbu m1 m2 m3 F0 hw1 hab hne
  go_enter Tryz.func62, Tryz.ntmps62
  go_wp2
  rw [HW1.out]
  have MD1 := hid (MD.out.quiet (Fr.refl NoB w1).drew)
  obtain ⟨p, c, ow, st, upd⟩ := MD1.out.look HBU.out HM2.out l.a
  have OW := hid ow
  have ST := hid st
  have UPD := hid upd
  have S0 := ST.out w1.drew (Fr.refl _ _)
  have HKL : Hid (((nearL L) l.a).length ≤ L.length + 1) := Nat.le_succ_of_le (HNL.out _)
  clear ow st upd
  refine region_eff (MidS bf bn w.heap.size (.slice sp L.length sc) l l.a (.slice p ((nearL L) l.a).length c)) 20 [(0, 1), (1, 1), (2, 1), (3, 0), (4, 1), (5, 0), (6, 1), (7, 1), (8, 1), (9, 0), (10, 1), (11, 0), (12, 0), (13, 1), (14, 1), (15, 1), (16, 0), (17, 1), (18, 2), (19, 2), (20, 2)] (by kernel_rfl) (by kernel_rfl) ?_ ?_
  · exact S0
  clear S0
  repeat (first | (refine eff_off (by rfl) (by rfl) ?_; (try simp only [Act.put, List.setIfInBounds_toArray, List.set_cons_zero, List.set_cons_succ])) | (refine eff_off0 (by rfl) (by rfl) ?_; (try simp only [Act.put, List.setIfInBounds_toArray, List.set_cons_zero, List.set_cons_succ])) | (refine eff_pu ?_ (by rfl) (by rfl) ?_ ?_; rotate_left; (focus (intro w'; go_simp; (try with_reducible rfl); done)); (try simp only [Act.put, List.setIfInBounds_toArray, List.set_cons_zero, List.set_cons_succ])) | (refine eff_rd ?_ (by rfl) (by rfl) ?_ ?_; rotate_left; (focus (intro w' hS; (try obtain ⟨hq1, hS⟩ := hS); (try obtain ⟨hq2, hS⟩ := hS); (try obtain ⟨hq3, hS⟩ := hS); (try obtain ⟨hq4, hS⟩ := hS); (try obtain ⟨hq5, hS⟩ := hS); (try obtain ⟨hq6, hS⟩ := hS); (try obtain ⟨hq7, hS⟩ := hS); (try obtain ⟨hq8, hS⟩ := hS); (try obtain ⟨hq9, hS⟩ := hS); (try obtain ⟨hq10, hS⟩ := hS); (try obtain ⟨hq11, hS⟩ := hS); (try obtain ⟨hq12, hS⟩ := hS); (try obtain ⟨hq13, hS⟩ := hS); (try obtain ⟨hq14, hS⟩ := hS); (try obtain ⟨hq15, hS⟩ := hS); (try obtain ⟨hq16, hS⟩ := hS); (try obtain ⟨hq17, hS⟩ := hS); (try obtain ⟨hq18, hS⟩ := hS); (try obtain ⟨hq19, hS⟩ := hS); (try dsimp only at hS); go_simp; (try with_reducible rfl); done)); (try simp only [Act.put, List.setIfInBounds_toArray, List.set_cons_zero, List.set_cons_succ])))
  refine eff_run (v := .slice (some ⟨w1.heap.size, 0, none⟩) 1 1) (W' := w1.drew.alloc (.cells #[.int .i64 L.length] 3)) (by rfl) (by rfl) (by go_simp) (fun _ => ST.out _ ((Fr.refl _ _).alloc _)) ?_
  (try simp only [Act.put, List.setIfInBounds_toArray, List.set_cons_zero, List.set_cons_succ])
  refine eff_do (by rfl) ?_
  refine ap_ints_at _ rfl _ _ rfl 0 (.slice p ((nearL L) l.a).length c) ((nearL L) l.a) rfl (OwnI.fr OW.out ((Fr.refl NoB _).alloc _) (fun _ _ h => h)) NoB _ [(L.length : Int)] rfl (rdI_lit' (l := [(L.length : Int)]) rfl rfl rfl (fun h => h)) ?_ (Nat.zero_le _) ?_
  · have := HKL.out
    simp only [List.length_singleton]
    omega
  intro v6 w6 ho6 hg6 hb6
  have F6 : Fr (fun b => (Value.slice p ((nearL L) l.a).length c).ownBlock = some b) w1.drew w6 := Fr.grown ((Fr.refl _ w1.drew).alloc _) hg6 (fun k hk _ => hk)
  refine wpList_nil ⟨rfl, fun _ => ST.out w6 F6, ?_⟩
  (try simp only [Act.put, List.setIfInBounds_toArray, List.set_cons_zero, List.set_cons_succ])
  obtain ⟨w2, e7, m7⟩ := UPD.out w6 v6 _ F6 ho6 (hb6.imp_right (fun h => ⟨_, h, by simp only [World.size_alloc]; omega⟩))
  have MD2 := hid m7
  clear OW ST UPD HKL m7 ho6 hg6 hb6 F6
  refine eff_skip (W' := w2) (by rfl) (by rfl) (by go_simp) (fun h => absurd rfl h) ?_
  (try simp only [Act.put, List.setIfInBounds_toArray, List.set_cons_zero, List.set_cons_succ])
  refine eff_nil ?_
  clear e7
  go_wp2
  obtain ⟨N1, hN1⟩ : ∃ N1 : Int → List Int, (fun k => if k = l.a then nearL L l.a ++ [(L.length : Int)] else nearL L k) = N1 := ⟨_, rfl⟩
  rw [hN1] at MD2
  have HB1 : Hid (N1 l.b = nearL L l.b) := by show _ = _; rw [← hN1]; exact if_neg (fun e => HNE.out e.symm)
  have HN1 := hid hN1
  clear hN1
  go_wp2
  have MD3 := hid (MD2.out.quiet (Fr.refl NoB w2).drew)
  obtain ⟨p2, c2, ow, st, upd⟩ := MD3.out.look HBU.out HM2.out l.b
  have OW := hid ow
  have ST := hid st
  have UPD := hid upd
  have S0 := ST.out w2.drew (Fr.refl _ _)
  have HKL : Hid (((N1) l.b).length ≤ L.length + 1) := by show _ ≤ _; rw [HB1.out]; exact Nat.le_succ_of_le (HNL.out _)
  clear ow st upd
  refine region_eff (MidS bf bn w.heap.size (.slice sp L.length sc) l l.b (.slice p2 ((N1) l.b).length c2)) 20 [(0, 1), (1, 1), (2, 1), (3, 0), (4, 1), (5, 0), (6, 1), (7, 1), (8, 1), (9, 0), (10, 1), (11, 0), (12, 0), (13, 1), (14, 1), (15, 1), (16, 0), (17, 1), (18, 2), (19, 2), (20, 2)] (by kernel_rfl) (by kernel_rfl) ?_ ?_
  · exact S0
  clear S0
  repeat (first | (refine eff_off (by rfl) (by rfl) ?_; (try simp only [Act.put, List.setIfInBounds_toArray, List.set_cons_zero, List.set_cons_succ])) | (refine eff_off0 (by rfl) (by rfl) ?_; (try simp only [Act.put, List.setIfInBounds_toArray, List.set_cons_zero, List.set_cons_succ])) | (refine eff_pu ?_ (by rfl) (by rfl) ?_ ?_; rotate_left; (focus (intro w'; go_simp; (try with_reducible rfl); done)); (try simp only [Act.put, List.setIfInBounds_toArray, List.set_cons_zero, List.set_cons_succ])) | (refine eff_rd ?_ (by rfl) (by rfl) ?_ ?_; rotate_left; (focus (intro w' hS; (try obtain ⟨hq1, hS⟩ := hS); (try obtain ⟨hq2, hS⟩ := hS); (try obtain ⟨hq3, hS⟩ := hS); (try obtain ⟨hq4, hS⟩ := hS); (try obtain ⟨hq5, hS⟩ := hS); (try obtain ⟨hq6, hS⟩ := hS); (try obtain ⟨hq7, hS⟩ := hS); (try obtain ⟨hq8, hS⟩ := hS); (try obtain ⟨hq9, hS⟩ := hS); (try obtain ⟨hq10, hS⟩ := hS); (try obtain ⟨hq11, hS⟩ := hS); (try obtain ⟨hq12, hS⟩ := hS); (try obtain ⟨hq13, hS⟩ := hS); (try obtain ⟨hq14, hS⟩ := hS); (try obtain ⟨hq15, hS⟩ := hS); (try obtain ⟨hq16, hS⟩ := hS); (try obtain ⟨hq17, hS⟩ := hS); (try obtain ⟨hq18, hS⟩ := hS); (try obtain ⟨hq19, hS⟩ := hS); (try dsimp only at hS); go_simp; (try with_reducible rfl); done)); (try simp only [Act.put, List.setIfInBounds_toArray, List.set_cons_zero, List.set_cons_succ])))
  refine eff_run (v := .slice (some ⟨w2.heap.size, 0, none⟩) 1 1) (W' := w2.drew.alloc (.cells #[.int .i64 L.length] 3)) (by rfl) (by rfl) (by go_simp) (fun _ => ST.out _ ((Fr.refl _ _).alloc _)) ?_
  (try simp only [Act.put, List.setIfInBounds_toArray, List.set_cons_zero, List.set_cons_succ])
  refine eff_do (by rfl) ?_
  refine ap_ints_at _ rfl _ _ rfl 0 (.slice p2 ((N1) l.b).length c2) ((N1) l.b) rfl (OwnI.fr OW.out ((Fr.refl NoB _).alloc _) (fun _ _ h => h)) NoB _ [(L.length : Int)] rfl (rdI_lit' (l := [(L.length : Int)]) rfl rfl rfl (fun h => h)) ?_ (Nat.zero_le _) ?_
  · have := HKL.out
    simp only [List.length_singleton]
    omega
  intro v6 w6 ho6 hg6 hb6
  have F6 : Fr (fun b => (Value.slice p2 ((N1) l.b).length c2).ownBlock = some b) w2.drew w6 := Fr.grown ((Fr.refl _ w2.drew).alloc _) hg6 (fun k hk _ => hk)
  refine wpList_nil ⟨rfl, fun _ => ST.out w6 F6, ?_⟩
  (try simp only [Act.put, List.setIfInBounds_toArray, List.set_cons_zero, List.set_cons_succ])
  obtain ⟨w3, e7, m7⟩ := UPD.out w6 v6 _ F6 ho6 (hb6.imp_right (fun h => ⟨_, h, by simp only [World.size_alloc]; omega⟩))
  have MD4 := hid m7
  clear OW ST UPD HKL m7 ho6 hg6 hb6 F6
  refine eff_skip (W' := w3) (by rfl) (by rfl) (by go_simp) (fun h => absurd rfl h) ?_
  (try simp only [Act.put, List.setIfInBounds_toArray, List.set_cons_zero, List.set_cons_succ])
  refine eff_nil ?_
  clear e7
  have HNF : Hid ((fun k => if k = l.b then N1 l.b ++ [(L.length : Int)] else N1 k) = nearL (L ++ [l])) := by
    show _ = _
    funext k
    rw [nearL_app, ← HN1.out]
    by_cases e : k = l.b
    · subst e
      rw [if_pos rfl, if_pos (.inr rfl)]
      simp only [if_neg (show ¬ l.b = l.a from fun e => HNE.out e.symm)]
    · rw [if_neg e]
      by_cases e2 : k = l.a
      · subst e2; simp
      · rw [if_neg (show ¬ (l.a = k ∨ l.b = k) from fun h => h.elim (fun h => e2 h.symm) (fun h => e h.symm))]
        simp only [if_neg e2]
  rw [HNF.out] at MD4
  clear HN1 HB1 MD2 MD MD1 MD3
  go_wp2
  -- the row of the links
  have MD5 := hid (MD4.out.quiet (Fr.refl NoB w3).drew)
  have HS : Hid (∀ W', Fr (fun b => (Value.slice sp L.length sc).ownBlock = some b) w3.drew W' → W'.cell? ⟨bf, 1, none⟩ = some (.slice sp L.length sc) ∧ W'.cell? ⟨w.heap.size, 0, none⟩ = some (.int .i64 l.a) ∧ W'.cell? ⟨w.heap.size, 1, none⟩ = some (.int .i64 l.b) ∧ W'.cell? ⟨w.heap.size, 2, none⟩ = some (.int .i64 l.why) ∧ FHead W' bf bn bu (.slice sp L.length sc)) := fun W' hf => by
    have d1 : ¬ (Value.slice sp L.length sc).ownBlock = some bf := fun e => by
      obtain ⟨cur, hc⟩ := OwnE.head MD5.out.own e
      exact ne_of_types hc MD5.out.head (by decide) rfl
    have d2 : ¬ (Value.slice sp L.length sc).ownBlock = some w.heap.size := fun e => by
      have := HLT.out _ (HSM.out _ e)
      omega
    have hh := MD5.out.head.fr hf d1
    obtain ⟨e0, e1, e2, _⟩ := three_of (hf.at d2 MD5.out.box)
    exact ⟨hh.cells.2.1, e0, e1, e2, hh⟩
  obtain ⟨s1, s2, s3, s4, s5⟩ := HS.out w3.drew (Fr.refl _ _)
  refine region_eff (fun w' => w'.cell? ⟨bf, 1, none⟩ = some (.slice sp L.length sc) ∧ w'.cell? ⟨w.heap.size, 0, none⟩ = some (.int .i64 l.a) ∧ w'.cell? ⟨w.heap.size, 1, none⟩ = some (.int .i64 l.b) ∧ w'.cell? ⟨w.heap.size, 2, none⟩ = some (.int .i64 l.why)) 10 [(0, 1), (1, 1), (2, 1), (3, 1), (4, 0), (5, 0), (6, 2), (7, 2), (8, 1), (9, 1), (10, 2)] (by kernel_rfl) (by kernel_rfl) ?_ ?_
  · exact ⟨s1, s2, s3, s4⟩
  clear s1 s2 s3 s4 s5
  repeat (first | (refine eff_off (by rfl) (by rfl) ?_; (try simp only [Act.put, List.setIfInBounds_toArray, List.set_cons_zero, List.set_cons_succ])) | (refine eff_off0 (by rfl) (by rfl) ?_; (try simp only [Act.put, List.setIfInBounds_toArray, List.set_cons_zero, List.set_cons_succ])) | (refine eff_pu ?_ (by rfl) (by rfl) ?_ ?_; rotate_left; (focus (intro w'; go_simp; (try with_reducible rfl); done)); (try simp only [Act.put, List.setIfInBounds_toArray, List.set_cons_zero, List.set_cons_succ])) | (refine eff_rd ?_ (by rfl) (by rfl) ?_ ?_; rotate_left; (focus (intro w' hS; (try obtain ⟨hq1, hS⟩ := hS); (try obtain ⟨hq2, hS⟩ := hS); (try obtain ⟨hq3, hS⟩ := hS); (try obtain ⟨hq4, hS⟩ := hS); (try obtain ⟨hq5, hS⟩ := hS); (try obtain ⟨hq6, hS⟩ := hS); (try obtain ⟨hq7, hS⟩ := hS); (try obtain ⟨hq8, hS⟩ := hS); (try obtain ⟨hq9, hS⟩ := hS); (try obtain ⟨hq10, hS⟩ := hS); (try obtain ⟨hq11, hS⟩ := hS); (try obtain ⟨hq12, hS⟩ := hS); (try obtain ⟨hq13, hS⟩ := hS); (try obtain ⟨hq14, hS⟩ := hS); (try obtain ⟨hq15, hS⟩ := hS); (try obtain ⟨hq16, hS⟩ := hS); (try obtain ⟨hq17, hS⟩ := hS); (try obtain ⟨hq18, hS⟩ := hS); (try obtain ⟨hq19, hS⟩ := hS); (try dsimp only at hS); go_simp; (try with_reducible rfl); done)); (try simp only [Act.put, List.setIfInBounds_toArray, List.set_cons_zero, List.set_cons_succ])))
  refine eff_run (v := .slice (some ⟨w3.heap.size, 0, none⟩) 1 1) (W' := w3.drew.alloc (.cells #[.int .i64 l.a, .int .i64 l.b, .int .i64 l.why] 81)) (by rfl) (by rfl) (by go_simp) (fun _ => (HS.out _ ((Fr.refl _ _).alloc _)).imp_right (fun h => ⟨h.1, h.2.1, h.2.2.1⟩)) ?_
  (try simp only [Act.put, List.setIfInBounds_toArray, List.set_cons_zero, List.set_cons_succ])
  refine eff_do (by rfl) ?_
  refine ap_lnk _ rfl _ _ rfl (.slice sp L.length sc) L rfl (OwnE.step MD5.out.own ((Fr.refl NoB _).alloc _)) _ [l] rfl (rdL_lit l rfl) ?_ ?_
  · simp only [List.length_singleton]; omega
  intro p6 q6 w6 ho6 hg6 hb6
  have f6 : Fr (fun b => (Value.slice sp L.length sc).ownBlock = some b) w3.drew w6 := Fr.grown ((Fr.refl _ w3.drew).alloc _) hg6 (fun k hk _ => hk)
  obtain ⟨s1, s2, s3, s4, s5⟩ := HS.out w6 f6
  obtain ⟨_, _, _, _, cf, _⟩ := s5.cells
  have HS5 := hid s5
  have F6 := hid f6
  have O6 := hid ho6
  have B6 := hid hb6
  refine wpList_nil ⟨rfl, fun _ => ⟨s1, s2, s3, s4⟩, ?_⟩
  (try simp only [Act.put, List.setIfInBounds_toArray, List.set_cons_zero, List.set_cons_succ])
  clear s2 s3 s4 s5 hg6 f6 ho6 hb6
  repeat (first | (refine eff_off (by rfl) (by rfl) ?_; (try simp only [Act.put, List.setIfInBounds_toArray, List.set_cons_zero, List.set_cons_succ])) | (refine eff_off0 (by rfl) (by rfl) ?_; (try simp only [Act.put, List.setIfInBounds_toArray, List.set_cons_zero, List.set_cons_succ])) | (refine eff_pu ?_ (by rfl) (by rfl) ?_ ?_; rotate_left; (focus (intro w'; go_simp; (try with_reducible rfl); done)); (try simp only [Act.put, List.setIfInBounds_toArray, List.set_cons_zero, List.set_cons_succ])) | (refine eff_rd ?_ (by rfl) (by rfl) ?_ ?_; rotate_left; (focus (intro w' hS; (try obtain ⟨hq1, hS⟩ := hS); (try obtain ⟨hq2, hS⟩ := hS); (try obtain ⟨hq3, hS⟩ := hS); (try obtain ⟨hq4, hS⟩ := hS); (try obtain ⟨hq5, hS⟩ := hS); (try obtain ⟨hq6, hS⟩ := hS); (try obtain ⟨hq7, hS⟩ := hS); (try obtain ⟨hq8, hS⟩ := hS); (try obtain ⟨hq9, hS⟩ := hS); (try obtain ⟨hq10, hS⟩ := hS); (try obtain ⟨hq11, hS⟩ := hS); (try obtain ⟨hq12, hS⟩ := hS); (try obtain ⟨hq13, hS⟩ := hS); (try obtain ⟨hq14, hS⟩ := hS); (try obtain ⟨hq15, hS⟩ := hS); (try obtain ⟨hq16, hS⟩ := hS); (try obtain ⟨hq17, hS⟩ := hS); (try obtain ⟨hq18, hS⟩ := hS); (try obtain ⟨hq19, hS⟩ := hS); (try dsimp only at hS); go_simp; (try with_reducible rfl); done)); (try simp only [Act.put, List.setIfInBounds_toArray, List.set_cons_zero, List.set_cons_succ])))
  refine eff_skip (W' := w6.setCell ⟨bf, 1, none⟩ (.slice p6 (L ++ [l]).length q6)) (by rfl) (by rfl) (by go_simp) (fun h => absurd rfl h) ?_
  (try simp only [Act.put, List.setIfInBounds_toArray, List.set_cons_zero, List.set_cons_succ])
  refine eff_nil ?_
  clear s1 cf
  obtain ⟨w7, hw7⟩ : ∃ w7, w6.setCell ⟨bf, 1, none⟩ (.slice p6 (L ++ [l]).length q6) = w7 := ⟨_, rfl⟩
  rw [hw7]
  have HH7 : Hid (FHead w7 bf bn bu (.slice p6 (L ++ [l]).length q6)) := by
    show FHead _ _ _ _ _
    rw [← hw7]; exact set_at HS5.out 1 _
  have F7 : Hid (Fr (fun k => k = bf) w6 w7) := by
    show Fr _ _ _
    rw [← hw7]; exact (Fr.refl (fun k => k = bf) w6).setCell (p := ⟨bf, 1, none⟩) (fun _ => rfl) _
  clear hw7
  have MD7 : Hid (Mid M w w7 bf bn bu (.slice p6 (L ++ [l]).length q6) (L ++ [l]) (nearL (L ++ [l])) g w.heap.size l) := by
    have h5 := MD5.out
    have dr : ∀ b, (Value.slice sp L.length sc).ownBlock = some b → ∃ cur, w3.drew.heap[b]? = some (.cells cur 81 (0, 0)) := fun b e => OwnE.head h5.own e
    have dbn : ¬ (Value.slice sp L.length sc).ownBlock = some bn := fun e => by
      obtain ⟨cur, hc⟩ := dr _ e
      exact h5.near.ne_cells hc rfl
    have dbu : ¬ (Value.slice sp L.length sc).ownBlock = some bu := fun e => by
      obtain ⟨cur, hc⟩ := dr _ e
      exact h5.up.ne_cells hc rfl
    have n6 : NearIs (fun k => M k ∨ w.heap.size ≤ k) w6 bn (nearL (L ++ [l])) := by
      obtain ⟨m, h1, h2, h3, h4⟩ := h5.near
      refine ⟨m, h1.fr F6.out dbn, h2, fun k v hk => ⟨(h3 k v hk).1.fr F6.out (fun b hb e => ?_), (h3 k v hk).2⟩, h4⟩
      obtain ⟨cur, hc⟩ := dr _ e
      obtain ⟨cur', hc'⟩ := (h3 k v hk).1.head hb
      exact ne_of_types hc hc' (by decide) rfl
    have u6 := h5.up.fr F6.out dbu
    have n7 : NearIs (fun k => M k ∨ w.heap.size ≤ k) w7 bn (nearL (L ++ [l])) := by
      obtain ⟨m, h1, h2, h3, h4⟩ := n6
      refine ⟨m, h1.fr F7.out (fun e => h1.ne_cells HS5.out e.symm), h2, fun k v hk => ⟨(h3 k v hk).1.fr F7.out (fun b hb e => ?_), (h3 k v hk).2⟩, h4⟩
      obtain ⟨cur', hc'⟩ := (h3 k v hk).1.head hb
      exact ne_of_types hc' HS5.out (by decide) e
    refine ⟨HH7.out, OwnE.fr O6.out F7.out (fun b hb e => ?_), n7, u6.fr F7.out (fun e => u6.ne_cells HS5.out e.symm), F7.out.at (fun e => ?_) (F6.out.at (fun e => ?_) h5.box), ?_⟩
    · obtain ⟨cur', hc'⟩ := OwnE.head O6.out hb
      exact ne_of_types hc' HS5.out (by decide) e
    · have := HLT.out _ HM1.out
      omega
    · have := HLT.out _ (HSM.out _ e)
      omega
    · exact (h5.fr.trans' F6.out (fun k hk e9 => HSM.out k e9)).trans' F7.out (fun k _ e9 => by rw [show k = bf from e9]; exact HM1.out)
  have HZ : Hid (w.heap.size ≤ w3.drew.heap.size) := MD5.out.fr.size
  clear MD5 MD4 HS HS5 F6 F7 HH7
  go_wp2
  have MD8 := hid (MD7.out.quiet (Fr.refl NoB w7).drew)
  have HUB : Hid (bu ≠ bf) := fun e => MD8.out.up.ne_cells MD8.out.head e.symm
  have HUQ : Hid (bu ≠ w.heap.size) := fun e => MD8.out.up.ne_cells MD8.out.box e.symm
  have HS : Hid (∀ W', Fr (fun k => k = bu) w7.drew W' → W'.cell? ⟨bf, 3, none⟩ = some (.map (some bu)) ∧ W'.cell? ⟨w.heap.size, 0, none⟩ = some (.int .i64 l.a) ∧ W'.cell? ⟨w.heap.size, 1, none⟩ = some (.int .i64 l.b)) := fun W' hf => by
    obtain ⟨_, _, _, c3, _⟩ := (MD8.out.head.fr hf (fun e => HUB.out e.symm)).cells
    obtain ⟨e0, e1, _⟩ := three_of (hf.at (fun e => HUQ.out e.symm) MD8.out.box)
    exact ⟨c3, e0, e1⟩
  have S0 := HS.out w7.drew (Fr.refl _ _)
  refine region_eff (fun w' => w'.cell? ⟨bf, 3, none⟩ = some (.map (some bu)) ∧ w'.cell? ⟨w.heap.size, 0, none⟩ = some (.int .i64 l.a) ∧ w'.cell? ⟨w.heap.size, 1, none⟩ = some (.int .i64 l.b)) 12 [(0, 1), (1, 1), (2, 1), (3, 0), (4, 1), (5, 1), (6, 0), (8, 1), (9, 1), (10, 0), (7, 2), (11, 2), (12, 2)] (by kernel_rfl) (by kernel_rfl) ?_ ?_
  · exact S0
  clear S0
  repeat (first | (refine eff_off (by rfl) (by rfl) ?_; (try simp only [Act.put, List.setIfInBounds_toArray, List.set_cons_zero, List.set_cons_succ])) | (refine eff_off0 (by rfl) (by rfl) ?_; (try simp only [Act.put, List.setIfInBounds_toArray, List.set_cons_zero, List.set_cons_succ])) | (refine eff_pu ?_ (by rfl) (by rfl) ?_ ?_; rotate_left; (focus (intro w'; go_simp; (try with_reducible rfl); done)); (try simp only [Act.put, List.setIfInBounds_toArray, List.set_cons_zero, List.set_cons_succ])) | (refine eff_rd ?_ (by rfl) (by rfl) ?_ ?_; rotate_left; (focus (intro w' hS; (try obtain ⟨hq1, hS⟩ := hS); (try obtain ⟨hq2, hS⟩ := hS); (try obtain ⟨hq3, hS⟩ := hS); (try obtain ⟨hq4, hS⟩ := hS); (try obtain ⟨hq5, hS⟩ := hS); (try obtain ⟨hq6, hS⟩ := hS); (try obtain ⟨hq7, hS⟩ := hS); (try obtain ⟨hq8, hS⟩ := hS); (try obtain ⟨hq9, hS⟩ := hS); (try obtain ⟨hq10, hS⟩ := hS); (try obtain ⟨hq11, hS⟩ := hS); (try obtain ⟨hq12, hS⟩ := hS); (try obtain ⟨hq13, hS⟩ := hS); (try obtain ⟨hq14, hS⟩ := hS); (try obtain ⟨hq15, hS⟩ := hS); (try obtain ⟨hq16, hS⟩ := hS); (try obtain ⟨hq17, hS⟩ := hS); (try obtain ⟨hq18, hS⟩ := hS); (try obtain ⟨hq19, hS⟩ := hS); (try dsimp only at hS); go_simp; (try with_reducible rfl); done)); (try simp only [Act.put, List.setIfInBounds_toArray, List.set_cons_zero, List.set_cons_succ])))
  refine eff_call 61 #[.pointer (some ⟨bf, 0, none⟩), .int .i64 l.a] (by rfl) (by rfl) (by intro w'; go_simp) ?_
  refine (ffind_any _ bf bn bu _ g r rk l.a MD8.out.head MD8.out.up HO.out HUB.out).mono ?_
  rintro e w8 ⟨rfl, ⟨g2, hu2, ho2⟩, hf8⟩
  have F8 := hid hf8
  have HU2 := hid hu2
  have HO2 := hid ho2
  refine ⟨_, rfl, fun _ => HS.out w8 hf8, ?_⟩
  clear hf8 hu2 ho2
  (try simp only [Act.put, List.setIfInBounds_toArray, List.set_cons_zero, List.set_cons_succ])
  repeat (first | (refine eff_off (by rfl) (by rfl) ?_; (try simp only [Act.put, List.setIfInBounds_toArray, List.set_cons_zero, List.set_cons_succ])) | (refine eff_off0 (by rfl) (by rfl) ?_; (try simp only [Act.put, List.setIfInBounds_toArray, List.set_cons_zero, List.set_cons_succ])) | (refine eff_pu ?_ (by rfl) (by rfl) ?_ ?_; rotate_left; (focus (intro w'; go_simp; (try with_reducible rfl); done)); (try simp only [Act.put, List.setIfInBounds_toArray, List.set_cons_zero, List.set_cons_succ])) | (refine eff_rd ?_ (by rfl) (by rfl) ?_ ?_; rotate_left; (focus (intro w' hS; (try obtain ⟨hq1, hS⟩ := hS); (try obtain ⟨hq2, hS⟩ := hS); (try obtain ⟨hq3, hS⟩ := hS); (try obtain ⟨hq4, hS⟩ := hS); (try obtain ⟨hq5, hS⟩ := hS); (try obtain ⟨hq6, hS⟩ := hS); (try obtain ⟨hq7, hS⟩ := hS); (try obtain ⟨hq8, hS⟩ := hS); (try obtain ⟨hq9, hS⟩ := hS); (try obtain ⟨hq10, hS⟩ := hS); (try obtain ⟨hq11, hS⟩ := hS); (try obtain ⟨hq12, hS⟩ := hS); (try obtain ⟨hq13, hS⟩ := hS); (try obtain ⟨hq14, hS⟩ := hS); (try obtain ⟨hq15, hS⟩ := hS); (try obtain ⟨hq16, hS⟩ := hS); (try obtain ⟨hq17, hS⟩ := hS); (try obtain ⟨hq18, hS⟩ := hS); (try obtain ⟨hq19, hS⟩ := hS); (try dsimp only at hS); go_simp; (try with_reducible rfl); done)); (try simp only [Act.put, List.setIfInBounds_toArray, List.set_cons_zero, List.set_cons_succ])))
  refine eff_call 61 #[.pointer (some ⟨bf, 0, none⟩), .int .i64 l.b] (by rfl) (by rfl) (by intro w'; go_simp) ?_
  refine (ffind_any _ bf bn bu _ g2 r rk l.b (MD8.out.head.fr F8.out (fun e => HUB.out e.symm)) HU2.out HO2.out HUB.out).mono ?_
  rintro e w9 ⟨rfl, ⟨g3, hu3, ho3⟩, hf9⟩
  have F9 := hid (F8.out.trans hf9)
  have HU3 := hid hu3
  have HO3 := hid ho3
  refine ⟨_, rfl, fun _ => HS.out w9 F9.out, ?_⟩
  clear hf9 hu3 ho3
  (try simp only [Act.put, List.setIfInBounds_toArray, List.set_cons_zero, List.set_cons_succ])
  repeat (first | (refine eff_off (by rfl) (by rfl) ?_; (try simp only [Act.put, List.setIfInBounds_toArray, List.set_cons_zero, List.set_cons_succ])) | (refine eff_off0 (by rfl) (by rfl) ?_; (try simp only [Act.put, List.setIfInBounds_toArray, List.set_cons_zero, List.set_cons_succ])) | (refine eff_pu ?_ (by rfl) (by rfl) ?_ ?_; rotate_left; (focus (intro w'; go_simp; (try with_reducible rfl); done)); (try simp only [Act.put, List.setIfInBounds_toArray, List.set_cons_zero, List.set_cons_succ])) | (refine eff_rd ?_ (by rfl) (by rfl) ?_ ?_; rotate_left; (focus (intro w' hS; (try obtain ⟨hq1, hS⟩ := hS); (try obtain ⟨hq2, hS⟩ := hS); (try obtain ⟨hq3, hS⟩ := hS); (try obtain ⟨hq4, hS⟩ := hS); (try obtain ⟨hq5, hS⟩ := hS); (try obtain ⟨hq6, hS⟩ := hS); (try obtain ⟨hq7, hS⟩ := hS); (try obtain ⟨hq8, hS⟩ := hS); (try obtain ⟨hq9, hS⟩ := hS); (try obtain ⟨hq10, hS⟩ := hS); (try obtain ⟨hq11, hS⟩ := hS); (try obtain ⟨hq12, hS⟩ := hS); (try obtain ⟨hq13, hS⟩ := hS); (try obtain ⟨hq14, hS⟩ := hS); (try obtain ⟨hq15, hS⟩ := hS); (try obtain ⟨hq16, hS⟩ := hS); (try obtain ⟨hq17, hS⟩ := hS); (try obtain ⟨hq18, hS⟩ := hS); (try obtain ⟨hq19, hS⟩ := hS); (try dsimp only at hS); go_simp; (try with_reducible rfl); done)); (try simp only [Act.put, List.setIfInBounds_toArray, List.set_cons_zero, List.set_cons_succ])))
  obtain ⟨w10, e1, e2, e3⟩ := HU3.out.put (r l.a) (r l.b)
  have F10 := hid (F9.out.trans e3)
  have HU4 := hid e2
  refine eff_skip (W' := w10) (by rfl) (by rfl) (by go_simp) (fun h => absurd rfl h) ?_
  (try simp only [Act.put, List.setIfInBounds_toArray, List.set_cons_zero, List.set_cons_succ])
  refine eff_nil ?_
  clear e1 e2 e3
  go_wp2
  go_end0
  have h8 := MD8.out
  have hh10 := h8.head.fr F10.out (fun e => HUB.out e.symm)
  have hsz : w.heap.size ≤ w10.heap.size := Nat.le_trans h8.fr.size F10.out.size
  have ho10 : OwnL w10 (.slice p6 (L ++ [l]).length q6) (L ++ [l]) := OwnE.fr h8.own F10.out (fun b hb e => by
    obtain ⟨cur, hc⟩ := OwnE.head h8.own hb
    exact h8.up.ne_cells hc e)
  have hn10 : NearIs (fun k => M k ∨ w.heap.size ≤ k) w10 bn (nearL (L ++ [l])) := by
    obtain ⟨m, h1, h2, h3, h4⟩ := h8.near
    refine ⟨m, h1.fr F10.out (fun e => HBU.out e.symm), h2, fun k v hk => ⟨(h3 k v hk).1.fr F10.out (fun b hb e => ?_), (h3 k v hk).2⟩, h4⟩
    obtain ⟨cur', hc'⟩ := (h3 k v hk).1.head hb
    exact h8.up.ne_cells hc' e
  refine ⟨rfl, ⟨fun k => M k ∨ (w.heap.size ≤ k ∧ k < w10.heap.size), ⟨⟨bn, bu, _, _, _, hh10, ho10, fun b hb => ?_, hn10.mono (fun k hk h => h.imp_right (fun h => ⟨h, hk⟩)), HU4.out, HO3.out.join (r l.a) (r l.b) (HO3.out.idem _) (HO3.out.idem _) HAB.out, HBU.out, .inl HM1.out, .inl HM2.out, .inl HM3.out⟩, fun k hk => ?_⟩, fun k hk => hk.imp_right (·.1)⟩, h8.fr.trans' F10.out (fun k _ e => by rw [show k = bu from e]; exact HM3.out)⟩
  · have h9 := World.ownsRow.lt ho10 b hb
    rcases B6.out with h6 | h6
    · rw [h6] at hb; exact .inl (HSM.out b hb)
    · rw [h6] at hb
      cases hb
      refine .inr ⟨?_, h9.2⟩
      have := HZ.out
      simp only [World.size_alloc]
      omega
  · rcases hk with hk | hk
    · exact Nat.lt_of_lt_of_le (HLT.out k hk) hsz
    · exact hk.2

end Go.Proofs.YtlekoceindepnaaGreatDoor
end
section
/- Disjoint sets in memory: where they lie; the walks of valid, has, Find, Make, Union. -/
namespace Go.Proofs.YtlekoceindepnaaGreatDoor
open Go.RowKit
set_option maxRecDepth 100000

abbrev OwnS (w : World) (v : Value) (l : List Stp) : Prop := OwnE stpC 2 97 0 w v l
theorem infoStp : (Tryz.prog.info? 97).map (fun i => (i.zero, i.size, i.bytes)) = some (some (.agg #[.bool false, .int .i64 0]), 2, 16) := by kernel_rfl
theorem ap_stp (w : World) {ops : Array Oper} {rest : List Oper} {o : Oper} {a : Act} {Q : Exit → Act → World → Prop} (hg : o.guard = none) (s x : Operand)
    (ho : o.op = .call { callee := .builtin .append, args := #[s, x], argTypes := #[93, 93] }) (v : Value) (l : List Stp) (hs : a.eval s = v) (hown : OwnS w v l)
    (u : Value) (m : List Stp) (hx : a.eval x = u) (hrd : RdE stpC NoB w u m) (hlen : l.length + m.length ≤ 1000000000)
    (h : ∀ p q w', OwnS w' (.slice p (l ++ m).length q) (l ++ m) → w.grownBy w' v.ownBlock → ((Value.slice p (l ++ m).length q).ownBlock = v.ownBlock ∨ (Value.slice p (l ++ m).length q).ownBlock = some w.heap.size) → wpList Tryz.prog ops Q rest (a.put o.dst (.slice p (l ++ m).length q)) w') : wpList Tryz.prog ops Q (o :: rest) a w := by
  refine ap_rows (z := .agg #[.bool false, .int .i64 0]) (bytes := 16) w stpC_len (by decide) Tryz.underlying93 infoStp rfl hg s x ho 0 v l hs hown NoB u m hx hrd (fun y hy u hu => ?_) (by omega) (by omega) (Nat.zero_le _) (fun v' w' h1 h2 h3 => ?_)
  · simp only [stpC, List.mem_cons, List.not_mem_nil, or_false] at hu
    rcases hu with rfl | rfl <;> rfl
  · obtain ⟨p, q, rfl⟩ := OwnE.form h1
    exact h p q w' h1 h2 h3
theorem rdS_lit {w : World} (l : Stp) {e : TypeId} {b : Nat} (hb : b = w.heap.size) : RdE stpC NoB (w.alloc (.cells #[.bool l.1, .int .i64 l.2] e)) (.slice (some ⟨b, 0, none⟩) 1 1) [l] := by
  subst hb
  refine .inr ⟨w.heap.size, 0, 1, rfl, by simp, fun h => h, Nat.le_refl _, ?_⟩
  have hb := at_new w (.cells #[.bool l.1, .int .i64 l.2] e)
  intro j u hj
  rw [Nat.zero_add]
  match j, hj with
  | 0, hj => simp [flatE, stpC] at hj; subst hj; (unfold World.cell?; simp only [hb]; rfl)
  | 1, hj => simp [flatE, stpC] at hj; subst hj; (unfold World.cell?; simp only [hb]; rfl)
  | j + 2, hj => simp [flatE, stpC] at hj
/-- The blocks of N, and those that were made since. -/
def Grow (N : Nat → Prop) (w w' : World) : Nat → Prop := fun k => N k ∨ (w.heap.size ≤ k ∧ k < w'.heap.size)
theorem Grow.in {N : Nat → Prop} {w w' : World} {k : Nat} (h : N k) : Grow N w w' k := .inl h
theorem Grow.new {N : Nat → Prop} {w w' : World} {k : Nat} (h : w.heap.size ≤ k) (h' : k < w'.heap.size) : Grow N w w' k := .inr ⟨h, h'⟩
structure SetsAt (N : Nat → Prop) (w : World) (bs : Nat) (s : Uf) : Prop where
  ex : ∃ sP sT, w.heap[bs]? = some (.cells #[.bool true, sP, sT] 95 (0, 0)) ∧ OwnI 0 w sP s.par ∧ OwnS w sT s.tr ∧ (∀ b, sP.ownBlock = some b → N b) ∧ (∀ b, sT.ownBlock = some b → N b)
  hd : N bs
  ok : UfOk s
  small : s.par.length ≤ 1000000 ∧ s.tr.length ≤ 3000000
theorem SetsAt.fr {N M : Nat → Prop} {w w' : World} {bs : Nat} {s : Uf} (h : SetsAt N w bs s) (hf : Fr M w w') (hm : ∀ k, N k → ¬ M k) : SetsAt N w' bs s := by
  obtain ⟨⟨sP, sT, h1, h2, h3, h4, h5⟩, h6, h7, h8⟩ := h
  exact ⟨⟨sP, sT, hf.at (hm _ h6) h1, h2.fr hf (fun b hb => hm b (h4 b hb)), h3.fr hf (fun b hb => hm b (h5 b hb)), h4, h5⟩, h6, h7, h8⟩
theorem SetsAt.step {N : Nat → Prop} {w w' : World} {bs : Nat} {s : Uf} (h : SetsAt N w bs s) (hf : Fr NoB w w') : SetsAt N w' bs s := h.fr hf (fun _ _ h => h)
theorem SetsAt.mono {N N' : Nat → Prop} {w : World} {bs : Nat} {s : Uf} (h : SetsAt N w bs s) (hm : ∀ k, N k → N' k) : SetsAt N' w bs s := by
  obtain ⟨⟨sP, sT, h1, h2, h3, h4, h5⟩, h6, h7, h8⟩ := h
  exact ⟨⟨sP, sT, h1, h2, h3, fun b hb => hm b (h4 b hb), fun b hb => hm b (h5 b hb)⟩, hm _ h6, h7, h8⟩
theorem SetsAt.lt {N : Nat → Prop} {w : World} {bs : Nat} {s : Uf} (h : SetsAt N w bs s) : bs < w.heap.size := by
  obtain ⟨_, _, h1, _⟩ := h.ex
  exact (Array.getElem?_eq_some_iff.1 h1).1
theorem neqPtrS (w : World) (r : Option Addr) : (binOp .neq 59 (.pointer r) (.pointer none)).run Tryz.prog w = .ok (.bool (!r.isNone)) w := by
  cases r <;> kernel_rfl
section
variable {N : Nat → Prop} {w : World} {bs : Nat} {s : Uf}
theorem ufvalid_any (h : SetsAt N w bs s) : Calls Tryz.prog 58 #[.pointer (some ⟨bs, 0, none⟩)] w fun e w' => e = .returned (.bool true) ∧ w' = w := by
  obtain ⟨sP, sT, h1, _⟩ := h.ex
  obtain ⟨c0, c1, c2, cf, cl⟩ := three_of h1
  have np := neqPtrS
  clear h h1
  go_enter Tryz.func58, Tryz.ntmps58
  go_wp2
  go_ret
  exact ⟨rfl, rfl⟩
theorem ufhas_any (x : Int) (h : SetsAt N w bs s) : Calls Tryz.prog 60 #[.pointer (some ⟨bs, 0, none⟩), .int .i64 x] w fun e w' => e = .returned (.bool (decide (0 ≤ x ∧ x < s.par.length))) ∧ w' = w := by
  have H := hid h
  obtain ⟨sP, sT, h1, h2, _⟩ := h.ex
  obtain ⟨pp, pc, hv⟩ := h2.form
  subst hv
  obtain ⟨c0, c1, c2, cf, cl⟩ := three_of h1
  clear h h1 h2
  go_enter Tryz.func60, Tryz.ntmps60
  go_wp2_with fail
  refine (ufvalid_any H.out).mono ?_
  rintro e w' ⟨rfl, h9⟩
  subst h9
  by_cases hx : 0 ≤ x
  · by_cases hy : x < s.par.length
    · go_wp2
      go_ret
      exact ⟨by simp [hx, hy], rfl⟩
    · go_wp2
      go_ret
      exact ⟨by simp [hx, hy], rfl⟩
  · have hd : decide (0 ≤ x ∧ x < (s.par.length : Int)) = false := decide_eq_false (fun h => hx h.1)
    have HD := hid hd
    clear hd
    go_wp2
    go_ret
    refine ⟨?_, rfl⟩
    have h9 : ¬ (0 ≤ x) := by omega
    show Ending.returned (Value.bool false) = _
    simp [h9]
set_option maxHeartbeats 2000000 in
theorem uffind_any (x : Int) (h : SetsAt N w bs s) : Calls Tryz.prog 31 #[.pointer (some ⟨bs, 0, none⟩), .int .i64 x] w fun e w' => e = .returned (.int .i64 (findS s.par x)) ∧ w' = w := by
  have H := hid h
  have HP := hid h.ok.par
  obtain ⟨sP, sT, h1, h2, _⟩ := h.ex
  have HO := hid h2
  have H1 := hid h1
  clear h h1 h2
  go_enter Tryz.func31, Tryz.ntmps31
  go_wp2_with fail
  refine (ufhas_any x H.out).mono ?_
  rintro e w' ⟨rfl, h9⟩
  subst h9
  by_cases hx : 0 ≤ x ∧ x < s.par.length
  · rw [decide_eq_true hx]
    have HX := hid hx
    have HL : Hid (∀ y : Int, 0 ≤ y → y < s.par.length → ∃ g cap, sP = .slice (some ⟨g, 0, none⟩) s.par.length cap ∧ w'.cell? ⟨g, y.toNat, none⟩ = some (.int .i64 (s.par.getD y.toNat 0))) := fun y y0 y1 => by
      rcases HO.out.form' with ⟨_, h3⟩ | ⟨g, cap, h3, _⟩
      · rw [h3] at y1; simp at y1; omega
      · refine ⟨g, cap, h3, ?_⟩
        have h4 := HO.out
        rw [h3] at h4
        exact h4.cell (by omega)
    have hx0 := hx.1
    have hx1 := hx.2
    obtain ⟨g, cap, hsl, _⟩ := HL.out x hx0 hx1
    subst hsl
    have c1 := (three_of H1.out).2.1
    have hlen := H.out.small.1
    clear hx
    go_wp2
    go_loopw [5] (fun r wr => ∃ z : Int, r = .int .i64 z ∧ 0 ≤ z ∧ z < s.par.length ∧ Hid (root s.par z = root s.par x) ∧ wr = w') (fun r _ => (intOf r).toNat)
    case atStart => exact ⟨x, rfl, hx0, hx1, hid rfl, rfl⟩
    case round =>
      obtain ⟨z, rfl, z0, z1, HZ, hw⟩ := hrel
      subst hw
      obtain ⟨g', cap', hsl, cz⟩ := HL.out z z0 z1
      cases hsl
      obtain ⟨y, hy⟩ : ∃ y, s.par.getD z.toNat 0 = y := ⟨_, rfl⟩
      have hyb := HP.out z.toNat (by omega)
      rw [hy] at cz hyb
      have HY := hid hy
      obtain ⟨zn, rfl⟩ : ∃ n : Nat, z = n := ⟨z.toNat, by omega⟩
      rw [Int.toNat_natCast] at cz hyb HY
      clear hy
      by_cases e : y = zn
      · subst e
        go_wp2
        go_ret
        refine ⟨?_, rfl⟩
        have : findS s.par x = (zn : Int) := by
          unfold findS
          rw [if_pos HX.out, ← HZ.out]
          exact root_top HY.out
        rw [this]
        rfl
      · have e' : ((y == (zn : Int)) = false) := by simpa using e
        go_wp2
        go_roundw
        case rel => exact ⟨y, rfl, hyb.1, by omega, hid (by rw [← HZ.out, ← HY.out]; exact root_step HP.out (x := (zn : Int)) z0 z1), (by first | rfl | trivial)⟩
        case measure => simp [intOf]; omega
  · rw [decide_eq_false hx]
    have HX := hid hx
    clear hx
    go_wp2
    go_ret
    exact ⟨by rw [findS_out HX.out]; rfl, rfl⟩
end
end Go.Proofs.YtlekoceindepnaaGreatDoor
end
section
/- Disjoint sets in memory: the walks of Make and Union. -/
namespace Go.Proofs.YtlekoceindepnaaGreatDoor
open Go.RowKit
set_option maxRecDepth 100000

theorem Grow.step {N : Nat → Prop} {w W W' : World} {k : Nat} (h : Grow N w W k) (hs : W.heap.size ≤ W'.heap.size) : Grow N w W' k := by
  rcases h with h | ⟨h1, h2⟩
  · exact .inl h
  · exact .inr ⟨h1, by omega⟩
/-- The sets while a call works on them. -/
structure UfAt (N : Nat → Prop) (w W : World) (bs : Nat) (sP sT : Value) (p : List Int) (t : List Stp) : Prop where
  hd : W.heap[bs]? = some (.cells #[.bool true, sP, sT] 95 (0, 0))
  op : OwnI 0 W sP p
  ot : OwnS W sT t
  np : ∀ b, sP.ownBlock = some b → Grow N w W b
  nt : ∀ b, sT.ownBlock = some b → Grow N w W b
  fr : Fr N w W
  nb : N bs
section
variable {N : Nat → Prop} {w W W6 : World} {bs : Nat} {sP sT v6 : Value} {p p' : List Int} {t t' : List Stp}
theorem UfAt.quiet (h : UfAt N w W bs sP sT p t) (hf : Fr NoB W W6) : UfAt N w W6 bs sP sT p t :=
  ⟨hf.at (fun h => h) h.hd, h.op.fr hf (fun _ _ h => h), h.ot.step hf, fun b hb => (h.np b hb).step hf.size, fun b hb => (h.nt b hb).step hf.size, h.fr.step hf, h.nb⟩
theorem UfAt.neP (h : UfAt N w W bs sP sT p t) {b : Nat} (hb : sP.ownBlock = some b) : b ≠ bs := by
  obtain ⟨cur, hc⟩ := h.op.head hb
  exact ne_of_types hc h.hd (by decide)
theorem UfAt.neT (h : UfAt N w W bs sP sT p t) {b : Nat} (hb : sT.ownBlock = some b) : b ≠ bs := by
  obtain ⟨cur, hc⟩ := OwnE.head h.ot hb
  exact ne_of_types hc h.hd (by decide)
theorem UfAt.nePT (h : UfAt N w W bs sP sT p t) {b b' : Nat} (hb : sP.ownBlock = some b) (hb' : sT.ownBlock = some b') : b ≠ b' := by
  obtain ⟨cur, hc⟩ := h.op.head hb
  obtain ⟨cur', hc'⟩ := OwnE.head h.ot hb'
  exact ne_of_types hc hc' (by decide)
theorem UfAt.par (h : UfAt N w W bs sP sT p t) (o : Obj) (hg : (W.alloc o).grownBy W6 sP.ownBlock) (ho : OwnI 0 W6 v6 p') (hb : v6.ownBlock = sP.ownBlock ∨ v6.ownBlock = some (W.alloc o).heap.size) :
    W6.heap[bs]? = some (.cells #[.bool true, sP, sT] 95 (0, 0)) ∧ UfAt N w (W6.setCell ⟨bs, 1, none⟩ v6) bs v6 sT p' t := by
  have f6 : Fr (fun b => sP.ownBlock = some b) W W6 := Fr.grown ((Fr.refl _ W).alloc o) hg (fun k hk _ => hk)
  have hd6 := f6.at (fun e => h.neP e rfl) h.hd
  have f7 : Fr (fun k => k = bs) W6 (W6.setCell ⟨bs, 1, none⟩ v6) := (Fr.refl (fun k => k = bs) W6).setCell (p := ⟨bs, 1, none⟩) (fun _ => rfl) _
  have hs1 := hg.size
  have hs2 := f6.size
  have hs3 := f7.size
  have hnew : ∀ b, v6.ownBlock = some b → Grow N w (W6.setCell ⟨bs, 1, none⟩ v6) b := fun b hb9 => by
    rcases hb with hb | hb
    · rw [hb] at hb9; exact (h.np b hb9).step (Nat.le_trans hs2 hs3)
    · have h8 := (World.ownsRow.lt ho b hb9).2
      rw [hb] at hb9
      have h7 := h.fr.size
      simp only [World.size_alloc, Option.some.injEq] at hb9
      exact .inr ⟨by omega, by omega⟩
  refine ⟨hd6, set_at hd6 1 v6, ho.fr f7 (fun b hb9 e => ?_), (OwnE.fr h.ot f6 (fun b hb9 e => h.nePT e hb9 rfl)).fr f7 (fun b hb9 e => h.neT hb9 e), hnew, fun b hb9 => (h.nt b hb9).step (Nat.le_trans hs2 hs3), (h.fr.trans' f6 (fun k hk e => ?_)).trans' f7 (fun k hk e => by rw [show k = bs from e]; exact h.nb), h.nb⟩
  · obtain ⟨cur, hc⟩ := ho.head hb9
    exact ne_of_types hc hd6 (by decide) e
  · rcases h.np k e with h9 | h9
    · exact h9
    · omega
theorem UfAt.trl (h : UfAt N w W bs sP sT p t) (o : Obj) (hg : (W.alloc o).grownBy W6 sT.ownBlock) (ho : OwnS W6 v6 t') (hb : v6.ownBlock = sT.ownBlock ∨ v6.ownBlock = some (W.alloc o).heap.size) :
    W6.heap[bs]? = some (.cells #[.bool true, sP, sT] 95 (0, 0)) ∧ UfAt N w (W6.setCell ⟨bs, 2, none⟩ v6) bs sP v6 p t' := by
  have f6 : Fr (fun b => sT.ownBlock = some b) W W6 := Fr.grown ((Fr.refl _ W).alloc o) hg (fun k hk _ => hk)
  have hd6 := f6.at (fun e => h.neT e rfl) h.hd
  have f7 : Fr (fun k => k = bs) W6 (W6.setCell ⟨bs, 2, none⟩ v6) := (Fr.refl (fun k => k = bs) W6).setCell (p := ⟨bs, 2, none⟩) (fun _ => rfl) _
  have hs1 := hg.size
  have hs2 := f6.size
  have hs3 := f7.size
  have hnew : ∀ b, v6.ownBlock = some b → Grow N w (W6.setCell ⟨bs, 2, none⟩ v6) b := fun b hb9 => by
    rcases hb with hb | hb
    · rw [hb] at hb9; exact (h.nt b hb9).step (Nat.le_trans hs2 hs3)
    · have h8 := (World.ownsRow.lt ho b hb9).2
      rw [hb] at hb9
      have h7 := h.fr.size
      simp only [World.size_alloc, Option.some.injEq] at hb9
      exact .inr ⟨by omega, by omega⟩
  refine ⟨hd6, set_at hd6 2 v6, (h.op.fr f6 (fun b hb9 e => h.nePT hb9 e rfl)).fr f7 (fun b hb9 e => h.neP hb9 e), OwnE.fr ho f7 (fun b hb9 e => ?_), fun b hb9 => (h.np b hb9).step (Nat.le_trans hs2 hs3), hnew, (h.fr.trans' f6 (fun k hk e => ?_)).trans' f7 (fun k hk e => by rw [show k = bs from e]; exact h.nb), h.nb⟩
  · obtain ⟨cur, hc⟩ := OwnE.head ho hb9
    exact ne_of_types hc hd6 (by decide) e
  · rcases h.nt k e with h9 | h9
    · exact h9
    · omega
theorem UfAt.put {g q n : Nat} (h : UfAt N w W bs (.slice (some ⟨g, 0, none⟩) n q) sT p t) (j : Nat) (x : Int) : UfAt N w (W.setCell ⟨g, j, none⟩ (.int .i64 x)) bs (.slice (some ⟨g, 0, none⟩) n q) sT (p.set j x) t := by
  have f6 : Fr (fun b => b = g) W (W.setCell ⟨g, j, none⟩ (.int .i64 x)) := (Fr.refl (fun k => k = g) W).setCell (p := ⟨g, j, none⟩) (fun _ => rfl) _
  have hs := f6.size
  refine ⟨f6.at (fun e => h.neP rfl e.symm) h.hd, h.op.stored j x, OwnE.fr h.ot f6 (fun b hb e => h.nePT rfl hb e.symm), fun b hb => (h.np b hb).step hs, fun b hb => (h.nt b hb).step hs, h.fr.trans' f6 (fun k hk e => ?_), h.nb⟩
  rw [show k = g from e] at hk ⊢
  rcases h.np g rfl with h9 | h9
  · exact h9
  · omega
theorem SetsAt.at {s : Uf} (h : SetsAt N w bs s) : ∃ sP sT, UfAt N w w bs sP sT s.par s.tr := by
  obtain ⟨sP, sT, h1, h2, h3, h4, h5⟩ := h.ex
  exact ⟨sP, sT, h1, h2, h3, fun b hb => .inl (h4 b hb), fun b hb => .inl (h5 b hb), Fr.refl _ _, h.hd⟩
theorem UfAt.done {s : Uf} (h : UfAt N w W bs sP sT s.par s.tr) (hk : UfOk s) (hs : s.par.length ≤ 1000000 ∧ s.tr.length ≤ 3000000) : SetsAt (Grow N w W) W bs s :=
  ⟨⟨sP, sT, h.hd, h.op, h.ot, h.np, h.nt⟩, .inl h.nb, hk, hs⟩
end
set_option maxHeartbeats 2000000 in
theorem ufmake_any {N : Nat → Prop} {w : World} {bs : Nat} {s : Uf} (h : SetsAt N w bs s) (hn : s.par.length < 1000000) (ht : s.tr.length < 3000000) :
    Calls Tryz.prog 28 #[.pointer (some ⟨bs, 0, none⟩)] w fun e w' => e = .returned (.int .i64 s.par.length) ∧ SetsAt (Grow N w w') w' bs s.make ∧ Fr N w w' := by
  have H := hid h
  have HOK := hid h.ok
  obtain ⟨sP, sT, hm⟩ := h.at
  obtain ⟨pp, pc, hv⟩ := hm.op.form
  subst hv
  obtain ⟨tp, tc, hv⟩ := OwnE.form hm.ot
  subst hv
  have U := hid hm
  obtain ⟨c0, c1, c2, cf, cl⟩ := three_of hm.hd
  clear h hm
  go_enter Tryz.func28, Tryz.ntmps28
  go_wp2_with fail
  refine (ufvalid_any H.out).mono ?_
  rintro e w' ⟨rfl, h9⟩
  subst h9
  go_wp2_with (at_builtin; first | (refine ap_ints_at _ rfl _ _ rfl 0 (.slice pp s.par.length pc) s.par rfl (OwnI.fr U.out.op ((Fr.refl NoB w').alloc _) (fun _ _ h => h)) NoB _ [(s.par.length : Int)] rfl (rdI_lit' (l := [(s.par.length : Int)]) rfl rfl rfl (fun h => h)) ?_ (Nat.zero_le _) ?_; (simp only [List.length_singleton]; omega); intro v6 w6 ho6 hg6 hb6; obtain ⟨p6, q6, hv6⟩ := ho6.form; rw [show (s.par ++ [(s.par.length : Int)]).length = s.par.length + 1 from by simp] at hv6; subst hv6; obtain ⟨hd6, U6⟩ := U.out.par _ hg6 ho6 hb6; have HU6 := hid U6; clear ho6 hg6 hb6 U6 c0 c1 c2 cf cl; obtain ⟨d0, d1, d2, df, dl⟩ := three_of hd6; obtain ⟨e0, e1, e2, ef, el⟩ := three_of HU6.out.hd) | go_loud (refine ap_stp _ rfl _ _ rfl (.slice tp s.tr.length tc) s.tr rfl (OwnE.step HU6.out.ot ((Fr.refl NoB _).alloc _)) _ [(true, (s.par.length : Int))] rfl (rdS_lit (true, (s.par.length : Int)) (by simp [World.setCell])) ?_ ?_; (simp only [List.length_singleton]; omega); intro p7 q7 w7 ho7 hg7 hb7; rw [show (s.tr ++ [(true, (s.par.length : Int))]).length = s.tr.length + 1 from by simp] at ho7 hb7; obtain ⟨hd7, U7⟩ := HU6.out.trl _ hg7 ho7 hb7; have HU7 := hid U7; clear ho7 hg7 hb7 U7 d0 d1 d2 df dl hd6; obtain ⟨d0, d1, d2, df, dl⟩ := three_of hd7))
  go_ret
  exact ⟨rfl, HU7.out.done (s := s.make) HOK.out.make ⟨by simp [Uf.make]; omega, by simp [Uf.make]; omega⟩, HU7.out.fr⟩
set_option maxHeartbeats 4000000 in
theorem ufunion_any {N : Nat → Prop} {w : World} {bs : Nat} {s : Uf} (a b : Int) (h : SetsAt N w bs s) (ht : s.tr.length < 3000000) :
    Calls Tryz.prog 33 #[.pointer (some ⟨bs, 0, none⟩), .int .i64 a, .int .i64 b] w fun e w' => e = .returned (.tuple #[.int .i64 (s.union a b).2.1, .bool (s.union a b).2.2]) ∧ SetsAt (Grow N w w') w' bs (s.union a b).1 ∧ Fr N w w' := by
  have H := hid h
  have HOK := hid h.ok
  have HU := hid (h.ok.union a b)
  have HC := hid (union_cases s h.ok a b)
  obtain ⟨sP, sT, hm⟩ := h.at
  obtain ⟨pp, pc, hv⟩ := hm.op.form
  subst hv
  obtain ⟨tp, tc, hv⟩ := OwnE.form hm.ot
  subst hv
  have U := hid hm
  obtain ⟨c0, c1, c2, cf, cl⟩ := three_of hm.hd
  have HX1 : Hid (0 ≤ a ∧ a < s.par.length → 0 ≤ findS s.par a ∧ findS s.par a < s.par.length) := fun h9 => findS_in h.ok.par h9.1 h9.2
  have HX2 : Hid (0 ≤ b ∧ b < s.par.length → 0 ≤ findS s.par b ∧ findS s.par b < s.par.length) := fun h9 => findS_in h.ok.par h9.1 h9.2
  have HN1 : Hid (¬ (0 ≤ a ∧ a < s.par.length) → findS s.par a = -1) := fun h9 => findS_out h9
  have HN2 : Hid (¬ (0 ≤ b ∧ b < s.par.length) → findS s.par b = -1) := fun h9 => findS_out h9
  obtain ⟨R, hR⟩ : ∃ R, s.union a b = R := ⟨_, rfl⟩
  rw [hR] at HU HC ⊢
  clear hR
  obtain ⟨x, hx⟩ : ∃ x, findS s.par a = x := ⟨_, rfl⟩
  obtain ⟨y, hy⟩ : ∃ y, findS s.par b = y := ⟨_, rfl⟩
  rw [hx] at HX1 HN1 HC
  rw [hy] at HX2 HN2 HC
  have HX := hid hx
  have HY := hid hy
  have HS := hid (And.intro h.small.1 h.small.2)
  clear h hm hx hy
  go_enter Tryz.func33, Tryz.ntmps33
  go_wp2_with fail
  refine (ufvalid_any H.out).mono ?_
  rintro e w' ⟨rfl, h9⟩
  subst h9
  go_wp2_with fail
  refine (uffind_any a H.out).mono ?_
  rintro e w' ⟨rfl, h9⟩
  subst h9
  go_wp2_with fail
  refine (uffind_any b H.out).mono ?_
  rintro e w' ⟨rfl, h9⟩
  subst h9
  rw [HX.out, HY.out]
  have HG : Hid (SetsAt (Grow N w' w') w' bs s) := H.out.mono (fun _ h => .inl h)
  rcases HC.out with ⟨h1, h2⟩ | ⟨h1, h2, h3, h4⟩ | ⟨h1, h2, h3, h4⟩
  · have HE := hid h2
    by_cases hxn : x < 0
    · clear h1 h2
      go_wp2
      go_ret2
      rw [HE.out]
      exact ⟨rfl, HG.out, Fr.refl _ _⟩
    · have hyn : y < 0 := by
        have h8 : 0 ≤ a ∧ a < s.par.length := Decidable.byContradiction fun h9 => by have := HN1.out h9; omega
        have := HN2.out (fun h9 => h1 ⟨h8, h9⟩)
        omega
      clear h1 h2
      go_wp2
      go_ret2
      rw [HE.out]
      exact ⟨rfl, HG.out, Fr.refl _ _⟩
  · have HE := hid h4
    have x0 := HX1.out h1
    have hxn : ¬ x < 0 := by omega
    clear h1 h2 h4
    subst h3
    go_wp2
    go_ret2
    rw [HE.out]
    exact ⟨rfl, HG.out, Fr.refl _ _⟩
  · have x0 := HX1.out h1
    have y0 := HX2.out h2
    have hxn : ¬ x < 0 := by omega
    have hyn : ¬ y < 0 := by omega
    have hne : (x == y) = false := by simpa using h3
    have HE := hid h4
    have m0 : 0 ≤ max x y := by omega
    have m1 : max x y < (s.par.length : Int) := by omega
    obtain ⟨g, pg, hpp⟩ : ∃ g cap, pp = some ⟨g, 0, none⟩ ∧ pc = cap := by
      rcases U.out.op.form' with ⟨h3, _⟩ | ⟨g, cap, h3, _⟩
      · simp only [Value.slice.injEq] at h3; omega
      · cases h3; exact ⟨g, _, rfl, rfl⟩
    obtain ⟨hpp, hpc⟩ := hpp
    subst hpp hpc
    have cz := U.out.op.cell (i := (max x y).toNat) (by omega)
    have fz := U.out.op.frozen (max x y).toNat
    have U2 := hid (U.out.put (max x y).toNat (min x y))
    obtain ⟨e0, e1, e2, ef, el⟩ := three_of U2.out.hd
    clear h1 h2 h4
    go_wp2_with (at_builtin; go_loud (refine ap_stp _ rfl _ _ rfl (.slice tp s.tr.length tc) s.tr rfl (OwnE.step U2.out.ot ((Fr.refl NoB _).alloc _)) _ [(false, max x y)] rfl (rdS_lit (false, max x y) (by simp [World.setCell])) ?_ ?_; (simp only [List.length_singleton]; omega); intro p7 q7 w7 ho7 hg7 hb7; rw [show (s.tr ++ [(false, max x y)]).length = s.tr.length + 1 from by simp] at ho7 hb7; obtain ⟨hd7, U7⟩ := U2.out.trl _ hg7 ho7 hb7; have HU7 := hid U7; clear ho7 hg7 hb7 U7 c0 c1 c2 cf cl; obtain ⟨d0, d1, d2, df, dl⟩ := three_of hd7))
    go_ret2
    rw [HE.out]
    refine ⟨rfl, ?_, HU7.out.fr⟩
    have h9 := HU.out
    rw [HE.out] at h9
    exact HU7.out.done (s := ⟨s.par.set (max x y).toNat (min x y), s.tr ++ [(false, max x y)]⟩) h9 ⟨by simp only [List.length_set]; exact HS.out.1, by simp only [List.length_append, List.length_singleton]; omega⟩
end Go.Proofs.YtlekoceindepnaaGreatDoor
end
section
/- The walks of forest.New, Link, Same. -/
namespace Go.Proofs.YtlekoceindepnaaGreatDoor
open Go.RowKit
set_option maxRecDepth 100000

theorem ForAt.fr {M N : Nat → Prop} {w w' : World} {bf : Nat} {L : List Lnk} {r : Int → Int} (h : ForAt M w bf L r) (hf : Fr N w w') (hd : ∀ k, M k → ¬ N k) : ForAt M w' bf L r := by
  obtain ⟨⟨bn, bu, sl, g, rk, h1, h2, h3, h4, h5, h6, h7, m1, m2, m3⟩, hlt⟩ := h
  exact ⟨⟨bn, bu, sl, g, rk, h1.fr hf (hd _ m1), h2.fr hf (fun b hb => hd b (h3 b hb)), h3, h4.fr hf (hd _ m2) hd, h5.fr hf (hd _ m3), h6, h7, m1, m2, m3⟩, fun k hk => Nat.lt_of_lt_of_le (hlt k hk) hf.size⟩
theorem ForAt.step {M : Nat → Prop} {w w' : World} {bf : Nat} {L : List Lnk} {r : Int → Int} (h : ForAt M w bf L r) (hf : Fr NoB w w') : ForAt M w' bf L r := h.fr hf (fun _ _ h => h)
theorem ForAt.idem {M : Nat → Prop} {w : World} {bf : Nat} {L : List Lnk} {r : Int → Int} (h : ForAt M w bf L r) (x : Int) : r (r x) = r x := by
  obtain ⟨bn, bu, sl, g, rk, _, _, _, _, _, h6, _⟩ := h.ex
  exact h6.idem x

/-- find on the whole. -/
theorem ffind_at (M : Nat → Prop) (w : World) (bf : Nat) (L : List Lnk) (r : Int → Int) (x : Int) (h : ForAt M w bf L r) :
    Calls Tryz.prog 61 #[.pointer (some ⟨bf, 0, none⟩), .int .i64 x] w fun e w' => e = .returned (.int .i64 (r x)) ∧ ForAt M w' bf L r ∧ Fr M w w' := by
  obtain ⟨⟨bn, bu, sl, g, rk, h1, h2, h3, h4, h5, h6, h7, m1, m2, m3⟩, hlt⟩ := h
  have hub : bu ≠ bf := fun e => h5.ne_cells h1 e.symm
  refine (ffind_any w bf bn bu sl g r rk x h1 h5 h6 hub).mono ?_
  rintro e w' ⟨rfl, ⟨g', hu', ho'⟩, hf⟩
  refine ⟨rfl, ⟨⟨bn, bu, sl, g', rk, h1.fr hf (fun e => hub e.symm), h2.fr hf (fun b hb e => ?_), h3, ?_, hu', ho', h7, m1, m2, m3⟩, fun k hk => Nat.lt_of_lt_of_le (hlt k hk) hf.size⟩, hf.mono (fun k _ e => by rw [show k = bu from e]; exact m3)⟩
  · obtain ⟨cur, hc⟩ := OwnE.head h2 hb
    exact h5.ne_cells hc e
  · obtain ⟨m, a1, a2, a3, a4⟩ := h4
    refine ⟨m, a1.fr hf (fun e => h7 e.symm), a2, fun k v hk => ⟨(a3 k v hk).1.fr hf (fun b hb e => ?_), (a3 k v hk).2⟩, a4⟩
    obtain ⟨cur', hc'⟩ := (a3 k v hk).1.head hb
    exact h5.ne_cells hc' e

theorem fnew_any (w : World) : Calls Tryz.prog 75 #[] w fun e w' => ∃ bf M, e = .returned (.pointer (some ⟨bf, 0, none⟩)) ∧ ForAt M w' bf [] (fun x => x) ∧ (∀ k, M k → w.heap.size ≤ k) ∧ Fr NoB w w' := by
  have hmm := @run_makeMap Tryz.prog
  go_enter Tryz.func75, Tryz.ntmps75
  go_wp2
  go_ret
  refine ⟨w.heap.size + 2, fun k => w.heap.size ≤ k ∧ k < w.heap.size + 3, rfl, ⟨⟨w.heap.size, w.heap.size + 1, _, fun _ => none, fun _ => 0, at_new' (by simp), OwnE.nil _ _ _ _ _, fun b hb => (by cases hb), ?_, ?_, ⟨fun _ _ => rfl, fun _ _ h => (by cases h)⟩, by omega, by omega, by omega, by omega⟩, fun k hk => by simp only [World.size_alloc]; omega⟩, fun k hk => hk.1, (((Fr.refl NoB w).alloc _).alloc _).alloc _⟩
  · refine ⟨[], (MapIs.new (.int .i64) (Value.int .i64) w).fr (((Fr.refl NoB _).alloc _).alloc _) (fun h => h), fun k _ => rfl, fun k v h => (by cases h), fun k k' v v' _ h => (by cases h)⟩
  · have h := MapIs.new (.int .i64) (Value.int .i64) (w.alloc (.map #[] 0))
    rw [World.size_alloc] at h
    exact ⟨[], h.fr ((Fr.refl NoB _).alloc _) (fun h => h), fun k => rfl⟩

theorem eqPtrF (w : World) (r : Option Addr) : (binOp .eql 62 (.pointer r) (.pointer none)).run Tryz.prog w = .ok (.bool r.isNone) w := by
  cases r <;> kernel_rfl
theorem neqPtrF (w : World) (r : Option Addr) : (binOp .neq 62 (.pointer r) (.pointer none)).run Tryz.prog w = .ok (.bool (!r.isNone)) w := by
  cases r <;> kernel_rfl

set_option maxHeartbeats 4000000 in
theorem fsame_any (M : Nat → Prop) (w : World) (bf : Nat) (L : List Lnk) (r : Int → Int) (x y : Int) (h : ForAt M w bf L r) :
    Calls Tryz.prog 63 #[.pointer (some ⟨bf, 0, none⟩), .int .i64 x, .int .i64 y] w fun e w' => e = .returned (.bool (decide (0 ≤ x ∧ 0 ≤ y ∧ r x = r y))) ∧ ForAt M w' bf L r ∧ Fr M w w' := by
  have H := hid h
  obtain ⟨bn, bu, sl, g, rk, h1, _⟩ := h.ex
  obtain ⟨c0, _, _, _, cf, cl⟩ := h1.cells
  have ep := eqPtrF
  have np := neqPtrF
  clear h h1 cf cl
  go_enter Tryz.func63, Tryz.ntmps63
  by_cases hx : 0 ≤ x
  · by_cases hy : 0 ≤ y
    · go_wp2_with fail
      refine (ffind_at M _ bf L r x H.out).mono ?_
      rintro e w1 ⟨rfl, h1, f1⟩
      have H1 := hid h1
      have F1 := hid f1
      clear h1 f1
      go_wp2_with fail
      refine (ffind_at M _ bf L r y H1.out).mono ?_
      rintro e w2 ⟨rfl, h2, f2⟩
      have H2 := hid h2
      have F2 := hid (F1.out.trans f2)
      clear h2 f2
      go_wp2
      go_ret
      exact ⟨ret_bool (by rw [show decide (0 ≤ x ∧ 0 ≤ y ∧ r x = r y) = decide (r x = r y) by simp [hx, hy]]; rfl), H2.out, F2.out⟩
    · go_wp2
      go_ret
      exact ⟨ret_bool (by simp; omega), H.out, Fr.refl _ _⟩
  · go_wp2
    go_ret
    exact ⟨ret_bool (by simp; omega), H.out, Fr.refl _ _⟩

def LinkPost (M : Nat → Prop) (w : World) (bf : Nat) (L : List Lnk) (r : Int → Int) (x y why : Int) (e : Ending) (w' : World) : Prop :=
  e = .returned (.bool (decide (0 ≤ x ∧ 0 ≤ y ∧ r x ≠ r y))) ∧
      (∃ M', ForAt M' w' bf (if 0 ≤ x ∧ 0 ≤ y ∧ r x ≠ r y then L ++ [⟨x, y, why⟩] else L) (if 0 ≤ x ∧ 0 ≤ y ∧ r x ≠ r y then (fun k => if r k = r x then r y else r k) else r) ∧ ∀ k, M' k → M k ∨ w.heap.size ≤ k) ∧ Fr M w w'
set_option maxHeartbeats 4000000 in
theorem flink_any (M : Nat → Prop) (w : World) (bf : Nat) (L : List Lnk) (r : Int → Int) (x y why : Int) (h : ForAt M w bf L r) (hL : L.length ≤ 1000000) :
    Calls Tryz.prog 34 #[.pointer (some ⟨bf, 0, none⟩), .int .i64 x, .int .i64 y, .int .i64 why] w (LinkPost M w bf L r x y why) := by
  have H := hid h
  obtain ⟨bn, bu, sl, g, rk, h1, _⟩ := h.ex
  obtain ⟨c0, _, _, _, cf, cl⟩ := h1.cells
  have ep := eqPtrF
  have np := neqPtrF
  clear h h1 cf cl
  go_enter Tryz.func34, Tryz.ntmps34
  by_cases hx : 0 ≤ x
  · by_cases hy : 0 ≤ y
    · go_wp2_with fail
      refine (ffind_at M _ bf L r x H.out).mono ?_
      rintro e w1 ⟨rfl, h1, f1⟩
      have H1 := hid h1
      have F1 := hid f1
      clear h1 f1
      go_wp2_with fail
      refine (ffind_at M _ bf L r y H1.out).mono ?_
      rintro e w2 ⟨rfl, h2, f2⟩
      have H2 := hid h2
      have F2 := hid (F1.out.trans f2)
      clear h2 f2
      by_cases hr : r x = r y
      · have hq : (r x == r y) = true := by simpa using hr
        have HR := hid hr
        clear hr
        go_wp2
        go_ret
        have hn : ¬ (0 ≤ x ∧ 0 ≤ y ∧ r x ≠ r y) := fun h => h.2.2 HR.out
        unfold LinkPost
        rw [if_neg hn, if_neg hn]
        exact ⟨ret_bool (by simp [hn]), ⟨M, H2.out, fun k hk => .inl hk⟩, F2.out⟩
      · have hq : (r x == r y) = false := by simpa using hr
        have HR := hid hr
        clear hr
        go_wp2_with fail
        refine (fadd_any M _ bf L r ⟨x, y, why⟩ H2.out hL HR.out (fun e => HR.out (by rw [show x = y from e]))).mono ?_
        rintro e w3 ⟨rfl, ⟨M', h3, hM⟩, f3⟩
        have H3 := hid h3
        have HM := hid hM
        have F3 := hid (F2.out.trans f3)
        clear h3 hM f3
        go_wp2
        go_ret
        have hn : 0 ≤ x ∧ 0 ≤ y ∧ r x ≠ r y := ⟨hx, hy, HR.out⟩
        unfold LinkPost
        rw [if_pos hn, if_pos hn]
        exact ⟨ret_bool (by simp [hn]), ⟨M', H3.out, fun k hk => (HM.out k hk).imp_right (fun h => Nat.le_trans F2.out.size h)⟩, F3.out⟩
    · go_wp2
      go_ret
      have hn : ¬ (0 ≤ x ∧ 0 ≤ y ∧ r x ≠ r y) := fun h => by have := h.2.1; omega
      unfold LinkPost
      rw [if_neg hn, if_neg hn]
      exact ⟨ret_bool (by simp [hn]), ⟨M, H.out, fun k hk => .inl hk⟩, Fr.refl _ _⟩
  · go_wp2
    go_ret
    have hn : ¬ (0 ≤ x ∧ 0 ≤ y ∧ r x ≠ r y) := fun h => by have := h.1; omega
    unfold LinkPost
    rw [if_neg hn, if_neg hn]
    exact ⟨ret_bool (by simp [hn]), ⟨M, H.out, fun k hk => .inl hk⟩, Fr.refl _ _⟩
end Go.Proofs.YtlekoceindepnaaGreatDoor
end
section
/- Slices of bytes that a call has made (OwnB), the laws of append for them, the table of powers of ten (Tab), at this program. -/
namespace Go.Proofs.YtlekoceindepnaaGreatDoor
open Go.RowKit

def OwnB (B : Nat) (w : World) (v : Value) (l : List UInt8) : Prop := w.ownsRow B 5 1 v l.length (Lib.byteCells l)

theorem infoByte : (Tryz.prog.info? 5).map (fun i => (i.zero, i.size, i.bytes)) = some (some (.int .u8 0), 1, 1) := by kernel_rfl

/-- The table of powers of ten reads as the text lays it. -/
def Tab (w : World) : Prop := Lib.TabIs Tryz.prog w "internal/strconv.uint64pow10" .u64 Lib.pow10Tab
/-- The block of that table. -/
noncomputable def TB : Nat := (Tryz.prog.globalNamed "internal/strconv.uint64pow10").getD 0
theorem tb_at : Tryz.prog.globalNamed "internal/strconv.uint64pow10" = some TB := by kernel_rfl

theorem Tab.lt {w : World} (h : Tab w) : TB < w.heap.size := by
  unfold Tab Lib.TabIs World.var? at h
  rw [tb_at] at h
  simp only [Option.bind_some] at h
  rcases Nat.lt_or_ge TB w.heap.size with h1 | h1
  · exact h1
  · rw [Array.getElem?_eq_none h1] at h; simp at h
theorem Tab.fr {M : Nat → Prop} {w w' : World} (h : Tab w) (hf : Fr M w w') (hm : ¬ M TB) : Tab w' := by
  have hl := h.lt
  unfold Tab Lib.TabIs World.var? at h ⊢
  rw [tb_at] at h ⊢
  simp only [Option.bind_some] at h ⊢
  rw [hf.block TB hl hm]; exact h
theorem Tab.below {w : World} (h : Tab w) {B : Nat} (hB : TB < B) : Lib.TabBelow Tryz.prog B w "internal/strconv.uint64pow10" .u64 Lib.pow10Tab := fun w' hb => by
  have h1 : Tab w' := h.fr (M := fun k => B ≤ k) ⟨hb.os, hb.tape, hb.output, hb.size, fun k _ hk => hb.block k (by omega)⟩ (by omega)
  exact h1

theorem OwnB.row {B : Nat} {w : World} {v : Value} {l : List UInt8} (h : OwnB B w v l) : w.ownsRow B 5 1 v l.length (Lib.byteCells l) := h
theorem OwnB.drew {B : Nat} {w : World} {v : Value} {l : List UInt8} (h : OwnB B w v l) : OwnB B w.drew v l := h
theorem OwnB.form' {B : Nat} {w : World} {v : Value} {l : List UInt8} (h : OwnB B w v l) : (v = .slice none 0 0 ∧ l = []) ∨ ∃ g cap, v = .slice (some ⟨g, 0, none⟩) l.length cap ∧ B ≤ g ∧ g < w.heap.size ∧ l.length ≤ cap := by
  rcases h.2 with ⟨h, hl⟩ | ⟨g, cap, cur, h, hb, hg, hn, _⟩
  · exact .inl ⟨h, List.eq_nil_of_length_eq_zero hl⟩
  · exact .inr ⟨g, cap, h, hb, (Array.getElem?_eq_some_iff.1 hg).1, hn⟩
theorem OwnB.fr {B : Nat} {M : Nat → Prop} {w w' : World} {v : Value} {l : List UInt8} (h : OwnB B w v l) (hf : Fr M w w') (hm : ∀ k, v.ownBlock = some k → ¬ M k) : OwnB B w' v l := by
  refine ⟨h.1, ?_⟩
  rcases h.2 with h2 | ⟨g, cap, cur, h1, hb, hg, r⟩
  · exact .inl h2
  · refine .inr ⟨g, cap, cur, h1, hb, ?_, r⟩
    rw [hf.block g (Array.getElem?_eq_some_iff.1 hg).1 (hm g (by rw [h1]; rfl))]; exact hg

/-- What turns from base B on. -/
theorem Fr.own {B : Nat} {w w' : World} (h : Below B w w') : Fr (fun k => B ≤ k) w w' := ⟨h.os, h.tape, h.output, h.size, fun k _ hk => h.block k (by omega)⟩

theorem byte_step (w : World) {ops : Array Oper} {o : Oper} {a : Act} {K : Act → World → Prop} {Q : Exit → Act → World → Prop} {E : Prop} (hg : o.guard = none) (s x : Operand)
    (ho : o.op = .call { callee := .builtin .append, args := #[s, x], argTypes := #[116, 116] }) (base : Nat) (v : Value) (l : List UInt8) (hs : a.eval s = v) (hown : OwnB base w v l)
    (c : UInt8) (b n k : Nat) (hx : a.eval x = .slice (some ⟨b, 0, none⟩) n k) (hn : n = 1) (hc : w.cell? ⟨b, 0, none⟩ = some (.int .u8 (c.toNat : Int))) (hlen : l.length ≤ 140737488355000) (hbase : base ≤ w.heap.size)
    (h : ∀ v' w', OwnB base w' v' (l ++ [c]) → Fr (fun k => base ≤ k) w w' → K (a.put o.dst v') w') :
    if Region.wanted o (yielded ops a.tmps) = true then Oper.wp Tryz.prog o a w K Q else E := by
  subst hn
  obtain ⟨i0, hi, hz0, hz1, hz2⟩ := info_parts infoByte
  refine step_append_lies w hg s x 116 ho base 5 i0 (.int .u8 0) 1 1 Tryz.underlying116 hi hz0 hz1 hz2 rfl (by decide) v _ _ hs hown ⟨b, 0, none⟩ 1 k [.int .u8 (c.toNat : Int)] hx rfl (fun j u hu => ?_) (by simp [Value.oneCell']) (by decide) (by unfold maxLen; omega) (by omega) hbase w.heap.size rfl ?_
  · match j, hu with
    | 0, hu => simp at hu; subst hu; simpa [Addr.add] using hc
    | j + 1, hu => simp at hu
  · intro g cap w' h1 h2 h3 _
    have e : (l ++ [c]).length = l.length + 1 := by simp
    refine h _ w' ?_ ?_
    · unfold OwnB; rw [e, Lib.byteCells_append]; exact h1
    · exact (Fr.refl _ w).grown h2 (fun q hq _ => (World.ownsRow.lt hown q hq).1)

theorem byte_list (w : World) {ops : Array Oper} {rest : List Oper} {o : Oper} {a : Act} {Q : Exit → Act → World → Prop} (hg : o.guard = none) (s x : Operand)
    (ho : o.op = .call { callee := .builtin .append, args := #[s, x], argTypes := #[116, 116] }) (base : Nat) (v : Value) (l : List UInt8) (hs : a.eval s = v) (hown : OwnB base w v l)
    (c : UInt8) (b n k : Nat) (hx : a.eval x = .slice (some ⟨b, 0, none⟩) n k) (hn : n = 1) (hc : w.cell? ⟨b, 0, none⟩ = some (.int .u8 (c.toNat : Int))) (hlen : l.length ≤ 140737488355000) (hbase : base ≤ w.heap.size)
    (h : ∀ v' w', OwnB base w' v' (l ++ [c]) → Fr (fun k => base ≤ k) w w' → wpList Tryz.prog ops Q rest (a.put o.dst v') w') : wpList Tryz.prog ops Q (o :: rest) a w := by
  refine wpList_plain hg fun K hK => ?_
  have := byte_step (ops := ops) (E := True) (Q := Q) (K := K) w hg s x ho base v l hs hown c b n k hx hn hc hlen hbase (fun v' w' h1 h2 => hK _ _ (h v' w' h1 h2))
  have hw : Region.wanted o (yielded ops a.tmps) = true := by simp [Region.wanted, hg]
  rw [if_pos hw] at this
  exact this

theorem str_list (w : World) {ops : Array Oper} {rest : List Oper} {o : Oper} {a : Act} {Q : Exit → Act → World → Prop} (hg : o.guard = none) (s x : Operand)
    (ho : o.op = .call { callee := .builtin .append, args := #[s, x], argTypes := #[116, 9] }) (base : Nat) (v : Value) (l : List UInt8) (hs : a.eval s = v) (hown : OwnB base w v l)
    (t : ByteArray) (hx : a.eval x = .string t) (hlen : l.length + t.size ≤ 140737488355000) (hbase : base ≤ w.heap.size)
    (h : ∀ v' w', OwnB base w' v' (l ++ t.data.toList) → Fr (fun k => base ≤ k) w w' → wpList Tryz.prog ops Q rest (a.put o.dst v') w') : wpList Tryz.prog ops Q (o :: rest) a w := by
  obtain ⟨i0, hi, hz0, hz1, hz2⟩ := info_parts infoByte
  have ht : t.data.toList.length = t.size := by simp
  refine Lib.wpList_append_own_string w hg s x 116 9 ho base 5 i0 Tryz.underlying116 Tryz.underlying9 hi hz0 hz1 hz2 v _ _ hs hown t hx (by unfold maxLen; omega) (by omega) hbase ?_
  intro v' w' h1 h2 _
  refine h v' w' ?_ ((Fr.refl _ w).grown h2 (fun q hq _ => (World.ownsRow.lt hown q hq).1))
  unfold OwnB
  rw [List.length_append, ht, Lib.byteCells_append]; exact h1

/-- string(b) of bytes that a call owns. -/
theorem conv_own {B : Nat} {w : World} {v : Value} {l : List UInt8} (h : OwnB B w v l) : (convert 116 9 v).run Tryz.prog w = .ok (.string ⟨l.toArray⟩) w := by
  rcases h.form' with ⟨rfl, rfl⟩ | ⟨g, cap, rfl, _, hg, _⟩
  · exact run_convert_bytes_nil (P := Tryz.prog) (w := w) 116 5 Tryz.underlying116 Tryz.underlying5 0 0 9 Tryz.underlying9
  · refine run_convert_bytes_back w 116 9 5 ⟨g, 0, none⟩ cap l Tryz.underlying116 Tryz.underlying5 Tryz.underlying9 (fun j hj => ?_)
    refine World.ownsRow.cells h (g := g) rfl j _ ?_
    simp [Lib.byteCells, List.getElem?_eq_getElem hj]

end Go.Proofs.YtlekoceindepnaaGreatDoor
end
section
/- The walk of hashcons.Key. -/
namespace Go.Proofs.YtlekoceindepnaaGreatDoor
open Go.RowKit

def keyArgs (l : List Int) : List UInt8 := l.flatMap fun a => 44 :: Lib.itoa a
def keyL (n : Node) : List UInt8 := Lib.itoa n.op ++ [44] ++ Lib.itoa n.width ++ [44] ++ Lib.decDigits n.val.toNat ++ keyArgs n.args ++ [58] ++ n.name.data.toList
def keyB (n : Node) : ByteArray := ⟨(keyL n).toArray⟩

abbrev i64ok (x : Int) : Prop := -9223372036854775808 ≤ x ∧ x ≤ 9223372036854775807
/-- The numbers of a node are of their kinds. -/
structure NodeOk (n : Node) : Prop where
  op : i64ok n.op
  width : i64ok n.width
  val : 0 ≤ n.val ∧ n.val < 18446744073709551616
  args : ∀ i, i < n.args.length → i64ok (n.args.getD i 0)
/-- .. and it is of a size that a key can be made of. -/
structure NodeSm (n : Node) : Prop where
  args : n.args.length ≤ 100000
  name : n.name.size ≤ 100000000

theorem AppendUint_any (B n u : Nat) (hu64 : u < 18446744073709551616) (sv : Value) (xs : List Value) (w : World) (hown : w.ownsRow B 5 1 sv n xs) (hBw : B ≤ w.heap.size) (hlim : n + 20 ≤ 140737488355328) (htab : Tab w) :
    Calls Tryz.prog 82 #[sv, .int .u64 u, .int .i64 10] w fun e w' => ∃ v', e = .returned v' ∧ w'.ownsRow B 5 1 v' (n + (Lib.decDigits u).length) (xs ++ Lib.byteCells (Lib.decDigits u)) ∧ Below B w w' := by
  go_enter Tryz.func82, Tryz.ntmps82
  go_wp2_with (go_at_call 93; refine (Tryz.internal_strconv_AppendUint_10 B n u hu64 sv xs w hown hBw hlim htab).mono ?_; rintro e w2 ⟨v2, rfl, h1, h2, h3⟩)
  go_ret
  exact ⟨_, rfl, h1, h2⟩

/-- Where the making of a key stands. -/
structure KS (w : World) (n : Node) (s : Value) (wk : World) (v : Value) (l : List UInt8) : Prop where
  own : OwnB (w.heap.size + 1) wk v l
  box : wk.heap[w.heap.size]? = some (.cells (nodeCells n s) 30 (0, 0))
  fr : Fr NoB w wk
  tab : Tab wk
  lt : TB < w.heap.size

theorem KS.step {w : World} {n : Node} {s : Value} {wk w2 : World} {v v2 : Value} {l l2 : List UInt8} (h : KS w n s wk v l) (ho : OwnB (w.heap.size + 1) w2 v2 l2) (hf : Fr (fun k => w.heap.size + 1 ≤ k) wk w2) : KS w n s w2 v2 l2 where
  own := ho
  box := hf.at (by omega) h.box
  fr := h.fr.trans' hf (fun k hk h => by omega)
  tab := h.tab.fr hf (by have := h.lt; omega)
  lt := h.lt
theorem KS.alloc {w : World} {n : Node} {s : Value} {wk : World} {v : Value} {l : List UInt8} (h : KS w n s wk v l) (o : Obj) : KS w n s (wk.alloc o) v l where
  own := h.own.fr ((Fr.refl NoB wk).alloc o) (fun _ _ h => h)
  box := at_old h.box o
  fr := h.fr.alloc o
  tab := h.tab.fr ((Fr.refl NoB wk).alloc o) (fun h => h)
  lt := h.lt
theorem KS.drew {w : World} {n : Node} {s : Value} {wk : World} {v : Value} {l : List UInt8} (h : KS w n s wk v l) : KS w n s wk.drew v l := ⟨h.own, h.box, h.fr.drew, h.tab, h.lt⟩
theorem KS.size {w : World} {n : Node} {s : Value} {wk : World} {v : Value} {l : List UInt8} (h : KS w n s wk v l) : w.heap.size + 1 ≤ wk.heap.size := by
  have := (Array.getElem?_eq_some_iff.1 h.box).1; omega
theorem KS.num {w : World} {n : Node} {s : Value} {wk w2 : World} {v v2 : Value} {l : List UInt8} (h : KS w n s wk v l) (m : List UInt8) (ho : w2.ownsRow (w.heap.size + 1) 5 1 v2 (l.length + m.length) (Lib.byteCells l ++ Lib.byteCells m)) (hb : Below (w.heap.size + 1) wk w2) : KS w n s w2 v2 (l ++ m) := by
  refine h.step ?_ (Fr.own hb)
  unfold OwnB
  rw [List.length_append, Lib.byteCells_append]; exact ho

theorem KS.lt' {w : World} {n : Node} {s : Value} {wk : World} {v : Value} {l : List UInt8} (h : KS w n s wk v l) : TB < w.heap.size + 1 := Nat.lt_succ_of_lt h.lt
theorem KS.start {w : World} {n : Node} {s : Value} {w1 : World} {v : Value} (ho : w1.ownsRow (w.heap.size + 1) 5 1 v 0 []) (hg : (w.alloc (.cells (nodeCells n s) 30)).grownBy w1 none) (ht : Tab w) : KS w n s w1 v [] := by
  have hf : Fr NoB (w.alloc (.cells (nodeCells n s) 30)) w1 := (Fr.refl NoB _).grown hg (fun k hk => by cases hk)
  have hf0 : Fr NoB w w1 := ((Fr.refl NoB w).alloc _).step hf
  exact ⟨ho, hf.at (fun h => h) (at_new w _), hf0, ht.fr hf0 (fun h => h), ht.lt⟩

theorem keyArgs_take (l : List Int) (k : Nat) (hk : k < l.length) : keyArgs (l.take (k + 1)) = keyArgs (l.take k) ++ [44] ++ Lib.itoa (l.getD k 0) := by
  have e1 : l.take (k + 1) = l.take k ++ [l[k]] := List.take_succ_eq_append_getElem hk
  rw [e1, getD_eq hk, keyArgs, keyArgs, List.flatMap_append]
  simp

theorem decDigits_len : ∀ (d u : Nat), u < 10 ^ (d + 1) → (Lib.decDigits u).length ≤ d + 1
  | 0, u, h => by unfold Lib.decDigits; rw [dif_pos (by omega)]; simp
  | d + 1, u, h => by
    unfold Lib.decDigits
    split
    · simp
    · have := decDigits_len d (u / 10) (by rw [Nat.pow_succ] at h; omega)
      simp; omega
theorem itoa_len (x : Int) (h : i64ok x) : (Lib.itoa x).length ≤ 21 := by
  unfold Lib.itoa i64ok at *
  split
  · have := decDigits_len 19 x.natAbs (by omega); simp; omega
  · have := decDigits_len 19 x.toNat (by omega); omega

theorem keyArgs_len (l : List Int) (h : ∀ i, i < l.length → i64ok (l.getD i 0)) : ∀ k, k ≤ l.length → (keyArgs (l.take k)).length ≤ 22 * k
  | 0, _ => by simp [keyArgs]
  | k + 1, hk => by
    have ih := keyArgs_len l h k (by omega)
    have := itoa_len _ (h k (by omega))
    rw [keyArgs_take l k (by omega)]
    simp only [List.length_append, List.length_cons, List.length_nil]
    omega

set_option maxRecDepth 100000 in
set_option maxHeartbeats 2000000 in
theorem key_any (M : Nat → Prop) (n : Node) (s : Value) (w : World) (h : RdI M w s n.args) (hok : NodeOk n) (hsm : NodeSm n) (ht : Tab w) :
    Calls Tryz.prog 57 #[nodeV n s] w fun e w' => e = .returned (.string (keyB n)) ∧ Fr NoB w w' := by
  obtain ⟨a, cap, rfl⟩ := h.form
  have HR := hid (show ∀ W, Fr NoB w W → RdI M W (.slice a n.args.length cap) n.args from fun W hf => h.fr hf (fun _ _ h => h.elim))
  have HOK := hid hok
  have hn1 := hsm.name
  have hn2 := hsm.args
  obtain ⟨i0, hi, hz0, hz1, hz2⟩ := info_parts infoByte
  have k0 : Hid (w.heap.size + 1 ≤ (w.alloc (.cells (nodeCells n (.slice a n.args.length cap)) 30)).heap.size) := by show _ ≤ _; simp
  have HT := hid ht
  have hl1 := itoa_len _ hok.op
  have hl2 := itoa_len _ hok.width
  have hl3 : (Lib.decDigits n.val.toNat).length ≤ 20 := decDigits_len 19 _ (by have := hok.val; omega)
  have HL1 := hid hl1
  have HL2 := hid hl2
  have HL3 := hid hl3
  clear h hok hsm ht hl1 hl2 hl3
  unfold nodeV
  go_enter Tryz.func57, Tryz.ntmps57
  go_wp2_with (at_make; refine wpList_make_own _ rfl _ _ 116 rfl (w.heap.size + 1) 5 i0 (.int .u8 0) 1 Tryz.underlying116 hi hz0 hz1 _ _ _ (32 + n.name.size) rfl rfl (by simp) (by rw [hz2]; omega) (by unfold maxLen; omega) k0.out ?_; intro w1 ho1 hg1; have K1 := hid (KS.start ho1 hg1 HT.out); clear ho1 hg1; obtain ⟨c0, c1, c2, c3, c4, cf, cl⟩ := five_of K1.out.box)
  simp only [World.size_alloc] at K1
  refine (Tryz.strconv_AppendInt_10 (w.heap.size + 1) 0 n.op HOK.out.op.1 HOK.out.op.2 _ _ _ K1.out.own K1.out.size (by omega) (K1.out.tab.below (by have := K1.out.lt; omega))).mono ?_
  rintro e w2 ⟨v2, rfl, ho, hb, _⟩
  have K2 := hid (K1.out.num _ (by simpa using ho) hb)
  clear ho hb c0 c1 c2 c3 c4 cf cl K1
  obtain ⟨c0, c1, c2, c3, c4, cf, cl⟩ := five_of K2.out.box
  go_wp2_with fail
  have q2 : ([] ++ Lib.itoa n.op).length ≤ 21 := by simpa using HL1.out
  have Q2 := hid q2
  have Q2' : Hid (([] ++ Lib.itoa n.op).length ≤ 140737488355000) := by show _ ≤ _; omega
  have Q3' : Hid (([] ++ Lib.itoa n.op ++ [44]).length + 21 ≤ 140737488355328) := by show _ ≤ _; rw [List.length_append]; simp only [List.length_cons, List.length_nil]; omega
  clear q2
  go_region_held3 (fun w' => w'.cell? ⟨w.heap.size, 1, none⟩ = some (.int .i64 n.width)) (go_keep)
    (first
      | (go_at_call 81; have X := Tryz.strconv_AppendInt_10 (w.heap.size + 1) _ n.width HOK.out.width.1 HOK.out.width.2 _ _ _ K3.out.own.row K3.out.size Q3'.out (K3.out.tab.below K3.out.lt'); (with_reducible refine X.mono ?_); clear X; rintro e w4 ⟨v4, rfl, ho, hb, _⟩; have K4 := hid (K3.out.num _ ho hb); clear ho hb; obtain ⟨c0, c1, c2, c3, c4, cf, cl⟩ := five_of K4.out.box)
      | (refine byte_step _ (by rfl) _ _ (by rfl) (w.heap.size + 1) v2 _ (by rfl) ((K2.out.alloc _).drew.own) 44 w2.heap.size 1 1 (by rfl) (by rfl) (by simp) Q2'.out ((K2.out.alloc _).drew.size) ?_; intro v3 w3 ho3 hf3; have K3 := hid ((K2.out.alloc _).drew.step ho3 hf3); clear ho3 hf3; obtain ⟨c0, c1, c2, c3, c4, cf, cl⟩ := five_of K3.out.box))
  go_wp2_with fail
  have q4 : ([] ++ Lib.itoa n.op ++ [44] ++ Lib.itoa n.width).length ≤ 50 := by have := HL1.out; have := HL2.out; simp only [List.length_append, List.length_cons, List.length_nil]; omega
  have Q4 := hid q4
  have Q4' : Hid (([] ++ Lib.itoa n.op ++ [44] ++ Lib.itoa n.width).length ≤ 140737488355000) := by show _ ≤ _; omega
  have Q5' : Hid (([] ++ Lib.itoa n.op ++ [44] ++ Lib.itoa n.width ++ [44]).length + 20 ≤ 140737488355328) := by show _ ≤ _; rw [List.length_append]; simp only [List.length_cons, List.length_nil]; omega
  obtain ⟨u, hv, hu⟩ : ∃ u : Nat, Hid (n.val = (u : Int)) ∧ Hid (u = n.val.toNat) := ⟨n.val.toNat, by show _ = _; have := HOK.out.val.1; omega, rfl⟩
  have hv2 : Hid (u < 18446744073709551616) := by show _ < _; have := HOK.out.val; have := hu.out; omega
  clear q4
  rw [hv.out] at c2
  go_region_held3 (fun w' => w'.cell? ⟨w.heap.size, 2, none⟩ = some (.int .u64 (u : Int))) (go_keep)
    (first
      | (go_at_call 82; have X := AppendUint_any (w.heap.size + 1) _ u hv2.out _ _ _ K5.out.own.row K5.out.size Q5'.out K5.out.tab; (with_reducible refine X.mono ?_); clear X; rintro e w6 ⟨v6, rfl, ho, hb⟩; have K6 := hid (K5.out.num _ ho hb); clear ho hb; obtain ⟨c0, c1, c2, c3, c4, cf, cl⟩ := five_of K6.out.box; rw [hv.out] at c2)
      | (refine byte_step _ (by rfl) _ _ (by rfl) (w.heap.size + 1) v4 _ (by rfl) ((K4.out.alloc _).drew.own) 44 w4.heap.size 1 1 (by rfl) (by rfl) (by simp) Q4'.out ((K4.out.alloc _).drew.size) ?_; intro v5 w5 ho3 hf3; have K5 := hid ((K4.out.alloc _).drew.step ho3 hf3); clear ho3 hf3; obtain ⟨c0, c1, c2, c3, c4, cf, cl⟩ := five_of K5.out.box; rw [hv.out] at c2))
  obtain ⟨bs, hbs⟩ : ∃ bs, Hid (bs = [] ++ Lib.itoa n.op ++ [44] ++ Lib.itoa n.width ++ [44] ++ Lib.decDigits u) := ⟨_, hid rfl⟩
  have K7 : Hid (KS w n (.slice a n.args.length cap) w6 v6 bs) := by show KS _ _ _ _ _ _; rw [hbs.out]; exact K6.out
  have q7 : bs.length ≤ 100 := by have := HL1.out; have := HL2.out; have h3 := HL3.out; rw [← hu.out] at h3; rw [hbs.out]; simp only [List.length_append, List.length_cons, List.length_nil]; omega
  have Q7 := hid q7
  clear K6 K5 K4 K3 K2 q7 Q2 Q2' Q3' Q4 Q4' Q5'
  go_wp2_with fail
  go_loopw [3, 30] (fun b i wr => ∃ (k : Nat) (v : Value), k ≤ n.args.length ∧ b = v ∧ i = .int .i64 k ∧ Hid (KS w n (.slice a n.args.length cap) wr v (bs ++ keyArgs (n.args.take k)))) (fun _ i _ => n.args.length - (intOf i).toNat)
  case atStart => exact ⟨0, _, Nat.zero_le _, rfl, rfl, by show KS _ _ _ _ _ _; simpa [keyArgs] using K7.out⟩
  case round =>
    obtain ⟨k, v, hk, rfl, rfl, K8⟩ := hrel
    have q8 : (bs ++ keyArgs (n.args.take k)).length ≤ 3000000 := by have := Q7.out; have := keyArgs_len n.args HOK.out.args k hk; rw [List.length_append]; omega
    have Q8' : Hid ((bs ++ keyArgs (n.args.take k)).length ≤ 140737488355000) := by show _ ≤ _; omega
    have Q9' : Hid ((bs ++ keyArgs (n.args.take k) ++ [44]).length + 21 ≤ 140737488355328) := by show _ ≤ _; rw [List.length_append]; simp only [List.length_cons, List.length_nil]; omega
    have Q10' : Hid ((bs ++ keyArgs (n.args.take k) ++ [58]).length + n.name.size ≤ 140737488355000) := by show _ ≤ _; rw [List.length_append]; simp only [List.length_cons, List.length_nil]; omega
    clear q8
    obtain ⟨c0, c1, c2, c3, c4, cf, cl⟩ := five_of K8.out.box
    by_cases hlt : k < n.args.length
    · rcases HR.out wr K8.out.fr with ⟨h, h2⟩ | ⟨b, off, cap2, h, _, _, _, hc⟩
      · rw [h2] at hlt; simp at hlt
      · cases h
        obtain ⟨x, HX, hck⟩ := hc.get hlt
        clear hc
        have hx : Hid (i64ok x) := by show i64ok x; rw [← HX.out]; exact HOK.out.args k hlt
        go_wp2_with (first
          | (at_builtin; refine byte_list _ rfl _ _ rfl (w.heap.size + 1) _ _ rfl (K8.out.alloc _).own 44 wr.heap.size 1 1 rfl rfl (by simp) Q8'.out (K8.out.alloc _).size ?_; intro v9 w9 ho3 hf3; have K9 := hid ((K8.out.alloc _).step ho3 hf3); clear ho3 hf3)
          | (go_at_call 81; have X := Tryz.strconv_AppendInt_10 (w.heap.size + 1) _ x hx.out.1 hx.out.2 _ _ _ K9.out.own.row K9.out.size Q9'.out (K9.out.tab.below K9.out.lt'); (with_reducible refine X.mono ?_); clear X; rintro e w10 ⟨v10, rfl, ho, hb, _⟩; have K10 := hid (K9.out.num _ ho hb); clear ho hb))
        go_roundw
        case rel => exact ⟨k + 1, _, by omega, rfl, by go_num, by
          show KS _ _ _ _ _ _
          rw [keyArgs_take _ _ hlt, HX.out, ← List.append_assoc, ← List.append_assoc]
          exact K10.out⟩
        case measure => simp [intOf]; omega
    · obtain rfl : k = n.args.length := by omega
      go_wp2_with (first
        | (at_builtin; refine byte_list _ rfl _ _ rfl (w.heap.size + 1) _ _ rfl (K8.out.alloc _).own 58 wr.heap.size 1 1 rfl rfl (by simp) Q8'.out (K8.out.alloc _).size ?_; intro v9 w9 ho3 hf3; have K9 := hid ((K8.out.alloc _).step ho3 hf3); clear ho3 hf3; obtain ⟨d0, d1, d2, d3, d4, df, dl⟩ := five_of K9.out.box)
        | (at_builtin; refine str_list _ rfl _ _ rfl (w.heap.size + 1) v9 _ rfl K9.out.own n.name rfl Q10'.out K9.out.size ?_; intro v10 w10 ho3 hf3; have K10 := hid (K9.out.step ho3 hf3); have hcv := conv_own K10.out.own; clear ho3 hf3))
      go_ret
      refine ⟨?_, K10.out.fr⟩
      have e : keyB n = ⟨(bs ++ (keyArgs n.args ++ 58 :: n.name.data.toList)).toArray⟩ := by
        rw [keyB, keyL, hbs.out, hu.out]; simp
      rw [e]
      rfl

end Go.Proofs.YtlekoceindepnaaGreatDoor
end
section
/- A key tells the node: plain lists, no program in sight. -/
namespace Go.Proofs.YtlekoceindepnaaGreatDoor
open Go.RowKit

/-- The number that decimal digits spell. -/
def spell (l : List UInt8) : Nat := l.foldl (fun s c => 10 * s + (c.toNat - 48)) 0
theorem spell_snoc (l : List UInt8) (c : UInt8) : spell (l ++ [c]) = 10 * spell l + (c.toNat - 48) := by simp [spell]
theorem ofNat_digit (d : Nat) (h : d < 10) : (UInt8.ofNat (48 + d)).toNat = 48 + d := by
  simp; omega
theorem spell_dec : ∀ (n u : Nat), u ≤ n → spell (Lib.decDigits u) = u
  | n, u, h => by
    rw [Lib.decDigits]
    split
    · rename_i h1; rw [spell, List.foldl_cons, List.foldl_nil, ofNat_digit u h1]; omega
    · rename_i h1
      match n, h with
      | 0, h => omega
      | n + 1, h =>
        rw [spell_snoc, spell_dec n (u / 10) (by omega), ofNat_digit _ (by omega)]; omega
theorem decDigits_inj {u v : Nat} (h : Lib.decDigits u = Lib.decDigits v) : u = v := by
  rw [← spell_dec u u (Nat.le_refl _), ← spell_dec v v (Nat.le_refl _), h]
/-- A digit is no mark. -/
def noMark (l : List UInt8) : Prop := ∀ c ∈ l, c ≠ 44 ∧ c ≠ 58
theorem digit_ne (d : Nat) (h : d < 10) : UInt8.ofNat (48 + d) ≠ 44 ∧ UInt8.ofNat (48 + d) ≠ 58 ∧ UInt8.ofNat (48 + d) ≠ 45 := by
  have e := ofNat_digit d h
  refine ⟨fun h2 => ?_, fun h2 => ?_, fun h2 => ?_⟩
  · rw [h2] at e; have : (44 : UInt8).toNat = 44 := rfl; omega
  · rw [h2] at e; have : (58 : UInt8).toNat = 58 := rfl; omega
  · rw [h2] at e; have : (45 : UInt8).toNat = 45 := rfl; omega
theorem dec_mem : ∀ (n u : Nat), u ≤ n → ∀ c ∈ Lib.decDigits u, c ≠ 44 ∧ c ≠ 58 ∧ c ≠ 45
  | n, u, h => by
    rw [Lib.decDigits]
    split
    · rename_i h1; intro c hc; simp only [List.mem_singleton] at hc; subst hc; exact digit_ne u h1
    · rename_i h1
      match n, h with
      | 0, h => omega
      | n + 1, h =>
        intro c hc
        rw [List.mem_append] at hc
        rcases hc with hc | hc
        · exact dec_mem n (u / 10) (by omega) c hc
        · simp only [List.mem_singleton] at hc; subst hc; exact digit_ne _ (by omega)
theorem dec_noMark (u : Nat) : noMark (Lib.decDigits u) := fun c hc => ⟨(dec_mem u u (Nat.le_refl _) c hc).1, (dec_mem u u (Nat.le_refl _) c hc).2.1⟩
theorem itoa_noMark (x : Int) : noMark (Lib.itoa x) := by
  unfold Lib.itoa
  split
  · intro c hc
    rcases List.mem_cons.1 hc with rfl | hc
    · decide
    · exact dec_noMark _ c hc
  · exact dec_noMark _
theorem dec_ne_nil (u : Nat) : Lib.decDigits u ≠ [] := by rw [Lib.decDigits]; split <;> simp
theorem itoa_inj {x y : Int} (h : Lib.itoa x = Lib.itoa y) : x = y := by
  unfold Lib.itoa at h
  by_cases h1 : x < 0 <;> by_cases h2 : y < 0
  · rw [if_pos h1, if_pos h2] at h; have := decDigits_inj (List.cons.inj h).2; omega
  · rw [if_pos h1, if_neg h2] at h
    have := (dec_mem y.toNat y.toNat (Nat.le_refl _) 45 (by rw [← h]; simp)).2.2
    exact absurd rfl this
  · rw [if_neg h1, if_pos h2] at h
    have := (dec_mem x.toNat x.toNat (Nat.le_refl _) 45 (by rw [h]; simp)).2.2
    exact absurd rfl this
  · rw [if_neg h1, if_neg h2] at h; have := decDigits_inj h; omega

/-- Text up to the first mark. -/
theorem cut_mark : ∀ (p q : List UInt8) (c d : UInt8) (r s : List UInt8), noMark p → noMark q → (c = 44 ∨ c = 58) → (d = 44 ∨ d = 58) → p ++ c :: r = q ++ d :: s → p = q ∧ c = d ∧ r = s
  | [], [], c, d, r, s, _, _, _, _, h => by simp at h; exact ⟨rfl, h⟩
  | [], y :: q, c, d, r, s, _, hq, hc, _, h => by
    simp at h
    have := hq y (by simp)
    rcases hc with e | e <;> (rw [e] at h; exact absurd h.1.symm (by first | exact this.1 | exact this.2))
  | x :: p, [], c, d, r, s, hp, _, _, hd, h => by
    simp at h
    have := hp x (by simp)
    rcases hd with e | e <;> (rw [e] at h; exact absurd h.1 (by first | exact this.1 | exact this.2))
  | x :: p, y :: q, c, d, r, s, hp, hq, hc, hd, h => by
    simp only [List.cons_append, List.cons.injEq] at h
    obtain ⟨h1, h2, h3⟩ := cut_mark p q c d r s (fun c hc => hp c (by simp [hc])) (fun c hc => hq c (by simp [hc])) hc hd h.2
    exact ⟨by rw [h.1, h1], h2, h3⟩

theorem keyArgs_cons (a : Int) (l : List Int) : keyArgs (a :: l) = 44 :: (Lib.itoa a ++ keyArgs l) := by simp [keyArgs]
theorem tail_mark (l : List Int) (s : List UInt8) : ∃ c r, (c = 44 ∨ c = 58) ∧ keyArgs l ++ 58 :: s = c :: r := by
  cases l with
  | nil => exact ⟨58, s, .inr rfl, rfl⟩
  | cons a l => exact ⟨44, _, .inl rfl, by rw [keyArgs_cons]; rfl⟩
theorem tail_inj : ∀ (l m : List Int) (s t : List UInt8), keyArgs l ++ 58 :: s = keyArgs m ++ 58 :: t → l = m ∧ s = t
  | [], [], s, t, h => by simp [keyArgs] at h; exact ⟨rfl, h⟩
  | [], b :: m, s, t, h => by rw [keyArgs_cons] at h; simp [keyArgs] at h
  | a :: l, [], s, t, h => by rw [keyArgs_cons] at h; simp [keyArgs] at h
  | a :: l, b :: m, s, t, h => by
    rw [keyArgs_cons, keyArgs_cons] at h
    simp only [List.cons_append, List.cons.injEq, true_and, List.append_assoc] at h
    obtain ⟨c, r, hc, e1⟩ := tail_mark l s
    obtain ⟨d, q, hd, e2⟩ := tail_mark m t
    rw [e1, e2] at h
    obtain ⟨h1, h2, h3⟩ := cut_mark _ _ c d r q (itoa_noMark a) (itoa_noMark b) hc hd h
    have h4 : keyArgs l ++ 58 :: s = keyArgs m ++ 58 :: t := by rw [e1, e2, h2, h3]
    obtain ⟨h5, h6⟩ := tail_inj l m s t h4
    exact ⟨by rw [itoa_inj h1, h5], h6⟩

theorem keyL_eq (n : Node) : keyL n = Lib.itoa n.op ++ 44 :: (Lib.itoa n.width ++ 44 :: (Lib.decDigits n.val.toNat ++ (keyArgs n.args ++ 58 :: n.name.data.toList))) := by simp [keyL]

theorem keyL_inj {a b : Node} (ha : NodeOk a) (hb : NodeOk b) (h : keyL a = keyL b) : a = b := by
  rw [keyL_eq, keyL_eq] at h
  obtain ⟨h1, _, h⟩ := cut_mark _ _ 44 44 _ _ (itoa_noMark _) (itoa_noMark _) (.inl rfl) (.inl rfl) h
  obtain ⟨h2, _, h⟩ := cut_mark _ _ 44 44 _ _ (itoa_noMark _) (itoa_noMark _) (.inl rfl) (.inl rfl) h
  obtain ⟨c, r, hc, e1⟩ := tail_mark a.args a.name.data.toList
  obtain ⟨d, q, hd, e2⟩ := tail_mark b.args b.name.data.toList
  rw [e1, e2] at h
  obtain ⟨h3, h4, h5⟩ := cut_mark _ _ c d r q (dec_noMark _) (dec_noMark _) hc hd h
  obtain ⟨h6, h7⟩ := tail_inj a.args b.args a.name.data.toList b.name.data.toList (by rw [e1, e2, h4, h5])
  refine node_ext (itoa_inj h1) (itoa_inj h2) ?_ ?_ h6
  · have := decDigits_inj h3; have := ha.val.1; have := hb.val.1; omega
  · exact toList_inj (by rw [toList_data, toList_data]; exact h7)
theorem keyB_inj {a b : Node} (ha : NodeOk a) (hb : NodeOk b) : keyB a = keyB b ↔ a = b := by
  constructor
  · intro h
    refine keyL_inj ha hb ?_
    have := congrArg (fun s : ByteArray => s.data.toList) h
    simpa [keyB] using this
  · rintro rfl; rfl

end Go.Proofs.YtlekoceindepnaaGreatDoor
end
section
/- hashcons.Table: what it holds, and the walks of New, made, Len, Get. -/
namespace Go.Proofs.YtlekoceindepnaaGreatDoor
open Go.RowKit
set_option maxRecDepth 100000

/-- An entry of a table: a node, the slice that holds its args, an id. -/
structure TEnt where
  node : Node
  sl : Value
  id : Int

def entV (x : TEnt) : Value := .agg #[.int .i64 x.node.op, .int .i64 x.node.width, .int .u64 x.node.val, .string x.node.name, x.sl, .int .i64 x.id]
def entP (x : TEnt) : ByteArray × Value := (keyB x.node, entV x)

/-- Block bt is a table whose map is block bm, with the entries l; their args lie outside M. -/
structure TableAt (M : Nat → Prop) (w : World) (bt bm : Nat) (l : List TEnt) : Prop where
  head : w.heap[bt]? = some (.cells #[.map (some bm)] 91 (0, 0))
  map : MapIs .string Value.string w bm (l.map entP)
  ents : ∀ x ∈ l, RdI M w x.sl x.node.args ∧ NodeOk x.node ∧ NodeSm x.node

theorem TableAt.fr {M N : Nat → Prop} {w w' : World} {bt bm : Nat} {l : List TEnt} (h : TableAt M w bt bm l) (hf : Fr N w w') (h1 : ¬ N bt) (h2 : ¬ N bm) (hm : ∀ k, k < w.heap.size → N k → M k) : TableAt M w' bt bm l :=
  ⟨hf.at h1 h.head, h.map.fr hf h2, fun x hx => ⟨(h.ents x hx).1.fr hf hm, (h.ents x hx).2⟩⟩
theorem TableAt.cell {M : Nat → Prop} {w : World} {bt bm : Nat} {l : List TEnt} (h : TableAt M w bt bm l) : w.cell? ⟨bt, 0, none⟩ = some (.map (some bm)) := by simp [World.cell?, h.head]
theorem TableAt.lt {M : Nat → Prop} {w : World} {bt bm : Nat} {l : List TEnt} (h : TableAt M w bt bm l) : bt < w.heap.size := (Array.getElem?_eq_some_iff.1 h.head).1

/-- The id of a node. -/
def tget (l : List TEnt) (n : Node) : Option TEnt := l.find? (fun x => decide (nodeCmp x.node n = 0))

theorem mget_ent (n : Node) (hn : NodeOk n) : ∀ (l : List TEnt), (∀ x ∈ l, NodeOk x.node) → mget (l.map entP) (keyB n) = (tget l n).map entV
  | [], _ => rfl
  | x :: l, h => by
    have ih := mget_ent n hn l (fun y hy => h y (by simp [hy]))
    unfold mget tget at *
    by_cases e : x.node = n
    · have e1 : nodeCmp x.node n = 0 := nodeCmp_zero.2 e
      have e2 : (entP x).1 = keyB n := by rw [entP, e]
      simp only [List.map_cons, List.find?_cons, e1, e2, decide_true]
      rfl
    · have e1 : ¬ nodeCmp x.node n = 0 := fun h => e (nodeCmp_zero.1 h)
      have e2 : ¬ (entP x).1 = keyB n := fun h2 => e ((keyB_inj (h x (by simp)) hn).1 h2)
      simp only [List.map_cons, List.find?_cons, e1, e2, decide_false]
      exact ih

theorem new_any (w : World) : Calls Tryz.prog 41 #[] w fun e w' => ∃ bm bt, e = .returned (.pointer (some ⟨bt, 0, none⟩)) ∧ w.heap.size ≤ bm ∧ w.heap.size ≤ bt ∧ bm ≠ bt ∧ (∀ M, TableAt M w' bt bm []) ∧ Fr NoB w w' := by
  have hmm := @run_makeMap Tryz.prog
  go_enter Tryz.func41, Tryz.ntmps41
  go_wp2
  go_ret
  refine ⟨w.heap.size, w.heap.size + 1, rfl, Nat.le_refl _, by omega, by omega, fun M => ⟨at_new' (by simp), (MapIs.new .string Value.string w).fr ((Fr.refl NoB _).alloc _) (fun h => h), fun x hx => by cases hx⟩, ((Fr.refl NoB w).alloc _).alloc _⟩

theorem neqMapNil (w : World) (r : Option Nat) : (binOp .neq 89 (.map r) (.map none)).run Tryz.prog w = .ok (.bool (!r.isNone)) w :=
  run_neq_map_nil w 89 9 87 r Tryz.underlying89
theorem neqPtrNil (w : World) (r : Option Addr) : (binOp .neq 61 (.pointer r) (.pointer none)).run Tryz.prog w = .ok (.bool (!r.isNone)) w := by
  cases r <;> kernel_rfl

theorem made_any (M : Nat → Prop) (w : World) (bt bm : Nat) (l : List TEnt) (h : TableAt M w bt bm l) : Calls Tryz.prog 56 #[.pointer (some ⟨bt, 0, none⟩)] w fun e w' => e = .returned (.bool true) ∧ w' = w := by
  have hc := h.cell
  clear h
  have qm := neqMapNil
  have qp := neqPtrNil
  go_enter Tryz.func56, Tryz.ntmps56
  go_wp2
  go_ret
  exact ⟨rfl, rfl⟩

theorem made_nil (w : World) : Calls Tryz.prog 56 #[.pointer none] w fun e w' => e = .returned (.bool false) ∧ w' = w := by
  have qm := neqMapNil
  have qp := neqPtrNil
  go_enter Tryz.func56, Tryz.ntmps56
  go_wp2
  go_ret
  exact ⟨rfl, rfl⟩

theorem made_zero (w : World) (bt : Nat) (hc : w.cell? ⟨bt, 0, none⟩ = some (.map none)) : Calls Tryz.prog 56 #[.pointer (some ⟨bt, 0, none⟩)] w fun e w' => e = .returned (.bool false) ∧ w' = w := by
  have qm := neqMapNil
  have qp := neqPtrNil
  go_enter Tryz.func56, Tryz.ntmps56
  go_wp2
  go_ret
  exact ⟨rfl, rfl⟩

theorem MapIs.len {κ : Type} [DecidableEq κ] {d : TypeDesc} {mk : κ → Value} {w : World} {b : Nat} {m : List (κ × Value)} (h : MapIs d mk w b m) {P : Program} {t kt e : TypeId} (ht : P.underlying t = some (.map kt e)) (ty : TypeId) :
    (Builtin.len_ #[t] ty #[.map (some b)]).run P w = .ok (.int .i64 m.length) w := by
  obtain ⟨es, clock, hb, hm, _⟩ := h
  have hs : es.size = m.length := by have := congrArg List.length hm; simpa using this
  simp [Builtin.len_, run_underlying ht, MapKept.run_getObj_map hb, Result.andThen, goInt, hs]

end Go.Proofs.YtlekoceindepnaaGreatDoor
end
section
/- The walk of hashcons.Table.Get. -/
namespace Go.Proofs.YtlekoceindepnaaGreatDoor
open Go.RowKit
set_option maxRecDepth 100000

theorem zeroEnt (w : World) : (zeroValue 87).run Tryz.prog w = .ok (.agg #[.int .i64 0, .int .i64 0, .int .u64 0, .string ⟨#[]⟩, .slice none 0 0, .int .i64 0]) w := by kernel_rfl

theorem TableAt.lookNone {M : Nat → Prop} {w : World} {bt bm : Nat} {l : List TEnt} (h : TableAt M w bt bm l) (n : Node) (hn : NodeOk n) (ht : tget l n = none) :
    (Instr.lookup 89 (.map (some bm)) (.string (keyB n)) true).run Tryz.prog w = .ok (.tuple #[.agg #[.int .i64 0, .int .i64 0, .int .u64 0, .string ⟨#[]⟩, .slice none 0 0, .int .i64 0], .bool false]) w := by
  have hg := mget_ent n hn l (fun x hx => (h.ents x hx).2.1)
  rw [ht] at hg
  exact h.map.lookNone (P := Tryz.prog) kkString Tryz.underlying89 Tryz.underlying9 (keyB n) hg (zeroEnt w) true
theorem TableAt.look {M : Nat → Prop} {w : World} {bt bm : Nat} {l : List TEnt} (h : TableAt M w bt bm l) (n : Node) (hn : NodeOk n) {x : TEnt} (ht : tget l n = some x) :
    (Instr.lookup 89 (.map (some bm)) (.string (keyB n)) true).run Tryz.prog w = .ok (.tuple #[.agg #[.int .i64 x.node.op, .int .i64 x.node.width, .int .u64 x.node.val, .string x.node.name, x.sl, .int .i64 x.id], .bool true]) w := by
  have hg := mget_ent n hn l (fun x hx => (h.ents x hx).2.1)
  rw [ht] at hg
  exact h.map.look (P := Tryz.prog) kkString Tryz.underlying89 Tryz.underlying9 (keyB n) hg true
theorem tget_mem {l : List TEnt} {n : Node} {x : TEnt} (h : tget l n = some x) : x ∈ l ∧ x.node = n := by
  refine ⟨List.mem_of_find?_eq_some h, ?_⟩
  have := List.find?_some h
  exact nodeCmp_zero.1 (by simpa using this)

set_option maxHeartbeats 1000000 in
theorem get_none (M N : Nat → Prop) (w : World) (bt bm : Nat) (l : List TEnt) (h : TableAt M w bt bm l) (n : Node) (s : Value) (hr : RdI N w s n.args) (hok : NodeOk n) (hsm : NodeSm n) (ht : Tab w) (hg : tget l n = none) :
    Calls Tryz.prog 27 #[.pointer (some ⟨bt, 0, none⟩), nodeV n s] w fun e w' => e = .returned (.tuple #[.int .i64 0, .bool false]) ∧ Fr NoB w w' := by
  obtain ⟨a, cap, rfl⟩ := hr.form
  have hne : w.heap.size ≠ bt := by have := h.lt; omega
  have hne' : bt ≠ w.heap.size := by have := h.lt; omega
  have hne2 : w.heap.size + 1 ≠ bt := by have := h.lt; omega
  have hne3 : bt ≠ w.heap.size + 1 := by have := h.lt; omega
  have HK : Hid (∀ W, Fr NoB (w.alloc (.cells (nodeCells n (.slice a n.args.length cap)) 30)) W → Calls Tryz.prog 57 #[nodeV n (.slice a n.args.length cap)] W fun e w' => e = .returned (.string (keyB n)) ∧ Fr NoB W w' ∧ Fr NoB (w.alloc (.cells (nodeCells n (.slice a n.args.length cap)) 30)) w') := fun W hW =>
    (key_any N n _ W (hr.fr (((Fr.refl NoB w).alloc _).step hW) (fun _ _ h => h.elim)) hok hsm (ht.fr (((Fr.refl NoB w).alloc _).step hW) (fun h => h))).mono (fun e w' ⟨h1, h2⟩ => ⟨h1, h2, hW.step h2⟩)
  have HT : Hid (∀ W, Fr NoB (w.alloc (.cells (nodeCells n (.slice a n.args.length cap)) 30)) W → TableAt M W bt bm l ∧ W.heap[w.heap.size]? = some (.cells (nodeCells n (.slice a n.args.length cap)) 30 (0, 0)) ∧ Fr NoB w W) := fun W hW =>
    ⟨h.fr (((Fr.refl NoB w).alloc _).step hW) (fun h => h) (fun h => h) (fun _ _ h => h.elim), hW.at (fun h => h) (at_new w _), ((Fr.refl NoB w).alloc _).step hW⟩
  have HOK := hid hok
  have HG := hid hg
  have H0 := (HT.out _ (Fr.refl NoB _)).1.cell
  clear h hr hok hsm ht hg
  unfold nodeV
  go_enter Tryz.func27, Tryz.ntmps27
  go_wp2_with (go_at_call 56; refine (made_any M _ bt bm l (HT.out _ (Fr.refl _ _)).1).mono ?_; rintro e w' ⟨rfl, rfl⟩)
  go_region_held3 (fun w' => w'.cell? ⟨bt, 0, none⟩ = some (.map (some bm)) ∧ w'.cell? ⟨w.heap.size, 0, none⟩ = some (.int .i64 n.op) ∧ w'.cell? ⟨w.heap.size, 1, none⟩ = some (.int .i64 n.width) ∧ w'.cell? ⟨w.heap.size, 2, none⟩ = some (.int .u64 n.val) ∧ w'.cell? ⟨w.heap.size, 3, none⟩ = some (.string n.name) ∧ w'.cell? ⟨w.heap.size, 4, none⟩ = some (.slice a n.args.length cap)) (go_keep)
    (first | (go_at_call 57; have X := HK.out; (with_reducible refine Calls.mono (X _ ?_) ?_); (focus (repeat (first | exact Fr.refl _ _ | refine Fr.drew ?_ | refine Fr.alloc ?_ _))); clear X; rintro e w2 ⟨rfl, hfW, hf2⟩; (try obtain ⟨z0, z1, z2, z3, z4, z5, zf, zl⟩ := six_of (hfW.at (b := w.heap.size + 1) (fun h => h) (at_new_d (by simp)))); have Y := HT.out _ hf2; obtain ⟨c0, c1, c2, c3, c4, cf, cl⟩ := five_of Y.2.1; have ct := Y.1.cell; have hn2 : bt ≠ w2.heap.size := (by have := Y.1.lt; omega); have hn3 := hn2.symm; have hn4 : w.heap.size ≠ w2.heap.size := (by omega); have hn5 := hn4.symm; have lk := Y.1.lookNone n HOK.out HG.out; have lk2 := fun o => (HT.out _ (hf2.alloc o)).1.lookNone n HOK.out HG.out))
  all_goals
    go_wp2
    go_ret2
    refine ⟨rfl, ?_⟩
    repeat (first | (with_reducible exact Y.2.2) | refine Fr.setCell ?_ (fun h => by simp only at h; omega) _ | refine Fr.alloc ?_ _)

set_option maxHeartbeats 1000000 in
theorem get_some (M N : Nat → Prop) (w : World) (bt bm : Nat) (l : List TEnt) (h : TableAt M w bt bm l) (n : Node) (s : Value) (hr : RdI N w s n.args) (hok : NodeOk n) (hsm : NodeSm n) (ht : Tab w) (x : TEnt) (hg : tget l n = some x) :
    Calls Tryz.prog 27 #[.pointer (some ⟨bt, 0, none⟩), nodeV n s] w fun e w' => e = .returned (.tuple #[.int .i64 x.id, .bool true]) ∧ Fr NoB w w' := by
  obtain ⟨xn, xs, xi⟩ := x
  obtain ⟨a2, cap2, hx⟩ := (h.ents _ (tget_mem hg).1).1.form
  simp only at hx
  subst hx
  obtain ⟨a, cap, rfl⟩ := hr.form
  have hne : w.heap.size ≠ bt := by have := h.lt; omega
  have hne' : bt ≠ w.heap.size := by have := h.lt; omega
  have hne2 : w.heap.size + 1 ≠ bt := by have := h.lt; omega
  have hne3 : bt ≠ w.heap.size + 1 := by have := h.lt; omega
  have HK : Hid (∀ W, Fr NoB (w.alloc (.cells (nodeCells n (.slice a n.args.length cap)) 30)) W → Calls Tryz.prog 57 #[nodeV n (.slice a n.args.length cap)] W fun e w' => e = .returned (.string (keyB n)) ∧ Fr NoB W w' ∧ Fr NoB (w.alloc (.cells (nodeCells n (.slice a n.args.length cap)) 30)) w') := fun W hW =>
    (key_any N n _ W (hr.fr (((Fr.refl NoB w).alloc _).step hW) (fun _ _ h => h.elim)) hok hsm (ht.fr (((Fr.refl NoB w).alloc _).step hW) (fun h => h))).mono (fun e w' ⟨h1, h2⟩ => ⟨h1, h2, hW.step h2⟩)
  have HT : Hid (∀ W, Fr NoB (w.alloc (.cells (nodeCells n (.slice a n.args.length cap)) 30)) W → TableAt M W bt bm l ∧ W.heap[w.heap.size]? = some (.cells (nodeCells n (.slice a n.args.length cap)) 30 (0, 0)) ∧ Fr NoB w W) := fun W hW =>
    ⟨h.fr (((Fr.refl NoB w).alloc _).step hW) (fun h => h) (fun h => h) (fun _ _ h => h.elim), hW.at (fun h => h) (at_new w _), ((Fr.refl NoB w).alloc _).step hW⟩
  have HOK := hid hok
  have HG := hid hg
  have H0 := (HT.out _ (Fr.refl NoB _)).1.cell
  clear h hr hok hsm ht hg
  unfold nodeV
  go_enter Tryz.func27, Tryz.ntmps27
  go_wp2_with (go_at_call 56; refine (made_any M _ bt bm l (HT.out _ (Fr.refl _ _)).1).mono ?_; rintro e w' ⟨rfl, rfl⟩)
  go_region_held3 (fun w' => w'.cell? ⟨bt, 0, none⟩ = some (.map (some bm)) ∧ w'.cell? ⟨w.heap.size, 0, none⟩ = some (.int .i64 n.op) ∧ w'.cell? ⟨w.heap.size, 1, none⟩ = some (.int .i64 n.width) ∧ w'.cell? ⟨w.heap.size, 2, none⟩ = some (.int .u64 n.val) ∧ w'.cell? ⟨w.heap.size, 3, none⟩ = some (.string n.name) ∧ w'.cell? ⟨w.heap.size, 4, none⟩ = some (.slice a n.args.length cap)) (go_keep)
    (first | (go_at_call 57; have X := HK.out; (with_reducible refine Calls.mono (X _ ?_) ?_); (focus (repeat (first | exact Fr.refl _ _ | refine Fr.drew ?_ | refine Fr.alloc ?_ _))); clear X; rintro e w2 ⟨rfl, hfW, hf2⟩; (try obtain ⟨z0, z1, z2, z3, z4, z5, zf, zl⟩ := six_of (hfW.at (b := w.heap.size + 1) (fun h => h) (at_new_d (by simp)))); have Y := HT.out _ hf2; obtain ⟨c0, c1, c2, c3, c4, cf, cl⟩ := five_of Y.2.1; have ct := Y.1.cell; have hn2 : bt ≠ w2.heap.size := (by have := Y.1.lt; omega); have hn3 := hn2.symm; have hn4 : w.heap.size ≠ w2.heap.size := (by omega); have hn5 := hn4.symm; have lk := Y.1.look n HOK.out HG.out; have lk2 := fun o => (HT.out _ (hf2.alloc o)).1.look n HOK.out HG.out))
  all_goals
    go_wp2
    go_ret2
    refine ⟨rfl, ?_⟩
    repeat (first | (with_reducible exact Y.2.2) | refine Fr.setCell ?_ (fun h => by simp only at h; omega) _ | refine Fr.alloc ?_ _)

theorem get_any (M N : Nat → Prop) (w : World) (bt bm : Nat) (l : List TEnt) (h : TableAt M w bt bm l) (n : Node) (s : Value) (hr : RdI N w s n.args) (hok : NodeOk n) (hsm : NodeSm n) (ht : Tab w) :
    Calls Tryz.prog 27 #[.pointer (some ⟨bt, 0, none⟩), nodeV n s] w fun e w' => e = .returned (.tuple #[.int .i64 ((tget l n).elim 0 (·.id)), .bool (tget l n).isSome]) ∧ Fr NoB w w' := by
  cases hg : tget l n with
  | none => exact get_none M N w bt bm l h n s hr hok hsm ht hg
  | some x => exact get_some M N w bt bm l h n s hr hok hsm ht x hg

end Go.Proofs.YtlekoceindepnaaGreatDoor
end
section
/- The walks of hashcons.Copy, and of hashcons.Table.Put and Del. -/
namespace Go.Proofs.YtlekoceindepnaaGreatDoor
open Go.RowKit
set_option maxRecDepth 100000

theorem hcCopy_any (M : Nat → Prop) (n : Node) (v : Value) (w : World) (h : RdI M w v n.args) (hl : n.args.length ≤ 17592186044416) :
    Calls Tryz.prog 29 #[nodeV n v] w fun e w' => ∃ a' c', e = .returned (nodeV n (.slice a' n.args.length c')) ∧ OwnI w.heap.size w' (.slice a' n.args.length c') n.args ∧ Fr NoB w w' := by
  obtain ⟨a, cap, rfl⟩ := h.form
  have HC : Hid (∀ W, Fr NoB w W → Calls Tryz.prog 30 #[nodeV n (.slice a n.args.length cap), .nilFunc] W fun e w' => ∃ a' c', e = .returned (nodeV n (.slice a' n.args.length c')) ∧ OwnI W.heap.size w' (.slice a' n.args.length c') n.args ∧ Fr NoB W w') := fun W hW => canonNil_any M n _ W (h.fr hW (fun _ _ h => h.elim)) hl
  clear h
  unfold nodeV
  go_enter Tryz.func29, Tryz.ntmps29
  go_wp2_with (go_at_call 30; have X := HC.out; (with_reducible refine Calls.mono (X _ ?_) ?_); (focus (repeat (first | exact Fr.refl _ _ | refine Fr.alloc ?_ _))); clear X; rintro e w1 ⟨a', c', rfl, ho, hf⟩; obtain ⟨r0, r1, r2, r3, r4, rf, rl⟩ := hf.five (b := w.heap.size + 1) (fun h => h) (at_new' (by simp)); have HF := hid hf; have HO := hid ho; clear hf ho)
  refine bodyPost_ret (v := nodeV n (.slice a' n.args.length c')) (by simp [results, Tryz.results29, go_sem, r0, r1, r2, r3, r4, nodeV]) rfl ?_
  refine ⟨a', c', rfl, OwnI.keep HO.out ?_ ?_, ?_⟩
  · simp only [World.size_alloc]; omega
  · repeat (refine Fr.setCell ?_ (fun _ => by simp <;> omega) _)
    exact Fr.refl _ _
  · repeat (refine Fr.setCell ?_ (fun h => absurd h (by simp)) _)
    exact (((Fr.refl NoB w).alloc _).alloc _).step HF.out

theorem TableAt.insert {M : Nat → Prop} {w : World} {bt bm : Nat} {l : List TEnt} (h : TableAt M w bt bm l) (x : TEnt) (hx : RdI M w x.sl x.node.args ∧ NodeOk x.node ∧ NodeSm x.node) (hg : tget l x.node = none) (hM : M bm) (hbm : bm ≠ bt) :
    ∃ w', (Instr.mapUpdate 89 (.map (some bm)) (.string (keyB x.node)) (entV x)).run Tryz.prog w = .ok () w' ∧ TableAt M w' bt bm (l ++ [x]) ∧ Fr (fun k => k = bm) w w' := by
  obtain ⟨w', h1, h2, h3⟩ := h.map.put (P := Tryz.prog) kkString Tryz.underlying89 Tryz.underlying9 (keyB x.node) (entV x)
  have hg' := mget_ent x.node hx.2.1 l (fun y hy => (h.ents y hy).2.1)
  rw [hg] at hg'
  refine ⟨w', h1, ⟨h3.at (fun h => hbm h.symm) h.head, ?_, fun y hy => ?_⟩, h3⟩
  · rw [mput, hg'] at h2
    simpa [entP] using h2
  · rw [List.mem_append, List.mem_singleton] at hy
    rcases hy with hy | rfl
    · exact ⟨(h.ents y hy).1.fr h3 (fun k _ hk => by rw [show k = bm from hk]; exact hM), (h.ents y hy).2⟩
    · exact ⟨hx.1.fr h3 (fun k _ hk => by rw [show k = bm from hk]; exact hM), hx.2⟩

set_option maxHeartbeats 2000000 in
theorem put_some (M N : Nat → Prop) (w : World) (bt bm : Nat) (l : List TEnt) (h : TableAt M w bt bm l) (n : Node) (s : Value) (id : Int) (hr : RdI N w s n.args) (hok : NodeOk n) (hsm : NodeSm n) (ht : Tab w) (x : TEnt) (hg : tget l n = some x) :
    Calls Tryz.prog 32 #[.pointer (some ⟨bt, 0, none⟩), nodeV n s, .int .i64 id] w fun e w' => e = .returned (.bool false) ∧ Fr NoB w w' := by
  obtain ⟨xn, xs, xi⟩ := x
  obtain ⟨a2, cap2, hx⟩ := (h.ents _ (tget_mem hg).1).1.form
  simp only at hx
  subst hx
  obtain ⟨a, cap, rfl⟩ := hr.form
  have HK : Hid (∀ W, Fr NoB (w.alloc (.cells (nodeCells n (.slice a n.args.length cap)) 30)) W → Calls Tryz.prog 57 #[nodeV n (.slice a n.args.length cap)] W fun e w' => e = .returned (.string (keyB n)) ∧ Fr NoB W w' ∧ Fr NoB (w.alloc (.cells (nodeCells n (.slice a n.args.length cap)) 30)) w') := fun W hW =>
    (key_any N n _ W (hr.fr (((Fr.refl NoB w).alloc _).step hW) (fun _ _ h => h.elim)) hok hsm (ht.fr (((Fr.refl NoB w).alloc _).step hW) (fun h => h))).mono (fun e w' ⟨h1, h2⟩ => ⟨h1, h2, hW.step h2⟩)
  have HT : Hid (∀ W, Fr NoB (w.alloc (.cells (nodeCells n (.slice a n.args.length cap)) 30)) W → TableAt M W bt bm l ∧ W.heap[w.heap.size]? = some (.cells (nodeCells n (.slice a n.args.length cap)) 30 (0, 0)) ∧ Fr NoB w W) := fun W hW =>
    ⟨h.fr (((Fr.refl NoB w).alloc _).step hW) (fun h => h) (fun h => h) (fun _ _ h => h.elim), hW.at (fun h => h) (at_new w _), ((Fr.refl NoB w).alloc _).step hW⟩
  have HOK := hid hok
  have HG := hid hg
  have H0 := (HT.out _ (Fr.refl NoB _)).1.cell
  clear h hr hok hsm ht hg
  unfold nodeV
  go_enter Tryz.func32, Tryz.ntmps32
  go_wp2_with (first
    | (go_at_call 56; refine (made_any M _ bt bm l (HT.out _ (Fr.refl _ _)).1).mono ?_; rintro e w' ⟨rfl, rfl⟩)
    | (go_at_call 57; have X := HK.out; (with_reducible refine Calls.mono (X _ ?_) ?_); (focus (repeat (first | exact Fr.refl _ _ | refine Fr.drew ?_ | refine Fr.alloc ?_ _))); clear X; rintro e w2 ⟨rfl, hfW, hf2⟩; have Y := HT.out _ hf2; obtain ⟨c0, c1, c2, c3, c4, cf, cl⟩ := five_of Y.2.1; have ct := Y.1.cell; have lk := Y.1.look n HOK.out HG.out))
  go_ret
  refine ⟨rfl, ?_⟩
  repeat (first | (with_reducible exact Y.2.2) | refine Fr.setCell ?_ (fun h => by simp only at h; omega) _ | refine Fr.alloc ?_ _)

set_option maxHeartbeats 2000000 in
theorem put_none (M N : Nat → Prop) (w : World) (bt bm : Nat) (l : List TEnt) (h : TableAt M w bt bm l) (n : Node) (s : Value) (id : Int) (hr : RdI N w s n.args) (hok : NodeOk n) (hsm : NodeSm n) (ht : Tab w) (hg : tget l n = none)
    (hM : M bm) (hbm : bm ≠ bt) (hMw : ∀ k, M k → k < w.heap.size) :
    Calls Tryz.prog 32 #[.pointer (some ⟨bt, 0, none⟩), nodeV n s, .int .i64 id] w fun e w' => e = .returned (.bool true) ∧ (∃ sl, TableAt M w' bt bm (l ++ [⟨n, sl, id⟩])) ∧ Fr (fun k => k = bm) w w' := by
  obtain ⟨a, cap, rfl⟩ := hr.form
  have hbl : bm < w.heap.size := h.map.lt
  have hbl2 := h.lt
  have HK : Hid (∀ W, Fr NoB (w.alloc (.cells (nodeCells n (.slice a n.args.length cap)) 30)) W → Calls Tryz.prog 57 #[nodeV n (.slice a n.args.length cap)] W fun e w' => e = .returned (.string (keyB n)) ∧ Fr NoB W w' ∧ Fr NoB (w.alloc (.cells (nodeCells n (.slice a n.args.length cap)) 30)) w') := fun W hW =>
    (key_any N n _ W (hr.fr (((Fr.refl NoB w).alloc _).step hW) (fun _ _ h => h.elim)) hok hsm (ht.fr (((Fr.refl NoB w).alloc _).step hW) (fun h => h))).mono (fun e w' ⟨h1, h2⟩ => ⟨h1, h2, hW.step h2⟩)
  have HC : Hid (∀ W, Fr NoB (w.alloc (.cells (nodeCells n (.slice a n.args.length cap)) 30)) W → Calls Tryz.prog 29 #[nodeV n (.slice a n.args.length cap)] W fun e w' => ∃ a' c', e = .returned (nodeV n (.slice a' n.args.length c')) ∧ RdI M w' (.slice a' n.args.length c') n.args ∧ Fr NoB (w.alloc (.cells (nodeCells n (.slice a n.args.length cap)) 30)) w') := fun W hW =>
    (hcCopy_any N n _ W (hr.fr (((Fr.refl NoB w).alloc _).step hW) (fun _ _ h => h.elim)) (by have := hsm.args; omega)).mono (fun e w' ⟨a', c', h1, h2, h3⟩ => ⟨a', c', h1, h2.rd (fun k hk hm => by have := hMw k hm; have := (((Fr.refl NoB w).alloc (.cells (nodeCells n (.slice a n.args.length cap)) 30)).step hW).size; omega), hW.step h3⟩)
  have HT : Hid (∀ W, Fr NoB (w.alloc (.cells (nodeCells n (.slice a n.args.length cap)) 30)) W → TableAt M W bt bm l ∧ W.heap[w.heap.size]? = some (.cells (nodeCells n (.slice a n.args.length cap)) 30 (0, 0)) ∧ Fr NoB w W) := fun W hW =>
    ⟨h.fr (((Fr.refl NoB w).alloc _).step hW) (fun h => h) (fun h => h) (fun _ _ h => h.elim), hW.at (fun h => h) (at_new w _), ((Fr.refl NoB w).alloc _).step hW⟩
  have HOK := hid hok
  have HSM := hid hsm
  have HG := hid hg
  have HM := hid hM
  have HB := hid hbm
  have H0 := (HT.out _ (Fr.refl NoB _)).1.cell
  clear h hr hok hsm ht hg hM hbm hMw
  unfold nodeV
  go_enter Tryz.func32, Tryz.ntmps32
  go_wp2_with (first
    | (go_at_call 56; refine (made_any M _ bt bm l (HT.out _ (Fr.refl _ _)).1).mono ?_; rintro e w' ⟨rfl, rfl⟩)
    | (go_at_call 57; have X := HK.out; (with_reducible refine Calls.mono (X _ ?_) ?_); (focus (repeat (first | exact Fr.refl _ _ | refine Fr.drew ?_ | refine Fr.alloc ?_ _))); clear X; rintro e w2 ⟨rfl, hfW, hf2⟩; have Y := HT.out _ hf2; obtain ⟨c0, c1, c2, c3, c4, cf, cl⟩ := five_of Y.2.1; have ct := Y.1.cell; have lk := Y.1.lookNone n HOK.out HG.out))
  have hn2 : bt ≠ w2.heap.size := by have := Y.1.lt; omega
  have hn3 := hn2.symm
  have hn4 : w.heap.size ≠ w2.heap.size := by omega
  have hn5 := hn4.symm
  go_region_held3 (fun w' => w'.cell? ⟨bt, 0, none⟩ = some (.map (some bm)) ∧ w'.cell? ⟨w.heap.size, 0, none⟩ = some (.int .i64 n.op) ∧ w'.cell? ⟨w.heap.size, 1, none⟩ = some (.int .i64 n.width) ∧ w'.cell? ⟨w.heap.size, 2, none⟩ = some (.int .u64 n.val) ∧ w'.cell? ⟨w.heap.size, 3, none⟩ = some (.string n.name) ∧ w'.cell? ⟨w.heap.size, 4, none⟩ = some (.slice a n.args.length cap)) (go_keep)
    (first | (go_at_call 29; have X := HC.out; (with_reducible refine Calls.mono (X _ ?_) ?_); (focus (repeat (first | (with_reducible exact hf2) | refine Fr.drew ?_ | refine Fr.alloc ?_ _))); clear X; rintro e w3 ⟨a', c', rfl, hrd3, hf3⟩; have Y3 := HT.out _ hf3; obtain ⟨w4, hrun, ht4, hf4⟩ := Y3.1.insert ⟨n, .slice a' n.args.length c', id⟩ ⟨hrd3, HOK.out, HSM.out⟩ HG.out HM.out HB.out; obtain ⟨d0, d1, d2, d3, d4, df, dl⟩ := five_of Y3.2.1; have dt := Y3.1.cell; obtain ⟨g0, g1, g2, g3, g4, gf, gl⟩ := five_of (hf4.at (b := w.heap.size) (by intro h; omega) Y3.2.1); have gt := ht4.cell; simp only [entV] at hrun))
  go_wp2
  go_ret
  exact ⟨rfl, ⟨_, ht4⟩, (Y3.2.2.mono (fun _ _ h => h.elim)).trans' hf4 (fun _ _ h => h)⟩

theorem mdel_ent (n : Node) (hn : NodeOk n) : ∀ (l : List TEnt), (∀ x ∈ l, NodeOk x.node) → mdel (l.map entP) (keyB n) = (l.filter (fun x => decide (nodeCmp x.node n ≠ 0))).map entP
  | [], _ => rfl
  | x :: l, h => by
    have ih := mdel_ent n hn l (fun y hy => h y (by simp [hy]))
    unfold mdel at *
    by_cases e : x.node = n
    · have e1 : nodeCmp x.node n = 0 := nodeCmp_zero.2 e
      have e2 : (entP x).1 = keyB n := by rw [entP, e]
      rw [List.map_cons, List.filter_cons_of_neg (by simp [e2]), List.filter_cons_of_neg (by simp [e1]), ih]
    · have e1 : ¬ nodeCmp x.node n = 0 := fun h => e (nodeCmp_zero.1 h)
      have e2 : ¬ (entP x).1 = keyB n := fun h2 => e ((keyB_inj (h x (by simp)) hn).1 h2)
      rw [List.map_cons, List.filter_cons_of_pos (by simp [e2]), List.filter_cons_of_pos (by simp [e1]), ih, List.map_cons]

def tdel (l : List TEnt) (n : Node) : List TEnt := l.filter (fun x => decide (nodeCmp x.node n ≠ 0))

theorem TableAt.remove {M : Nat → Prop} {w : World} {bt bm : Nat} {l : List TEnt} (h : TableAt M w bt bm l) (n : Node) (hn : NodeOk n) (hM : M bm) (hbm : bm ≠ bt) (ty : TypeId) :
    ∃ w', (Builtin.delete_ #[89, 9] ty #[.map (some bm), .string (keyB n)]).run Tryz.prog w = .ok (.tuple #[]) w' ∧ TableAt M w' bt bm (tdel l n) ∧ Fr (fun k => k = bm) w w' := by
  obtain ⟨w', h1, h2, h3⟩ := h.map.del (P := Tryz.prog) kkString Tryz.underlying89 Tryz.underlying9 (keyB n) ty 9
  rw [mdel_ent n hn l (fun x hx => (h.ents x hx).2.1)] at h2
  refine ⟨w', h1, ⟨h3.at (fun h => hbm h.symm) h.head, h2, fun y hy => ?_⟩, h3⟩
  have hy' := (List.mem_filter.1 hy).1
  exact ⟨(h.ents y hy').1.fr h3 (fun k _ hk => by rw [show k = bm from hk]; exact hM), (h.ents y hy').2⟩

set_option maxHeartbeats 2000000 in
theorem del_none (M N : Nat → Prop) (w : World) (bt bm : Nat) (l : List TEnt) (h : TableAt M w bt bm l) (n : Node) (s : Value) (hr : RdI N w s n.args) (hok : NodeOk n) (hsm : NodeSm n) (ht : Tab w) (hg : tget l n = none) :
    Calls Tryz.prog 67 #[.pointer (some ⟨bt, 0, none⟩), nodeV n s] w fun e w' => e = .returned (.bool false) ∧ Fr NoB w w' := by
  obtain ⟨a, cap, rfl⟩ := hr.form
  have HK : Hid (∀ W, Fr NoB (w.alloc (.cells (nodeCells n (.slice a n.args.length cap)) 30)) W → Calls Tryz.prog 57 #[nodeV n (.slice a n.args.length cap)] W fun e w' => e = .returned (.string (keyB n)) ∧ Fr NoB W w' ∧ Fr NoB (w.alloc (.cells (nodeCells n (.slice a n.args.length cap)) 30)) w') := fun W hW =>
    (key_any N n _ W (hr.fr (((Fr.refl NoB w).alloc _).step hW) (fun _ _ h => h.elim)) hok hsm (ht.fr (((Fr.refl NoB w).alloc _).step hW) (fun h => h))).mono (fun e w' ⟨h1, h2⟩ => ⟨h1, h2, hW.step h2⟩)
  have HT : Hid (∀ W, Fr NoB (w.alloc (.cells (nodeCells n (.slice a n.args.length cap)) 30)) W → TableAt M W bt bm l ∧ W.heap[w.heap.size]? = some (.cells (nodeCells n (.slice a n.args.length cap)) 30 (0, 0)) ∧ Fr NoB w W) := fun W hW =>
    ⟨h.fr (((Fr.refl NoB w).alloc _).step hW) (fun h => h) (fun h => h) (fun _ _ h => h.elim), hW.at (fun h => h) (at_new w _), ((Fr.refl NoB w).alloc _).step hW⟩
  have HOK := hid hok
  have HG := hid hg
  have H0 := (HT.out _ (Fr.refl NoB _)).1.cell
  clear h hr hok hsm ht hg
  unfold nodeV
  go_enter Tryz.func67, Tryz.ntmps67
  go_wp2_with (first
    | (go_at_call 56; refine (made_any M _ bt bm l (HT.out _ (Fr.refl _ _)).1).mono ?_; rintro e w' ⟨rfl, rfl⟩)
    | (go_at_call 57; have X := HK.out; (with_reducible refine Calls.mono (X _ ?_) ?_); (focus (repeat (first | exact Fr.refl _ _ | refine Fr.drew ?_ | refine Fr.alloc ?_ _))); clear X; rintro e w2 ⟨rfl, hfW, hf2⟩; have Y := HT.out _ hf2; obtain ⟨c0, c1, c2, c3, c4, cf, cl⟩ := five_of Y.2.1; have ct := Y.1.cell; have lk := Y.1.lookNone n HOK.out HG.out))
  go_ret
  refine ⟨rfl, ?_⟩
  repeat (first | (with_reducible exact Y.2.2) | refine Fr.setCell ?_ (fun h => by simp only at h; omega) _ | refine Fr.alloc ?_ _)

set_option maxHeartbeats 2000000 in
theorem del_some (M N : Nat → Prop) (w : World) (bt bm : Nat) (l : List TEnt) (h : TableAt M w bt bm l) (n : Node) (s : Value) (hr : RdI N w s n.args) (hok : NodeOk n) (hsm : NodeSm n) (ht : Tab w) (x : TEnt) (hg : tget l n = some x)
    (hM : M bm) (hbm : bm ≠ bt) :
    Calls Tryz.prog 67 #[.pointer (some ⟨bt, 0, none⟩), nodeV n s] w fun e w' => e = .returned (.bool true) ∧ TableAt M w' bt bm (tdel l n) ∧ Fr (fun k => k = bm) w w' := by
  obtain ⟨xn, xs, xi⟩ := x
  obtain ⟨a2, cap2, hx⟩ := (h.ents _ (tget_mem hg).1).1.form
  simp only at hx
  subst hx
  obtain ⟨a, cap, rfl⟩ := hr.form
  have HK : Hid (∀ W, Fr NoB (w.alloc (.cells (nodeCells n (.slice a n.args.length cap)) 30)) W → Calls Tryz.prog 57 #[nodeV n (.slice a n.args.length cap)] W fun e w' => e = .returned (.string (keyB n)) ∧ Fr NoB W w' ∧ Fr NoB (w.alloc (.cells (nodeCells n (.slice a n.args.length cap)) 30)) w') := fun W hW =>
    (key_any N n _ W (hr.fr (((Fr.refl NoB w).alloc _).step hW) (fun _ _ h => h.elim)) hok hsm (ht.fr (((Fr.refl NoB w).alloc _).step hW) (fun h => h))).mono (fun e w' ⟨h1, h2⟩ => ⟨h1, h2, hW.step h2⟩)
  have HT : Hid (∀ W, Fr NoB (w.alloc (.cells (nodeCells n (.slice a n.args.length cap)) 30)) W → TableAt M W bt bm l ∧ W.heap[w.heap.size]? = some (.cells (nodeCells n (.slice a n.args.length cap)) 30 (0, 0)) ∧ Fr NoB w W) := fun W hW =>
    ⟨h.fr (((Fr.refl NoB w).alloc _).step hW) (fun h => h) (fun h => h) (fun _ _ h => h.elim), hW.at (fun h => h) (at_new w _), ((Fr.refl NoB w).alloc _).step hW⟩
  have HOK := hid hok
  have HG := hid hg
  have H0 := (HT.out _ (Fr.refl NoB _)).1.cell
  have HM := hid hM
  have HB := hid hbm
  clear h hr hok hsm ht hg hM hbm
  unfold nodeV
  go_enter Tryz.func67, Tryz.ntmps67
  go_wp2_with (first
    | (go_at_call 56; refine (made_any M _ bt bm l (HT.out _ (Fr.refl _ _)).1).mono ?_; rintro e w' ⟨rfl, rfl⟩)
    | (go_at_call 57; have X := HK.out; (with_reducible refine Calls.mono (X _ ?_) ?_); (focus (repeat (first | exact Fr.refl _ _ | refine Fr.drew ?_ | refine Fr.alloc ?_ _))); clear X; rintro e w2 ⟨rfl, hfW, hf2⟩; have Y := HT.out _ hf2; obtain ⟨c0, c1, c2, c3, c4, cf, cl⟩ := five_of Y.2.1; have ct := Y.1.cell; have lk := Y.1.look n HOK.out HG.out; have hn2 : bt ≠ w2.heap.size := (by have := Y.1.lt; omega); have hn3 := hn2.symm; have ct2 := fun o => (HT.out _ (hf2.alloc o)).1.cell; obtain ⟨w4, hrun, ht4, hf4⟩ := (HT.out _ (hf2.alloc (.cells #[.int .i64 xn.op, .int .i64 xn.width, .int .u64 xn.val, .string xn.name, .slice a2 xn.args.length cap2, .int .i64 xi] 87))).1.remove n HOK.out HM.out HB.out 0))
  go_ret
  refine ⟨rfl, ht4, ?_⟩
  have h5 := (Y.2.2.alloc (.cells #[.int .i64 xn.op, .int .i64 xn.width, .int .u64 xn.val, .string xn.name, .slice a2 xn.args.length cap2, .int .i64 xi] 87))
  exact (h5.mono (fun _ _ h => h.elim)).trans' hf4 (fun _ _ h => h)

end Go.Proofs.YtlekoceindepnaaGreatDoor
end
