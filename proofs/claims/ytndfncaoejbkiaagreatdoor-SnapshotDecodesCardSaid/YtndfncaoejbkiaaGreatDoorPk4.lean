import Derived.Test.YtndfncaoejbkiaaGreatDoorPk2
import Derived.Test.YtndfncaoejbkiaaGreatDoorPk3
import Derived.Lib.AppendStr
set_option linter.all false
section
/- The walk of the writer's node. -/
namespace Go.Proofs.YtndfncaoejbkiaaGreatDoor
open Go.RowKit
set_option maxRecDepth 100000

theorem OwnE.rebase {α : Type} {enc : α → List Value} {k : Nat} {e : TypeId} {B B' : Nat} {w : World} {v : Value} {l : List α} (h : OwnE enc k e B w v l) (hb : ∀ g, v.ownBlock = some g → B' ≤ g) : OwnE enc k e B' w v l := by
  refine ⟨h.1, ?_⟩
  rcases h.2 with h2 | ⟨g, cap, cur, h1, _, r⟩
  · exact .inl h2
  · exact .inr ⟨g, cap, cur, h1, hb g (by rw [h1]; rfl), r⟩
/-- append(s, string...), and where the row lies. -/
theorem run_str_at {w : World} {B : Nat} {v : Value} {l : List UInt8} (h : OwnY B w v l) (s : ByteArray) (hlen : l.length + s.size ≤ 1000000000) (hB : B ≤ w.heap.size) (ty : TypeId) :
    ∃ v' w', (Builtin.append_ #[27, 9] ty #[v, .string s]).run Tryz.prog w = .ok v' w' ∧ OwnY B w' v' (l ++ s.data.toList) ∧ w.grownBy w' v.ownBlock ∧ (v'.ownBlock = v.ownBlock ∨ v'.ownBlock = some w.heap.size) := by
  obtain ⟨i0, hi, hz0, hz1, hz2⟩ := info_parts infoU8
  have hss : s.data.toList.length = s.size := by simp
  obtain ⟨v', w', hr, ho, hg, hn⟩ := Lib.run_append_own_string (P := Tryz.prog) w B 27 9 ty 5 i0 Tryz.underlying27 Tryz.underlying9 hi hz0 hz1 hz2 v l.length (flatE byC l) h s (by unfold maxLen; omega) (by omega) hB
  refine ⟨v', w', hr, ?_, hg, ?_⟩
  · unfold OwnY OwnE
    rw [List.length_append, flatE_append, flatE_by s.data.toList, hss]
    exact ho
  · rcases h.2 with ⟨rfl, hl⟩ | ⟨g, cap, cur, rfl, hbg, hg2, hnc, hcm, hcs, ht⟩
    · by_cases hs : s.size = 0
      · rw [hn.2 ⟨rfl, hs⟩]; exact .inl rfl
      · have hr2 := run_append_nil_string (P := Tryz.prog) w 27 9 ty 5 i0 (.int .u8 0) Tryz.underlying27 Tryz.underlying9 hi hz0 s (by omega) (by omega) (by rw [hz2]; omega)
        have h3 := hr.symm.trans hr2
        simp only [Result.ok.injEq] at h3
        rw [h3.1]; exact .inr rfl
    · by_cases hroom : l.length + s.size ≤ cap
      · have hr2 := Lib.run_append_room_string (P := Tryz.prog) w 27 9 ty 5 i0 Tryz.underlying27 Tryz.underlying9 hi hz1 g l.length cap cur hg2 s hroom (by have h9 : cur.size = cap := (by simpa using hcs); omega)
        have h3 := hr.symm.trans hr2
        simp only [Result.ok.injEq] at h3
        rw [h3.1]; exact .inl rfl
      · have hr2 := Lib.run_append_grow_string (P := Tryz.prog) w 27 9 ty 5 i0 (.int .u8 0) Tryz.underlying27 Tryz.underlying9 hi hz0 ⟨g, 0, none⟩ l.length cap (flatE byC l) (by rw [hz1]; exact h.1) (World.ownsRow.cells h (g := g) rfl) s (by omega) (by omega) (by rw [hz2]; exact growslice_fits (by omega) (by omega))
        have h3 := hr.symm.trans hr2
        simp only [Result.ok.injEq] at h3
        rw [h3.1]; exact .inr rfl
theorem ap_str (w : World) {ops : Array Oper} {rest : List Oper} {o : Oper} {a : Act} {Q : Exit → Act → World → Prop} (hg : o.guard = none) (s x : Operand)
    (ho : o.op = .call { callee := .builtin .append, args := #[s, x], argTypes := #[27, 9] }) (B : Nat) (v : Value) (l : List UInt8) (hs : a.eval s = v) (hown : OwnY B w v l)
    (t : ByteArray) (hx : a.eval x = .string t) (hlen : l.length + t.size ≤ 1000000000) (hB : B ≤ w.heap.size)
    (h : ∀ p q w', OwnY B w' (.slice p (l ++ t.data.toList).length q) (l ++ t.data.toList) → w.grownBy w' v.ownBlock → ((Value.slice p (l ++ t.data.toList).length q).ownBlock = v.ownBlock ∨ (Value.slice p (l ++ t.data.toList).length q).ownBlock = some w.heap.size) → wpList Tryz.prog ops Q rest (a.put o.dst (.slice p (l ++ t.data.toList).length q)) w') : wpList Tryz.prog ops Q (o :: rest) a w := by
  refine wpList_plain hg fun K hK => ?_
  obtain ⟨v', w', hr, h2, h3, h4⟩ := run_str_at hown t hlen hB o.type
  obtain ⟨p, q, hv⟩ := OwnE.form h2
  subst hv
  unfold Oper.wp execOp
  simp only [ho, resolve, invoke, builtin, Sem.run_bind, Sem.run_pure, Result.andThen_ok, List.map_toArray, List.map_cons, List.map_nil, hs, hx, hr]
  exact hK _ _ (h p q w' h2 h3 h4)
theorem WrS.base {M : Nat → Prop} {w0 w w' : World} {bw : Nat} {l : List UInt8} (h : WrS M w0 w' bw l) (hf : Fr NoB w w0) : WrS M w w' bw l := by
  obtain ⟨⟨M2, h1, h2⟩, h3⟩ := h
  exact ⟨⟨M2, h1, fun k hk => (h2 k hk).imp_right (fun h => Nat.le_trans hf.size h)⟩, (hf.mono (fun _ _ h => h.elim)).trans h3⟩
theorem numE_le (x : Nat) (h : x < 18446744073709551616) : (bN (numE x)).length ≤ 20 := by
  have h1 := numE_len x h (pre := numE x) (y := 0)
  have key : ∀ k x, x < 128 ^ k → (numE x).length ≤ k + 1 := by
    intro k
    induction k with
    | zero => intro x hx; rw [numE_lo (by simp at hx; omega)]; simp
    | succ k ih =>
      intro x hx
      by_cases c : 128 ≤ x
      · rw [numE_hi c, List.length_cons]
        have := ih (x / 128) ((Nat.div_lt_iff_lt_mul (by decide)).2 (by rw [← Nat.pow_succ]; exact hx))
        omega
      · rw [numE_lo (by omega)]; simp
  have h2 := key 10 x (Nat.lt_of_lt_of_le h (by decide))
  simp only [bN, List.length_map]
  omega
theorem sgnE_le (n : Int) (h : -9223372036854775808 ≤ n ∧ n < 9223372036854775808) : (bN (sgnE n)).length ≤ 20 := by
  rw [sgnE_of n h.1 h.2]
  split <;> exact numE_le _ (by omega)
theorem flat_le {α : Type} {e : α → List Nat} {c : Nat} : ∀ (l : List α), (∀ x ∈ l, (bN (e x)).length ≤ c) → (bN (l.flatMap e)).length ≤ c * l.length
  | [], _ => by simp [bN]
  | x :: l, h => by
    have h1 := h x (List.mem_cons_self ..)
    have h2 := flat_le l (fun y hy => h y (List.mem_cons_of_mem _ hy))
    rw [List.flatMap_cons, bN_app, List.length_append, List.length_cons, Nat.mul_add, Nat.mul_one]
    omega
theorem bN_name (s : ByteArray) : bN (bytesN s) = s.data.toList := by
  unfold bN bytesN
  rw [List.map_map]
  have : (UInt8.ofNat ∘ fun x : UInt8 => x.toNat) = id := by funext x; simp
  rw [this, List.map_id]
theorem nodeE_bN (n : Node) : bN (nodeE n) = bN (sgnE n.op) ++ (bN (sgnE n.width) ++ (bN (numE n.val.toNat) ++ (bN (numE n.name.size) ++ (n.name.data.toList ++ (bN (numE n.args.length) ++ bN (n.args.flatMap sgnE)))))) := by
  unfold nodeE
  simp only [bN_app, bN_name]
/-- The node is not too large. -/
structure NodeSz (n : Node) : Prop where
  fit : NodeFit n
  args : n.args.length ≤ 1000
  name : n.name.size ≤ 1000
theorem nodeE_le {n : Node} (h : NodeSz n) : (bN (nodeE n)).length ≤ 30000 := by
  have h1 := sgnE_le _ h.fit.op
  have h2 := sgnE_le _ h.fit.width
  have h3 := numE_le n.val.toNat (by have := h.fit.val; omega)
  have h4 := numE_le n.name.size h.fit.name
  have h5 := numE_le n.args.length h.fit.len
  have h6 := flat_le n.args (e := sgnE) (c := 20) (fun x hx => sgnE_le x (h.fit.args x hx))
  have h7 := h.args
  have h8 := h.name
  rw [nodeE_bN]
  simp only [List.length_append]
  have : n.name.data.toList.length = n.name.size := by simp
  omega
theorem flat_take {α : Type} {e : α → List Nat} (l : List α) {k : Nat} (hk : k < l.length) : bN ((l.take (k + 1)).flatMap e) = bN ((l.take k).flatMap e) ++ bN (e l[k]) := by
  rw [List.take_succ_eq_append_getElem hk, List.flatMap_append, bN_app]
  simp
set_option maxHeartbeats 4000000 in
theorem wnode_any (M : Nat → Prop) (bw : Nat) (l : List UInt8) (n : Node) (v : Value) (w : World) (h : WrAt M w bw l) (hr : RdI M w v n.args) (hz : NodeSz n) (hl : l.length ≤ 800000000) :
    Calls Tryz.prog 22 #[.pointer (some ⟨bw, 0, none⟩), nodeV n v] w fun e w' => e = .returned (.tuple #[]) ∧ WrS M w w' bw (l ++ bN (nodeE n)) := by
  obtain ⟨a, cap, rfl⟩ := hr.form
  have hbx : ¬ M w.heap.size := fun e => by have := h.lt _ e; omega
  have HBX := hid hbx
  have F0 : Hid (Fr NoB w (w.alloc (.cells (nodeCells n (.slice a n.args.length cap)) 44))) := (Fr.refl NoB w).alloc _
  have R0 := hid (hr.fr F0.out (fun _ _ h => h.elim))
  have S0 := hid (WrS.start (h.step F0.out))
  have B0 := hid (at_new w (.cells (nodeCells n (.slice a n.args.length cap)) 44))
  obtain ⟨w0, hw0⟩ : ∃ w0, w.alloc (.cells (nodeCells n (.slice a n.args.length cap)) 44) = w0 := ⟨_, rfl⟩
  have HZ := hid hz
  have HH := hid h
  have z1 := sgnE_le _ hz.fit.op
  have z2 := sgnE_le _ hz.fit.width
  have z3 := numE_le n.val.toNat (by have := hz.fit.val; omega)
  have z4 := numE_le n.name.size hz.fit.name
  have z5 := numE_le n.args.length hz.fit.len
  have Z : Hid ((bN (sgnE n.op)).length ≤ 20 ∧ (bN (sgnE n.width)).length ≤ 20 ∧ (bN (numE n.val.toNat)).length ≤ 20 ∧ (bN (numE n.name.size)).length ≤ 20 ∧ (bN (numE n.args.length)).length ≤ 20) := ⟨z1, z2, z3, z4, z5⟩
  have ha := hz.args
  have hnm := hz.name
  obtain ⟨u, hv, hu⟩ : ∃ u : Nat, Hid (n.val = (u : Int)) ∧ Hid (u = n.val.toNat) := ⟨n.val.toNat, by show _ = _; have := hz.fit.val.1; omega, rfl⟩
  have hu2 : Hid (u < 18446744073709551616) := by show _ < _; have := hz.fit.val; have := hu.out; omega
  clear z1 z2 z3 z4 z5 hz hr h hbx
  rw [hw0] at F0 R0 S0 B0
  unfold nodeV
  go_enter Tryz.func22, Tryz.ntmps22
  have C0 := S0.out.2.five HBX.out B0.out
  obtain ⟨c0, c1, c2, c3, c4, cf, cl⟩ := C0
  go_wp2_with fail
  obtain ⟨⟨M0, hw0', hg0⟩, hf0⟩ := S0.out
  refine (sgn_any M0 bw l n.op w0 hw0' HZ.out.fit.op.1 HZ.out.fit.op.2 (by omega)).mono ?_
  rintro e w1 ⟨rfl, h1⟩
  have S1 := hid (WrS.trans hg0 hf0 h1)
  obtain ⟨l1, hl1⟩ : ∃ l1, Hid (l1 = l ++ bN (sgnE n.op)) := ⟨_, hid rfl⟩
  rw [← hl1.out] at S1
  have k1 : l1.length ≤ 800000020 := by have := Z.out.1; rw [hl1.out, List.length_append]; omega
  clear c0 c1 c2 c3 c4 cf cl hw0' hg0 hf0 h1 S0
  obtain ⟨c0, c1, c2, c3, c4, cf, cl⟩ := S1.out.2.five HBX.out B0.out
  go_wp2_with fail
  obtain ⟨⟨M1, hw1, hg1⟩, hf1⟩ := S1.out
  refine (sgn_any M1 bw l1 n.width w1 hw1 HZ.out.fit.width.1 HZ.out.fit.width.2 (by omega)).mono ?_
  rintro e w2 ⟨rfl, h2⟩
  have S2 := hid (WrS.trans hg1 hf1 h2)
  obtain ⟨l2, hl2⟩ : ∃ l2, Hid (l2 = l1 ++ bN (sgnE n.width)) := ⟨_, hid rfl⟩
  rw [← hl2.out] at S2
  have k2 : l2.length ≤ 800000040 := by have := Z.out.2.1; rw [hl2.out, List.length_append]; omega
  clear c0 c1 c2 c3 c4 cf cl hw1 hg1 hf1 h2 S1 k1
  obtain ⟨c0, c1, c2, c3, c4, cf, cl⟩ := S2.out.2.five HBX.out B0.out
  rw [hv.out] at c2
  go_wp2_with fail
  obtain ⟨⟨M2, hw2, hg2⟩, hf2⟩ := S2.out
  refine (num_any M2 bw l2 u w2 hw2 hu2.out (by omega)).mono ?_
  rintro e w3 ⟨rfl, h3⟩
  have S3 := hid (WrS.trans hg2 hf2 h3)
  rw [hu.out] at S3
  obtain ⟨l3, hl3⟩ : ∃ l3, Hid (l3 = l2 ++ bN (numE n.val.toNat)) := ⟨_, hid rfl⟩
  rw [← hl3.out] at S3
  have k3 : l3.length ≤ 800000060 := by have := Z.out.2.2.1; rw [hl3.out, List.length_append]; omega
  clear c0 c1 c2 c3 c4 cf cl hw2 hg2 hf2 h3 S2 k2
  obtain ⟨c0, c1, c2, c3, c4, cf, cl⟩ := S3.out.2.five HBX.out B0.out
  go_wp2_with fail
  obtain ⟨⟨M3, hw3, hg3⟩, hf3⟩ := S3.out
  refine (num_any M3 bw l3 n.name.size w3 hw3 HZ.out.fit.name (by omega)).mono ?_
  rintro e w4 ⟨rfl, h4⟩
  have S4 := hid ((WrS.trans hg3 hf3 h4).step (Fr.refl NoB w4).drew)
  obtain ⟨l4, hl4⟩ : ∃ l4, Hid (l4 = l3 ++ bN (numE n.name.size)) := ⟨_, hid rfl⟩
  rw [← hl4.out] at S4
  have k4 : l4.length ≤ 800000080 := by have := Z.out.2.2.2.1; rw [hl4.out, List.length_append]; omega
  clear c0 c1 c2 c3 c4 cf cl hw3 hg3 hf3 h4 S3 k3
  obtain ⟨c0, c1, c2, c3, c4, cf, cl⟩ := S4.out.2.five HBX.out B0.out
  obtain ⟨⟨M4, hw4, hg4⟩, hf4⟩ := S4.out
  obtain ⟨⟨tv, hb, ho, hbM⟩, hM, hlt⟩ := hw4
  obtain ⟨tp, tc, hv4⟩ := OwnE.form ho
  subst hv4
  have O4 := hid ho
  have F4 := hid hf4
  have G4 := hid hg4
  have HB := hid hb
  have HBM := hid hbM
  have HM := hid hM
  have HLT := hid hlt
  have b0 : w4.drew.cell? ⟨bw, 0, none⟩ = some (.slice tp l4.length tc) := by simp [World.cell?, hb]
  have HN : Hid (∀ w8, Fr (fun b => (Value.slice tp l4.length tc).ownBlock = some b) w4.drew w8 → (w8.cell? ⟨bw, 0, none⟩ = some (.slice tp l4.length tc) ∧ w8.frozen? ⟨bw, 0, none⟩ = false) ∧ w8.cell? ⟨w.heap.size, 3, none⟩ = some (.string n.name)) := fun w8 hf => by
    have d1 : ¬ (Value.slice tp l4.length tc).ownBlock = some bw := fun e => by
      obtain ⟨cur, hc⟩ := OwnE.head O4.out e
      exact ne_of_types hc HB.out (by decide) rfl
    have d2 : ¬ (Value.slice tp l4.length tc).ownBlock = some w.heap.size := fun e => by
      obtain ⟨cur, hc⟩ := OwnE.head O4.out e
      exact ne_of_types hc (F4.out.at HBX.out B0.out) (by decide) rfl
    have h8 := hf.at d1 HB.out
    have h9 := hf.five d2 (F4.out.at HBX.out B0.out)
    exact ⟨⟨by simp [World.cell?, h8], by simp [World.frozen?, h8]⟩, h9.2.2.2.1⟩
  clear ho hf4 hg4 hb hbM hM hlt S4 hv
  go_wp2_with fail
  refine region_eff (fun w' => w'.cell? ⟨bw, 0, none⟩ = some (.slice tp l4.length tc) ∧ w'.cell? ⟨w.heap.size, 3, none⟩ = some (.string n.name)) 10 [(0, 1), (1, 1), (2, 1), (3, 1), (4, 0), (5, 1), (6, 0), (7, 2), (8, 1), (9, 1), (10, 2)] (by kernel_rfl) (by kernel_rfl) ?_ ?_
  · exact ⟨b0, c3⟩
  clear b0 c0 c1 c2 c3 c4 cf cl
  repeat (first | (refine eff_off (by rfl) (by rfl) ?_; (try simp only [Act.put, List.setIfInBounds_toArray, List.set_cons_zero, List.set_cons_succ])) | (refine eff_off0 (by rfl) (by rfl) ?_; (try simp only [Act.put, List.setIfInBounds_toArray, List.set_cons_zero, List.set_cons_succ])) | (refine eff_pu ?_ (by rfl) (by rfl) ?_ ?_; rotate_left; (focus (intro w'; go_simp; (try with_reducible rfl); done)); (try simp only [Act.put, List.setIfInBounds_toArray, List.set_cons_zero, List.set_cons_succ])) | (refine eff_rd ?_ (by rfl) (by rfl) ?_ ?_; rotate_left; (focus (intro w' hS; (try obtain ⟨hq1, hS⟩ := hS); (try obtain ⟨hq2, hS⟩ := hS); (try obtain ⟨hq3, hS⟩ := hS); (try obtain ⟨hq4, hS⟩ := hS); (try obtain ⟨hq5, hS⟩ := hS); (try obtain ⟨hq6, hS⟩ := hS); (try obtain ⟨hq7, hS⟩ := hS); (try obtain ⟨hq8, hS⟩ := hS); (try obtain ⟨hq9, hS⟩ := hS); (try obtain ⟨hq10, hS⟩ := hS); (try obtain ⟨hq11, hS⟩ := hS); (try obtain ⟨hq12, hS⟩ := hS); (try obtain ⟨hq13, hS⟩ := hS); (try obtain ⟨hq14, hS⟩ := hS); (try obtain ⟨hq15, hS⟩ := hS); (try obtain ⟨hq16, hS⟩ := hS); (try obtain ⟨hq17, hS⟩ := hS); (try obtain ⟨hq18, hS⟩ := hS); (try obtain ⟨hq19, hS⟩ := hS); (try dsimp only at hS); go_simp; (try with_reducible rfl); done)); (try simp only [Act.put, List.setIfInBounds_toArray, List.set_cons_zero, List.set_cons_succ])))
  refine eff_do (by rfl) ?_
  refine ap_str _ rfl _ _ rfl 0 (.slice tp l4.length tc) l4 rfl O4.out n.name rfl ?_ (Nat.zero_le _) ?_
  · omega
  intro p6 q6 w6 ho6 hg6 hb6
  have f6 : Fr (fun b => (Value.slice tp l4.length tc).ownBlock = some b) w4.drew w6 := Fr.grown (Fr.refl _ w4.drew) hg6 (fun k hk _ => hk)
  obtain ⟨⟨b0, z0⟩, c3⟩ := HN.out w6 f6
  have F6 := hid f6
  have O6 := hid ho6
  have B6 := hid hb6
  refine wpList_nil ⟨rfl, fun _ => ⟨b0, c3⟩, ?_⟩
  (try simp only [Act.put, List.setIfInBounds_toArray, List.set_cons_zero, List.set_cons_succ])
  clear f6 ho6 hb6 hg6
  repeat (first | (refine eff_off (by rfl) (by rfl) ?_; (try simp only [Act.put, List.setIfInBounds_toArray, List.set_cons_zero, List.set_cons_succ])) | (refine eff_off0 (by rfl) (by rfl) ?_; (try simp only [Act.put, List.setIfInBounds_toArray, List.set_cons_zero, List.set_cons_succ])) | (refine eff_pu ?_ (by rfl) (by rfl) ?_ ?_; rotate_left; (focus (intro w'; go_simp; (try with_reducible rfl); done)); (try simp only [Act.put, List.setIfInBounds_toArray, List.set_cons_zero, List.set_cons_succ])) | (refine eff_rd ?_ (by rfl) (by rfl) ?_ ?_; rotate_left; (focus (intro w' hS; (try obtain ⟨hq1, hS⟩ := hS); (try obtain ⟨hq2, hS⟩ := hS); (try obtain ⟨hq3, hS⟩ := hS); (try obtain ⟨hq4, hS⟩ := hS); (try obtain ⟨hq5, hS⟩ := hS); (try obtain ⟨hq6, hS⟩ := hS); (try obtain ⟨hq7, hS⟩ := hS); (try obtain ⟨hq8, hS⟩ := hS); (try obtain ⟨hq9, hS⟩ := hS); (try obtain ⟨hq10, hS⟩ := hS); (try obtain ⟨hq11, hS⟩ := hS); (try obtain ⟨hq12, hS⟩ := hS); (try obtain ⟨hq13, hS⟩ := hS); (try obtain ⟨hq14, hS⟩ := hS); (try obtain ⟨hq15, hS⟩ := hS); (try obtain ⟨hq16, hS⟩ := hS); (try obtain ⟨hq17, hS⟩ := hS); (try obtain ⟨hq18, hS⟩ := hS); (try obtain ⟨hq19, hS⟩ := hS); (try dsimp only at hS); go_simp; (try with_reducible rfl); done)); (try simp only [Act.put, List.setIfInBounds_toArray, List.set_cons_zero, List.set_cons_succ])))
  refine eff_skip (W' := w6.setCell ⟨bw, 0, none⟩ (.slice p6 (l4 ++ n.name.data.toList).length q6)) (by rfl) (by rfl) (by go_simp) (fun h => absurd rfl h) ?_
  (try simp only [Act.put, List.setIfInBounds_toArray, List.set_cons_zero, List.set_cons_succ])
  refine eff_nil ?_
  have h5 := WrAt.put HB.out O4.out HBM.out HM.out HLT.out O6.out F6.out (B6.out.imp_right (fun h => ⟨_, h, Nat.le_refl _⟩))
  have S5 := hid (WrS.trans G4.out F4.out h5)
  obtain ⟨w5, hw5⟩ : ∃ w5, w6.setCell ⟨bw, 0, none⟩ (.slice p6 (l4 ++ n.name.data.toList).length q6) = w5 := ⟨_, rfl⟩
  rw [hw5] at S5 ⊢
  obtain ⟨l5, hl5⟩ : ∃ l5, Hid (l5 = l4 ++ n.name.data.toList) := ⟨_, hid rfl⟩
  rw [← hl5.out] at S5
  have k5 : l5.length ≤ 800001080 := by
    have : n.name.data.toList.length = n.name.size := by simp
    rw [hl5.out, List.length_append]; omega
  clear h5 b0 z0 c3 O4 F4 G4 HB HBM HM HLT HN O6 F6 B6 k4 hw5
  obtain ⟨c0, c1, c2, c3, c4, cf, cl⟩ := S5.out.2.five HBX.out B0.out
  go_wp2_with fail
  obtain ⟨⟨M5, hw5', hg5⟩, hf5⟩ := S5.out
  refine (num_any M5 bw l5 n.args.length w5 hw5' HZ.out.fit.len (by omega)).mono ?_
  rintro e w7 ⟨rfl, h7⟩
  have S7 := hid (WrS.trans hg5 hf5 h7)
  obtain ⟨l7, hl7⟩ : ∃ l7, Hid (l7 = l5 ++ bN (numE n.args.length)) := ⟨_, hid rfl⟩
  rw [← hl7.out] at S7
  have k7 : l7.length ≤ 800001100 := by have := Z.out.2.2.2.2; rw [hl7.out, List.length_append]; omega
  clear c0 c1 c2 c3 c4 cf cl hw5' hg5 hf5 h7 S5 k5
  obtain ⟨c0, c1, c2, c3, c4, cf, cl⟩ := S7.out.2.five HBX.out B0.out
  go_wp2_with fail
  clear c0 c1 c2 c3 c4 cf cl
  go_loopw [43] (fun i wr => ∃ (k : Nat), k ≤ n.args.length ∧ i = .int .i64 k ∧ Hid (WrS M w0 wr bw (l7 ++ bN ((n.args.take k).flatMap sgnE)))) (fun i _ => n.args.length - (intOf i).toNat)
  case atStart => exact ⟨0, Nat.zero_le _, rfl, by show WrS _ _ _ _ _; simpa [bN] using S7.out⟩
  case round =>
    obtain ⟨k, hk, rfl, SK⟩ := hrel
    by_cases hlt : k < n.args.length
    · obtain ⟨b, off, rfl, hx⟩ : ∃ b off, a = some ⟨b, off, none⟩ ∧ wr.cell? ⟨b, off + k, none⟩ = some (.int .i64 (n.args.getD k 0)) := by
        rcases R0.out.fr SK.out.2 (fun _ _ h => h) with ⟨_, h⟩ | ⟨b, off, c, h1, _, _, _, h2⟩
        · rw [h] at hlt; simp at hlt
        · cases h1
          exact ⟨b, off, rfl, h2 k hlt⟩
      have hg : n.args.getD k 0 = n.args[k] := getD_eq hlt
      rw [hg] at hx
      have hxx := HZ.out.fit.args _ (List.getElem_mem hlt)
      have HT := hid (flat_take (e := sgnE) n.args hlt)
      have q1 : (bN ((n.args.take k).flatMap sgnE)).length ≤ 20000 := by
        have h1 := flat_le (n.args.take k) (e := sgnE) (c := 20) (fun x hx => sgnE_le x (HZ.out.fit.args x (List.mem_of_mem_take hx)))
        have h2 : (n.args.take k).length ≤ n.args.length := List.length_take_le' _ _
        omega
      obtain ⟨x, hx0⟩ : ∃ x, n.args[k] = x := ⟨_, rfl⟩
      rw [hx0] at hx hxx HT
      have HX := hid hxx
      clear hx0 hg hxx
      go_wp2_with fail
      obtain ⟨⟨M8, hw8, hg8⟩, hf8⟩ := SK.out
      refine (sgn_any M8 bw _ x wr hw8 HX.out.1 HX.out.2 (by rw [List.length_append]; omega)).mono ?_
      rintro e w9 ⟨rfl, h9⟩
      have S9 := hid (WrS.trans hg8 hf8 h9)
      clear hw8 hg8 hf8 h9 hx
      go_wp2
      go_roundw
      case rel =>
        exact ⟨k + 1, by omega, by go_num, by
          show WrS _ _ _ _ _
          rw [HT.out, ← List.append_assoc]
          exact S9.out⟩
      case measure => simp [intOf]; omega
    · obtain rfl : k = n.args.length := by omega
      go_wp2
      go_end0
      refine ⟨rfl, ?_⟩
      have h9 := SK.out.base F0.out
      rw [List.take_length, hl7.out, hl5.out, hl4.out, hl3.out, hl2.out, hl1.out] at h9
      rw [nodeE_bN]
      simpa only [List.append_assoc] using h9
end Go.Proofs.YtndfncaoejbkiaaGreatDoor
end
section
/- The walks of big and Encode. -/
namespace Go.Proofs.YtndfncaoejbkiaaGreatDoor
open Go.RowKit
set_option maxRecDepth 100000

theorem rdY_new {M : Nat → Prop} {w : World} {b : Nat} {l : List UInt8} {n c : Nat} {cs : Array Value} {e : TypeId} (h : w.heap[b]? = some (.cells cs e (0, 0))) (hc : cs = (flatE byC l).toArray) (hM : ¬ M b) (hn : n = l.length) (hcap : l.length ≤ c) : RdY M w (.slice (some ⟨b, 0, none⟩) n c) l := by
  subst hn
  subst hc
  refine .inr ⟨b, 0, c, rfl, (Array.getElem?_eq_some_iff.1 h).1, hM, hcap, fun j u hj => ?_⟩
  rw [Nat.zero_add]
  unfold World.cell?
  simp only [h]
  simpa using hj
theorem ownY_new {w : World} {b B : Nat} {l : List UInt8} {n c : Nat} {cs : Array Value} (h : w.heap[b]? = some (.cells cs 5 (0, 0))) (hc : cs = (flatE byC l).toArray) (hB : B ≤ b) (hn : n = l.length) (hcap : c = l.length) (hl : l.length ≤ 1000000) : OwnY B w (.slice (some ⟨b, 0, none⟩) n c) l := by
  subst hn
  subst hc
  subst hcap
  have h1 := flatE_length byC (k := 1) byLen l
  refine ⟨h1, .inr ⟨b, _, _, rfl, hB, h, Nat.le_refl _, by unfold maxLen; omega, by simpa using h1, ?_⟩⟩
  rw [List.toList_toArray, ← h1, List.take_length]
theorem big_any (x : Nat) (w : World) (hx : x < 4294967296) :
    Calls Tryz.prog 24 #[.int .u32 x] w fun e w' => ∃ b, e = .returned (.slice (some ⟨b, 0, none⟩) 4 4) ∧ RdY NoB w' (.slice (some ⟨b, 0, none⟩) 4 4) (bN (bigE x)) ∧ Fr NoB w w' ∧ w.heap.size ≤ b := by
  go_enter Tryz.func24, Tryz.ntmps24
  go_wp2
  go_ret
  refine ⟨w.heap.size, rfl, rdY_new (at_new w _) ?_ (fun h => h) rfl (Nat.le_refl _), (Fr.refl NoB w).alloc _, Nat.le_refl _⟩
  simp only [bigE, bN, List.map_cons, List.map_nil, flatE, byC, List.cons_append, List.nil_append, Array.mk.injEq, List.cons.injEq, Value.int.injEq, true_and, and_true, UInt8.toNat_ofNat']
  omega
theorem lnkE_le {x : Lnk} (h : (-9223372036854775808 ≤ x.a ∧ x.a < 9223372036854775808) ∧ (-9223372036854775808 ≤ x.b ∧ x.b < 9223372036854775808) ∧ (-9223372036854775808 ≤ x.why ∧ x.why < 9223372036854775808)) : (bN (lnkE x)).length ≤ 60 := by
  have h1 := sgnE_le _ h.1
  have h2 := sgnE_le _ h.2.1
  have h3 := sgnE_le _ h.2.2
  unfold lnkE
  simp only [bN_app, List.length_append]
  omega
/-- The dump is not too large. -/
structure DmpSz (d : Dmp) : Prop where
  nn : d.nodes.length ≤ 1000
  nl : d.links.length ≤ 1000
  nr : d.roots.length ≤ 1000
  nodes : ∀ x ∈ d.nodes, NodeSz x.1
  links : ∀ x ∈ d.links, (-9223372036854775808 ≤ x.a ∧ x.a < 9223372036854775808) ∧ (-9223372036854775808 ≤ x.b ∧ x.b < 9223372036854775808) ∧ (-9223372036854775808 ≤ x.why ∧ x.why < 9223372036854775808)
  roots : ∀ x ∈ d.roots, -9223372036854775808 ≤ x ∧ x < 9223372036854775808
abbrev dmOf (d : Dmp) : Dm := ⟨d.nodes.map (·.1), d.links, d.roots⟩
set_option maxHeartbeats 4000000 in
theorem encode_any (sN sL sR : Value) (d : Dmp) (w : World) (hd : RdD NoB w sN sL sR d) (hz : DmpSz d) :
    Calls Tryz.prog 9 #[dumpV sN sL sR] w fun e w' => ∃ v, e = .returned v ∧ OwnY w.heap.size w' v (bN (encE (dmOf d))) ∧ Fr NoB w w' := by
  obtain ⟨pN, cN, rfl⟩ := hd.nodes.form
  obtain ⟨pL, cL, rfl⟩ := hd.links.form
  obtain ⟨pR, cR, rfl⟩ := hd.roots.form
  have HD := hid (show RdD (fun k => NoB k ∨ w.heap.size ≤ k) w _ _ _ d from ⟨hd.nodes.more, hd.links.more, hd.roots.more⟩)
  have HZ := hid hz
  have zn := hz.nn
  have zl := hz.nl
  have zr := hz.nr
  obtain ⟨M, hMd⟩ : ∃ M : Nat → Prop, M = fun k => k = w.heap.size + 1 ∨ k = w.heap.size + 1 + 1 := ⟨_, rfl⟩
  have HMd := hid hMd
  have F1 : Hid (Fr NoB w (w.alloc (.cells (dumpCells (.slice pN d.nodes.length cN) (.slice pL d.links.length cL) (.slice pR d.roots.length cR)) 26))) := (Fr.refl NoB w).alloc _
  have B1 := hid (at_new w (.cells (dumpCells (.slice pN d.nodes.length cN) (.slice pL d.links.length cL) (.slice pR d.roots.length cR)) 26))
  obtain ⟨w1, hw1⟩ : ∃ w1, w.alloc (.cells (dumpCells (.slice pN d.nodes.length cN) (.slice pL d.links.length cL) (.slice pR d.roots.length cR)) 26) = w1 := ⟨_, rfl⟩
  have z1 : w1.heap.size = w.heap.size + 1 := by rw [← hw1]; simp
  rw [hw1] at F1 B1
  have F2 : Hid (Fr NoB w1 ((w1.alloc (.cells #[.int .u8 69, .int .u8 71, .int .u8 1] 5)).alloc (.cells #[.slice (some ⟨w.heap.size + 1, 0, none⟩) 3 3] 53))) := ((Fr.refl NoB w1).alloc _).alloc _
  have A1 := hid (at_old (at_new' (w := w1) (o := .cells #[.int .u8 69, .int .u8 71, .int .u8 1] 5) z1.symm) (.cells #[.slice (some ⟨w.heap.size + 1, 0, none⟩) 3 3] 53))
  have A2 : Hid (((w1.alloc (.cells #[.int .u8 69, .int .u8 71, .int .u8 1] 5)).alloc (.cells #[.slice (some ⟨w.heap.size + 1, 0, none⟩) 3 3] 53)).heap[w.heap.size + 1 + 1]? = some (.cells #[.slice (some ⟨w.heap.size + 1, 0, none⟩) 3 3] 53 (0, 0))) := at_new' (by simp [z1])
  obtain ⟨w2, hw2⟩ : ∃ w2, (w1.alloc (.cells #[.int .u8 69, .int .u8 71, .int .u8 1] 5)).alloc (.cells #[.slice (some ⟨w.heap.size + 1, 0, none⟩) 3 3] 53) = w2 := ⟨_, rfl⟩
  have z2 : Hid (w2.heap.size = w.heap.size + 3) := by show _ = _; rw [← hw2]; simp [z1]
  rw [hw2] at F2 A1 A2
  have F12 := hid (F1.out.trans F2.out)
  have HF : Hid (∀ wk, Fr M w2 wk → Fr NoB w wk) := fun wk hf => F12.out.trans' hf (fun k hk hm => by rw [HMd.out] at hm; rcases hm with h | h <;> omega)
  have HB : Hid (∀ wk, Fr M w2 wk → wk.heap[w.heap.size]? = some (.cells (dumpCells (.slice pN d.nodes.length cN) (.slice pL d.links.length cL) (.slice pR d.roots.length cR)) 26 (0, 0))) := fun wk hf => hf.at (fun hm => by rw [HMd.out] at hm; rcases hm with h | h <;> omega) (F2.out.at (fun h => h) B1.out)
  have HR : Hid (∀ wk M', Fr M w2 wk → Gr M M' w2 → RdD M' wk (.slice pN d.nodes.length cN) (.slice pL d.links.length cL) (.slice pR d.roots.length cR) d ∧ ∀ k, M' k → w.heap.size < k) := fun wk M' hf hg => by
    have h1 := HD.out.step (HF.out wk hf)
    have h2 : ∀ k, M' k → w.heap.size < k := fun k hk => by
      rcases hg k hk with h | h
      · rw [HMd.out] at h; rcases h with h | h <;> omega
      · rw [z2.out] at h; omega
    exact ⟨⟨h1.nodes.weaken (fun k _ hk => .inr (Nat.le_of_lt (h2 k hk))), h1.links.weaken (fun k _ hk => .inr (Nat.le_of_lt (h2 k hk))), h1.roots.weaken (fun k _ hk => .inr (Nat.le_of_lt (h2 k hk)))⟩, h2⟩
  have S0 : Hid (WrS M w2 w2 (w.heap.size + 1 + 1) (bN [69, 71, 1])) := WrS.start ⟨⟨_, A2.out, ownY_new A1.out (by rfl) (Nat.zero_le _) rfl rfl (by decide), fun b hb => by cases hb; rw [HMd.out]; exact .inl rfl⟩, by rw [HMd.out]; exact .inr rfl, fun k hk => by rw [HMd.out] at hk; rw [z2.out]; omega⟩
  obtain ⟨d0, d1, d2, df, dl⟩ := three_of (HB.out w2 (Fr.refl _ _))
  clear hd hz A1 A2 B1 F1 F2 hMd
  unfold dumpV
  go_enter Tryz.func9, Tryz.ntmps9
  go_wp2_with fail
  obtain ⟨⟨M0, h0, hg0⟩, hf0⟩ := S0.out
  refine (num_any M0 _ _ d.nodes.length w2 h0 (by omega) (by simp [bN])).mono ?_
  rintro e w3 ⟨rfl, h1⟩
  have S1 := hid (WrS.trans hg0 hf0 h1)
  obtain ⟨l1, hl1⟩ : ∃ l1, Hid (l1 = bN [69, 71, 1] ++ bN (numE d.nodes.length)) := ⟨_, hid rfl⟩
  rw [← hl1.out] at S1
  have k1 : l1.length ≤ 30 := by have := numE_le d.nodes.length (by omega); rw [hl1.out, List.length_append]; simp only [bN, List.length_map, List.length_cons, List.length_nil] at this ⊢; omega
  clear d0 d1 d2 df dl h0 hg0 hf0 h1 S0
  obtain ⟨d0, d1, d2, df, dl⟩ := three_of (HB.out w3 S1.out.2)
  go_wp2_with fail
  clear d0 d1 d2 df dl
  go_loopw [22] (fun i wr => ∃ (k : Nat), k ≤ d.nodes.length ∧ i = .int .i64 k ∧ Hid (WrS M w2 wr (w.heap.size + 1 + 1) (l1 ++ bN ((d.nodes.take k).flatMap (fun x => nodeE x.1))))) (fun i _ => d.nodes.length - (intOf i).toNat)
  case atStart => exact ⟨0, Nat.zero_le _, rfl, by show WrS _ _ _ _ _; simpa [bN] using S1.out⟩
  case round =>
    obtain ⟨k, hk, rfl, SK⟩ := hrel
    by_cases hlt : k < d.nodes.length
    · obtain ⟨⟨M8, hw8, hg8⟩, hf8⟩ := SK.out
      obtain ⟨hrd, hm8⟩ := HR.out wr M8 hf8 hg8
      obtain ⟨b, off, rfl, e0, e1, e2, e3, e4, ha⟩ := hrd.nodes.nodeK hlt
      obtain ⟨aa, ca, hva⟩ := ha.form
      have hsz := HZ.out.nodes _ (List.getElem_mem hlt)
      have HT := hid (flat_take (e := fun x : Node × Value => nodeE x.1) d.nodes hlt)
      obtain ⟨nd, hnd⟩ : ∃ nd, d.nodes[k].1 = nd := ⟨_, rfl⟩
      rw [hnd] at e0 e1 e2 e3 ha hva hsz HT
      rw [hva] at e4 ha
      clear hva hnd
      have q1 : (bN ((d.nodes.take k).flatMap (fun x => nodeE x.1))).length ≤ 30000000 := by
        have h1 := flat_le (d.nodes.take k) (e := fun x : Node × Value => nodeE x.1) (c := 30000) (fun x hx => nodeE_le (HZ.out.nodes x (List.mem_of_mem_take hx)))
        have h2 : (d.nodes.take k).length ≤ d.nodes.length := List.length_take_le' _ _
        omega
      have HSZ := hid hsz
      have HM8 := hid hm8
      have W8 := hid hw8
      have G8 := hid hg8
      have F8 := hid hf8
      have A8 := hid ha
      clear hsz hm8 hw8 hg8 hf8 ha hrd
      go_wp2_with fail
      refine (wnode_any M8 _ _ nd (.slice aa nd.args.length ca) _ (W8.out.step ((Fr.refl NoB wr).alloc _)) (A8.out.fr ((Fr.refl NoB wr).alloc _) (fun _ _ h => h.elim)) HSZ.out (by rw [List.length_append]; omega)).mono ?_
      rintro e w9 ⟨rfl, h9⟩
      have S9 := hid (WrS.trans G8.out F8.out (h9.base ((Fr.refl NoB wr).alloc _)))
      clear h9 e0 e1 e2 e3 e4
      go_wp2
      go_roundw
      case rel =>
        exact ⟨k + 1, by omega, by go_num, by
          show WrS _ _ _ _ _
          rw [HT.out, ← List.append_assoc]
          exact S9.out⟩
      case measure => simp [intOf]; omega
    · obtain rfl : k = d.nodes.length := by omega
      obtain ⟨l2, hl2⟩ : ∃ l2, Hid (l2 = l1 ++ bN (d.nodes.flatMap (fun x => nodeE x.1))) := ⟨_, hid rfl⟩
      rw [List.take_length, ← hl2.out] at SK
      have k2 : l2.length ≤ 30000030 := by
        have h1 := flat_le d.nodes (e := fun x : Node × Value => nodeE x.1) (c := 30000) (fun x hx => nodeE_le (HZ.out.nodes x hx))
        rw [hl2.out, List.length_append]; omega
      obtain ⟨d0, d1, d2, df, dl⟩ := three_of (HB.out wr SK.out.2)
      clear S1 k1
      go_wp2_with fail
      obtain ⟨⟨M3, h3, hg3⟩, hf3⟩ := SK.out
      refine (num_any M3 _ _ d.links.length wr h3 (by omega) (by omega)).mono ?_
      rintro e w4 ⟨rfl, h4⟩
      have S4 := hid (WrS.trans hg3 hf3 h4)
      obtain ⟨l4, hl4⟩ : ∃ l4, Hid (l4 = l2 ++ bN (numE d.links.length)) := ⟨_, hid rfl⟩
      rw [← hl4.out] at S4
      have k4 : l4.length ≤ 30000050 := by have := numE_le d.links.length (by omega); rw [hl4.out, List.length_append]; omega
      clear d0 d1 d2 df dl h3 hg3 hf3 h4 SK k2
      obtain ⟨d0, d1, d2, df, dl⟩ := three_of (HB.out w4 S4.out.2)
      go_wp2_with fail
      clear d0 d1 d2 df dl
      go_loopw [39] (fun i wr => ∃ (k : Nat), k ≤ d.links.length ∧ i = .int .i64 k ∧ Hid (WrS M w2 wr (w.heap.size + 1 + 1) (l4 ++ bN ((d.links.take k).flatMap lnkE)))) (fun i _ => d.links.length - (intOf i).toNat)
      case atStart => exact ⟨0, Nat.zero_le _, rfl, by show WrS _ _ _ _ _; simpa [bN] using S4.out⟩
      case round =>
        obtain ⟨j, hj, rfl, SJ⟩ := hrel
        by_cases hlj : j < d.links.length
        · obtain ⟨⟨M8, hw8, hg8⟩, hf8⟩ := SJ.out
          obtain ⟨hrd, hm8⟩ := HR.out _ M8 hf8 hg8
          obtain ⟨b, off, rfl, _, e0, e1, e2⟩ := hrd.links.lkK hlj
          have hsz := HZ.out.links _ (List.getElem_mem hlj)
          have HT := hid (flat_take (e := lnkE) d.links hlj)
          obtain ⟨x, hx⟩ : ∃ x, d.links[j] = x := ⟨_, rfl⟩
          rw [hx] at e0 e1 e2 hsz HT
          have q1 : (bN ((d.links.take j).flatMap lnkE)).length ≤ 60000 := by
            have h1 := flat_le (d.links.take j) (e := lnkE) (c := 60) (fun x hx => lnkE_le (HZ.out.links x (List.mem_of_mem_take hx)))
            have h2 : (d.links.take j).length ≤ d.links.length := List.length_take_le' _ _
            omega
          obtain ⟨l5, hl5⟩ : ∃ l5, Hid (l5 = l4 ++ bN ((d.links.take j).flatMap lnkE)) := ⟨_, hid rfl⟩
          have k5 : l5.length ≤ 30100050 := by rw [hl5.out, List.length_append]; omega
          rw [← hl5.out] at hw8
          have HX := hid hsz
          have F8 := hid hf8
          have G8 := hid hg8
          have W8 := hid (hw8.step ((Fr.refl NoB wr).alloc (.cells #[.int .i64 x.a, .int .i64 x.b, .int .i64 x.why] 57)))
          have N8 := hid (at_new wr (.cells #[.int .i64 x.a, .int .i64 x.b, .int .i64 x.why] 57))
          have Q8 : Hid (¬ M8 wr.heap.size) := fun h => by have := hw8.lt _ h; omega
          have FA : Hid (Fr NoB wr (wr.alloc (.cells #[.int .i64 x.a, .int .i64 x.b, .int .i64 x.why] 57))) := (Fr.refl NoB wr).alloc _
          obtain ⟨wj, hwj⟩ : ∃ wj, wr.alloc (.cells #[.int .i64 x.a, .int .i64 x.b, .int .i64 x.why] 57) = wj := ⟨_, rfl⟩
          rw [hwj] at W8 N8 FA
          obtain ⟨g0, g1, g2, gf, gl⟩ := three_of N8.out
          clear hsz hm8 hw8 hg8 hf8 hrd hx
          go_wp2_with fail
          refine (sgn_any M8 _ _ x.a _ W8.out HX.out.1.1 HX.out.1.2 (by omega)).mono ?_
          rintro e w9 ⟨rfl, h9⟩
          have T1 := hid h9
          obtain ⟨l6, hl6⟩ : ∃ l6, Hid (l6 = l5 ++ bN (sgnE x.a)) := ⟨_, hid rfl⟩
          rw [← hl6.out] at T1
          have k6 : l6.length ≤ 30100070 := by have := sgnE_le _ HX.out.1; rw [hl6.out, List.length_append]; omega
          clear h9 e0 e1 e2 g0 g1 g2 gf gl hwj W8
          obtain ⟨g0, g1, g2, gf, gl⟩ := three_of (T1.out.2.at Q8.out N8.out)
          go_wp2_with fail
          obtain ⟨⟨Ma, ha, hga⟩, hfa⟩ := T1.out
          refine (sgn_any Ma _ _ x.b _ ha HX.out.2.1.1 HX.out.2.1.2 (by omega)).mono ?_
          rintro e w10 ⟨rfl, h9⟩
          have T2 := hid (WrS.trans hga hfa h9)
          obtain ⟨l7, hl7⟩ : ∃ l7, Hid (l7 = l6 ++ bN (sgnE x.b)) := ⟨_, hid rfl⟩
          rw [← hl7.out] at T2
          have k7 : l7.length ≤ 30100090 := by have := sgnE_le _ HX.out.2.1; rw [hl7.out, List.length_append]; omega
          clear h9 g0 g1 g2 gf gl ha hga hfa T1
          obtain ⟨g0, g1, g2, gf, gl⟩ := three_of (T2.out.2.at Q8.out N8.out)
          go_wp2_with fail
          obtain ⟨⟨Mb, hb, hgb⟩, hfb⟩ := T2.out
          refine (sgn_any Mb _ _ x.why _ hb HX.out.2.2.1 HX.out.2.2.2 (by omega)).mono ?_
          rintro e w11 ⟨rfl, h9⟩
          have T3 := hid (WrS.trans G8.out F8.out ((WrS.trans hgb hfb h9).base FA.out))
          clear h9 g0 g1 g2 gf gl hb hgb hfb T2
          go_wp2
          go_roundw
          case rel =>
            exact ⟨j + 1, by omega, by go_num, by
              show WrS _ _ _ _ _
              rw [HT.out, ← List.append_assoc, ← hl5.out]
              have h := T3.out
              rw [hl7.out, hl6.out] at h
              unfold lnkE
              simpa only [bN_app, List.append_assoc] using h⟩
          case measure => simp [intOf]; omega
        · obtain rfl : j = d.links.length := by omega
          obtain ⟨l5, hl5⟩ : ∃ l5, Hid (l5 = l4 ++ bN (d.links.flatMap lnkE)) := ⟨_, hid rfl⟩
          rw [List.take_length, ← hl5.out] at SJ
          have k5 : l5.length ≤ 30100050 := by
            have h1 := flat_le d.links (e := lnkE) (c := 60) (fun x hx => lnkE_le (HZ.out.links x hx))
            rw [hl5.out, List.length_append]; omega
          obtain ⟨d0, d1, d2, df, dl⟩ := three_of (HB.out wr SJ.out.2)
          clear S4 k4
          go_wp2_with fail
          obtain ⟨⟨M5, h5, hg5⟩, hf5⟩ := SJ.out
          refine (num_any M5 _ _ d.roots.length wr h5 (by omega) (by omega)).mono ?_
          rintro e w5 ⟨rfl, h6⟩
          have S6 := hid (WrS.trans hg5 hf5 h6)
          obtain ⟨l6, hl6⟩ : ∃ l6, Hid (l6 = l5 ++ bN (numE d.roots.length)) := ⟨_, hid rfl⟩
          rw [← hl6.out] at S6
          have k6 : l6.length ≤ 30100070 := by have := numE_le d.roots.length (by omega); rw [hl6.out, List.length_append]; omega
          clear d0 d1 d2 df dl h5 hg5 hf5 h6 SJ k5
          obtain ⟨d0, d1, d2, df, dl⟩ := three_of (HB.out w5 S6.out.2)
          go_wp2_with fail
          clear d0 d1 d2 df dl
          go_loopw [65] (fun i wr => ∃ (k : Nat), k ≤ d.roots.length ∧ i = .int .i64 k ∧ Hid (WrS M w2 wr (w.heap.size + 1 + 1) (l6 ++ bN ((d.roots.take k).flatMap sgnE)))) (fun i _ => d.roots.length - (intOf i).toNat)
          case atStart => exact ⟨0, Nat.zero_le _, rfl, by show WrS _ _ _ _ _; simpa [bN] using S6.out⟩
          case round =>
            obtain ⟨q, hq, rfl, SQ⟩ := hrel
            have q1 : (bN ((d.roots.take q).flatMap sgnE)).length ≤ 20000 := by
              have h1 := flat_le (d.roots.take q) (e := sgnE) (c := 20) (fun x hx => sgnE_le x (HZ.out.roots x (List.mem_of_mem_take hx)))
              have h2 : (d.roots.take q).length ≤ d.roots.length := List.length_take_le' _ _
              omega
            by_cases hlq : q < d.roots.length
            · obtain ⟨⟨M8, hw8, hg8⟩, hf8⟩ := SQ.out
              obtain ⟨hrd, hm8⟩ := HR.out _ M8 hf8 hg8
              obtain ⟨b, off, rfl, e0⟩ := hrd.roots.cellK hlq
              have hg : d.roots.getD q 0 = d.roots[q] := getD_eq hlq
              rw [hg] at e0
              have hsz := HZ.out.roots _ (List.getElem_mem hlq)
              have HT := hid (flat_take (e := sgnE) d.roots hlq)
              obtain ⟨x, hx⟩ : ∃ x, d.roots[q] = x := ⟨_, rfl⟩
              rw [hx] at e0 hsz HT
              have HX := hid hsz
              have F8 := hid hf8
              have G8 := hid hg8
              have W8 := hid hw8
              clear hsz hm8 hw8 hg8 hf8 hrd hx hg
              go_wp2_with fail
              refine (sgn_any M8 _ _ x _ W8.out HX.out.1 HX.out.2 (by rw [List.length_append]; omega)).mono ?_
              rintro e w9 ⟨rfl, h9⟩
              have T1 := hid (WrS.trans G8.out F8.out h9)
              clear h9 e0
              go_wp2
              go_roundw
              case rel =>
                exact ⟨q + 1, by omega, by go_num, by
                  show WrS _ _ _ _ _
                  rw [HT.out, ← List.append_assoc]
                  exact T1.out⟩
              case measure => simp [intOf]; omega
            · obtain rfl : q = d.roots.length := by omega
              have SD := hid (SQ.out.step (Fr.refl NoB wr).drew)
              obtain ⟨l7, hl7⟩ : ∃ l7, Hid (l7 = l6 ++ bN (d.roots.flatMap sgnE)) := ⟨_, hid rfl⟩
              rw [List.take_length, ← hl7.out] at SD
              rw [List.take_length] at q1
              have k7 : l7.length ≤ 40000000 := by rw [hl7.out, List.length_append]; omega
              obtain ⟨⟨M7, h7, hg7⟩, hf7⟩ := SD.out
              obtain ⟨⟨tv, hb, ho, hbM⟩, hM, hlt⟩ := h7
              obtain ⟨tp, tc, hv7⟩ := OwnE.form ho
              subst hv7
              have O7 := hid ho
              have H7 := hid hb
              have F7 := hid hf7
              have P7 : Hid (∀ g, (Value.slice tp l7.length tc).ownBlock = some g → w.heap.size ≤ g) := fun g hg => Nat.le_of_lt ((HR.out _ M7 hf7 hg7).2 g (hbM g hg))
              have b0 : wr.drew.cell? ⟨w.heap.size + 1 + 1, 0, none⟩ = some (.slice tp l7.length tc) := by simp [World.cell?, hb]
              have HN : nats l7 = headE (dmOf d) := by
                have e1 : l7 = bN (headE (dmOf d)) := by
                  rw [hl7.out, hl6.out, hl5.out, hl4.out, hl2.out, hl1.out]
                  unfold headE bodyE dmOf
                  simp only [bN_app, List.length_map, List.flatMap_map, List.append_assoc]
                rw [e1]
                exact bN_toNat (headE_byte _)
              have HNN := hid HN
              clear hf7 hg7 hb ho hbM hM hlt SD SQ HN S6 q1
              go_wp2_with fail
              refine region_eff (fun w' => w'.cell? ⟨w.heap.size + 1 + 1, 0, none⟩ = some (.slice tp l7.length tc)) 12 [(0, 1), (1, 1), (2, 1), (3, 0), (4, 1), (5, 1), (6, 1), (7, 0), (8, 2), (9, 2), (10, 2), (11, 1)] (by kernel_rfl) (by kernel_rfl) ?_ ?_
              · exact b0
              repeat (first | (refine eff_off (by rfl) (by rfl) ?_; (try simp only [Act.put, List.setIfInBounds_toArray, List.set_cons_zero, List.set_cons_succ])) | (refine eff_off0 (by rfl) (by rfl) ?_; (try simp only [Act.put, List.setIfInBounds_toArray, List.set_cons_zero, List.set_cons_succ])) | (refine eff_pu ?_ (by rfl) (by rfl) ?_ ?_; rotate_left; (focus (intro w'; go_simp; (try with_reducible rfl); done)); (try simp only [Act.put, List.setIfInBounds_toArray, List.set_cons_zero, List.set_cons_succ])) | (refine eff_rd ?_ (by rfl) (by rfl) ?_ ?_; rotate_left; (focus (intro w' hS; (try obtain ⟨hq1, hS⟩ := hS); (try obtain ⟨hq2, hS⟩ := hS); (try obtain ⟨hq3, hS⟩ := hS); (try obtain ⟨hq4, hS⟩ := hS); (try obtain ⟨hq5, hS⟩ := hS); (try obtain ⟨hq6, hS⟩ := hS); (try obtain ⟨hq7, hS⟩ := hS); (try obtain ⟨hq8, hS⟩ := hS); (try obtain ⟨hq9, hS⟩ := hS); (try obtain ⟨hq10, hS⟩ := hS); (try obtain ⟨hq11, hS⟩ := hS); (try obtain ⟨hq12, hS⟩ := hS); (try obtain ⟨hq13, hS⟩ := hS); (try obtain ⟨hq14, hS⟩ := hS); (try obtain ⟨hq15, hS⟩ := hS); (try obtain ⟨hq16, hS⟩ := hS); (try obtain ⟨hq17, hS⟩ := hS); (try obtain ⟨hq18, hS⟩ := hS); (try obtain ⟨hq19, hS⟩ := hS); (try dsimp only at hS); go_simp; (try with_reducible rfl); done)); (try simp only [Act.put, List.setIfInBounds_toArray, List.set_cons_zero, List.set_cons_succ])))
              refine eff_call 11 #[.slice tp l7.length tc] (by rfl) (by rfl) (by intro w'; go_simp) ?_
              refine (sum_any _ l7 _ (O7.out.rd (fun _ _ h => h)) (by omega)).mono ?_
              rintro e w' ⟨rfl, rfl⟩
              rw [HNN.out]
              refine ⟨_, rfl, fun _ => b0, ?_⟩
              (try simp only [Act.put, List.setIfInBounds_toArray, List.set_cons_zero, List.set_cons_succ])
              repeat (first | (refine eff_off (by rfl) (by rfl) ?_; (try simp only [Act.put, List.setIfInBounds_toArray, List.set_cons_zero, List.set_cons_succ])) | (refine eff_off0 (by rfl) (by rfl) ?_; (try simp only [Act.put, List.setIfInBounds_toArray, List.set_cons_zero, List.set_cons_succ])) | (refine eff_pu ?_ (by rfl) (by rfl) ?_ ?_; rotate_left; (focus (intro w'; go_simp; (try with_reducible rfl); done)); (try simp only [Act.put, List.setIfInBounds_toArray, List.set_cons_zero, List.set_cons_succ])) | (refine eff_rd ?_ (by rfl) (by rfl) ?_ ?_; rotate_left; (focus (intro w' hS; (try obtain ⟨hq1, hS⟩ := hS); (try obtain ⟨hq2, hS⟩ := hS); (try obtain ⟨hq3, hS⟩ := hS); (try obtain ⟨hq4, hS⟩ := hS); (try obtain ⟨hq5, hS⟩ := hS); (try obtain ⟨hq6, hS⟩ := hS); (try obtain ⟨hq7, hS⟩ := hS); (try obtain ⟨hq8, hS⟩ := hS); (try obtain ⟨hq9, hS⟩ := hS); (try obtain ⟨hq10, hS⟩ := hS); (try obtain ⟨hq11, hS⟩ := hS); (try obtain ⟨hq12, hS⟩ := hS); (try obtain ⟨hq13, hS⟩ := hS); (try obtain ⟨hq14, hS⟩ := hS); (try obtain ⟨hq15, hS⟩ := hS); (try obtain ⟨hq16, hS⟩ := hS); (try obtain ⟨hq17, hS⟩ := hS); (try obtain ⟨hq18, hS⟩ := hS); (try obtain ⟨hq19, hS⟩ := hS); (try dsimp only at hS); go_simp; (try with_reducible rfl); done)); (try simp only [Act.put, List.setIfInBounds_toArray, List.set_cons_zero, List.set_cons_succ])))
              refine eff_call 24 #[.int .u32 (sumS (headE (dmOf d)))] (by rfl) (by rfl) (by intro w'; go_simp) ?_
              refine (big_any _ _ (sumS_lt _)).mono ?_
              rintro e w8 ⟨bb, rfl, hr8, hf8, hb8⟩
              have b8 := hf8.cf b0
              have R8 := hid hr8
              have F8 := hid hf8
              refine ⟨_, rfl, fun _ => b8, ?_⟩
              (try simp only [Act.put, List.setIfInBounds_toArray, List.set_cons_zero, List.set_cons_succ])
              repeat (first | (refine eff_off (by rfl) (by rfl) ?_; (try simp only [Act.put, List.setIfInBounds_toArray, List.set_cons_zero, List.set_cons_succ])) | (refine eff_off0 (by rfl) (by rfl) ?_; (try simp only [Act.put, List.setIfInBounds_toArray, List.set_cons_zero, List.set_cons_succ])) | (refine eff_pu ?_ (by rfl) (by rfl) ?_ ?_; rotate_left; (focus (intro w'; go_simp; (try with_reducible rfl); done)); (try simp only [Act.put, List.setIfInBounds_toArray, List.set_cons_zero, List.set_cons_succ])) | (refine eff_rd ?_ (by rfl) (by rfl) ?_ ?_; rotate_left; (focus (intro w' hS; (try obtain ⟨hq1, hS⟩ := hS); (try obtain ⟨hq2, hS⟩ := hS); (try obtain ⟨hq3, hS⟩ := hS); (try obtain ⟨hq4, hS⟩ := hS); (try obtain ⟨hq5, hS⟩ := hS); (try obtain ⟨hq6, hS⟩ := hS); (try obtain ⟨hq7, hS⟩ := hS); (try obtain ⟨hq8, hS⟩ := hS); (try obtain ⟨hq9, hS⟩ := hS); (try obtain ⟨hq10, hS⟩ := hS); (try obtain ⟨hq11, hS⟩ := hS); (try obtain ⟨hq12, hS⟩ := hS); (try obtain ⟨hq13, hS⟩ := hS); (try obtain ⟨hq14, hS⟩ := hS); (try obtain ⟨hq15, hS⟩ := hS); (try obtain ⟨hq16, hS⟩ := hS); (try obtain ⟨hq17, hS⟩ := hS); (try obtain ⟨hq18, hS⟩ := hS); (try obtain ⟨hq19, hS⟩ := hS); (try dsimp only at hS); go_simp; (try with_reducible rfl); done)); (try simp only [Act.put, List.setIfInBounds_toArray, List.set_cons_zero, List.set_cons_succ])))
              refine eff_do (by rfl) ?_
              refine ap_by _ rfl _ _ rfl 0 (.slice tp l7.length tc) l7 rfl (OwnE.step O7.out F8.out) NoB _ (bN (bigE (sumS (headE (dmOf d))))) rfl R8.out ?_ (Nat.zero_le _) ?_
              · simp [bN, bigE]; omega
              intro p9 q9 w9 ho9 hg9 hb9
              have f9 : Fr (fun b => (Value.slice tp l7.length tc).ownBlock = some b) w8 w9 := Fr.grown (Fr.refl _ w8) hg9 (fun k hk _ => hk)
              have P9 : Hid (∀ g, (Value.slice p9 (l7 ++ bN (bigE (sumS (headE (dmOf d))))).length q9).ownBlock = some g → w.heap.size ≤ g) := fun g hg => by
                rcases hb9 with h | h
                · rw [h] at hg; exact P7.out g hg
                · rw [h] at hg
                  cases hg
                  exact Nat.le_trans (HF.out _ F7.out).size F8.out.size
              have FF : Hid (Fr NoB w w9) := ((HF.out _ F7.out).step F8.out).trans' f9 (fun k hk h => by have := P7.out k h; omega)
              have O9 := hid (OwnE.rebase ho9 P9.out)
              have HE : Hid (l7 ++ bN (bigE (sumS (headE (dmOf d)))) = bN (encE (dmOf d))) := by
                show _ = _
                unfold encE
                rw [bN_app]
                congr 1
                rw [← HNN.out]
                unfold nats bN
                rw [List.map_map]
                have : (UInt8.ofNat ∘ fun x : UInt8 => x.toNat) = id := by funext x; simp
                rw [this, List.map_id]
              refine wpList_nil ⟨rfl, fun _ => f9.c (lt_of_cell b8) (fun e => ?_) b8, ?_⟩
              · obtain ⟨cur, hc⟩ := OwnE.head (OwnE.step O7.out F8.out) e
                exact ne_of_types hc (F8.out.at (fun h => h) H7.out) (by decide) rfl
              (try simp only [Act.put, List.setIfInBounds_toArray, List.set_cons_zero, List.set_cons_succ])
              clear b0 b8 ho9 hg9 hb9 f9 hr8 hf8 hb8 R8 F8 P9
              repeat (first | (refine eff_off (by rfl) (by rfl) ?_; (try simp only [Act.put, List.setIfInBounds_toArray, List.set_cons_zero, List.set_cons_succ])) | (refine eff_off0 (by rfl) (by rfl) ?_; (try simp only [Act.put, List.setIfInBounds_toArray, List.set_cons_zero, List.set_cons_succ])) | (refine eff_pu ?_ (by rfl) (by rfl) ?_ ?_; rotate_left; (focus (intro w'; go_simp; (try with_reducible rfl); done)); (try simp only [Act.put, List.setIfInBounds_toArray, List.set_cons_zero, List.set_cons_succ])) | (refine eff_rd ?_ (by rfl) (by rfl) ?_ ?_; rotate_left; (focus (intro w' hS; (try obtain ⟨hq1, hS⟩ := hS); (try obtain ⟨hq2, hS⟩ := hS); (try obtain ⟨hq3, hS⟩ := hS); (try obtain ⟨hq4, hS⟩ := hS); (try obtain ⟨hq5, hS⟩ := hS); (try obtain ⟨hq6, hS⟩ := hS); (try obtain ⟨hq7, hS⟩ := hS); (try obtain ⟨hq8, hS⟩ := hS); (try obtain ⟨hq9, hS⟩ := hS); (try obtain ⟨hq10, hS⟩ := hS); (try obtain ⟨hq11, hS⟩ := hS); (try obtain ⟨hq12, hS⟩ := hS); (try obtain ⟨hq13, hS⟩ := hS); (try obtain ⟨hq14, hS⟩ := hS); (try obtain ⟨hq15, hS⟩ := hS); (try obtain ⟨hq16, hS⟩ := hS); (try obtain ⟨hq17, hS⟩ := hS); (try obtain ⟨hq18, hS⟩ := hS); (try obtain ⟨hq19, hS⟩ := hS); (try dsimp only at hS); go_simp; (try with_reducible rfl); done)); (try simp only [Act.put, List.setIfInBounds_toArray, List.set_cons_zero, List.set_cons_succ])))
              refine eff_nil ?_
              go_wp2
              go_ret
              refine ⟨_, rfl, ?_, FF.out⟩
              rw [← HE.out]
              have h9 := O9.out
              rw [List.length_append] at h9
              exact h9
end Go.Proofs.YtndfncaoejbkiaaGreatDoor
end
section
/- The walks of the reference's signed, Body, Sealed, Encode. -/
namespace Go.Proofs.YtndfncaoejbkiaaGreatDoor
open Go.RowKit
set_option maxRecDepth 100000

/-- Blocks of another kind than bytes stay. -/
def Kp (w w' : World) : Prop := ∀ (b : Nat) (c : Array Value) (e : TypeId) (f : Nat × Nat), e ≠ 5 → w.heap[b]? = some (.cells c e f) → w'.heap[b]? = some (.cells c e f)
theorem Kp.trans {a b c : World} (h : Kp a b) (h' : Kp b c) : Kp a c := fun k x e f he hk => h' k x e f he (h k x e f he hk)
theorem Kp.fr {w w' : World} {v : Value} {B : Nat} {l : List UInt8} (ho : OwnY B w v l) (hf : Fr (fun k => v.ownBlock = some k) w w') : Kp w w' := fun b c e f he hb => hf.at (fun h => by
  obtain ⟨cur, hc⟩ := OwnE.head ho h
  exact ne_of_types hc hb (fun h => he h.symm) rfl) hb
/-- The bytes that the reference has written since w0. -/
def BdS (w0 w : World) (v : Value) (l : List UInt8) : Prop := OwnY w0.heap.size w v l ∧ Fr NoB w0 w
theorem BdS.step {w0 w w' : World} {v : Value} {l : List UInt8} (h : BdS w0 w v l) (hf : Fr NoB w w') : BdS w0 w' v l := ⟨OwnE.step h.1 hf, h.2.step hf⟩
theorem BdS.next {w0 w w' : World} {v v' : Value} {l m : List UInt8} (h : BdS w0 w v l) (ho : OwnY w0.heap.size w' v' m) (hf : Fr (fun k => v.ownBlock = some k) w w') : BdS w0 w' v' m :=
  ⟨ho, h.2.trans' hf (fun k hk e => by have := (World.ownsRow.lt h.1 k e).1; omega)⟩
theorem refNum_S (w0 : World) (v : Value) (l m : List UInt8) (x : Nat) (w : World) (h : BdS w0 w v l) (hx : x < 18446744073709551616) (hl : l.length ≤ 900000000) (hm : m = l ++ bN (numE x)) (z : Int) (hz : z = (x : Int)) :
    Calls Tryz.prog 43 #[v, .int .u64 z] w fun e w' => ∃ p q, e = .returned (.slice p m.length q) ∧ BdS w0 w' (.slice p m.length q) m ∧ Kp w w' := by
  subst hz
  subst hm
  refine (refNum_any _ v l x w h.1 hx hl h.2.size).mono ?_
  rintro e w' ⟨v', rfl, h1, h2, _⟩
  obtain ⟨p, q, hv⟩ := OwnE.form h1
  subst hv
  exact ⟨p, q, rfl, h.next h1 h2, Kp.fr h.1 h2⟩
set_option maxHeartbeats 2000000 in
theorem refSgn_S (w0 : World) (v : Value) (l m : List UInt8) (n : Int) (w : World) (h : BdS w0 w v l) (h0 : -9223372036854775808 ≤ n) (h1 : n < 9223372036854775808) (hl : l.length ≤ 900000000) (hm : m = l ++ bN (sgnE n)) :
    Calls Tryz.prog 44 #[v, .int .i64 n] w fun e w' => ∃ p q, e = .returned (.slice p m.length q) ∧ BdS w0 w' (.slice p m.length q) m ∧ Kp w w' := by
  have H := hid h
  rw [sgnE_of n h0 h1] at hm
  have HM := hid hm
  clear h hm
  obtain ⟨pv, cv, hv⟩ := OwnE.form H.out.1
  subst hv
  go_enter Tryz.func44, Tryz.ntmps44
  by_cases hn : 0 ≤ n
  · have hn' : ¬ n < 0 := by omega
    go_wp2_with fail
    refine (refNum_S w0 _ l m (2 * n).toNat w H.out (by omega) hl (by have h := HM.out; rw [if_pos (by omega)] at h; exact h) _ (by first | omega | (simp only [IntKind.wrap_u64]; omega))).mono ?_
    rintro e w1 ⟨p, q, rfl, h2, h3⟩
    have H2 := hid h2
    have H3 := hid h3
    clear h2 h3
    go_wp2
    go_ret
    exact ⟨p, q, rfl, H2.out, H3.out⟩
  · have hn' : n < 0 := by omega
    go_wp2_with fail
    refine (refNum_S w0 _ l m (-2 * n - 1).toNat w H.out (by omega) hl (by have h := HM.out; rw [if_neg (by omega)] at h; exact h) _ (by first | omega | (simp only [IntKind.wrap_u64]; omega))).mono ?_
    rintro e w1 ⟨p, q, rfl, h2, h3⟩
    have H2 := hid h2
    have H3 := hid h3
    clear h2 h3
    go_wp2
    go_ret
    exact ⟨p, q, rfl, H2.out, H3.out⟩
/-- Bytes and their checksum. -/
def sealS (l : List UInt8) : List UInt8 := l ++ bN (bigE (sumS (nats l)))
set_option maxHeartbeats 2000000 in
theorem refSealed_any (v : Value) (l m : List UInt8) (w : World) (h : RdY NoB w v l) (hl : l.length ≤ 800000000) (hm : m = sealS l) :
    Calls Tryz.prog 17 #[v] w fun e w' => ∃ p q, e = .returned (.slice p m.length q) ∧ OwnY w.heap.size w' (.slice p m.length q) m ∧ Fr NoB w w' := by
  obtain ⟨pv, cv, hv⟩ := RdY.form h
  subst hv
  have H := hid h
  have HM := hid hm
  have hs := sumS_lt (nats l)
  obtain ⟨s, hS⟩ : ∃ s, Hid (sumS (nats l) = s) := ⟨_, hid rfl⟩
  rw [hS.out] at hs
  have O0 : Hid (OwnY w.heap.size w (.slice none 0 0) []) := OwnE.nil _ _ _ _ _
  clear h hm
  go_enter Tryz.func17, Tryz.ntmps17
  go_wp2_with fail
  refine (refSum22_any _ l w H.out (by omega)).mono ?_
  rintro e w' ⟨rfl, h9⟩
  have h9 := h9.symm
  subst h9
  rw [hS.out]
  have HS1 : Hid ((l ++ bN (bigE s)).length = l.length + 4) := by show _ = _; rw [List.length_append]; rfl
  go_wp2_with (first
    | (at_builtin; refine ap_by _ rfl _ _ rfl w.heap.size (.slice none 0 0) [] rfl O0.out NoB _ l rfl H.out (by simp only [List.length_nil]; omega) (Nat.le_refl _) ?_; intro p8 q8 w8 ho8 hg8 hb8; (simp only [List.nil_append] at ho8 hb8 ⊢); have O8 := hid ho8; have F8 : Hid (Fr NoB w w8) := Fr.grown (Fr.refl _ w) hg8 (fun k hk _ => by cases hk); clear ho8 hg8 hb8)
    | (at_builtin; refine ap_by _ rfl _ _ rfl w.heap.size (.slice p8 l.length q8) l rfl (OwnE.step O8.out ((Fr.refl NoB w8).alloc _)) NoB _ (bN (bigE s)) rfl (rdY_new (at_new w8 _) ?_ (fun h => h) rfl (Nat.le_refl _)) ?_ ?_ ?_; rotate_left; (have := HS1.out; rw [List.length_append] at this; omega); (have := F8.out.size; simp only [World.size_alloc]; omega); rotate_left; (simp only [bigE, bN, List.map_cons, List.map_nil, flatE, byC, List.cons_append, List.nil_append, Array.mk.injEq, List.cons.injEq, Value.int.injEq, true_and, and_true, UInt8.toNat_ofNat']; omega); intro p9 q9 w9 ho9 hg9 hb9; have O9 := hid ho9; have F9 : Hid (Fr (fun b => (Value.slice p8 l.length q8).ownBlock = some b) w8 w9) := Fr.grown ((Fr.refl _ w8).alloc _) hg9 (fun k hk _ => hk); clear ho9 hg9 hb9))
  go_ret
  have e : l ++ bN (bigE s) = m := by rw [HM.out]; unfold sealS; rw [hS.out]
  have h9 := O9.out
  rw [List.length_append] at h9
  rw [← e, List.length_append]
  exact ⟨p9, q9, rfl, h9, F8.out.trans' F9.out (fun k hk h => by have := (World.ownsRow.lt O8.out k h).1; omega)⟩
end Go.Proofs.YtndfncaoejbkiaaGreatDoor
end
section
/- The walks of the reference's Body and Encode. Printed by gen_sn8.py. -/
namespace Go.Proofs.YtndfncaoejbkiaaGreatDoor
open Go.RowKit
set_option maxRecDepth 100000

set_option maxHeartbeats 8000000 in
theorem refBody_any (sN sL sR : Value) (d : Dmp) (w : World) (hd : RdD NoB w sN sL sR d) (hz : DmpSz d) (m : List UInt8) (hm : m = bN (headE (dmOf d))) :
    Calls Tryz.prog 25 #[dumpV sN sL sR] w fun e w' => ∃ p q, e = .returned (.slice p m.length q) ∧ OwnY w.heap.size w' (.slice p m.length q) m ∧ Fr NoB w w' := by
  obtain ⟨pN, cN, rfl⟩ := hd.nodes.form
  obtain ⟨pL, cL, rfl⟩ := hd.links.form
  obtain ⟨pR, cR, rfl⟩ := hd.roots.form
  have HD := hid hd
  have HZ := hid hz
  have HM := hid hm
  have zn := hz.nn
  have zl := hz.nl
  have zr := hz.nr
  have F1 : Hid (Fr NoB w (w.alloc (.cells (dumpCells (.slice pN d.nodes.length cN) (.slice pL d.links.length cL) (.slice pR d.roots.length cR)) 26))) := (Fr.refl NoB w).alloc _
  have B1 := hid (at_new w (.cells (dumpCells (.slice pN d.nodes.length cN) (.slice pL d.links.length cL) (.slice pR d.roots.length cR)) 26))
  obtain ⟨w1, hw1⟩ : ∃ w1, w.alloc (.cells (dumpCells (.slice pN d.nodes.length cN) (.slice pL d.links.length cL) (.slice pR d.roots.length cR)) 26) = w1 := ⟨_, rfl⟩
  have z1 : w1.heap.size = w.heap.size + 1 := by rw [← hw1]; simp
  rw [hw1] at F1 B1
  have A1 := hid (at_new' (w := w1) (o := .cells #[.int .u8 69, .int .u8 71, .int .u8 1] 5) z1.symm)
  have F2 : Hid (Fr NoB w1 (w1.alloc (.cells #[.int .u8 69, .int .u8 71, .int .u8 1] 5))) := (Fr.refl NoB w1).alloc _
  obtain ⟨w2, hw2⟩ : ∃ w2, w1.alloc (.cells #[.int .u8 69, .int .u8 71, .int .u8 1] 5) = w2 := ⟨_, rfl⟩
  rw [hw2] at F2 A1
  have HB : Hid (∀ wk v l, BdS w1 wk v l → wk.heap[w.heap.size]? = some (.cells (dumpCells (.slice pN d.nodes.length cN) (.slice pL d.links.length cL) (.slice pR d.roots.length cR)) 26 (0, 0))) := fun wk v l h => h.2.at (fun h => h) B1.out
  have HR : Hid (∀ wk v l, BdS w1 wk v l → RdD NoB wk (.slice pN d.nodes.length cN) (.slice pL d.links.length cL) (.slice pR d.roots.length cR) d) := fun wk v l h => HD.out.step (F1.out.step h.2)
  obtain ⟨l0, hl0⟩ : ∃ l0, Hid (l0 = bN [69, 71, 1]) := ⟨_, hid rfl⟩
  have S0 : Hid (BdS w1 w2 (.slice (some ⟨w.heap.size + 1, 0, none⟩) 3 3) l0) := by
    show BdS _ _ _ _
    rw [hl0.out]
    exact ⟨ownY_new A1.out (by rfl) (by omega) rfl rfl (by decide), F2.out⟩
  have k0 : l0.length ≤ 10 := by rw [hl0.out]; simp [bN]
  obtain ⟨d0, d1, d2, df, dl⟩ := three_of (HB.out w2 _ _ S0.out)
  clear hd hz A1 F2 hm
  unfold dumpV
  go_enter Tryz.func25, Tryz.ntmps25
  go_wp2_with fail
  obtain ⟨l1, hl1⟩ : ∃ l1, Hid (l1 = l0 ++ bN (numE d.nodes.length)) := ⟨_, hid rfl⟩
  have kl1 : l1.length ≤ 30 := by have := numE_le d.nodes.length (by omega); rw [hl1.out, List.length_append]; omega
  refine (refNum_S w1 _ l0 l1 d.nodes.length w2 S0.out (by omega) (by omega) hl1.out _ (by first | rfl | omega)).mono ?_
  rintro e w3 ⟨pl1, ql1, rfl, h1, h2⟩
  have S1 := hid h1
  clear h1 h2 S0 k0
  clear d0 d1 d2 df dl
  obtain ⟨d0, d1, d2, df, dl⟩ := three_of (HB.out w3 _ _ S1.out)
  go_wp2_with fail
  clear d0 d1 d2 df dl
  go_loopw [3, 4] (fun t i wr => ∃ (k : Nat) (p : Option Addr) (q : Nat) (L : List UInt8), k ≤ d.nodes.length ∧ i = .int .i64 k ∧ t = .slice p L.length q ∧ Hid (L = l1 ++ bN ((d.nodes.take k).flatMap (fun x => nodeE x.1))) ∧ Hid (BdS w1 wr (.slice p L.length q) L)) (fun _ i _ => d.nodes.length - (intOf i).toNat)
  case atStart => exact ⟨0, _, _, l1, Nat.zero_le _, rfl, rfl, by show _ = _; simp [bN], S1.out⟩
  case round =>
    obtain ⟨k, p, q, L, hk, rfl, rfl, HL, SK⟩ := hrel
    obtain ⟨wo, rfl⟩ : ∃ wo : World, wo = wr := ⟨_, rfl⟩
    have kL : L.length ≤ 30000030 := by
      have h1 := flat_le (d.nodes.take k) (e := fun x : Node × Value => nodeE x.1) (c := 30000) (fun x hx => nodeE_le (HZ.out.nodes x (List.mem_of_mem_take hx)))
      have h2 : (d.nodes.take k).length ≤ d.nodes.length := List.length_take_le' _ _
      rw [HL.out, List.length_append]
      omega
    by_cases hlt : k < d.nodes.length
    · have hrd := HR.out _ _ _ SK.out
      obtain ⟨d0, d1, d2, df, dl⟩ := three_of (HB.out _ _ _ SK.out)
      obtain ⟨b, off, rfl, e0, e1, e2, e3, e4, ha⟩ := hrd.nodes.nodeK hlt
      obtain ⟨aa, ca, hva⟩ := ha.form
      have hsz := HZ.out.nodes _ (List.getElem_mem hlt)
      have HT := hid (flat_take (e := fun x : Node × Value => nodeE x.1) d.nodes hlt)
      obtain ⟨nd, hnd⟩ : ∃ nd, d.nodes[k].1 = nd := ⟨_, rfl⟩
      rw [hnd] at e0 e1 e2 e3 ha hva hsz HT
      rw [hva] at e4 ha
      have HSZ := hid hsz
      have za := hsz.args
      have znm := hsz.name
      obtain ⟨u, hv, hu⟩ : ∃ u : Nat, Hid (nd.val = (u : Int)) ∧ Hid (u = nd.val.toNat) := ⟨nd.val.toNat, by show _ = _; have := hsz.fit.val.1; omega, rfl⟩
      have hu2 : Hid (u < 18446744073709551616) := by show _ < _; have := hsz.fit.val; have := hu.out; omega
      have FA : Hid (Fr NoB wo (wo.alloc (.cells (nodeCells nd (.slice aa nd.args.length ca)) 44))) := (Fr.refl NoB wo).alloc _
      have N0 := hid (at_new wo (.cells (nodeCells nd (.slice aa nd.args.length ca)) 44))
      have RA := hid (((HD.out.step F1.out).nodes.args _ (List.getElem_mem hlt)))
      rw [hnd, hva] at RA
      have FW : Hid (Fr NoB w1 wo) := SK.out.2
      have T0 := hid (SK.out.step FA.out)
      have GZ : Hid (wo.heap.size < (wo.alloc (.cells (nodeCells nd (.slice aa nd.args.length ca)) 44)).heap.size) := by show _ < _; simp
      obtain ⟨wj, hwj⟩ : ∃ wj, wo.alloc (.cells (nodeCells nd (.slice aa nd.args.length ca)) 44) = wj := ⟨_, rfl⟩
      rw [hwj] at FA N0 T0 GZ
      clear hva hnd hsz ha hrd
      obtain ⟨c0, c1, c2, c3, c4, cf, cl⟩ := five_of N0.out
      go_wp2_with fail
      clear e0 e1 e2 e3 e4 d0 d1 d2 df dl hwj
      obtain ⟨l2, hl2⟩ : ∃ l2, Hid (l2 = L ++ bN (sgnE nd.op)) := ⟨_, hid rfl⟩
      have kl2 : l2.length ≤ 30000050 := by have := sgnE_le _ HSZ.out.fit.op; rw [hl2.out, List.length_append]; omega
      refine (refSgn_S w1 _ L l2 nd.op wj T0.out HSZ.out.fit.op.1 HSZ.out.fit.op.2 (by omega) hl2.out).mono ?_
      rintro e w4 ⟨pl2, ql2, rfl, h1, h2⟩
      have T1 := hid h1
      have N1 := hid (h2 _ _ _ _ (by decide) N0.out)
      clear h1 h2 T0 SK
      clear c0 c1 c2 c3 c4 cf cl
      obtain ⟨c0, c1, c2, c3, c4, cf, cl⟩ := five_of N1.out
      go_wp2_with fail
      obtain ⟨l3, hl3⟩ : ∃ l3, Hid (l3 = l2 ++ bN (sgnE nd.width)) := ⟨_, hid rfl⟩
      have kl3 : l3.length ≤ 30000070 := by have := sgnE_le _ HSZ.out.fit.width; rw [hl3.out, List.length_append]; omega
      refine (refSgn_S w1 _ l2 l3 nd.width w4 T1.out HSZ.out.fit.width.1 HSZ.out.fit.width.2 (by omega) hl3.out).mono ?_
      rintro e w5 ⟨pl3, ql3, rfl, h1, h2⟩
      have T2 := hid h1
      have N2 := hid (h2 _ _ _ _ (by decide) N1.out)
      clear h1 h2 T1 kl2
      clear c0 c1 c2 c3 c4 cf cl
      obtain ⟨c0, c1, c2, c3, c4, cf, cl⟩ := five_of N2.out
      rw [hv.out] at c2
      go_wp2_with fail
      obtain ⟨l4, hl4⟩ : ∃ l4, Hid (l4 = l3 ++ bN (numE u)) := ⟨_, hid rfl⟩
      have kl4 : l4.length ≤ 30000090 := by have := numE_le u hu2.out; rw [hl4.out, List.length_append]; omega
      refine (refNum_S w1 _ l3 l4 u w5 T2.out hu2.out (by omega) hl4.out _ (by first | rfl | omega)).mono ?_
      rintro e w6 ⟨pl4, ql4, rfl, h1, h2⟩
      have T3 := hid h1
      have N3 := hid (h2 _ _ _ _ (by decide) N2.out)
      clear h1 h2 T2 kl3
      clear c0 c1 c2 c3 c4 cf cl
      obtain ⟨c0, c1, c2, c3, c4, cf, cl⟩ := five_of N3.out
      go_wp2_with fail
      obtain ⟨l5, hl5⟩ : ∃ l5, Hid (l5 = l4 ++ bN (numE nd.name.size)) := ⟨_, hid rfl⟩
      have kl5 : l5.length ≤ 30000110 := by have := numE_le _ HSZ.out.fit.name; rw [hl5.out, List.length_append]; omega
      refine (refNum_S w1 _ l4 l5 nd.name.size w6 T3.out HSZ.out.fit.name (by omega) hl5.out _ (by first | rfl | omega)).mono ?_
      rintro e w7 ⟨pl5, ql5, rfl, h1, h2⟩
      have T4 := hid h1
      have N4 := hid (h2 _ _ _ _ (by decide) N3.out)
      clear h1 h2 T3 kl4
      clear c0 c1 c2 c3 c4 cf cl
      obtain ⟨c0, c1, c2, c3, c4, cf, cl⟩ := five_of N4.out
      have hB5 : Hid (w1.heap.size ≤ w7.heap.size) := T4.out.2.size
      obtain ⟨l6, hl6⟩ : ∃ l6, Hid (l6 = l5 ++ nd.name.data.toList) := ⟨_, hid rfl⟩
      have kl6 : l6.length ≤ 30001120 := by
        have : nd.name.data.toList.length = nd.name.size := by simp
        rw [hl6.out, List.length_append]; omega
      go_wp2_with (at_builtin; refine ap_str _ rfl _ _ rfl w1.heap.size (.slice pl5 l5.length ql5) l5 rfl T4.out.1 nd.name rfl ?_ ?_ ?_; (omega); (exact hB5.out); (rw [← hl6.out]); intro p8 q8 w8 ho8 hg8 hb8; have f8 : Fr (fun b => (Value.slice pl5 l5.length ql5).ownBlock = some b) w7 w8 := Fr.grown (Fr.refl _ w7) hg8 (fun k hk _ => hk); have T5 : Hid (BdS w1 w8 (.slice p8 l6.length q8) l6) := T4.out.next ho8 f8; have N5 := hid (Kp.fr T4.out.1 f8 _ _ _ _ (by decide) N4.out); clear ho8 hg8 hb8 f8 T4 kl5 c0 c1 c2 c3 c4 cf cl hB5; obtain ⟨c0, c1, c2, c3, c4, cf, cl⟩ := five_of N5.out)
      obtain ⟨l7, hl7⟩ : ∃ l7, Hid (l7 = l6 ++ bN (numE nd.args.length)) := ⟨_, hid rfl⟩
      have kl7 : l7.length ≤ 30001140 := by have := numE_le _ HSZ.out.fit.len; rw [hl7.out, List.length_append]; omega
      refine (refNum_S w1 _ l6 l7 nd.args.length w8 T5.out HSZ.out.fit.len (by omega) hl7.out _ (by first | rfl | omega)).mono ?_
      rintro e w9 ⟨pl7, ql7, rfl, h1, h2⟩
      have T6 := hid h1
      have N6 := hid (h2 _ _ _ _ (by decide) N5.out)
      clear h1 h2 T5 kl6
      clear c0 c1 c2 c3 c4 cf cl
      obtain ⟨c0, c1, c2, c3, c4, cf, cl⟩ := five_of N6.out
      go_wp2_with fail
      clear c0 c1 c2 c3 c4 cf cl
      go_loopw [3, 6] (fun t i wr => ∃ (j : Nat) (p : Option Addr) (q : Nat) (L : List UInt8), j ≤ nd.args.length ∧ i = .int .i64 j ∧ t = .slice p L.length q ∧ Hid (L = l7 ++ bN ((nd.args.take j).flatMap sgnE)) ∧ Hid (BdS w1 wr (.slice p L.length q) L) ∧ Hid (wr.heap[wo.heap.size]? = some (.cells (nodeCells nd (.slice aa nd.args.length ca)) 44 (0, 0)))) (fun _ i _ => nd.args.length - (intOf i).toNat)
      case atStart => exact ⟨0, _, _, l7, Nat.zero_le _, rfl, rfl, by show _ = _; simp [bN], T6.out, N6.out⟩
      case round =>
        obtain ⟨j, p, q, L2, hj, rfl, rfl, HL2, SJ, NJ⟩ := hrel
        have kL2 : L2.length ≤ 30030000 := by
          have h1 := flat_le (nd.args.take j) (e := sgnE) (c := 20) (fun x hx => sgnE_le x (HSZ.out.fit.args x (List.mem_of_mem_take hx)))
          have h2 : (nd.args.take j).length ≤ nd.args.length := List.length_take_le' _ _
          rw [HL2.out, List.length_append]
          omega
        obtain ⟨c0, c1, c2, c3, c4, cf, cl⟩ := five_of NJ.out
        by_cases hlj : j < nd.args.length
        · obtain ⟨ba, oa, rfl, hx⟩ := (RA.out.fr SJ.out.2 (fun _ _ h => h)).cellK hlj
          rw [getD_eq hlj] at hx
          have hxx := HSZ.out.fit.args _ (List.getElem_mem hlj)
          have HT2 := hid (flat_take (e := sgnE) nd.args hlj)
          obtain ⟨x, hx0⟩ : ∃ x, nd.args[j] = x := ⟨_, rfl⟩
          rw [hx0] at hx hxx HT2
          have HX := hid hxx
          clear hx0 hxx
          go_wp2_with fail
          obtain ⟨l8, hl8⟩ : ∃ l8, Hid (l8 = L2 ++ bN (sgnE x)) := ⟨_, hid rfl⟩
          refine (refSgn_S w1 _ L2 l8 x wr SJ.out HX.out.1 HX.out.2 (by omega) hl8.out).mono ?_
          rintro e w10 ⟨p8, q8, rfl, h1, h2⟩
          have T7 := hid h1
          have N7 := hid (h2 _ _ _ _ (by decide) NJ.out)
          clear h1 h2 hx SJ NJ c0 c1 c2 c3 c4 cf cl
          go_wp2
          go_roundw
          case rel => exact ⟨j + 1, _, _, l8, by omega, by go_num, rfl, by
            show _ = _
            rw [hl8.out, HL2.out, HT2.out, ← List.append_assoc], T7.out, N7.out⟩
          case measure => simp [intOf]; omega
        · obtain rfl : j = nd.args.length := by omega
          rw [List.take_length] at HL2
          go_wp2
          go_roundw
          case rel => exact ⟨k + 1, _, _, L2, by omega, by go_num, rfl, by
            show _ = _
            rw [HL2.out, hl7.out, hl6.out, hl5.out, hl4.out, hl3.out, hl2.out, HL.out, HT.out, hu.out]
            simp only [nodeE_bN, List.append_assoc], SJ.out⟩
          case measure => simp [intOf]; omega
    · obtain rfl : k = d.nodes.length := by omega
      rw [List.take_length] at HL
      clear S1 kl1
      obtain ⟨d0, d1, d2, df, dl⟩ := three_of (HB.out _ _ _ SK.out)
      go_wp2_with fail
      obtain ⟨l2, hl2⟩ : ∃ l2, Hid (l2 = L ++ bN (numE d.links.length)) := ⟨_, hid rfl⟩
      have kl2 : l2.length ≤ 30000050 := by have := numE_le d.links.length (by omega); rw [hl2.out, List.length_append]; omega
      refine (refNum_S w1 _ L l2 d.links.length wo SK.out (by omega) (by omega) hl2.out _ (by first | rfl | omega)).mono ?_
      rintro e w4 ⟨pl2, ql2, rfl, h1, h2⟩
      have S2 := hid h1
      clear h1 h2 SK kL
      clear d0 d1 d2 df dl
      obtain ⟨d0, d1, d2, df, dl⟩ := three_of (HB.out w4 _ _ S2.out)
      go_wp2_with fail
      clear d0 d1 d2 df dl
      go_loopw [3, 7] (fun t i wr => ∃ (k : Nat) (p : Option Addr) (q : Nat) (L : List UInt8), k ≤ d.links.length ∧ i = .int .i64 k ∧ t = .slice p L.length q ∧ Hid (L = l2 ++ bN ((d.links.take k).flatMap lnkE)) ∧ Hid (BdS w1 wr (.slice p L.length q) L)) (fun _ i _ => d.links.length - (intOf i).toNat)
      case atStart => exact ⟨0, _, _, l2, Nat.zero_le _, rfl, rfl, by show _ = _; simp [bN], S2.out⟩
      case round =>
        obtain ⟨k, p, q, LL, hk, rfl, rfl, HLL, SK⟩ := hrel
        have kLL : LL.length ≤ 30060050 := by
          have h1 := flat_le (d.links.take k) (e := lnkE) (c := 60) (fun x hx => lnkE_le (HZ.out.links x (List.mem_of_mem_take hx)))
          have h2 : (d.links.take k).length ≤ d.links.length := List.length_take_le' _ _
          rw [HLL.out, List.length_append]
          omega
        obtain ⟨d0, d1, d2, df, dl⟩ := three_of (HB.out _ _ _ SK.out)
        by_cases hlt : k < d.links.length
        · obtain ⟨b, off, rfl, _, e0, e1, e2⟩ := (HR.out _ _ _ SK.out).links.lkK hlt
          have HX := hid (HZ.out.links _ (List.getElem_mem hlt))
          have HT := hid (flat_take (e := lnkE) d.links hlt)
          obtain ⟨x, hx⟩ : ∃ x, d.links[k] = x := ⟨_, rfl⟩
          have HXE := hid hx
          rw [hx] at e0 e1 e2 HX HT
          clear hx
          go_wp2_with fail
          obtain ⟨l3, hl3⟩ : ∃ l3, Hid (l3 = LL ++ bN (sgnE x.a)) := ⟨_, hid rfl⟩
          have kl3 : l3.length ≤ 30060070 := by have := sgnE_le _ HX.out.1; rw [hl3.out, List.length_append]; omega
          refine (refSgn_S w1 _ LL l3 x.a wr SK.out HX.out.1.1 HX.out.1.2 (by omega) hl3.out).mono ?_
          rintro e w5 ⟨pl3, ql3, rfl, h1, h2⟩
          have T1 := hid h1
          clear h1 h2 SK kLL
          clear e0 e1 e2
          clear d0 d1 d2 df dl
          obtain ⟨d0, d1, d2, df, dl⟩ := three_of (HB.out w5 _ _ T1.out)
          obtain ⟨b', off', hbb, _, e0, e1, e2⟩ := (HR.out _ _ _ T1.out).links.lkK hlt
          simp only [Option.some.injEq, Addr.mk.injEq, and_true] at hbb
          obtain ⟨rfl, rfl⟩ := hbb
          rw [HXE.out] at e0 e1 e2
          go_wp2_with fail
          obtain ⟨l4, hl4⟩ : ∃ l4, Hid (l4 = l3 ++ bN (sgnE x.b)) := ⟨_, hid rfl⟩
          have kl4 : l4.length ≤ 30060090 := by have := sgnE_le _ HX.out.2.1; rw [hl4.out, List.length_append]; omega
          refine (refSgn_S w1 _ l3 l4 x.b w5 T1.out HX.out.2.1.1 HX.out.2.1.2 (by omega) hl4.out).mono ?_
          rintro e w6 ⟨pl4, ql4, rfl, h1, h2⟩
          have T2 := hid h1
          clear h1 h2 T1 kl3
          clear e0 e1 e2
          clear d0 d1 d2 df dl
          obtain ⟨d0, d1, d2, df, dl⟩ := three_of (HB.out w6 _ _ T2.out)
          obtain ⟨b', off', hbb, _, e0, e1, e2⟩ := (HR.out _ _ _ T2.out).links.lkK hlt
          simp only [Option.some.injEq, Addr.mk.injEq, and_true] at hbb
          obtain ⟨rfl, rfl⟩ := hbb
          rw [HXE.out] at e0 e1 e2
          go_wp2_with fail
          obtain ⟨l5, hl5⟩ : ∃ l5, Hid (l5 = l4 ++ bN (sgnE x.why)) := ⟨_, hid rfl⟩
          have kl5 : l5.length ≤ 30060110 := by have := sgnE_le _ HX.out.2.2; rw [hl5.out, List.length_append]; omega
          refine (refSgn_S w1 _ l4 l5 x.why w6 T2.out HX.out.2.2.1 HX.out.2.2.2 (by omega) hl5.out).mono ?_
          rintro e w7 ⟨pl5, ql5, rfl, h1, h2⟩
          have T3 := hid h1
          clear h1 h2 T2 kl4
          clear e0 e1 e2 d0 d1 d2 df dl
          go_wp2
          go_roundw
          case rel => exact ⟨k + 1, _, _, l5, by omega, by go_num, rfl, by
            show _ = _
            rw [hl5.out, hl4.out, hl3.out, HLL.out, HT.out]
            unfold lnkE
            simp only [bN_app, List.append_assoc], T3.out⟩
          case measure => simp [intOf]; omega
        · obtain rfl : k = d.links.length := by omega
          rw [List.take_length] at HLL
          clear S2 kl2
          go_wp2_with fail
          obtain ⟨l3, hl3⟩ : ∃ l3, Hid (l3 = LL ++ bN (numE d.roots.length)) := ⟨_, hid rfl⟩
          have kl3 : l3.length ≤ 30060070 := by have := numE_le d.roots.length (by omega); rw [hl3.out, List.length_append]; omega
          refine (refNum_S w1 _ LL l3 d.roots.length wr SK.out (by omega) (by omega) hl3.out _ (by first | rfl | omega)).mono ?_
          rintro e w5 ⟨pl3, ql3, rfl, h1, h2⟩
          have S3 := hid h1
          clear h1 h2 SK kLL
          clear d0 d1 d2 df dl
          obtain ⟨d0, d1, d2, df, dl⟩ := three_of (HB.out w5 _ _ S3.out)
          go_wp2_with fail
          clear d0 d1 d2 df dl
          go_loopw [3, 8] (fun t i wr => ∃ (k : Nat) (p : Option Addr) (q : Nat) (L : List UInt8), k ≤ d.roots.length ∧ i = .int .i64 k ∧ t = .slice p L.length q ∧ Hid (L = l3 ++ bN ((d.roots.take k).flatMap sgnE)) ∧ Hid (BdS w1 wr (.slice p L.length q) L)) (fun _ i _ => d.roots.length - (intOf i).toNat)
          case atStart => exact ⟨0, _, _, l3, Nat.zero_le _, rfl, rfl, by show _ = _; simp [bN], S3.out⟩
          case round =>
            obtain ⟨k, p, q, L4, hk, rfl, rfl, HL4, SK⟩ := hrel
            have kL4 : L4.length ≤ 30090070 := by
              have h1 := flat_le (d.roots.take k) (e := sgnE) (c := 20) (fun x hx => sgnE_le x (HZ.out.roots x (List.mem_of_mem_take hx)))
              have h2 : (d.roots.take k).length ≤ d.roots.length := List.length_take_le' _ _
              rw [HL4.out, List.length_append]
              omega
            obtain ⟨d0, d1, d2, df, dl⟩ := three_of (HB.out _ _ _ SK.out)
            by_cases hlt : k < d.roots.length
            · obtain ⟨b, off, rfl, e0⟩ := (HR.out _ _ _ SK.out).roots.cellK hlt
              rw [getD_eq hlt] at e0
              have HX := hid (HZ.out.roots _ (List.getElem_mem hlt))
              have HT := hid (flat_take (e := sgnE) d.roots hlt)
              obtain ⟨x, hx⟩ : ∃ x, d.roots[k] = x := ⟨_, rfl⟩
              rw [hx] at e0 HX HT
              clear hx
              go_wp2_with fail
              obtain ⟨l5, hl5⟩ : ∃ l5, Hid (l5 = L4 ++ bN (sgnE x)) := ⟨_, hid rfl⟩
              have kl5 : l5.length ≤ 30090090 := by have := sgnE_le _ HX.out; rw [hl5.out, List.length_append]; omega
              refine (refSgn_S w1 _ L4 l5 x wr SK.out HX.out.1 HX.out.2 (by omega) hl5.out).mono ?_
              rintro e w6 ⟨pl5, ql5, rfl, h1, h2⟩
              have T1 := hid h1
              clear h1 h2 SK kL4
              clear e0 d0 d1 d2 df dl
              go_wp2
              go_roundw
              case rel => exact ⟨k + 1, _, _, l5, by omega, by go_num, rfl, by
                show _ = _
                rw [hl5.out, HL4.out, HT.out, ← List.append_assoc], T1.out⟩
              case measure => simp [intOf]; omega
            · obtain rfl : k = d.roots.length := by omega
              rw [List.take_length] at HL4
              go_wp2
              go_ret
              have e : L4 = m := by
                rw [HL4.out, hl3.out, HLL.out, hl2.out, HL.out, hl1.out, hl0.out, HM.out]
                unfold headE bodyE dmOf
                simp only [bN_app, List.length_map, List.flatMap_map, List.append_assoc]
              subst e
              exact ⟨_, _, rfl, OwnE.base SK.out.1 F1.out.size, F1.out.step SK.out.2⟩
theorem sealS_enc (d : Dm) : sealS (bN (headE d)) = bN (encE d) := by
  unfold sealS encE
  rw [bN_app, show nats (bN (headE d)) = headE d from bN_toNat (headE_byte d)]
set_option maxHeartbeats 2000000 in
theorem refEncode_any (sN sL sR : Value) (d : Dmp) (w : World) (hd : RdD NoB w sN sL sR d) (hz : DmpSz d) (m : List UInt8) (hm : m = bN (encE (dmOf d))) (hlen : (bN (headE (dmOf d))).length ≤ 800000000) :
    Calls Tryz.prog 10 #[dumpV sN sL sR] w fun e w' => ∃ p q, e = .returned (.slice p m.length q) ∧ OwnY w.heap.size w' (.slice p m.length q) m ∧ Fr NoB w w' := by
  have HD := hid hd
  have HZ := hid hz
  have HM := hid hm
  have F1 : Hid (Fr NoB w (w.alloc (.cells (dumpCells sN sL sR) 26))) := (Fr.refl NoB w).alloc _
  obtain ⟨h, hh⟩ : ∃ h, Hid (h = bN (headE (dmOf d))) := ⟨_, hid rfl⟩
  have hlh : h.length ≤ 800000000 := by rw [hh.out]; exact hlen
  clear hd hz hm hlen
  unfold dumpV
  go_enter Tryz.func10, Tryz.ntmps10
  go_wp2_with fail
  refine (refBody_any sN sL sR d _ (HD.out.step F1.out) HZ.out h hh.out).mono ?_
  rintro e w2 ⟨p1, q1, rfl, h1, h2⟩
  have R1 := hid (OwnE.rd h1 (M := NoB) (fun _ _ h => h))
  have F2 := hid h2
  clear h1 h2
  go_wp2_with fail
  refine (refSealed_any _ h m w2 R1.out hlh (by rw [HM.out, hh.out, sealS_enc])).mono ?_
  rintro e w3 ⟨p2, q2, rfl, h1, h2⟩
  have O3 := hid (OwnE.base h1 (Nat.le_trans F1.out.size F2.out.size))
  have F3 := hid ((F1.out.step F2.out).step h2)
  clear h1 h2
  go_wp2
  go_ret
  exact ⟨_, _, rfl, O3.out, F3.out⟩
end Go.Proofs.YtndfncaoejbkiaaGreatDoor
end
