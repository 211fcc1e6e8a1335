import Derived.Test.YtgpliiepoimcbaaDoorPk2
set_option linter.all false
section
/- The walks of the reference's twice and open. -/
namespace Go.Proofs.YtgpliiepoimcbaaDoor
open Go.RowKit
set_option maxRecDepth 100000

def alikeAt (ns : List Node) (lab : List Int) (k i : Nat) : Bool := (ns[k]?).elim false (fun a => (ns[i]?).elim false (fun b => alikeS a b lab))
def twiceAt (ns : List Node) (i : Nat) : Bool := (List.range i).any (fun k => alikeAt ns (lbInit ns.length) k i)
def openAt (ns : List Node) (lab : List Int) (i : Nat) : Bool := (List.range i).any (fun k => alikeAt ns lab k i && lab.getD k 0 != lab.getD i 0)
theorem nsOf_length (d : Dmp) : (nsOf d).length = d.nodes.length := by simp [nsOf]
theorem alikeAt_of {d : Dmp} {lab : List Int} {k i : Nat} (hk : k < d.nodes.length) (hi : i < d.nodes.length) : alikeAt (nsOf d) lab k i = alikeS d.nodes[k].1 d.nodes[i].1 lab := by
  unfold alikeAt
  rw [nsOf_at hk, nsOf_at hi]; rfl
theorem any_upto {i : Nat} {p : Nat → Bool} (h : ∀ k, k < i → p k = false) : (List.range i).any p = false := by
  rw [List.any_eq_false]
  intro k hk
  rw [h k (List.mem_range.1 hk)]; simp
theorem any_at {i : Nat} {p : Nat → Bool} (k : Nat) (hk : k < i) (h : p k = true) : (List.range i).any p = true :=
  List.any_eq_true.2 ⟨k, List.mem_range.2 hk, h⟩

set_option maxHeartbeats 4000000 in
theorem twice_any (sN sL sR : Value) (d : Dmp) (w : World) (hd : RdD NoB w sN sL sR d) (i : Nat) (hi : i < d.nodes.length) (hlen : d.nodes.length ≤ 1000000) (hll : d.links.length ≤ 1000000) (hla : ∀ x ∈ d.nodes, x.1.args.length ≤ 1000000)
    (hord : ∀ x ∈ d.nodes, ∀ y ∈ x.1.args, 0 ≤ y ∧ y < d.nodes.length) :
    Calls Tryd.prog 27 #[dumpV sN sL sR, .int .i64 i] w fun e w' => e = .returned (.bool (twiceAt (nsOf d) i)) ∧ Fr NoB w w' := by
  have D0 := hid (DbS.start hd)
  have HLA := hid hla
  have HORD := hid hord
  obtain ⟨p, c, hp⟩ := hd.nodes.form
  subst hp
  clear hd hla hord
  obtain ⟨d0, d1, d2, df, dl⟩ := three_of D0.out.box
  unfold dumpV
  go_enter Tryd.func27, Tryd.ntmps27
  go_wp2_with fail
  refine (labels_any _ _ _ d _ D0.out.rd 0 (Nat.zero_le _) hlen hll).mono ?_
  rintro e w1 ⟨v, rfl, ho, hf⟩
  have D1 := hid (D0.out.step hf)
  have hrd := ho.rd (M := NoB) (fun _ _ h => h)
  rw [show lbAt d.nodes.length d.links 0 = lbInit d.nodes.length from rfl] at hrd
  have HR := hid hrd
  obtain ⟨tp, tc, hv⟩ := hrd.form
  rw [lbInit_length] at hv
  subst hv
  clear hf ho hrd d0 d1 d2 df dl D0
  go_wp2
  go_loopw [6] (fun j wr => ∃ (k : Nat), k ≤ i ∧ j = .int .i64 k ∧ Fr NoB w1 wr ∧ ∀ k', k' < k → alikeAt (nsOf d) (lbInit d.nodes.length) k' i = false) (fun j _ => i - (intOf j).toNat)
  case atStart => exact ⟨0, Nat.zero_le _, rfl, Fr.refl _ _, fun k' h => by omega⟩
  case round =>
    obtain ⟨k, hk, rfl, hf, hno⟩ := hrel
    have F := hid hf
    have HNO := hid hno
    have D2 := hid (D1.out.step hf)
    have HR2 := hid (HR.out.fr hf (fun _ _ h => h))
    obtain ⟨d0, d1, d2, df, dl⟩ := three_of D2.out.box
    clear hf hno
    by_cases hlt : k < i
    · have hkn : k < d.nodes.length := by omega
      have HAT := hid (alikeAt_of (lab := lbInit d.nodes.length) hkn hi)
      obtain ⟨b, off, rfl, e0, e1, e2, e3, e4, ha⟩ := D2.out.rd.nodes.nodeK hkn
      obtain ⟨b', off', hbb, g0, g1, g2, g3, g4, hb⟩ := D2.out.rd.nodes.nodeK hi
      simp only [Option.some.injEq, Addr.mk.injEq, and_true] at hbb
      obtain ⟨rfl, rfl⟩ := hbb
      have oa := hid (HORD.out _ (List.getElem_mem hkn))
      have ob := hid (HORD.out _ (List.getElem_mem hi))
      have la := HLA.out _ (List.getElem_mem hkn)
      generalize d.nodes[k] = x at e0 e1 e2 e3 e4 ha HAT oa la
      generalize d.nodes[i] = y at g0 g1 g2 g3 g4 hb HAT ob
      obtain ⟨xn, xs⟩ := x
      obtain ⟨yn, ys⟩ := y
      simp only at e0 e1 e2 e3 e4 ha HAT oa la g0 g1 g2 g3 g4 hb ob
      obtain ⟨ax, cx, rfl⟩ := ha.form
      obtain ⟨ay, cy, rfl⟩ := hb.form
      have HA := hid ha
      have HB := hid hb
      have dx := lt_of_cell e0
      clear ha hb
      go_wp2
      refine region_txt (Fr NoB _) (by kernel_rfl) (by kernel_rfl) ((Fr.refl NoB _).drew) ?_
      repeat (first | (refine txt_off (by rfl) ?_; (try simp only [Act.put, List.setIfInBounds_toArray, List.set_cons_zero, List.set_cons_succ])) | (refine txt_read ?_ (by rfl) ?_ ?_; rotate_left; (focus (intro W hW; have hWc := Fr.cq hW; clear hW; go_simp; (try with_reducible rfl); done)); (try simp only [Act.put, List.setIfInBounds_toArray, List.set_cons_zero, List.set_cons_succ])))
      (refine txt_call (.bool (alikeS xn yn (lbInit d.nodes.length))) ?_ ?_ (by rfl) ?_ ?_ ?_; rotate_left; rotate_left; (focus (intro W; go_simp; (first | done | (refine And.intro ?_ ?_ <;> with_reducible rfl) | with_reducible rfl); done)); (focus (exact (fun W hW => (alike_any xn yn _ _ _ (lbInit d.nodes.length) W (HA.out.fr hW (fun _ _ h => h)) (HB.out.fr hW (fun _ _ h => h)) (HR2.out.fr hW (fun _ _ h => h)) (by rw [lbInit_length]; exact oa.out) (by rw [lbInit_length]; exact ob.out) la).mono (fun e W' h => ⟨h.1, hW.step h.2⟩)))); (try simp only [Act.put, List.setIfInBounds_toArray, List.set_cons_zero, List.set_cons_succ]))
      rw [← HAT.out]
      refine txt_nil ?_
      intro W hW
      have D3 := hid (D2.out.step hW)
      have F3 := hid (F.out.step hW)
      clear hW d0 d1 d2 df dl e0 e1 e2 e3 e4 g0 g1 g2 g3 g4 dx
      cases hal : alikeAt (nsOf d) (lbInit d.nodes.length) k i with
      | true =>
        have HAL := hid hal
        go_wp2
        go_ret
        refine ⟨ret_bool ?_, D3.out.fr⟩
        unfold twiceAt
        rw [any_at k hlt (by rw [nsOf_length]; exact HAL.out)]
      | false =>
        have HAL := hid hal
        clear hal
        go_wp2
        go_roundw
        case rel => exact ⟨k + 1, by omega, by go_num, F3.out, fun k' h => by
          by_cases e : k' = k
          · subst e; exact HAL.out
          · exact HNO.out k' (by omega)⟩
        case measure => simp [intOf]; omega
    · obtain rfl : k = i := by omega
      go_wp2
      go_ret
      refine ⟨ret_bool ?_, D2.out.fr⟩
      unfold twiceAt
      rw [any_upto (by rw [nsOf_length]; exact HNO.out)]

set_option maxHeartbeats 4000000 in
theorem refOpen_any (sN sL sR : Value) (d : Dmp) (u : Value) (lab : List Int) (w : World) (hd : RdD NoB w sN sL sR d) (hu : RdI NoB w u lab) (hlab : lab.length = d.nodes.length) (i : Nat) (hi : i < d.nodes.length) (hlen : d.nodes.length ≤ 1000000) (hla : ∀ x ∈ d.nodes, x.1.args.length ≤ 1000000)
    (hord : ∀ x ∈ d.nodes, ∀ y ∈ x.1.args, 0 ≤ y ∧ y < d.nodes.length) :
    Calls Tryd.prog 29 #[dumpV sN sL sR, .int .i64 i, u] w fun e w' => e = .returned (.bool (openAt (nsOf d) lab i)) ∧ Fr NoB w w' := by
  have D1 := hid (DbS.start hd)
  have HLA := hid hla
  have HORD := hid hord
  have HR := hid (hu.fr D1.out.fr (fun _ _ h => h))
  have HLAB := hid hlab
  obtain ⟨p, c, hp⟩ := hd.nodes.form
  subst hp
  obtain ⟨tp, tc, hp⟩ := hu.form
  subst hp
  clear hd hla hord hu hlab
  obtain ⟨w1, hw1⟩ : ∃ w1, w.alloc (.cells (dumpCells (.slice p d.nodes.length c) sL sR) 26) = w1 := ⟨_, rfl⟩
  rw [hw1] at D1 HR
  unfold dumpV
  go_enter Tryd.func29, Tryd.ntmps29
  go_wp2
  clear hw1
  go_loopw [7] (fun j wr => ∃ (k : Nat), k ≤ i ∧ j = .int .i64 k ∧ Fr NoB w1 wr ∧ ∀ k', k' < k → (alikeAt (nsOf d) lab k' i && lab.getD k' 0 != lab.getD i 0) = false) (fun j _ => i - (intOf j).toNat)
  case atStart => exact ⟨0, Nat.zero_le _, rfl, Fr.refl _ _, fun k' h => by omega⟩
  case round =>
    obtain ⟨k, hk, rfl, hf, hno⟩ := hrel
    have F := hid hf
    have HNO := hid hno
    have D2 := hid (D1.out.step hf)
    have HR2 := hid (HR.out.fr hf (fun _ _ h => h))
    obtain ⟨d0, d1, d2, df, dl⟩ := three_of D2.out.box
    clear hf hno
    by_cases hlt : k < i
    · have hkn : k < d.nodes.length := by omega
      have HAT := hid (alikeAt_of (lab := lab) hkn hi)
      obtain ⟨b, off, rfl, e0, e1, e2, e3, e4, ha⟩ := D2.out.rd.nodes.nodeK hkn
      obtain ⟨b', off', hbb, g0, g1, g2, g3, g4, hb⟩ := D2.out.rd.nodes.nodeK hi
      simp only [Option.some.injEq, Addr.mk.injEq, and_true] at hbb
      obtain ⟨rfl, rfl⟩ := hbb
      obtain ⟨bt, ot, rfl, tk⟩ := HR2.out.cellK (k := k) (by rw [HLAB.out]; exact hkn)
      obtain ⟨bt', ot', hbb, ti⟩ := HR2.out.cellK (k := i) (by rw [HLAB.out]; exact hi)
      simp only [Option.some.injEq, Addr.mk.injEq, and_true] at hbb
      obtain ⟨rfl, rfl⟩ := hbb
      have HNEQ : Hid ((alikeAt (nsOf d) lab k i && lab.getD k 0 != lab.getD i 0) = (alikeAt (nsOf d) lab k i && lab.getD k 0 != lab.getD i 0)) := rfl
      obtain ⟨q1, hq1⟩ : ∃ q, lab.getD k 0 = q := ⟨_, rfl⟩
      obtain ⟨q2, hq2⟩ : ∃ q, lab.getD i 0 = q := ⟨_, rfl⟩
      rw [hq1] at tk
      rw [hq2] at ti
      have HQ1 := hid hq1
      have HQ2 := hid hq2
      clear hq1 hq2 HNEQ
      have oa := hid (HORD.out _ (List.getElem_mem hkn))
      have ob := hid (HORD.out _ (List.getElem_mem hi))
      have la := HLA.out _ (List.getElem_mem hkn)
      generalize d.nodes[k] = x at e0 e1 e2 e3 e4 ha HAT oa la
      generalize d.nodes[i] = y at g0 g1 g2 g3 g4 hb HAT ob
      obtain ⟨xn, xs⟩ := x
      obtain ⟨yn, ys⟩ := y
      simp only at e0 e1 e2 e3 e4 ha HAT oa la g0 g1 g2 g3 g4 hb ob
      obtain ⟨ax, cx, rfl⟩ := ha.form
      obtain ⟨ay, cy, rfl⟩ := hb.form
      have HA := hid ha
      have HB := hid hb
      have dx := lt_of_cell e0
      have dt := lt_of_cell tk
      have ll : lab.length = d.nodes.length := HLAB.out
      have oa' : ∀ x ∈ xn.args, 0 ≤ x ∧ x < lab.length := by rw [ll]; exact oa.out
      have ob' : ∀ x ∈ yn.args, 0 ≤ x ∧ x < lab.length := by rw [ll]; exact ob.out
      have OA := hid oa'
      have OB := hid ob'
      have hkl : k < lab.length := by omega
      have hil : i < lab.length := by omega
      clear ha hb ll oa' ob' oa ob
      have C : ∀ W, Fr NoB wr W → Calls Tryd.prog 45 #[nodeV xn (.slice ax xn.args.length cx), nodeV yn (.slice ay yn.args.length cy), (.slice (some ⟨bt, ot, none⟩) lab.length tc)] W (fun e W' => e = .returned (.bool (alikeS xn yn lab)) ∧ Fr NoB wr W') := fun W hW =>
        (alike_any xn yn _ _ _ lab W (HA.out.fr hW (fun _ _ h => h)) (HB.out.fr hW (fun _ _ h => h)) (HR2.out.fr hW (fun _ _ h => h)) OA.out OB.out la).mono (fun e W' h => ⟨h.1, hW.step h.2⟩)
      have CH := hid C
      clear C
      cases hal : alikeAt (nsOf d) lab k i with
      | false =>
        have HAL := hid hal
        clear hal
        go_wp2
        refine region_txt (Fr NoB _) (by kernel_rfl) (by kernel_rfl) ((Fr.refl NoB _).drew) ?_
        repeat (first | (refine txt_off (by rfl) ?_; (try simp only [Act.put, List.setIfInBounds_toArray, List.set_cons_zero, List.set_cons_succ])) | (refine txt_read ?_ (by rfl) ?_ ?_; rotate_left; (focus (intro W hW; have hWc := Fr.cq hW; clear hW; go_simp; (try with_reducible rfl); done)); (try simp only [Act.put, List.setIfInBounds_toArray, List.set_cons_zero, List.set_cons_succ])))
        (refine txt_call (.bool (alikeS xn yn lab)) ?_ ?_ (by rfl) ?_ ?_ ?_; rotate_left; rotate_left; (focus (intro W; go_simp; (first | done | (refine And.intro ?_ ?_ <;> with_reducible rfl) | with_reducible rfl); done)); (focus (exact CH.out)); (try simp only [Act.put, List.setIfInBounds_toArray, List.set_cons_zero, List.set_cons_succ]))
        rw [← HAT.out, HAL.out]
        repeat (first | (refine txt_off (by rfl) ?_; (try simp only [Act.put, List.setIfInBounds_toArray, List.set_cons_zero, List.set_cons_succ])) | (refine txt_read ?_ (by rfl) ?_ ?_; rotate_left; (focus (intro W hW; have hWc := Fr.cq hW; clear hW; go_simp; (try with_reducible rfl); done)); (try simp only [Act.put, List.setIfInBounds_toArray, List.set_cons_zero, List.set_cons_succ])))
        refine txt_nil ?_
        intro W hW
        have D3 := hid (D2.out.step hW)
        have F3 := hid (F.out.step hW)
        clear hW d0 d1 d2 df dl e0 e1 e2 e3 e4 g0 g1 g2 g3 g4 dx tk ti
        go_wp2
        go_roundw
        case rel => exact ⟨k + 1, by omega, by go_num, F3.out, fun k' h => by
          by_cases e : k' = k
          · subst e; rw [HAL.out]; rfl
          · exact HNO.out k' (by omega)⟩
        case measure => simp [intOf]; omega
      | true =>
        have HAL := hid hal
        clear hal
        by_cases hq : q1 = q2
        · have HQ := hid hq
          subst hq
          go_wp2
          refine region_txt (Fr NoB _) (by kernel_rfl) (by kernel_rfl) ((Fr.refl NoB _).drew) ?_
          repeat (first | (refine txt_off (by rfl) ?_; (try simp only [Act.put, List.setIfInBounds_toArray, List.set_cons_zero, List.set_cons_succ])) | (refine txt_read ?_ (by rfl) ?_ ?_; rotate_left; (focus (intro W hW; have hWc := Fr.cq hW; clear hW; go_simp; (try with_reducible rfl); done)); (try simp only [Act.put, List.setIfInBounds_toArray, List.set_cons_zero, List.set_cons_succ])))
          (refine txt_call (.bool (alikeS xn yn lab)) ?_ ?_ (by rfl) ?_ ?_ ?_; rotate_left; rotate_left; (focus (intro W; go_simp; (first | done | (refine And.intro ?_ ?_ <;> with_reducible rfl) | with_reducible rfl); done)); (focus (exact CH.out)); (try simp only [Act.put, List.setIfInBounds_toArray, List.set_cons_zero, List.set_cons_succ]))
          rw [← HAT.out, HAL.out]
          repeat (first | (refine txt_off (by rfl) ?_; (try simp only [Act.put, List.setIfInBounds_toArray, List.set_cons_zero, List.set_cons_succ])) | (refine txt_read ?_ (by rfl) ?_ ?_; rotate_left; (focus (intro W hW; have hWc := Fr.cq hW; clear hW; go_simp; (try with_reducible rfl); done)); (try simp only [Act.put, List.setIfInBounds_toArray, List.set_cons_zero, List.set_cons_succ])))
          refine txt_nil ?_
          intro W hW
          have D3 := hid (D2.out.step hW)
          have F3 := hid (F.out.step hW)
          clear hW d0 d1 d2 df dl e0 e1 e2 e3 e4 g0 g1 g2 g3 g4 dx tk ti
          go_wp2
          go_roundw
          case rel => exact ⟨k + 1, by omega, by go_num, F3.out, fun k' h => by
            by_cases e : k' = k
            · subst e; rw [HAL.out, HQ1.out, HQ2.out]; simp
            · exact HNO.out k' (by omega)⟩
          case measure => simp [intOf]; omega
        · go_wp2
          refine region_txt (Fr NoB _) (by kernel_rfl) (by kernel_rfl) ((Fr.refl NoB _).drew) ?_
          repeat (first | (refine txt_off (by rfl) ?_; (try simp only [Act.put, List.setIfInBounds_toArray, List.set_cons_zero, List.set_cons_succ])) | (refine txt_read ?_ (by rfl) ?_ ?_; rotate_left; (focus (intro W hW; have hWc := Fr.cq hW; clear hW; go_simp; (try with_reducible rfl); done)); (try simp only [Act.put, List.setIfInBounds_toArray, List.set_cons_zero, List.set_cons_succ])))
          (refine txt_call (.bool (alikeS xn yn lab)) ?_ ?_ (by rfl) ?_ ?_ ?_; rotate_left; rotate_left; (focus (intro W; go_simp; (first | done | (refine And.intro ?_ ?_ <;> with_reducible rfl) | with_reducible rfl); done)); (focus (exact CH.out)); (try simp only [Act.put, List.setIfInBounds_toArray, List.set_cons_zero, List.set_cons_succ]))
          rw [← HAT.out, HAL.out]
          repeat (first | (refine txt_off (by rfl) ?_; (try simp only [Act.put, List.setIfInBounds_toArray, List.set_cons_zero, List.set_cons_succ])) | (refine txt_read ?_ (by rfl) ?_ ?_; rotate_left; (focus (intro W hW; have hWc := Fr.cq hW; clear hW; go_simp; (try with_reducible rfl); done)); (try simp only [Act.put, List.setIfInBounds_toArray, List.set_cons_zero, List.set_cons_succ])))
          refine txt_nil ?_
          intro W hW
          have D3 := hid (D2.out.step hW)
          clear hW d0 d1 d2 df dl e0 e1 e2 e3 e4 g0 g1 g2 g3 g4 dx tk ti
          go_wp2
          go_ret
          refine ⟨ret_bool ?_, D3.out.fr⟩
          unfold openAt
          rw [any_at k hlt (by rw [HAL.out, HQ1.out, HQ2.out]; simpa using hq)]
    · obtain rfl : k = i := by omega
      go_wp2
      go_ret
      refine ⟨ret_bool ?_, D2.out.fr⟩
      unfold openAt
      rw [any_upto HNO.out]

end Go.Proofs.YtgpliiepoimcbaaDoor
end
section
/- The walks of the reference's bad and reasonless. -/
namespace Go.Proofs.YtgpliiepoimcbaaDoor
open Go.RowKit
set_option maxRecDepth 100000

def lkBad (ns : List Node) (lk : List Lnk) (i : Nat) : Int := (lk[i]?).elim 0 (fun x =>
  if lbIn ns.length x = false then 5
  else if (lbAt ns.length lk i).getD x.a.toNat 0 = (lbAt ns.length lk i).getD x.b.toNat 0 then 6
  else if wAt ns x.a ≠ wAt ns x.b then 7 else 0)

set_option maxHeartbeats 4000000 in
theorem bad_any (sN sL sR : Value) (d : Dmp) (w : World) (hd : RdD NoB w sN sL sR d) (i : Nat) (hi : i < d.links.length) (hlen : d.nodes.length ≤ 1000000) (hll : d.links.length ≤ 1000000) :
    Calls Tryd.prog 46 #[dumpV sN sL sR, .int .i64 i] w fun e w' => e = .returned (.int .i64 (lkBad (nsOf d) d.links i)) ∧ Fr NoB w w' := by
  have D0 := hid (DbS.start hd)
  obtain ⟨p, c, hp⟩ := hd.nodes.form
  subst hp
  obtain ⟨pl, cl, hp⟩ := hd.links.form3
  subst hp
  clear hd
  obtain ⟨d0, d1, d2, df, dl⟩ := three_of D0.out.box
  obtain ⟨bl, ol, rfl, hxx, l0, l1, l2⟩ := D0.out.rd.links.lkK hi
  clear hxx
  have HX := hid (List.getElem?_eq_getElem hi)
  generalize d.links[i] = x at l0 l1 l2 HX
  unfold dumpV
  go_enter Tryd.func46, Tryd.ntmps46
  go_wp2_with fail
  refine (refIn_any _ _ _ p d.nodes.length c rfl x _).mono ?_
  rintro e w3 ⟨rfl, hf3⟩
  obtain ⟨w0, hw0⟩ : ∃ w0, w.alloc (.cells (dumpCells (.slice p d.nodes.length c) (.slice (some ⟨bl, ol, none⟩) d.links.length cl) sR) 26) = w0 := ⟨_, rfl⟩
  have hsz0 : w0.heap.size = w.heap.size + 1 := by rw [← hw0]; simp only [World.size_alloc]
  have D3 : Hid (DbS w (.slice p d.nodes.length c) (.slice (some ⟨bl, ol, none⟩) d.links.length cl) sR d w3) := D0.out.step (((Fr.refl NoB _).alloc _).step hf3)
  have B3 : Hid (w3.heap[w.heap.size + 1]? = some (.cells #[.int .i64 x.a, .int .i64 x.b, .int .i64 x.why] 50 (0, 0))) := by
    have hB := at_new w0 (.cells #[.int .i64 x.a, .int .i64 x.b, .int .i64 x.why] 50)
    rw [hsz0] at hB
    exact hf3.at (fun h => h) (by rw [← hw0] at hB; exact hB)
  clear hf3 hw0 hsz0 d0 d1 d2 df dl l0 l1 l2 D0
  by_cases hin : 0 ≤ x.a ∧ 0 ≤ x.b ∧ x.a < d.nodes.length ∧ x.b < d.nodes.length
  · have hlb : lbIn d.nodes.length x = true := by unfold lbIn; exact decide_eq_true hin
    have HLB := hid hlb
    rw [show decide (0 ≤ x.a ∧ 0 ≤ x.b ∧ x.a < d.nodes.length ∧ x.b < d.nodes.length) = true from decide_eq_true hin]
    obtain ⟨i0, i1, i2, i3⟩ := hin
    obtain ⟨d0, d1, d2, df, dl⟩ := three_of D3.out.box
    obtain ⟨x0, x1, x2, xf, xl⟩ := three_of B3.out
    clear hlb
    go_wp2_with fail
    refine (labels_any _ _ _ d _ D3.out.rd i (by omega) hlen hll).mono ?_
    rintro e w4 ⟨v, rfl, ho, hf⟩
    have D4 := hid (D3.out.step hf)
    have B4 := hid (hf.at (fun h => h) B3.out)
    have hrd := ho.rd (M := NoB) (fun _ _ h => h)
    obtain ⟨tp, tc, hv⟩ := hrd.form
    rw [lbAt_length] at hv
    subst hv
    clear hf ho d0 d1 d2 df dl x0 x1 x2 xf xl D3 B3
    obtain ⟨d0, d1, d2, df, dl⟩ := three_of D4.out.box
    obtain ⟨x0, x1, x2, xf, xl⟩ := three_of B4.out
    obtain ⟨xa, xb, xw⟩ := x
    simp only at i0 i1 i2 i3 x0 x1 x2 HLB HX B4
    obtain ⟨na, rfl⟩ : ∃ na : Nat, xa = na := ⟨xa.toNat, by omega⟩
    obtain ⟨nb, rfl⟩ : ∃ nb : Nat, xb = nb := ⟨xb.toNat, by omega⟩
    have hna : na < d.nodes.length := by omega
    have hnb : nb < d.nodes.length := by omega
    have hll2 := lbAt_length d.nodes.length d.links i
    obtain ⟨bt, ot, rfl, ta⟩ := hrd.cellK (k := na) (by omega)
    obtain ⟨bt', ot', hbb, tb⟩ := hrd.cellK (k := nb) (by omega)
    simp only [Option.some.injEq, Addr.mk.injEq, and_true] at hbb
    obtain ⟨rfl, rfl⟩ := hbb
    obtain ⟨bm, om, rfl, _, m1, _, _, _, _⟩ := D4.out.rd.nodes.nodeK hna
    obtain ⟨bm', om', hbb, _, n1, _, _, _, _⟩ := D4.out.rd.nodes.nodeK hnb
    simp only [Option.some.injEq, Addr.mk.injEq, and_true] at hbb
    obtain ⟨rfl, rfl⟩ := hbb
    have HWA := hid (wAt_of (d := d) (a := na) (x := d.nodes[na]) (by simp [hna]))
    have HWB := hid (wAt_of (d := d) (a := nb) (x := d.nodes[nb]) (by simp [hnb]))
    obtain ⟨L, hL⟩ : ∃ L, lbAt d.nodes.length d.links i = L := ⟨_, rfl⟩
    rw [hL] at hll2 hrd ta tb
    have HL := hid hL
    clear hL hrd hll2
    generalize d.nodes[na] = y at m1 HWA
    generalize d.nodes[nb] = z at n1 HWB
    obtain ⟨A, hA⟩ : ∃ A, L.getD na 0 = A := ⟨_, rfl⟩
    obtain ⟨B, hB⟩ : ∃ B, L.getD nb 0 = B := ⟨_, rfl⟩
    rw [hA] at ta
    rw [hB] at tb
    have HA := hid hA
    have HB := hid hB
    have dt := lt_of_cell ta
    have dm := lt_of_cell m1
    clear hA hB
    by_cases hq : A = B
    · have HQ := hid hq
      subst hq
      go_wp2
      refine region_txt (Fr NoB _) (by kernel_rfl) (by kernel_rfl) ((Fr.refl NoB _).drew) ?_
      repeat (first | (refine txt_off (by rfl) ?_; (try simp only [Act.put, List.setIfInBounds_toArray, List.set_cons_zero, List.set_cons_succ])) | (refine txt_read ?_ (by rfl) ?_ ?_; rotate_left; (focus (intro W hW; have hWc := Fr.cq hW; clear hW; go_simp; (try with_reducible rfl); done)); (try simp only [Act.put, List.setIfInBounds_toArray, List.set_cons_zero, List.set_cons_succ])))
      refine txt_nil ?_
      intro W hW
      have D5 := hid (D4.out.step hW)
      clear hW d0 d1 d2 df dl x0 x1 x2 xf xl ta tb m1 n1 dt dm
      go_wp2
      go_ret
      refine ⟨ret_int ?_, D5.out.fr⟩
      unfold lkBad
      rw [HX.out]
      simp only [Option.elim_some, nsOf_length, Int.toNat_natCast]
      rw [HLB.out, HL.out, HA.out, HB.out]
      simp
    · go_wp2
      refine region_txt (Fr NoB _) (by kernel_rfl) (by kernel_rfl) ((Fr.refl NoB _).drew) ?_
      repeat (first | (refine txt_off (by rfl) ?_; (try simp only [Act.put, List.setIfInBounds_toArray, List.set_cons_zero, List.set_cons_succ])) | (refine txt_read ?_ (by rfl) ?_ ?_; rotate_left; (focus (intro W hW; have hWc := Fr.cq hW; clear hW; go_simp; (try with_reducible rfl); done)); (try simp only [Act.put, List.setIfInBounds_toArray, List.set_cons_zero, List.set_cons_succ])))
      refine txt_nil ?_
      intro W hW
      have D5 := hid (D4.out.step hW)
      have B5 := hid (hW.at (fun h => h) B4.out)
      have m1 := hW.cf m1
      have n1 := hW.cf n1
      have dm := lt_of_cell m1
      clear hW d0 d1 d2 df dl x0 x1 x2 xf xl ta tb dt
      obtain ⟨d0, d1, d2, df, dl⟩ := three_of D5.out.box
      obtain ⟨x0, x1, x2, xf, xl⟩ := three_of B5.out
      by_cases hz : y.1.width = z.1.width
      · have hz' : (y.1.width != z.1.width) = false := by simpa using hz
        have HZ := hid hz
        clear hz
        go_wp2
        refine region_txt (Fr NoB _) (by kernel_rfl) (by kernel_rfl) ((Fr.refl NoB _).drew) ?_
        repeat (first | (refine txt_off (by rfl) ?_; (try simp only [Act.put, List.setIfInBounds_toArray, List.set_cons_zero, List.set_cons_succ])) | (refine txt_read ?_ (by rfl) ?_ ?_; rotate_left; (focus (intro W hW; have hWc := Fr.cq hW; clear hW; go_simp; (try with_reducible rfl); done)); (try simp only [Act.put, List.setIfInBounds_toArray, List.set_cons_zero, List.set_cons_succ])))
        refine txt_nil ?_
        intro W hW
        have D6 := hid (D5.out.step hW)
        clear hW d0 d1 d2 df dl x0 x1 x2 xf xl m1 n1 dm
        go_wp2
        go_ret
        refine ⟨ret_int ?_, D6.out.fr⟩
        unfold lkBad
        rw [HX.out]
        simp only [Option.elim_some, nsOf_length, Int.toNat_natCast]
        rw [HLB.out, HL.out, HA.out, HB.out, HWA.out, HWB.out, HZ.out]
        simp [hq]
      · have hz' : (y.1.width != z.1.width) = true := by simpa using hz
        have HZ := hid hz
        clear hz
        go_wp2
        refine region_txt (Fr NoB _) (by kernel_rfl) (by kernel_rfl) ((Fr.refl NoB _).drew) ?_
        repeat (first | (refine txt_off (by rfl) ?_; (try simp only [Act.put, List.setIfInBounds_toArray, List.set_cons_zero, List.set_cons_succ])) | (refine txt_read ?_ (by rfl) ?_ ?_; rotate_left; (focus (intro W hW; have hWc := Fr.cq hW; clear hW; go_simp; (try with_reducible rfl); done)); (try simp only [Act.put, List.setIfInBounds_toArray, List.set_cons_zero, List.set_cons_succ])))
        refine txt_nil ?_
        intro W hW
        have D6 := hid (D5.out.step hW)
        clear hW d0 d1 d2 df dl x0 x1 x2 xf xl m1 n1 dm
        go_wp2
        go_ret
        refine ⟨ret_int ?_, D6.out.fr⟩
        unfold lkBad
        rw [HX.out]
        simp only [Option.elim_some, nsOf_length, Int.toNat_natCast]
        rw [HLB.out, HL.out, HA.out, HB.out, HWA.out, HWB.out]
        simp [hq, HZ.out]
  · have hlb : lbIn d.nodes.length x = false := by unfold lbIn; exact decide_eq_false hin
    rw [show decide (0 ≤ x.a ∧ 0 ≤ x.b ∧ x.a < d.nodes.length ∧ x.b < d.nodes.length) = false from decide_eq_false hin]
    have HLB := hid hlb
    clear hlb hin
    go_wp2
    go_ret
    refine ⟨ret_int ?_, D3.out.fr⟩
    unfold lkBad
    rw [HX.out]
    simp only [Option.elim_some, nsOf_length]
    rw [HLB.out]; simp

def lkRless (ns : List Node) (lk : List Lnk) (i : Nat) : Bool := (lk[i]?).elim false (fun x =>
  lbIn ns.length x && (x.why == -1) && !alikeAt ns (lbAt ns.length lk i) x.a.toNat x.b.toNat)

set_option maxHeartbeats 4000000 in
theorem reasonless_any (sN sL sR : Value) (d : Dmp) (w : World) (hd : RdD NoB w sN sL sR d) (i : Nat) (hi : i < d.links.length) (hlen : d.nodes.length ≤ 1000000) (hll : d.links.length ≤ 1000000) (hla : ∀ x ∈ d.nodes, x.1.args.length ≤ 1000000)
    (hord : ∀ x ∈ d.nodes, ∀ y ∈ x.1.args, 0 ≤ y ∧ y < d.nodes.length) :
    Calls Tryd.prog 47 #[dumpV sN sL sR, .int .i64 i] w fun e w' => e = .returned (.bool (lkRless (nsOf d) d.links i)) ∧ Fr NoB w w' := by
  have D0 := hid (DbS.start hd)
  have HLA := hid hla
  have HORD := hid hord
  obtain ⟨p, c, hp⟩ := hd.nodes.form
  subst hp
  obtain ⟨pl, cl, hp⟩ := hd.links.form3
  subst hp
  clear hd hla hord
  obtain ⟨d0, d1, d2, df, dl⟩ := three_of D0.out.box
  obtain ⟨bl, ol, rfl, hxx, l0, l1, l2⟩ := D0.out.rd.links.lkK hi
  clear hxx
  have HX := hid (List.getElem?_eq_getElem hi)
  generalize d.links[i] = x at l0 l1 l2 HX
  unfold dumpV
  go_enter Tryd.func47, Tryd.ntmps47
  obtain ⟨w0, hw0⟩ : ∃ w0, w.alloc (.cells (dumpCells (.slice p d.nodes.length c) (.slice (some ⟨bl, ol, none⟩) d.links.length cl) sR) 26) = w0 := ⟨_, rfl⟩
  have hsz0 : w0.heap.size = w.heap.size + 1 := by rw [← hw0]; simp only [World.size_alloc]
  rw [hw0] at D0 d0 d1 d2 df dl l0 l1 l2
  go_wp2
  clear hw0
  have D1 := hid (D0.out.step ((Fr.refl NoB w0).alloc (.cells #[.int .i64 x.a, .int .i64 x.b, .int .i64 x.why] 50)))
  have B1 := hid (at_new w0 (.cells #[.int .i64 x.a, .int .i64 x.b, .int .i64 x.why] 50))
  obtain ⟨w1, hw1⟩ : ∃ w1, w0.alloc (.cells #[.int .i64 x.a, .int .i64 x.b, .int .i64 x.why] 50) = w1 := ⟨_, rfl⟩
  rw [hw1] at D1 B1
  rw [hw1]
  rw [hsz0] at B1
  clear hsz0 hw1 d0 d1 d2 df dl l0 l1 l2 D0
  obtain ⟨d0, d1, d2, df, dl⟩ := three_of D1.out.box
  obtain ⟨x0, x1, x2, xf, xl⟩ := three_of B1.out
  by_cases hin : 0 ≤ x.a ∧ 0 ≤ x.b ∧ x.a < d.nodes.length ∧ x.b < d.nodes.length
  · have HIN : Hid (decide (0 ≤ x.a ∧ 0 ≤ x.b ∧ x.a < d.nodes.length ∧ x.b < d.nodes.length) = true) := decide_eq_true hin
    by_cases hy : x.why = -1
    · obtain ⟨i0, i1, i2, i3⟩ := hin
      obtain ⟨xa, xb, xw⟩ := x
      simp only at i0 i1 i2 i3 x0 x1 x2 HIN HX B1 hy
      subst hy
      obtain ⟨na, rfl⟩ : ∃ na : Nat, xa = na := ⟨xa.toNat, by omega⟩
      obtain ⟨nb, rfl⟩ : ∃ nb : Nat, xb = nb := ⟨xb.toNat, by omega⟩
      have hna : na < d.nodes.length := by omega
      have hnb : nb < d.nodes.length := by omega
      obtain ⟨b, off, rfl, m0, m1, m2, m3, m4, hma⟩ := D1.out.rd.nodes.nodeK hna
      obtain ⟨b', off', hbb, n0, n1, n2, n3, n4, hnn⟩ := D1.out.rd.nodes.nodeK hnb
      simp only [Option.some.injEq, Addr.mk.injEq, and_true] at hbb
      obtain ⟨rfl, rfl⟩ := hbb
      have HAT := hid (alikeAt_of (lab := lbAt d.nodes.length d.links i) hna hnb)
      have oa := HORD.out _ (List.getElem_mem hna)
      have ob := HORD.out _ (List.getElem_mem hnb)
      have la := HLA.out _ (List.getElem_mem hna)
      generalize d.nodes[na] = y at m0 m1 m2 m3 m4 hma HAT oa la
      generalize d.nodes[nb] = z at n0 n1 n2 n3 n4 hnn HAT ob
      obtain ⟨yn, ys⟩ := y
      obtain ⟨zn, zs⟩ := z
      simp only at m0 m1 m2 m3 m4 hma HAT oa la n0 n1 n2 n3 n4 hnn ob
      obtain ⟨ay, cy, rfl⟩ := hma.form
      obtain ⟨az, cz, rfl⟩ := hnn.form
      have HA := hid hma
      have HB := hid hnn
      have OA := hid oa
      have OB := hid ob
      have HS : Hid (∀ W', Fr NoB w1 W' → W'.cell? ⟨w.heap.size, 0, none⟩ = some (.slice (some ⟨b, off, none⟩) d.nodes.length c) ∧ W'.cell? ⟨w.heap.size, 1, none⟩ = some (.slice (some ⟨bl, ol, none⟩) d.links.length cl) ∧ W'.cell? ⟨w.heap.size, 2, none⟩ = some sR ∧
          W'.cell? ⟨w.heap.size + 1, 0, none⟩ = some (.int .i64 na) ∧ W'.cell? ⟨w.heap.size + 1, 1, none⟩ = some (.int .i64 nb) ∧ W'.cell? ⟨w.heap.size + 1, 2, none⟩ = some (.int .i64 (-1)) ∧
          W'.cell? ⟨b, off + na * 5, none⟩ = some (.int .i64 yn.op) ∧ W'.cell? ⟨b, off + na * 5 + 1, none⟩ = some (.int .i64 yn.width) ∧ W'.cell? ⟨b, off + na * 5 + 2, none⟩ = some (.int .u64 yn.val) ∧ W'.cell? ⟨b, off + na * 5 + 3, none⟩ = some (.string yn.name) ∧ W'.cell? ⟨b, off + na * 5 + 4, none⟩ = some (.slice ay yn.args.length cy) ∧
          W'.cell? ⟨b, off + nb * 5, none⟩ = some (.int .i64 zn.op) ∧ W'.cell? ⟨b, off + nb * 5 + 1, none⟩ = some (.int .i64 zn.width) ∧ W'.cell? ⟨b, off + nb * 5 + 2, none⟩ = some (.int .u64 zn.val) ∧ W'.cell? ⟨b, off + nb * 5 + 3, none⟩ = some (.string zn.name) ∧ W'.cell? ⟨b, off + nb * 5 + 4, none⟩ = some (.slice az zn.args.length cz)) := fun W' h' =>
        ⟨h'.cf d0, h'.cf d1, h'.cf d2, h'.cf x0, h'.cf x1, h'.cf x2, h'.cf m0, h'.cf m1, h'.cf m2, h'.cf m3, h'.cf m4, h'.cf n0, h'.cf n1, h'.cf n2, h'.cf n3, h'.cf n4⟩
      clear hma hnn oa ob df dl xf xl
      go_region_held3 (fun W' => W'.cell? ⟨w.heap.size, 0, none⟩ = some (.slice (some ⟨b, off, none⟩) d.nodes.length c) ∧ W'.cell? ⟨w.heap.size, 1, none⟩ = some (.slice (some ⟨bl, ol, none⟩) d.links.length cl) ∧ W'.cell? ⟨w.heap.size, 2, none⟩ = some sR ∧
          W'.cell? ⟨w.heap.size + 1, 0, none⟩ = some (.int .i64 na) ∧ W'.cell? ⟨w.heap.size + 1, 1, none⟩ = some (.int .i64 nb) ∧ W'.cell? ⟨w.heap.size + 1, 2, none⟩ = some (.int .i64 (-1)) ∧
          W'.cell? ⟨b, off + na * 5, none⟩ = some (.int .i64 yn.op) ∧ W'.cell? ⟨b, off + na * 5 + 1, none⟩ = some (.int .i64 yn.width) ∧ W'.cell? ⟨b, off + na * 5 + 2, none⟩ = some (.int .u64 yn.val) ∧ W'.cell? ⟨b, off + na * 5 + 3, none⟩ = some (.string yn.name) ∧ W'.cell? ⟨b, off + na * 5 + 4, none⟩ = some (.slice ay yn.args.length cy) ∧
          W'.cell? ⟨b, off + nb * 5, none⟩ = some (.int .i64 zn.op) ∧ W'.cell? ⟨b, off + nb * 5 + 1, none⟩ = some (.int .i64 zn.width) ∧ W'.cell? ⟨b, off + nb * 5 + 2, none⟩ = some (.int .u64 zn.val) ∧ W'.cell? ⟨b, off + nb * 5 + 3, none⟩ = some (.string zn.name) ∧ W'.cell? ⟨b, off + nb * 5 + 4, none⟩ = some (.slice az zn.args.length cz)) (go_keep)
        (first
          | (go_at_call 24; have X := refIn_any (.slice (some ⟨b, off, none⟩) d.nodes.length c) (.slice (some ⟨bl, ol, none⟩) d.links.length cl) sR (some ⟨b, off, none⟩) d.nodes.length c rfl ⟨na, nb, -1⟩ w1.drew; (with_reducible refine X.mono ?_); clear X; rintro e w3 ⟨rfl, hf3⟩; rw [HIN.out]; have F3 : Hid (Fr NoB w1 w3) := (Fr.refl NoB w1).drew.step hf3; clear hf3 d0 d1 d2 x0 x1 x2 m0 m1 m2 m3 m4 n0 n1 n2 n3 n4; obtain ⟨d0, d1, d2, x0, x1, x2, m0, m1, m2, m3, m4, n0, n1, n2, n3, n4⟩ := HS.out w3 F3.out)
          | (go_at_call 11; have X := labels_any (.slice (some ⟨b, off, none⟩) d.nodes.length c) (.slice (some ⟨bl, ol, none⟩) d.links.length cl) sR d w3 (D1.out.step F3.out).rd i (by omega) hlen hll; (with_reducible refine X.mono ?_); clear X; rintro e w4 ⟨v, rfl, ho4, hf4⟩; have hrd := ho4.rd (M := NoB) (fun _ _ h => h); obtain ⟨tp, tc, hv⟩ := hrd.form; rw [lbAt_length] at hv; subst hv; have HR4 := hid hrd; have F4 := hid (F3.out.step hf4); clear hrd ho4 hf4 d0 d1 d2 x0 x1 x2 m0 m1 m2 m3 m4 n0 n1 n2 n3 n4; obtain ⟨d0, d1, d2, x0, x1, x2, m0, m1, m2, m3, m4, n0, n1, n2, n3, n4⟩ := HS.out w4 F4.out)
          | (go_at_call 45; have X := alike_any yn zn (.slice ay yn.args.length cy) (.slice az zn.args.length cz) (.slice tp d.nodes.length tc) (lbAt d.nodes.length d.links i) w4 (HA.out.fr F4.out (fun _ _ h => h)) (HB.out.fr F4.out (fun _ _ h => h)) HR4.out (by rw [lbAt_length]; exact OA.out) (by rw [lbAt_length]; exact OB.out) la; (with_reducible refine X.mono ?_); clear X; rintro e w5 ⟨rfl, hf5⟩; rw [← HAT.out]; have F5 := hid (F4.out.step hf5); clear hf5 d0 d1 d2 x0 x1 x2 m0 m1 m2 m3 m4 n0 n1 n2 n3 n4; obtain ⟨d0, d1, d2, x0, x1, x2, m0, m1, m2, m3, m4, n0, n1, n2, n3, n4⟩ := HS.out w5 F5.out))
      have D5 := hid (D1.out.step F5.out)
      clear d0 d1 d2 x0 x1 x2 m0 m1 m2 m3 m4 n0 n1 n2 n3 n4
      go_wp2
      go_ret
      refine ⟨ret_bool ?_, D5.out.fr⟩
      unfold lkRless
      rw [HX.out]
      have h8 : lbIn d.nodes.length ⟨na, nb, -1⟩ = true := HIN.out
      simp [nsOf_length, h8]
    · have hy' : (x.why == -1) = false := by simpa using hy
      have HY := hid hy'
      clear hin hy
      refine region_txt (Fr NoB _) (by kernel_rfl) (by kernel_rfl) ((Fr.refl NoB _).drew) ?_
      repeat (first | (refine txt_off (by rfl) ?_; (try simp only [Act.put, List.setIfInBounds_toArray, List.set_cons_zero, List.set_cons_succ])) | (refine txt_read ?_ (by rfl) ?_ ?_; rotate_left; (focus (intro W hW; have hWc := Fr.cq hW; clear hW; go_simp; (try with_reducible rfl); done)); (try simp only [Act.put, List.setIfInBounds_toArray, List.set_cons_zero, List.set_cons_succ])))
      (refine txt_call (.bool true) ?_ ?_ (by rfl) ?_ ?_ ?_; rotate_left; rotate_left; (focus (intro W; go_simp; (first | done | (refine And.intro ?_ ?_ <;> with_reducible rfl) | with_reducible rfl); done)); (focus (exact (fun W hW => (refIn_any _ _ _ p d.nodes.length c rfl x W).mono (fun e W' h => ⟨h.1.trans (by rw [HIN.out]), hW.step h.2⟩)))); (try simp only [Act.put, List.setIfInBounds_toArray, List.set_cons_zero, List.set_cons_succ]))
      repeat (first | (refine txt_off (by rfl) ?_; (try simp only [Act.put, List.setIfInBounds_toArray, List.set_cons_zero, List.set_cons_succ])) | (refine txt_read ?_ (by rfl) ?_ ?_; rotate_left; (focus (intro W hW; have hWc := Fr.cq hW; clear hW; go_simp; (try with_reducible rfl); done)); (try simp only [Act.put, List.setIfInBounds_toArray, List.set_cons_zero, List.set_cons_succ])))
      refine txt_nil ?_
      intro W hW
      have D2 := hid (D1.out.step hW)
      clear hW d0 d1 d2 df dl x0 x1 x2 xf xl hy'
      go_wp2
      go_ret
      refine ⟨ret_bool ?_, D2.out.fr⟩
      unfold lkRless
      rw [HX.out]
      simp [HY.out]
  · have HIN : Hid (decide (0 ≤ x.a ∧ 0 ≤ x.b ∧ x.a < d.nodes.length ∧ x.b < d.nodes.length) = false) := decide_eq_false hin
    clear hin
    refine region_txt (Fr NoB _) (by kernel_rfl) (by kernel_rfl) ((Fr.refl NoB _).drew) ?_
    repeat (first | (refine txt_off (by rfl) ?_; (try simp only [Act.put, List.setIfInBounds_toArray, List.set_cons_zero, List.set_cons_succ])) | (refine txt_read ?_ (by rfl) ?_ ?_; rotate_left; (focus (intro W hW; have hWc := Fr.cq hW; clear hW; go_simp; (try with_reducible rfl); done)); (try simp only [Act.put, List.setIfInBounds_toArray, List.set_cons_zero, List.set_cons_succ])))
    (refine txt_call (.bool false) ?_ ?_ (by rfl) ?_ ?_ ?_; rotate_left; rotate_left; (focus (intro W; go_simp; (first | done | (refine And.intro ?_ ?_ <;> with_reducible rfl) | with_reducible rfl); done)); (focus (exact (fun W hW => (refIn_any _ _ _ p d.nodes.length c rfl x W).mono (fun e W' h => ⟨h.1.trans (by rw [HIN.out]), hW.step h.2⟩)))); (try simp only [Act.put, List.setIfInBounds_toArray, List.set_cons_zero, List.set_cons_succ]))
    repeat (first | (refine txt_off (by rfl) ?_; (try simp only [Act.put, List.setIfInBounds_toArray, List.set_cons_zero, List.set_cons_succ])) | (refine txt_read ?_ (by rfl) ?_ ?_; rotate_left; (focus (intro W hW; have hWc := Fr.cq hW; clear hW; go_simp; (try with_reducible rfl); done)); (try simp only [Act.put, List.setIfInBounds_toArray, List.set_cons_zero, List.set_cons_succ])))
    refine txt_nil ?_
    intro W hW
    have D2 := hid (D1.out.step hW)
    clear hW d0 d1 d2 df dl x0 x1 x2 xf xl
    go_wp2
    go_ret
    refine ⟨ret_bool ?_, D2.out.fr⟩
    unfold lkRless
    rw [HX.out]
    have h8 : lbIn (nsOf d).length x = false := by rw [nsOf_length]; exact HIN.out
    simp [h8]

end Go.Proofs.YtgpliiepoimcbaaDoor
end
section
/- Rows of flaws; the walk of the reference's form. -/
namespace Go.Proofs.YtgpliiepoimcbaaDoor
open Go.RowKit
set_option maxRecDepth 100000

structure Flw where
  kind : Int
  pos : Int
deriving DecidableEq
def flCells (x : Flw) : List Value := [.int .i64 x.kind, .int .i64 x.pos]
theorem flLen (x : Flw) : (flCells x).length = 2 := rfl
theorem infoFlaw : (Tryd.prog.info? 42).map (fun i => (i.zero, i.size, i.bytes)) = some (some (.agg #[.int .i64 0, .int .i64 0]), 2, 16) := by kernel_rfl
abbrev OwnF (B : Nat) (w : World) (v : Value) (l : List Flw) : Prop := OwnE flCells 2 42 B w v l
/-- append of one flaw. -/
theorem ap_flaw (w : World) {ops : Array Oper} {rest : List Oper} {o : Oper} {a : Act} {Q : Exit → Act → World → Prop} (hg : o.guard = none) (s x : Operand)
    (ho : o.op = .call { callee := .builtin .append, args := #[s, x], argTypes := #[30, 30] }) (base : Nat) (v : Value) (l : List Flw) (hs : a.eval s = v) (hown : OwnF base w v l)
    (u : Value) (m : List Flw) (hx : a.eval x = u) (hrd : RdE flCells NoB w u m) (hlen : l.length + m.length ≤ 1000000000) (hbase : base ≤ w.heap.size)
    (h : ∀ p q w', OwnF base w' (.slice p (l ++ m).length q) (l ++ m) → w.grownBy w' v.ownBlock → wpList Tryd.prog ops Q rest (a.put o.dst (.slice p (l ++ m).length q)) w') : wpList Tryd.prog ops Q (o :: rest) a w := by
  refine ap_rows (z := .agg #[.int .i64 0, .int .i64 0]) (bytes := 16) w flLen (by decide) Tryd.underlying30 infoFlaw rfl hg s x ho base v l hs hown NoB u m hx hrd (fun y hy u hu => ?_) (by omega) (by omega) hbase (fun v' w' h1 h2 _ => ?_)
  · simp only [flCells, List.mem_cons, List.not_mem_nil, or_false] at hu
    rcases hu with rfl | rfl <;> rfl
  · obtain ⟨p, q, hv⟩ := OwnE.form h1
    subst hv
    exact h p q w' h1 h2
/-- A literal row of one flaw. -/
theorem rdF_lit {w : World} {k x : Int} {e : TypeId} {b : Nat} (hb : b = w.heap.size) : RdE flCells NoB (w.alloc (.cells #[.int .i64 k, .int .i64 x] e)) (.slice (some ⟨b, 0, none⟩) 1 1) [⟨k, x⟩] := by
  subst hb
  refine .inr ⟨w.heap.size, 0, 1, rfl, by simp, fun h => h, Nat.le_refl _, ?_⟩
  have hb := at_new w (.cells #[.int .i64 k, .int .i64 x] e)
  intro j u hj
  rw [Nat.zero_add]
  match j, hj with
  | 0, hj => simp [flatE, flCells] at hj; subst hj; (unfold World.cell?; simp only [hb]; rfl)
  | 1, hj => simp [flatE, flCells] at hj; subst hj; (unfold World.cell?; simp only [hb]; rfl)
  | j + 2, hj => simp [flatE, flCells] at hj

def fls (kind : Int) (P : Nat → Bool) (k : Nat) : List Flw := ((List.range k).filter P).map (fun i : Nat => ⟨kind, i⟩)
theorem fls_le (kind : Int) (P : Nat → Bool) (k : Nat) : (fls kind P k).length ≤ k := by
  unfold fls
  rw [List.length_map]
  exact Nat.le_trans (List.length_filter_le _ _) (by simp)
theorem fls_on {kind : Int} {P : Nat → Bool} {k : Nat} (h : P k = true) : fls kind P (k + 1) = fls kind P k ++ [⟨kind, k⟩] := by
  unfold fls
  rw [List.range_succ, List.filter_append, List.map_append]
  simp [h]
theorem fls_off {kind : Int} {P : Nat → Bool} {k : Nat} (h : P k = false) : fls kind P (k + 1) = fls kind P k := by
  unfold fls
  rw [List.range_succ, List.filter_append, List.map_append]
  simp [h]
def formF (ns : List Node) : List Flw := fls 1 (malfAt ns) ns.length ++ fls 2 (disAt ns) ns.length ++ fls 3 (wideAt ns) ns.length

set_option maxHeartbeats 4000000 in
theorem form_any (sN sL sR : Value) (d : Dmp) (w : World) (hd : RdD NoB w sN sL sR d) (hlen : d.nodes.length ≤ 1000000) (hla : ∀ x ∈ d.nodes, x.1.args.length ≤ 1000000) (hok : ∀ x ∈ d.nodes, 0 ≤ x.1.val ∧ x.1.val < 18446744073709551616) :
    Calls Tryd.prog 26 #[dumpV sN sL sR] w fun e w' => ∃ v, e = .returned v ∧ OwnF w.heap.size w' v (formF (nsOf d)) ∧ Fr NoB w w' := by
  have D0 := hid (DbS.start hd)
  have HLA := hid hla
  have HOK := hid hok
  obtain ⟨p, c, hp⟩ := hd.nodes.form
  subst hp
  clear hd hla hok
  obtain ⟨w0, hw0⟩ : ∃ w0, w.alloc (.cells (dumpCells (.slice p d.nodes.length c) sL sR) 26) = w0 := ⟨_, rfl⟩
  have hsz0 : w0.heap.size = w.heap.size + 1 := by rw [← hw0]; simp only [World.size_alloc]
  rw [hw0] at D0
  unfold dumpV
  go_enter Tryd.func26, Tryd.ntmps26
  go_wp2
  clear hw0
  have ho0 : OwnF w0.heap.size (w0.alloc (.cells #[] 42)) (.slice (some ⟨w.heap.size + 1, 0, none⟩) 0 0) [] := by
    have h := World.ownsRow_lit (base := w0.heap.size) (e := 42) (size := 2) w0 #[] 0 (Nat.le_refl _) (by unfold maxLen; omega) (by simp)
    rw [hsz0] at h ⊢
    simpa [OwnE, flatE] using h
  have HO := hid ho0
  have HF : Hid (Fr NoB w0 (w0.alloc (.cells #[] 42))) := (Fr.refl _ _).alloc _
  clear ho0
  go_loopw [3, 4] (fun t j wr => ∃ (k : Nat), k ≤ d.nodes.length ∧ j = .int .i64 k ∧ Fr NoB w0 wr ∧ OwnF w0.heap.size wr t (([]) ++ fls 1 (malfAt (nsOf d)) k)) (fun _ j _ => d.nodes.length - (intOf j).toNat)
  case atStart => exact ⟨0, Nat.zero_le _, rfl, HF.out, by simpa [fls] using HO.out⟩
  case round =>
    obtain ⟨k, hk, rfl, hf, ho⟩ := hrel
    have hpl : (([]) ++ fls 1 (malfAt (nsOf d)) k).length ≤ 3000000 := by
      have h1 := fls_le 1 (malfAt (nsOf d)) d.nodes.length
      have h2 := fls_le 2 (disAt (nsOf d)) d.nodes.length
      have h3 := fls_le 1 (malfAt (nsOf d)) k
      simp only [List.length_append, List.length_nil]
      omega
    have HON := hid (@fls_on 1 (malfAt (nsOf d)) k)
    have HOFF := hid (@fls_off 1 (malfAt (nsOf d)) k)
    obtain ⟨LL, hLL⟩ : ∃ LL, ([]) ++ fls 1 (malfAt (nsOf d)) k = LL := ⟨_, rfl⟩
    rw [hLL] at ho hpl
    have HLL := hid hLL
    clear hLL
    obtain ⟨tp, tc, hv⟩ := OwnE.form ho
    subst hv
    have F := hid hf
    have O := hid ho
    have D1 := hid (D0.out.step hf)
    obtain ⟨d0, d1, d2, df, dl⟩ := three_of D1.out.box
    clear hf ho HO HF
    by_cases hlt : k < d.nodes.length
    · go_wp2_with fail
      refine (refMalfAt _ _ _ d _ D1.out.rd k hlt hlen).mono ?_
      rintro e w3 ⟨rfl, hf3⟩
      have F3 := hid (F.out.step hf3)
      have O3 := hid (OwnE.step O.out hf3)
      clear hf3 d0 d1 d2 df dl
      have hB : w0.heap.size ≤ w3.heap.size := F3.out.size
      cases hm : malfAt (nsOf d) k with
      | true =>
        have HM := hid hm
        clear hm
        go_wp2_with (at_builtin; refine ap_flaw _ rfl _ _ rfl w0.heap.size (.slice tp LL.length tc) LL rfl (OwnE.step O3.out ((Fr.refl NoB w3).alloc _)) _ [⟨1, k⟩] rfl (rdF_lit rfl) ?_ ?_ ?_; (simp; omega); (simp only [World.size_alloc]; omega); intro p6 q6 w6 ho6 hg6; have F6 : Hid (Fr NoB w0 w6) := Fr.grown (F3.out.alloc _) hg6 (fun j hj hj2 => by have := (OwnE.lt O3.out hj).1; omega); have O6 := hid ho6; clear ho6 hg6)
        go_roundw
        case rel => exact ⟨k + 1, by omega, by go_num, F6.out, by rw [HON.out HM.out, ← List.append_assoc, HLL.out]; simpa only [List.length_append, List.length_singleton] using O6.out⟩
        case measure => simp [intOf]; omega
      | false =>
        have HM := hid hm
        clear hm
        go_wp2
        go_roundw
        case rel => exact ⟨k + 1, by omega, by go_num, F3.out, by rw [HOFF.out HM.out, HLL.out]; exact O3.out⟩
        case measure => simp [intOf]; omega
    · obtain rfl : k = d.nodes.length := by omega
      have HF := F
      have HO := O
      have HLLp := HLL
      clear F O HLL HON HOFF hpl
      go_wp2
      go_loopw [3, 5] (fun t j wr => ∃ (k : Nat), k ≤ d.nodes.length ∧ j = .int .i64 k ∧ Fr NoB w0 wr ∧ OwnF w0.heap.size wr t ((fls 1 (malfAt (nsOf d)) d.nodes.length) ++ fls 2 (disAt (nsOf d)) k)) (fun _ j _ => d.nodes.length - (intOf j).toNat)
      case atStart => exact ⟨0, Nat.zero_le _, rfl, HF.out, by rw [show fls 2 (disAt (nsOf d)) 0 = [] from rfl, List.append_nil, show fls 1 (malfAt (nsOf d)) d.nodes.length = [] ++ fls 1 (malfAt (nsOf d)) d.nodes.length from rfl, HLLp.out]; exact HO.out⟩
      case round =>
        obtain ⟨k, hk, rfl, hf, ho⟩ := hrel
        have hpl : ((fls 1 (malfAt (nsOf d)) d.nodes.length) ++ fls 2 (disAt (nsOf d)) k).length ≤ 3000000 := by
          have h1 := fls_le 1 (malfAt (nsOf d)) d.nodes.length
          have h2 := fls_le 2 (disAt (nsOf d)) d.nodes.length
          have h3 := fls_le 2 (disAt (nsOf d)) k
          simp only [List.length_append, List.length_nil]
          omega
        have HON := hid (@fls_on 2 (disAt (nsOf d)) k)
        have HOFF := hid (@fls_off 2 (disAt (nsOf d)) k)
        obtain ⟨LL, hLL⟩ : ∃ LL, (fls 1 (malfAt (nsOf d)) d.nodes.length) ++ fls 2 (disAt (nsOf d)) k = LL := ⟨_, rfl⟩
        rw [hLL] at ho hpl
        have HLL := hid hLL
        clear hLL
        obtain ⟨tp, tc, hv⟩ := OwnE.form ho
        subst hv
        have F := hid hf
        have O := hid ho
        have D1 := hid (D0.out.step hf)
        obtain ⟨d0, d1, d2, df, dl⟩ := three_of D1.out.box
        clear hf ho HO HF
        by_cases hlt : k < d.nodes.length
        · go_wp2_with fail
          refine (refDisAt _ _ _ d _ D1.out.rd k hlt HLA.out).mono ?_
          rintro e w3 ⟨rfl, hf3⟩
          have F3 := hid (F.out.step hf3)
          have O3 := hid (OwnE.step O.out hf3)
          clear hf3 d0 d1 d2 df dl
          have hB : w0.heap.size ≤ w3.heap.size := F3.out.size
          cases hm : disAt (nsOf d) k with
          | true =>
            have HM := hid hm
            clear hm
            go_wp2_with (at_builtin; refine ap_flaw _ rfl _ _ rfl w0.heap.size (.slice tp LL.length tc) LL rfl (OwnE.step O3.out ((Fr.refl NoB w3).alloc _)) _ [⟨2, k⟩] rfl (rdF_lit rfl) ?_ ?_ ?_; (simp; omega); (simp only [World.size_alloc]; omega); intro p6 q6 w6 ho6 hg6; have F6 : Hid (Fr NoB w0 w6) := Fr.grown (F3.out.alloc _) hg6 (fun j hj hj2 => by have := (OwnE.lt O3.out hj).1; omega); have O6 := hid ho6; clear ho6 hg6)
            go_roundw
            case rel => exact ⟨k + 1, by omega, by go_num, F6.out, by rw [HON.out HM.out, ← List.append_assoc, HLL.out]; simpa only [List.length_append, List.length_singleton] using O6.out⟩
            case measure => simp [intOf]; omega
          | false =>
            have HM := hid hm
            clear hm
            go_wp2
            go_roundw
            case rel => exact ⟨k + 1, by omega, by go_num, F3.out, by rw [HOFF.out HM.out, HLL.out]; exact O3.out⟩
            case measure => simp [intOf]; omega
        · obtain rfl : k = d.nodes.length := by omega
          have HF := F
          have HO := O
          have HLLp := HLL
          clear F O HLL HON HOFF hpl
          go_wp2
          go_loopw [3, 6] (fun t j wr => ∃ (k : Nat), k ≤ d.nodes.length ∧ j = .int .i64 k ∧ Fr NoB w0 wr ∧ OwnF w0.heap.size wr t ((fls 1 (malfAt (nsOf d)) d.nodes.length ++ fls 2 (disAt (nsOf d)) d.nodes.length) ++ fls 3 (wideAt (nsOf d)) k)) (fun _ j _ => d.nodes.length - (intOf j).toNat)
          case atStart => exact ⟨0, Nat.zero_le _, rfl, HF.out, by rw [show fls 3 (wideAt (nsOf d)) 0 = [] from rfl, List.append_nil, HLLp.out]; exact HO.out⟩
          case round =>
            obtain ⟨k, hk, rfl, hf, ho⟩ := hrel
            have hpl : ((fls 1 (malfAt (nsOf d)) d.nodes.length ++ fls 2 (disAt (nsOf d)) d.nodes.length) ++ fls 3 (wideAt (nsOf d)) k).length ≤ 3000000 := by
              have h1 := fls_le 1 (malfAt (nsOf d)) d.nodes.length
              have h2 := fls_le 2 (disAt (nsOf d)) d.nodes.length
              have h3 := fls_le 3 (wideAt (nsOf d)) k
              simp only [List.length_append, List.length_nil]
              omega
            have HON := hid (@fls_on 3 (wideAt (nsOf d)) k)
            have HOFF := hid (@fls_off 3 (wideAt (nsOf d)) k)
            obtain ⟨LL, hLL⟩ : ∃ LL, (fls 1 (malfAt (nsOf d)) d.nodes.length ++ fls 2 (disAt (nsOf d)) d.nodes.length) ++ fls 3 (wideAt (nsOf d)) k = LL := ⟨_, rfl⟩
            rw [hLL] at ho hpl
            have HLL := hid hLL
            clear hLL
            obtain ⟨tp, tc, hv⟩ := OwnE.form ho
            subst hv
            have F := hid hf
            have O := hid ho
            have D1 := hid (D0.out.step hf)
            obtain ⟨d0, d1, d2, df, dl⟩ := three_of D1.out.box
            clear hf ho HO HF
            by_cases hlt : k < d.nodes.length
            · go_wp2_with fail
              refine (wide_any _ _ _ d _ D1.out.rd k hlt hlen HLA.out HOK.out).mono ?_
              rintro e w3 ⟨rfl, hf3⟩
              have F3 := hid (F.out.step hf3)
              have O3 := hid (OwnE.step O.out hf3)
              clear hf3 d0 d1 d2 df dl
              have hB : w0.heap.size ≤ w3.heap.size := F3.out.size
              cases hm : wideAt (nsOf d) k with
              | true =>
                have HM := hid hm
                clear hm
                go_wp2_with (at_builtin; refine ap_flaw _ rfl _ _ rfl w0.heap.size (.slice tp LL.length tc) LL rfl (OwnE.step O3.out ((Fr.refl NoB w3).alloc _)) _ [⟨3, k⟩] rfl (rdF_lit rfl) ?_ ?_ ?_; (simp; omega); (simp only [World.size_alloc]; omega); intro p6 q6 w6 ho6 hg6; have F6 : Hid (Fr NoB w0 w6) := Fr.grown (F3.out.alloc _) hg6 (fun j hj hj2 => by have := (OwnE.lt O3.out hj).1; omega); have O6 := hid ho6; clear ho6 hg6)
                go_roundw
                case rel => exact ⟨k + 1, by omega, by go_num, F6.out, by rw [HON.out HM.out, ← List.append_assoc, HLL.out]; simpa only [List.length_append, List.length_singleton] using O6.out⟩
                case measure => simp [intOf]; omega
              | false =>
                have HM := hid hm
                clear hm
                go_wp2
                go_roundw
                case rel => exact ⟨k + 1, by omega, by go_num, F3.out, by rw [HOFF.out HM.out, HLL.out]; exact O3.out⟩
                case measure => simp [intOf]; omega
            · obtain rfl : k = d.nodes.length := by omega
              go_wp2
              go_ret
              refine ⟨_, rfl, ?_, D1.out.fr⟩
              unfold formF
              rw [nsOf_length, HLL.out]
              exact OwnE.base O.out (by omega)

end Go.Proofs.YtgpliiepoimcbaaDoor
end
section
/- The walk of the reference's links. -/
namespace Go.Proofs.YtgpliiepoimcbaaDoor
open Go.RowKit
set_option maxRecDepth 100000

def lkPre (ns : List Node) (lk : List Lnk) : Nat → List Flw
  | 0 => []
  | n + 1 => lkPre ns lk n ++ fls ((5 + n : Nat) : Int) (fun i => lkBad ns lk i == ((5 + n : Nat) : Int)) lk.length
theorem lkPre_succ (ns : List Node) (lk : List Lnk) {q : Nat} (h : 5 ≤ q) : lkPre ns lk (q + 1 - 5) = lkPre ns lk (q - 5) ++ fls (q : Int) (fun i => lkBad ns lk i == (q : Int)) lk.length := by
  obtain ⟨n, rfl⟩ : ∃ n, q = 5 + n := ⟨q - 5, by omega⟩
  rw [show 5 + n + 1 - 5 = n + 1 by omega, show 5 + n - 5 = n by omega]
  rfl
theorem lkPre_le (ns : List Node) (lk : List Lnk) : ∀ n, (lkPre ns lk n).length ≤ n * lk.length
  | 0 => by simp [lkPre]
  | n + 1 => by
    have h1 := lkPre_le ns lk n
    have h2 := fls_le ((5 + n : Nat) : Int) (fun i => lkBad ns lk i == ((5 + n : Nat) : Int)) lk.length
    unfold lkPre
    rw [List.length_append, Nat.succ_mul]
    omega
def linksF (ns : List Node) (lk : List Lnk) : List Flw := lkPre ns lk 3 ++ fls 8 (lkRless ns lk) lk.length

set_option maxHeartbeats 4000000 in
theorem refLinks_any (sN sL sR : Value) (d : Dmp) (w : World) (hd : RdD NoB w sN sL sR d) (hlen : d.nodes.length ≤ 1000000) (hll : d.links.length ≤ 1000000) (hla : ∀ x ∈ d.nodes, x.1.args.length ≤ 1000000)
    (hord : ∀ x ∈ d.nodes, ∀ y ∈ x.1.args, 0 ≤ y ∧ y < d.nodes.length) :
    Calls Tryd.prog 28 #[dumpV sN sL sR] w fun e w' => ∃ v, e = .returned v ∧ OwnF w.heap.size w' v (linksF (nsOf d) d.links) ∧ Fr NoB w w' := by
  have D0 := hid (DbS.start hd)
  have HLA := hid hla
  have HORD := hid hord
  obtain ⟨pl, cl, hp⟩ := hd.links.form3
  subst hp
  clear hd hla hord
  obtain ⟨w0, hw0⟩ : ∃ w0, w.alloc (.cells (dumpCells sN (.slice pl d.links.length cl) sR) 26) = w0 := ⟨_, rfl⟩
  have hsz0 : w0.heap.size = w.heap.size + 1 := by rw [← hw0]; simp only [World.size_alloc]
  rw [hw0] at D0
  unfold dumpV
  go_enter Tryd.func28, Tryd.ntmps28
  go_wp2
  clear hw0
  have ho0 : OwnF w0.heap.size (w0.alloc (.cells #[] 42)) (.slice (some ⟨w.heap.size + 1, 0, none⟩) 0 0) [] := by
    have h := World.ownsRow_lit (base := w0.heap.size) (e := 42) (size := 2) w0 #[] 0 (Nat.le_refl _) (by unfold maxLen; omega) (by simp)
    rw [hsz0] at h ⊢
    simpa [OwnE, flatE] using h
  have HO := hid ho0
  have HF : Hid (Fr NoB w0 (w0.alloc (.cells #[] 42))) := (Fr.refl _ _).alloc _
  clear ho0
  go_loopw [3, 4] (fun t j wr => ∃ (q : Nat), 5 ≤ q ∧ q ≤ 8 ∧ j = .int .i64 q ∧ Fr NoB w0 wr ∧ OwnF w0.heap.size wr t (lkPre (nsOf d) d.links (q - 5))) (fun _ j _ => 8 - (intOf j).toNat)
  case atStart => exact ⟨5, by omega, by omega, rfl, HF.out, HO.out⟩
  case round =>
    obtain ⟨q, hq5, hq8, rfl, hf, ho⟩ := hrel
    have hpl := lkPre_le (nsOf d) d.links (q - 5)
    have hpl : (lkPre (nsOf d) d.links (q - 5)).length ≤ 3000000 := Nat.le_trans hpl (Nat.le_trans (Nat.mul_le_mul (by omega : q - 5 ≤ 3) hll) (by omega))
    have HPS := hid (lkPre_succ (nsOf d) d.links hq5)
    have HPL := hid hpl
    obtain ⟨PP, hPP⟩ : ∃ PP, lkPre (nsOf d) d.links (q - 5) = PP := ⟨_, rfl⟩
    have HPP := hid hPP
    rw [hPP] at ho HPS HPL
    obtain ⟨tp, tc, hv⟩ := OwnE.form ho
    subst hv
    have F := hid hf
    have O := hid ho
    clear hf ho HO HF hpl hPP
    by_cases hq : q ≤ 7
    · have hqi : (q : Int) ≤ 7 := by omega
      go_wp2
      go_loopw [3, 5] (fun t j wx => ∃ (k : Nat), k ≤ d.links.length ∧ j = .int .i64 k ∧ Fr NoB w0 wx ∧ OwnF w0.heap.size wx t (PP ++ fls (q : Int) (fun i => lkBad (nsOf d) d.links i == (q : Int)) k)) (fun _ j _ => d.links.length - (intOf j).toNat)
      case atStart => exact ⟨0, Nat.zero_le _, rfl, F.out, by rw [show fls (q : Int) (fun i => lkBad (nsOf d) d.links i == (q : Int)) 0 = [] from rfl, List.append_nil]; exact O.out⟩
      case round =>
        obtain ⟨k, hk, rfl, hf, ho⟩ := hrel
        have hpl : (PP ++ fls (q : Int) (fun i => lkBad (nsOf d) d.links i == (q : Int)) k).length ≤ 4000000 := by
          have h3 := fls_le (q : Int) (fun i => lkBad (nsOf d) d.links i == (q : Int)) k
          have h4 := HPL.out
          rw [List.length_append]
          omega
        have HON := hid (@fls_on (q : Int) (fun i => lkBad (nsOf d) d.links i == (q : Int)) k)
        have HOFF := hid (@fls_off (q : Int) (fun i => lkBad (nsOf d) d.links i == (q : Int)) k)
        obtain ⟨LL, hLL⟩ : ∃ LL, PP ++ fls (q : Int) (fun i => lkBad (nsOf d) d.links i == (q : Int)) k = LL := ⟨_, rfl⟩
        rw [hLL] at ho hpl
        have HLL := hid hLL
        clear hLL
        obtain ⟨tp2, tc2, hv⟩ := OwnE.form ho
        subst hv
        have F1 := hid hf
        have O1 := hid ho
        have D1 := hid (D0.out.step hf)
        obtain ⟨d0, d1, d2, df, dl⟩ := three_of D1.out.box
        clear hf ho O F
        by_cases hlt : k < d.links.length
        · go_wp2_with fail
          refine (bad_any _ _ _ d _ D1.out.rd k hlt hlen hll).mono ?_
          rintro e w3 ⟨rfl, hf3⟩
          have F3 := hid (F1.out.step hf3)
          have O3 := hid (OwnE.step O1.out hf3)
          clear hf3 d0 d1 d2 df dl
          have hB : w0.heap.size ≤ w3.heap.size := F3.out.size
          cases hm : (lkBad (nsOf d) d.links k == (q : Int)) with
          | true =>
            have HM := hid hm
            go_wp2_with (at_builtin; refine ap_flaw _ rfl _ _ rfl w0.heap.size (.slice tp2 LL.length tc2) LL rfl (OwnE.step O3.out ((Fr.refl NoB w3).alloc _)) _ [⟨(q : Int), k⟩] rfl (rdF_lit rfl) ?_ ?_ ?_; (simp; omega); (simp only [World.size_alloc]; omega); intro p6 q6 w6 ho6 hg6; have F6 : Hid (Fr NoB w0 w6) := Fr.grown (F3.out.alloc _) hg6 (fun j hj hj2 => by have := (OwnE.lt O3.out hj).1; omega); have O6 := hid ho6; clear ho6 hg6)
            go_roundw
            case rel => exact ⟨k + 1, by omega, by go_num, F6.out, by rw [HON.out HM.out, ← List.append_assoc, HLL.out]; simpa only [List.length_append, List.length_singleton] using O6.out⟩
            case measure => simp [intOf]; omega
          | false =>
            have HM := hid hm
            go_wp2
            go_roundw
            case rel => exact ⟨k + 1, by omega, by go_num, F3.out, by rw [HOFF.out HM.out, HLL.out]; exact O3.out⟩
            case measure => simp [intOf]; omega
        · obtain rfl : k = d.links.length := by omega
          go_wp2
          go_roundw
          case rel => exact ⟨q + 1, by omega, by omega, by go_num, F1.out, by rw [HPS.out, HLL.out]; exact O1.out⟩
          case measure => simp [intOf]; omega
    · have hqe : q = 8 := by omega
      have HQE := hid hqe
      have hqi : ¬ (q : Int) ≤ 7 := by omega
      clear hqe
      go_wp2
      go_loopw [3, 6] (fun t j wx => ∃ (k : Nat), k ≤ d.links.length ∧ j = .int .i64 k ∧ Fr NoB w0 wx ∧ OwnF w0.heap.size wx t (PP ++ fls 8 (lkRless (nsOf d) d.links) k)) (fun _ j _ => d.links.length - (intOf j).toNat)
      case atStart => exact ⟨0, Nat.zero_le _, rfl, F.out, by rw [show fls 8 (lkRless (nsOf d) d.links) 0 = [] from rfl, List.append_nil]; exact O.out⟩
      case round =>
        obtain ⟨k, hk, rfl, hf, ho⟩ := hrel
        have hpl : (PP ++ fls 8 (lkRless (nsOf d) d.links) k).length ≤ 4000000 := by
          have h3 := fls_le 8 (lkRless (nsOf d) d.links) k
          have h4 := HPL.out
          rw [List.length_append]
          omega
        have HON := hid (@fls_on 8 (lkRless (nsOf d) d.links) k)
        have HOFF := hid (@fls_off 8 (lkRless (nsOf d) d.links) k)
        obtain ⟨LL, hLL⟩ : ∃ LL, PP ++ fls 8 (lkRless (nsOf d) d.links) k = LL := ⟨_, rfl⟩
        rw [hLL] at ho hpl
        have HLL := hid hLL
        clear hLL
        obtain ⟨tp2, tc2, hv⟩ := OwnE.form ho
        subst hv
        have F1 := hid hf
        have O1 := hid ho
        have D1 := hid (D0.out.step hf)
        obtain ⟨d0, d1, d2, df, dl⟩ := three_of D1.out.box
        clear hf ho O F
        by_cases hlt : k < d.links.length
        · go_wp2_with fail
          refine (reasonless_any _ _ _ d _ D1.out.rd k hlt hlen hll HLA.out HORD.out).mono ?_
          rintro e w3 ⟨rfl, hf3⟩
          have F3 := hid (F1.out.step hf3)
          have O3 := hid (OwnE.step O1.out hf3)
          clear hf3 d0 d1 d2 df dl
          have hB : w0.heap.size ≤ w3.heap.size := F3.out.size
          cases hm : lkRless (nsOf d) d.links k with
          | true =>
            have HM := hid hm
            clear hm
            go_wp2_with (at_builtin; refine ap_flaw _ rfl _ _ rfl w0.heap.size (.slice tp2 LL.length tc2) LL rfl (OwnE.step O3.out ((Fr.refl NoB w3).alloc _)) _ [⟨8, k⟩] rfl (rdF_lit rfl) ?_ ?_ ?_; (simp; omega); (simp only [World.size_alloc]; omega); intro p6 q6 w6 ho6 hg6; have F6 : Hid (Fr NoB w0 w6) := Fr.grown (F3.out.alloc _) hg6 (fun j hj hj2 => by have := (OwnE.lt O3.out hj).1; omega); have O6 := hid ho6; clear ho6 hg6)
            go_roundw
            case rel => exact ⟨k + 1, by omega, by go_num, F6.out, by rw [HON.out HM.out, ← List.append_assoc, HLL.out]; simpa only [List.length_append, List.length_singleton] using O6.out⟩
            case measure => simp [intOf]; omega
          | false =>
            have HM := hid hm
            clear hm
            go_wp2
            go_roundw
            case rel => exact ⟨k + 1, by omega, by go_num, F3.out, by rw [HOFF.out HM.out, HLL.out]; exact O3.out⟩
            case measure => simp [intOf]; omega
        · obtain rfl : k = d.links.length := by omega
          go_wp2
          go_ret
          refine ⟨_, rfl, ?_, D1.out.fr⟩
          unfold linksF
          have h8 := HPP.out
          rw [show q - 5 = 3 by have := HQE.out; omega] at h8
          rw [h8, HLL.out]
          exact OwnE.base O1.out (by omega)

end Go.Proofs.YtgpliiepoimcbaaDoor
end
section
/- The walk of the reference's Same. -/
namespace Go.Proofs.YtgpliiepoimcbaaDoor
open Go.RowKit
set_option maxRecDepth 100000

/-- A flaw of a row. -/
theorem RdE.flK {M : Nat → Prop} {w : World} {p : Option Addr} {n c : Nat} {l : List Flw} (h : RdE flCells M w (.slice p n c) l) {k : Nat} (hk : k < l.length) : ∃ b off, p = some ⟨b, off, none⟩ ∧
    w.cell? ⟨b, off + k * 2, none⟩ = some (.int .i64 l[k].kind) ∧ w.cell? ⟨b, off + k * 2 + 1, none⟩ = some (.int .i64 l[k].pos) := by
  rcases h with ⟨_, h⟩ | ⟨b, off, cap, h1, _, _, _, hc⟩
  · subst h; simp at hk
  · simp only [Value.slice.injEq] at h1
    obtain ⟨rfl, rfl, rfl⟩ := h1
    have e := fun j (hj : j < 2) => flatE_get flCells flLen l k hk j hj
    have e0 := hc (k * 2 + 0) _ (by rw [e 0 (by omega)]; rfl)
    have e1 := hc (k * 2 + 1) _ (by rw [e 1 (by omega)]; rfl)
    exact ⟨b, off, rfl, by simpa using e0, by rw [Nat.add_assoc]; exact e1⟩
theorem RdE.formF {M : Nat → Prop} {w : World} {v : Value} {l : List Flw} (h : RdE flCells M w v l) : ∃ a c, v = .slice a l.length c := by
  rcases h with ⟨⟨a, c, h1, _⟩, h⟩ | ⟨b, off, cap, h1, _⟩
  · subst h; exact ⟨a, c, h1⟩
  · exact ⟨_, _, h1⟩

set_option maxHeartbeats 4000000 in
theorem refSame21_any (v u : Value) (l m : List Flw) (w : World) (h : RdE flCells NoB w v l) (h' : RdE flCells NoB w u m) (hl : l.length ≤ 1000000000) :
    Calls Tryd.prog 8 #[v, u] w fun e w' => e = .returned (.bool (decide (l = m))) ∧ Fr NoB w w' := by
  obtain ⟨pa, ca, hp⟩ := h.formF
  subst hp
  obtain ⟨pb, cb, hp⟩ := h'.formF
  subst hp
  have HL := hid h
  have HM := hid h'
  clear h h'
  go_enter Tryd.func8, Tryd.ntmps8
  by_cases hne : l.length = m.length
  rotate_left
  · go_wp2
    all_goals (go_ret; refine ⟨ret_bool ?_, Fr.refl _ _⟩; exact (decide_eq_false (fun e => hne (by rw [e]))).symm)
  · have HNE := hid hne
    rw [← hne]
    have HM2 := HM.out
    rw [← hne] at HM2
    have HM' := hid HM2
    clear HM HM2 hne
    go_wp2
    go_loopw [5] (fun j wr => ∃ (k : Nat), k ≤ l.length ∧ j = .int .i64 k ∧ Fr NoB w wr ∧ l.take k = m.take k) (fun j _ => l.length - (intOf j).toNat)
    case atStart => exact ⟨0, Nat.zero_le _, rfl, Fr.refl _ _, rfl⟩
    case round =>
      obtain ⟨k, hk, rfl, hf, htk⟩ := hrel
      have F := hid hf
      have HT := hid htk
      by_cases hlt : k < l.length
      · have hltm : k < m.length := by rw [← HNE.out]; exact hlt
        obtain ⟨b, off, rfl, e0, e1⟩ := (HL.out.fr hf (fun _ _ h => h)).flK hlt
        obtain ⟨b', off', rfl, g0, g1⟩ := (HM'.out.fr hf (fun _ _ h => h)).flK hltm
        have HGL := hid (List.getElem?_eq_getElem hlt)
        have HGM := hid (List.getElem?_eq_getElem hltm)
        generalize l[k] = x at e0 e1 HGL
        generalize m[k] = y at g0 g1 HGM
        have db := lt_of_cell e0
        have db' := lt_of_cell g0
        clear hf htk hltm
        by_cases hxy : x = y
        · have HXY := hid hxy
          subst hxy
          go_wp2
          refine region_txt (Fr NoB _) (by kernel_rfl) (by kernel_rfl) ((Fr.refl NoB _).drew) ?_
          repeat (first | (refine txt_off (by rfl) ?_; (try simp only [Act.put, List.setIfInBounds_toArray, List.set_cons_zero, List.set_cons_succ])) | (refine txt_read ?_ (by rfl) ?_ ?_; rotate_left; (focus (intro W hW; have hWc := Fr.cq hW; clear hW; go_simp; (try with_reducible rfl); done)); (try simp only [Act.put, List.setIfInBounds_toArray, List.set_cons_zero, List.set_cons_succ])))
          refine txt_nil ?_
          intro W hW
          have F2 := hid (F.out.step hW)
          clear hW e0 e1 g0 g1 db db'
          go_wp2
          go_roundw
          case rel => exact ⟨k + 1, by omega, by go_num, F2.out, by rw [List.take_add_one, List.take_add_one, HT.out, HGL.out, HGM.out]⟩
          case measure => simp [intOf]; omega
        · have HXY := hid hxy
          clear hxy
          go_wp2
          refine region_txt (Fr NoB _) (by kernel_rfl) (by kernel_rfl) ((Fr.refl NoB _).drew) ?_
          repeat (first | (refine txt_off (by rfl) ?_; (try simp only [Act.put, List.setIfInBounds_toArray, List.set_cons_zero, List.set_cons_succ])) | (refine txt_read ?_ (by rfl) ?_ ?_; rotate_left; (focus (intro W hW; have hWc := Fr.cq hW; clear hW; go_simp; (try with_reducible rfl); done)); (try simp only [Act.put, List.setIfInBounds_toArray, List.set_cons_zero, List.set_cons_succ])))
          refine txt_read (.bool true) (by rfl) ?_ ?_
          · intro W hW
            go_simp
            intro h1 h2
            refine HXY.out ?_
            obtain ⟨a1, a2⟩ := x
            obtain ⟨b1, b2⟩ := y
            simp only at h1 h2
            rw [h1, h2]
          (try simp only [Act.put, List.setIfInBounds_toArray, List.set_cons_zero, List.set_cons_succ])
          repeat (first | (refine txt_off (by rfl) ?_; (try simp only [Act.put, List.setIfInBounds_toArray, List.set_cons_zero, List.set_cons_succ])) | (refine txt_read ?_ (by rfl) ?_ ?_; rotate_left; (focus (intro W hW; have hWc := Fr.cq hW; clear hW; go_simp; (try with_reducible rfl); done)); (try simp only [Act.put, List.setIfInBounds_toArray, List.set_cons_zero, List.set_cons_succ])))
          refine txt_nil ?_
          intro W hW
          have F2 := hid (F.out.step hW)
          clear hW e0 e1 g0 g1 db db'
          go_wp2
          go_ret
          refine ⟨ret_bool ?_, F2.out⟩
          refine (decide_eq_false (fun e => HXY.out ?_)).symm
          have h1 := HGL.out
          rw [e, HGM.out] at h1
          exact (Option.some.inj h1).symm
      · obtain rfl : k = l.length := by omega
        go_wp2
        go_ret
        refine ⟨ret_bool ?_, F.out⟩
        have h9 := HT.out
        rw [List.take_length, List.take_of_length_le (by rw [HNE.out]; exact Nat.le_refl _)] at h9
        exact (decide_eq_true h9).symm

end Go.Proofs.YtgpliiepoimcbaaDoor
end
