import Derived.Test.YtgpliiepoimcbaaDoorPk0
import Derived.Test.YtgpliiepoimcbaaDoorPk3
import Derived.ChangeMaps5
import Derived.MapKept
import Derived.Maps.RangeRun
set_option linter.all false
section
/- The walk of the reference's All (under way). -/
namespace Go.Proofs.YtgpliiepoimcbaaDoor
open Go.RowKit
set_option maxRecDepth 100000

theorem fls_nil {kind : Int} {P : Nat → Bool} {n : Nat} (h : fls kind P n = []) : ∀ i, i < n → P i = false := by
  intro i hi
  unfold fls at h
  rw [List.map_eq_nil_iff, List.filter_eq_nil_iff] at h
  simpa using h i (List.mem_range.2 hi)
/-- No flaw of form: the args lie in range. -/
theorem formF_ord {d : Dmp} (h : formF (nsOf d) = []) : ∀ x ∈ d.nodes, ∀ y ∈ x.1.args, 0 ≤ y ∧ y < d.nodes.length := by
  intro x hx y hy
  obtain ⟨i, hi, rfl⟩ := List.getElem_of_mem hx
  unfold formF at h
  rw [List.append_eq_nil_iff, List.append_eq_nil_iff, nsOf_length] at h
  have hs := fls_nil h.1.2 i hi
  unfold disAt at hs
  rw [nsOf_at hi] at hs
  have hs : ordS d.nodes[i].1.args i = true := by simpa using hs
  unfold ordS at hs
  rw [List.all_eq_true] at hs
  have h2 : 0 ≤ y ∧ y < (i : Int) := by simpa using hs y hy
  omega
theorem formF_le (d : Dmp) : (formF (nsOf d)).length ≤ 3 * d.nodes.length := by
  unfold formF
  have h1 := fls_le 1 (malfAt (nsOf d)) (nsOf d).length
  have h2 := fls_le 2 (disAt (nsOf d)) (nsOf d).length
  have h3 := fls_le 3 (wideAt (nsOf d)) (nsOf d).length
  rw [nsOf_length] at *
  simp only [List.length_append]
  omega
theorem linksF_le (ns : List Node) (lk : List Lnk) : (linksF ns lk).length ≤ 4 * lk.length := by
  unfold linksF
  have h1 := lkPre_le ns lk 3
  have h2 := fls_le 8 (lkRless ns lk) lk.length
  rw [List.length_append]
  omega
def rootsF (roots lab : List Int) (k : Nat) : List Flw := fls 9 (fun i => roots.getD i 0 != lab.getD i 0) k
def allF (ns : List Node) (lk : List Lnk) (roots : List Int) : List Flw :=
  if formF ns = [] then fls 4 (twiceAt ns) ns.length ++ linksF ns lk ++ rootsF roots (lbAt ns.length lk lk.length) (min roots.length ns.length) ++
    (if roots.length = ns.length then [] else [⟨9, ((min roots.length ns.length : Nat) : Int)⟩]) ++ fls 10 (openAt ns (lbAt ns.length lk lk.length)) ns.length
  else formF ns

theorem disj_next {B : Nat} {W : World} {v v' lv : Value} {lab : List Int} {n : Nat} (hR : OwnI B W lv lab) (hd : ∀ b, v.ownBlock = some b → lv.ownBlock ≠ some b) (hn : W.heap.size ≤ n) (h : v'.ownBlock = v.ownBlock ∨ v'.ownBlock = some n) : ∀ b, v'.ownBlock = some b → lv.ownBlock ≠ some b := by
  intro b hb hb2
  rcases h with h | h
  · exact hd b (by rw [← h]; exact hb) hb2
  · rw [h] at hb
    cases hb
    have := (World.ownsRow.lt hR _ hb2).2
    omega
/-- append of flaws, with the block of the new row. -/
theorem ap_flaw' (w : World) {ops : Array Oper} {rest : List Oper} {o : Oper} {a : Act} {Q : Exit → Act → World → Prop} (hg : o.guard = none) (s x : Operand)
    (ho : o.op = .call { callee := .builtin .append, args := #[s, x], argTypes := #[30, 30] }) (base : Nat) (v : Value) (l : List Flw) (hs : a.eval s = v) (hown : OwnF base w v l)
    (u : Value) (m : List Flw) (hx : a.eval x = u) (hrd : RdE flCells NoB w u m) (hlen : l.length + m.length ≤ 1000000000) (hbase : base ≤ w.heap.size)
    (h : ∀ p q w', OwnF base w' (.slice p (l ++ m).length q) (l ++ m) → w.grownBy w' v.ownBlock → ((Value.slice p (l ++ m).length q).ownBlock = v.ownBlock ∨ (Value.slice p (l ++ m).length q).ownBlock = some w.heap.size) → wpList Tryd.prog ops Q rest (a.put o.dst (.slice p (l ++ m).length q)) w') : wpList Tryd.prog ops Q (o :: rest) a w := by
  refine ap_rows (z := .agg #[.int .i64 0, .int .i64 0]) (bytes := 16) w flLen (by decide) Tryd.underlying30 infoFlaw rfl hg s x ho base v l hs hown NoB u m hx hrd (fun y hy u hu => ?_) (by omega) (by omega) hbase (fun v' w' h1 h2 h3 => ?_)
  · simp only [flCells, List.mem_cons, List.not_mem_nil, or_false] at hu
    rcases hu with rfl | rfl <;> rfl
  · obtain ⟨p, q, hv⟩ := OwnE.form h1
    subst hv
    exact h p q w' h1 h2 h3

set_option maxHeartbeats 4000000 in
theorem all_any (sN sL sR : Value) (d : Dmp) (w : World) (hd : RdD NoB w sN sL sR d) (hlen : d.nodes.length ≤ 1000000) (hll : d.links.length ≤ 1000000) (hlr : d.roots.length ≤ 1000000) (hla : ∀ x ∈ d.nodes, x.1.args.length ≤ 1000000) (hok : ∀ x ∈ d.nodes, 0 ≤ x.1.val ∧ x.1.val < 18446744073709551616) :
    Calls Tryd.prog 15 #[dumpV sN sL sR] w fun e w' => ∃ v, e = .returned v ∧ OwnF w.heap.size w' v (allF (nsOf d) d.links d.roots) ∧ Fr NoB w w' := by
  have D0 := hid (DbS.start hd)
  have HLA := hid hla
  have HOK := hid hok
  obtain ⟨p, c, hp⟩ := hd.nodes.form
  subst hp
  obtain ⟨pl, cl, hp⟩ := hd.links.form3
  subst hp
  obtain ⟨pr, cr, hp⟩ := hd.roots.form
  subst hp
  clear hd hla hok
  obtain ⟨d0, d1, d2, df, dl⟩ := three_of D0.out.box
  obtain ⟨w0, hw0⟩ : ∃ w0, w.alloc (.cells (dumpCells (.slice p d.nodes.length c) (.slice pl d.links.length cl) (.slice pr d.roots.length cr)) 26) = w0 := ⟨_, rfl⟩
  have hsz0 : w0.heap.size = w.heap.size + 1 := by rw [← hw0]; simp only [World.size_alloc]
  rw [hw0] at D0 d0 d1 d2 df dl
  have HSZ := hid hsz0
  unfold dumpV
  go_enter Tryd.func15, Tryd.ntmps15
  go_wp2_with fail
  clear hw0
  refine (form_any _ _ _ d _ D0.out.rd hlen HLA.out HOK.out).mono ?_
  rintro e w1 ⟨v, rfl, ho, hf⟩
  have D1 := hid (D0.out.step hf)
  have HF := hid hf
  have hfl := formF_le d
  obtain ⟨tp, tc, hv⟩ := OwnE.form ho
  subst hv
  have O1 := hid ho
  clear hf ho d0 d1 d2 df dl hsz0
  by_cases hnil : formF (nsOf d) = []
  rotate_left
  · have hpos : 0 < (formF (nsOf d)).length := List.length_pos_iff.2 hnil
    have HN := hid hnil
    clear hnil
    go_wp2
    go_ret
    refine ⟨_, rfl, ?_, D1.out.fr⟩
    unfold allF
    rw [if_neg HN.out]
    exact OwnE.base O1.out (by have := HSZ.out; omega)
  · have HN := hid hnil
    have HORD := hid (formF_ord hnil)
    rw [hnil] at O1 hfl ⊢
    simp only [List.length_nil] at O1 ⊢
    clear hnil hfl
    obtain ⟨d0, d1, d2, df, dl⟩ := three_of D1.out.box
    go_wp2
    go_loopw [3, 4] (fun t j wr => ∃ (k : Nat), k ≤ d.nodes.length ∧ j = .int .i64 k ∧ Fr NoB w0 wr ∧ OwnF w0.heap.size wr t (fls 4 (twiceAt (nsOf d)) k)) (fun _ j _ => d.nodes.length - (intOf j).toNat)
    case atStart => exact ⟨0, Nat.zero_le _, rfl, HF.out, O1.out⟩
    case round =>
      obtain ⟨k, hk, rfl, hf, ho⟩ := hrel
      have hpl := fls_le 4 (twiceAt (nsOf d)) k
      have HON := hid (@fls_on 4 (twiceAt (nsOf d)) k)
      have HOFF := hid (@fls_off 4 (twiceAt (nsOf d)) k)
      obtain ⟨LL, hLL⟩ : ∃ LL, fls 4 (twiceAt (nsOf d)) k = LL := ⟨_, rfl⟩
      rw [hLL] at ho hpl
      have HLL := hid hLL
      clear hLL
      obtain ⟨tp2, tc2, hv⟩ := OwnE.form ho
      subst hv
      have F1 := hid hf
      have O2 := hid ho
      have D2 := hid (D0.out.step hf)
      clear hf ho O1 HF D1 d0 d1 d2 df dl
      obtain ⟨d0, d1, d2, df, dl⟩ := three_of D2.out.box
      by_cases hlt : k < d.nodes.length
      · go_wp2_with fail
        refine (twice_any _ _ _ d _ D2.out.rd k hlt hlen hll HLA.out HORD.out).mono ?_
        rintro e w3 ⟨rfl, hf3⟩
        have F3 := hid (F1.out.step hf3)
        have O3 := hid (OwnE.step O2.out hf3)
        clear hf3 d0 d1 d2 df dl
        have hB : w0.heap.size ≤ w3.heap.size := F3.out.size
        cases hm : twiceAt (nsOf d) k with
        | true =>
          have HM := hid hm
          clear hm
          go_wp2_with (at_builtin; refine ap_flaw _ rfl _ _ rfl w0.heap.size (.slice tp2 LL.length tc2) LL rfl (OwnE.step O3.out ((Fr.refl NoB w3).alloc _)) _ [⟨4, k⟩] rfl (rdF_lit rfl) ?_ ?_ ?_; (simp; omega); (simp only [World.size_alloc]; omega); intro p6 q6 w6 ho6 hg6; have F6 : Hid (Fr NoB w0 w6) := Fr.grown (F3.out.alloc _) hg6 (fun j hj hj2 => by have := (OwnE.lt O3.out hj).1; omega); have O6 := hid ho6; clear ho6 hg6)
          go_roundw
          case rel => exact ⟨k + 1, by omega, by go_num, F6.out, by rw [HON.out HM.out, HLL.out]; simpa only [List.length_append, List.length_singleton] using O6.out⟩
          case measure => simp [intOf]; omega
        | false =>
          have HM := hid hm
          clear hm
          go_wp2
          go_roundw
          case rel => exact ⟨k + 1, by omega, by go_num, F3.out, by rw [HOFF.out HM.out, HLL.out]; exact O3.out⟩
          case measure => simp [intOf]; omega
      · obtain rfl : k = d.nodes.length := by omega
        go_wp2_with fail
        refine (refLinks_any _ _ _ d _ D2.out.rd hlen hll HLA.out HORD.out).mono ?_
        rintro e w4 ⟨v, rfl, ho4, hf4⟩
        have F4 := hid (F1.out.step hf4)
        have O4 := hid (OwnE.step O2.out hf4)
        have D4 := hid (D2.out.step hf4)
        have hrl := OwnE.rd ho4 (M := NoB) (fun _ _ h => h)
        have hlk := linksF_le (nsOf d) d.links
        obtain ⟨LK, hLK⟩ : ∃ LK, linksF (nsOf d) d.links = LK := ⟨_, rfl⟩
        rw [hLK] at hrl hlk
        have HLK := hid hLK
        obtain ⟨tl, cl2, hv⟩ := hrl.formF
        subst hv
        have RL := hid hrl
        have hB : w0.heap.size ≤ w4.heap.size := F4.out.size
        clear hrl ho4 hf4 hLK d0 d1 d2 df dl F1 O2 D2
        obtain ⟨d0, d1, d2, df, dl⟩ := three_of D4.out.box
        have HD5 : Hid (∀ W', Fr NoB w0 W' → W'.cell? ⟨w.heap.size, 0, none⟩ = some (.slice p d.nodes.length c) ∧ W'.cell? ⟨w.heap.size, 1, none⟩ = some (.slice pl d.links.length cl) ∧ W'.cell? ⟨w.heap.size, 2, none⟩ = some (.slice pr d.roots.length cr)) := fun W' h' => by
          obtain ⟨a0, a1, a2, _, _⟩ := three_of (D0.out.step h').box
          exact ⟨a0, a1, a2⟩
        go_wp2_with (at_builtin; refine ap_flaw _ rfl _ _ rfl w0.heap.size (.slice tp2 LL.length tc2) LL rfl O4.out _ LK rfl RL.out ?_ ?_ ?_; omega; exact hB; intro p6 q6 w6 ho6 hg6; have F6 : Hid (Fr NoB w0 w6) := Fr.grown F4.out hg6 (fun j hj hj2 => by have := (OwnE.lt O4.out hj).1; omega); have O6 := hid ho6; clear ho6 hg6 d0 d1 d2; obtain ⟨d0, d1, d2⟩ := HD5.out w6 F6.out)
        have D6 := hid (D0.out.step F6.out)
        refine (labels_any _ _ _ d _ D6.out.rd d.links.length (Nat.le_refl _) hlen hll).mono ?_
        rintro e w7 ⟨v2, rfl, ho7, hf7⟩
        have F7 := hid (F6.out.step hf7)
        have o7 := OwnE.step O6.out hf7
        rw [List.length_append] at o7
        have O7 := hid o7
        have hrl := ho7
        have hdis : ∀ j, (Value.slice p6 (LL.length + LK.length) q6).ownBlock = some j → v2.ownBlock ≠ some j := fun j hj hj2 => by
          have h1 := (OwnE.lt O7.out hj).2
          have h2 := (World.ownsRow.lt ho7 j hj2).1
          have h3 := O6.out
          rw [List.length_append] at h3
          have h4 := (OwnE.lt h3 hj).2
          omega
        have hlab := lbAt_length d.nodes.length d.links d.links.length
        obtain ⟨lab, hla2⟩ : ∃ lab, lbAt d.nodes.length d.links d.links.length = lab := ⟨_, rfl⟩
        rw [hla2] at hrl hlab
        have HLB := hid hla2
        obtain ⟨tL, cL, hv⟩ := hrl.form
        rw [hlab] at hv
        subst hv
        have RB := hid (OwnI.base hrl F6.out.size)
        have HDIS := hid hdis
        clear hdis
        have HLAB := hid hlab
        clear hrl ho7 hf7 o7 hlab hla2 d0 d1 d2
        obtain ⟨d0, d1, d2⟩ := HD5.out w7 F7.out
        obtain ⟨N, hN⟩ : ∃ N : Nat, min d.roots.length d.nodes.length = N := ⟨_, rfl⟩
        have hmin : min (d.roots.length : Int) (d.nodes.length : Int) = (N : Int) := by omega
        have HN2 := hid hN
        clear hN
        go_wp2
        have HMIN := hid hmin
        have hll3 : LL.length + LK.length ≤ 5000000 := by omega
        clear hmin
        go_loopw [3, 7] (fun t j wr => ∃ (k : Nat), k ≤ N ∧ j = .int .i64 k ∧ Fr NoB w0 wr ∧ OwnF w0.heap.size wr t (LL ++ LK ++ rootsF d.roots lab k) ∧ OwnI w0.heap.size wr (.slice tL d.nodes.length cL) lab ∧ ∀ b, t.ownBlock = some b → (Value.slice tL d.nodes.length cL).ownBlock ≠ some b) (fun _ j _ => N - (intOf j).toNat)
        case atStart => exact ⟨0, Nat.zero_le _, rfl, F7.out, by simpa [rootsF, fls] using O7.out, RB.out, HDIS.out⟩
        case round =>
          obtain ⟨k, hk, rfl, hf, ho, hrb, hds⟩ := hrel
          have HDS := hid hds
          clear hds
          have hpl : (LL ++ LK ++ rootsF d.roots lab k).length ≤ 7000000 := by
            have h1 := fls_le 9 (fun i => d.roots.getD i 0 != lab.getD i 0) k
            have h2 : N ≤ d.nodes.length := by have := HN2.out; omega
            unfold rootsF
            simp only [List.length_append]
            omega
          have HON := hid (@fls_on 9 (fun i => d.roots.getD i 0 != lab.getD i 0) k)
          have HOFF := hid (@fls_off 9 (fun i => d.roots.getD i 0 != lab.getD i 0) k)
          obtain ⟨MM, hMM⟩ : ∃ MM, LL ++ LK ++ rootsF d.roots lab k = MM := ⟨_, rfl⟩
          rw [hMM] at ho hpl
          have HMM := hid hMM
          clear hMM
          obtain ⟨tp3, tc3, hv⟩ := OwnE.form ho
          subst hv
          have F8 := hid hf
          have O8 := hid ho
          have R8 := hid hrb
          have D8 := hid (D0.out.step hf)
          clear hf ho hrb O7 F7 RB d0 d1 d2
          obtain ⟨d0, d1, d2, df, dl⟩ := three_of D8.out.box
          by_cases hlt : k < N
          · have hN2 := HN2.out
            have hkr : k < d.roots.length := by omega
            have hkn : k < d.nodes.length := by omega
            obtain ⟨br, orr, rfl, r0⟩ := D8.out.rd.roots.cellK hkr
            obtain ⟨bb, ob, rfl, b0⟩ := (R8.out.rd (M := NoB) (fun _ _ h => h)).cellK (k := k) (by rw [HLAB.out]; exact hkn)
            obtain ⟨q1, hq1⟩ : ∃ q, d.roots.getD k 0 = q := ⟨_, rfl⟩
            obtain ⟨q2, hq2⟩ : ∃ q, lab.getD k 0 = q := ⟨_, rfl⟩
            rw [hq1] at r0
            rw [hq2] at b0
            have HQ1 := hid hq1
            have HQ2 := hid hq2
            have db := lt_of_cell r0
            have db' := lt_of_cell b0
            clear hq1 hq2 hN2
            by_cases hq : q1 = q2
            · have hp : (d.roots.getD k 0 != lab.getD k 0) = false := by rw [HQ1.out, HQ2.out]; simpa using hq
              have HP := hid hp
              subst hq
              clear hp
              go_wp2
              refine region_txt (Fr NoB _) (by kernel_rfl) (by kernel_rfl) ((Fr.refl NoB _).drew) ?_
              repeat (first | (refine txt_off (by rfl) ?_; (try simp only [Act.put, List.setIfInBounds_toArray, List.set_cons_zero, List.set_cons_succ])) | (refine txt_read ?_ (by rfl) ?_ ?_; rotate_left; (focus (intro W hW; have hWc := Fr.cq hW; clear hW; go_simp; (try with_reducible rfl); done)); (try simp only [Act.put, List.setIfInBounds_toArray, List.set_cons_zero, List.set_cons_succ])))
              refine txt_nil ?_
              intro W hW
              have F9 := hid (F8.out.step hW)
              have O9 := hid (OwnE.step O8.out hW)
              have R9 := hid (OwnI.fr R8.out hW (fun _ _ h => h))
              clear hW d0 d1 d2 df dl r0 b0 db db'
              go_wp2
              go_roundw
              case rel => exact ⟨k + 1, by omega, by go_num, F9.out, by unfold rootsF; rw [HOFF.out HP.out]; show OwnF _ _ _ (LL ++ LK ++ rootsF d.roots lab k); rw [HMM.out]; exact O9.out, R9.out, HDS.out⟩
              case measure => simp [intOf]; omega
            · have hp : (d.roots.getD k 0 != lab.getD k 0) = true := by rw [HQ1.out, HQ2.out]; simpa using hq
              have HP := hid hp
              clear hp
              go_wp2
              refine region_txt (Fr NoB _) (by kernel_rfl) (by kernel_rfl) ((Fr.refl NoB _).drew) ?_
              repeat (first | (refine txt_off (by rfl) ?_; (try simp only [Act.put, List.setIfInBounds_toArray, List.set_cons_zero, List.set_cons_succ])) | (refine txt_read ?_ (by rfl) ?_ ?_; rotate_left; (focus (intro W hW; have hWc := Fr.cq hW; clear hW; go_simp; (try with_reducible rfl); done)); (try simp only [Act.put, List.setIfInBounds_toArray, List.set_cons_zero, List.set_cons_succ])))
              refine txt_nil ?_
              intro W hW
              have F9 := hid (F8.out.step hW)
              have O9 := hid (OwnE.step O8.out hW)
              have R9 := hid (OwnI.fr R8.out hW (fun _ _ h => h))
              clear hW d0 d1 d2 df dl r0 b0 db db'
              have hB9 : w0.heap.size ≤ W.heap.size := F9.out.size
              go_wp2_with (at_builtin; refine ap_flaw' _ rfl _ _ rfl w0.heap.size (.slice tp3 MM.length tc3) MM rfl (OwnE.step O9.out ((Fr.refl NoB W).alloc _)) _ [⟨9, k⟩] rfl (rdF_lit rfl) ?_ ?_ ?_; (simp; omega); (simp only [World.size_alloc]; omega); intro p8 q8 w8 ho8 hg8 hb8; have F10 : Hid (Fr NoB w0 w8) := Fr.grown (F9.out.alloc _) hg8 (fun j hj hj2 => by have := (OwnE.lt O9.out hj).1; omega); have O10 := hid ho8; have R10 := hid (OwnI.fr (OwnI.fr R9.out ((Fr.refl NoB W).alloc _) (fun _ _ h => h)) (Fr.grown (Fr.refl (fun b => (Value.slice tp3 MM.length tc3).ownBlock = some b) _) hg8 (fun j hj _ => hj)) (fun j hj hj2 => HDS.out j hj2 hj)); have DS10 := hid (disj_next R9.out HDS.out (by simp only [World.size_alloc]; omega) hb8); clear ho8 hg8 hb8)
              go_roundw
              case rel => exact ⟨k + 1, by omega, by go_num, F10.out, by unfold rootsF; rw [HON.out HP.out, ← List.append_assoc]; show OwnF _ _ _ (LL ++ LK ++ rootsF d.roots lab k ++ _); rw [HMM.out]; simpa only [List.length_append, List.length_singleton] using O10.out, R10.out, by simpa only [List.length_append, List.length_singleton] using DS10.out⟩
              case measure => simp [intOf]; omega
          · obtain rfl : k = N := by omega
            by_cases hrl : d.roots.length = d.nodes.length
            · have hrl' : (d.roots.length : Int) = d.nodes.length := by omega
              have HRL := hid hrl
              go_wp2
              go_loopw [3, 8] (fun t j wr => ∃ (q : Nat), q ≤ d.nodes.length ∧ j = .int .i64 q ∧ Fr NoB w0 wr ∧ OwnF w0.heap.size wr t (MM ++ fls 10 (openAt (nsOf d) lab) q) ∧ OwnI w0.heap.size wr (.slice tL d.nodes.length cL) lab ∧ ∀ b, t.ownBlock = some b → (Value.slice tL d.nodes.length cL).ownBlock ≠ some b) (fun _ j _ => d.nodes.length - (intOf j).toNat)
              case atStart => exact ⟨0, Nat.zero_le _, rfl, F8.out, by simpa [fls] using O8.out, R8.out, HDS.out⟩
              case round =>
                obtain ⟨q, hk, rfl, hf, ho, hrb, hds⟩ := hrel
                have HDT := hid hds
                have hpl : (MM ++ fls 10 (openAt (nsOf d) lab) q).length ≤ 9000000 := by
                  have h1 := fls_le 10 (openAt (nsOf d) lab) q
                  simp only [List.length_append, List.length_singleton]
                  omega
                have HPN := hid (@fls_on 10 (openAt (nsOf d) lab) q)
                have HPF := hid (@fls_off 10 (openAt (nsOf d) lab) q)
                obtain ⟨ZZ, hZZ⟩ : ∃ ZZ, MM ++ fls 10 (openAt (nsOf d) lab) q = ZZ := ⟨_, rfl⟩
                rw [hZZ] at ho hpl
                have HZZ := hid hZZ
                obtain ⟨tp4, tc4, hv⟩ := OwnE.form ho
                subst hv
                have G8 := hid hf
                have P8 := hid ho
                have S8 := hid hrb
                have E8 := hid (D0.out.step hf)
                have HPZ := hid hpl
                clear hf ho hrb hds hZZ hpl O8 F8 R8 HDS D8 d0 d1 d2 df dl hrl hrl'
                obtain ⟨d0, d1, d2, df, dl⟩ := three_of E8.out.box
                by_cases hlt2 : q < d.nodes.length
                · go_wp2_with fail
                  refine (refOpen_any _ _ _ d _ lab _ E8.out.rd (S8.out.rd (fun _ _ h => h)) HLAB.out q hlt2 hlen HLA.out HORD.out).mono ?_
                  rintro e w9 ⟨rfl, hf9⟩
                  have G9 := hid (G8.out.step hf9)
                  have P9 := hid (OwnE.step P8.out hf9)
                  have S9 := hid (OwnI.fr S8.out hf9 (fun _ _ h => h))
                  clear hf9 d0 d1 d2 df dl
                  have hB9 : w0.heap.size ≤ w9.heap.size := G9.out.size
                  cases hm : openAt (nsOf d) lab q with
                  | true =>
                    have HM := hid hm
                    have hpz := HPZ.out
                    clear hm
                    go_wp2_with (at_builtin; refine ap_flaw' _ rfl _ _ rfl w0.heap.size (.slice tp4 ZZ.length tc4) ZZ rfl (OwnE.step P9.out ((Fr.refl NoB w9).alloc _)) _ [⟨10, q⟩] rfl (rdF_lit rfl) ?_ ?_ ?_; (simp; omega); (simp only [World.size_alloc]; omega); intro p8 q8 w10 ho8 hg8 hb8; have F10 : Hid (Fr NoB w0 w10) := Fr.grown (G9.out.alloc _) hg8 (fun j hj hj2 => by have := (OwnE.lt P9.out hj).1; omega); have O10 := hid ho8; have R10 := hid (OwnI.fr (OwnI.fr S9.out ((Fr.refl NoB w9).alloc _) (fun _ _ h => h)) (Fr.grown (Fr.refl (fun b => (Value.slice tp4 ZZ.length tc4).ownBlock = some b) _) hg8 (fun j hj _ => hj)) (fun j hj hj2 => HDT.out j hj2 hj)); have DS10 := hid (disj_next S9.out HDT.out (by simp only [World.size_alloc]; omega) hb8); clear ho8 hg8 hb8)
                    go_roundw
                    case rel => exact ⟨q + 1, by omega, by go_num, F10.out, by rw [HPN.out HM.out, ← List.append_assoc, HZZ.out]; simpa only [List.length_append, List.length_singleton] using O10.out, R10.out, by simpa only [List.length_append, List.length_singleton] using DS10.out⟩
                    case measure => simp [intOf]; omega
                  | false =>
                    have HM := hid hm
                    clear hm
                    go_wp2
                    go_roundw
                    case rel => exact ⟨q + 1, by omega, by go_num, G9.out, by rw [HPF.out HM.out, HZZ.out]; exact P9.out, S9.out, HDT.out⟩
                    case measure => simp [intOf]; omega
                · obtain rfl : q = d.nodes.length := by omega
                  go_wp2
                  go_ret
                  refine ⟨_, rfl, ?_, E8.out.fr⟩
                  have h := OwnE.base P8.out (B' := w.heap.size) (by have := HSZ.out; omega)
                  have hz : allF (nsOf d) d.links d.roots = ZZ := by
                    unfold allF
                    rw [if_pos HN.out, nsOf_length, HLL.out, HLK.out, HLB.out, HN2.out, HMM.out, if_pos HRL.out, List.append_nil, HZZ.out]
                  rw [hz]
                  exact h
            · have hrl' : ¬ (d.roots.length : Int) = d.nodes.length := by omega
              have HRL := hid hrl
              have hB9 : w0.heap.size ≤ wr.heap.size := F8.out.size
              go_wp2_with (at_builtin; refine ap_flaw' _ rfl _ _ rfl w0.heap.size (.slice tp3 MM.length tc3) MM rfl (OwnE.step O8.out ((Fr.refl NoB wr).alloc _)) _ [⟨9, k⟩] rfl (rdF_lit rfl) ?_ ?_ ?_; (simp; omega); (simp only [World.size_alloc]; omega); intro p8 q8 w8 ho8 hg8 hb8; have F10 : Hid (Fr NoB w0 w8) := Fr.grown (F8.out.alloc _) hg8 (fun j hj hj2 => by have := (OwnE.lt O8.out hj).1; omega); have O10 := hid ho8; have R10 := hid (OwnI.fr (OwnI.fr R8.out ((Fr.refl NoB wr).alloc _) (fun _ _ h => h)) (Fr.grown (Fr.refl (fun b => (Value.slice tp3 MM.length tc3).ownBlock = some b) _) hg8 (fun j hj _ => hj)) (fun j hj hj2 => HDS.out j hj2 hj)); have DS10 := hid (disj_next R8.out HDS.out (by simp only [World.size_alloc]; omega) hb8); clear ho8 hg8 hb8)
              go_loopw [3, 8] (fun t j wr => ∃ (q : Nat), q ≤ d.nodes.length ∧ j = .int .i64 q ∧ Fr NoB w0 wr ∧ OwnF w0.heap.size wr t ((MM ++ [(⟨9, (k:Int)⟩ : Flw)]) ++ fls 10 (openAt (nsOf d) lab) q) ∧ OwnI w0.heap.size wr (.slice tL d.nodes.length cL) lab ∧ ∀ b, t.ownBlock = some b → (Value.slice tL d.nodes.length cL).ownBlock ≠ some b) (fun _ j _ => d.nodes.length - (intOf j).toNat)
              case atStart => exact ⟨0, Nat.zero_le _, rfl, F10.out, by simpa [fls] using O10.out, R10.out, by simpa only [List.length_append, List.length_singleton] using DS10.out⟩
              case round =>
                obtain ⟨q, hk, rfl, hf, ho, hrb, hds⟩ := hrel
                have HDT := hid hds
                have hpl : ((MM ++ [(⟨9, (k:Int)⟩ : Flw)]) ++ fls 10 (openAt (nsOf d) lab) q).length ≤ 9000000 := by
                  have h1 := fls_le 10 (openAt (nsOf d) lab) q
                  simp only [List.length_append, List.length_singleton]
                  omega
                have HPN := hid (@fls_on 10 (openAt (nsOf d) lab) q)
                have HPF := hid (@fls_off 10 (openAt (nsOf d) lab) q)
                obtain ⟨ZZ, hZZ⟩ : ∃ ZZ, (MM ++ [(⟨9, (k:Int)⟩ : Flw)]) ++ fls 10 (openAt (nsOf d) lab) q = ZZ := ⟨_, rfl⟩
                rw [hZZ] at ho hpl
                have HZZ := hid hZZ
                obtain ⟨tp4, tc4, hv⟩ := OwnE.form ho
                subst hv
                have G8 := hid hf
                have P8 := hid ho
                have S8 := hid hrb
                have E8 := hid (D0.out.step hf)
                have HPZ := hid hpl
                clear hf ho hrb hds hZZ hpl O10 F10 R10 DS10 D8 d0 d1 d2 hrl hrl'
                obtain ⟨d0, d1, d2, df, dl⟩ := three_of E8.out.box
                by_cases hlt2 : q < d.nodes.length
                · go_wp2_with fail
                  refine (refOpen_any _ _ _ d _ lab _ E8.out.rd (S8.out.rd (fun _ _ h => h)) HLAB.out q hlt2 hlen HLA.out HORD.out).mono ?_
                  rintro e w9 ⟨rfl, hf9⟩
                  have G9 := hid (G8.out.step hf9)
                  have P9 := hid (OwnE.step P8.out hf9)
                  have S9 := hid (OwnI.fr S8.out hf9 (fun _ _ h => h))
                  clear hf9 d0 d1 d2 df dl
                  have hB9 : w0.heap.size ≤ w9.heap.size := G9.out.size
                  cases hm : openAt (nsOf d) lab q with
                  | true =>
                    have HM := hid hm
                    have hpz := HPZ.out
                    clear hm
                    go_wp2_with (at_builtin; refine ap_flaw' _ rfl _ _ rfl w0.heap.size (.slice tp4 ZZ.length tc4) ZZ rfl (OwnE.step P9.out ((Fr.refl NoB w9).alloc _)) _ [⟨10, q⟩] rfl (rdF_lit rfl) ?_ ?_ ?_; (simp; omega); (simp only [World.size_alloc]; omega); intro p8 q8 w10 ho8 hg8 hb8; have F10 : Hid (Fr NoB w0 w10) := Fr.grown (G9.out.alloc _) hg8 (fun j hj hj2 => by have := (OwnE.lt P9.out hj).1; omega); have O10 := hid ho8; have R10 := hid (OwnI.fr (OwnI.fr S9.out ((Fr.refl NoB w9).alloc _) (fun _ _ h => h)) (Fr.grown (Fr.refl (fun b => (Value.slice tp4 ZZ.length tc4).ownBlock = some b) _) hg8 (fun j hj _ => hj)) (fun j hj hj2 => HDT.out j hj2 hj)); have DS10 := hid (disj_next S9.out HDT.out (by simp only [World.size_alloc]; omega) hb8); clear ho8 hg8 hb8)
                    go_roundw
                    case rel => exact ⟨q + 1, by omega, by go_num, F10.out, by rw [HPN.out HM.out, ← List.append_assoc, HZZ.out]; simpa only [List.length_append, List.length_singleton] using O10.out, R10.out, by simpa only [List.length_append, List.length_singleton] using DS10.out⟩
                    case measure => simp [intOf]; omega
                  | false =>
                    have HM := hid hm
                    clear hm
                    go_wp2
                    go_roundw
                    case rel => exact ⟨q + 1, by omega, by go_num, G9.out, by rw [HPF.out HM.out, HZZ.out]; exact P9.out, S9.out, HDT.out⟩
                    case measure => simp [intOf]; omega
                · obtain rfl : q = d.nodes.length := by omega
                  go_wp2
                  go_ret
                  refine ⟨_, rfl, ?_, E8.out.fr⟩
                  have h := OwnE.base P8.out (B' := w.heap.size) (by have := HSZ.out; omega)
                  have hz : allF (nsOf d) d.links d.roots = ZZ := by
                    unfold allF
                    rw [if_pos HN.out, nsOf_length, HLL.out, HLK.out, HLB.out, HN2.out, HMM.out, if_neg HRL.out, HZZ.out]
                  rw [hz]
                  exact h

end Go.Proofs.YtgpliiepoimcbaaDoor
end
section
/- Plain law: roots of a forest and labels tell the same classes. -/
namespace Go.Proofs.YtgpliiepoimcbaaDoor
open Go.RowKit
set_option maxRecDepth 100000

def PR (r : Int → Int) (lab : List Int) : Prop := ∀ a b : Int, 0 ≤ a → a < lab.length → 0 ≤ b → b < lab.length → (r a = r b ↔ lab.getD a.toNat 0 = lab.getD b.toNat 0)
theorem lbInit_get {n : Nat} {x : Int} (h0 : 0 ≤ x) (h1 : x < n) : (lbInit n).getD x.toNat 0 = x := by
  unfold lbInit
  rw [List.getD_eq_getElem?_getD, List.getElem?_map, List.getElem?_range (by omega)]
  simp; omega
theorem PR.init (n : Nat) : PR (fun x => x) (lbInit n) := by
  intro a b h0 h1 h2 h3
  rw [lbInit_length] at h1 h3
  rw [lbInit_get h0 h1, lbInit_get h2 h3]
theorem lbMerge_get {l : List Int} {i : Nat} (h : i < l.length) (a b : Int) : (lbMerge l a b).getD i 0 = if l.getD i 0 = max a b then min a b else l.getD i 0 := by
  unfold lbMerge
  rw [List.getD_eq_getElem?_getD, List.getElem?_map, List.getD_eq_getElem?_getD, List.getElem?_eq_getElem h]
  rfl
theorem lbMerge_length (l : List Int) (a b : Int) : (lbMerge l a b).length = l.length := by simp [lbMerge]
theorem lbMerge_self (l : List Int) (a : Int) : lbMerge l a a = l := by
  unfold lbMerge
  conv => rhs; rw [← List.map_id l]
  apply List.map_congr_left
  intro y _
  by_cases h : y = max a a
  · rw [if_pos h, h]; simp
  · rw [if_neg h]; rfl
theorem PR.same {r : Int → Int} {lab : List Int} (h : PR r lab) {x y : Int} (hx : 0 ≤ x ∧ x < lab.length) (hy : 0 ≤ y ∧ y < lab.length) (he : r x = r y) : lbMerge lab (lab.getD x.toNat 0) (lab.getD y.toNat 0) = lab := by
  rw [(h x y hx.1 hx.2 hy.1 hy.2).1 he, lbMerge_self]
theorem PR.join {r : Int → Int} {lab : List Int} (h : PR r lab) {x y : Int} (hx : 0 ≤ x ∧ x < lab.length) (hy : 0 ≤ y ∧ y < lab.length) (hn : r x ≠ r y) :
    PR (fun k => if r k = r x then r y else r k) (lbMerge lab (lab.getD x.toNat 0) (lab.getD y.toNat 0)) := by
  intro a b h0 h1 h2 h3
  rw [lbMerge_length] at h1 h3
  rw [lbMerge_get (by omega), lbMerge_get (by omega)]
  have e1 := h a b h0 h1 h2 h3
  have e2 := h a x h0 h1 hx.1 hx.2
  have e3 := h a y h0 h1 hy.1 hy.2
  have e4 := h b x h2 h3 hx.1 hx.2
  have e5 := h b y h2 h3 hy.1 hy.2
  have e6 := h x y hx.1 hx.2 hy.1 hy.2
  generalize lab.getD a.toNat 0 = la at *
  generalize lab.getD b.toNat 0 = lb at *
  generalize lab.getD x.toNat 0 = lx at *
  generalize lab.getD y.toNat 0 = ly at *
  simp only
  generalize r a = ra at *
  generalize r b = rb at *
  generalize r x = rx at *
  generalize r y = ry at *
  by_cases c1 : ra = rx <;> by_cases c2 : rb = rx <;> rcases Int.lt_or_le lx ly with c3 | c3
  all_goals (first | rw [if_pos c1] | rw [if_neg c1])
  all_goals (first | rw [if_pos c2] | rw [if_neg c2])
  all_goals (by_cases c4 : la = max lx ly <;> by_cases c5 : lb = max lx ly)
  all_goals (first | rw [if_pos c4] | rw [if_neg c4])
  all_goals (first | rw [if_pos c5] | rw [if_neg c5])
  all_goals omega
/-- One more link. -/
def rStep (m : Nat) (r : Int → Int) (x : Lnk) : Int → Int := if lbIn m x = true ∧ r x.a ≠ r x.b then (fun k => if r k = r x.a then r x.b else r k) else r
theorem PR.step {r : Int → Int} {lab : List Int} {m : Nat} (h : PR r lab) (hl : lab.length = m) (x : Lnk) : PR (rStep m r x) (lbStep m lab x) := by
  unfold rStep lbStep
  by_cases hin : lbIn m x = true
  · rw [if_pos hin]
    have hh := hin
    unfold lbIn at hh
    simp only [decide_eq_true_eq] at hh
    by_cases hr : r x.a = r x.b
    · rw [if_neg (fun h => h.2 hr), h.same ⟨hh.1, by omega⟩ ⟨hh.2.1, by omega⟩ hr]
      exact h
    · rw [if_pos ⟨hin, hr⟩]
      exact h.join ⟨hh.1, by omega⟩ ⟨hh.2.1, by omega⟩ hr
  · rw [if_neg hin, if_neg (fun h => hin h.1)]
    exact h
/-- The kind of a link, by the forest. -/
theorem lkBad_of {ns : List Node} {lk : List Lnk} {i : Nat} {x : Lnk} {r : Int → Int} (hx : lk[i]? = some x) (h : PR r (lbAt ns.length lk i)) :
    lkBad ns lk i = if lbIn ns.length x = false then 5 else if r x.a = r x.b then 6 else if wAt ns x.a ≠ wAt ns x.b then 7 else 0 := by
  unfold lkBad
  rw [hx]
  simp only [Option.elim_some]
  by_cases hin : lbIn ns.length x = false
  · rw [if_pos hin, if_pos hin]
  · rw [if_neg hin, if_neg hin]
    have hh : lbIn ns.length x = true := by simpa using hin
    unfold lbIn at hh
    simp only [decide_eq_true_eq] at hh
    have e := h x.a x.b hh.1 (by rw [lbAt_length]; omega) hh.2.1 (by rw [lbAt_length]; omega)
    by_cases c : r x.a = r x.b
    · rw [if_pos (e.1 c), if_pos c]
    · rw [if_neg (fun h => c (e.2 h)), if_neg c]
/-- A row of ints while it is filled. -/
def fillI (P : Nat → Int) (k n : Nat) : List Int := (List.range k).map P ++ List.replicate (n - k) 0
theorem fillI_len (P : Nat → Int) {k n : Nat} (h : k ≤ n) : (fillI P k n).length = n := by simp [fillI]; omega
theorem fillI_on {P : Nat → Int} {k n : Nat} (h : k < n) {v : Int} (hp : P k = v) : (fillI P k n).set k v = fillI P (k + 1) n := by
  unfold fillI
  rw [List.range_succ, List.map_append, List.set_append_right _ _ (by simp)]
  simp only [List.length_map, List.length_range, Nat.sub_self, List.map_cons, List.map_nil, List.append_assoc, hp]
  congr 1
  rw [show n - k = (n - (k + 1)) + 1 by omega, List.replicate_succ]
  rfl
theorem fillI_off {P : Nat → Int} {k n : Nat} (h : k < n) (hp : P k = 0) : fillI P k n = fillI P (k + 1) n := by
  unfold fillI
  rw [List.range_succ, List.map_append, List.append_assoc]
  congr 1
  rw [show n - k = (n - (k + 1)) + 1 by omega, List.replicate_succ]
  simp [hp]
theorem fillI_all (P : Nat → Int) (n : Nat) : fillI P n n = (List.range n).map P := by simp [fillI]
end Go.Proofs.YtgpliiepoimcbaaDoor
end
section
/- Plain law: a search from each node finds the labels. -/
namespace Go.Proofs.YtgpliiepoimcbaaDoor
open Go.RowKit
set_option maxRecDepth 100000

structure LabOk (n : Nat) (ls : List Lnk) (f : Int → Int) : Prop where
  rng : ∀ v : Int, 0 ≤ v → v < n → 0 ≤ f v ∧ f v ≤ v
  idm : ∀ v : Int, 0 ≤ v → v < n → f (f v) = f v
  lnk : ∀ x ∈ ls, lbIn n x = true → f x.a = f x.b
  cls : ∀ S : Int → Prop, (∀ x ∈ ls, lbIn n x = true → (S x.a ↔ S x.b)) → ∀ u v : Int, 0 ≤ u → u < n → 0 ≤ v → v < n → f u = f v → (S u ↔ S v)
def fStep (n : Nat) (f : Int → Int) (x : Lnk) : Int → Int := if lbIn n x = true then fun v => if f v = max (f x.a) (f x.b) then min (f x.a) (f x.b) else f v else f
theorem lbIn_iff {n : Nat} {x : Lnk} : lbIn n x = true ↔ 0 ≤ x.a ∧ 0 ≤ x.b ∧ x.a < n ∧ x.b < n := by unfold lbIn; simp
theorem LabOk.init (n : Nat) : LabOk n [] (fun v => v) :=
  ⟨fun v h0 _ => ⟨h0, Int.le_refl _⟩, fun _ _ _ => rfl, fun x hx => (by cases hx), fun S _ u v _ _ _ _ e => by rw [e]⟩
theorem LabOk.step {n : Nat} {ls : List Lnk} {f : Int → Int} (h : LabOk n ls f) (x : Lnk) : LabOk n (ls ++ [x]) (fStep n f x) := by
  unfold fStep
  by_cases hin : lbIn n x = true
  · rw [if_pos hin]
    obtain ⟨a0, b0, a1, b1⟩ := lbIn_iff.1 hin
    have ra := h.rng x.a a0 a1
    have rb := h.rng x.b b0 b1
    have ia := h.idm x.a a0 a1
    have ib := h.idm x.b b0 b1
    refine ⟨fun v h0 h1 => ?_, fun v h0 h1 => ?_, fun y hy hyin => ?_, fun S hS u v u0 u1 v0 v1 e => ?_⟩
    · have := h.rng v h0 h1
      by_cases c : f v = max (f x.a) (f x.b)
      · rw [if_pos c]; omega
      · rw [if_neg c]; omega
    · have hv := h.idm v h0 h1
      by_cases c : f v = max (f x.a) (f x.b)
      · rw [if_pos c]
        have hm : f (min (f x.a) (f x.b)) = min (f x.a) (f x.b) := by
          rcases Int.le_total (f x.a) (f x.b) with c2 | c2
          · rw [Int.min_eq_left c2]; exact ia
          · rw [Int.min_eq_right c2]; exact ib
        rw [hm]
        split <;> omega
      · rw [if_neg c, hv, if_neg c]
    · rw [List.mem_append, List.mem_singleton] at hy
      rcases hy with hy | rfl
      · have := h.lnk y hy hyin
        simp only [this]
      · by_cases c1 : f y.a = max (f y.a) (f y.b)
        · rw [if_pos c1]
          by_cases c2 : f y.b = max (f y.a) (f y.b)
          · rw [if_pos c2]
          · rw [if_neg c2]; omega
        · rw [if_neg c1]
          by_cases c2 : f y.b = max (f y.a) (f y.b)
          · rw [if_pos c2]; omega
          · rw [if_neg c2]; omega
    · have key := h.cls S (fun y hy hyin => hS y (List.mem_append_left _ hy) hyin)
      have hx := hS x (List.mem_append_right _ (List.mem_singleton.2 rfl)) hin
      have kab : f x.a = f x.b → True := fun _ => trivial
      have e1 := key u v u0 u1 v0 v1
      have e2 := key u x.a u0 u1 a0 a1
      have e3 := key u x.b u0 u1 b0 b1
      have e4 := key v x.a v0 v1 a0 a1
      have e5 := key v x.b v0 v1 b0 b1
      by_cases c1 : f u = max (f x.a) (f x.b)
      · rw [if_pos c1] at e
        by_cases c2 : f v = max (f x.a) (f x.b)
        · exact e1 (by omega)
        · rw [if_neg c2] at e
          rcases Int.le_total (f x.a) (f x.b) with c3 | c3
          · rw [e3 (by omega), e4 (by omega)]; exact hx.symm
          · rw [e2 (by omega), e5 (by omega)]; exact hx
      · rw [if_neg c1] at e
        by_cases c2 : f v = max (f x.a) (f x.b)
        · rw [if_pos c2] at e
          rcases Int.le_total (f x.a) (f x.b) with c3 | c3
          · rw [e2 (by omega), e5 (by omega)]; exact hx
          · rw [e3 (by omega), e4 (by omega)]; exact hx.symm
        · rw [if_neg c2] at e
          exact e1 e
  · rw [if_neg hin]
    refine ⟨h.rng, h.idm, fun y hy hyin => ?_, fun S hS => h.cls S (fun y hy => hS y (List.mem_append_left _ hy))⟩
    rw [List.mem_append, List.mem_singleton] at hy
    rcases hy with hy | rfl
    · exact h.lnk y hy hyin
    · exact absurd hyin hin
theorem LabOk.congr {n : Nat} {ls : List Lnk} {f g : Int → Int} (h : LabOk n ls f) (e : ∀ v : Int, 0 ≤ v → v < n → g v = f v) : LabOk n ls g := by
  have hr : ∀ v : Int, 0 ≤ v → v < n → 0 ≤ f v ∧ f v < n := fun v h0 h1 => by have := h.rng v h0 h1; omega
  refine ⟨fun v h0 h1 => by rw [e v h0 h1]; exact h.rng v h0 h1, fun v h0 h1 => ?_, fun x hx hin => ?_, fun S hS u v u0 u1 v0 v1 c => ?_⟩
  · rw [e v h0 h1, e _ (hr v h0 h1).1 (hr v h0 h1).2]; exact h.idm v h0 h1
  · obtain ⟨a0, b0, a1, b1⟩ := lbIn_iff.1 hin
    rw [e _ a0 a1, e _ b0 b1]; exact h.lnk x hx hin
  · rw [e u u0 u1, e v v0 v1] at c
    exact h.cls S hS u v u0 u1 v0 v1 c
theorem labOk_at (n : Nat) (lk : List Lnk) : ∀ k, k ≤ lk.length → LabOk n (lk.take k) (fun v => (lbAt n lk k).getD v.toNat 0)
  | 0, _ => (LabOk.init n).congr (fun v h0 h1 => by show (lbInit n).getD v.toNat 0 = v; exact lbInit_get h0 h1)
  | k + 1, hk => by
    have ih := labOk_at n lk k (by omega)
    have hlt : k < lk.length := by omega
    rw [List.take_add_one, List.getElem?_eq_getElem hlt]
    refine (ih.step lk[k]).congr (fun v h0 h1 => ?_)
    rw [lbAt_succ _ _ hlt]
    unfold lbStep fStep
    by_cases hin : lbIn n lk[k] = true
    · rw [if_pos hin, if_pos hin, lbMerge_get (by rw [lbAt_length]; omega)]
    · rw [if_neg hin, if_neg hin]

/-- The neighbours of the ids. -/
def adjStep (n : Nat) (nl : Int → List Int) (x : Lnk) : Int → List Int := if lbIn n x = true then fun v => if v = x.b then (if x.b = x.a then nl x.a ++ [x.b] else nl x.b) ++ [x.a] else if v = x.a then nl x.a ++ [x.b] else nl v else nl
def adjAt (n : Nat) (lk : List Lnk) (k : Nat) : Int → List Int := (lk.take k).foldl (adjStep n) (fun _ => [])
theorem adjAt_succ (n : Nat) (lk : List Lnk) {k : Nat} (hk : k < lk.length) : adjAt n lk (k + 1) = adjStep n (adjAt n lk k) lk[k] := by
  unfold adjAt
  rw [List.take_add_one, List.getElem?_eq_getElem hk, List.foldl_append]; rfl
theorem adj_mem (n : Nat) (lk : List Lnk) : ∀ k, k ≤ lk.length → ∀ v y, y ∈ adjAt n lk k v ↔ ∃ x ∈ lk.take k, lbIn n x = true ∧ ((x.a = v ∧ y = x.b) ∨ (x.b = v ∧ y = x.a))
  | 0, _, v, y => by simp [adjAt]
  | k + 1, hk, v, y => by
    have ih := adj_mem n lk k (by omega)
    have hlt : k < lk.length := by omega
    rw [adjAt_succ _ _ hlt, List.take_add_one, List.getElem?_eq_getElem hlt]
    generalize lk[k] = x
    have hsplit : (∃ z ∈ lk.take k ++ (some x).toList, lbIn n z = true ∧ ((z.a = v ∧ y = z.b) ∨ (z.b = v ∧ y = z.a))) ↔ (y ∈ adjAt n lk k v ∨ (lbIn n x = true ∧ ((x.a = v ∧ y = x.b) ∨ (x.b = v ∧ y = x.a)))) := by
      rw [ih v y]
      simp only [Option.toList_some, List.mem_append, List.mem_singleton]
      constructor
      · rintro ⟨z, hz | rfl, h⟩
        · exact .inl ⟨z, hz, h⟩
        · exact .inr h
      · rintro (⟨z, hz, h⟩ | h)
        · exact ⟨z, .inl hz, h⟩
        · exact ⟨x, .inr rfl, h⟩
    rw [hsplit]
    unfold adjStep
    by_cases hin : lbIn n x = true
    · rw [if_pos hin]
      by_cases c1 : v = x.b
      · subst c1
        rw [if_pos rfl]
        by_cases c2 : x.b = x.a
        · rw [if_pos c2, ← c2]; simp [hin] <;> try grind
        · rw [if_neg c2]; simp [hin] <;> try grind
      · rw [if_neg c1]
        by_cases c2 : v = x.a
        · subst c2; rw [if_pos rfl]; simp [hin] <;> try grind
        · rw [if_neg c2]; simp <;> try grind
    · rw [if_neg hin]; simp [hin]
theorem adj_len (n : Nat) (lk : List Lnk) : ∀ k, k ≤ lk.length → ∀ v, (adjAt n lk k v).length ≤ 2 * k
  | 0, _, v => by simp [adjAt]
  | k + 1, hk, v => by
    have ih := adj_len n lk k (by omega)
    have hlt : k < lk.length := by omega
    rw [adjAt_succ _ _ hlt]
    unfold adjStep
    have h1 := ih v
    have h2 := ih lk[k].a
    have h3 := ih lk[k].b
    by_cases hin : lbIn n lk[k] = true
    · rw [if_pos hin]
      by_cases c1 : v = lk[k].b
      · rw [if_pos c1]
        by_cases c2 : lk[k].b = lk[k].a
        · rw [if_pos c2, List.length_append, List.length_append, List.length_singleton, List.length_singleton]; omega
        · rw [if_neg c2, List.length_append, List.length_singleton]; omega
      · rw [if_neg c1]
        by_cases c2 : v = lk[k].a
        · rw [if_pos c2, List.length_append, List.length_singleton]; omega
        · rw [if_neg c2]; omega
    · rw [if_neg hin]; omega

/-- Between two searches. -/
structure OutI (n : Nat) (f : Int → Int) (i : Int) (rt : List Int) : Prop where
  len : rt.length = n
  done : ∀ v : Int, 0 ≤ v → v < n → f v < i → rt.getD v.toNat 0 = f v
  rest : ∀ v : Int, 0 ≤ v → v < n → ¬ f v < i → rt.getD v.toNat 0 = -1
/-- In a search from i: the ids of todo are still to be looked at, of the id 'x' the first q neighbours have been. -/
structure InI (n : Nat) (f : Int → Int) (nl : Int → List Int) (i : Int) (rt todo : List Int) (x : Int) (q : Nat) : Prop where
  len : rt.length = n
  ri : 0 ≤ i ∧ i < n ∧ f i = i ∧ rt.getD i.toNat 0 = i
  done : ∀ v : Int, 0 ≤ v → v < n → f v < i → rt.getD v.toNat 0 = f v
  val : ∀ v : Int, 0 ≤ v → v < n → rt.getD v.toNat 0 = -1 ∨ (rt.getD v.toNat 0 = f v ∧ f v ≤ i)
  tds : ∀ t ∈ todo, 0 ≤ t ∧ t < n ∧ f t = i ∧ rt.getD t.toNat 0 = i
  clos : ∀ v : Int, 0 ≤ v → v < n → rt.getD v.toNat 0 = i → v ∉ todo → (v = x → ∀ y ∈ (nl v).take q, rt.getD y.toNat 0 = i) ∧ (v ≠ x → ∀ y ∈ nl v, rt.getD y.toNat 0 = i)
theorem getD_set' (l : List Int) (i j : Nat) (v : Int) (hi : i < l.length) : (l.set i v).getD j 0 = if j = i then v else l.getD j 0 := by
  rw [List.getD_eq_getElem?_getD, List.getElem?_set]
  by_cases h : i = j
  · subst h; simp [hi]
  · rw [if_neg h, if_neg (fun e => h e.symm), List.getD_eq_getElem?_getD]
section
variable {n : Nat} {lk : List Lnk} {f : Int → Int} {nl : Int → List Int} {i x y : Int} {rt todo : List Int} {q : Nat}
theorem OutI.init (n : Nat) {f : Int → Int} (hf : ∀ v : Int, 0 ≤ v → v < n → 0 ≤ f v) : OutI n f 0 (List.replicate n (-1)) :=
  ⟨by simp, fun v h0 h1 h2 => by have := hf v h0 h1; omega, fun v h0 h1 _ => by rw [List.getD_eq_getElem?_getD, List.getElem?_replicate, if_pos (by omega)]; rfl⟩
theorem OutI.skip (hf : LabOk n lk f) (h : OutI n f i rt) (h0 : 0 ≤ i) (h1 : i < n) (hr : 0 ≤ rt.getD i.toNat 0) : OutI n f (i + 1) rt := by
  have hi : f i < i := by
    by_cases c : f i < i
    · exact c
    · have := h.rest i h0 h1 c; omega
  refine ⟨h.len, fun v v0 v1 c => ?_, fun v v0 v1 c => h.rest v v0 v1 (by omega)⟩
  have hid := hf.idm v v0 v1
  by_cases c2 : f v < i
  · exact h.done v v0 v1 c2
  · have e : f v = i := by omega
    rw [e] at hid; omega
theorem OutI.start (hf : LabOk n lk f) (h : OutI n f i rt) (h0 : 0 ≤ i) (h1 : i < n) (hr : ¬ 0 ≤ rt.getD i.toNat 0) (x : Int) (q : Nat) : InI n f nl i (rt.set i.toNat i) [i] x q := by
  have hi : ¬ f i < i := fun c => by have := h.done i h0 h1 c; have := hf.rng i h0 h1; omega
  have hfi : f i = i := by have := hf.rng i h0 h1; omega
  have hl : i.toNat < rt.length := by rw [h.len]; omega
  refine ⟨by rw [List.length_set, h.len], ⟨h0, h1, hfi, by rw [getD_set' _ _ _ _ hl, if_pos rfl]⟩, fun v v0 v1 c => ?_, fun v v0 v1 => ?_, fun t ht => ?_, fun v v0 v1 c hv => ?_⟩
  · rw [getD_set' _ _ _ _ hl]
    by_cases e : v.toNat = i.toNat
    · have : v = i := by omega
      subst this; omega
    · rw [if_neg e]; exact h.done v v0 v1 c
  · rw [getD_set' _ _ _ _ hl]
    by_cases e : v.toNat = i.toNat
    · have : v = i := by omega
      subst this; rw [if_pos rfl]; exact .inr ⟨hfi.symm, by omega⟩
    · rw [if_neg e]
      by_cases c : f v < i
      · exact .inr ⟨h.done v v0 v1 c, by omega⟩
      · exact .inl (h.rest v v0 v1 c)
  · obtain rfl : t = i := by simpa using ht
    exact ⟨h0, h1, hfi, by rw [getD_set' _ _ _ _ hl, if_pos rfl]⟩
  · exfalso
    rw [getD_set' _ _ _ _ hl] at c
    by_cases e : v.toNat = i.toNat
    · have : v = i := by omega
      exact hv (by rw [this]; exact List.mem_singleton.2 rfl)
    · rw [if_neg e] at c
      by_cases c2 : f v < i
      · have := h.done v v0 v1 c2; omega
      · have := h.rest v v0 v1 c2; omega
/-- The last of todo is taken. -/
theorem InI.pop (h : InI n f nl i rt (todo ++ [x]) y (nl y).length) : (0 ≤ x ∧ x < n ∧ f x = i) ∧ InI n f nl i rt todo x 0 := by
  have hx := h.tds x (List.mem_append_right _ (List.mem_singleton.2 rfl))
  refine ⟨⟨hx.1, hx.2.1, hx.2.2.1⟩, h.len, h.ri, h.done, h.val, fun t ht => h.tds t (List.mem_append_left _ ht), fun v v0 v1 c hv => ⟨fun _ z hz => (by simp at hz), fun hne z hz => ?_⟩⟩
  have h9 := h.clos v v0 v1 c (fun hm => by
    rw [List.mem_append, List.mem_singleton] at hm
    exact hm.elim hv hne)
  by_cases e : v = y
  · subst e; exact h9.1 rfl z (by rw [List.take_length]; exact hz)
  · exact h9.2 e z hz
/-- A neighbour that is marked already. -/
theorem InI.seen (h : InI n f nl i rt todo x q) (hq : q < (nl x).length) (hy : (nl x).getD q 0 = y) (hf : f y = i) (y0 : 0 ≤ y) (y1 : y < n) (hr : ¬ rt.getD y.toNat 0 < 0) : InI n f nl i rt todo x (q + 1) := by
  refine ⟨h.len, h.ri, h.done, h.val, h.tds, fun v v0 v1 c hv => ⟨fun e z hz => ?_, (h.clos v v0 v1 c hv).2⟩⟩
  subst e
  rw [List.take_add_one, List.mem_append] at hz
  rcases hz with hz | hz
  · exact (h.clos v v0 v1 c hv).1 rfl z hz
  · rw [List.getElem?_eq_getElem hq] at hz
    rw [List.getD_eq_getElem?_getD, List.getElem?_eq_getElem hq] at hy
    simp only [Option.getD_some] at hy
    simp only [Option.toList_some, List.mem_singleton] at hz
    rw [hz, hy]
    have := h.val y y0 y1
    omega
/-- A neighbour that is marked now. -/
theorem InI.mark (h : InI n f nl i rt todo x q) (hq : q < (nl x).length) (hy : (nl x).getD q 0 = y) (hf : f y = i) (y0 : 0 ≤ y) (y1 : y < n) (hr : rt.getD y.toNat 0 < 0) : InI n f nl i (rt.set y.toNat i) (todo ++ [y]) x (q + 1) := by
  have hl : y.toNat < rt.length := by rw [h.len]; omega
  have hri := h.ri
  refine ⟨by rw [List.length_set, h.len], ⟨hri.1, hri.2.1, hri.2.2.1, ?_⟩, fun v v0 v1 c => ?_, fun v v0 v1 => ?_, fun t ht => ?_, fun v v0 v1 c hv => ⟨fun e z hz => ?_, fun hne z hz => ?_⟩⟩
  · rw [getD_set' _ _ _ _ hl]
    split
    · rfl
    · exact hri.2.2.2
  · rw [getD_set' _ _ _ _ hl]
    by_cases e : v.toNat = y.toNat
    · have : v = y := by omega
      subst this; omega
    · rw [if_neg e]; exact h.done v v0 v1 c
  · rw [getD_set' _ _ _ _ hl]
    by_cases e : v.toNat = y.toNat
    · have : v = y := by omega
      subst this; rw [if_pos rfl]; exact .inr ⟨hf.symm, by omega⟩
    · rw [if_neg e]; exact h.val v v0 v1
  · rw [getD_set' _ _ _ _ hl]
    rw [List.mem_append, List.mem_singleton] at ht
    rcases ht with ht | rfl
    · have := h.tds t ht
      refine ⟨this.1, this.2.1, this.2.2.1, ?_⟩
      split
      · rfl
      · exact this.2.2.2
    · exact ⟨y0, y1, hf, by rw [if_pos rfl]⟩
  · rw [getD_set' _ _ _ _ hl] at c
    have hvy : v ≠ y := fun e2 => hv (by rw [e2]; exact List.mem_append_right _ (List.mem_singleton.2 rfl))
    have hvn : ¬ v.toNat = y.toNat := fun e2 => hvy (by omega)
    rw [if_neg hvn] at c
    have h9 := h.clos v v0 v1 c (fun hm => hv (List.mem_append_left _ hm))
    subst e
    rw [List.take_add_one, List.mem_append] at hz
    rw [getD_set' _ _ _ _ hl]
    rcases hz with hz | hz
    · split
      · rfl
      · exact h9.1 rfl z hz
    · rw [List.getElem?_eq_getElem hq] at hz
      rw [List.getD_eq_getElem?_getD, List.getElem?_eq_getElem hq] at hy
      simp only [Option.getD_some] at hy
      simp only [Option.toList_some, List.mem_singleton] at hz
      rw [hz, hy, if_pos rfl]
  · rw [getD_set' _ _ _ _ hl] at c ⊢
    have hvy : v ≠ y := fun e2 => hv (by rw [e2]; exact List.mem_append_right _ (List.mem_singleton.2 rfl))
    have hvn : ¬ v.toNat = y.toNat := fun e2 => hvy (by omega)
    rw [if_neg hvn] at c
    have h9 := h.clos v v0 v1 c (fun hm => hv (List.mem_append_left _ hm))
    split
    · rfl
    · exact h9.2 hne z hz
/-- A search ends. -/
theorem InI.stop (hf : LabOk n lk f) (hadj : ∀ x ∈ lk, lbIn n x = true → x.b ∈ nl x.a ∧ x.a ∈ nl x.b) (h : InI n f nl i rt [] y (nl y).length) : OutI n f (i + 1) rt := by
  obtain ⟨i0, i1, fi, ri⟩ := h.ri
  have clo : ∀ v : Int, 0 ≤ v → v < n → rt.getD v.toNat 0 = i → ∀ z ∈ nl v, rt.getD z.toNat 0 = i := fun v v0 v1 c z hz => by
    have h9 := h.clos v v0 v1 c (by simp)
    by_cases e : v = y
    · subst e; exact h9.1 rfl z (by rw [List.take_length]; exact hz)
    · exact h9.2 e z hz
  have all : ∀ v : Int, 0 ≤ v → v < n → f v = i → rt.getD v.toNat 0 = i := fun v v0 v1 e => by
    have := hf.cls (fun v => rt.getD v.toNat 0 = i) (fun x hx hin => by
      obtain ⟨a0, b0, a1, b1⟩ := lbIn_iff.1 hin
      exact ⟨fun ha => clo _ a0 a1 ha _ (hadj x hx hin).1, fun hb => clo _ b0 b1 hb _ (hadj x hx hin).2⟩) i v i0 i1 v0 v1 (by rw [fi, e])
    exact this.1 ri
  refine ⟨h.len, fun v v0 v1 c => ?_, fun v v0 v1 c => ?_⟩
  · by_cases c2 : f v < i
    · exact h.done v v0 v1 c2
    · have e : f v = i := by omega
      rw [e]; exact all v v0 v1 e
  · rcases h.val v v0 v1 with h9 | ⟨_, h9⟩
    · exact h9
    · omega
theorem OutI.all {lab : List Int} (h : OutI n f n rt) (hf : LabOk n lk f) (hl : lab.length = n) (he : ∀ v : Int, 0 ≤ v → v < n → f v = lab.getD v.toNat 0) : rt = lab := by
  apply List.ext_getElem (by rw [h.len, hl])
  intro j hj hj'
  have hjn : j < n := by rw [h.len] at hj; exact hj
  have h1 := h.done j (by omega) (by omega) (by have := hf.rng j (by omega) (by omega); omega)
  rw [he _ (by omega) (by omega)] at h1
  simp only [Int.toNat_natCast] at h1
  rw [List.getD_eq_getElem?_getD, List.getD_eq_getElem?_getD, List.getElem?_eq_getElem hj, List.getElem?_eq_getElem hj'] at h1
  simpa using h1
end
theorem adj_ok {n : Nat} {lk : List Lnk} {f : Int → Int} (hf : LabOk n lk f) {x y : Int} (h : y ∈ adjAt n lk lk.length x) : 0 ≤ y ∧ y < n ∧ f y = f x := by
  obtain ⟨z, hz, hin, h⟩ := (adj_mem n lk lk.length (Nat.le_refl _) x y).1 h
  rw [List.take_length] at hz
  have e := hf.lnk z hz hin
  obtain ⟨a0, b0, a1, b1⟩ := lbIn_iff.1 hin
  rcases h with ⟨rfl, rfl⟩ | ⟨rfl, rfl⟩
  · exact ⟨b0, b1, e.symm⟩
  · exact ⟨a0, a1, e⟩
theorem adj_all (n : Nat) (lk : List Lnk) : ∀ x ∈ lk, lbIn n x = true → x.b ∈ adjAt n lk lk.length x.a ∧ x.a ∈ adjAt n lk lk.length x.b := fun x hx hin =>
  ⟨(adj_mem n lk lk.length (Nat.le_refl _) _ _).2 ⟨x, by rw [List.take_length]; exact hx, hin, .inl ⟨rfl, rfl⟩⟩, (adj_mem n lk lk.length (Nat.le_refl _) _ _).2 ⟨x, by rw [List.take_length]; exact hx, hin, .inr ⟨rfl, rfl⟩⟩⟩
theorem labOk_all (n : Nat) (lk : List Lnk) : LabOk n lk (fun v => (lbAt n lk lk.length).getD v.toNat 0) := by
  have := labOk_at n lk lk.length (Nat.le_refl _)
  rw [List.take_length] at this
  exact this
/-- What a search still has to do. -/
def left2 (rt todo : List Int) : Nat := 2 * rt.countP (fun v => decide (v < 0)) + todo.length
theorem left2_mark {rt todo : List Int} {i y : Int} (hy : y.toNat < rt.length) (hi : 0 ≤ i) (hr : rt.getD y.toNat 0 < 0) : left2 (rt.set y.toNat i) (todo ++ [y]) + 1 = left2 rt todo := by
  unfold left2
  rw [List.countP_set hy]
  rw [List.getD_eq_getElem?_getD, List.getElem?_eq_getElem hy] at hr
  simp only [Option.getD_some] at hr
  have h1 : 0 < rt.countP (fun v => decide (v < 0)) := List.countP_pos_iff.2 ⟨rt[y.toNat], List.getElem_mem _, by simpa using hr⟩
  simp [hr, show ¬ i < 0 by omega]
  omega
end Go.Proofs.YtgpliiepoimcbaaDoor
end
section
/- Maps with plain keys, as lists of pairs: what the model's operations do. No program in sight. -/
namespace Go.Proofs.YtgpliiepoimcbaaDoor
open Go.RowKit Go.MapKept
open Go.ChangeMaps (setBlock)

/-- mk makes the model's keys of kind d out of κ. -/
structure KK {κ : Type} (d : TypeDesc) (mk : κ → Value) : Prop where
  key : ∀ a, IsKey d (mk a)
  inj : ∀ a b, mk a = mk b → a = b
  stays : ∀ (P : Program) (w : World) a, (Instr.keyThatStays (mk a) (mk a)).run P w = .ok (mk a) w

theorem kkString : KK .string Value.string := ⟨fun _ => trivial, fun a b h => by cases h; rfl, fun P w a => MapKept.run_keyThatStays (d := .string) trivial⟩
theorem kkInt : KK (.int .i64) (Value.int .i64) := ⟨fun _ => rfl, fun a b h => by cases h; rfl, fun P w a => MapKept.run_keyThatStays (d := .int .i64) rfl⟩

set_option linter.unusedSectionVars false
section
variable {κ : Type} [DecidableEq κ]

def mget (m : List (κ × Value)) (k : κ) : Option Value := (m.find? (fun p => decide (p.1 = k))).map (·.2)
def mput (m : List (κ × Value)) (k : κ) (v : Value) : List (κ × Value) := if (mget m k).isSome then m.map (fun p => if p.1 = k then (p.1, v) else p) else m ++ [(k, v)]
def mdel (m : List (κ × Value)) (k : κ) : List (κ × Value) := m.filter (fun p => decide (p.1 ≠ k))

/-- Block b of w is a map that holds just the pairs m, in the order of their making. -/
def MapIs (_d : TypeDesc) (mk : κ → Value) (w : World) (b : Nat) (m : List (κ × Value)) : Prop :=
  ∃ es clock, w.heap[b]? = some (.map es clock) ∧ es.toList.map (fun e => (e.key, e.val)) = m.map (fun p => (mk p.1, p.2)) ∧ Stamped es clock

variable {d : TypeDesc} {mk : κ → Value} {w : World} {b : Nat} {m : List (κ × Value)}

theorem MapIs.lt (h : MapIs d mk w b m) : b < w.heap.size := by obtain ⟨es, clock, h, _⟩ := h; exact (Array.getElem?_eq_some_iff.1 h).1
theorem MapIs.fr {M : Nat → Prop} {w' : World} (h : MapIs d mk w b m) (hf : Fr M w w') (hm : ¬ M b) : MapIs d mk w' b m := by
  obtain ⟨es, clock, h1, h2⟩ := h
  exact ⟨es, clock, hf.at hm h1, h2⟩
theorem MapIs.new (d : TypeDesc) (mk : κ → Value) (w : World) : MapIs d mk (w.alloc (.map #[] 0)) w.heap.size [] := ⟨#[], 0, at_new w _, rfl, stamped_empty 0⟩

theorem find_at (K : KK d mk) {es : List MapEntry} : ∀ {m : List (κ × Value)} (k : κ) (i : Nat), es.map (fun e => (e.key, e.val)) = m.map (fun p => (mk p.1, p.2)) →
    (Instr.findNow d (mk k) es i = some none ∧ mget m k = none) ∨ ∃ j v, Instr.findNow d (mk k) es i = some (some (i + j, v)) ∧ mget m k = some v ∧ j < m.length ∧ (m.map (·.1))[j]? = some k ∧ (es.map (·.key))[j]? = some (mk k) := by
  induction es with
  | nil =>
    intro m k i h
    have : m = [] := by simpa using h.symm
    subst this
    exact .inl ⟨rfl, rfl⟩
  | cons e es ih =>
    intro m k i h
    match m, h with
    | [], h => simp at h
    | p :: m, h =>
      simp only [List.map_cons, List.cons.injEq, Prod.mk.injEq] at h
      obtain ⟨⟨hk, hv⟩, ht⟩ := h
      obtain ⟨r, hr, hiff⟩ := sameNow_of_keys (K.key k) (hk ▸ K.key p.1 : IsKey d e.key)
      by_cases hp : p.1 = k
      · have hrt : r = true := hiff.2 (by rw [hk, hp])
        subst hrt
        exact .inr ⟨0, e.val, by simp [Instr.findNow, hr], by simp [mget, hp, hv], by simp, by simp [hp], by simp [hk, hp]⟩
      · have hrf : r = false := by
          cases r with
          | false => rfl
          | true => exact absurd (K.inj _ _ ((hiff.1 rfl).trans hk)).symm hp
        subst hrf
        rcases ih (m := m) k (i + 1) ht with ⟨h1, h2⟩ | ⟨j, v, h1, h2, h3, h4, h5⟩
        · exact .inl ⟨by simp [Instr.findNow, hr, h1], by simp only [mget, List.find?_cons, hp, decide_false]; exact h2⟩
        · refine .inr ⟨j + 1, v, by simp [Instr.findNow, hr, h1]; omega, by simp only [mget, List.find?_cons, hp, decide_false]; exact h2, by simpa using h3, by simpa using h4, by simpa using h5⟩

variable {P : Program} {t kt e : TypeId}

theorem MapIs.look (h : MapIs d mk w b m) (K : KK d mk) (ht : P.underlying t = some (.map kt e)) (hk : P.underlying kt = some d) (k : κ) {v : Value} (hg : mget m k = some v) (ok : Bool) :
    (Instr.lookup t (.map (some b)) (mk k) ok).run P w = .ok (if ok then .tuple #[v, .bool true] else v) w := by
  obtain ⟨es, clock, hb, hm, _⟩ := h
  rcases find_at K k 0 hm with ⟨h1, h2⟩ | ⟨j, v', h1, h2, _⟩
  · rw [h2] at hg; cases hg
  · rw [h2] at hg; cases hg
    have hf := MapKept.run_findKey (P := P) (w := w) hk h1
    simp [Instr.lookup, run_underlying ht, MapKept.run_getObj_map hb, MapKept.run_checkKey (P := P) (w := w) hk (K.key k), hf, Result.andThen]

theorem MapIs.lookNone (h : MapIs d mk w b m) (K : KK d mk) (ht : P.underlying t = some (.map kt e)) (hk : P.underlying kt = some d) (k : κ) (hg : mget m k = none) {z : Value} (hz : (zeroValue e).run P w = .ok z w) (ok : Bool) :
    (Instr.lookup t (.map (some b)) (mk k) ok).run P w = .ok (if ok then .tuple #[z, .bool false] else z) w := by
  obtain ⟨es, clock, hb, hm, _⟩ := h
  rcases find_at K k 0 hm with ⟨h1, h2⟩ | ⟨j, v', h1, h2, _⟩
  · have hf := MapKept.run_findKey (P := P) (w := w) hk h1
    simp [Instr.lookup, run_underlying ht, MapKept.run_getObj_map hb, MapKept.run_checkKey (P := P) (w := w) hk (K.key k), hf, hz, Result.andThen]
  · rw [h2] at hg; cases hg

theorem map_erase {α β : Type} (f : α → β) : ∀ (l : List α) (i : Nat), (l.eraseIdx i).map f = (l.map f).eraseIdx i
  | [], _ => rfl
  | _ :: _, 0 => rfl
  | x :: l, i + 1 => by rw [List.eraseIdx_cons_succ, List.map_cons, List.map_cons, List.eraseIdx_cons_succ, map_erase f l i]

theorem frBlock (_hb : b < w.heap.size) (o : Obj) : Fr (fun k => k = b) w (setBlock w b o) :=
  ⟨rfl, rfl, rfl, by simp [setBlock], fun k _ hk => by simp [setBlock, Ne.symm (show k ≠ b from hk)]⟩

theorem nodup_of (_K : KK d mk) {es : Array MapEntry} {clock : Nat} (hm : es.toList.map (fun e => (e.key, e.val)) = m.map (fun p => (mk p.1, p.2))) (hs : Stamped es clock) : (m.map (·.1)).Nodup := by
  have h1 : es.toList.map (·.key) = (m.map (·.1)).map mk := by
    have := congrArg (List.map (·.1)) hm
    rw [List.map_map, List.map_map] at this
    rw [List.map_map]; exact this
  have h2 := hs.2.2
  rw [h1] at h2
  exact List.Pairwise.imp (fun h e => h (by rw [e])) (List.pairwise_map.1 h2)

theorem MapIs.nodup (h : MapIs d mk w b m) (K : KK d mk) : (m.map (·.1)).Nodup := by
  obtain ⟨es, clock, _, hm, hs⟩ := h
  exact nodup_of K hm hs

theorem MapIs.del (h : MapIs d mk w b m) (K : KK d mk) (ht : P.underlying t = some (.map kt e)) (hk : P.underlying kt = some d) (k : κ) (ty : TypeId) (t2 : TypeId) :
    ∃ w', (Builtin.delete_ #[t, t2] ty #[.map (some b), mk k]).run P w = .ok (.tuple #[]) w' ∧ MapIs d mk w' b (mdel m k) ∧ Fr (fun q => q = b) w w' := by
  have hlt := h.lt
  have hnd := h.nodup K
  obtain ⟨es, clock, hb, hm, hs⟩ := h
  rcases find_at K k 0 hm with ⟨h1, h2⟩ | ⟨j, v', h1, h2, h3, h4, h5⟩
  · have hf := MapKept.run_findKey (P := P) (w := w) hk h1
    refine ⟨setBlock w b (.map es clock), ?_, ⟨es, clock, by simp [setBlock, hlt], ?_, hs⟩, frBlock hlt _⟩
    · simp [Builtin.delete_, run_underlying ht, MapKept.run_getObj_map hb, MapKept.run_checkKey (P := P) (w := w) hk (K.key k), hf, MapKept.run_setObj_map _ hb, Result.andThen, setBlock]
    · rw [hm]
      congr 1
      refine (List.filter_eq_self.2 (fun p hp => ?_)).symm
      simp only [decide_eq_true_eq]
      intro e2
      have : mget m k ≠ none := by
        unfold mget
        intro h0
        rw [Option.map_eq_none_iff, List.find?_eq_none] at h0
        exact h0 p hp (by simpa using e2)
      exact this h2
  · have hf := MapKept.run_findKey (P := P) (w := w) hk h1
    refine ⟨setBlock w b (.map (es.eraseIdxIfInBounds (0 + j)) clock), ?_, ⟨es.eraseIdxIfInBounds (0 + j), clock, by simp [setBlock, hlt], ?_, ?_⟩, frBlock hlt _⟩
    · simp [Builtin.delete_, run_underlying ht, MapKept.run_getObj_map hb, MapKept.run_checkKey (P := P) (w := w) hk (K.key k), hf, MapKept.run_setObj_map _ hb, Result.andThen, setBlock]
    · rw [Nat.zero_add]
      have e1 : (es.eraseIdxIfInBounds j).toList = es.toList.eraseIdx j := by simp
      rw [e1, map_erase, hm, ← map_erase]
      congr 1
      have key : ∀ (m : List (κ × Value)) (j : Nat), (m.map (·.1)).Nodup → (m.map (·.1))[j]? = some k → m.eraseIdx j = m.filter (fun p => decide (p.1 ≠ k)) := by
        intro m
        induction m with
        | nil => intro j _ h; simp at h
        | cons p m ih =>
          intro j hn hj
          simp only [List.map_cons, List.nodup_cons] at hn
          cases j with
          | zero =>
            simp only [List.map_cons, List.getElem?_cons_zero, Option.some.injEq] at hj
            rw [List.eraseIdx_cons_zero, List.filter_cons_of_neg (by simpa using hj)]
            refine (List.filter_eq_self.2 (fun q hq => ?_)).symm
            simp only [decide_eq_true_eq]
            intro e2
            exact hn.1 (by rw [hj, ← e2]; exact List.mem_map_of_mem hq)
          | succ j =>
            simp only [List.map_cons, List.getElem?_cons_succ] at hj
            rw [List.eraseIdx_cons_succ, List.filter_cons_of_pos, ih j hn.2 hj]
            simp only [decide_eq_true_eq]
            intro e2
            exact hn.1 (by rw [e2]; exact List.mem_of_getElem? hj)
      exact key m j hnd h4
    · obtain ⟨s1, s2, s3⟩ := hs
      have e1 : (es.eraseIdxIfInBounds (0 + j)).toList = es.toList.eraseIdx (0 + j) := by simp
      refine ⟨fun x hx => s1 x (by rw [e1] at hx; exact List.mem_of_mem_eraseIdx hx), ?_, ?_⟩
      · rw [e1, map_erase]; exact List.Nodup.sublist (List.eraseIdx_sublist _ _) s2
      · rw [e1, map_erase]; exact List.Nodup.sublist (List.eraseIdx_sublist _ _) s3

theorem MapIs.put (h : MapIs d mk w b m) (K : KK d mk) (ht : P.underlying t = some (.map kt e)) (hk : P.underlying kt = some d) (k : κ) (v : Value) :
    ∃ w', (Instr.mapUpdate t (.map (some b)) (mk k) v).run P w = .ok () w' ∧ MapIs d mk w' b (mput m k v) ∧ Fr (fun q => q = b) w w' := by
  have hlt := h.lt
  have hnd := h.nodup K
  obtain ⟨es, clock, hb, hm, hs⟩ := h
  rcases find_at K k 0 hm with ⟨h1, h2⟩ | ⟨j, v', h1, h2, h3, h4, h5⟩
  · have hf := MapKept.run_findKey (P := P) (w := w) hk h1
    refine ⟨setBlock w b (.map (es.push { key := mk k, val := v, born := clock }) (clock + 1)), ?_, ⟨es.push { key := mk k, val := v, born := clock }, clock + 1, by simp [setBlock, hlt], ?_, stamped_push hs ?_⟩, frBlock hlt _⟩
    · simp [Instr.mapUpdate, run_underlying ht, MapKept.run_getObj_map hb, MapKept.run_checkKey (P := P) (w := w) hk (K.key k), hf, MapKept.run_setObj_map _ hb, Result.andThen, setBlock]
    · rw [mput, h2]; simp [hm]
    · intro x hx e2
      have hx1 : (x.key, x.val) ∈ m.map (fun p => (mk p.1, p.2)) := by rw [← hm]; exact List.mem_map_of_mem (f := fun e : MapEntry => (e.key, e.val)) hx
      obtain ⟨p, hp, hpe⟩ := List.mem_map.1 hx1
      simp only [Prod.mk.injEq] at hpe
      have e3 : p.1 = k := K.inj _ _ (hpe.1.trans e2)
      unfold mget at h2
      rw [Option.map_eq_none_iff, List.find?_eq_none] at h2
      exact h2 p hp (by simpa using e3)
  · have hf := MapKept.run_findKey (P := P) (w := w) hk h1
    have hj : j < es.size := by
      have := congrArg List.length hm
      simp at this
      omega
    have hkey : (((es[0 + j]?).map (·.key)).getD (mk k)) = mk k := by
      rw [Nat.zero_add]
      rw [List.getElem?_map, Array.getElem?_toList] at h5
      rw [h5]; rfl
    refine ⟨setBlock w b (.map (es.modify (0 + j) fun e => { e with key := mk k, val := v }) clock), ?_, ⟨es.modify (0 + j) (fun e => { e with key := mk k, val := v }), clock, by simp [setBlock, hlt], ?_, ?_⟩, frBlock hlt _⟩
    · simp only [Instr.mapUpdate, Sem.run_bind, run_underlying ht, MapKept.run_getObj_map hb, MapKept.run_checkKey (P := P) (w := w) hk (K.key k), hf, Result.andThen, hkey, K.stays, MapKept.run_setObj_map _ hb]
      rfl
    · rw [Nat.zero_add, mput, h2]
      simp only [Option.isSome_some, if_true, Array.toList_modify]
      refine List.ext_getElem? (fun i => ?_)
      have hmi : (es.toList.map (fun e => (e.key, e.val)))[i]? = (m.map (fun p => (mk p.1, p.2)))[i]? := by rw [hm]
      simp only [List.getElem?_map] at hmi h4 ⊢
      rw [List.getElem?_modify]
      by_cases hij : j = i
      · subst hij
        simp only [if_true, Option.map_eq_map]
        cases hmj : m[j]? with
        | none => rw [hmj] at h4; simp at h4
        | some p =>
          rw [hmj] at hmi h4
          simp only [Option.map_some, Option.some.injEq] at h4 hmi ⊢
          cases hej : es.toList[j]? with
          | none => rw [hej] at hmi; simp at hmi
          | some e1 => simp [h4]
      · simp only [if_neg hij, Option.map_eq_map, Option.map_id']
        cases hmj : m[i]? with
        | none => rw [hmj] at hmi; simpa using hmi
        | some p =>
          rw [hmj] at hmi
          have hpk : p.1 ≠ k := by
            intro e2
            have h6 : (m.map (·.1))[i]? = some k := by rw [List.getElem?_map, hmj]; simp [e2]
            have h7 : (m.map (·.1))[j]? = some k := by rw [List.getElem?_map]; exact h4
            have hi : i < (m.map (·.1)).length := (List.getElem?_eq_some_iff.1 h6).1
            have hjj : j < (m.map (·.1)).length := (List.getElem?_eq_some_iff.1 h7).1
            rw [List.getElem?_eq_getElem hi] at h6
            rw [List.getElem?_eq_getElem hjj] at h7
            have := (List.getElem_inj (h₀ := hjj) (h₁ := hi) hnd).1 ((Option.some.inj h7).trans (Option.some.inj h6).symm)
            exact hij this
          simpa [hpk] using hmi
    · refine stamped_modify hs _ _ (fun _ _ => rfl) (fun x hx hxj => ?_)
      rw [Nat.zero_add] at hxj
      rw [List.getElem?_map, Array.getElem?_toList, hxj] at h5
      simpa using h5.symm

end
end Go.Proofs.YtgpliiepoimcbaaDoor
end
section
/- Maps: a statement that stores into an entry that is there (m[k], x = v, ..), and what a store leaves at each key. -/
namespace Go.Proofs.YtgpliiepoimcbaaDoor
open Go.RowKit Go.MapKept
open Go.ChangeMaps (setBlock)

section
variable {κ : Type} [DecidableEq κ] {d : TypeDesc} {mk : κ → Value} {w : World} {b : Nat} {m : List (κ × Value)} {P : Program} {t kt e : TypeId}

theorem mget_app (m m' : List (κ × Value)) (k : κ) : mget (m ++ m') k = (mget m k).or (mget m' k) := by
  unfold mget
  rw [List.find?_append]
  cases List.find? (fun p => decide (p.1 = k)) m <;> simp
theorem mget_map_at (k k' : κ) (v : Value) : ∀ m : List (κ × Value), mget (m.map (fun p => if p.1 = k then (p.1, v) else p)) k' = if k' = k then (mget m k).map (fun _ => v) else mget m k'
  | [] => by simp [mget]
  | p :: m => by
    have ih := mget_map_at k k' v m
    unfold mget at ih ⊢
    by_cases h : p.1 = k
    · by_cases h2 : k' = k
      · subst h2; simp [List.find?_cons, h]
      · have h3 : ¬ p.1 = k' := fun e => h2 (e ▸ h)
        simp only [List.map_cons, h, if_true, List.find?_cons, if_neg h2] at ih ⊢
        have h4 : decide (k = k') = false := by simpa using fun e => h2 e.symm
        rw [h4]
        exact ih
    · by_cases h3 : p.1 = k'
      · have h2 : ¬ k' = k := fun e => h (h3.trans e)
        simp [List.find?_cons, h3, h2]
      · by_cases h2 : k' = k
        · subst h2
          simp only [List.map_cons, if_neg h, List.find?_cons, decide_eq_false h, if_true] at ih ⊢
          exact ih
        · simp only [List.map_cons, if_neg h, List.find?_cons, decide_eq_false h3, if_neg h2] at ih ⊢
          exact ih
theorem mget_put (m : List (κ × Value)) (k k' : κ) (v : Value) : mget (mput m k v) k' = if k' = k then some v else mget m k' := by
  unfold mput
  by_cases h : (mget m k).isSome = true
  · rw [if_pos h, mget_map_at]
    obtain ⟨x, hx⟩ := Option.isSome_iff_exists.1 h
    rw [hx]; rfl
  · rw [if_neg h, mget_app]
    have hn : mget m k = none := by simpa using h
    by_cases h2 : k' = k
    · subst h2; rw [hn]; simp [mget]
    · have h3 : mget [(k, v)] k' = none := by simp [mget, List.find?_cons, Ne.symm h2]
      rw [h3, if_neg h2]; simp

theorem modify_same {es : Array MapEntry} {j : Nat} {f : MapEntry → MapEntry} (h : ∀ x, es[j]? = some x → f x = x) : es.modify j f = es := by
  apply Array.ext_getElem?
  intro i
  rw [Array.getElem?_modify]
  by_cases hij : j = i
  · subst hij
    simp only [if_true]
    cases he : es[j]? with
    | none => rfl
    | some x => simp [h x he]
  · rw [if_neg hij]
theorem modify_cong {es : Array MapEntry} {j : Nat} {f g : MapEntry → MapEntry} (h : ∀ x, es[j]? = some x → f x = g x) : es.modify j f = es.modify j g := by
  apply Array.ext_getElem?
  intro i
  rw [Array.getElem?_modify, Array.getElem?_modify]
  by_cases hij : j = i
  · subst hij
    simp only [if_true]
    cases he : es[j]? with
    | none => rfl
    | some x => simp [h x he]
  · rw [if_neg hij, if_neg hij]
theorem setBlock_same {es : Array MapEntry} {clock : Nat} (hb : w.heap[b]? = some (.map es clock)) : setBlock w b (.map es clock) = w := by
  unfold setBlock
  have : w.heap.setIfInBounds b (.map es clock) = w.heap := by
    apply Array.ext_getElem?
    intro i
    rw [Array.getElem?_setIfInBounds]
    by_cases h : b = i
    · subst h
      rw [if_pos rfl]
      have := (Array.getElem?_eq_some_iff.1 hb).1
      rw [if_pos this, hb]
    · rw [if_neg h]
  rw [this]

/-- An entry that is there: mapEntry leaves the world, and entryStore behind it stores as mapUpdate does. -/
theorem MapIs.entry (h : MapIs d mk w b m) (K : KK d mk) (ht : P.underlying t = some (.map kt e)) (hk : P.underlying kt = some d) (k : κ) {v : Value} (hg : mget m k = some v) (u : Value) :
    ∃ s w', (Instr.mapEntry t (.map (some b)) (mk k)).run P w = .ok (.tuple #[v, .int .i64 s]) w ∧ (Instr.entryStore t (.map (some b)) (.int .i64 s) u).run P w = .ok () w' ∧ MapIs d mk w' b (mput m k u) ∧ Fr (fun q => q = b) w w' := by
  obtain ⟨w', hp, hm', hf⟩ := h.put (P := P) K ht hk k u
  obtain ⟨es, clock, hb, hm, hs⟩ := h
  rcases find_at K k 0 hm with ⟨h1, h2⟩ | ⟨j, v', h1, h2, h3, h4, h5⟩
  · rw [h2] at hg; cases hg
  · rw [h2] at hg; cases hg
    have hfk := MapKept.run_findKey (P := P) (w := w) hk h1
    have hj : j < es.size := by
      have := congrArg List.length hm
      simp at this
      omega
    obtain ⟨x, hx⟩ : ∃ x, es[j]? = some x := ⟨_, Array.getElem?_eq_getElem hj⟩
    have hxk : x.key = mk k := by
      rw [List.getElem?_map, Array.getElem?_toList, hx] at h5
      simpa using h5
    have hkey : (((es[0 + j]?).map (·.key)).getD (mk k)) = mk k := by rw [Nat.zero_add, hx]; simpa using hxk
    have hsame : es.modify (0 + j) (fun e => { e with key := mk k }) = es := modify_same (fun y hy => by
      rw [Nat.zero_add, hx] at hy
      cases hy
      rw [← hxk])
    refine ⟨x.born, w', ?_, ?_, hm', hf⟩
    · simp only [Instr.mapEntry, Sem.run_bind, run_underlying ht, MapKept.run_getObj_map hb, MapKept.run_checkKey (P := P) (w := w) hk (K.key k), hfk, Result.andThen, hkey, K.stays, MapKept.run_setObj_map _ hb, hsame]
      rw [Nat.zero_add, hx]
      have := setBlock_same hb
      unfold setBlock at this
      simp only [this]
      rfl
    · have hfi : es.findIdx? (fun e => (e.born : Int) == (x.born : Int)) = some j := by
        rw [Array.findIdx?_eq_some_iff_getElem]
        refine ⟨hj, ?_, fun i hij => ?_⟩
        · have : es[j] = x := by rw [Array.getElem?_eq_getElem hj] at hx; exact Option.some.inj hx
          rw [this]; simp
        · have hnd := hs.2.1
          have hi : i < es.size := by omega
          intro he
          have hxj : es[j] = x := by rw [Array.getElem?_eq_getElem hj] at hx; exact Option.some.inj hx
          have he2 : es[i].born = es[j].born := by
            rw [hxj]
            have h9 : (es[i].born : Int) = (x.born : Int) := by simpa using he
            omega
          have hl1 : i < (es.toList.map (·.born)).length := by simpa using hi
          have hl2 : j < (es.toList.map (·.born)).length := by simpa using hj
          have := (List.getElem_inj (h₀ := hl1) (h₁ := hl2) hnd).1 (by simpa using he2)
          omega
      rw [← hp]
      simp only [Instr.mapUpdate, Instr.entryStore, Sem.run_bind, run_underlying ht, MapKept.run_getObj_map hb, MapKept.run_checkKey (P := P) (w := w) hk (K.key k), hfk, Result.andThen, hkey, K.stays, MapKept.run_setObj_map _ hb]
      have hmod : es.modify (0 + j) (fun e => { e with key := mk k, val := u }) = es.modify j (fun e => { e with val := u }) := by
        rw [Nat.zero_add]
        exact modify_cong (fun y hy => by rw [hx] at hy; cases hy; rw [← hxk])
      rw [hmod]
      have ha : (asInt (.int .i64 (x.born : Int))).run P w = .ok (x.born : Int) w := rfl
      simp only [ha, hfi, MapKept.run_setObj_map _ hb]
end
end Go.Proofs.YtgpliiepoimcbaaDoor
end
