import Derived.Test.YtndfncaoejbkiaaGreatDoorPk1
import Derived.Test.YtndfncaoejbkiaaGreatDoorPk3
import Derived.Test.YtndfncaoejbkiaaGreatDoorPk7
import Derived.Test.YtndfncaoejbkiaaGreatDoorPk9
import Derived.Test.YtndfncaoejbkiaaGreatDoorPk10
import Derived.ChangeSame
import Derived.Deep.DeepHandedRow
import Derived.Deep.Fields
import Derived.Deep.Slices
import Derived.Lib.LaidTab
import Derived.Lib.SlBytesConst
import Derived.Lib.SmallJoins
import Derived.OpenShut
import Derived.ProofKit
import Derived.Test.YtndfncaoejbkiaaGreatDoorRows
set_option linter.all false
section
/- The walk of invariant's classes. -/
namespace Go.Proofs.YtndfncaoejbkiaaGreatDoor
open Go.RowKit
set_option maxRecDepth 100000

def clsF (ns : List Node) (roots lab : List Int) : List Flw :=
  rootsF roots lab (min roots.length ns.length) ++ (if roots.length = ns.length then [] else [⟨9, ((min roots.length ns.length : Nat) : Int)⟩]) ++ fls 10 (openAt ns lab) ns.length


set_option maxHeartbeats 4000000 in
theorem classes_any (M : Nat → Prop) (sN sL sR : Value) (d : Dmp) (w : World) (br : Nat) (l : List Flw) (hd : RdD M w sN sL sR d) (hr : RepAt M w br l) (hlen : d.nodes.length ≤ 1000000) (hlk : d.links.length ≤ 1000000) (hlr : d.roots.length ≤ 1000000) (hll : l.length ≤ 10000000) (ht : Tab w) (hMT : ¬ M TB)
    (hok : ∀ x ∈ d.nodes, NodeOk x.1 ∧ NodeSm x.1) (hord : ∀ x ∈ d.nodes, ∀ y ∈ x.1.args, 0 ≤ y ∧ y < d.nodes.length) :
    Calls Tryz.prog 73 #[dumpV sN sL sR, .func (.func 69) #[.pointer (some ⟨br, 0, none⟩)] #[]] w fun e w' => e = .returned (.tuple #[]) ∧
      (∃ M', RepAt M' w' br (l ++ clsF (nsOf d) d.roots (lbAt d.nodes.length d.links d.links.length)) ∧ Gr M M' w) ∧ Fr M w w' := by
  obtain ⟨p, c1, hp⟩ := hd.nodes.form
  subst hp
  obtain ⟨pl, cl, hp⟩ := hd.links.form3
  subst hp
  obtain ⟨pr, cr, hp⟩ := hd.roots.form
  subst hp
  have S0 := hid (RepS.start hd hr)
  have HT := hid ht
  have HMT := hid hMT
  have HOK := hid hok
  have HORD := hid hord
  have HCO := hid (fun (x : Node) h1 h2 => canon_ok (n := d.nodes.length) (lk := d.links) hlen (x := x) h1 h2)
  have HNO : Hid (∀ x ∈ nsOf d, NodeOk (canonN (lbAt d.nodes.length d.links d.links.length) x)) := fun y hy => by
    unfold nsOf at hy
    obtain ⟨x, hx, rfl⟩ := List.mem_map.1 hy
    exact canon_ok hlen (hok x hx).1 (hord x hx)
  obtain ⟨lab, hlab⟩ : ∃ lab, lbAt d.nodes.length d.links d.links.length = lab := ⟨_, rfl⟩
  rw [hlab] at HNO HCO ⊢
  have HLB := hid hlab
  clear hlab
  clear hd hr ht hMT hok hord
  obtain ⟨d0, d1, d2, df, dl⟩ := three_of S0.out.box
  unfold dumpV
  go_enter Tryz.func73, Tryz.ntmps73
  go_wp2_with fail
  clear d0 d1 d2 df dl
  refine (roots2_any _ _ _ d _ (S0.out.rd.weaken (fun _ _ h => h.elim)) hlen hlk).mono ?_
  rintro e w1 ⟨v, rfl, ho, hf⟩
  simp only [World.size_alloc] at ho
  obtain ⟨lp, lc, hv⟩ := ho.form
  have hll0 := lbAt_length d.nodes.length d.links d.links.length
  rw [hll0] at hv
  subst hv
  rw [HLB.out] at ho hll0
  have HLL := hid hll0
  have HO := hid ho
  have hs1 : w.heap.size + 1 ≤ w1.heap.size := by have := hf.size; simp only [World.size_alloc] at this; omega
  have HS1 := hid hs1
  have S1 : Hid (RepS M w (.slice p d.nodes.length c1) (.slice pl d.links.length cl) (.slice pr d.roots.length cr) d br l [] (fun q => w.heap.size ≤ q ∧ q < w1.heap.size) w1) := S0.out.grow hf (fun q hq => by simp only [World.size_alloc]; by_cases e : q = w.heap.size; exact .inl e; exact .inr (by omega)) (by omega)
  clear hf ho hll0 S0 hs1
  obtain ⟨N, hN⟩ : ∃ N : Nat, min d.roots.length d.nodes.length = N := ⟨_, rfl⟩
  have hmin : min (d.nodes.length : Int) (d.roots.length : Int) = (N : Int) := by omega
  have HN := hid hN
  clear hN
  obtain ⟨d0, d1, d2, df, dl⟩ := three_of S1.out.box
  go_wp2
  clear d0 d1 d2 df dl
  have f1 := (Fr.refl NoB w1).alloc (.cells #[.slice lp d.nodes.length lc] 24)
  have S2 : Hid (ClS M w (.slice p d.nodes.length c1) (.slice pl d.links.length cl) (.slice pr d.roots.length cr) d br l [] w1.heap.size (.slice lp d.nodes.length lc) lab (fun q => w.heap.size ≤ q ∧ q < w1.heap.size + 1) (w1.alloc (.cells #[.slice lp d.nodes.length lc] 24))) := by
    have hs := HS1.out
    refine ⟨S1.out.grow f1 (fun q hq => ?_) (by omega), at_new w1 _, HO.out.fr f1 (fun _ _ h => h), fun b hb => ?_⟩
    · simp only [World.size_alloc]
      by_cases e : q = w1.heap.size
      · exact .inr (by omega)
      · exact .inl (by omega)
    · rcases hb with rfl | hb
      · omega
      · have := World.ownsRow.lt HO.out b hb; omega
  obtain ⟨X0, hX0⟩ : ∃ X : Nat → Prop, X = (fun q => w.heap.size ≤ q ∧ q < w1.heap.size + 1) := ⟨_, rfl⟩
  rw [← hX0] at S2
  obtain ⟨g4, hg4⟩ : ∃ g, w1.heap.size = g := ⟨_, rfl⟩
  rw [hg4] at S2 ⊢
  clear f1 hX0 hg4 S1 HO HS1
  go_loopw [23] (fun j wr => ∃ (k : Nat), k ≤ N ∧ j = .int .i64 k ∧ ∃ X, ClS M w (.slice p d.nodes.length c1) (.slice pl d.links.length cl) (.slice pr d.roots.length cr) d br l (rootsF d.roots lab k) g4 (.slice lp d.nodes.length lc) lab X wr) (fun j _ => N - (intOf j).toNat)
  case atStart => exact ⟨0, Nat.zero_le _, rfl, X0, by simpa [rootsF, fls] using S2.out⟩
  case round =>
    obtain ⟨k, hk, rfl, X, hs⟩ := hrel
    have S3 := hid hs
    have HON := hid (@fls_on 9 (fun i => d.roots.getD i 0 != lab.getD i 0) k)
    have HOFF := hid (@fls_off 9 (fun i => d.roots.getD i 0 != lab.getD i 0) k)
    have HF1 := hid (fls_le 9 (fun i => d.roots.getD i 0 != lab.getD i 0) k)
    clear hs S2
    obtain ⟨d0, d1, d2, df, dl⟩ := three_of S3.out.st.box
    have c0 : wr.cell? ⟨g4, 0, none⟩ = some (.slice lp d.nodes.length lc) := by simp [World.cell?, S3.out.box]
    have c0l := lt_of_cell c0
    by_cases hlt : k < N
    · have hN2 := HN.out
      have hkr : k < d.roots.length := by omega
      have hkn : k < d.nodes.length := by omega
      obtain ⟨br1, orr, rfl, r0⟩ := S3.out.st.rd.roots.cellK hkr
      obtain ⟨bb, ob, rfl, b0⟩ := (S3.out.row.rd (M := NoB) (fun _ _ h => h)).cellK (k := k) (by rw [HLL.out]; exact hkn)
      obtain ⟨q1, hq1⟩ : ∃ q, d.roots.getD k 0 = q := ⟨_, rfl⟩
      obtain ⟨q2, hq2⟩ : ∃ q, lab.getD k 0 = q := ⟨_, rfl⟩
      rw [hq1] at r0
      rw [hq2] at b0
      have HQ1 := hid hq1
      have HQ2 := hid hq2
      have db := lt_of_cell r0
      have db' := lt_of_cell b0
      clear hq1 hq2 hN2
      by_cases hq : q1 = q2
      · have hp : (d.roots.getD k 0 != lab.getD k 0) = false := by rw [HQ1.out, HQ2.out]; simpa using hq
        have HP := hid hp
        subst hq
        clear hp
        go_wp2
        refine region_txt (Fr NoB _) (by kernel_rfl) (by kernel_rfl) ((Fr.refl NoB _).drew) ?_
        repeat (first | (refine txt_off (by rfl) ?_; (try simp only [Act.put, List.setIfInBounds_toArray, List.set_cons_zero, List.set_cons_succ])) | (refine txt_read ?_ (by rfl) ?_ ?_; rotate_left; (focus (intro W hW; have hWc := Fr.cq hW; clear hW; go_simp; (try with_reducible rfl); done)); (try simp only [Act.put, List.setIfInBounds_toArray, List.set_cons_zero, List.set_cons_succ])))
        refine txt_nil ?_
        intro W hW
        have S4 := hid (S3.out.grow hW)
        clear hW d0 d1 d2 df dl r0 b0 db db' c0 c0l S3
        go_wp2
        go_roundw
        case rel => exact ⟨k + 1, by omega, by go_num, X, by unfold rootsF; rw [HOFF.out HP.out]; exact S4.out⟩
        case measure => simp [intOf]; omega
      · have hp : (d.roots.getD k 0 != lab.getD k 0) = true := by rw [HQ1.out, HQ2.out]; simpa using hq
        have HP := hid hp
        have hq' : ¬ q2 = q1 := fun e => hq e.symm
        clear hp
        go_wp2
        refine region_txt (Fr NoB _) (by kernel_rfl) (by kernel_rfl) ((Fr.refl NoB _).drew) ?_
        repeat (first | (refine txt_off (by rfl) ?_; (try simp only [Act.put, List.setIfInBounds_toArray, List.set_cons_zero, List.set_cons_succ])) | (refine txt_read ?_ (by rfl) ?_ ?_; rotate_left; (focus (intro W hW; have hWc := Fr.cq hW; clear hW; go_simp; (try with_reducible rfl); done)); (try simp only [Act.put, List.setIfInBounds_toArray, List.set_cons_zero, List.set_cons_succ])))
        refine txt_nil ?_
        intro W hW
        have S4 := hid (S3.out.grow hW)
        have RS := hid S4.out.st
        clear hW d0 d1 d2 df dl r0 b0 db db' c0 c0l S3
        obtain ⟨M3, n3, k3⟩ := RS.out.noted
        have HN3 := hid n3
        have HK3 := hid k3
        clear n3 k3
        go_wp2_with fail
        refine (repAdd_any M3 _ br _ 9 k HN3.out ?_).mono ?_
        · simp only [List.length_append]
          have h1 := HF1.out; unfold rootsF
          omega
        rintro e w9 ⟨rfl, ⟨M4, n4, g4⟩, f4⟩
        have S9 := hid (HK3.out w9 M4 _ n4 g4 f4)
        clear n4 g4 f4
        have S9' := hid (S4.out.told S9.out.1 S9.out.2)
        go_wp2
        go_roundw
        case rel => exact ⟨k + 1, by omega, by go_num, X, by unfold rootsF; rw [HON.out HP.out]; exact S9'.out⟩
        case measure => simp [intOf]; omega
    · obtain rfl : k = N := by omega
      have hfl1 := HF1.out
      by_cases hrl : d.roots.length = d.nodes.length
      · have hrl' : (d.roots.length : Int) = d.nodes.length := by omega
        obtain ⟨FF, hff⟩ : ∃ FF, rootsF d.roots lab k = FF := ⟨_, rfl⟩
        rw [hff] at S3
        have HFF : Hid (rootsF d.roots lab (min d.roots.length d.nodes.length) ++ (if d.roots.length = d.nodes.length then [] else [⟨9, ((min d.roots.length d.nodes.length : Nat) : Int)⟩]) = FF) := by
          show _ = _
          rw [if_pos hrl, List.append_nil, HN.out, hff]
        have HFL : Hid (FF.length ≤ 2000000) := by
          show _ ≤ _
          rw [← hff]; unfold rootsF; omega
        clear hff hfl1 hrl
        have hmm := @run_makeMap Tryz.prog
        obtain ⟨d0, d1, d2, df, dl⟩ := three_of S3.out.st.box
        go_wp2
        clear hmm d0 d1 d2 df dl
        have M1 : Hid (∃ X, ClM M w (.slice p d.nodes.length c1) (.slice pl d.links.length cl) (.slice pr d.roots.length cr) d br l FF g4 (.slice lp d.nodes.length lc) lab wr.heap.size (wr.heap.size + 1) (fun _ => none) (fun _ => none) X ((wr.alloc (.map #[] 0)).alloc (.map #[] 0))) := by
          have f2 : Fr NoB wr ((wr.alloc (.map #[] 0)).alloc (.map #[] 0)) := ((Fr.refl NoB wr).alloc _).alloc _
          have hs := S3.out.st.x _ S3.out.st.bx
          refine ⟨fun q => X q ∨ (wr.heap.size ≤ q ∧ q < wr.heap.size + 2), ⟨⟨S3.out.st.grow f2 (fun q hq => hq.imp_right (fun h => ⟨h.1, by simp; omega⟩)) (.inl S3.out.st.bx), f2.at (fun h => h) S3.out.box, S3.out.row.fr f2 (fun _ _ h => h), fun b hb => .inl (S3.out.own b hb)⟩, ?_, ?_, .inr ⟨by omega, by omega⟩, .inr ⟨by omega, by omega⟩, by omega⟩⟩
          · exact (MpIs.new .string Value.string (Value.int .i64) wr).fr ((Fr.refl NoB _).alloc _) (fun h => h)
          · have h := MpIs.new .string Value.string Value.bool (wr.alloc (.map #[] 0))
            simp only [World.size_alloc] at h
            exact h
        obtain ⟨bw, hbw⟩ : ∃ bw, wr.heap.size = bw := ⟨_, rfl⟩
        rw [hbw] at M1 ⊢
        clear hbw
        go_loopw [54] (fun j wr => ∃ (k : Nat), k ≤ d.nodes.length ∧ j = .int .i64 k ∧ ∃ X gw gm, ClM M w (.slice p d.nodes.length c1) (.slice pl d.links.length cl) (.slice pr d.roots.length cr) d br l (FF ++ fls 10 (openAt (nsOf d) lab) k) g4 (.slice lp d.nodes.length lc) lab bw (bw + 1) gw gm X wr ∧ ClsI (keyAt (nsOf d) lab) (fun j => lab.getD j 0) k gw gm) (fun j _ => d.nodes.length - (intOf j).toNat)
        case atStart =>
          obtain ⟨X1, M1⟩ := M1.out
          exact ⟨0, Nat.zero_le _, rfl, X1, _, _, by simpa [fls] using M1, ClsI.init⟩
        case round =>
          obtain ⟨k, hk, rfl, X, gw, gm, hs, hi⟩ := hrel
          have S := hid hs
          have I := hid hi
          clear hs hi M1 S3 hrl' hmin
          by_cases hlt : k < d.nodes.length
          · obtain ⟨b, off, rfl, e0, e1, e2, e3, e4, ha⟩ := S.out.c.st.rd.nodes.nodeK hlt
            have HX := hid (nsOf_at hlt)
            have HMEM := hid (List.getElem_mem hlt)
            obtain ⟨x, hx⟩ : ∃ x, d.nodes[k] = x := ⟨_, rfl⟩
            rw [hx] at e0 e1 e2 e3 e4 ha HX HMEM
            obtain ⟨xn, xs⟩ := x
            simp only at e0 e1 e2 e3 e4 ha HX
            obtain ⟨xa, xc, hv⟩ := ha.form
            subst hv
            have HA := hid ha
            have HF1 := hid (fls_le 10 (openAt (nsOf d) lab) k)
            clear hx ha
            have c0 : wr.cell? ⟨g4, 0, none⟩ = some (.slice lp d.nodes.length lc) := by simp [World.cell?, S.out.c.box]
            have c0l := lt_of_cell c0
            go_wp2_with fail
            clear e0 e1 e2 e3 e4 c0 c0l
            have FA := (Fr.refl NoB wr).alloc (.cells (nodeCells xn (.slice xa xn.args.length xc)) 44)
            have S0 := hid (S.out.grow FA)
            have HA0 := hid (HA.out.fr FA (fun _ _ h => h.elim))
            obtain ⟨wb, hwb⟩ : ∃ wb, wr.alloc (.cells (nodeCells xn (.slice xa xn.args.length xc)) 44) = wb := ⟨_, rfl⟩
            rw [hwb] at S0 HA0 ⊢
            clear hwb FA S HA
            refine (classCanon_any g4 (.slice lp d.nodes.length lc) lab xn (.slice xa xn.args.length xc) wb S0.out.c.box _ S0.out.c.row (by rw [HLL.out]; exact hlen) (HA0.out.weaken (fun _ _ h => h.elim)) (Nat.le_trans (show xn.args.length ≤ 100000 from (HOK.out _ HMEM.out).2.args) (by omega)) (fun y hy => by rw [HLL.out]; exact HORD.out _ HMEM.out y hy)).mono ?_
            rintro e w2 ⟨a', c', rfl, hoc, hf⟩
            have S2 := hid (S0.out.grow hf)
            have OC := hid hoc
            clear hf hoc S0 HA0
            go_wp2_with fail
            refine (key_any NoB (canonN lab xn) (.slice a' xn.args.length c') w2 (OC.out.rd (fun _ _ h => h)) (HCO.out _ (HOK.out _ HMEM.out).1 (HORD.out _ HMEM.out)) (canon_sm (HOK.out _ HMEM.out).2) (HT.out.fr S2.out.c.st.fr HMT.out)).mono ?_
            rintro e w3 ⟨rfl, hf⟩
            have S3 := hid (S2.out.grow hf)
            have HKB : Hid (keyAt (nsOf d) lab k = keyB (canonN lab xn)) := by show _ = _; unfold keyAt; rw [HX.out]; rfl
            obtain ⟨kb, hkb⟩ : ∃ kb, keyB (canonN lab xn) = kb := ⟨_, rfl⟩
            rw [hkb] at HKB ⊢
            clear hf OC S2 hkb
            have HOP : Hid (openAt (nsOf d) lab k = true ↔ ∃ j, j < k ∧ keyAt (nsOf d) lab j = keyAt (nsOf d) lab k ∧ lab.getD j 0 ≠ lab.getD k 0) := open_key HNO.out (by rw [nsOf_length]; exact hlt)
            have c0 : w3.cell? ⟨g4, 0, none⟩ = some (.slice lp d.nodes.length lc) := by simp [World.cell?, S3.out.c.box]
            rcases S3.out.c.row.form' with ⟨_, hv⟩ | ⟨gl, lcap, hv, _, _, _⟩
            · have := HLL.out; rw [hv] at this; simp at this; omega
            rw [HLL.out] at hv
            simp only [Value.slice.injEq] at hv
            obtain ⟨rfl, _, rfl⟩ := hv
            have cl0 := S3.out.c.row.cell (i := k) (by rw [HLL.out]; exact hlt)
            obtain ⟨lk0, hlk0⟩ : ∃ q, lab.getD k 0 = q := ⟨_, rfl⟩
            rw [hlk0] at cl0
            have HLK0 := hid hlk0
            clear hlk0
            have lkw := S3.out.wd.look (P := Tryz.prog) kkString Tryz.underlying85 Tryz.underlying9 (z := .int .i64 0) (by kernel_rfl) kb true
            cases hg : gw kb with
            | none =>
              rw [hg] at lkw
              have HI := hid (I.out.fresh (by rw [HKB.out]; exact hg))
              rw [HKB.out] at HI
              obtain ⟨w4, p1, p2, p3⟩ := S3.out.wd.put (P := Tryz.prog) kkString Tryz.underlying85 Tryz.underlying9 kb lk0
              have S4 := hid (S3.out.turn (.inl rfl) p3 p2 (S3.out.mx.fr p3 (fun e => S3.out.ne e.symm)))
              have HV : Hid (openAt (nsOf d) lab k = false) := by
                show _ = _
                cases h : openAt (nsOf d) lab k with
                | false => rfl
                | true => exact absurd (by have := HOP.out.1 h; rw [HKB.out] at this; exact this) HI.out.2
              clear hg p2 p3
              go_wp2
              go_roundw
              case rel => exact ⟨k + 1, by omega, by go_num, X, _, _, by rw [fls_off HV.out]; exact S4.out, by have := HI.out.1; simp only [HLK0.out] at this; exact this⟩
              case measure => simp [intOf]; omega
            | some f =>
              rw [hg] at lkw
              have HG := hid hg
              have lkm := S3.out.mx.look (P := Tryz.prog) kkString Tryz.underlying154 Tryz.underlying9 (z := .bool false) (by kernel_rfl) kb false
              obtain ⟨mv, hmv⟩ : ∃ mv, (gm kb).getD false = mv := ⟨_, rfl⟩
              have hval : ((gm kb).map Value.bool).getD (.bool false) = .bool mv := by
                cases h : gm kb with
                | none => rw [h] at hmv; simp at hmv; rw [← hmv]; rfl
                | some b => rw [h] at hmv; simp at hmv; rw [← hmv]; rfl
              simp only [Bool.false_eq_true, if_false, hval] at lkm
              have HMV := hid hmv
              clear hg hmv hval
              by_cases hbad : mv = true ∨ f ≠ lk0
              · have HI := hid (I.out.bad (by rw [HKB.out]; exact HG.out) (by rw [HKB.out, HMV.out]; simp only [HLK0.out]; exact hbad))
                rw [HKB.out] at HI
                have HV : Hid (openAt (nsOf d) lab k = true) := HOP.out.2 (by rw [HKB.out]; exact HI.out.2)
                obtain ⟨w4, p1, p2, p3⟩ := S3.out.mx.put (P := Tryz.prog) kkString Tryz.underlying154 Tryz.underlying9 kb true
                have S4 := hid (S3.out.turn (.inr rfl) p3 (S3.out.wd.fr p3 S3.out.ne) p2)
                have RS := hid S4.out.c.st
                clear p2 p3
                cases mv with
                | true =>
                  clear hbad
                  obtain ⟨M3, n3, k3⟩ := RS.out.noted
                  have HN3 := hid n3
                  have HK3 := hid k3
                  clear n3 k3
                  go_wp2_with fail
                  refine (repAdd_any M3 _ br _ 10 k HN3.out ?_).mono ?_
                  · simp only [List.length_append]
                    have h1 := HF1.out; have h2 := HFL.out
                    omega
                  rintro e w9 ⟨rfl, ⟨M4, n4, g4⟩, f4⟩
                  have S9 := hid (HK3.out w9 M4 _ n4 g4 f4)
                  clear n4 g4 f4
                  have S9' := hid (S4.out.told S9.out.1 S9.out.2)
                  go_wp2
                  go_roundw
                  case rel => exact ⟨k + 1, by omega, by go_num, X, _, _, by rw [fls_on HV.out, ← List.append_assoc]; exact S9'.out, HI.out.1⟩
                  case measure => simp [intOf]; omega
                | false =>
                  have hfw : f ≠ lk0 := by simpa using hbad
                  clear hbad
                  obtain ⟨M3, n3, k3⟩ := RS.out.noted
                  have HN3 := hid n3
                  have HK3 := hid k3
                  clear n3 k3
                  go_wp2_with fail
                  refine (repAdd_any M3 _ br _ 10 k HN3.out ?_).mono ?_
                  · simp only [List.length_append]
                    have h1 := HF1.out; have h2 := HFL.out
                    omega
                  rintro e w9 ⟨rfl, ⟨M4, n4, g4⟩, f4⟩
                  have S9 := hid (HK3.out w9 M4 _ n4 g4 f4)
                  clear n4 g4 f4
                  have S9' := hid (S4.out.told S9.out.1 S9.out.2)
                  go_wp2
                  go_roundw
                  case rel => exact ⟨k + 1, by omega, by go_num, X, _, _, by rw [fls_on HV.out, ← List.append_assoc]; exact S9'.out, HI.out.1⟩
                  case measure => simp [intOf]; omega
              · have hmf : mv = false := by cases mv <;> simp_all
                have hfw : f = lk0 := by by_cases e : f = lk0; exact e; exact absurd (.inr e) hbad
                subst hmf
                have HI := hid (I.out.fine (by rw [HKB.out]; exact HG.out) (by rw [HKB.out]; exact HMV.out) (by simp only [HLK0.out]; exact hfw))
                have HV : Hid (openAt (nsOf d) lab k = false) := by
                  show _ = _
                  cases h : openAt (nsOf d) lab k with
                  | false => rfl
                  | true => exact absurd (HOP.out.1 h) HI.out.2
                clear hbad
                go_wp2
                go_roundw
                case rel => exact ⟨k + 1, by omega, by go_num, X, _, _, by rw [fls_off HV.out]; exact S3.out, HI.out.1⟩
                case measure => simp [intOf]; omega
          · obtain rfl : k = d.nodes.length := by omega
            go_wp2
            go_end0
            obtain ⟨M', h1, h2, _⟩ := S.out.c.st.rep
            have e : FF ++ fls 10 (openAt (nsOf d) lab) d.nodes.length = clsF (nsOf d) d.roots lab := by
              unfold clsF
              rw [nsOf_length, HFF.out]
            rw [e] at h1
            exact ⟨rfl, ⟨M', h1, h2⟩, S.out.c.st.fr⟩
      · have hrl' : ¬ (d.nodes.length : Int) = d.roots.length := by omega
        have RS := hid S3.out.st
        obtain ⟨M3, n3, k3⟩ := RS.out.noted
        have HN3 := hid n3
        have HK3 := hid k3
        clear n3 k3
        go_wp2_with fail
        refine (repAdd_any M3 _ br _ 9 k HN3.out ?_).mono ?_
        · simp only [List.length_append]
          have h1 := HF1.out; unfold rootsF
          omega
        rintro e w9 ⟨rfl, ⟨M4, n4, g4⟩, f4⟩
        have S9 := hid (HK3.out w9 M4 _ n4 g4 f4)
        clear n4 g4 f4
        have S4 := hid (S3.out.told S9.out.1 S9.out.2)
        obtain ⟨FF, hff⟩ : ∃ FF, rootsF d.roots lab k ++ [⟨9, (k : Int)⟩] = FF := ⟨_, rfl⟩
        rw [hff] at S4
        have HFF : Hid (rootsF d.roots lab (min d.roots.length d.nodes.length) ++ (if d.roots.length = d.nodes.length then [] else [⟨9, ((min d.roots.length d.nodes.length : Nat) : Int)⟩]) = FF) := by
          show _ = _
          rw [if_neg hrl, HN.out, hff]
        have HFL : Hid (FF.length ≤ 2000000) := by
          show _ ≤ _
          rw [← hff, List.length_append, List.length_singleton]; unfold rootsF; omega
        clear hff hfl1 hrl d0 d1 d2 df dl c0 c0l S3 RS S9
        have hmm := @run_makeMap Tryz.prog
        obtain ⟨d0, d1, d2, df, dl⟩ := three_of S4.out.st.box
        go_wp2
        clear hmm d0 d1 d2 df dl
        have M1 : Hid (∃ X, ClM M w (.slice p d.nodes.length c1) (.slice pl d.links.length cl) (.slice pr d.roots.length cr) d br l FF g4 (.slice lp d.nodes.length lc) lab w9.heap.size (w9.heap.size + 1) (fun _ => none) (fun _ => none) X ((w9.alloc (.map #[] 0)).alloc (.map #[] 0))) := by
          have f2 : Fr NoB w9 ((w9.alloc (.map #[] 0)).alloc (.map #[] 0)) := ((Fr.refl NoB w9).alloc _).alloc _
          have hs := S4.out.st.x _ S4.out.st.bx
          refine ⟨fun q => X q ∨ (w9.heap.size ≤ q ∧ q < w9.heap.size + 2), ⟨⟨S4.out.st.grow f2 (fun q hq => hq.imp_right (fun h => ⟨h.1, by simp; omega⟩)) (.inl S4.out.st.bx), f2.at (fun h => h) S4.out.box, S4.out.row.fr f2 (fun _ _ h => h), fun b hb => .inl (S4.out.own b hb)⟩, ?_, ?_, .inr ⟨by omega, by omega⟩, .inr ⟨by omega, by omega⟩, by omega⟩⟩
          · exact (MpIs.new .string Value.string (Value.int .i64) w9).fr ((Fr.refl NoB _).alloc _) (fun h => h)
          · have h := MpIs.new .string Value.string Value.bool (w9.alloc (.map #[] 0))
            simp only [World.size_alloc] at h
            exact h
        obtain ⟨bw, hbw⟩ : ∃ bw, w9.heap.size = bw := ⟨_, rfl⟩
        rw [hbw] at M1 ⊢
        clear hbw
        go_loopw [54] (fun j wr => ∃ (k : Nat), k ≤ d.nodes.length ∧ j = .int .i64 k ∧ ∃ X gw gm, ClM M w (.slice p d.nodes.length c1) (.slice pl d.links.length cl) (.slice pr d.roots.length cr) d br l (FF ++ fls 10 (openAt (nsOf d) lab) k) g4 (.slice lp d.nodes.length lc) lab bw (bw + 1) gw gm X wr ∧ ClsI (keyAt (nsOf d) lab) (fun j => lab.getD j 0) k gw gm) (fun j _ => d.nodes.length - (intOf j).toNat)
        case atStart =>
          obtain ⟨X1, M1⟩ := M1.out
          exact ⟨0, Nat.zero_le _, rfl, X1, _, _, by simpa [fls] using M1, ClsI.init⟩
        case round =>
          obtain ⟨k, hk, rfl, X, gw, gm, hs, hi⟩ := hrel
          have S := hid hs
          have I := hid hi
          clear hs hi M1 S4 hrl' hmin
          by_cases hlt : k < d.nodes.length
          · obtain ⟨b, off, rfl, e0, e1, e2, e3, e4, ha⟩ := S.out.c.st.rd.nodes.nodeK hlt
            have HX := hid (nsOf_at hlt)
            have HMEM := hid (List.getElem_mem hlt)
            obtain ⟨x, hx⟩ : ∃ x, d.nodes[k] = x := ⟨_, rfl⟩
            rw [hx] at e0 e1 e2 e3 e4 ha HX HMEM
            obtain ⟨xn, xs⟩ := x
            simp only at e0 e1 e2 e3 e4 ha HX
            obtain ⟨xa, xc, hv⟩ := ha.form
            subst hv
            have HA := hid ha
            have HF1 := hid (fls_le 10 (openAt (nsOf d) lab) k)
            clear hx ha
            have c0 : wr.cell? ⟨g4, 0, none⟩ = some (.slice lp d.nodes.length lc) := by simp [World.cell?, S.out.c.box]
            have c0l := lt_of_cell c0
            go_wp2_with fail
            clear e0 e1 e2 e3 e4 c0 c0l
            have FA := (Fr.refl NoB wr).alloc (.cells (nodeCells xn (.slice xa xn.args.length xc)) 44)
            have S0 := hid (S.out.grow FA)
            have HA0 := hid (HA.out.fr FA (fun _ _ h => h.elim))
            obtain ⟨wb, hwb⟩ : ∃ wb, wr.alloc (.cells (nodeCells xn (.slice xa xn.args.length xc)) 44) = wb := ⟨_, rfl⟩
            rw [hwb] at S0 HA0 ⊢
            clear hwb FA S HA
            refine (classCanon_any g4 (.slice lp d.nodes.length lc) lab xn (.slice xa xn.args.length xc) wb S0.out.c.box _ S0.out.c.row (by rw [HLL.out]; exact hlen) (HA0.out.weaken (fun _ _ h => h.elim)) (Nat.le_trans (show xn.args.length ≤ 100000 from (HOK.out _ HMEM.out).2.args) (by omega)) (fun y hy => by rw [HLL.out]; exact HORD.out _ HMEM.out y hy)).mono ?_
            rintro e w2 ⟨a', c', rfl, hoc, hf⟩
            have S2 := hid (S0.out.grow hf)
            have OC := hid hoc
            clear hf hoc S0 HA0
            go_wp2_with fail
            refine (key_any NoB (canonN lab xn) (.slice a' xn.args.length c') w2 (OC.out.rd (fun _ _ h => h)) (HCO.out _ (HOK.out _ HMEM.out).1 (HORD.out _ HMEM.out)) (canon_sm (HOK.out _ HMEM.out).2) (HT.out.fr S2.out.c.st.fr HMT.out)).mono ?_
            rintro e w3 ⟨rfl, hf⟩
            have S3 := hid (S2.out.grow hf)
            have HKB : Hid (keyAt (nsOf d) lab k = keyB (canonN lab xn)) := by show _ = _; unfold keyAt; rw [HX.out]; rfl
            obtain ⟨kb, hkb⟩ : ∃ kb, keyB (canonN lab xn) = kb := ⟨_, rfl⟩
            rw [hkb] at HKB ⊢
            clear hf OC S2 hkb
            have HOP : Hid (openAt (nsOf d) lab k = true ↔ ∃ j, j < k ∧ keyAt (nsOf d) lab j = keyAt (nsOf d) lab k ∧ lab.getD j 0 ≠ lab.getD k 0) := open_key HNO.out (by rw [nsOf_length]; exact hlt)
            have c0 : w3.cell? ⟨g4, 0, none⟩ = some (.slice lp d.nodes.length lc) := by simp [World.cell?, S3.out.c.box]
            rcases S3.out.c.row.form' with ⟨_, hv⟩ | ⟨gl, lcap, hv, _, _, _⟩
            · have := HLL.out; rw [hv] at this; simp at this; omega
            rw [HLL.out] at hv
            simp only [Value.slice.injEq] at hv
            obtain ⟨rfl, _, rfl⟩ := hv
            have cl0 := S3.out.c.row.cell (i := k) (by rw [HLL.out]; exact hlt)
            obtain ⟨lk0, hlk0⟩ : ∃ q, lab.getD k 0 = q := ⟨_, rfl⟩
            rw [hlk0] at cl0
            have HLK0 := hid hlk0
            clear hlk0
            have lkw := S3.out.wd.look (P := Tryz.prog) kkString Tryz.underlying85 Tryz.underlying9 (z := .int .i64 0) (by kernel_rfl) kb true
            cases hg : gw kb with
            | none =>
              rw [hg] at lkw
              have HI := hid (I.out.fresh (by rw [HKB.out]; exact hg))
              rw [HKB.out] at HI
              obtain ⟨w4, p1, p2, p3⟩ := S3.out.wd.put (P := Tryz.prog) kkString Tryz.underlying85 Tryz.underlying9 kb lk0
              have S4 := hid (S3.out.turn (.inl rfl) p3 p2 (S3.out.mx.fr p3 (fun e => S3.out.ne e.symm)))
              have HV : Hid (openAt (nsOf d) lab k = false) := by
                show _ = _
                cases h : openAt (nsOf d) lab k with
                | false => rfl
                | true => exact absurd (by have := HOP.out.1 h; rw [HKB.out] at this; exact this) HI.out.2
              clear hg p2 p3
              go_wp2
              go_roundw
              case rel => exact ⟨k + 1, by omega, by go_num, X, _, _, by rw [fls_off HV.out]; exact S4.out, by have := HI.out.1; simp only [HLK0.out] at this; exact this⟩
              case measure => simp [intOf]; omega
            | some f =>
              rw [hg] at lkw
              have HG := hid hg
              have lkm := S3.out.mx.look (P := Tryz.prog) kkString Tryz.underlying154 Tryz.underlying9 (z := .bool false) (by kernel_rfl) kb false
              obtain ⟨mv, hmv⟩ : ∃ mv, (gm kb).getD false = mv := ⟨_, rfl⟩
              have hval : ((gm kb).map Value.bool).getD (.bool false) = .bool mv := by
                cases h : gm kb with
                | none => rw [h] at hmv; simp at hmv; rw [← hmv]; rfl
                | some b => rw [h] at hmv; simp at hmv; rw [← hmv]; rfl
              simp only [Bool.false_eq_true, if_false, hval] at lkm
              have HMV := hid hmv
              clear hg hmv hval
              by_cases hbad : mv = true ∨ f ≠ lk0
              · have HI := hid (I.out.bad (by rw [HKB.out]; exact HG.out) (by rw [HKB.out, HMV.out]; simp only [HLK0.out]; exact hbad))
                rw [HKB.out] at HI
                have HV : Hid (openAt (nsOf d) lab k = true) := HOP.out.2 (by rw [HKB.out]; exact HI.out.2)
                obtain ⟨w4, p1, p2, p3⟩ := S3.out.mx.put (P := Tryz.prog) kkString Tryz.underlying154 Tryz.underlying9 kb true
                have S4 := hid (S3.out.turn (.inr rfl) p3 (S3.out.wd.fr p3 S3.out.ne) p2)
                have RS := hid S4.out.c.st
                clear p2 p3
                cases mv with
                | true =>
                  clear hbad
                  obtain ⟨M3, n3, k3⟩ := RS.out.noted
                  have HN3 := hid n3
                  have HK3 := hid k3
                  clear n3 k3
                  go_wp2_with fail
                  refine (repAdd_any M3 _ br _ 10 k HN3.out ?_).mono ?_
                  · simp only [List.length_append]
                    have h1 := HF1.out; have h2 := HFL.out
                    omega
                  rintro e w9 ⟨rfl, ⟨M4, n4, g4⟩, f4⟩
                  have S9 := hid (HK3.out w9 M4 _ n4 g4 f4)
                  clear n4 g4 f4
                  have S9' := hid (S4.out.told S9.out.1 S9.out.2)
                  go_wp2
                  go_roundw
                  case rel => exact ⟨k + 1, by omega, by go_num, X, _, _, by rw [fls_on HV.out, ← List.append_assoc]; exact S9'.out, HI.out.1⟩
                  case measure => simp [intOf]; omega
                | false =>
                  have hfw : f ≠ lk0 := by simpa using hbad
                  clear hbad
                  obtain ⟨M3, n3, k3⟩ := RS.out.noted
                  have HN3 := hid n3
                  have HK3 := hid k3
                  clear n3 k3
                  go_wp2_with fail
                  refine (repAdd_any M3 _ br _ 10 k HN3.out ?_).mono ?_
                  · simp only [List.length_append]
                    have h1 := HF1.out; have h2 := HFL.out
                    omega
                  rintro e w9 ⟨rfl, ⟨M4, n4, g4⟩, f4⟩
                  have S9 := hid (HK3.out w9 M4 _ n4 g4 f4)
                  clear n4 g4 f4
                  have S9' := hid (S4.out.told S9.out.1 S9.out.2)
                  go_wp2
                  go_roundw
                  case rel => exact ⟨k + 1, by omega, by go_num, X, _, _, by rw [fls_on HV.out, ← List.append_assoc]; exact S9'.out, HI.out.1⟩
                  case measure => simp [intOf]; omega
              · have hmf : mv = false := by cases mv <;> simp_all
                have hfw : f = lk0 := by by_cases e : f = lk0; exact e; exact absurd (.inr e) hbad
                subst hmf
                have HI := hid (I.out.fine (by rw [HKB.out]; exact HG.out) (by rw [HKB.out]; exact HMV.out) (by simp only [HLK0.out]; exact hfw))
                have HV : Hid (openAt (nsOf d) lab k = false) := by
                  show _ = _
                  cases h : openAt (nsOf d) lab k with
                  | false => rfl
                  | true => exact absurd (HOP.out.1 h) HI.out.2
                clear hbad
                go_wp2
                go_roundw
                case rel => exact ⟨k + 1, by omega, by go_num, X, _, _, by rw [fls_off HV.out]; exact S3.out, HI.out.1⟩
                case measure => simp [intOf]; omega
          · obtain rfl : k = d.nodes.length := by omega
            go_wp2
            go_end0
            obtain ⟨M', h1, h2, _⟩ := S.out.c.st.rep
            have e : FF ++ fls 10 (openAt (nsOf d) lab) d.nodes.length = clsF (nsOf d) d.roots lab := by
              unfold clsF
              rw [nsOf_length, HFF.out]
            rw [e] at h1
            exact ⟨rfl, ⟨M', h1, h2⟩, S.out.c.st.fr⟩
end Go.Proofs.YtndfncaoejbkiaaGreatDoor
end
section
/- The walks of invariant's Look and Sound, and of the reference's Look. -/
namespace Go.Proofs.YtndfncaoejbkiaaGreatDoor
open Go.RowKit
set_option maxRecDepth 100000

theorem RdE.take {α : Type} {enc : α → List Value} {M : Nat → Prop} {w : World} {a : Option Addr} {n c : Nat} {l : List α} (h : RdE enc M w (.slice a n c) l) (k : Nat) (hk : k ≤ l.length) : RdE enc M w (.slice a k c) (l.take k) := by
  rcases h with ⟨⟨a', c', e, hc⟩, rfl⟩ | ⟨b, off, cap, e, h1, h2, h3, h4⟩
  · simp only [Value.slice.injEq] at e
    obtain ⟨rfl, rfl, rfl⟩ := e
    simp only [List.length_nil] at hk
    obtain rfl : k = 0 := by omega
    exact .inl ⟨⟨_, _, rfl, hc⟩, by simp⟩
  · simp only [Value.slice.injEq] at e
    obtain ⟨rfl, rfl, rfl⟩ := e
    refine .inr ⟨b, off, _, by rw [List.length_take, Nat.min_eq_left hk], h1, h2, by rw [List.length_take]; omega, fun j u hj => h4 j u ?_⟩
    have hs : flatE enc l = flatE enc (l.take k) ++ flatE enc (l.drop k) := by
      rw [← flatE_append, List.take_append_drop]
    rw [hs, List.getElem?_append_left (List.getElem?_eq_some_iff.1 hj).1]
    exact hj
theorem formF_name {d : Dmp} (h : formF (nsOf d) = []) : ∀ x ∈ d.nodes, x.1.name.size ≤ 100000000 := by
  intro x hx
  obtain ⟨i, hi, rfl⟩ := List.getElem_of_mem hx
  unfold formF at h
  rw [List.append_eq_nil_iff, List.append_eq_nil_iff, nsOf_length] at h
  have hs := fls_nil h.1.1 i hi
  unfold malfAt at hs
  rw [nsOf_at hi] at hs
  simp only [Option.elim_some, malfS, Bool.or_eq_false_iff, Bool.not_eq_false'] at hs
  have hf := (formedS_iff.1 hs.1).2.2.2
  by_cases e : d.nodes[i].1.op = 1
  · rw [if_pos e] at hf
    have h9 := hf.2
    by_cases c : 16 < d.nodes[i].1.name.size
    · rw [nameS_len (.inr c)] at h9; cases h9
    · omega
  · rw [if_neg e] at hf
    have h9 := hf.1
    rw [List.isEmpty_iff] at h9
    have : d.nodes[i].1.name = ⟨#[]⟩ := toList_inj (by rw [h9, toList_data])
    rw [this]
    exact Nat.zero_le _
/-- The state of Look: what its report holds. -/
structure LookS (w : World) (sN sL sR : Value) (d : Dmp) (l : List Flw) (W : World) : Prop where
  fr : Fr NoB w W
  rd : RdD (fun q => w.heap.size ≤ q) W sN sL sR d
  box : W.heap[w.heap.size]? = some (.cells (dumpCells sN sL sR) 26 (0, 0))
  rep : ∃ M, RepAt M W (w.heap.size + 1) l ∧ ∀ q, M q → w.heap.size < q
theorem LookS.start {w : World} {sN sL sR : Value} {d : Dmp} (hd : RdD NoB w sN sL sR d) : LookS w sN sL sR d [] ((w.alloc (.cells (dumpCells sN sL sR) 26)).alloc (.cells #[.slice none 0 0] 118)) := by
  have f := ((Fr.refl NoB w).alloc (.cells (dumpCells sN sL sR) 26)).alloc (.cells #[.slice none 0 0] 118)
  have f1 := (Fr.refl NoB (w.alloc (.cells (dumpCells sN sL sR) 26))).alloc (.cells #[.slice none 0 0] 118)
  refine ⟨f, (hd.more.weaken (fun k _ h => .inr h)).step f, f1.at (fun h => h) (at_new w _), fun q => q = w.heap.size + 1, ⟨⟨_, at_new' (by simp), OwnE.nil _ _ _ _ _, fun b hb => by cases hb⟩, rfl, fun k hk => ?_⟩, fun q hq => ?_⟩
  · have : k = w.heap.size + 1 := hk
    simp only [World.size_alloc]; omega
  · have : q = w.heap.size + 1 := hq
    omega
/-- A call that may report. -/
theorem LookS.call {w : World} {sN sL sR : Value} {d : Dmp} {l : List Flw} {W : World} (h : LookS w sN sL sR d l W) : ∃ M, RepAt M W (w.heap.size + 1) l ∧ RdD M W sN sL sR d ∧ (∀ q, M q → w.heap.size < q) ∧
    ∀ W2 l2, (∃ M', RepAt M' W2 (w.heap.size + 1) l2 ∧ Gr M M' W) → Fr M W W2 → LookS w sN sL sR d l2 W2 := by
  obtain ⟨h1, h2, h3, M, h4, h5⟩ := h
  refine ⟨M, h4, h2.weaken (fun k _ hk => Nat.le_of_lt (h5 k hk)), h5, fun W2 l2 ⟨M', h6, h7⟩ hf => ⟨h1.trans' hf (fun k hk e => by have := h5 k e; omega), h2.fr hf (fun k _ hk => Nat.le_of_lt (h5 k hk)), hf.at (fun e => Nat.lt_irrefl _ (h5 _ e)) h3, M', h6, fun q hq => ?_⟩⟩
  rcases h7 q hq with h | h
  · exact h5 q h
  · have h9 := (Array.getElem?_eq_some_iff.1 h3).1
    omega

set_option maxHeartbeats 4000000 in
theorem look_any (sN sL sR : Value) (d : Dmp) (w : World) (hd : RdD NoB w sN sL sR d) (hlen : d.nodes.length ≤ 1000000) (hlk : d.links.length ≤ 1000000) (hlr : d.roots.length ≤ 1000000) (hla : ∀ x ∈ d.nodes, x.1.args.length ≤ 100000) (hok : ∀ x ∈ d.nodes, NodeOk x.1) (ht : Tab w) :
    Calls Tryz.prog 57 #[dumpV sN sL sR] w fun e w' => ∃ v, e = .returned v ∧ RdE flCells NoB w' v ((allF (nsOf d) d.links d.roots).take 64) ∧ Fr NoB w w' := by
  have S0 := hid (LookS.start hd)
  have HT := hid ht
  have HTL := hid ht.lt
  have HLA := hid hla
  have HOK := hid hok
  have HLA2 : Hid (∀ x ∈ d.nodes, x.1.args.length ≤ 1000000) := fun x hx => Nat.le_trans (hla x hx) (by omega)
  clear hd ht hla hok
  unfold dumpV
  go_enter Tryz.func57, Tryz.ntmps57
  obtain ⟨d0, d1, d2, df, dl⟩ := three_of S0.out.box
  go_wp2_with fail
  clear d0 d1 d2 df dl
  obtain ⟨M, hr, hd, hM, post⟩ := S0.out.call
  have POST := hid post
  refine (nodes_any M _ _ _ d _ _ [] hd hr hlen (by simp) HLA2.out).mono ?_
  rintro e w1 ⟨rfl, hx, hf⟩
  have S1 := hid (POST.out w1 _ hx hf)
  rw [List.nil_append] at S1
  clear hx hf post POST hr hd hM S0
  by_cases hnil : formF (nsOf d) = []
  rotate_left
  · have hq : decide (formF (nsOf d) = []) = false := by simpa using hnil
    have HLL0 : Hid (allF (nsOf d) d.links d.roots = formF (nsOf d)) := by show _ = _; unfold allF; rw [if_neg hnil]
    rw [hq]
    obtain ⟨LL, hLL⟩ : ∃ LL, formF (nsOf d) = LL := ⟨_, rfl⟩
    have hlle : LL.length ≤ 9000000 := by rw [← hLL]; exact Nat.le_trans (formF_le d) (by omega)
    rw [hLL] at S1 HLL0
    have HLL := hid HLL0.out
    clear hnil hq hLL HLL0
    obtain ⟨M, hr, hM⟩ := S1.out.rep
    obtain ⟨⟨v, hb, ho, hv⟩, _, _⟩ := hr
    obtain ⟨vp, vc, e⟩ := OwnE.form ho
    subst e
    have hcap : LL.length ≤ vc := by
      rcases OwnE.form' ho with ⟨e1, e2⟩ | ⟨g, cap, e1, _, _, e2⟩
      · rw [e2]; exact Nat.zero_le _
      · simp only [Value.slice.injEq] at e1
        rw [e1.2.2]; exact e2
    have c0 : w1.cell? ⟨w.heap.size + 1, 0, none⟩ = some (.slice vp LL.length vc) := by simp [World.cell?, hb]
    have c0l := lt_of_cell c0
    obtain ⟨K, hK⟩ : ∃ K : Nat, min LL.length 64 = K := ⟨_, rfl⟩
    have hmin : min (LL.length : Int) 64 = (K : Int) := by omega
    have hKl : K ≤ LL.length := by omega
    have hKc : K ≤ vc := by omega
    have OW := hid ho
    have HK := hid hK
    clear ho hb hv hM hK
    go_wp2
    refine region_txt (Fr NoB _) (by kernel_rfl) (by kernel_rfl) ((Fr.refl NoB _).drew) ?_
    repeat (first | (refine txt_off (by rfl) ?_; (try simp only [Act.put, List.setIfInBounds_toArray, List.set_cons_zero, List.set_cons_succ])) | (refine txt_read ?_ (by rfl) ?_ ?_; rotate_left; (focus (intro W hW; have hWc := Fr.cq hW; clear hW; go_simp; (try with_reducible rfl); done)); (try simp only [Act.put, List.setIfInBounds_toArray, List.set_cons_zero, List.set_cons_succ])))
    refine txt_nil ?_
    intro W hW
    go_wp2
    go_ret
    have hrd := ((OwnE.rd OW.out (M := NoB) (fun _ _ h => h)).take K hKl).fr hW (fun _ _ h => h)
    rw [show LL.take K = LL.take 64 by rw [← HK.out, ← List.take_take, List.take_of_length_le (by rw [List.length_take]; omega)]] at hrd
    exact ⟨_, rfl, by rw [HLL.out]; exact hrd, S1.out.fr.step hW⟩
  · have hq : decide (formF (nsOf d) = []) = true := by simpa using hnil
    have HORD := hid (formF_ord hnil)
    have HSM : Hid (∀ x ∈ d.nodes, NodeOk x.1 ∧ NodeSm x.1) := fun x hx => ⟨HOK.out x hx, HLA.out x hx, formF_name hnil x hx⟩
    have HNIL := hid hnil
    rw [hq]
    rw [hnil] at S1
    clear hnil hq
    have f1 := fls_le 4 (twiceAt (nsOf d)) d.nodes.length
    have f2 := lkPre_le (nsOf d) d.links 3
    have f3 := fls_le 8 (lkRless (nsOf d) d.links) d.links.length
    have f4 : (clsF (nsOf d) d.roots (lbAt d.nodes.length d.links d.links.length)).length ≤ 3000001 := by
      unfold clsF
      have g1 := fls_le 9 (fun i => d.roots.getD i 0 != (lbAt d.nodes.length d.links d.links.length).getD i 0) (min d.roots.length (nsOf d).length)
      have g2 := fls_le 10 (openAt (nsOf d) (lbAt d.nodes.length d.links d.links.length)) (nsOf d).length
      rw [nsOf_length] at g1 g2 ⊢
      rw [List.length_append, List.length_append]
      unfold rootsF
      split <;> simp only [List.length_nil, List.length_singleton] <;> omega
    have HLL0 : Hid (allF (nsOf d) d.links d.roots = fls 4 (twiceAt (nsOf d)) d.nodes.length ++ lkPre (nsOf d) d.links 3 ++ fls 8 (lkRless (nsOf d) d.links) d.links.length ++ clsF (nsOf d) d.roots (lbAt d.nodes.length d.links d.links.length)) := by
      show _ = _
      unfold allF clsF linksF
      rw [if_pos HNIL.out, nsOf_length]
      simp only [List.append_assoc]
    have HB := hid (And.intro f1 (And.intro f2 (And.intro f3 f4)))
    clear f1 f2 f3 f4
    obtain ⟨d0, d1, d2, df, dl⟩ := three_of S1.out.box
    go_wp2_with fail
    clear d0 d1 d2 df dl
    obtain ⟨M, hr, hd, hM, post⟩ := S1.out.call
    have POST := hid post
    refine (twice2_any M _ _ _ d _ _ [] hd hr hlen (by simp) (HT.out.fr S1.out.fr (fun h => h)) (fun h => absurd (hM _ h) (by have := HTL.out; omega)) HSM.out HORD.out).mono ?_
    rintro e w2 ⟨rfl, hx, hf⟩
    have S2 := hid (POST.out w2 _ hx hf)
    rw [List.nil_append] at S2
    clear hx hf post POST hr hd hM S1
    obtain ⟨d0, d1, d2, df, dl⟩ := three_of S2.out.box
    go_wp2_with fail
    clear d0 d1 d2 df dl
    obtain ⟨M, hr, hd, hM, post⟩ := S2.out.call
    have POST := hid post
    refine (links_any M _ _ _ d _ _ _ hd hr hlen hlk (by have := HB.out; omega)).mono ?_
    rintro e w3 ⟨rfl, hx, hf⟩
    have S3 := hid (POST.out w3 _ hx hf)
    clear hx hf post POST hr hd hM S2
    obtain ⟨d0, d1, d2, df, dl⟩ := three_of S3.out.box
    go_wp2_with fail
    clear d0 d1 d2 df dl
    obtain ⟨M, hr, hd, hM, post⟩ := S3.out.call
    have POST := hid post
    refine (reasons_any M _ _ _ d _ _ _ hd hr hlen hlk (by have := HB.out; rw [List.length_append]; omega) HLA2.out HORD.out).mono ?_
    rintro e w4 ⟨rfl, hx, hf⟩
    have S4 := hid (POST.out w4 _ hx hf)
    clear hx hf post POST hr hd hM S3
    obtain ⟨d0, d1, d2, df, dl⟩ := three_of S4.out.box
    go_wp2_with fail
    clear d0 d1 d2 df dl
    obtain ⟨M, hr, hd, hM, post⟩ := S4.out.call
    have POST := hid post
    refine (classes_any M _ _ _ d _ _ _ hd hr hlen hlk hlr (by have := HB.out; rw [List.length_append, List.length_append]; omega) (HT.out.fr S4.out.fr (fun h => h)) (fun h => absurd (hM _ h) (by have := HTL.out; omega)) HSM.out HORD.out).mono ?_
    rintro e w5 ⟨rfl, hx, hf⟩
    have S5 := hid (POST.out w5 _ hx hf)
    clear hx hf post POST hr hd hM S4
    obtain ⟨LL, hLL⟩ : ∃ LL, fls 4 (twiceAt (nsOf d)) d.nodes.length ++ lkPre (nsOf d) d.links 3 ++ fls 8 (lkRless (nsOf d) d.links) d.links.length ++ clsF (nsOf d) d.roots (lbAt d.nodes.length d.links d.links.length) = LL := ⟨_, rfl⟩
    have hlle : LL.length ≤ 9000000 := by
      have := HB.out
      rw [← hLL]
      simp only [List.length_append]
      omega
    rw [hLL] at S5 HLL0
    have HLL := hid HLL0.out
    clear hLL HLL0 HB
    obtain ⟨M, hr, hM⟩ := S5.out.rep
    obtain ⟨⟨v, hb, ho, hv⟩, _, _⟩ := hr
    obtain ⟨vp, vc, e⟩ := OwnE.form ho
    subst e
    have hcap : LL.length ≤ vc := by
      rcases OwnE.form' ho with ⟨e1, e2⟩ | ⟨g, cap, e1, _, _, e2⟩
      · rw [e2]; exact Nat.zero_le _
      · simp only [Value.slice.injEq] at e1
        rw [e1.2.2]; exact e2
    have c0 : w5.cell? ⟨w.heap.size + 1, 0, none⟩ = some (.slice vp LL.length vc) := by simp [World.cell?, hb]
    have c0l := lt_of_cell c0
    obtain ⟨K, hK⟩ : ∃ K : Nat, min LL.length 64 = K := ⟨_, rfl⟩
    have hmin : min (LL.length : Int) 64 = (K : Int) := by omega
    have hKl : K ≤ LL.length := by omega
    have hKc : K ≤ vc := by omega
    have OW := hid ho
    have HK := hid hK
    clear ho hb hv hM hK
    go_wp2
    refine region_txt (Fr NoB _) (by kernel_rfl) (by kernel_rfl) ((Fr.refl NoB _).drew) ?_
    repeat (first | (refine txt_off (by rfl) ?_; (try simp only [Act.put, List.setIfInBounds_toArray, List.set_cons_zero, List.set_cons_succ])) | (refine txt_read ?_ (by rfl) ?_ ?_; rotate_left; (focus (intro W hW; have hWc := Fr.cq hW; clear hW; go_simp; (try with_reducible rfl); done)); (try simp only [Act.put, List.setIfInBounds_toArray, List.set_cons_zero, List.set_cons_succ])))
    refine txt_nil ?_
    intro W hW
    go_wp2
    go_ret
    have hrd := ((OwnE.rd OW.out (M := NoB) (fun _ _ h => h)).take K hKl).fr hW (fun _ _ h => h)
    rw [show LL.take K = LL.take 64 by rw [← HK.out, ← List.take_take, List.take_of_length_le (by rw [List.length_take]; omega)]] at hrd
    exact ⟨_, rfl, by rw [HLL.out]; exact hrd, S5.out.fr.step hW⟩
end Go.Proofs.YtndfncaoejbkiaaGreatDoor
end
section
/- The walks of Sound, the two Names, the reference's Look and SameInts, and light. (printed by gen_sho.py) -/
namespace Go.Proofs.YtndfncaoejbkiaaGreatDoor
open Go.RowKit
set_option maxRecDepth 100000

theorem RdI.cellN {M : Nat → Prop} {w : World} {p : Option Addr} {n c : Nat} {l : List Int} (h : RdI M w (.slice p n c) l) {k : Nat} (hk : k < l.length) : ∃ b off, p = some ⟨b, off, none⟩ ∧ w.cell? ⟨b, off + k, none⟩ = some (.int .i64 l[k]) := by
  obtain ⟨b, off, h1, h2⟩ := h.cellK hk
  rw [List.getD_eq_getElem?_getD, List.getElem?_eq_getElem hk] at h2
  exact ⟨b, off, h1, h2⟩
def nmS (x : Int) : ByteArray := if x = 1 then ⟨#[109, 97, 108, 102, 111, 114, 109, 101, 100]⟩ else if x = 2 then ⟨#[111, 114, 100, 101, 114]⟩ else if x = 3 then ⟨#[119, 105, 100, 116, 104, 115]⟩ else if x = 4 then ⟨#[116, 119, 105, 99, 101]⟩ else if x = 5 then ⟨#[108, 105, 110, 107, 114, 97, 110, 103, 101]⟩ else if x = 6 then ⟨#[108, 105, 110, 107, 108, 111, 111, 112]⟩ else if x = 7 then ⟨#[108, 105, 110, 107, 119, 105, 100, 116, 104]⟩ else if x = 8 then ⟨#[108, 105, 110, 107, 114, 101, 97, 115, 111, 110]⟩ else if x = 9 then ⟨#[114, 111, 111, 116, 115]⟩ else if x = 10 then ⟨#[99, 108, 111, 115, 117, 114, 101]⟩ else ⟨#[]⟩
set_option maxHeartbeats 4000000 in
theorem sound_any (sN sL sR : Value) (d : Dmp) (w : World) (hd : RdD NoB w sN sL sR d) (hlen : d.nodes.length ≤ 1000000) (hlk : d.links.length ≤ 1000000) (hlr : d.roots.length ≤ 1000000) (hla : ∀ x ∈ d.nodes, x.1.args.length ≤ 100000) (hok : ∀ x ∈ d.nodes, NodeOk x.1) (ht : Tab w) :
    Calls Tryz.prog 50 #[dumpV sN sL sR] w fun e w' => e = .returned (.bool (decide (allF (nsOf d) d.links d.roots = []))) ∧ Fr NoB w w' := by
  have fa := (Fr.refl NoB w).alloc (.cells (dumpCells sN sL sR) 26)
  have HD := hid (hd.step fa)
  have HT := hid (ht.fr fa (fun h => h))
  have HOK := hid hok
  have HLA := hid hla
  clear hd ht hla hok fa
  unfold dumpV
  go_enter Tryz.func50, Tryz.ntmps50
  go_wp2_with fail
  refine (look_any _ _ _ d _ HD.out hlen hlk hlr HLA.out HOK.out HT.out).mono ?_
  rintro e w1 ⟨v, rfl, hr, hf⟩
  obtain ⟨pa, ca, hp⟩ := hr.formF
  subst hp
  have HF := hid (((Fr.refl NoB w).alloc (.cells (dumpCells sN sL sR) 26)).step hf)
  obtain ⟨LL, hLL⟩ : ∃ LL, allF (nsOf d) d.links d.roots = LL := ⟨_, rfl⟩
  have HLL := hid hLL
  rw [hLL] at hr ⊢
  clear hr hf hLL
  by_cases hn : LL = []
  · subst hn
    go_wp2
    go_ret
    exact ⟨by rw [HLL.out]; rfl, HF.out⟩
  · obtain ⟨K, hK⟩ : ∃ K, (LL.take 64).length = K := ⟨_, rfl⟩
    have hKp : ¬ (K : Int) = 0 := by
      have := List.length_pos_iff.2 hn
      rw [← hK, List.length_take]; omega
    rw [hK]
    have HN := hid hn
    clear hn hK
    go_wp2
    go_ret
    exact ⟨by rw [HLL.out, decide_eq_false HN.out]; exact ret_bool (by simpa using hKp), HF.out⟩

end Go.Proofs.YtndfncaoejbkiaaGreatDoor
end
section
/- The walks of egraph.New, FromDump and Restore at the empty dump, Load of its encoding, Save(nil), Len. -/
namespace Go.Proofs.YtndfncaoejbkiaaGreatDoor
open Go.RowKit
set_option maxRecDepth 100000

theorem ufnew_any (w : World) : Calls Tryz.prog 74 #[] w fun e w' => ∃ b, e = .returned (.pointer (some ⟨b, 0, none⟩)) ∧ w.heap.size ≤ b ∧ w'.heap[b]? = some (.cells #[.bool true, .slice none 0 0, .slice none 0 0] 128 (0, 0)) ∧ Fr NoB w w' := by
  go_enter Tryz.func74, Tryz.ntmps74
  go_wp2
  go_ret
  exact ⟨_, rfl, Nat.le_refl _, at_new w _, (Fr.refl NoB w).alloc _⟩
/-- A graph without nodes. -/
def GrEmpty (B : Nat) (w : World) (bg : Nat) : Prop := ∃ bc c0 c2 c3 c4 c5 c6 c7 c8 c9 c10, (B ≤ bg ∧ B ≤ bc) ∧ w.heap[bg]? = some (.cells #[.pointer (some ⟨bc, 0, none⟩)] 91 (0, 0)) ∧ w.heap[bc]? = some (.cells #[c0, .slice none 0 0, c2, c3, c4, c5, c6, c7, c8, c9, c10] 88 (0, 0))
theorem GrEmpty.step {B B' : Nat} {w w' : World} {bg : Nat} (h : GrEmpty B w bg) (hf : Fr NoB w w') (hB : B' ≤ B) : GrEmpty B' w' bg := by
  obtain ⟨bc, c0, c2, c3, c4, c5, c6, c7, c8, c9, c10, h0, h1, h2⟩ := h
  exact ⟨bc, c0, c2, c3, c4, c5, c6, c7, c8, c9, c10, ⟨by omega, by omega⟩, hf.at (fun h => h) h1, hf.at (fun h => h) h2⟩
theorem enew_min (w : World) : Calls Tryz.prog 58 #[] w fun e w' => ∃ bg, e = .returned (.pointer (some ⟨bg, 0, none⟩)) ∧ GrEmpty w.heap.size w' bg ∧ Fr NoB w w' := by
  have hmm := @run_makeMap Tryz.prog
  go_enter Tryz.func58, Tryz.ntmps58
  go_wp2_with fail
  refine (ufnew_any w).mono ?_
  rintro e w1 ⟨b1, rfl, _, _, h1⟩
  have F1 := hid h1
  clear h1
  go_wp2_with fail
  refine (new_any w1).mono ?_
  rintro e w2 ⟨bm, bt, rfl, _, _, _, _, h2⟩
  have F2 := hid (F1.out.step h2)
  clear h2
  go_wp2_with fail
  refine (new_any w2).mono ?_
  rintro e w3 ⟨bm2, bt2, rfl, _, _, _, _, h2⟩
  have F3 := hid (F2.out.step h2)
  clear h2
  go_wp2_with fail
  refine (fnew_any w3).mono ?_
  rintro e w4 ⟨bf, M, rfl, _, _, h2⟩
  have F4 := hid (F3.out.step h2)
  clear h2
  go_wp2
  go_ret
  refine ⟨w4.heap.size + 2, by first | rfl | (simp; done), ⟨w4.heap.size + 1, _, _, _, _, _, _, _, _, _, _, ⟨by have := F4.out.size; omega, by have := F4.out.size; omega⟩, at_new' (by simp), at_old (at_new' (by simp)) _⟩, ((F4.out.alloc _).alloc _).alloc _⟩
theorem made_min (B bg : Nat) (w : World) (h : GrEmpty B w bg) : Calls Tryz.prog 42 #[.pointer (some ⟨bg, 0, none⟩)] w fun e w' => e = .returned (.bool true) ∧ w' = w := by
  obtain ⟨bc, c0, c2, c3, c4, c5, c6, c7, c8, c9, c10, _, h1, h2⟩ := h
  have e0 : w.cell? ⟨bg, 0, none⟩ = some (.pointer (some ⟨bc, 0, none⟩)) := by simp [World.cell?, h1]
  have n1 : ∀ (W : World) (a : Addr), (binOp .neq 45 (.pointer (some a)) (.pointer none)).run Tryz.prog W = .ok (.bool true) W := fun _ _ => by kernel_rfl
  have n2 : ∀ (W : World) (a : Addr), (binOp .neq 89 (.pointer (some a)) (.pointer none)).run Tryz.prog W = .ok (.bool true) W := fun _ _ => by kernel_rfl
  clear h1 h2
  go_enter Tryz.func42, Tryz.ntmps42
  go_wp2
  go_ret
  exact ⟨rfl, rfl⟩
theorem len_min (B bg : Nat) (w : World) (h : GrEmpty B w bg) : Calls Tryz.prog 20 #[.pointer (some ⟨bg, 0, none⟩)] w fun e w' => e = .returned (.int .i64 0) ∧ w' = w := by
  have H := hid h
  obtain ⟨bc, c0, c2, c3, c4, c5, c6, c7, c8, c9, c10, _, h1, h2⟩ := h
  have e0 : w.cell? ⟨bg, 0, none⟩ = some (.pointer (some ⟨bc, 0, none⟩)) := by simp [World.cell?, h1]
  have e1 : w.cell? ⟨bc, 1, none⟩ = some (.slice none 0 0) := by simp [World.cell?, h2]
  clear h1 h2
  go_enter Tryz.func20, Tryz.ntmps20
  go_wp2_with fail
  refine (made_min B bg w H.out).mono ?_
  rintro e w' ⟨rfl, h9⟩
  have h9 := h9.symm
  subst h9
  go_wp2
  go_ret
  exact ⟨rfl, rfl⟩
set_option maxHeartbeats 4000000 in
theorem fromdump_min (sN sL sR : Value) (aN aL : Option Addr) (cN cL : Nat) (w : World) (hN : sN = .slice aN 0 cN) (hL : sL = .slice aL 0 cL) : Calls Tryz.prog 51 #[dumpV sN sL sR] w fun e w' => ∃ bg, e = .returned (.tuple #[.pointer (some ⟨bg, 0, none⟩), .bool true]) ∧ GrEmpty w.heap.size w' bg ∧ Fr NoB w w' := by
  subst hN
  subst hL
  have F1 : Hid (Fr NoB w (w.alloc (.cells (dumpCells (.slice aN 0 cN) (.slice aL 0 cL) sR) 26))) := (Fr.refl NoB w).alloc _
  have B1 := hid (at_new w (.cells (dumpCells (.slice aN 0 cN) (.slice aL 0 cL) sR) 26))
  unfold dumpV
  go_enter Tryz.func51, Tryz.ntmps51
  go_wp2_with fail
  refine (enew_min _).mono ?_
  rintro e w1 ⟨bg, rfl, hg, hf⟩
  have B2 := hid (hf.at (fun h => h) B1.out)
  have F2 := hid (F1.out.step hf)
  obtain ⟨bc, c0, c2, c3, c4, c5, c6, c7, c8, c9, c10, ⟨hb1, hb2⟩, h1, h2⟩ := hg
  have HB : Hid (w.heap.size < bg ∧ w.heap.size < bc) := by simp only [World.size_alloc] at hb1 hb2; exact ⟨by omega, by omega⟩
  have H1 := hid h1
  have H2 := hid h2
  have e0 : w1.cell? ⟨bg, 0, none⟩ = some (.pointer (some ⟨bc, 0, none⟩)) := by simp [World.cell?, h1]
  obtain ⟨d0, d1, d2, df, dl⟩ := three_of B2.out
  clear hf hb1 hb2 h1 h2
  go_wp2
  refine wp_loop_rounds 1 ?_
  rw [rounds_succ]
  go_wp2
  refine wp_loop_rounds 1 ?_
  rw [rounds_succ]
  go_wp2_with fail
  refine (new_any w1).mono ?_
  rintro e w2 ⟨bm, bt, rfl, _, _, _, _, hf⟩
  have F3 := hid (F2.out.step hf)
  have h1 := hf.at (fun h => h) H1.out
  have h2 := hf.at (fun h => h) H2.out
  have H3 := hid h1
  have H4 := hid h2
  have e5 : w2.cell? ⟨bc, 5, none⟩ = some c5 := by simp [World.cell?, h2]
  have ef : w2.frozen? ⟨bc, 5, none⟩ = false := by simp [World.frozen?, h2]
  have G5 : Fr (fun k => k = bc) w2 (w2.setCell ⟨bc, 5, none⟩ (.pointer (some ⟨bt, 0, none⟩))) := (Fr.refl (fun k => k = bc) w2).setCell (p := ⟨bc, 5, none⟩) (fun _ => rfl) _
  have H6 := hid (set_at H4.out 5 (.pointer (some ⟨bt, 0, none⟩)))
  have hne : bg ≠ bc := fun e => ne_of_types h1 h2 (by decide) e
  have H5 := hid (G5.at hne H3.out)
  have F6 : Hid (Fr NoB w (w2.setCell ⟨bc, 5, none⟩ (.pointer (some ⟨bt, 0, none⟩)))) := F3.out.trans' G5 (fun k hk e => by have := HB.out.2; have e2 : k = bc := e; omega)
  have e6 : (w2.setCell ⟨bc, 5, none⟩ (.pointer (some ⟨bt, 0, none⟩))).cell? ⟨bc, 1, none⟩ = some (.slice none 0 0) := by have h := H6.out; simp [World.cell?, h]
  clear hf h1 h2 G5 hne
  go_wp2
  refine wp_loop_rounds 1 ?_
  rw [rounds_succ]
  go_wp2
  go_ret2
  exact ⟨bg, rfl, ⟨bc, _, _, _, _, _, _, _, _, _, _, ⟨Nat.le_of_lt HB.out.1, Nat.le_of_lt HB.out.2⟩, H5.out, H6.out⟩, F6.out⟩
set_option maxHeartbeats 4000000 in
theorem restore_min (sN sL sR : Value) (w : World) (hd : RdD NoB w sN sL sR emptyD) (ht : Tab w) : Calls Tryz.prog 39 #[dumpV sN sL sR] w fun e w' => ∃ bg, e = .returned (.tuple #[.pointer (some ⟨bg, 0, none⟩), .int .i64 0]) ∧ GrEmpty w.heap.size w' bg ∧ Fr NoB w w' := by
  obtain ⟨pN, cN, rfl⟩ := hd.nodes.form
  obtain ⟨pL, cL, rfl⟩ := hd.links.form
  obtain ⟨pR, cR, rfl⟩ := hd.roots.form
  have F1 : Hid (Fr NoB w (w.alloc (.cells (dumpCells (.slice pN emptyD.nodes.length cN) (.slice pL emptyD.links.length cL) (.slice pR emptyD.roots.length cR)) 26))) := (Fr.refl NoB w).alloc _
  have B1 := hid (at_new w (.cells (dumpCells (.slice pN emptyD.nodes.length cN) (.slice pL emptyD.links.length cL) (.slice pR emptyD.roots.length cR)) 26))
  have HD := hid (hd.step F1.out)
  have T1 := hid (ht.fr F1.out (fun h => h))
  clear hd ht
  unfold dumpV
  go_enter Tryz.func39, Tryz.ntmps39
  go_wp2_with fail
  refine (sound_any _ _ _ emptyD _ HD.out (by simp [emptyD]) (by simp [emptyD]) (by simp [emptyD]) (fun x hx => by simp [emptyD] at hx) (fun x hx => by simp [emptyD] at hx) T1.out).mono ?_
  rintro e w1 ⟨rfl, hf⟩
  rw [show decide (allF (nsOf emptyD) emptyD.links emptyD.roots = []) = true by decide]
  have B2 := hid (hf.at (fun h => h) B1.out)
  have F2 := hid (F1.out.step hf)
  obtain ⟨d0, d1, d2, df, dl⟩ := three_of B2.out
  clear hf
  go_wp2_with fail
  refine (fromdump_min _ _ _ pN pL cN cL w1 rfl rfl).mono ?_
  rintro e w2 ⟨bg, rfl, hg, hf⟩
  have G2 := hid (hg.step (Fr.refl NoB w2) F2.out.size)
  have F3 := hid (F2.out.step hf)
  clear hf hg d0 d1 d2 df dl
  go_wp2
  go_ret2
  exact ⟨bg, rfl, G2.out, F3.out⟩
set_option maxHeartbeats 4000000 in
theorem load_min (v : Value) (l : List UInt8) (w : World) (h : RdY NoB w v l) (hl : l.length ≤ 1000000) (hx : decE (nats l) = .ok ⟨[], [], []⟩) (ht : Tab w) :
    Calls Tryz.prog 18 #[v] w fun e w' => ∃ bg, e = .returned (.tuple #[.pointer (some ⟨bg, 0, none⟩), .int .i64 0]) ∧ GrEmpty w.heap.size w' bg ∧ Fr NoB w w' := by
  obtain ⟨p, c, hp⟩ := RdY.form h
  subst hp
  have H := hid h
  have HX := hid hx
  have HT := hid ht
  clear h hx ht
  go_enter Tryz.func18, Tryz.ntmps18
  go_wp2_with fail
  refine (decode_any _ l w H.out hl).mono ?_
  rintro e w1 h1
  rw [HX.out] at h1
  obtain ⟨sN, sL, sR, d, rfl, hd, hdm, hf⟩ := h1
  have hde : d = emptyD := by
    obtain ⟨dn, dl, dr⟩ := d
    simp only [decR, dmOf, Dm.mk.injEq] at hdm
    obtain ⟨h1, h2, h3⟩ := hdm
    have : dn = [] := by simpa using h1
    subst this; subst h2; subst h3; rfl
  subst hde
  have F1 := hid (hf.alloc (.cells (dumpCells sN sL sR) 26))
  have D1 := hid (hd.step ((Fr.refl NoB w1).alloc (.cells (dumpCells sN sL sR) 26)))
  have T1 := hid (HT.out.fr F1.out (fun h => h))
  obtain ⟨pN, cN, rfl⟩ := hd.nodes.form
  obtain ⟨pL, cL, rfl⟩ := hd.links.form
  obtain ⟨pR, cR, rfl⟩ := hd.roots.form
  clear hd hdm hf
  simp only [decR]
  go_wp2_with fail
  refine (restore_min _ _ _ _ D1.out T1.out).mono ?_
  rintro e w2 ⟨bg, rfl, hg, hf⟩
  have G2 := hid (hg.step (Fr.refl NoB w2) F1.out.size)
  have F3 := hid (F1.out.step hf)
  clear hf hg
  go_wp2
  go_ret2
  exact ⟨bg, rfl, G2.out, F3.out⟩
theorem save_nil (w : World) : Calls Tryz.prog 19 #[.pointer none] w fun e w' => e = .returned (.tuple #[.slice none 0 0, .int .i64 11]) ∧ w' = w := by
  have n1 : ∀ (W : World), (binOp .eql 45 (.pointer none) (.pointer none)).run Tryz.prog W = .ok (.bool true) W := fun _ => by kernel_rfl
  go_enter Tryz.func19, Tryz.ntmps19
  go_wp2
  go_ret2
  exact ⟨rfl, rfl⟩
end Go.Proofs.YtndfncaoejbkiaaGreatDoor
end
section
/- The walk of lives. -/
namespace Go.Proofs.YtndfncaoejbkiaaGreatDoor
open Go.RowKit
set_option maxRecDepth 100000

theorem rdY_newF {M : Nat → Prop} {w : World} {b : Nat} {l : List UInt8} {n c : Nat} {cs : Array Value} {e : TypeId} {f : Nat × Nat} (h : w.heap[b]? = some (.cells cs e f)) (hc : cs = (flatE byC l).toArray) (hM : ¬ M b) (hn : n = l.length) (hcap : l.length ≤ c) : RdY M w (.slice (some ⟨b, 0, none⟩) n c) l := by
  subst hn
  subst hc
  refine .inr ⟨b, 0, c, rfl, (Array.getElem?_eq_some_iff.1 h).1, hM, hcap, fun j u hj => ?_⟩
  rw [Nat.zero_add]
  unfold World.cell?
  simp only [h]
  simpa using hj
def enc0L : List Nat := [69, 71, 1, 0, 0, 0, 3, 11, 0, 142]
theorem enc0 : encE (dmOf emptyD) = enc0L := by
  have h0 := numE_lo (x := 0) (by decide)
  unfold encE headE bodyE
  simp only [emptyD, List.map_nil, List.length_nil, List.flatMap_nil, h0, List.nil_append, List.append_nil, List.cons_append]
  decide
theorem dec0 : decE enc0L = .ok ⟨[], [], []⟩ := by
  rw [← enc0]
  exact decE_back ⟨fun _ h => by simp [emptyD] at h, fun _ h => by simp [emptyD] at h, fun _ h => by simp [emptyD] at h, by simp [emptyD], by simp [emptyD], by simp [emptyD]⟩
theorem dec8 : decE (enc0L.take 8) = .error 2 := by
  unfold decE
  rw [if_neg (by decide), if_pos (by decide)]
theorem emptyD_of {d : Dmp} (h : dmOf d = ⟨[], [], []⟩) : d = emptyD := by
  obtain ⟨dn, dl, dr⟩ := d
  simp only [dmOf, Dm.mk.injEq] at h
  obtain ⟨h1, h2, h3⟩ := h
  have : dn = [] := by simpa using h1
  subst this; subst h2; subst h3; rfl
theorem nats_bN0 : nats (bN enc0L) = enc0L := by decide
set_option maxHeartbeats 8000000 in
theorem lives_any (w : World) (ht : Tab w) : Calls Tryz.prog 8 #[] w fun e w' => e = .returned (.bool true) ∧ Fr NoB w w' := by
  have HT := hid ht
  clear ht
  go_enter Tryz.func8, Tryz.ntmps8
  go_wp2_with fail
  refine (encode_any (.slice none 0 0) (.slice none 0 0) (.slice none 0 0) emptyD w (rdD_empty _ _) ⟨by simp [emptyD], by simp [emptyD], by simp [emptyD], fun _ h => by simp [emptyD] at h, fun _ h => by simp [emptyD] at h, fun _ h => by simp [emptyD] at h⟩).mono ?_
  rintro e w1 ⟨v, rfl, ho, hf⟩
  rw [enc0] at ho
  obtain ⟨g, c, rfl, hc⟩ : ∃ g c, v = .slice (some ⟨g, 0, none⟩) 10 c ∧ 10 ≤ c := by
    rcases OwnE.form' ho with ⟨_, h2⟩ | ⟨g, cap, h1, _, _, h4⟩
    · exact absurd h2 (by decide)
    · exact ⟨g, cap, h1, h4⟩
  have R1 := hid (OwnE.rd ho (M := NoB) (fun _ _ h => h))
  have F1 := hid hf
  have T1 := hid (HT.out.fr hf (fun h => h))
  clear ho hf
  have HC := hid hc
  go_wp2_with fail
  refine (decode_any _ (bN enc0L) w1 R1.out (by decide)).mono ?_
  rintro e w2 h1
  rw [nats_bN0, dec0] at h1
  obtain ⟨sN, sL, sR, d, rfl, hd, hdm, hf⟩ := h1
  obtain rfl := emptyD_of (by simpa [decR] using hdm)
  have R2 := hid (RdE.step R1.out hf)
  have F2 := hid (F1.out.step hf)
  have D2 := hid hd
  obtain ⟨pN, cN, rfl⟩ := hd.nodes.form
  obtain ⟨pL, cL, rfl⟩ := hd.links.form
  obtain ⟨pR, cR, rfl⟩ := hd.roots.form
  clear hd hdm hf R1
  simp only [decR]
  have A3 : Hid (Fr NoB w2 (w2.alloc (.cells (dumpCells (.slice pN emptyD.nodes.length cN) (.slice pL emptyD.links.length cL) (.slice pR emptyD.roots.length cR)) 26))) := (Fr.refl NoB w2).alloc _
  have B3 := hid (at_new w2 (.cells (dumpCells (.slice pN emptyD.nodes.length cN) (.slice pL emptyD.links.length cL) (.slice pR emptyD.roots.length cR)) 26))
  go_wp2_with fail
  have R3 : Hid (RdY NoB (w2.alloc (.cells (dumpCells (.slice pN emptyD.nodes.length cN) (.slice pL emptyD.links.length cL) (.slice pR emptyD.roots.length cR)) 26)) (.slice (some ⟨g, 0, none⟩) 8 c) (bN (enc0L.take 8))) := by
    have h9 := RdY.takeF (l := bN enc0L) (RdE.step R2.out A3.out) (k := 8) (by decide)
    exact h9
  refine (decode_any _ (bN (enc0L.take 8)) _ R3.out (by decide)).mono ?_
  rintro e w3 h1
  rw [show nats (bN (enc0L.take 8)) = enc0L.take 8 by decide, dec8] at h1
  obtain ⟨tN, tL, tR, d3, rfl, hd, hdm, hf⟩ := h1
  have F3 := hid ((F2.out.step A3.out).step hf)
  have B4 := hid (hf.at (fun h => h) B3.out)
  have D4 := hid ((D2.out.step A3.out).step hf)
  have R4 := hid (RdE.step (RdE.step R2.out A3.out) hf)
  obtain ⟨qN, dN, rfl⟩ := hd.nodes.form
  obtain ⟨qL, dL, rfl⟩ := hd.links.form
  obtain ⟨qR, dR, rfl⟩ := hd.roots.form
  simp only [decR]
  clear hd hdm hf R2 D2 A3 B3 R3
  obtain ⟨X3, hX3⟩ : ∃ X3, dumpCells (.slice qN d3.nodes.length dN) (.slice qL d3.links.length dL) (.slice qR d3.roots.length dR) = X3 := ⟨_, rfl⟩
  have A5 : Hid (Fr NoB w3 (w3.alloc (.cells X3 26))) := (Fr.refl NoB w3).alloc _
  rw [← hX3] at A5
  clear hX3
  have T5 := hid (HT.out.fr (F3.out.step A5.out) (fun h => h))
  go_wp2_with fail
  refine (load_min _ (bN enc0L) _ (RdE.step R4.out A5.out) (by decide) (by rw [nats_bN0, dec0]) T5.out).mono ?_
  rintro e w4 ⟨bg, rfl, hg, hf⟩
  have F4 := hid ((F3.out.step A5.out).step hf)
  have B5 := hid (hf.at (fun h => h) (A5.out.at (fun h => h) B4.out))
  have D5 := hid ((D4.out.step A5.out).step hf)
  have R5 := hid (RdE.step (RdE.step R4.out A5.out) hf)
  have G5 := hid hg
  clear hf hg A5 B4 D4 R4
  go_wp2_with fail
  refine (save_nil w4).mono ?_
  rintro e w' ⟨rfl, h9⟩
  have h9 := h9.symm
  subst h9
  obtain ⟨d0, d1, d2, df, dl⟩ := three_of B5.out
  have cv : (convert 27 9 (.slice (some ⟨g, 0, none⟩) 6 c)).run Tryz.prog w4 = .ok (.string ⟨#[69, 71, 1, 0, 0, 0]⟩) w4 := conv_take (l := bN enc0L) (c' := c) R5.out (k := 6) (by decide)
  have nn : ∀ (W : World) (a : Addr), (binOp .neq 45 (.pointer (some a)) (.pointer none)).run Tryz.prog W = .ok (.bool true) W := fun _ _ => by kernel_rfl
  go_wp2_with fail
  refine (same_any _ _ _ (.slice none 0 0) (.slice none 0 0) (.slice none 0 0) emptyD emptyD w4 D5.out (rdD_empty _ _) (by decide) (by decide) (by decide) (fun x hx => by simp [emptyD] at hx) (fun x hx => by simp [emptyD] at hx)).mono ?_
  rintro e w5 ⟨rfl, hf⟩
  rw [sameS_self]
  have F5 := hid (F4.out.step hf)
  have G6 := hid (G5.out.step hf (Nat.le_refl _))
  clear hf cv d0 d1 d2 df dl
  go_wp2_with fail
  refine (len_min _ bg w5 G6.out).mono ?_
  rintro e w' ⟨rfl, h9⟩
  have h9 := h9.symm
  subst h9
  have cvi := fun (w : World) (C : Array Value) (n c : Nat) => Lib.run_convert_bytes_const (P := Tryz.prog) w 27 5 C n c Tryz.underlying27 Tryz.underlying5
  go_wp2_with fail
  refine (sum_any _ [97] _ (rdY_newF (l := [97]) (at_new w5 _) (by rfl) (fun h => h) rfl (Nat.le_refl _)) (by decide)).mono ?_
  rintro e w' ⟨rfl, h9⟩
  have h9 := h9.symm
  subst h9
  rw [show sumS (nats [97]) = 6422626 by decide]
  go_wp2
  go_ret
  exact ⟨by first | rfl | (simp; done), F5.out.alloc _⟩
end Go.Proofs.YtndfncaoejbkiaaGreatDoor
end
section
/- The walk of few. -/
namespace Go.Proofs.YtndfncaoejbkiaaGreatDoor
open Go.RowKit
set_option maxRecDepth 100000

structure FewP (d : Dmp) : Prop where
  nn : d.nodes.length ≤ 60
  nl : d.links.length ≤ 60
  nr : d.roots.length ≤ 100
  nodes : ∀ i (h : i < d.nodes.length), d.nodes[i].1.args.length ≤ 20 ∧ d.nodes[i].1.name.size ≤ 100
def FewE (d : Dmp) (e : Ending) : Prop := ∃ b : Bool, e = .returned (.bool b) ∧ (b = true → FewP d)
theorem few_no {d : Dmp} {e : Ending} (h : e = .returned (.bool false)) : FewE d e := ⟨false, h, fun h => by cases h⟩
set_option maxHeartbeats 4000000 in
theorem few_any (sN sL sR : Value) (d : Dmp) (w : World) (hd : RdD NoB w sN sL sR d) :
    Calls Tryz.prog 7 #[dumpV sN sL sR] w fun e w' => FewE d e ∧ Fr NoB w w' := by
  obtain ⟨p, c, hp⟩ := hd.nodes.form
  subst hp
  obtain ⟨pl, cl, hp⟩ := hd.links.form
  subst hp
  obtain ⟨pr, cr, hp⟩ := hd.roots.form
  subst hp
  have F0 : Hid (Fr NoB w (w.alloc (.cells (dumpCells (.slice p d.nodes.length c) (.slice pl d.links.length cl) (.slice pr d.roots.length cr)) 26))) := (Fr.refl NoB w).alloc _
  have B0 := hid (at_new w (.cells (dumpCells (.slice p d.nodes.length c) (.slice pl d.links.length cl) (.slice pr d.roots.length cr)) 26))
  have R0 := hid (hd.nodes.step F0.out)
  clear hd
  obtain ⟨d0, d1, d2, df, dl⟩ := three_of B0.out
  unfold dumpV
  obtain ⟨w0, hw0⟩ : ∃ w0, w.alloc (.cells (dumpCells (.slice p d.nodes.length c) (.slice pl d.links.length cl) (.slice pr d.roots.length cr)) 26) = w0 := ⟨_, rfl⟩
  rw [hw0] at F0 B0 R0 d0 d1 d2 df dl
  go_enter Tryz.func7, Tryz.ntmps7
  by_cases c1 : (60 : Int) < (d.nodes.length : Int)
  · go_wp2
    go_ret
    exact ⟨few_no rfl, F0.out⟩
  by_cases c2 : (60 : Int) < (d.links.length : Int)
  · go_wp2
    go_ret
    exact ⟨few_no rfl, F0.out⟩
  by_cases c3 : (100 : Int) < (d.roots.length : Int)
  · go_wp2
    go_ret
    exact ⟨few_no rfl, F0.out⟩
  have C1 : Hid (d.nodes.length ≤ 60 ∧ d.links.length ≤ 60 ∧ d.roots.length ≤ 100) := by show _ ∧ _ ∧ _; omega
  go_wp2
  clear c1 c2 c3 hw0
  have hn := C1.out.1
  go_loopw [3] (fun j wr => ∃ (k : Nat), k ≤ d.nodes.length ∧ j = .int .i64 k ∧ wr = w0 ∧ Hid (∀ i (hi : i < d.nodes.length), i < k → d.nodes[i].1.args.length ≤ 20 ∧ d.nodes[i].1.name.size ≤ 100)) (fun j _ => d.nodes.length - (intOf j).toNat)
  case atStart => exact ⟨0, Nat.zero_le _, rfl, rfl, fun i hi h => by omega⟩
  case round =>
    obtain ⟨k, hk, rfl, hwr, HALL⟩ := hrel
    subst hwr
    by_cases hlt : k < d.nodes.length
    · obtain ⟨b, off, rfl, e0, e1, e2, e3, e4, ha⟩ := R0.out.nodeK hlt
      obtain ⟨xa, xc, hv⟩ := ha.form
      rw [hv] at e4
      obtain ⟨m, hm⟩ : ∃ m, d.nodes[k].1.args.length = m := ⟨_, rfl⟩
      obtain ⟨nm, hnm⟩ : ∃ nm, d.nodes[k].1.name = nm := ⟨_, rfl⟩
      rw [hm] at e4
      rw [hnm] at e3
      have HM := hid hm
      have HNM := hid hnm
      clear e0 e1 e2 ha hv hm hnm
      by_cases c4 : (20 : Int) < (m : Int)
      · go_wp2
        go_ret
        exact ⟨few_no rfl, F0.out⟩
      by_cases c5 : (100 : Int) < (nm.size : Int)
      · go_wp2
        go_ret
        exact ⟨few_no rfl, F0.out⟩
      · have C5 : Hid (m ≤ 20 ∧ nm.size ≤ 100) := by show _ ∧ _; omega
        go_wp2
        go_roundw
        case rel => exact ⟨k + 1, by omega, by go_num, by first | rfl | trivial, fun i hi h => by
          by_cases e : i < k
          · exact HALL.out i hi e
          · obtain rfl : i = k := by omega
            rw [HM.out, HNM.out]
            exact C5.out⟩
        case measure => simp [intOf]; omega
    · obtain rfl : k = d.nodes.length := by omega
      go_wp2
      go_ret
      exact ⟨⟨true, rfl, fun _ => ⟨C1.out.1, C1.out.2.1, C1.out.2.2, fun i hi => HALL.out i hi hi⟩⟩, F0.out⟩
end Go.Proofs.YtndfncaoejbkiaaGreatDoor
end
section
/- What all rows of this seat share: opening a node that came in, the table off the row's list, a world for the witness. -/
set_option maxRecDepth 100000
namespace Go.Proofs.YtndfncaoejbkiaaGreatDoor
open Go.ChangeShapes Go.WideShapes Go.ChangeAt Go.RowKit Go.Joins Go.Deep
open Go.ChangeMaps (open_string shut_string)

theorem own : ownKnob Tryz.prog.godebug = none := by kernel_rfl
theorem laidOut : laidOutB Tryz.prog = true := by kernel_rfl

section
variable {H : Type} {enc : TypeId × Value → H} {P : Program} {w : World} {base : Nat} {spare : Nat → Bool} {held : Bool}
theorem open_agg5 {r : Reach} {b0 : Nat} {t : TypeId} {f0 f1 f2 f3 f4 : Field} {v : Value} {d : DataW H} {p : List MemPlace} (hs : P.underlying t = some (.struct #[f0, f1, f2, f3, f4])) (hone : oneCellFields P #[f0, f1, f2, f3, f4] = true) (hC : P.cellsOf t = 5)
    (hv : Value.okWide P w r b0 t v) (h : DataW.Trod enc P w base spare held t v d p) :
    ∃ (v0 v1 v2 v3 v4 : Value) (y0 y1 y2 y3 y4 : DataW H × List MemPlace) (n : Nat), v = .agg #[v0, v1, v2, v3, v4] ∧ d = .agg [y0.1, y1.1, y2.1, y3.1, y4.1] ∧ p = y0.2 ++ (y1.2 ++ (y2.2 ++ (y3.2 ++ y4.2))) ∧
      DataW.trod enc P w base spare held n f0.type [v0] = some y0 ∧ DataW.trod enc P w base spare held n f1.type [v1] = some y1 ∧ DataW.trod enc P w base spare held n f2.type [v2] = some y2 ∧ DataW.trod enc P w base spare held n f3.type [v3] = some y3 ∧ DataW.trod enc P w base spare held n f4.type [v4] = some y4 := by
  obtain ⟨cs, rfl, hsz⟩ := okWide_struct hs hv
  obtain ⟨l⟩ := cs
  match l, hsz.trans hC with
  | [c0, c1, c2, c3, c4], _ =>
    obtain ⟨fuel, hf⟩ := h
    obtain ⟨xs, n, _, hx, _, hlen, hg⟩ := DataW.trod_struct hs hf
    obtain ⟨o0, k0⟩ := hone_of hone 0 f0 rfl
    obtain ⟨o1, k1⟩ := hone_of hone 1 f1 rfl
    obtain ⟨o2, k2⟩ := hone_of hone 2 f2 rfl
    obtain ⟨o3, k3⟩ := hone_of hone 3 f3 rfl
    obtain ⟨o4, k4⟩ := hone_of hone 4 f4 rfl
    match xs, hlen with
    | [y0, y1, y2, y3, y4], _ =>
      simp only [Prod.mk.injEq] at hx
      exact ⟨c0, c1, c2, c3, c4, y0, y1, y2, y3, y4, n, rfl, by simpa using hx.1, by simpa using hx.2, by simpa [Value.cells, o0, k0] using hg 0 f0 rfl, by simpa [Value.cells, o1, k1] using hg 1 f1 rfl, by simpa [Value.cells, o2, k2] using hg 2 f2 rfl, by simpa [Value.cells, o3, k3] using hg 3 f3 rfl, by simpa [Value.cells, o4, k4] using hg 4 f4 rfl⟩
end

theorem cellsInt : Tryz.prog.cellsOf 3 = 1 := by kernel_rfl
theorem cellsNode : Tryz.prog.cellsOf 44 = 5 := by kernel_rfl

theorem i64ok_of_wf {x : Int} (h : (Lit.int .i64 x).wf = true) : i64ok x := by
  have := bounds_i64 h; omega

section
variable {H : Type} {enc : TypeId × Value → H} {w : World} {base : Nat} {spare : Nat → Bool} {held : Bool}
/-- A slice of integers, out of its reading. -/
theorem rdI_of_trod {fuel : Nat} {v : Value} {x : DataW H × List MemPlace} (h : DataW.trod enc Tryz.prog w base spare held fuel 24 [v] = some x) (M : Nat → Prop) (hM : ∀ k, k < w.heap.size → ¬ M k) :
    ∃ l : List Int, RdI M w v l ∧ l.length ≤ 9223372036854775807 ∧ ∀ i, i < l.length → i64ok (l.getD i 0) := by
  rcases open_ints Tryz.underlying24 Tryz.underlying3 cellsInt h with ⟨hcs, _⟩ | ⟨a, len, cap, zs, hcs, _, hl, hm, hz, hx, hcell, hwz⟩
  · simp at hcs
    exact ⟨[], .inl ⟨⟨none, 0, hcs, fun _ => rfl⟩, rfl⟩, by simp, fun i hi => by simp at hi⟩
  · simp at hcs
    subst hcs
    unfold maxLen at hm
    have hzl : len ≤ zs.length := by rw [hz]; split <;> omega
    have hzt : (zs.take len).length = len := by simp; omega
    have hget : ∀ i, i < len → (zs.take len).getD i 0 = zs.getD i 0 := fun i hi => by
      rw [List.getD_eq_getElem?_getD, List.getElem?_take, if_pos hi, ← List.getD_eq_getElem?_getD]
    have hok : ∀ i, i < (zs.take len).length → i64ok ((zs.take len).getD i 0) := fun i hi => by
      rw [hzt] at hi
      rw [hget i hi, getD_eq (by omega)]
      exact i64ok_of_wf (hwz _ (List.getElem_mem _))
    by_cases h0 : len = 0
    · subst h0
      exact ⟨[], .inl ⟨⟨some a, cap, rfl, fun h => by cases h⟩, rfl⟩, by simp, fun i hi => by simp at hi⟩
    · obtain ⟨b, off, spot⟩ := a
      have hc0 := hcell 0 (by omega)
      have hsp : spot = none := by simpa [Addr.add] using World.cell?_spot hc0
      subst hsp
      have hlt : b < w.heap.size := by simpa [Addr.add] using World.block_lt_of_cell? w _ hc0
      refine ⟨zs.take len, .inr ⟨b, off, cap, by rw [hzt], hlt, hM b hlt, by rw [hzt]; exact hl, fun i hi => ?_⟩, by omega, hok⟩
      rw [hzt] at hi
      have := hcell i (by omega)
      rw [hget i hi]
      have e : (⟨b, off, none⟩ : Addr).add i = ⟨b, off + i, none⟩ := by unfold Addr.add; split <;> simp_all
      rw [← e]; exact this

theorem u64b {x : Int} (h : (Lit.int .u64 x).wf = true) : 0 ≤ x ∧ x < 18446744073709551616 := by have := bounds_u64 h; omega
theorem strlen {n : Nat} (h : n ≤ maxLen) : n ≤ 9223372036854775807 := by unfold maxLen at h; omega

/-- A node that came in. -/
theorem open_node {r : Reach} {b0 : Nat} {v : Value} {d : DataW H} {p : List MemPlace} (hv : Value.okWide Tryz.prog w r b0 44 v) (h : DataW.Trod enc Tryz.prog w base spare held 44 v d p) (M : Nat → Prop) (hM : ∀ k, k < w.heap.size → ¬ M k) :
    ∃ (n : Node) (s : Value), v = nodeV n s ∧ RdI M w s n.args ∧ NodeOk n ∧ n.args.length ≤ 9223372036854775807 ∧ n.name.size ≤ 9223372036854775807 := by
  obtain ⟨v0, v1, v2, v3, v4, y0, y1, y2, y3, y4, m, rfl, rfl, rfl, h0, h1, h2, h3, h4⟩ := open_agg5 Tryz.underlying44 (by kernel_rfl) cellsNode hv h
  obtain ⟨n0, e0, _, q0⟩ := DataW.trod_int Tryz.underlying41 h0
  obtain ⟨n1, e1, _, q1⟩ := DataW.trod_int Tryz.underlying3 h1
  obtain ⟨n2, e2, _, q2⟩ := DataW.trod_int Tryz.underlying42 h2
  obtain ⟨n3, e3, _, q3⟩ := DataW.trod_string Tryz.underlying9 h3
  obtain ⟨l, hl, hlen, hok⟩ := rdI_of_trod h4 M hM
  simp at e0 e1 e2 e3
  subst e0 e1 e2 e3
  have q4 := strlen q3
  exact ⟨⟨n0, n1, n2, n3, l⟩, v4, rfl, hl, ⟨i64ok_of_wf q0, i64ok_of_wf q1, u64b q2, hok⟩, hlen, q4⟩
end

theorem laidMet_tail' {P : Program} {x : String × DataW Unit} {rest : List (String × DataW Unit)} {W : World} (h : laidMet P (x :: rest) W) : laidMet P rest W := by
  obtain ⟨ps, ⟨g, t, cs, fuel, p, q, h1, h2, h3, h4, h5, h6⟩, hn, hr⟩ := h
  subst h6
  exact ⟨q, h5, (List.nodup_append.1 hn).2.1, fun b off hb => hr b off (List.mem_append.2 (.inr hb))⟩

theorem gTabType : (Tryz.prog.globals[0]?).map (·.type) = some 173 := by kernel_rfl
theorem gTabAt : Tryz.prog.globalNamed "internal/strconv.uint64pow10" = some 0 := by kernel_rfl
theorem cellsTab : Tryz.prog.cellsOf 173 = 20 := by kernel_rfl
theorem cellsU64 : Tryz.prog.cellsOf 42 = 1 := by kernel_rfl

/-- The three tables that every row of this seat lists. -/
def tables : List (String × DataW Unit) := [("math/bits.deBruijn32tab", Rows.laid_math_bits_deBruijn32tab), ("math/bits.deBruijn64tab", Rows.laid_math_bits_deBruijn64tab), ("internal/strconv.uint64pow10", Rows.laid_internal_strconv_uint64pow10)]
theorem tab_of_laid {W : World} (h : laidMetH Tryz.prog tables W) : Tab W :=
  Lib.tabIs_of_head (rest := []) (zs := Lib.pow10Tab) gTabAt gTabType Tryz.underlying173 Tryz.underlying42 cellsU64 cellsTab (laidMet_tail' (laidMet_tail' h))

/-- A world in which block g holds the cells cs. -/
def setTab (w : World) (g : Nat) (cs : Array Value) : World := { w with heap := w.heap.modify g fun o => match o with
  | .cells _ t frozen => .cells cs t frozen
  | o => o }
/-- A world for the witness: the settled one, its tables holding what their initialisers lay. -/
noncomputable def laidWorld (os : Os) : World :=
  setTab (setTab (setTab (World.holding Tryz.prog os ⟨#[], #[], []⟩) 0 (Lib.pow10Tab.map (Value.int .u64)).toArray)
    1 #[.int .u8 0, .int .u8 1, .int .u8 28, .int .u8 2, .int .u8 29, .int .u8 14, .int .u8 24, .int .u8 3, .int .u8 30, .int .u8 22, .int .u8 20, .int .u8 15, .int .u8 25, .int .u8 17, .int .u8 4, .int .u8 8, .int .u8 31, .int .u8 27, .int .u8 13, .int .u8 23, .int .u8 21, .int .u8 19, .int .u8 16, .int .u8 7, .int .u8 26, .int .u8 12, .int .u8 18, .int .u8 6, .int .u8 11, .int .u8 5, .int .u8 10, .int .u8 9])
    2 #[.int .u8 0, .int .u8 1, .int .u8 56, .int .u8 2, .int .u8 57, .int .u8 49, .int .u8 28, .int .u8 3, .int .u8 61, .int .u8 58, .int .u8 42, .int .u8 50, .int .u8 38, .int .u8 29, .int .u8 17, .int .u8 4, .int .u8 62, .int .u8 47, .int .u8 59, .int .u8 36, .int .u8 45, .int .u8 43, .int .u8 51, .int .u8 22, .int .u8 53, .int .u8 39, .int .u8 33, .int .u8 30, .int .u8 24, .int .u8 18, .int .u8 12, .int .u8 5, .int .u8 63, .int .u8 55, .int .u8 48, .int .u8 27, .int .u8 60, .int .u8 41, .int .u8 37, .int .u8 16, .int .u8 46, .int .u8 35, .int .u8 44, .int .u8 21, .int .u8 52, .int .u8 32, .int .u8 23, .int .u8 11, .int .u8 54, .int .u8 26, .int .u8 40, .int .u8 15, .int .u8 34, .int .u8 20, .int .u8 31, .int .u8 10, .int .u8 25, .int .u8 14, .int .u8 19, .int .u8 9, .int .u8 13, .int .u8 8, .int .u8 7, .int .u8 6]

end Go.Proofs.YtndfncaoejbkiaaGreatDoor
end
section
/- Opening a slice of nodes that came in. -/
namespace Go.Proofs.YtndfncaoejbkiaaGreatDoor
open Go.ChangeShapes Go.WideShapes Go.ChangeAt Go.RowKit Go.Joins Go.Deep
set_option maxRecDepth 100000

theorem choose_list {α : Type} (p : Nat → α → Prop) : ∀ n, (∀ i, i < n → ∃ a, p i a) → ∃ l : List α, l.length = n ∧ ∀ i (h : i < l.length), p i l[i]
  | 0, _ => ⟨[], rfl, fun i h => absurd h (by simp)⟩
  | n + 1, h => by
    obtain ⟨l, hl, hp⟩ := choose_list p n (fun i hi => h i (by omega))
    obtain ⟨a, ha⟩ := h n (by omega)
    refine ⟨l ++ [a], by simp [hl], fun i hi => ?_⟩
    by_cases e : i < l.length
    · rw [List.getElem_append_left e]; exact hp i e
    · have e2 : i = l.length := by simp at hi; omega
      subst e2
      rw [List.getElem_append_right (Nat.le_refl _)]
      simpa [hl] using ha

section
variable {H : Type} {enc : TypeId × Value → H} {P : Program} {w : World} {base : Nat} {spare : Nat → Bool} {held : Bool}
theorem open_slice_fields {t e : TypeId} {fs : Array Field} {fuel : Nat} {cs : List Value} {x : DataW H × List MemPlace} (ht : P.underlying t = some (.slice e)) (he : P.underlying e = some (.struct fs))
    (hone : oneCellFields P fs = true) (hC : P.cellsOf e = fs.size) (h : DataW.trod enc P w base spare held fuel t cs = some x) :
    (cs = [.slice none 0 0] ∧ x = (.nil, [])) ∨
    ∃ (a : Addr) (len cap m : Nat) (D : Nat → DataW H) (Pl : Nat → List MemPlace), cs = [.slice (some a) len cap] ∧ base ≤ a.block ∧ len ≤ cap ∧ cap ≤ maxLen ∧ m = (if spare a.block then cap else len) ∧
      x = (.slice ((List.range len).map D) ((List.range (m - len)).map fun j => D (len + j)), MemPlace.row a (m * fs.size) ++ (List.range m).flatMap Pl) ∧
      ∀ i, i < m → ∃ (ys : List (DataW H × List MemPlace)) (n : Nat), D i = .agg (ys.map (·.1)) ∧ Pl i = ys.flatMap (·.2) ∧ ys.length = fs.size ∧
        ∀ (j : Nat) (f : Field), fs[j]? = some f → ∃ (v : Value) (y : DataW H × List MemPlace), w.cell? (a.add (i * fs.size + j)) = some v ∧ ys[j]? = some y ∧ DataW.trod enc P w base spare held n f.type [v] = some y := by
  rcases open_slice ht h with h0 | ⟨a, len, cap, m, n, D, Pl, hcs, hb, hl, hm, hmm, hx, hi⟩
  · exact .inl h0
  · refine .inr ⟨a, len, cap, m, D, Pl, hcs, hb, hl, hm, hmm, by rw [hC] at hx; exact hx, fun i him => ?_⟩
    obtain ⟨cs', hc, ht'⟩ := hi i him
    rw [hC] at hc
    obtain ⟨ys, n', hn', hy, hlen, hyl, hf⟩ := DataW.trod_struct he ht'
    obtain ⟨_, hcl, hat⟩ := World.cells?_some hc
    simp only [Prod.mk.injEq] at hy
    refine ⟨ys, n', hy.1, hy.2, hyl, fun j f hj => ?_⟩
    obtain ⟨ho, hk⟩ := hone_of hone j f hj
    have hjl : j < fs.size := (Array.getElem?_eq_some_iff.1 hj).1
    have hcell := hat j hjl
    have hv : cs'[j]? = some (cs'[j]'(by omega)) := List.getElem?_eq_getElem (by omega)
    have h1 := hf j f hj
    rw [ho, hk] at h1
    have hone' : (cs'.drop j).take 1 = [cs'[j]'(by omega)] := by
      rw [List.drop_eq_getElem_cons (by omega)]
      rfl
    rw [hone'] at h1
    have hys : ys[j]? = some (ys[j]'(by omega)) := List.getElem?_eq_getElem (by omega)
    refine ⟨_, _, ?_, hys, h1.trans hys⟩
    rw [← Go.Deep.add_add, hcell, hv]
end

theorem cellsAt_five {w : World} {b off : Nat} {l : List (Node × Value)} (h : ∀ i (hi : i < l.length), ∀ j u, (nsCells l[i])[j]? = some u → w.cell? ⟨b, off + (i * 5 + j), none⟩ = some u) : CellsAt w b off (flatE nsCells l) := by
  intro j u hj
  have hjl : j < l.length * 5 := by have := (List.getElem?_eq_some_iff.1 hj).1; rwa [flatE_length nsCells nsLen] at this
  have hi : j / 5 < l.length := by omega
  have e := flatE_get nsCells nsLen l (j / 5) hi (j % 5) (Nat.mod_lt _ (by decide))
  have ej : j / 5 * 5 + j % 5 = j := by omega
  rw [ej, hj] at e
  have := h (j / 5) hi (j % 5) u e.symm
  rwa [ej] at this

section
variable {H : Type} {enc : TypeId × Value → H} {w : World} {base : Nat} {spare : Nat → Bool} {held : Bool}
/-- A slice of nodes, out of its reading. -/
theorem open_nodes {fuel : Nat} {v : Value} {x : DataW H × List MemPlace} (h : DataW.trod enc Tryz.prog w base spare held fuel 22 [v] = some x) (M : Nat → Prop) (hM : ∀ k, k < w.heap.size → ¬ M k) :
    ∃ l : List (Node × Value), RdN M w v l ∧ l.length ≤ 9223372036854775807 ∧ ∀ y ∈ l, NodeOk y.1 ∧ y.1.args.length ≤ 9223372036854775807 ∧ y.1.name.size ≤ 9223372036854775807 := by
  rcases open_slice_fields Tryz.underlying22 Tryz.underlying44 (by kernel_rfl) cellsNode h with ⟨hcs, _⟩ | ⟨a, len, cap, m, D, Pl, hcs, _, hl, hm, hmm, _, hi⟩
  · simp at hcs
    exact ⟨[], ⟨.inl ⟨⟨none, 0, hcs, fun _ => rfl⟩, rfl⟩, fun x hx => by cases hx⟩, by simp, fun x hx => by cases hx⟩
  · simp at hcs
    subst hcs
    unfold maxLen at hm
    have hlm : len ≤ m := by rw [hmm]; split <;> omega
    obtain ⟨l, hll, hp⟩ := choose_list (fun i (y : Node × Value) => (∀ j u, (nsCells y)[j]? = some u → w.cell? (a.add (i * 5 + j)) = some u) ∧ RdI M w y.2 y.1.args ∧ NodeOk y.1 ∧ y.1.args.length ≤ 9223372036854775807 ∧ y.1.name.size ≤ 9223372036854775807) len (fun i hil => by
      obtain ⟨ys, n, _, _, _, hf⟩ := hi i (by omega)
      obtain ⟨v0, y0, c0, _, t0⟩ := hf 0 _ rfl
      obtain ⟨v1, y1, c1, _, t1⟩ := hf 1 _ rfl
      obtain ⟨v2, y2, c2, _, t2⟩ := hf 2 _ rfl
      obtain ⟨v3, y3, c3, _, t3⟩ := hf 3 _ rfl
      obtain ⟨v4, y4, c4, _, t4⟩ := hf 4 _ rfl
      obtain ⟨n0, e0, _, q0⟩ := DataW.trod_int Tryz.underlying41 t0
      obtain ⟨n1, e1, _, q1⟩ := DataW.trod_int Tryz.underlying3 t1
      obtain ⟨n2, e2, _, q2⟩ := DataW.trod_int Tryz.underlying42 t2
      obtain ⟨n3, e3, _, q3⟩ := DataW.trod_string Tryz.underlying9 t3
      obtain ⟨k, hk, hlen, hok⟩ := rdI_of_trod t4 M hM
      simp at e0 e1 e2 e3
      subst e0 e1 e2 e3
      refine ⟨(⟨n0, n1, n2, n3, k⟩, v4), fun j u hj => ?_, hk, ⟨i64ok_of_wf q0, i64ok_of_wf q1, u64b q2, hok⟩, hlen, strlen q3⟩
      match j, hj with
      | 0, hj => simp [nsCells] at hj; subst hj; exact c0
      | 1, hj => simp [nsCells] at hj; subst hj; exact c1
      | 2, hj => simp [nsCells] at hj; subst hj; exact c2
      | 3, hj => simp [nsCells] at hj; subst hj; exact c3
      | 4, hj => simp [nsCells] at hj; subst hj; exact c4
      | j + 5, hj => simp [nsCells] at hj)
    refine ⟨l, ⟨?_, fun x hx => ?_⟩, by omega, fun y hy => ?_⟩
    · by_cases h0 : len = 0
      · subst h0
        obtain rfl : l = [] := List.eq_nil_of_length_eq_zero hll
        exact .inl ⟨⟨some a, cap, rfl, fun h => by cases h⟩, rfl⟩
      · have hc0 := (hp 0 (by omega)).1 0 _ rfl
        obtain ⟨b, off, spot⟩ := a
        have hsp : spot = none := by simpa [Addr.add] using World.cell?_spot hc0
        subst hsp
        have hlt : b < w.heap.size := by simpa [Addr.add] using World.block_lt_of_cell? w _ hc0
        refine .inr ⟨b, off, cap, by rw [hll], hlt, hM b hlt, by omega, cellsAt_five fun i hil j u hu => ?_⟩
        have := (hp i hil).1 j u hu
        have e : (⟨b, off, none⟩ : Addr).add (i * 5 + j) = ⟨b, off + (i * 5 + j), none⟩ := by unfold Addr.add; split <;> simp_all
        rw [← e]; exact this
    · obtain ⟨i, hil, rfl⟩ := List.mem_iff_getElem.1 hx
      exact (hp i hil).2.1
    · obtain ⟨i, hil, rfl⟩ := List.mem_iff_getElem.1 hy
      exact (hp i hil).2.2
end

end Go.Proofs.YtndfncaoejbkiaaGreatDoor
end
