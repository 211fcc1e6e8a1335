import Derived.Test.YtgpliiepoimcbaaDoorPk4
import Derived.Test.YtgpliiepoimcbaaDoorPk7
set_option linter.all false
section
/- The walk of invariant's reasons. -/
namespace Go.Proofs.YtgpliiepoimcbaaDoor
open Go.RowKit
set_option maxRecDepth 100000

structure ReS (M : Nat → Prop) (w : World) (sN sL sR : Value) (d : Dmp) (br : Nat) (l F : List Flw) (bf : Nat) (kf : Nat) (Mf X : Nat → Prop) (W : World) : Prop where
  st : RepS M w sN sL sR d br l F X W
  frs : ∃ Lf r, ForAt Mf W bf Lf r ∧ (∀ q, Mf q → X q) ∧ ¬ Mf w.heap.size ∧ PR r (lbAt d.nodes.length d.links kf) ∧ Lf.length ≤ kf
section
variable {M : Nat → Prop} {w : World} {sN sL sR : Value} {d : Dmp} {br : Nat} {l F : List Flw} {bf kf : Nat} {Mf X : Nat → Prop} {W W' : World}
theorem ReS.grow (h : ReS M w sN sL sR d br l F bf kf Mf X W) (hf : Fr NoB W W') : ReS M w sN sL sR d br l F bf kf Mf (NewX X W W') W' := by
  obtain ⟨h1, Lf, r, h5, h6, h8, h9⟩ := h
  exact ⟨h1.grow hf (fun _ h => h) (.inl h1.bx), Lf, r, h5.step hf, fun q hq => .inl (h6 q hq), h8, h9⟩
theorem ReS.out (h : ReS M w sN sL sR d br l F bf kf Mf X W) {x : Lnk} (hx : d.links[kf]? = some x) (hin : lbIn d.nodes.length x = false) : ReS M w sN sL sR d br l F bf (kf + 1) Mf X W := by
  obtain ⟨h1, Lf, r, h5, h6, h8, h9, h10⟩ := h
  refine ⟨h1, Lf, r, h5, h6, h8, ?_, by omega⟩
  have hk := (List.getElem?_eq_some_iff.1 hx)
  obtain ⟨hk1, hk2⟩ := hk
  rw [lbAt_succ _ _ hk1, hk2]
  have := h9.step (lbAt_length _ _ _) x
  unfold rStep at this
  rw [if_neg (fun h => by rw [hin] at h; cases h.1)] at this
  exact this
theorem ReS.link (h : ReS M w sN sL sR d br l F bf kf Mf X W) {x : Lnk} (hx : d.links[kf]? = some x) (hin : lbIn d.nodes.length x = true) : ∃ Lf r, ForAt Mf W bf Lf r ∧ Lf.length ≤ kf ∧
    ∀ e W2, LinkPost Mf W bf Lf r x.a x.b x.why e W2 → (∃ b, e = .returned (.bool b)) ∧ (∃ Mf', ReS M w sN sL sR d br l F bf (kf + 1) Mf' (NewX X W W2) W2) := by
  obtain ⟨h1, Lf, r, h5, h6, h8, h9, h10⟩ := h
  refine ⟨Lf, r, h5, h10, fun e W2 hp => ?_⟩
  unfold LinkPost at hp
  obtain ⟨he, ⟨M', h11, h12⟩, hf⟩ := hp
  have hh := hin
  unfold lbIn at hh
  simp only [decide_eq_true_eq] at hh
  have hk := (List.getElem?_eq_some_iff.1 hx)
  obtain ⟨hk1, hk2⟩ := hk
  have hpr := h9.step (lbAt_length _ _ _) x
  rw [← hk2, ← lbAt_succ _ _ hk1, hk2] at hpr
  have hbl := (h1.x _ h1.bx).2
  refine ⟨⟨_, he⟩, M', h1.turn' hf (fun q hq => ⟨h6 q hq, fun e => h8 (e ▸ hq)⟩) (fun _ h => h) (.inl h1.bx), _, _, h11, fun q hq => ?_, fun h => ?_, ?_, ?_⟩
  · rcases h12 q hq with h | h
    · exact .inl (h6 q h)
    · exact .inr ⟨h, h11.lt q hq⟩
  · rcases h12 _ h with h | h
    · exact h8 h
    · omega
  · unfold rStep at hpr
    by_cases c : r x.a ≠ r x.b
    · rw [if_pos ⟨hin, c⟩] at hpr
      rw [if_pos ⟨hh.1, hh.2.1, c⟩]; exact hpr
    · rw [if_neg (fun h => c h.2)] at hpr
      rw [if_neg (fun h => c h.2.2)]; exact hpr
  · split
    · rw [List.length_append, List.length_singleton]; omega
    · omega
theorem ReS.flt (h : ReS M w sN sL sR d br l F bf kf Mf X W) : ∀ q, Mf q → q < W.heap.size := by
  obtain ⟨_, Lf, r, h5, _⟩ := h
  exact h5.lt
theorem ReS.turn (h : ReS M w sN sL sR d br l F bf kf Mf X W) (hf : Fr Mf W W') (hF : ∀ Lf r, ForAt Mf W bf Lf r → ForAt Mf W' bf Lf r) : ReS M w sN sL sR d br l F bf kf Mf (NewX X W W') W' := by
  obtain ⟨h1, Lf, r, h5, h6, h8, h9⟩ := h
  exact ⟨h1.turn' hf (fun q hq => ⟨h6 q hq, fun e => h8 (e ▸ hq)⟩) (fun _ h => h) (.inl h1.bx), Lf, r, hF _ _ h5, fun q hq => .inl (h6 q hq), h8, h9⟩
theorem ReS.told {F' : List Flw} (h : ReS M w sN sL sR d br l F bf kf Mf X W) (h' : RepS M w sN sL sR d br l F' X W') (hf : Fr (fun q => ¬ X q) W W') : ReS M w sN sL sR d br l F' bf kf Mf X W' := by
  obtain ⟨_, Lf, r, h5, h6, h8, h9⟩ := h
  exact ⟨h', Lf, r, h5.fr hf (fun k hk hn => hn (h6 k hk)), h6, h8, h9⟩
theorem ReS.turn1 (h : ReS M w sN sL sR d br l F bf kf Mf X W) : ∃ Lf r, ForAt Mf W bf Lf r ∧ PR r (lbAt d.nodes.length d.links kf) ∧ (∀ q, Mf q → w.heap.size ≤ q) ∧ ¬ Mf w.heap.size ∧ ∀ W', ForAt Mf W' bf Lf r → Fr Mf W W' → ReS M w sN sL sR d br l F bf kf Mf (NewX X W W') W' := by
  obtain ⟨h1, Lf, r, h5, h6, h8, h9, h10⟩ := h
  exact ⟨Lf, r, h5, h9, fun q hq => (h1.x q (h6 q hq)).1, h8, fun W' hF hf => ⟨h1.turn' hf (fun q hq => ⟨h6 q hq, fun e => h8 (e ▸ hq)⟩) (fun _ h => h) (.inl h1.bx), Lf, r, hF, fun q hq => .inl (h6 q hq), h8, h9, h10⟩⟩
end

set_option maxHeartbeats 4000000 in
theorem reasons_any (M : Nat → Prop) (sN sL sR : Value) (d : Dmp) (w : World) (br : Nat) (l : List Flw) (hd : RdD M w sN sL sR d) (hr : RepAt M w br l) (hlen : d.nodes.length ≤ 1000000) (hlk : d.links.length ≤ 1000000) (hll : l.length ≤ 10000000)
    (hla : ∀ x ∈ d.nodes, x.1.args.length ≤ 1000000) (hord : ∀ x ∈ d.nodes, ∀ y ∈ x.1.args, 0 ≤ y ∧ y < d.nodes.length) :
    Calls Tryd.prog 22 #[dumpV sN sL sR, .func (.func 19) #[.pointer (some ⟨br, 0, none⟩)] #[]] w fun e w' => e = .returned (.tuple #[]) ∧
      (∃ M', RepAt M' w' br (l ++ fls 8 (lkRless (nsOf d) d.links) d.links.length) ∧ Gr M M' w) ∧ Fr M w w' := by
  obtain ⟨p, c1, hp⟩ := hd.nodes.form
  subst hp
  obtain ⟨pl, cl, hp⟩ := hd.links.form3
  subst hp
  have S0 := hid (RepS.start hd hr)
  have HLA := hid hla
  have HORD := hid hord
  clear hd hr hla hord
  unfold dumpV
  go_enter Tryd.func22, Tryd.ntmps22
  go_wp2_with fail
  refine (fnew_any _).mono ?_
  rintro e w1 ⟨bf, Mf, rfl, hF, hM, hf⟩
  simp only [World.size_alloc] at hM
  have hsz : w.heap.size + 1 ≤ w1.heap.size := by have := hf.size; simp only [World.size_alloc] at this; omega
  obtain ⟨X, hX⟩ : ∃ X : Nat → Prop, X = (fun q => w.heap.size ≤ q ∧ q < w1.heap.size) := ⟨_, rfl⟩
  have S1 : Hid (ReS M w (.slice p d.nodes.length c1) (.slice pl d.links.length cl) sR d br l [] bf 0 Mf X w1) :=
    ⟨S0.out.grow hf (fun q hq => by rw [hX] at hq; simp only [World.size_alloc]; by_cases e : q = w.heap.size; exact .inl e; exact .inr (by omega)) (by rw [hX]; omega), [], _, hF, fun q hq => by rw [hX]; exact ⟨by have := hM q hq; omega, hF.lt q hq⟩, fun h => by have := hM _ h; omega, PR.init _, Nat.le_refl _⟩
  clear S0 hsz hX hF hM hf
  obtain ⟨d0, d1, d2, df, dl⟩ := three_of S1.out.st.box
  go_wp2
  clear d0 d1 d2 df dl
  go_loopw [11] (fun j wr => ∃ (k : Nat), k ≤ d.links.length ∧ j = .int .i64 k ∧ (∃ Mf X, ReS M w (.slice p d.nodes.length c1) (.slice pl d.links.length cl) sR d br l (fls 8 (lkRless (nsOf d) d.links) k) bf k Mf X wr)) (fun j _ => d.links.length - (intOf j).toNat)
  case atStart => exact ⟨0, Nat.zero_le _, rfl, Mf, X, by simpa [fls] using S1.out⟩
  case round =>
    obtain ⟨k, hk, rfl, Mf, X, hs⟩ := hrel
    have S := hid hs
    clear hs S1
    by_cases hlt : k < d.links.length
    · obtain ⟨b, off, rfl, _, e0, e1, e2⟩ := S.out.st.rd.links.lkK hlt
      have HX := hid (List.getElem?_eq_getElem hlt)
      obtain ⟨x, hx⟩ : ∃ x, d.links[k] = x := ⟨_, rfl⟩
      rw [hx] at e0 e1 e2 HX
      clear hx
      obtain ⟨d0, d1, d2, df, dl⟩ := three_of S.out.st.box
      go_wp2_with fail
      clear d0 d1 d2 df dl e0 e1 e2
      have F0 := (Fr.refl NoB wr).alloc (.cells #[.int .i64 x.a, .int .i64 x.b, .int .i64 x.why] 50)
      have S0 := hid (S.out.grow F0)
      have HB0 := hid (at_new wr (.cells #[.int .i64 x.a, .int .i64 x.b, .int .i64 x.why] 50))
      have HQ := hid S.out.flt
      have HF1 := hid (fls_le 8 (lkRless (nsOf d) d.links) k)
      clear F0 S
      refine (inside_id_any _ _ _ p d.nodes.length c1 rfl x.a _).mono ?_
      rintro e w2 ⟨rfl, hf⟩
      have S2 := hid (S0.out.grow hf)
      have HB2 := hid (hf.at (fun h => h) HB0.out)
      have HSZ2 : Hid (wr.heap.size < w2.heap.size) := (Array.getElem?_eq_some_iff.1 HB2.out).1
      clear hf S0 HB0
      have H5 : Hid (lbIn d.nodes.length x = false → lkRless (nsOf d) d.links k = false) := fun h => by
        unfold lkRless
        rw [HX.out]
        simp [nsOf_length, h]
      by_cases hA : 0 ≤ x.a ∧ x.a < d.nodes.length
      rotate_left
      · have hq : decide (0 ≤ x.a ∧ x.a < (d.nodes.length : Int)) = false := by simpa using hA
        have hin : lbIn d.nodes.length x = false := by unfold lbIn; simp; omega
        have HV := hid (H5.out hin)
        have S3 := hid (S2.out.out HX.out hin)
        rw [hq]
        clear hq hA hin
        go_wp2
        go_roundw
        case rel => exact ⟨k + 1, by omega, by go_num, _, _, by rw [fls_off HV.out]; exact S3.out⟩
        case measure => simp [intOf]; omega
      · have hq : decide (0 ≤ x.a ∧ x.a < (d.nodes.length : Int)) = true := by simpa using hA
        rw [hq]
        have HA := hid hA
        clear hq hA
        obtain ⟨d0, d1, d2, df, dl⟩ := three_of S2.out.st.box
        obtain ⟨y0, y1, y2, yf, yl⟩ := three_of HB2.out
        go_wp2_with fail
        clear d0 d1 d2 df dl y0 y1 y2 yf yl
        refine (inside_id_any _ _ _ p d.nodes.length c1 rfl x.b _).mono ?_
        rintro e w3 ⟨rfl, hf⟩
        have S3 := hid (S2.out.grow hf)
        have HB3 := hid (hf.at (fun h => h) HB2.out)
        have HSZ3 : Hid (wr.heap.size < w3.heap.size) := (Array.getElem?_eq_some_iff.1 HB3.out).1
        have HX3 : Hid (NewX (NewX (NewX X wr (wr.alloc (.cells #[.int .i64 x.a, .int .i64 x.b, .int .i64 x.why] 50))) (wr.alloc (.cells #[.int .i64 x.a, .int .i64 x.b, .int .i64 x.why] 50)) w2) w2 w3 wr.heap.size) := .inl (.inl (.inr ⟨Nat.le_refl _, by simp⟩))
        obtain ⟨X3, hX3⟩ : ∃ X3, NewX (NewX (NewX X wr (wr.alloc (.cells #[.int .i64 x.a, .int .i64 x.b, .int .i64 x.why] 50))) (wr.alloc (.cells #[.int .i64 x.a, .int .i64 x.b, .int .i64 x.why] 50)) w2) w2 w3 = X3 := ⟨_, rfl⟩
        rw [hX3] at S3 HX3
        clear hf S2 HB2 hX3
        by_cases hB : 0 ≤ x.b ∧ x.b < d.nodes.length
        rotate_left
        · have hq : decide (0 ≤ x.b ∧ x.b < (d.nodes.length : Int)) = false := by simpa using hB
          have hin : lbIn d.nodes.length x = false := by unfold lbIn; simp; omega
          have HV := hid (H5.out hin)
          have S4 := hid (S3.out.out HX.out hin)
          rw [hq]
          clear hq hB hin
          go_wp2
          go_roundw
          case rel => exact ⟨k + 1, by omega, by go_num, _, _, by rw [fls_off HV.out]; exact S4.out⟩
          case measure => simp [intOf]; omega
        · have hq : decide (0 ≤ x.b ∧ x.b < (d.nodes.length : Int)) = true := by simpa using hB
          rw [hq]
          have HBb := hid hB
          have HIN : Hid (lbIn d.nodes.length x = true) := by
            have := HA.out
            show _ = _
            unfold lbIn; simp; omega
          clear hq hB
          by_cases hwy : x.why = -1
          rotate_left
          · have hq : (x.why == -1) = false := by simpa using hwy
            have HV : Hid (lkRless (nsOf d) d.links k = false) := by
              show _ = _
              unfold lkRless
              rw [HX.out]
              simp [hq]
            clear hwy
            obtain ⟨y0, y1, y2, yf, yl⟩ := three_of HB3.out
            clear yf
            go_wp2
            refine region_txt (Fr NoB _) (by kernel_rfl) (by kernel_rfl) ((Fr.refl NoB _).drew) ?_
            repeat (first | (refine txt_off (by rfl) ?_; (try simp only [Act.put, List.setIfInBounds_toArray, List.set_cons_zero, List.set_cons_succ])) | (refine txt_read ?_ (by rfl) ?_ ?_; rotate_left; (focus (intro W hW; have hWc := Fr.cq hW; clear hW; go_simp; (try with_reducible rfl); done)); (try simp only [Act.put, List.setIfInBounds_toArray, List.set_cons_zero, List.set_cons_succ])))
            refine txt_nil ?_
            intro W hW
            have S4 := hid (S3.out.grow hW)
            have HB4 := hid (hW.at (fun h => h) HB3.out)
            clear hW y0 y1 y2 yl S3 HB3
            obtain ⟨y0, y1, y2, yf, yl⟩ := three_of HB4.out
            clear yf
            go_wp2_with fail
            clear y0 y1 y2 yl
            obtain ⟨Lf, r, hF, hL, post⟩ := S4.out.link HX.out HIN.out
            have POST := hid post
            clear post
            refine (flink_any Mf _ bf Lf r x.a x.b x.why hF (by omega)).mono ?_
            intro e w8 hp
            obtain ⟨⟨bb, he⟩, ⟨Mf', s8⟩⟩ := POST.out e w8 hp
            subst he
            have S8 := hid s8
            clear hp s8 POST hF hL
            go_wp2
            go_roundw
            case rel => exact ⟨k + 1, by omega, by go_num, _, _, by rw [fls_off HV.out]; exact S8.out⟩
            case measure => simp [intOf]; omega
          · have hq : (x.why == -1) = true := by simpa using hwy
            have HWY := hid hwy
            clear hwy hq
            obtain ⟨y0, y1, y2, yf, yl⟩ := three_of HB3.out
            rw [HWY.out] at y2
            clear yf y0 y1 yl
            go_wp2
            have S4 := hid (S3.out.grow (Fr.refl NoB w3).drew)
            have HB4 : Hid (w3.drew.heap[wr.heap.size]? = some (.cells #[.int .i64 x.a, .int .i64 x.b, .int .i64 x.why] 50 (0, 0))) := HB3.out
            obtain ⟨Lf, r, hF, hPR, hM1, hM2, hturn⟩ := S4.out.turn1
            have HF := hid hF
            have HPR := hid hPR
            have HM1 := hid hM1
            have HM2 := hid hM2
            have HTU := hid hturn
            clear hF hPR hM1 hM2 hturn y2
            obtain ⟨a0, a1⟩ := HA.out
            obtain ⟨b0, b1⟩ := HBb.out
            have ha : x.a.toNat < d.nodes.length := by omega
            have hb : x.b.toNat < d.nodes.length := by omega
            obtain ⟨bn, on, hp1, _⟩ := S4.out.st.rd.nodes.nodeK ha
            subst hp1
            have HNA := hid (List.getElem_mem ha)
            have HNB := hid (List.getElem_mem hb)
            have HAL := hid (alikeAt_of (lab := lbAt d.nodes.length d.links k) ha hb)
            have HRD : Hid (∀ W', Fr Mf w3.drew W' → RdD (fun q => M q ∨ w.heap.size ≤ q) W' (.slice (some ⟨bn, on, none⟩) d.nodes.length c1) (.slice (some ⟨b, off, none⟩) d.links.length cl) sR d) := fun W' hf => S4.out.st.rd.fr hf (fun q _ h => .inr (HM1.out q h))
            have HS0 : Hid (∀ W', Fr Mf w3.drew W' → W'.cell? ⟨wr.heap.size, 0, none⟩ = some (.int .i64 x.a) ∧ W'.cell? ⟨wr.heap.size, 1, none⟩ = some (.int .i64 x.b) ∧ W'.cell? ⟨wr.heap.size, 2, none⟩ = some (.int .i64 (-1)) ∧ W'.cell? ⟨w.heap.size, 0, none⟩ = some (.slice (some ⟨bn, on, none⟩) d.nodes.length c1)) := fun W' hf => by
              obtain ⟨y0, y1, y2, _, _⟩ := three_of (hf.at (fun h => by have := HQ.out _ h; omega) HB4.out)
              obtain ⟨d0, _⟩ := three_of (hf.at HM2.out S4.out.st.box)
              rw [HWY.out] at y2
              exact ⟨y0, y1, y2, d0⟩
            have HNA2 : Hid (∀ W', Fr Mf w3.drew W' → W'.cell? ⟨bn, on + x.a.toNat * 5, none⟩ = some (.int .i64 d.nodes[x.a.toNat].1.op) ∧ W'.cell? ⟨bn, on + x.a.toNat * 5 + 1, none⟩ = some (.int .i64 d.nodes[x.a.toNat].1.width) ∧ W'.cell? ⟨bn, on + x.a.toNat * 5 + 2, none⟩ = some (.int .u64 d.nodes[x.a.toNat].1.val) ∧ W'.cell? ⟨bn, on + x.a.toNat * 5 + 3, none⟩ = some (.string d.nodes[x.a.toNat].1.name) ∧ W'.cell? ⟨bn, on + x.a.toNat * 5 + 4, none⟩ = some d.nodes[x.a.toNat].2 ∧ RdI (fun q => M q ∨ w.heap.size ≤ q) W' d.nodes[x.a.toNat].2 d.nodes[x.a.toNat].1.args) := fun W' hf => by
              obtain ⟨bn', on', e, e0, e1, e2, e3, e4, e5⟩ := (HRD.out W' hf).nodes.nodeK ha
              simp only [Option.some.injEq, Addr.mk.injEq, and_true] at e
              obtain ⟨rfl, rfl⟩ := e
              exact ⟨e0, e1, e2, e3, e4, e5⟩
            have HNB2 : Hid (∀ W', Fr Mf w3.drew W' → W'.cell? ⟨bn, on + x.b.toNat * 5, none⟩ = some (.int .i64 d.nodes[x.b.toNat].1.op) ∧ W'.cell? ⟨bn, on + x.b.toNat * 5 + 1, none⟩ = some (.int .i64 d.nodes[x.b.toNat].1.width) ∧ W'.cell? ⟨bn, on + x.b.toNat * 5 + 2, none⟩ = some (.int .u64 d.nodes[x.b.toNat].1.val) ∧ W'.cell? ⟨bn, on + x.b.toNat * 5 + 3, none⟩ = some (.string d.nodes[x.b.toNat].1.name) ∧ W'.cell? ⟨bn, on + x.b.toNat * 5 + 4, none⟩ = some d.nodes[x.b.toNat].2 ∧ RdI (fun q => M q ∨ w.heap.size ≤ q) W' d.nodes[x.b.toNat].2 d.nodes[x.b.toNat].1.args) := fun W' hf => by
              obtain ⟨bn', on', e, e0, e1, e2, e3, e4, e5⟩ := (HRD.out W' hf).nodes.nodeK hb
              simp only [Option.some.injEq, Addr.mk.injEq, and_true] at e
              obtain ⟨rfl, rfl⟩ := e
              exact ⟨e0, e1, e2, e3, e4, e5⟩
            have HOA := hid (HORD.out _ HNA.out)
            have HOB := hid (HORD.out _ HNB.out)
            have HLAA := hid (HLA.out _ HNA.out)
            generalize d.nodes[x.a.toNat] = na at HNA2 HOA HLAA HAL
            generalize d.nodes[x.b.toNat] = nb at HNB2 HOB HAL
            obtain ⟨na, va⟩ := na
            obtain ⟨nb, vb⟩ := nb
            simp only at HNA2 HNB2 HOA HOB HLAA HAL
            have HS : Hid (∀ W', Fr Mf w3.drew W' → (W'.cell? ⟨wr.heap.size, 0, none⟩ = some (.int .i64 x.a) ∧ W'.cell? ⟨wr.heap.size, 1, none⟩ = some (.int .i64 x.b) ∧ W'.cell? ⟨wr.heap.size, 2, none⟩ = some (.int .i64 (-1)) ∧ W'.cell? ⟨w.heap.size, 0, none⟩ = some (.slice (some ⟨bn, on, none⟩) d.nodes.length c1) ∧
                W'.cell? ⟨bn, on + x.a.toNat * 5, none⟩ = some (.int .i64 na.op) ∧ W'.cell? ⟨bn, on + x.a.toNat * 5 + 1, none⟩ = some (.int .i64 na.width) ∧ W'.cell? ⟨bn, on + x.a.toNat * 5 + 2, none⟩ = some (.int .u64 na.val) ∧ W'.cell? ⟨bn, on + x.a.toNat * 5 + 3, none⟩ = some (.string na.name) ∧ W'.cell? ⟨bn, on + x.a.toNat * 5 + 4, none⟩ = some va ∧
                W'.cell? ⟨bn, on + x.b.toNat * 5, none⟩ = some (.int .i64 nb.op) ∧ W'.cell? ⟨bn, on + x.b.toNat * 5 + 1, none⟩ = some (.int .i64 nb.width) ∧ W'.cell? ⟨bn, on + x.b.toNat * 5 + 2, none⟩ = some (.int .u64 nb.val) ∧ W'.cell? ⟨bn, on + x.b.toNat * 5 + 3, none⟩ = some (.string nb.name) ∧ W'.cell? ⟨bn, on + x.b.toNat * 5 + 4, none⟩ = some vb)) := fun W' hf => by
              obtain ⟨s1, s2, s3, s4⟩ := HS0.out W' hf
              obtain ⟨e0, e1, e2, e3, e4, _⟩ := HNA2.out W' hf
              obtain ⟨g0, g1, g2, g3, g4, _⟩ := HNB2.out W' hf
              exact ⟨s1, s2, s3, s4, e0, e1, e2, e3, e4, g0, g1, g2, g3, g4⟩
            have q0 := HS.out w3.drew (Fr.refl _ _)
            clear HNA HNB
            refine region_eff (fun W' => (W'.cell? ⟨wr.heap.size, 0, none⟩ = some (.int .i64 x.a) ∧ W'.cell? ⟨wr.heap.size, 1, none⟩ = some (.int .i64 x.b) ∧ W'.cell? ⟨wr.heap.size, 2, none⟩ = some (.int .i64 (-1)) ∧ W'.cell? ⟨w.heap.size, 0, none⟩ = some (.slice (some ⟨bn, on, none⟩) d.nodes.length c1) ∧ W'.cell? ⟨bn, on + x.a.toNat * 5, none⟩ = some (.int .i64 na.op) ∧ W'.cell? ⟨bn, on + x.a.toNat * 5 + 1, none⟩ = some (.int .i64 na.width) ∧ W'.cell? ⟨bn, on + x.a.toNat * 5 + 2, none⟩ = some (.int .u64 na.val) ∧ W'.cell? ⟨bn, on + x.a.toNat * 5 + 3, none⟩ = some (.string na.name) ∧ W'.cell? ⟨bn, on + x.a.toNat * 5 + 4, none⟩ = some va ∧ W'.cell? ⟨bn, on + x.b.toNat * 5, none⟩ = some (.int .i64 nb.op) ∧ W'.cell? ⟨bn, on + x.b.toNat * 5 + 1, none⟩ = some (.int .i64 nb.width) ∧ W'.cell? ⟨bn, on + x.b.toNat * 5 + 2, none⟩ = some (.int .u64 nb.val) ∧ W'.cell? ⟨bn, on + x.b.toNat * 5 + 3, none⟩ = some (.string nb.name) ∧ W'.cell? ⟨bn, on + x.b.toNat * 5 + 4, none⟩ = some vb)) 20 [(0, 1), (1, 0), (2, 1), (3, 1), (4, 1), (5, 1), (6, 0), (7, 1), (8, 0), (9, 1), (10, 0), (11, 1), (12, 0), (13, 1), (14, 0), (15, 1), (16, 0), (17, 2), (18, 1), (19, 1)] (by kernel_rfl) (by kernel_rfl) ?_ ?_
            · exact q0
            clear q0
            repeat (first | (refine eff_off (by rfl) (by rfl) ?_; (try simp only [Act.put, List.setIfInBounds_toArray, List.set_cons_zero, List.set_cons_succ])) | (refine eff_off0 (by rfl) (by rfl) ?_; (try simp only [Act.put, List.setIfInBounds_toArray, List.set_cons_zero, List.set_cons_succ])) | (refine eff_pu ?_ (by rfl) (by rfl) ?_ ?_; rotate_left; (focus (intro w'; go_simp; (try with_reducible rfl); done)); (try simp only [Act.put, List.setIfInBounds_toArray, List.set_cons_zero, List.set_cons_succ])) | (refine eff_rd ?_ (by rfl) (by rfl) ?_ ?_; rotate_left; (focus (intro w' hS; (try obtain ⟨hq1, hS⟩ := hS); (try obtain ⟨hq2, hS⟩ := hS); (try obtain ⟨hq3, hS⟩ := hS); (try obtain ⟨hq4, hS⟩ := hS); (try obtain ⟨hq5, hS⟩ := hS); (try obtain ⟨hq6, hS⟩ := hS); (try obtain ⟨hq7, hS⟩ := hS); (try obtain ⟨hq8, hS⟩ := hS); (try obtain ⟨hq9, hS⟩ := hS); (try obtain ⟨hq10, hS⟩ := hS); (try obtain ⟨hq11, hS⟩ := hS); (try obtain ⟨hq12, hS⟩ := hS); (try obtain ⟨hq13, hS⟩ := hS); (try obtain ⟨hq14, hS⟩ := hS); (try obtain ⟨hq15, hS⟩ := hS); (try obtain ⟨hq16, hS⟩ := hS); (try obtain ⟨hq17, hS⟩ := hS); (try obtain ⟨hq18, hS⟩ := hS); (try obtain ⟨hq19, hS⟩ := hS); (try dsimp only at hS); go_simp; (try with_reducible rfl); done)); (try simp only [Act.put, List.setIfInBounds_toArray, List.set_cons_zero, List.set_cons_succ])))
            refine eff_call 38 #[.pointer (some ⟨bf, 0, none⟩), nodeV na va, nodeV nb vb] (by rfl) (by rfl) (by intro w'; go_simp) ?_
            have RA := (HNA2.out w3.drew (Fr.refl _ _)).2.2.2.2.2
            have RB := (HNB2.out w3.drew (Fr.refl _ _)).2.2.2.2.2
            refine (congruent_any Mf _ bf Lf r na nb va vb HF.out (RA.weaken (fun q _ h => .inr (HM1.out q h))) (RB.weaken (fun q _ h => .inr (HM1.out q h))) (fun y hy => (HOA.out y hy).1) (fun y hy => (HOB.out y hy).1) HLAA.out).mono ?_
            rintro e w5 ⟨rfl, hF5, hf5⟩
            have S5 := hid (HTU.out w5 hF5 hf5)
            have HB5 := hid (hf5.at (fun h => by have := HQ.out _ h; omega) HB4.out)
            have HX5 : Hid (NewX (NewX X3 w3 w3.drew) w3.drew w5 wr.heap.size) := .inl (.inl HX3.out)
            refine ⟨_, rfl, fun _ => HS.out w5 hf5, ?_⟩
            have HCG : Hid (congS r na nb = alikeAt (nsOf d) (lbAt d.nodes.length d.links k) x.a.toNat x.b.toNat) := by
              show _ = _
              rw [HAL.out]
              exact congS_lab HPR.out (fun y hy => by rw [lbAt_length]; exact HOA.out y hy) (fun y hy => by rw [lbAt_length]; exact HOB.out y hy)
            have HVL : Hid (lkRless (nsOf d) d.links k = !congS r na nb) := by
              show _ = _
              rw [HCG.out]
              unfold lkRless
              rw [HX.out]
              simp only [Option.elim_some]
              rw [nsOf_length, HIN.out, HWY.out]
              rfl
            clear RA RB hF5 hf5 HS HS0 HNA2 HNB2 HTU HF S4 S3 HB3 HB4 HRD
            (try simp only [Act.put, List.setIfInBounds_toArray, List.set_cons_zero, List.set_cons_succ])
            cases hcg : congS r na nb with
            | true =>
              have HV : Hid (lkRless (nsOf d) d.links k = false) := by show _ = _; rw [HVL.out, hcg]; rfl
              clear hcg
              repeat (first | (refine eff_off (by rfl) (by rfl) ?_; (try simp only [Act.put, List.setIfInBounds_toArray, List.set_cons_zero, List.set_cons_succ])) | (refine eff_off0 (by rfl) (by rfl) ?_; (try simp only [Act.put, List.setIfInBounds_toArray, List.set_cons_zero, List.set_cons_succ])) | (refine eff_pu ?_ (by rfl) (by rfl) ?_ ?_; rotate_left; (focus (intro w'; go_simp; (try with_reducible rfl); done)); (try simp only [Act.put, List.setIfInBounds_toArray, List.set_cons_zero, List.set_cons_succ])) | (refine eff_rd ?_ (by rfl) (by rfl) ?_ ?_; rotate_left; (focus (intro w' hS; (try obtain ⟨hq1, hS⟩ := hS); (try obtain ⟨hq2, hS⟩ := hS); (try obtain ⟨hq3, hS⟩ := hS); (try obtain ⟨hq4, hS⟩ := hS); (try obtain ⟨hq5, hS⟩ := hS); (try obtain ⟨hq6, hS⟩ := hS); (try obtain ⟨hq7, hS⟩ := hS); (try obtain ⟨hq8, hS⟩ := hS); (try obtain ⟨hq9, hS⟩ := hS); (try obtain ⟨hq10, hS⟩ := hS); (try obtain ⟨hq11, hS⟩ := hS); (try obtain ⟨hq12, hS⟩ := hS); (try obtain ⟨hq13, hS⟩ := hS); (try obtain ⟨hq14, hS⟩ := hS); (try obtain ⟨hq15, hS⟩ := hS); (try obtain ⟨hq16, hS⟩ := hS); (try obtain ⟨hq17, hS⟩ := hS); (try obtain ⟨hq18, hS⟩ := hS); (try obtain ⟨hq19, hS⟩ := hS); (try dsimp only at hS); go_simp; (try with_reducible rfl); done)); (try simp only [Act.put, List.setIfInBounds_toArray, List.set_cons_zero, List.set_cons_succ])))
              refine eff_nil ?_
              obtain ⟨y0, y1, y2, yf, yl⟩ := three_of HB5.out
              clear yf
              go_wp2_with fail
              clear y0 y1 y2 yl
              obtain ⟨Lf, r, hF, hL, post⟩ := S5.out.link HX.out HIN.out
              have POST := hid post
              clear post
              refine (flink_any Mf _ bf Lf r x.a x.b x.why hF (by omega)).mono ?_
              intro e w8 hp
              obtain ⟨⟨bb, he⟩, ⟨Mf', s8⟩⟩ := POST.out e w8 hp
              subst he
              have S8 := hid s8
              clear hp s8 POST hF hL
              go_wp2
              go_roundw
              case rel => exact ⟨k + 1, by omega, by go_num, _, _, by rw [fls_off HV.out]; exact S8.out⟩
              case measure => simp [intOf]; omega
            | false =>
              have HV : Hid (lkRless (nsOf d) d.links k = true) := by show _ = _; rw [HVL.out, hcg]; rfl
              have RS := hid S5.out.st
              clear hcg
              repeat (first | (refine eff_off (by rfl) (by rfl) ?_; (try simp only [Act.put, List.setIfInBounds_toArray, List.set_cons_zero, List.set_cons_succ])) | (refine eff_off0 (by rfl) (by rfl) ?_; (try simp only [Act.put, List.setIfInBounds_toArray, List.set_cons_zero, List.set_cons_succ])) | (refine eff_pu ?_ (by rfl) (by rfl) ?_ ?_; rotate_left; (focus (intro w'; go_simp; (try with_reducible rfl); done)); (try simp only [Act.put, List.setIfInBounds_toArray, List.set_cons_zero, List.set_cons_succ])) | (refine eff_rd ?_ (by rfl) (by rfl) ?_ ?_; rotate_left; (focus (intro w' hS; (try obtain ⟨hq1, hS⟩ := hS); (try obtain ⟨hq2, hS⟩ := hS); (try obtain ⟨hq3, hS⟩ := hS); (try obtain ⟨hq4, hS⟩ := hS); (try obtain ⟨hq5, hS⟩ := hS); (try obtain ⟨hq6, hS⟩ := hS); (try obtain ⟨hq7, hS⟩ := hS); (try obtain ⟨hq8, hS⟩ := hS); (try obtain ⟨hq9, hS⟩ := hS); (try obtain ⟨hq10, hS⟩ := hS); (try obtain ⟨hq11, hS⟩ := hS); (try obtain ⟨hq12, hS⟩ := hS); (try obtain ⟨hq13, hS⟩ := hS); (try obtain ⟨hq14, hS⟩ := hS); (try obtain ⟨hq15, hS⟩ := hS); (try obtain ⟨hq16, hS⟩ := hS); (try obtain ⟨hq17, hS⟩ := hS); (try obtain ⟨hq18, hS⟩ := hS); (try obtain ⟨hq19, hS⟩ := hS); (try dsimp only at hS); go_simp; (try with_reducible rfl); done)); (try simp only [Act.put, List.setIfInBounds_toArray, List.set_cons_zero, List.set_cons_succ])))
              refine eff_nil ?_
              obtain ⟨M3, n3, k3⟩ := RS.out.noted
              have HN3 := hid n3
              have HK3 := hid k3
              clear n3 k3
              go_wp2_with fail
              refine (repAdd_any M3 _ br _ 8 k HN3.out ?_).mono ?_
              · simp only [List.length_append]
                have h1 := HF1.out
                omega
              rintro e w9 ⟨rfl, ⟨M4, n4, g4⟩, f4⟩
              have S9 := hid (HK3.out w9 M4 _ n4 g4 f4)
              clear n4 g4 f4
              have S6 := hid (S5.out.told S9.out.1 S9.out.2)
              have HB6 := hid (S9.out.2.at (fun h => h HX5.out) HB5.out)
              clear RS S9
              obtain ⟨y0, y1, y2, yf, yl⟩ := three_of HB6.out
              clear yf
              go_wp2_with fail
              clear y0 y1 y2 yl
              obtain ⟨Lf, r, hF, hL, post⟩ := S6.out.link HX.out HIN.out
              have POST := hid post
              clear post
              refine (flink_any Mf _ bf Lf r x.a x.b x.why hF (by omega)).mono ?_
              intro e w8 hp
              obtain ⟨⟨bb, he⟩, ⟨Mf', s8⟩⟩ := POST.out e w8 hp
              subst he
              have S8 := hid s8
              clear hp s8 POST hF hL
              go_wp2
              go_roundw
              case rel => exact ⟨k + 1, by omega, by go_num, _, _, by rw [fls_on HV.out]; exact S8.out⟩
              case measure => simp [intOf]; omega
    · obtain rfl : k = d.links.length := by omega
      go_wp2
      go_end0
      obtain ⟨M', h1, h2, _⟩ := S.out.st.rep
      exact ⟨rfl, ⟨M', h1, h2⟩, S.out.st.fr⟩
end Go.Proofs.YtgpliiepoimcbaaDoor
end
section
/- A row of rows of ints (Roots2's next), and the state of Roots2. -/
namespace Go.Proofs.YtgpliiepoimcbaaDoor
open Go.RowKit
set_option maxRecDepth 100000

theorem infoRow : (Tryd.prog.info? 24).map (fun i => (i.zero, i.size, i.bytes)) = some (some (.slice none 0 0), 1, 24) := by kernel_rfl
theorem make_rows (w : World) (n : Nat) (hn : n ≤ 1000000) : (Instr.makeSlice 52 (.int .i64 n) (.int .i64 n)).run Tryd.prog w = .ok (.slice (some ⟨w.heap.size, 0, none⟩) n n) (w.alloc (.cells (Array.replicate n (.slice none 0 0)) 24)) := by
  obtain ⟨i0, hi, hz0, hz1, hz2⟩ := info_parts infoRow
  have h := run_make (P := Tryd.prog) w 52 24 i0 (.slice none 0 0) Tryd.underlying52 hi hz0 .i64 .i64 n n (by omega) (Int.le_refl _) (by rw [hz2]; omega) (by omega)
  simp only [Int.toNat_natCast] at h
  rw [h, hz1, Nat.mul_one]
  have e : madeCells (Value.slice none 0 0).cells n = Array.replicate n (.slice none 0 0) := by
    apply Array.ext'
    rw [show (Value.slice none 0 0).cells = #[.slice none 0 0] from rfl, toList_madeCells_one]
    simp
  rw [e]
/-- The row at g holds n rows of ints, their blocks in N and apart. -/
structure NextAt (N : Nat → Prop) (w : World) (g n : Nat) (nl : Int → List Int) (sv : Nat → Value) : Prop where
  hd : w.heap[g]? = some (.cells ((List.range n).map sv).toArray 24 (0, 0))
  own : ∀ k, k < n → OwnI 0 w (sv k) (nl k) ∧ ∀ b, (sv k).ownBlock = some b → N b
  apart : ∀ k k', k < n → k' < n → k ≠ k' → ∀ b, (sv k).ownBlock = some b → (sv k').ownBlock ≠ some b
def NextIs (N : Nat → Prop) (w : World) (g n : Nat) (nl : Int → List Int) : Prop := ∃ sv, NextAt N w g n nl sv
section
variable {N M : Nat → Prop} {w w' : World} {g n : Nat} {nl : Int → List Int}
theorem NextIs.init {N : Nat → Prop} {w : World} {g n : Nat} (h : w.heap[g]? = some (.cells (Array.replicate n (.slice none 0 0)) 24 (0, 0))) : NextIs N w g n (fun _ => []) := by
  refine ⟨fun _ => .slice none 0 0, ?_, fun k _ => ⟨OwnI.nil 0 w, fun b hb => by cases hb⟩, fun k k' _ _ _ b hb => by cases hb⟩
  rw [h]
  congr 1
  congr 1
  apply Array.ext'
  show _ = (List.range n).map (fun _ => _)
  rw [List.map_const', Array.toList_replicate, List.length_range]
theorem NextIs.fr (h : NextIs N w g n nl) (hf : Fr M w w') (hg : ¬ M g) (hm : ∀ k, N k → ¬ M k) : NextIs N w' g n nl := by
  obtain ⟨sv, h1, h2, h3⟩ := h
  exact ⟨sv, hf.at hg h1, fun k hk => ⟨(h2 k hk).1.fr hf (fun b hb => hm b ((h2 k hk).2 b hb)), (h2 k hk).2⟩, h3⟩
theorem NextIs.mono {N' : Nat → Prop} (h : NextIs N w g n nl) (hm : ∀ k, k < w.heap.size → N k → N' k) : NextIs N' w g n nl := by
  obtain ⟨sv, h1, h2, h3⟩ := h
  exact ⟨sv, h1, fun k hk => ⟨(h2 k hk).1, fun b hb => hm b (World.ownsRow.lt (h2 k hk).1 b hb).2 ((h2 k hk).2 b hb)⟩, h3⟩
theorem NextIs.look (h : NextIs N w g n nl) {x : Int} (x0 : 0 ≤ x) (x1 : x < n) :
    ∃ p c, w.cell? ⟨g, x.toNat, none⟩ = some (.slice p (nl x).length c) ∧ OwnI 0 w (.slice p (nl x).length c) (nl x) ∧ (∀ b, (Value.slice p (nl x).length c).ownBlock = some b → N b ∧ b ≠ g) ∧
      ∀ (w1 : World) (v' : Value) (l' : List Int), Fr (fun b => (Value.slice p (nl x).length c).ownBlock = some b) w w1 → OwnI 0 w1 v' l' → (v'.ownBlock = (Value.slice p (nl x).length c).ownBlock ∨ ∃ q, v'.ownBlock = some q ∧ w.heap.size ≤ q) →
        w1.frozen? ⟨g, x.toNat, none⟩ = false ∧ NextIs (fun k => N k ∨ w.heap.size ≤ k) (w1.setCell ⟨g, x.toNat, none⟩ v') g n (fun k => if k = x then l' else nl k) := by
  obtain ⟨sv, h1, h2, h3⟩ := h
  have xn : x.toNat < n := by omega
  have xe : ((x.toNat : Nat) : Int) = x := Int.toNat_of_nonneg x0
  obtain ⟨ho, hN⟩ := h2 _ xn
  rw [xe] at ho
  have hgne : ∀ b, (sv x.toNat).ownBlock = some b → b ≠ g := fun b hb => by
    obtain ⟨cur, hc⟩ := ho.head hb
    exact ne_of_types hc h1 (by decide)
  have hcell : w.cell? ⟨g, x.toNat, none⟩ = some (sv x.toNat) := by
    unfold World.cell?
    simp only [h1]
    simp [xn]
  obtain ⟨p, c, hv⟩ := ho.form
  have key : ∀ (w1 : World) (v' : Value) (l' : List Int), Fr (fun b => (sv x.toNat).ownBlock = some b) w w1 → OwnI 0 w1 v' l' → (v'.ownBlock = (sv x.toNat).ownBlock ∨ ∃ q, v'.ownBlock = some q ∧ w.heap.size ≤ q) →
      w1.frozen? ⟨g, x.toNat, none⟩ = false ∧ NextIs (fun k => N k ∨ w.heap.size ≤ k) (w1.setCell ⟨g, x.toNat, none⟩ v') g n (fun k => if k = x then l' else nl k) := by
    intro w1 v' l' hf hown hb
    have hd1 := hf.at (fun e => hgne g e rfl) h1
    have f2 : Fr (fun q => q = g) w1 (w1.setCell ⟨g, x.toNat, none⟩ v') := (Fr.refl (fun q => q = g) w1).setCell (p := ⟨g, x.toNat, none⟩) (fun _ => rfl) _
    refine ⟨by unfold World.frozen?; simp [hd1], fun k => if k = x.toNat then v' else sv k, ?_, fun k hk => ?_, fun k k' hk hk' hne b hbk hbk' => ?_⟩
    · rw [set_at hd1 x.toNat v']
      congr 1
      congr 1
      apply Array.ext'
      rw [List.setIfInBounds_toArray]
      show ((List.range n).map sv).set x.toNat v' = (List.range n).map _
      apply List.ext_getElem (by simp)
      intro j hj hj'
      rw [List.getElem_set]
      simp only [List.getElem_map, List.getElem_range]
      by_cases e : x.toNat = j
      · rw [if_pos e, if_pos e.symm]
      · rw [if_neg e, if_neg (fun h => e h.symm)]
    · by_cases e : k = x.toNat
      · subst e
        rw [if_pos rfl, xe, if_pos rfl]
        refine ⟨hown.fr f2 (fun b hb9 e9 => ?_), fun b hb9 => ?_⟩
        · obtain ⟨cur, hc⟩ := hown.head hb9
          exact ne_of_types hc hd1 (by decide) e9
        · rcases hb with hb | ⟨q, hb, hq⟩
          · exact .inl (hN b (by rw [← hb]; exact hb9))
          · rw [hb] at hb9; cases hb9; exact .inr hq
      · rw [if_neg e, if_neg (fun h => e (by omega))]
        obtain ⟨ok, nk⟩ := h2 k hk
        have o1 := ok.fr hf (fun b hb9 e9 => h3 k x.toNat hk xn e b hb9 e9)
        refine ⟨o1.fr f2 (fun b hb9 e9 => ?_), fun b hb9 => .inl (nk b hb9)⟩
        obtain ⟨cur, hc⟩ := o1.head hb9
        exact ne_of_types hc hd1 (by decide) e9
    · by_cases e : k = x.toNat
      · rw [if_pos e] at hbk
        rw [if_neg (fun h => hne (e.trans h.symm))] at hbk'
        rcases hb with hb | ⟨q, hb, hq⟩
        · exact h3 x.toNat k' xn hk' (fun h => hne (e.trans h)) b (by rw [← hb]; exact hbk) hbk'
        · rw [hb] at hbk; cases hbk
          have := (World.ownsRow.lt (h2 k' hk').1 _ hbk').2
          omega
      · rw [if_neg e] at hbk
        by_cases e' : k' = x.toNat
        · rw [if_pos e'] at hbk'
          rcases hb with hb | ⟨q, hb, hq⟩
          · exact h3 k x.toNat hk xn e b hbk (by rw [← hb]; exact hbk')
          · rw [hb] at hbk'; cases hbk'
            have := (World.ownsRow.lt (h2 k hk).1 _ hbk).2
            omega
        · rw [if_neg e'] at hbk'
          exact h3 k k' hk hk' hne b hbk hbk'
  rw [hv] at hcell ho hN hgne key
  exact ⟨p, c, hcell, ho, fun b hb => ⟨hN b hb, hgne b hb⟩, key⟩
end

/-- The state of Roots2. -/
structure RtS (w : World) (sN sL sR : Value) (d : Dmp) (nl : Int → List Int) (hi : Nat) (W : World) : Prop where
  fr : Fr NoB w W
  rd : RdD (fun q => w.heap.size ≤ q) W sN sL sR d
  box : W.heap[w.heap.size]? = some (.cells (dumpCells sN sL sR) 26 (0, 0))
  nx : NextIs (fun b => w.heap.size + 1 < b ∧ b < hi) W (w.heap.size + 1) d.nodes.length nl
  le : w.heap.size + 2 ≤ W.heap.size
section
variable {w : World} {sN sL sR : Value} {d : Dmp} {nl : Int → List Int} {hi : Nat} {W W' : World}
theorem RtS.start (hd : RdD NoB w sN sL sR d) : RtS w sN sL sR d (fun _ => []) 0 ((w.alloc (.cells (dumpCells sN sL sR) 26)).alloc (.cells (Array.replicate d.nodes.length (.slice none 0 0)) 24)) := by
  have f := ((Fr.refl NoB w).alloc (.cells (dumpCells sN sL sR) 26)).alloc (.cells (Array.replicate d.nodes.length (.slice none 0 0)) 24)
  have f1 := (Fr.refl NoB (w.alloc (.cells (dumpCells sN sL sR) 26))).alloc (.cells (Array.replicate d.nodes.length (.slice none 0 0)) 24)
  exact ⟨f, (hd.more.weaken (fun k _ h => .inr h)).step f, f1.at (fun h => h) (at_new w _), NextIs.init (at_new' (by simp)), by simp only [World.size_alloc]; omega⟩
theorem RtS.grow (h : RtS w sN sL sR d nl hi W) (hf : Fr NoB W W') : RtS w sN sL sR d nl hi W' :=
  ⟨h.fr.step hf, h.rd.step hf, hf.at (fun h => h) h.box, h.nx.fr hf (fun h => h) (fun _ _ h => h), by have := hf.size; have := h.le; omega⟩
theorem RtS.more (h : RtS w sN sL sR d nl hi W) {hi' : Nat} (hh : W.heap.size ≤ hi') : RtS w sN sL sR d nl hi' W :=
  ⟨h.fr, h.rd, h.box, h.nx.mono (fun k hk hN => ⟨hN.1, by omega⟩), h.le⟩
theorem RtS.turn (h : RtS w sN sL sR d nl hi W) (hw : w.heap.size + 2 ≤ hi) (hf : Fr (fun q => hi ≤ q) W W') : RtS w sN sL sR d nl hi W' :=
  ⟨h.fr.trans' hf (fun k hk e => by omega), h.rd.fr hf (fun k _ hk => by omega), hf.at (by omega) h.box, h.nx.fr hf (by omega) (fun k hk e => by omega), by have := hf.size; have := h.le; omega⟩
theorem RtS.look (h : RtS w sN sL sR d nl hi W) {x : Int} (x0 : 0 ≤ x) (x1 : x < d.nodes.length) :
    ∃ p c, W.cell? ⟨w.heap.size + 1, x.toNat, none⟩ = some (.slice p (nl x).length c) ∧ OwnI 0 W (.slice p (nl x).length c) (nl x) ∧ (∀ b, (Value.slice p (nl x).length c).ownBlock = some b → w.heap.size + 1 < b ∧ b < hi) ∧
      ∀ (w1 : World) (v' : Value) (l' : List Int), Fr (fun b => (Value.slice p (nl x).length c).ownBlock = some b) W w1 → OwnI 0 w1 v' l' → (v'.ownBlock = (Value.slice p (nl x).length c).ownBlock ∨ ∃ q, v'.ownBlock = some q ∧ W.heap.size ≤ q) →
        w1.frozen? ⟨w.heap.size + 1, x.toNat, none⟩ = false ∧ RtS w sN sL sR d (fun k => if k = x then l' else nl k) w1.heap.size (w1.setCell ⟨w.heap.size + 1, x.toNat, none⟩ v') := by
  obtain ⟨p, c, h1, h2, h3, h4⟩ := h.nx.look x0 x1
  refine ⟨p, c, h1, h2, fun b hb => (h3 b hb).1, fun w1 v' l' hf ho hb => ?_⟩
  obtain ⟨h5, h6⟩ := h4 w1 v' l' hf ho hb
  have hs := h.le
  have f2 : Fr (fun q => q = w.heap.size + 1) w1 (w1.setCell ⟨w.heap.size + 1, x.toNat, none⟩ v') := (Fr.refl (fun q => q = w.heap.size + 1) w1).setCell (p := ⟨w.heap.size + 1, x.toNat, none⟩) (fun _ => rfl) _
  have f1 : Fr (fun b => w.heap.size + 1 ≤ b) W w1 := hf.mono (fun k _ hk => by have := (h3 k hk).1.1; omega)
  have f3 : Fr (fun b => w.heap.size + 1 ≤ b) W (w1.setCell ⟨w.heap.size + 1, x.toNat, none⟩ v') := f1.trans' f2 (fun k _ e => by have : k = w.heap.size + 1 := e; omega)
  refine ⟨h5, h.fr.trans' f3 (fun k hk e => by omega), h.rd.fr f3 (fun k _ hk => by omega), f3.at (by omega) h.box, h6.mono (fun k hk hN => ?_), by have := f3.size; omega⟩
  have hk2 : k < w1.heap.size := by simpa using hk
  rcases hN with hN | hN
  · exact ⟨hN.1, hk2⟩
  · exact ⟨by omega, hk2⟩
end
theorem OwnI.pop {B : Nat} {w : World} {a : Option Addr} {n c : Nat} {l : List Int} {x : Int} (h : OwnI B w (.slice a n c) (l ++ [x])) : OwnI B w (.slice a l.length c) l := by
  obtain ⟨h1, h2⟩ := h
  refine ⟨by simp, ?_⟩
  rcases h2 with ⟨_, h2⟩ | ⟨g, cap, cur, e, hb, hg, hn, hc, hs, ht⟩
  · simp at h2
  · simp only [Value.slice.injEq] at e
    obtain ⟨rfl, rfl, rfl⟩ := e
    refine .inr ⟨g, _, cur, rfl, hb, hg, by simp at hn; omega, hc, hs, ?_⟩
    have := congrArg (List.take l.length) ht
    rw [List.take_take] at this
    simp only [List.length_append, List.length_singleton, Nat.mul_one, List.map_append, List.map_cons, List.map_nil] at this
    rw [Nat.min_eq_left (by omega), List.take_append_of_le_length (by simp)] at this
    rw [Nat.mul_one, this, List.take_of_length_le (by simp)]
/-- How many ints of the row at g are below zero. -/
def leftW (g : Nat) (w : World) : Nat := match w.heap[g]? with
  | some (.cells c _ _) => c.toList.countP (fun v => decide (intOf v < 0))
  | _ => 0
def lenOf : Value → Nat
  | .slice _ n _ => n
  | _ => 0
theorem leftW_of {w : World} {g : Nat} {l : List Int} (h : IntAt w g l) : leftW g w = l.countP (fun v => decide (v < 0)) := by
  unfold leftW
  rw [show w.heap[g]? = _ from h]
  simp only [List.countP_map]
  rfl
theorem IntAt.own {B : Nat} {w : World} {g : Nat} {l : List Int} (h : IntAt w g l) (hB : B ≤ g) (hl : l.length ≤ 1000000) : OwnI B w (.slice (some ⟨g, 0, none⟩) l.length l.length) l := by
  refine ⟨by simp, .inr ⟨g, l.length, _, rfl, hB, h, Nat.le_refl _, by unfold maxLen; omega, by simp, ?_⟩⟩
  rw [Nat.mul_one]
  exact List.take_of_length_le (by simp)
end Go.Proofs.YtgpliiepoimcbaaDoor
end
section
/- The walk of Roots2. -/
namespace Go.Proofs.YtgpliiepoimcbaaDoor
open Go.RowKit
set_option maxRecDepth 100000


set_option maxHeartbeats 4000000 in
theorem roots2_any (sN sL sR : Value) (d : Dmp) (w : World) (hd : RdD NoB w sN sL sR d) (hlen : d.nodes.length ≤ 1000000) (hll : d.links.length ≤ 1000000) :
    Calls Tryd.prog 13 #[dumpV sN sL sR] w fun e w' => ∃ v, e = .returned v ∧ OwnI w.heap.size w' v (lbAt d.nodes.length d.links d.links.length) ∧ Fr NoB w w' := by
  obtain ⟨p, c1, hp⟩ := hd.nodes.form
  subst hp
  obtain ⟨pl, cl, hp⟩ := hd.links.form3
  subst hp
  have S0 := hid (RtS.start hd)
  have hmk := fun w => make_rows w d.nodes.length hlen
  clear hd
  obtain ⟨d0, d1, d2, df, dl⟩ := three_of S0.out.box
  unfold dumpV
  go_enter Tryd.func13, Tryd.ntmps13
  go_wp2
  clear hmk d0 d1 d2 df dl
  go_loopw [20] (fun j wr => ∃ (k : Nat), k ≤ d.links.length ∧ j = .int .i64 k ∧ (∃ hi, RtS w (.slice p d.nodes.length c1) (.slice pl d.links.length cl) sR d (adjAt d.nodes.length d.links k) hi wr)) (fun j _ => d.links.length - (intOf j).toNat)
  case atStart => exact ⟨0, Nat.zero_le _, rfl, 0, S0.out⟩
  case round =>
    obtain ⟨k, hk, rfl, hi, hs⟩ := hrel
    have S := hid hs
    have HLE : Hid (w.heap.size + 2 ≤ wr.heap.size) := hs.le
    clear hs S0
    by_cases hlt : k < d.links.length
    · obtain ⟨b, off, rfl, _, e0, e1, e2⟩ := S.out.rd.links.lkK hlt
      have HX := hid (List.getElem?_eq_getElem hlt)
      have HAD := hid (adjAt_succ d.nodes.length d.links hlt)
      have HKK := hid (adj_len d.nodes.length d.links k hk)
      obtain ⟨x, hx⟩ : ∃ x, d.links[k] = x := ⟨_, rfl⟩
      rw [hx] at e0 e1 e2 HX HAD
      clear hx
      obtain ⟨d0, d1, d2, df, dl⟩ := three_of S.out.box
      go_wp2_with fail
      clear d0 d1 d2 df dl e0 e1 e2
      have F0 := (Fr.refl NoB wr).alloc (.cells #[.int .i64 x.a, .int .i64 x.b, .int .i64 x.why] 50)
      have S0 := hid (S.out.grow F0)
      have HB0 := hid (at_new wr (.cells #[.int .i64 x.a, .int .i64 x.b, .int .i64 x.why] 50))
      clear F0 S
      refine (inside_id_any _ _ _ p d.nodes.length c1 rfl x.a _).mono ?_
      rintro e w2 ⟨rfl, hf⟩
      have S2 := hid (S0.out.grow hf)
      have HB2 := hid (hf.at (fun h => h) HB0.out)
      clear hf S0 HB0
      by_cases hA : 0 ≤ x.a ∧ x.a < d.nodes.length
      rotate_left
      · have hq : decide (0 ≤ x.a ∧ x.a < (d.nodes.length : Int)) = false := by simpa using hA
        have hin : lbIn d.nodes.length x = false := by unfold lbIn; simp; omega
        have HV : Hid (adjAt d.nodes.length d.links (k + 1) = adjAt d.nodes.length d.links k) := by
          show _ = _
          rw [HAD.out]; unfold adjStep; rw [if_neg (by rw [hin]; decide)]
        rw [hq]
        clear hq hA hin
        go_wp2
        go_roundw
        case rel => exact ⟨k + 1, by omega, by go_num, _, by rw [HV.out]; exact S2.out⟩
        case measure => simp [intOf]; omega
      · have hq : decide (0 ≤ x.a ∧ x.a < (d.nodes.length : Int)) = true := by simpa using hA
        rw [hq]
        have HA := hid hA
        clear hq hA
        obtain ⟨d0, d1, d2, df, dl⟩ := three_of S2.out.box
        obtain ⟨y0, y1, y2, yf, yl⟩ := three_of HB2.out
        go_wp2_with fail
        clear d0 d1 d2 df dl y0 y1 y2 yf yl
        refine (inside_id_any _ _ _ p d.nodes.length c1 rfl x.b _).mono ?_
        rintro e w3 ⟨rfl, hf⟩
        have S3 := hid (S2.out.grow hf)
        have HB3 := hid (hf.at (fun h => h) HB2.out)
        clear hf S2 HB2
        by_cases hB : 0 ≤ x.b ∧ x.b < d.nodes.length
        rotate_left
        · have hq : decide (0 ≤ x.b ∧ x.b < (d.nodes.length : Int)) = false := by simpa using hB
          have hin : lbIn d.nodes.length x = false := by unfold lbIn; simp; omega
          have HV : Hid (adjAt d.nodes.length d.links (k + 1) = adjAt d.nodes.length d.links k) := by
            show _ = _
            rw [HAD.out]; unfold adjStep; rw [if_neg (by rw [hin]; decide)]
          rw [hq]
          clear hq hB hin
          go_wp2
          go_roundw
          case rel => exact ⟨k + 1, by omega, by go_num, _, by rw [HV.out]; exact S3.out⟩
          case measure => simp [intOf]; omega
        · have hq : decide (0 ≤ x.b ∧ x.b < (d.nodes.length : Int)) = true := by simpa using hB
          rw [hq]
          have HBb := hid hB
          have HIN : Hid (lbIn d.nodes.length x = true) := by
            have := HA.out
            show _ = _
            unfold lbIn; simp; omega
          clear hq hB
          obtain ⟨a0, a1⟩ := HA.out
          obtain ⟨b0, b1⟩ := HBb.out
          go_wp2
          have D3 := hid (S3.out.grow (Fr.refl NoB w3).drew)
          have E3 := hid ((Fr.refl NoB w3).drew.at (fun h => h) HB3.out)
          obtain ⟨p4, c4, cl0, ow, nb, upd⟩ := D3.out.look (x := x.a) a0 a1
          have OW := hid ow
          have UPD := hid upd
          have NB := hid nb
          have CL := hid cl0
          have HS : Hid (∀ W', Fr (fun b => (Value.slice p4 ((adjAt d.nodes.length d.links k) x.a).length c4).ownBlock = some b) w3.drew W' → W'.cell? ⟨wr.heap.size, 0, none⟩ = some (.int .i64 x.a) ∧ W'.cell? ⟨wr.heap.size, 1, none⟩ = some (.int .i64 x.b) ∧ W'.cell? ⟨w.heap.size + 1, (x.a).toNat, none⟩ = some (.slice p4 ((adjAt d.nodes.length d.links k) x.a).length c4)) := fun W' hf => by
            obtain ⟨y0, y1, _⟩ := three_of (hf.at (fun e => by obtain ⟨cur, hc⟩ := OW.out.head e; exact ne_of_types hc E3.out (by decide) rfl) E3.out)
            exact ⟨y0, y1, (hf.cell (p := ⟨w.heap.size + 1, (x.a).toNat, none⟩) (Nat.lt_of_lt_of_le (Nat.lt_succ_self _) D3.out.le) (fun e => Nat.lt_irrefl _ (NB.out _ e).1)).trans CL.out⟩
          have HKL : Hid (((adjAt d.nodes.length d.links k) x.a).length ≤ 3000000) := by have := HKK.out x.a; show _ ≤ _; omega
          obtain ⟨q1, q2, q3⟩ := HS.out w3.drew (Fr.refl _ _)
          clear cl0 ow nb upd
          refine region_eff (fun W' => (W'.cell? ⟨wr.heap.size, 0, none⟩ = some (.int .i64 x.a) ∧ W'.cell? ⟨wr.heap.size, 1, none⟩ = some (.int .i64 x.b) ∧ W'.cell? ⟨w.heap.size + 1, (x.a).toNat, none⟩ = some (.slice p4 ((adjAt d.nodes.length d.links k) x.a).length c4))) 13 [(0, 1), (1, 1), (2, 0), (3, 1), (4, 1), (5, 0), (6, 1), (7, 0), (8, 1), (9, 0), (10, 2), (11, 2), (12, 1), (13, 2)] (by kernel_rfl) (by kernel_rfl) ?_ ?_
          · exact ⟨q1, q2, q3⟩
          clear q1 q2 q3
          repeat (first | (refine eff_off (by rfl) (by rfl) ?_; (try simp only [Act.put, List.setIfInBounds_toArray, List.set_cons_zero, List.set_cons_succ])) | (refine eff_off0 (by rfl) (by rfl) ?_; (try simp only [Act.put, List.setIfInBounds_toArray, List.set_cons_zero, List.set_cons_succ])) | (refine eff_pu ?_ (by rfl) (by rfl) ?_ ?_; rotate_left; (focus (intro w'; go_simp; (try with_reducible rfl); done)); (try simp only [Act.put, List.setIfInBounds_toArray, List.set_cons_zero, List.set_cons_succ])) | (refine eff_rd ?_ (by rfl) (by rfl) ?_ ?_; rotate_left; (focus (intro w' hS; (try obtain ⟨hq1, hS⟩ := hS); (try obtain ⟨hq2, hS⟩ := hS); (try obtain ⟨hq3, hS⟩ := hS); (try obtain ⟨hq4, hS⟩ := hS); (try obtain ⟨hq5, hS⟩ := hS); (try obtain ⟨hq6, hS⟩ := hS); (try obtain ⟨hq7, hS⟩ := hS); (try obtain ⟨hq8, hS⟩ := hS); (try obtain ⟨hq9, hS⟩ := hS); (try obtain ⟨hq10, hS⟩ := hS); (try obtain ⟨hq11, hS⟩ := hS); (try obtain ⟨hq12, hS⟩ := hS); (try obtain ⟨hq13, hS⟩ := hS); (try obtain ⟨hq14, hS⟩ := hS); (try obtain ⟨hq15, hS⟩ := hS); (try obtain ⟨hq16, hS⟩ := hS); (try obtain ⟨hq17, hS⟩ := hS); (try obtain ⟨hq18, hS⟩ := hS); (try obtain ⟨hq19, hS⟩ := hS); (try dsimp only at hS); go_simp; (try with_reducible rfl); done)); (try simp only [Act.put, List.setIfInBounds_toArray, List.set_cons_zero, List.set_cons_succ])))
          refine eff_run (v := .slice (some ⟨w3.heap.size, 0, none⟩) 1 1) (W' := w3.drew.alloc (.cells #[.int .i64 x.b] 3)) (by rfl) (by rfl) (by go_simp) (fun _ => HS.out _ ((Fr.refl _ _).alloc _)) ?_
          (try simp only [Act.put, List.setIfInBounds_toArray, List.set_cons_zero, List.set_cons_succ])
          refine eff_do (by rfl) ?_
          refine ap_ints_at _ rfl _ _ rfl 0 (.slice p4 ((adjAt d.nodes.length d.links k) x.a).length c4) ((adjAt d.nodes.length d.links k) x.a) rfl (OwnI.fr OW.out ((Fr.refl NoB _).alloc _) (fun _ _ h => h)) NoB _ [x.b] rfl (rdI_lit' (l := [x.b]) rfl rfl rfl (fun h => h)) ?_ (Nat.zero_le _) ?_
          · have := HKL.out
            simp only [List.length_singleton]
            omega
          intro v6 w6 ho6 hg6 hb6
          obtain ⟨a6, c6, hv6⟩ := ho6.form
          subst hv6
          have F6 := hid (Fr.grown ((Fr.refl (fun b => (Value.slice p4 ((adjAt d.nodes.length d.links k) x.a).length c4).ownBlock = some b) w3.drew).alloc (.cells #[.int .i64 x.b] 3)) hg6 (fun k hk _ => hk))
          have U7 := hid (UPD.out w6 _ _ F6.out ho6 (hb6.imp_right (fun h => ⟨_, h, by simp only [World.size_alloc]; omega⟩)))
          have O6 := hid ho6
          refine wpList_nil ⟨rfl, fun _ => HS.out w6 F6.out, ?_⟩
          (try simp only [Act.put, List.setIfInBounds_toArray, List.set_cons_zero, List.set_cons_succ])
          clear ho6 hg6 hb6
          have fz := U7.out.1
          obtain ⟨_, _, cq⟩ := HS.out w6 F6.out
          repeat (first | (refine eff_off (by rfl) (by rfl) ?_; (try simp only [Act.put, List.setIfInBounds_toArray, List.set_cons_zero, List.set_cons_succ])) | (refine eff_off0 (by rfl) (by rfl) ?_; (try simp only [Act.put, List.setIfInBounds_toArray, List.set_cons_zero, List.set_cons_succ])) | (refine eff_pu ?_ (by rfl) (by rfl) ?_ ?_; rotate_left; (focus (intro w'; go_simp; (try with_reducible rfl); done)); (try simp only [Act.put, List.setIfInBounds_toArray, List.set_cons_zero, List.set_cons_succ])) | (refine eff_rd ?_ (by rfl) (by rfl) ?_ ?_; rotate_left; (focus (intro w' hS; (try obtain ⟨hq1, hS⟩ := hS); (try obtain ⟨hq2, hS⟩ := hS); (try obtain ⟨hq3, hS⟩ := hS); (try obtain ⟨hq4, hS⟩ := hS); (try obtain ⟨hq5, hS⟩ := hS); (try obtain ⟨hq6, hS⟩ := hS); (try obtain ⟨hq7, hS⟩ := hS); (try obtain ⟨hq8, hS⟩ := hS); (try obtain ⟨hq9, hS⟩ := hS); (try obtain ⟨hq10, hS⟩ := hS); (try obtain ⟨hq11, hS⟩ := hS); (try obtain ⟨hq12, hS⟩ := hS); (try obtain ⟨hq13, hS⟩ := hS); (try obtain ⟨hq14, hS⟩ := hS); (try obtain ⟨hq15, hS⟩ := hS); (try obtain ⟨hq16, hS⟩ := hS); (try obtain ⟨hq17, hS⟩ := hS); (try obtain ⟨hq18, hS⟩ := hS); (try obtain ⟨hq19, hS⟩ := hS); (try dsimp only at hS); go_simp; (try with_reducible rfl); done)); (try simp only [Act.put, List.setIfInBounds_toArray, List.set_cons_zero, List.set_cons_succ])))
          refine eff_skip (W' := w6.setCell ⟨w.heap.size + 1, (x.a).toNat, none⟩ (.slice a6 ((adjAt d.nodes.length d.links k) x.a ++ [x.b]).length c6)) (by rfl) (by rfl) (by go_simp) (fun h => absurd rfl h) ?_
          (try simp only [Act.put, List.setIfInBounds_toArray, List.set_cons_zero, List.set_cons_succ])
          refine eff_nil ?_
          obtain ⟨w4, hW2⟩ : ∃ w7, w6.setCell ⟨w.heap.size + 1, (x.a).toNat, none⟩ (.slice a6 ((adjAt d.nodes.length d.links k) x.a ++ [x.b]).length c6) = w7 := ⟨_, rfl⟩
          have S4 := hid U7.out.2
          have HB4 := hid (((Fr.refl (fun q => q = w.heap.size + 1) w6).setCell (p := ⟨w.heap.size + 1, (x.a).toNat, none⟩) (fun _ => rfl) (.slice a6 ((adjAt d.nodes.length d.links k) x.a ++ [x.b]).length c6)).at (fun e => by have := HLE.out; omega) (F6.out.at (fun e => by obtain ⟨cur, hc⟩ := OW.out.head e; exact ne_of_types hc E3.out (by decide) rfl) E3.out))
          rw [hW2] at S4 HB4 ⊢
          clear OW UPD NB CL HS HKL F6 U7 O6 fz cq hW2 D3 E3
          obtain ⟨N1, hN1⟩ : ∃ N1 : Int → List Int, (fun v => if v = x.a then adjAt d.nodes.length d.links k x.a ++ [x.b] else adjAt d.nodes.length d.links k v) = N1 := ⟨_, rfl⟩
          rw [hN1] at S4
          have HN1 := hid hN1
          clear hN1
          go_wp2
          have D4 := hid (S4.out.grow (Fr.refl NoB w4).drew)
          have E4 := hid ((Fr.refl NoB w4).drew.at (fun h => h) HB4.out)
          obtain ⟨p5, c5, cl0, ow, nb, upd⟩ := D4.out.look (x := x.b) b0 b1
          have OW := hid ow
          have UPD := hid upd
          have NB := hid nb
          have CL := hid cl0
          have HS : Hid (∀ W', Fr (fun b => (Value.slice p5 (N1 x.b).length c5).ownBlock = some b) w4.drew W' → W'.cell? ⟨wr.heap.size, 0, none⟩ = some (.int .i64 x.a) ∧ W'.cell? ⟨wr.heap.size, 1, none⟩ = some (.int .i64 x.b) ∧ W'.cell? ⟨w.heap.size + 1, (x.b).toNat, none⟩ = some (.slice p5 (N1 x.b).length c5)) := fun W' hf => by
            obtain ⟨y0, y1, _⟩ := three_of (hf.at (fun e => by obtain ⟨cur, hc⟩ := OW.out.head e; exact ne_of_types hc E4.out (by decide) rfl) E4.out)
            exact ⟨y0, y1, (hf.cell (p := ⟨w.heap.size + 1, (x.b).toNat, none⟩) (Nat.lt_of_lt_of_le (Nat.lt_succ_self _) D4.out.le) (fun e => Nat.lt_irrefl _ (NB.out _ e).1)).trans CL.out⟩
          have HKL : Hid ((N1 x.b).length ≤ 3000000) := by have h1:= HKK.out x.a; have h2:= HKK.out x.b; show _ ≤ _; rw [← HN1.out]; simp only []; split; (rw [List.length_append, List.length_singleton]; omega); omega
          obtain ⟨q1, q2, q3⟩ := HS.out w4.drew (Fr.refl _ _)
          clear cl0 ow nb upd
          refine region_eff (fun W' => (W'.cell? ⟨wr.heap.size, 0, none⟩ = some (.int .i64 x.a) ∧ W'.cell? ⟨wr.heap.size, 1, none⟩ = some (.int .i64 x.b) ∧ W'.cell? ⟨w.heap.size + 1, (x.b).toNat, none⟩ = some (.slice p5 (N1 x.b).length c5))) 13 [(0, 1), (1, 1), (2, 0), (3, 1), (4, 1), (5, 0), (6, 1), (7, 0), (8, 1), (9, 0), (10, 2), (11, 2), (12, 1), (13, 2)] (by kernel_rfl) (by kernel_rfl) ?_ ?_
          · exact ⟨q1, q2, q3⟩
          clear q1 q2 q3
          repeat (first | (refine eff_off (by rfl) (by rfl) ?_; (try simp only [Act.put, List.setIfInBounds_toArray, List.set_cons_zero, List.set_cons_succ])) | (refine eff_off0 (by rfl) (by rfl) ?_; (try simp only [Act.put, List.setIfInBounds_toArray, List.set_cons_zero, List.set_cons_succ])) | (refine eff_pu ?_ (by rfl) (by rfl) ?_ ?_; rotate_left; (focus (intro w'; go_simp; (try with_reducible rfl); done)); (try simp only [Act.put, List.setIfInBounds_toArray, List.set_cons_zero, List.set_cons_succ])) | (refine eff_rd ?_ (by rfl) (by rfl) ?_ ?_; rotate_left; (focus (intro w' hS; (try obtain ⟨hq1, hS⟩ := hS); (try obtain ⟨hq2, hS⟩ := hS); (try obtain ⟨hq3, hS⟩ := hS); (try obtain ⟨hq4, hS⟩ := hS); (try obtain ⟨hq5, hS⟩ := hS); (try obtain ⟨hq6, hS⟩ := hS); (try obtain ⟨hq7, hS⟩ := hS); (try obtain ⟨hq8, hS⟩ := hS); (try obtain ⟨hq9, hS⟩ := hS); (try obtain ⟨hq10, hS⟩ := hS); (try obtain ⟨hq11, hS⟩ := hS); (try obtain ⟨hq12, hS⟩ := hS); (try obtain ⟨hq13, hS⟩ := hS); (try obtain ⟨hq14, hS⟩ := hS); (try obtain ⟨hq15, hS⟩ := hS); (try obtain ⟨hq16, hS⟩ := hS); (try obtain ⟨hq17, hS⟩ := hS); (try obtain ⟨hq18, hS⟩ := hS); (try obtain ⟨hq19, hS⟩ := hS); (try dsimp only at hS); go_simp; (try with_reducible rfl); done)); (try simp only [Act.put, List.setIfInBounds_toArray, List.set_cons_zero, List.set_cons_succ])))
          refine eff_run (v := .slice (some ⟨w4.heap.size, 0, none⟩) 1 1) (W' := w4.drew.alloc (.cells #[.int .i64 x.a] 3)) (by rfl) (by rfl) (by go_simp) (fun _ => HS.out _ ((Fr.refl _ _).alloc _)) ?_
          (try simp only [Act.put, List.setIfInBounds_toArray, List.set_cons_zero, List.set_cons_succ])
          refine eff_do (by rfl) ?_
          refine ap_ints_at _ rfl _ _ rfl 0 (.slice p5 (N1 x.b).length c5) (N1 x.b) rfl (OwnI.fr OW.out ((Fr.refl NoB _).alloc _) (fun _ _ h => h)) NoB _ [x.a] rfl (rdI_lit' (l := [x.a]) rfl rfl rfl (fun h => h)) ?_ (Nat.zero_le _) ?_
          · have := HKL.out
            simp only [List.length_singleton]
            omega
          intro v6 w6 ho6 hg6 hb6
          obtain ⟨a6, c6, hv6⟩ := ho6.form
          subst hv6
          have F6 := hid (Fr.grown ((Fr.refl (fun b => (Value.slice p5 (N1 x.b).length c5).ownBlock = some b) w4.drew).alloc (.cells #[.int .i64 x.a] 3)) hg6 (fun k hk _ => hk))
          have U7 := hid (UPD.out w6 _ _ F6.out ho6 (hb6.imp_right (fun h => ⟨_, h, by simp only [World.size_alloc]; omega⟩)))
          have O6 := hid ho6
          refine wpList_nil ⟨rfl, fun _ => HS.out w6 F6.out, ?_⟩
          (try simp only [Act.put, List.setIfInBounds_toArray, List.set_cons_zero, List.set_cons_succ])
          clear ho6 hg6 hb6
          have fz := U7.out.1
          obtain ⟨_, _, cq⟩ := HS.out w6 F6.out
          repeat (first | (refine eff_off (by rfl) (by rfl) ?_; (try simp only [Act.put, List.setIfInBounds_toArray, List.set_cons_zero, List.set_cons_succ])) | (refine eff_off0 (by rfl) (by rfl) ?_; (try simp only [Act.put, List.setIfInBounds_toArray, List.set_cons_zero, List.set_cons_succ])) | (refine eff_pu ?_ (by rfl) (by rfl) ?_ ?_; rotate_left; (focus (intro w'; go_simp; (try with_reducible rfl); done)); (try simp only [Act.put, List.setIfInBounds_toArray, List.set_cons_zero, List.set_cons_succ])) | (refine eff_rd ?_ (by rfl) (by rfl) ?_ ?_; rotate_left; (focus (intro w' hS; (try obtain ⟨hq1, hS⟩ := hS); (try obtain ⟨hq2, hS⟩ := hS); (try obtain ⟨hq3, hS⟩ := hS); (try obtain ⟨hq4, hS⟩ := hS); (try obtain ⟨hq5, hS⟩ := hS); (try obtain ⟨hq6, hS⟩ := hS); (try obtain ⟨hq7, hS⟩ := hS); (try obtain ⟨hq8, hS⟩ := hS); (try obtain ⟨hq9, hS⟩ := hS); (try obtain ⟨hq10, hS⟩ := hS); (try obtain ⟨hq11, hS⟩ := hS); (try obtain ⟨hq12, hS⟩ := hS); (try obtain ⟨hq13, hS⟩ := hS); (try obtain ⟨hq14, hS⟩ := hS); (try obtain ⟨hq15, hS⟩ := hS); (try obtain ⟨hq16, hS⟩ := hS); (try obtain ⟨hq17, hS⟩ := hS); (try obtain ⟨hq18, hS⟩ := hS); (try obtain ⟨hq19, hS⟩ := hS); (try dsimp only at hS); go_simp; (try with_reducible rfl); done)); (try simp only [Act.put, List.setIfInBounds_toArray, List.set_cons_zero, List.set_cons_succ])))
          refine eff_skip (W' := w6.setCell ⟨w.heap.size + 1, (x.b).toNat, none⟩ (.slice a6 (N1 x.b ++ [x.a]).length c6)) (by rfl) (by rfl) (by go_simp) (fun h => absurd rfl h) ?_
          (try simp only [Act.put, List.setIfInBounds_toArray, List.set_cons_zero, List.set_cons_succ])
          refine eff_nil ?_
          obtain ⟨w5, hW2⟩ : ∃ w7, w6.setCell ⟨w.heap.size + 1, (x.b).toNat, none⟩ (.slice a6 (N1 x.b ++ [x.a]).length c6) = w7 := ⟨_, rfl⟩
          have S5 := hid U7.out.2
          have HB5 := hid (((Fr.refl (fun q => q = w.heap.size + 1) w6).setCell (p := ⟨w.heap.size + 1, (x.b).toNat, none⟩) (fun _ => rfl) (.slice a6 (N1 x.b ++ [x.a]).length c6)).at (fun e => by have := HLE.out; omega) (F6.out.at (fun e => by obtain ⟨cur, hc⟩ := OW.out.head e; exact ne_of_types hc E4.out (by decide) rfl) E4.out))
          rw [hW2] at S5 HB5 ⊢
          clear OW UPD NB CL HS HKL F6 U7 O6 fz cq hW2 D4 E4
          have HV : Hid ((fun v => if v = x.b then N1 x.b ++ [x.a] else N1 v) = adjAt d.nodes.length d.links (k + 1)) := by
            show _ = _
            rw [HAD.out, ← HN1.out]; unfold adjStep; rw [if_pos HIN.out]
          rw [HV.out] at S5
          clear a0 a1 b0 b1
          go_wp2
          go_roundw
          case rel => exact ⟨k + 1, by omega, by go_num, _, S5.out⟩
          case measure => simp [intOf]; omega
    · obtain rfl : k = d.links.length := by omega
      have HF := hid (labOk_all d.nodes.length d.links)
      have HADJ := hid (adj_all d.nodes.length d.links)
      obtain ⟨f, hf⟩ : ∃ f : Int → Int, (fun v => (lbAt d.nodes.length d.links d.links.length).getD v.toNat 0) = f := ⟨_, rfl⟩
      rw [hf] at HF
      have HFE := hid hf
      have HNE := hid (fun x y => adj_ok HF.out (x := x) (y := y))
      have HNL := hid (adj_len d.nodes.length d.links d.links.length (Nat.le_refl _))
      obtain ⟨nl, hnl⟩ : ∃ nl, adjAt d.nodes.length d.links d.links.length = nl := ⟨_, rfl⟩
      rw [hnl] at HADJ S HNE HNL
      clear hf hnl
      have hmk := fun w => make_ints w d.nodes.length hlen
      obtain ⟨d0, d1, d2, df, dl⟩ := three_of S.out.box
      go_wp2
      clear hmk d0 d1 d2 df dl
      have FA := (Fr.refl NoB wr).alloc (.cells (Array.replicate d.nodes.length (.int .i64 0)) 3)
      have S1 := hid ((S.out.more (Nat.le_refl _)).grow FA)
      have I1 : Hid (IntAt (wr.alloc (.cells (Array.replicate d.nodes.length (.int .i64 0)) 3)) wr.heap.size (List.replicate d.nodes.length 0)) := by
        show IntAt _ _ _
        unfold IntAt
        rw [← repI]
        exact at_new wr _
      obtain ⟨gr, hgr⟩ : ∃ gr, wr.heap.size = gr := ⟨_, rfl⟩
      rw [hgr] at S1 I1 HLE ⊢
      have hg2 : w.heap.size + 2 ≤ gr := HLE.out
      clear FA S hgr
      go_loopw [67] (fun j wx => ∃ (k : Nat), k ≤ d.nodes.length ∧ j = .int .i64 k ∧ RtS w (.slice p d.nodes.length c1) (.slice pl d.links.length cl) sR d nl gr wx ∧ IntAt wx gr (fillI (fun _ => -1) k d.nodes.length)) (fun j _ => d.nodes.length - (intOf j).toNat)
      case atStart => exact ⟨0, Nat.zero_le _, rfl, S1.out, by simpa [fillI] using I1.out⟩
      case round =>
        obtain ⟨k, hk, rfl, hs, hi⟩ := hrel
        have S2 := hid hs
        have I2 := hid hi
        clear hs hi S1 I1
        by_cases hlt : k < d.nodes.length
        · obtain ⟨bv, ck⟩ : ∃ bv, wr.cell? ⟨gr, k, none⟩ = some (.int .i64 bv) := ⟨_, I2.out.cell (by rw [fillI_len _ (by omega)]; exact hlt)⟩
          have fk := I2.out.free k
          go_wp2
          go_roundw
          case rel =>
            refine ⟨k + 1, by omega, by go_num, S2.out.turn HLE.out ((Fr.refl _ _).setCell (p := ⟨gr, k, none⟩) (fun _ => Nat.le_refl _) _), ?_⟩
            have := I2.out.set k (-1)
            rw [fillI_on hlt rfl] at this
            exact this
          case measure => simp [intOf]; omega
        · obtain rfl : k = d.nodes.length := by omega
          rw [fillI_all, List.map_const', List.length_range] at I2
          go_wp2
          go_loopw [76] (fun j wx => ∃ (k : Nat) (rt : List Int), k ≤ d.nodes.length ∧ j = .int .i64 k ∧ RtS w (.slice p d.nodes.length c1) (.slice pl d.links.length cl) sR d nl gr wx ∧ IntAt wx gr rt ∧ OutI d.nodes.length f k rt) (fun j _ => d.nodes.length - (intOf j).toNat)
          case atStart => exact ⟨0, _, Nat.zero_le _, rfl, S2.out, I2.out, OutI.init d.nodes.length (fun v v0 v1 => (HF.out.rng v v0 v1).1)⟩
          case round =>
            obtain ⟨k, rt, hk, rfl, hs, hi, ho⟩ := hrel
            have S3 := hid hs
            have I3 := hid hi
            have O3 := hid ho
            have hrl : rt.length = d.nodes.length := ho.len
            have HRL := hid hrl
            clear hs hi ho S2 I2 hrl
            by_cases hlt : k < d.nodes.length
            · have ck : wr.cell? ⟨gr, k, none⟩ = some (.int .i64 (rt.getD k 0)) := I3.out.cell (by rw [HRL.out]; exact hlt)
              have fk := I3.out.free k
              have HR : Hid (rt.getD ((k : Int)).toNat 0 = rt.getD k 0) := by show _ = _; rfl
              obtain ⟨r, hr⟩ : ∃ r, rt.getD k 0 = r := ⟨_, rfl⟩
              rw [hr] at ck HR
              clear hr
              by_cases hr0 : 0 ≤ r
              · go_wp2
                go_roundw
                case rel => exact ⟨k + 1, rt, by omega, by go_num, S3.out, I3.out, by simpa using O3.out.skip HF.out (by omega) (by omega) (by rw [HR.out]; exact hr0)⟩
                case measure => simp [intOf]; omega
              · go_wp2
                have F4 : Fr (fun q => gr ≤ q) wr ((wr.setCell ⟨gr, k, none⟩ (.int .i64 k)).alloc (.cells #[.int .i64 k] 3)) := ((Fr.refl (fun q => gr ≤ q) wr).setCell (p := ⟨gr, k, none⟩) (fun _ => Nat.le_refl _) _).alloc _
                have S4 := hid (S3.out.turn HLE.out F4)
                have hgl := I3.out.lt
                have I4 : Hid (IntAt ((wr.setCell ⟨gr, k, none⟩ (.int .i64 k)).alloc (.cells #[.int .i64 k] 3)) gr (rt.set k k)) := by
                  show IntAt _ _ _
                  exact (I3.out.set k k).fr ((Fr.refl NoB _).alloc _) (fun h => h)
                have N4 : Hid (InI d.nodes.length f nl k (rt.set k k) [(k : Int)] 0 (nl 0).length) := by
                  have := O3.out.start (nl := nl) HF.out (by omega) (by omega) (by rw [HR.out]; omega) 0 (nl 0).length
                  show InI _ _ _ _ _ _ _ _
                  simpa using this
                have T4 : Hid (OwnI (gr + 1) ((wr.setCell ⟨gr, k, none⟩ (.int .i64 k)).alloc (.cells #[.int .i64 k] 3)) (.slice (some ⟨wr.heap.size, 0, none⟩) 1 1) [(k : Int)]) := by
                  show OwnI _ _ _ _
                  have := OwnI.lit (gr + 1) (wr.setCell ⟨gr, k, none⟩ (.int .i64 k)) [(k : Int)] (by simp; omega) (by simp)
                  simpa using this
                have HL4 : Hid (left2 (rt.set k k) [(k : Int)] ≤ 2 * d.nodes.length + 1) := by
                  show _ ≤ _
                  unfold left2
                  have := List.countP_le_length (p := fun v : Int => decide (v < 0)) (l := rt.set k k)
                  rw [List.length_set, HRL.out] at this
                  simp only [List.length_singleton]
                  omega
                clear ck fk F4 hgl S3 I3 O3 HR HRL
                go_loopw [9] (fun t wz => ∃ (rt' todo : List Int) (y : Int), RtS w (.slice p d.nodes.length c1) (.slice pl d.links.length cl) sR d nl gr wz ∧ IntAt wz gr rt' ∧ InI d.nodes.length f nl k rt' todo y (nl y).length ∧ left2 rt' todo ≤ 2 * d.nodes.length + 1 ∧ ∃ tp tc, t = .slice tp todo.length tc ∧ OwnI (gr + 1) wz (.slice tp todo.length tc) todo) (fun t wz => 2 * leftW gr wz + lenOf t)
                case atStart => exact ⟨_, [(k : Int)], 0, S4.out, I4.out, N4.out, HL4.out, _, _, rfl, T4.out⟩
                case round =>
                  obtain ⟨rt', todo, y, hs, hi, hn, hl, tp, tc, rfl, ht⟩ := hrel
                  have S5 := hid hs
                  have I5 := hid hi
                  have N5 := hid hn
                  have HL5 := hid hl
                  clear hs hi hn hl S4 I4 N4 T4 HL4
                  rcases List.eq_nil_or_concat todo with rfl | ⟨todo0, x, rfl⟩
                  · simp only [List.length_nil] at ht ⊢
                    clear ht
                    go_wp2
                    go_roundw
                    case rel => exact ⟨k + 1, rt', by omega, by go_num, S5.out, I5.out, by simpa using N5.out.stop HF.out HADJ.out⟩
                    case measure => simp [intOf]; omega
                  · simp only [List.concat_eq_append] at ht N5 HL5 ⊢
                    have hlen5 : todo0.length + 1 ≤ 2 * d.nodes.length + 1 := by
                      have := HL5.out
                      unfold left2 at this
                      simp only [List.length_append, List.length_singleton] at this
                      omega
                    rcases ht.form' with ⟨hv, _⟩ | ⟨gt, tcap, hv, hgt, hgs, hcap⟩
                    · simp at hv
                    simp only [Value.slice.injEq] at hv
                    obtain ⟨rfl, _, rfl⟩ := hv
                    have T6 := hid ht.pop
                    have ct : wr.cell? ⟨gt, todo0.length, none⟩ = some (.int .i64 x) := by
                      have := ht.cell (i := todo0.length) (by simp)
                      simpa using this
                    obtain ⟨⟨x0, x1, fx⟩, hn6⟩ := N5.out.pop
                    have N6 := hid hn6
                    have HFX := hid fx
                    obtain ⟨pn, cn, cx, own, nb, _⟩ := S5.out.look x0 x1
                    have O6 := hid own
                    have B6 := hid nb
                    have HL6 : Hid (2 * leftW gr wr + (todo0.length + 1) = left2 rt' todo0 + 1 ∧ left2 rt' todo0 ≤ 2 * d.nodes.length) := by
                      show _ ∧ _
                      have := HL5.out
                      rw [leftW_of I5.out]
                      unfold left2 at this ⊢
                      simp only [List.length_append, List.length_singleton] at this
                      omega
                    simp only [List.length_append, List.length_singleton] at hcap ⊢
                    clear own nb hn6 ht fx N5 HL5
                    go_wp2
                    clear ct cx
                    go_loopw [9, 109] (fun t j wz => ∃ (q : Nat) (rt2 td : List Int), q ≤ (nl x).length ∧ j = .int .i64 q ∧ RtS w (.slice p d.nodes.length c1) (.slice pl d.links.length cl) sR d nl gr wz ∧ IntAt wz gr rt2 ∧ InI d.nodes.length f nl k rt2 td x q ∧ left2 rt2 td ≤ left2 rt' todo0 ∧ OwnI 0 wz (.slice pn (nl x).length cn) (nl x) ∧ ∃ tp tc, t = .slice tp td.length tc ∧ OwnI (gr + 1) wz (.slice tp td.length tc) td) (fun _ j _ => (nl x).length - (intOf j).toNat)
                    case atStart => exact ⟨0, rt', todo0, Nat.zero_le _, rfl, S5.out, I5.out, N6.out, Nat.le_refl _, O6.out, _, _, rfl, T6.out⟩
                    case round =>
                      obtain ⟨q, rt2, td, hq, rfl, hs, hi, hn, hl, ho, tp, tc, rfl, ht⟩ := hrel
                      have S7 := hid hs
                      have I7 := hid hi
                      have N7 := hid hn
                      have HL7 := hid hl
                      have O7 := hid ho
                      have T7 := hid ht
                      have HRL7 : Hid (rt2.length = d.nodes.length) := hn.len
                      clear hs hi hn hl ht S5 I5 N6 T6 O6
                      have hnx := HNL.out x
                      by_cases hlt7 : q < (nl x).length
                      · rcases ho.form' with ⟨_, hv⟩ | ⟨gn, ncap, hv, _, _, _⟩
                        · rw [hv] at hlt7; simp at hlt7
                        simp only [Value.slice.injEq] at hv
                        obtain ⟨rfl, _, rfl⟩ := hv
                        have cy := ho.cell hlt7
                        have HYE := hid (rfl : (nl x).getD q 0 = (nl x).getD q 0)
                        have hmem : (nl x).getD q 0 ∈ nl x := by
                          rw [List.getD_eq_getElem?_getD, List.getElem?_eq_getElem hlt7]
                          exact List.getElem_mem hlt7
                        obtain ⟨y, hy⟩ : ∃ y, (nl x).getD q 0 = y := ⟨_, rfl⟩
                        have HY := hid hy
                        rw [hy] at cy hmem
                        obtain ⟨ya, yb, yf⟩ := HNE.out x y hmem
                        have HYF : Hid (f y = k) := yf.trans HFX.out
                        clear hmem hy HYE ho yf
                        have yn : y.toNat < d.nodes.length := by omega
                        have cr : wr.cell? ⟨gr, y.toNat, none⟩ = some (.int .i64 (rt2.getD y.toNat 0)) := I7.out.cell (by rw [HRL7.out]; exact yn)
                        have fr := I7.out.free y.toNat
                        obtain ⟨r, hr⟩ : ∃ r, rt2.getD y.toNat 0 = r := ⟨_, rfl⟩
                        rw [hr] at cr
                        have HR := hid hr
                        clear hr
                        by_cases hr0 : r < 0
                        · have hgl := I7.out.lt
                          have htl : td.length ≤ 2 * d.nodes.length := by
                            have h1 := HL7.out
                            have h2 := HL6.out.2
                            unfold left2 at h1 h2
                            omega
                          have F7 : Hid (Fr (fun q => q = gr) wr ((wr.setCell ⟨gr, y.toNat, none⟩ (.int .i64 k)).alloc (.cells #[.int .i64 y] 3))) := ((Fr.refl (fun q => q = gr) wr).setCell (p := ⟨gr, y.toNat, none⟩) (fun _ => rfl) _).alloc _
                          have T8 := hid (T7.out.fr F7.out (fun b hb e => by have := (World.ownsRow.lt T7.out b hb).1; have e2 : b = gr := e; omega))
                          go_wp2_with (at_builtin; refine ap_ints_at _ rfl _ _ rfl (gr + 1) (.slice tp td.length tc) td rfl T8.out NoB _ [y] rfl (rdI_lit' (l := [y]) rfl (by rfl) (by simp) (fun h => h)) ?_ ?_ ?_; (simp only [List.length_singleton]; omega); (simp; omega); intro v9 w9 ho9 hg9 ha9; obtain ⟨p9, q9, hv9⟩ := ho9.form; subst hv9; have G9 := hid hg9; have T9 := hid ho9; clear ho9 hg9 ha9)
                          have F9 := hid (Fr.grown (M := fun q => gr ≤ q) (F7.out.mono (fun j _ h => by have e2 : j = gr := h; omega)) G9.out (fun j hj _ => by have := (World.ownsRow.lt T7.out j hj).1; omega))
                          have I9 := hid (((I7.out.set y.toNat k).fr ((Fr.refl NoB _).alloc (.cells #[.int .i64 y] 3)) (fun h => h)).fr (Fr.grown (Fr.refl (fun b => (Value.slice tp td.length tc).ownBlock = some b) _) G9.out (fun j hj _ => hj)) (fun hj => by have := (World.ownsRow.lt T7.out gr hj).1; omega))
                          have hm := left2_mark (rt := rt2) (todo := td) (i := k) (y := y) (by rw [HRL7.out]; exact yn) (by omega) (by rw [HR.out]; exact hr0)
                          have HL9 : Hid (left2 (rt2.set y.toNat k) (td ++ [y]) ≤ left2 rt' todo0) := by
                            have := HL7.out
                            show _ ≤ _
                            omega
                          clear hm
                          go_roundw
                          case rel => exact ⟨q + 1, _, td ++ [y], by omega, by go_num, S7.out.turn HLE.out F9.out, I9.out, N7.out.mark hlt7 HY.out HYF.out ya yb (by rw [HR.out]; exact hr0), HL9.out, O7.out.fr F9.out (fun b hb h => by have := (B6.out b hb).2; have h2 : gr ≤ b := h; omega), _, _, by simp, T9.out⟩
                          case measure => simp [intOf]; omega
                        · go_wp2
                          go_roundw
                          case rel => exact ⟨q + 1, rt2, td, by omega, by go_num, S7.out, I7.out, N7.out.seen hlt7 HY.out HYF.out ya yb (by rw [HR.out]; exact hr0), HL7.out, O7.out, _, _, rfl, T7.out⟩
                          case measure => simp [intOf]; omega
                      · obtain rfl : q = (nl x).length := by omega
                        go_wp2
                        go_roundw
                        case rel => exact ⟨rt2, td, x, S7.out, I7.out, N7.out, by have := HL6.out.2; have := HL7.out; omega, _, _, rfl, T7.out⟩
                        case measure =>
                          have h1 := HL6.out.1
                          have h2 := HL7.out
                          simp only [lenOf]
                          rw [leftW_of I7.out]
                          unfold left2 at h2
                          unfold left2 at h1
                          omega
            · obtain rfl : k = d.nodes.length := by omega
              go_wp2
              have e := O3.out.all (lab := lbAt d.nodes.length d.links d.links.length) HF.out (lbAt_length _ _ _) (fun v _ _ => by rw [← HFE.out])
              have hq := I3.out.own (B := w.heap.size) (by have := HLE.out; omega) (by rw [HRL.out]; exact hlen)
              rw [HRL.out, e] at hq
              go_ret
              exact ⟨_, rfl, hq, S3.out.fr⟩
end Go.Proofs.YtgpliiepoimcbaaDoor
end
