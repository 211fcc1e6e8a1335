import Derived.Test.YtndfncaoejbkiaaGreatDoorPk7
import Derived.Test.YtndfncaoejbkiaaGreatDoorPk8
set_option linter.all false
section
/- The walk of invariant's twice. -/
namespace Go.Proofs.YtndfncaoejbkiaaGreatDoor
open Go.RowKit
set_option maxRecDepth 100000

abbrev AvX (X : Nat → Prop) (W : World) (bm : Nat) : Nat → Prop := fun q => (¬ X q ∧ q < W.heap.size) ∨ q = bm

/-- The table of twice. -/
structure TwT (X : Nat → Prop) (W : World) (bt bm : Nat) (T : List Node) (L : List TEnt) : Prop where
  tab : TableAt (AvX X W bm) W bt bm L
  xbt : X bt
  xbm : X bm
  ne : bm ≠ bt
  mem : ∀ m, (tget L m).isSome = true ↔ m ∈ T
  pow : Tab W
theorem TwT.noted {X : Nat → Prop} {W W' : World} {bt bm : Nat} {T : List Node} {L : List TEnt} (h : TwT X W bt bm T L) (hf : Fr (fun q => ¬ X q) W W') (hx : ∀ q, X q → q < W.heap.size) (hp : Tab W') : TwT X W' bt bm T L := by
  obtain ⟨h1, h2, h3, h4, h5, h6⟩ := h
  refine ⟨?_, h2, h3, h4, h5, hp⟩
  refine (h1.more.fr hf (fun h => h h2) (fun h => h h3) (fun k hk hn => .inl (.inl ⟨hn, hk⟩))).weaken (fun k _ hk => ?_)
  rcases hk with hk | hk
  · by_cases e : k < W.heap.size
    · exact .inl (.inl ⟨hk.1, e⟩)
    · exact .inr (by omega)
  · exact .inl (.inr hk)
/-- Reads, and new blocks of its own. -/
theorem TwT.grow {X X' : Nat → Prop} {W W' : World} {bt bm : Nat} {T : List Node} {L : List TEnt} (h : TwT X W bt bm T L) (hf : Fr NoB W W') (hx : ∀ q, X q → X' q) (hn : ∀ q, W.heap.size ≤ q → q < W'.heap.size → X' q) : TwT X' W' bt bm T L := by
  obtain ⟨h1, h2, h3, h4, h5, h6⟩ := h
  refine ⟨?_, hx _ h2, hx _ h3, h4, h5, h6.fr hf (fun h => h)⟩
  refine (h1.fr hf (fun h => h) (fun h => h) (fun _ _ h => h.elim)).weaken (fun k _ hk => ?_)
  rcases hk with hk | hk
  · by_cases e : k < W.heap.size
    · exact .inl ⟨fun h => hk.1 (hx k h), e⟩
    · exact absurd (hn k (by omega) hk.2) hk.1
  · exact .inr hk

set_option maxHeartbeats 4000000 in
theorem twice2_any (M : Nat → Prop) (sN sL sR : Value) (d : Dmp) (w : World) (br : Nat) (l : List Flw) (hd : RdD M w sN sL sR d) (hr : RepAt M w br l) (hlen : d.nodes.length ≤ 1000000) (hll : l.length ≤ 1000000) (ht : Tab w) (hMT : ¬ M TB)
    (hok : ∀ x ∈ d.nodes, NodeOk x.1 ∧ NodeSm x.1) (hord : ∀ x ∈ d.nodes, ∀ y ∈ x.1.args, 0 ≤ y ∧ y < d.nodes.length) :
    Calls Tryz.prog 70 #[dumpV sN sL sR, .func (.func 69) #[.pointer (some ⟨br, 0, none⟩)] #[]] w fun e w' => e = .returned (.tuple #[]) ∧
      (∃ M', RepAt M' w' br (l ++ fls 4 (twiceAt (nsOf d)) d.nodes.length) ∧ Gr M M' w) ∧ Fr M w w' := by
  obtain ⟨p, c1, hp⟩ := hd.nodes.form
  subst hp
  have S0 := hid (RepS.start hd hr)
  have HT := hid ht
  have HMT := hid hMT
  have HOK := hid hok
  have HORD : Hid (∀ y ∈ nsOf d, ∀ a ∈ y.args, 0 ≤ a ∧ a < (nsOf d).length) := by
    intro y hy a ha
    rw [nsOf_length]
    unfold nsOf at hy
    obtain ⟨x, hx, rfl⟩ := List.mem_map.1 hy
    exact hord x hx a ha
  have HX : Hid (∀ k, k < w.heap.size → ¬ (k = w.heap.size)) := fun k h e => by omega
  clear hd hr ht hMT hok hord
  unfold dumpV
  go_enter Tryz.func70, Tryz.ntmps70
  go_wp2_with fail
  refine (new_any _).mono ?_
  rintro e w1 ⟨bm, bt, rfl, b1, b2, b3, tab, hf⟩
  simp only [World.size_alloc] at b1 b2
  obtain ⟨X, hX⟩ : ∃ X : Nat → Prop, X = (fun q => w.heap.size ≤ q ∧ q < w1.heap.size) := ⟨_, rfl⟩
  have hsz : w.heap.size + 1 ≤ w1.heap.size := by have := hf.size; simp only [World.size_alloc] at this; omega
  have hmt : bm < w1.heap.size := (tab NoB).map.lt
  have hbt : bt < w1.heap.size := (tab NoB).lt
  have S1 : Hid (RepS M w (.slice p d.nodes.length c1) sL sR d br l [] X w1) := S0.out.grow hf (fun q hq => by rw [hX] at hq; simp only [World.size_alloc]; by_cases e : q = w.heap.size; exact .inl e; exact .inr (by omega)) (by rw [hX]; omega)
  have T1 : Hid (TwT X w1 bt bm [] []) := ⟨tab _, by rw [hX]; omega, by rw [hX]; omega, b3, fun m => by simp [tget], HT.out.fr (((Fr.refl NoB w).alloc _).step hf) (fun h => h)⟩
  clear hX hmt hbt hsz tab hf b1 b2 b3 S0 HX
  obtain ⟨d0, d1, d2, df, dl⟩ := three_of S1.out.box
  go_wp2
  clear d0 d1 d2 df dl
  go_loopw [11] (fun j wr => ∃ (k : Nat), k ≤ d.nodes.length ∧ j = .int .i64 k ∧ (∃ X L, RepS M w (.slice p d.nodes.length c1) sL sR d br l (fls 4 (twiceAt (nsOf d)) k) X wr ∧ TwT X wr bt bm ((nsOf d).take k) L)) (fun j _ => d.nodes.length - (intOf j).toNat)
  case atStart => exact ⟨0, Nat.zero_le _, rfl, X, [], by simpa [fls] using S1.out, by simpa using T1.out⟩
  case round =>
    obtain ⟨k, hk, rfl, X, L, hs, htt⟩ := hrel
    have S := hid hs
    have T := hid htt
    clear hs htt S1 T1
    by_cases hlt : k < d.nodes.length
    · obtain ⟨b, off, rfl, e0, e1, e2, e3, e4, ha⟩ := S.out.rd.nodes.nodeK hlt
      have HX := hid (nsOf_at hlt)
      have HMEM := hid (List.getElem_mem hlt)
      obtain ⟨x, hx⟩ : ∃ x, d.nodes[k] = x := ⟨_, rfl⟩
      rw [hx] at e0 e1 e2 e3 e4 ha HX HMEM
      obtain ⟨xn, xs⟩ := x
      simp only at e0 e1 e2 e3 e4 ha HX
      obtain ⟨xa, xc, hv⟩ := ha.form
      subst hv
      have HA := hid ha
      have HTW := hid (twice_mem HX.out HORD.out)
      have TK : Hid ((nsOf d).take (k + 1) = (nsOf d).take k ++ [xn]) := by show _ = _; rw [List.take_add_one, HX.out]; rfl
      have HF1 := hid (fls_le 4 (twiceAt (nsOf d)) k)
      clear hx ha
      go_wp2_with fail
      clear e0 e1 e2 e3 e4
      have FA := (Fr.refl NoB wr).alloc (.cells (nodeCells xn (.slice xa xn.args.length xc)) 44)
      have hsz : (wr.alloc (.cells (nodeCells xn (.slice xa xn.args.length xc)) 44)).heap.size = wr.heap.size + 1 := by simp
      obtain ⟨X1, hX1⟩ : ∃ X1 : Nat → Prop, X1 = (fun q => X q ∨ q = wr.heap.size) := ⟨_, rfl⟩
      have S0 : Hid (RepS M w (.slice (some ⟨b, off, none⟩) d.nodes.length c1) sL sR d br l (fls 4 (twiceAt (nsOf d)) k) X1 (wr.alloc (.cells (nodeCells xn (.slice xa xn.args.length xc)) 44))) := S.out.grow FA (fun q hq => by rw [hX1] at hq; exact hq.imp_right (fun h => by omega)) (by rw [hX1]; exact .inl S.out.bx)
      have T0 : Hid (TwT X1 (wr.alloc (.cells (nodeCells xn (.slice xa xn.args.length xc)) 44)) bt bm ((nsOf d).take k) L) := T.out.grow FA (fun q h => by rw [hX1]; exact .inl h) (fun q h1 h2 => by rw [hX1]; exact .inr (by omega))
      have HA0 := hid (HA.out.fr FA (fun _ _ h => h.elim))
      have HNB := hid (at_new wr (.cells (nodeCells xn (.slice xa xn.args.length xc)) 44))
      obtain ⟨wb, hwb⟩ : ∃ wb, wr.alloc (.cells (nodeCells xn (.slice xa xn.args.length xc)) 44) = wb := ⟨_, rfl⟩
      rw [hwb] at S0 T0 HA0 HNB ⊢
      clear hwb hX1 hsz FA S T HA
      cases hg : tget L xn with
      | some y =>
        have HTT : Hid (twiceAt (nsOf d) k = true) := HTW.out.2 ((T0.out.mem xn).1 (by rw [hg]; rfl))
        refine (put_some (AvX X1 wb bm) _ wb bt bm L T0.out.tab xn _ k HA0.out (HOK.out _ HMEM.out).1 (HOK.out _ HMEM.out).2 T0.out.pow y hg).mono ?_
        rintro e w2 ⟨rfl, hf⟩
        obtain ⟨X2, hX2⟩ : ∃ X2 : Nat → Prop, X2 = (fun q => X1 q ∨ (wb.heap.size ≤ q ∧ q < w2.heap.size)) := ⟨_, rfl⟩
        have S2 : Hid (RepS M w (.slice (some ⟨b, off, none⟩) d.nodes.length c1) sL sR d br l (fls 4 (twiceAt (nsOf d)) k) X2 w2) := S0.out.grow hf (fun q hq => by rw [hX2] at hq; exact hq) (by rw [hX2]; exact .inl S0.out.bx)
        have T2 : Hid (TwT X2 w2 bt bm ((nsOf d).take k) L) := T0.out.grow hf (fun q h => by rw [hX2]; exact .inl h) (fun q h1 h2 => by rw [hX2]; exact .inr ⟨h1, h2⟩)
        have HIN := hid ((T0.out.mem xn).1 (by rw [hg]; rfl))
        clear hf hX2 hg S0 T0
        obtain ⟨M3, n3, k3⟩ := S2.out.noted
        have HN3 := hid n3
        have HK3 := hid k3
        clear n3 k3
        go_wp2_with fail
        refine (repAdd_any M3 _ br _ 4 k HN3.out ?_).mono ?_
        · simp only [List.length_append]
          have h1 := HF1.out
          omega
        rintro e w9 ⟨rfl, ⟨M4, n4, g4⟩, f4⟩
        have S9 := hid (HK3.out w9 M4 _ n4 g4 f4)
        clear n4 g4 f4
        have T9 : Hid (TwT X2 w9 bt bm ((nsOf d).take (k + 1)) L) := by
          have h := T2.out.noted S9.out.2 (fun q hq => (S2.out.x q hq).2) (HT.out.fr S9.out.1.fr HMT.out)
          refine ⟨h.tab, h.xbt, h.xbm, h.ne, fun m => ?_, h.pow⟩
          rw [h.mem m, TK.out, List.mem_append, List.mem_singleton]
          exact ⟨.inl, fun h => h.elim id (fun e => by rw [e]; exact HIN.out)⟩
        go_wp2
        go_roundw
        case rel => exact ⟨k + 1, by omega, by go_num, X2, L, by rw [fls_on HTT.out]; exact S9.out.1, T9.out⟩
        case measure => simp [intOf]; omega
      | none =>
        have HNI : Hid (xn ∉ (nsOf d).take k) := fun h => by
          have := (T0.out.mem xn).2 h
          rw [hg] at this; cases this
        have HTF : Hid (twiceAt (nsOf d) k = false) := by
          show _ = _
          cases h : twiceAt (nsOf d) k with
          | false => rfl
          | true => exact absurd (HTW.out.1 h) HNI.out
        have hbmlt := T0.out.tab.map.lt
        refine (put_none (AvX X1 wb bm) _ wb bt bm L T0.out.tab xn _ k HA0.out (HOK.out _ HMEM.out).1 (HOK.out _ HMEM.out).2 T0.out.pow hg (.inr rfl) T0.out.ne (fun q hq => by rcases hq with h | h; exact h.2; omega)).mono ?_
        rintro e w2 ⟨rfl, ⟨sl, ht2⟩, hf⟩
        obtain ⟨X2, hX2⟩ : ∃ X2 : Nat → Prop, X2 = (fun q => X1 q ∨ (wb.heap.size ≤ q ∧ q < w2.heap.size)) := ⟨_, rfl⟩
        have hx1 := S0.out.x _ T0.out.xbm
        have hbne : bm ≠ w.heap.size := fun e => by
          have h5 := S0.out.box
          rw [← e] at h5
          exact T0.out.tab.map.ne_cells h5 rfl
        have S2 : Hid (RepS M w (.slice (some ⟨b, off, none⟩) d.nodes.length c1) sL sR d br l (fls 4 (twiceAt (nsOf d)) k) X2 w2) := S0.out.turn' hf (fun q e => by rw [show q = bm from e]; exact ⟨T0.out.xbm, hbne⟩) (fun q hq => by rw [hX2] at hq; exact hq) (by rw [hX2]; exact .inl S0.out.bx)
        have T2 : Hid (TwT X2 w2 bt bm ((nsOf d).take (k + 1)) (L ++ [⟨xn, sl, k⟩])) := by
          refine ⟨ht2.weaken (fun q _ hq => ?_), by rw [hX2]; exact .inl T0.out.xbt, by rw [hX2]; exact .inl T0.out.xbm, T0.out.ne, fun m => ?_, T0.out.pow.fr hf (fun e => ?_)⟩
          · rcases hq with hq | hq
            · rw [hX2] at hq
              by_cases e : q < wb.heap.size
              · exact .inl ⟨fun h => hq.1 (.inl h), e⟩
              · exact absurd (.inr ⟨by omega, hq.2⟩) hq.1
            · exact .inr hq
          · rw [TK.out, List.mem_append, List.mem_singleton, ← T0.out.mem m, tget_isSome, tget_isSome]
            constructor
            · rintro ⟨y, hy, e⟩
              rw [List.mem_append, List.mem_singleton] at hy
              rcases hy with hy | hy
              · exact .inl ⟨y, hy, e⟩
              · subst hy; exact .inr e.symm
            · rintro (⟨y, hy, e⟩ | e)
              · exact ⟨y, List.mem_append_left _ hy, e⟩
              · exact ⟨_, List.mem_append_right _ (List.mem_singleton.2 rfl), e.symm⟩
          · have := HT.out.lt
            have e2 : TB = bm := e
            omega
        clear hf hX2 hg S0 T0 ht2 hx1 hbne hbmlt
        go_wp2
        go_roundw
        case rel => exact ⟨k + 1, by omega, by go_num, X2, _, by rw [fls_off HTF.out]; exact S2.out, T2.out⟩
        case measure => simp [intOf]; omega
    · obtain rfl : k = d.nodes.length := by omega
      go_wp2
      go_end0
      obtain ⟨M', h1, h2, _⟩ := S.out.rep
      exact ⟨rfl, ⟨M', h1, h2⟩, S.out.fr⟩
end Go.Proofs.YtndfncaoejbkiaaGreatDoor
end
section
/- The walk of invariant's links. -/
namespace Go.Proofs.YtndfncaoejbkiaaGreatDoor
open Go.RowKit
set_option maxRecDepth 100000

abbrev NewX (X : Nat → Prop) (W W' : World) : Nat → Prop := fun q => X q ∨ (W.heap.size ≤ q ∧ q < W'.heap.size)
/-- The state of links' first loop: k kinds are found, kf links are in the forest at bf. -/
structure LkS (M : Nat → Prop) (w : World) (sN sL sR : Value) (d : Dmp) (br : Nat) (l F : List Flw) (g bf : Nat) (k kf : Nat) (Mf X : Nat → Prop) (W : World) : Prop where
  st : RepS M w sN sL sR d br l F X W
  row : IntAt W g (fillI (lkBad (nsOf d) d.links) k d.links.length)
  xg : X g
  gb : g ≠ w.heap.size
  frs : ∃ Lf r, ForAt Mf W bf Lf r ∧ (∀ q, Mf q → X q) ∧ ¬ Mf g ∧ ¬ Mf w.heap.size ∧ PR r (lbAt d.nodes.length d.links kf) ∧ Lf.length ≤ kf
section
variable {M : Nat → Prop} {w : World} {sN sL sR : Value} {d : Dmp} {br : Nat} {l F : List Flw} {g bf k kf : Nat} {Mf X : Nat → Prop} {W W' : World}
theorem LkS.grow (h : LkS M w sN sL sR d br l F g bf k kf Mf X W) (hf : Fr NoB W W') : LkS M w sN sL sR d br l F g bf k kf Mf (NewX X W W') W' := by
  obtain ⟨h1, h2, h3, h4, Lf, r, h5, h6, h7, h8, h9⟩ := h
  exact ⟨h1.grow hf (fun _ h => h) (.inl h1.bx), h2.fr hf (fun h => h), .inl h3, h4, Lf, r, h5.step hf, fun q hq => .inl (h6 q hq), h7, h8, h9⟩
theorem LkS.set (h : LkS M w sN sL sR d br l F g bf k kf Mf X W) (hk : k < d.links.length) {v : Int} (hv : lkBad (nsOf d) d.links k = v) : LkS M w sN sL sR d br l F g bf (k + 1) kf Mf X (W.setCell ⟨g, k, none⟩ (.int .i64 v)) := by
  obtain ⟨h1, h2, h3, h4, Lf, r, h5, h6, h7, h8, h9⟩ := h
  have hf : Fr (fun q => q = g) W (W.setCell ⟨g, k, none⟩ (.int .i64 v)) := (Fr.refl (fun q => q = g) W).setCell (p := ⟨g, k, none⟩) (fun _ => rfl) _
  refine ⟨h1.turn hf (fun q e => by rw [show q = g from e]; exact ⟨h3, h4⟩), ?_, h3, h4, Lf, r, h5.fr hf (fun q hq e => h7 (by rw [← show q = g from e]; exact hq)), h6, h7, h8, h9⟩
  have := h2.set k v
  rw [fillI_on hk hv] at this
  exact this
theorem LkS.skip (h : LkS M w sN sL sR d br l F g bf k kf Mf X W) (hk : k < d.links.length) (hv : lkBad (nsOf d) d.links k = 0) : LkS M w sN sL sR d br l F g bf (k + 1) kf Mf X W := by
  obtain ⟨h1, h2, h3, h4, h5⟩ := h
  rw [fillI_off hk hv] at h2
  exact ⟨h1, h2, h3, h4, h5⟩
theorem LkS.out (h : LkS M w sN sL sR d br l F g bf k kf Mf X W) {x : Lnk} (hx : d.links[kf]? = some x) (hin : lbIn d.nodes.length x = false) : LkS M w sN sL sR d br l F g bf k (kf + 1) Mf X W := by
  obtain ⟨h1, h2, h3, h4, Lf, r, h5, h6, h7, h8, h9, h10⟩ := h
  refine ⟨h1, h2, h3, h4, Lf, r, h5, h6, h7, h8, ?_, by omega⟩
  have hk := (List.getElem?_eq_some_iff.1 hx)
  obtain ⟨hk1, hk2⟩ := hk
  rw [lbAt_succ _ _ hk1, hk2]
  have := h9.step (lbAt_length _ _ _) x
  unfold rStep at this
  rw [if_neg (fun h => by rw [hin] at h; cases h.1)] at this
  exact this
/-- The call of Link. -/
theorem LkS.link (h : LkS M w sN sL sR d br l F g bf k kf Mf X W) {x : Lnk} (hx : d.links[kf]? = some x) (hin : lbIn d.nodes.length x = true) : ∃ Lf r, ForAt Mf W bf Lf r ∧ Lf.length ≤ kf ∧ PR r (lbAt d.nodes.length d.links kf) ∧
    ∀ e W2, LinkPost Mf W bf Lf r x.a x.b x.why e W2 → e = .returned (.bool (decide (r x.a ≠ r x.b))) ∧ (∃ Mf', LkS M w sN sL sR d br l F g bf k (kf + 1) Mf' (NewX X W W2) W2) ∧ (∀ q c, q < W.heap.size → ¬ Mf q → W.cell? ⟨q, c, none⟩ = W2.cell? ⟨q, c, none⟩) ∧ W.heap.size ≤ W2.heap.size := by
  obtain ⟨h1, h2, h3, h4, Lf, r, h5, h6, h7, h8, h9, h10⟩ := h
  refine ⟨Lf, r, h5, h10, h9, fun e W2 hp => ?_⟩
  unfold LinkPost at hp
  obtain ⟨he, ⟨M', h11, h12⟩, hf⟩ := hp
  have hh := hin
  unfold lbIn at hh
  simp only [decide_eq_true_eq] at hh
  have hb : (0 ≤ x.a ∧ 0 ≤ x.b ∧ r x.a ≠ r x.b) ↔ r x.a ≠ r x.b := ⟨fun h => h.2.2, fun h => ⟨hh.1, hh.2.1, h⟩⟩
  have hk := (List.getElem?_eq_some_iff.1 hx)
  obtain ⟨hk1, hk2⟩ := hk
  have hpr := h9.step (lbAt_length _ _ _) x
  rw [← hk2, ← lbAt_succ _ _ hk1, hk2] at hpr
  have hlt := h2.lt
  have hbl := (h1.x _ h1.bx).2
  refine ⟨by rw [he]; simp only [hb], ⟨M', h1.turn' hf (fun q hq => ⟨h6 q hq, fun e => h8 (e ▸ hq)⟩) (fun _ h => h) (.inl h1.bx), h2.fr hf h7, .inl h3, h4, _, _, h11, fun q hq => ?_, fun h => ?_, fun h => ?_, ?_, ?_⟩, fun q c hq hn => (hf.cell (p := ⟨q, c, none⟩) hq hn).symm, hf.size⟩
  · rcases h12 q hq with h | h
    · exact .inl (h6 q h)
    · exact .inr ⟨h, h11.lt q hq⟩
  · rcases h12 _ h with h | h
    · exact h7 h
    · omega
  · rcases h12 _ h with h | h
    · exact h8 h
    · omega
  · unfold rStep at hpr
    by_cases c : r x.a ≠ r x.b
    · rw [if_pos ⟨hin, c⟩] at hpr
      rw [if_pos ⟨hh.1, hh.2.1, c⟩]; exact hpr
    · rw [if_neg (fun h => c h.2)] at hpr
      rw [if_neg (fun h => c h.2.2)]; exact hpr
  · split
    · rw [List.length_append, List.length_singleton]; omega
    · omega
theorem LkS.flt (h : LkS M w sN sL sR d br l F g bf k kf Mf X W) : ∀ q, Mf q → q < W.heap.size := by
  obtain ⟨_, _, _, _, Lf, r, h5, _⟩ := h
  exact h5.lt
end


set_option maxHeartbeats 4000000 in
theorem links_any (M : Nat → Prop) (sN sL sR : Value) (d : Dmp) (w : World) (br : Nat) (l : List Flw) (hd : RdD M w sN sL sR d) (hr : RepAt M w br l) (hlen : d.nodes.length ≤ 1000000) (hlk : d.links.length ≤ 1000000) (hll : l.length ≤ 1000000) :
    Calls Tryz.prog 71 #[dumpV sN sL sR, .func (.func 69) #[.pointer (some ⟨br, 0, none⟩)] #[]] w fun e w' => e = .returned (.tuple #[]) ∧
      (∃ M', RepAt M' w' br (l ++ lkPre (nsOf d) d.links 3) ∧ Gr M M' w) ∧ Fr M w w' := by
  obtain ⟨p, c1, hp⟩ := hd.nodes.form
  subst hp
  obtain ⟨pl, cl, hp⟩ := hd.links.form3
  subst hp
  have S0 := hid (RepS.start hd hr)
  have hmk := fun w => make_ints w d.links.length hlk
  clear hd hr
  unfold dumpV
  go_enter Tryz.func71, Tryz.ntmps71
  go_wp2_with fail
  clear hmk
  refine (fnew_any _).mono ?_
  rintro e w1 ⟨bf, Mf, rfl, hF, hM, hf⟩
  have fa : Fr NoB (w.alloc (.cells (dumpCells (.slice p d.nodes.length c1) (.slice pl d.links.length cl) sR) 26)) w1 := ((Fr.refl NoB _).alloc (.cells (Array.replicate d.links.length (.int .i64 0)) 3)).step hf
  have hsz : w.heap.size + 2 ≤ w1.heap.size := by have := hf.size; simp only [World.size_alloc] at this; omega
  simp only [World.size_alloc] at hM
  obtain ⟨X, hX⟩ : ∃ X : Nat → Prop, X = (fun q => w.heap.size ≤ q ∧ q < w1.heap.size) := ⟨_, rfl⟩
  have S1 : Hid (LkS M w (.slice p d.nodes.length c1) (.slice pl d.links.length cl) sR d br l [] (w.heap.size + 1) bf 0 0 Mf X w1) := by
    refine ⟨S0.out.grow fa (fun q hq => by rw [hX] at hq; simp only [World.size_alloc]; by_cases e : q = w.heap.size; exact .inl e; exact .inr (by omega)) (by rw [hX]; omega), ?_, by rw [hX]; omega, by omega, [], _, hF, fun q hq => by rw [hX]; exact ⟨by have := hM q hq; omega, hF.lt q hq⟩, fun h => by have := hM _ h; omega, fun h => by have := hM _ h; omega, PR.init _, Nat.le_refl _⟩
    show IntAt _ _ (List.replicate d.links.length 0)
    unfold IntAt
    rw [← repI]
    exact hf.at (fun h => h) (at_new' (by simp))
  clear S0 fa hsz hX hF hM hf
  obtain ⟨d0, d1, d2, df, dl⟩ := three_of S1.out.st.box
  go_wp2
  clear d0 d1 d2 df dl
  obtain ⟨g, hg⟩ : ∃ g, w.heap.size + 1 = g := ⟨_, rfl⟩
  rw [hg] at S1 ⊢
  clear hg
  go_loopw [19] (fun j wr => ∃ (k : Nat), k ≤ d.links.length ∧ j = .int .i64 k ∧ (∃ Mf X, LkS M w (.slice p d.nodes.length c1) (.slice pl d.links.length cl) sR d br l [] g bf k k Mf X wr)) (fun j _ => d.links.length - (intOf j).toNat)
  case atStart => exact ⟨0, Nat.zero_le _, rfl, Mf, X, S1.out⟩
  case round =>
    obtain ⟨k, hk, rfl, Mf, X, hs⟩ := hrel
    have S := hid hs
    clear hs S1
    by_cases hlt : k < d.links.length
    · obtain ⟨b, off, rfl, _, e0, e1, e2⟩ := S.out.st.rd.links.lkK hlt
      have HX := hid (List.getElem?_eq_getElem hlt)
      obtain ⟨x, hx⟩ : ∃ x, d.links[k] = x := ⟨_, rfl⟩
      rw [hx] at e0 e1 e2 HX
      clear hx
      obtain ⟨d0, d1, d2, df, dl⟩ := three_of S.out.st.box
      go_wp2_with fail
      clear d0 d1 d2 df dl e0 e1 e2
      have F0 := (Fr.refl NoB wr).alloc (.cells #[.int .i64 x.a, .int .i64 x.b, .int .i64 x.why] 57)
      have S0 := hid (S.out.grow F0)
      have HB0 := hid (at_new wr (.cells #[.int .i64 x.a, .int .i64 x.b, .int .i64 x.why] 57))
      have HQ := hid S.out.flt
      clear F0 S
      refine (inside_id_any _ _ _ p d.nodes.length c1 rfl x.a _).mono ?_
      rintro e w2 ⟨rfl, hf⟩
      have S2 := hid (S0.out.grow hf)
      have HB2 := hid (hf.at (fun h => h) HB0.out)
      have HSZ2 : Hid (wr.heap.size < w2.heap.size) := (Array.getElem?_eq_some_iff.1 HB2.out).1
      clear hf S0 HB0
      have H5 : Hid (lbIn d.nodes.length x = false → lkBad (nsOf d) d.links k = 5) := fun h => by
        unfold lkBad
        rw [HX.out]
        simp [nsOf_length, h]
      by_cases hA : 0 ≤ x.a ∧ x.a < d.nodes.length
      rotate_left
      · have hq : decide (0 ≤ x.a ∧ x.a < (d.nodes.length : Int)) = false := by simpa using hA
        have hin : lbIn d.nodes.length x = false := by unfold lbIn; simp; omega
        have HV := hid (H5.out hin)
        have S3 := hid (S2.out.out HX.out hin)
        rw [hq]
        clear hq hA hin
        obtain ⟨bv, ck⟩ : ∃ bv, w2.cell? ⟨g, k, none⟩ = some (.int .i64 bv) := ⟨_, S3.out.row.cell (by rw [fillI_len _ (by omega)]; exact hlt)⟩
        have fk := S3.out.row.free k
        go_wp2
        go_roundw
        case rel => exact ⟨k + 1, by omega, by go_num, _, _, S3.out.set hlt HV.out⟩
        case measure => simp [intOf]; omega
      · have hq : decide (0 ≤ x.a ∧ x.a < (d.nodes.length : Int)) = true := by simpa using hA
        rw [hq]
        have HA := hid hA
        clear hq hA
        obtain ⟨d0, d1, d2, df, dl⟩ := three_of S2.out.st.box
        obtain ⟨y0, y1, y2, yf, yl⟩ := three_of HB2.out
        go_wp2_with fail
        clear d0 d1 d2 df dl y0 y1 y2 yf yl
        refine (inside_id_any _ _ _ p d.nodes.length c1 rfl x.b _).mono ?_
        rintro e w3 ⟨rfl, hf⟩
        have S3 := hid (S2.out.grow hf)
        have HB3 := hid (hf.at (fun h => h) HB2.out)
        have HSZ3 : Hid (wr.heap.size < w3.heap.size) := (Array.getElem?_eq_some_iff.1 HB3.out).1
        clear hf S2 HB2
        by_cases hB : 0 ≤ x.b ∧ x.b < d.nodes.length
        rotate_left
        · have hq : decide (0 ≤ x.b ∧ x.b < (d.nodes.length : Int)) = false := by simpa using hB
          have hin : lbIn d.nodes.length x = false := by unfold lbIn; simp; omega
          have HV := hid (H5.out hin)
          have S4 := hid (S3.out.out HX.out hin)
          rw [hq]
          clear hq hB hin
          obtain ⟨bv, ck⟩ : ∃ bv, w3.cell? ⟨g, k, none⟩ = some (.int .i64 bv) := ⟨_, S4.out.row.cell (by rw [fillI_len _ (by omega)]; exact hlt)⟩
          have fk := S4.out.row.free k
          go_wp2
          go_roundw
          case rel => exact ⟨k + 1, by omega, by go_num, _, _, S4.out.set hlt HV.out⟩
          case measure => simp [intOf]; omega
        · have hq : decide (0 ≤ x.b ∧ x.b < (d.nodes.length : Int)) = true := by simpa using hB
          rw [hq]
          have HBb := hid hB
          have HIN : Hid (lbIn d.nodes.length x = true) := by
            have := HA.out
            show _ = _
            unfold lbIn; simp; omega
          clear hq hB
          obtain ⟨y0, y1, y2, yf, yl⟩ := three_of HB3.out
          go_wp2_with fail
          clear y0 y1 y2 yf yl
          obtain ⟨Lf, r, hF, hL, hPR, post⟩ := S3.out.link HX.out HIN.out
          have POST := hid post
          have HPR := hid hPR
          clear post hPR
          refine (flink_any Mf _ bf Lf r x.a x.b x.why hF (by omega)).mono ?_
          intro e w4 hp
          obtain ⟨he, ⟨Mf', s4⟩, hcell, hs4⟩ := POST.out e w4 hp
          subst he
          have S4 := hid s4
          have HC4 : Hid (w4.cell? ⟨wr.heap.size, 0, none⟩ = some (.int .i64 x.a) ∧ w4.cell? ⟨wr.heap.size, 1, none⟩ = some (.int .i64 x.b)) := by
            obtain ⟨y0, y1, y2, yf, yl⟩ := three_of HB3.out
            have hn : ¬ Mf wr.heap.size := fun h => by have := HQ.out _ h; omega
            exact ⟨(hcell _ _ HSZ3.out hn).symm.trans y0, (hcell _ _ HSZ3.out hn).symm.trans y1⟩
          have HLB := hid (lkBad_of HX.out (by rw [nsOf_length]; exact HPR.out))
          rw [nsOf_length, HIN.out] at HLB
          have HSZ4 : Hid (wr.heap.size < w4.heap.size) := by have := HSZ3.out; show _ < _; omega
          clear hp s4 hcell hs4 POST hF hL S3 HB3
          by_cases hr : r x.a = r x.b
          · have hq : decide (r x.a ≠ r x.b) = false := by simpa using hr
            have HV : Hid (lkBad (nsOf d) d.links k = 6) := by show _ = _; rw [HLB.out, if_neg (by simp), if_pos hr]
            rw [hq]
            clear hq hr
            obtain ⟨bv, ck⟩ : ∃ bv, w4.cell? ⟨g, k, none⟩ = some (.int .i64 bv) := ⟨_, S4.out.row.cell (by rw [fillI_len _ (by omega)]; exact hlt)⟩
            have fk := S4.out.row.free k
            go_wp2
            go_roundw
            case rel => exact ⟨k + 1, by omega, by go_num, _, _, S4.out.set hlt HV.out⟩
            case measure => simp [intOf]; omega
          · have hq : decide (r x.a ≠ r x.b) = true := by simpa using hr
            have HR := hid hr
            rw [hq]
            clear hq hr
            obtain ⟨a0, a1⟩ := HA.out
            obtain ⟨b0, b1⟩ := HBb.out
            have ha : x.a.toNat < d.nodes.length := by omega
            have hb : x.b.toNat < d.nodes.length := by omega
            obtain ⟨bn, on, hp1, _, g1, _, _, _, _⟩ := S4.out.st.rd.nodes.nodeK ha
            subst hp1
            obtain ⟨bn', on', hp2, _, g2, _, _, _, _⟩ := S4.out.st.rd.nodes.nodeK hb
            simp only [Option.some.injEq, Addr.mk.injEq, and_true] at hp2
            obtain ⟨rfl, rfl⟩ := hp2
            have HWA := hid (wAt_of (d := d) (a := x.a) (List.getElem?_eq_getElem ha))
            have HWB := hid (wAt_of (d := d) (a := x.b) (List.getElem?_eq_getElem hb))
            generalize d.nodes[x.a.toNat] = na at g1 HWA
            generalize d.nodes[x.b.toNat] = nb at g2 HWB
            obtain ⟨d0, d1, d2, df, dl⟩ := three_of S4.out.st.box
            obtain ⟨y0, y1⟩ := HC4.out
            have db := lt_of_cell g1
            have yl := HSZ4.out
            by_cases hw : na.1.width = nb.1.width
            · have hq : (na.1.width != nb.1.width) = false := by simpa using hw
              have HV : Hid (lkBad (nsOf d) d.links k = 0) := by show _ = _; rw [HLB.out, if_neg (by simp), if_neg HR.out, HWA.out, HWB.out, if_neg (by simpa using hw)]
              clear hw df
              go_wp2
              refine region_txt (Fr NoB _) (by kernel_rfl) (by kernel_rfl) ((Fr.refl NoB _).drew) ?_
              repeat (first | (refine txt_off (by rfl) ?_; (try simp only [Act.put, List.setIfInBounds_toArray, List.set_cons_zero, List.set_cons_succ])) | (refine txt_read ?_ (by rfl) ?_ ?_; rotate_left; (focus (intro W hW; have hWc := Fr.cq hW; clear hW; go_simp; (try with_reducible rfl); done)); (try simp only [Act.put, List.setIfInBounds_toArray, List.set_cons_zero, List.set_cons_succ])))
              refine txt_nil ?_
              intro W hW
              have S5 := hid (S4.out.grow hW)
              clear hW d0 d1 d2 dl y0 y1 g1 g2 db yl
              go_wp2
              go_roundw
              case rel => exact ⟨k + 1, by omega, by go_num, _, _, S5.out.skip hlt HV.out⟩
              case measure => simp [intOf]; omega
            · have hq : (na.1.width != nb.1.width) = true := by simpa using hw
              have HV : Hid (lkBad (nsOf d) d.links k = 7) := by show _ = _; rw [HLB.out, if_neg (by simp), if_neg HR.out, HWA.out, HWB.out, if_pos hw]
              clear hw df
              go_wp2
              refine region_txt (Fr NoB _) (by kernel_rfl) (by kernel_rfl) ((Fr.refl NoB _).drew) ?_
              repeat (first | (refine txt_off (by rfl) ?_; (try simp only [Act.put, List.setIfInBounds_toArray, List.set_cons_zero, List.set_cons_succ])) | (refine txt_read ?_ (by rfl) ?_ ?_; rotate_left; (focus (intro W hW; have hWc := Fr.cq hW; clear hW; go_simp; (try with_reducible rfl); done)); (try simp only [Act.put, List.setIfInBounds_toArray, List.set_cons_zero, List.set_cons_succ])))
              refine txt_nil ?_
              intro W hW
              have S5 := hid (S4.out.grow hW)
              clear hW d0 d1 d2 dl y0 y1 g1 g2 db yl
              obtain ⟨bv, ck⟩ : ∃ bv, W.cell? ⟨g, k, none⟩ = some (.int .i64 bv) := ⟨_, S5.out.row.cell (by rw [fillI_len _ (by omega)]; exact hlt)⟩
              have fk := S5.out.row.free k
              go_wp2
              go_roundw
              case rel => exact ⟨k + 1, by omega, by go_num, _, _, S5.out.set hlt HV.out⟩
              case measure => simp [intOf]; omega
    · obtain rfl : k = d.links.length := by omega
      have ROW := S.out.row
      rw [fillI_all] at ROW
      have RS := hid S.out.st
      have RW := hid ROW
      have XG := hid S.out.xg
      have GB := hid S.out.gb
      clear ROW S
      go_wp2
      go_loopw [8] (fun j wr => ∃ (q : Nat), 5 ≤ q ∧ q ≤ 8 ∧ j = .int .i64 q ∧ (RepS M w (.slice p d.nodes.length c1) (.slice pl d.links.length cl) sR d br l (lkPre (nsOf d) d.links (q - 5)) X wr ∧ IntAt wr g ((List.range d.links.length).map (lkBad (nsOf d) d.links)))) (fun j _ => 8 - (intOf j).toNat)
      case atStart => exact ⟨5, by omega, by omega, rfl, RS.out, RW.out⟩
      case round =>
        obtain ⟨q, hq5, hq8, rfl, hs, hrow⟩ := hrel
        have S := hid hs
        have R := hid hrow
        clear hs hrow RS RW
        by_cases hq7 : (q : Int) ≤ 7
        · have HPS := hid (@lkPre_succ (nsOf d) d.links q hq5)
          have hpl := lkPre_le (nsOf d) d.links (q - 5)
          have HPL : Hid ((lkPre (nsOf d) d.links (q - 5)).length ≤ 3 * d.links.length) := by
            have : (q - 5) * d.links.length ≤ 3 * d.links.length := Nat.mul_le_mul_right _ (by omega)
            show _ ≤ _
            omega
          clear hpl
          go_wp2
          go_loopw [79] (fun j wx => ∃ (k : Nat), k ≤ d.links.length ∧ j = .int .i64 k ∧ (RepS M w (.slice p d.nodes.length c1) (.slice pl d.links.length cl) sR d br l (lkPre (nsOf d) d.links (q - 5) ++ fls (q : Int) (fun i => lkBad (nsOf d) d.links i == (q : Int)) k) X wx ∧ IntAt wx g ((List.range d.links.length).map (lkBad (nsOf d) d.links)))) (fun j _ => d.links.length - (intOf j).toNat)
          case atStart => exact ⟨0, Nat.zero_le _, rfl, by simpa [fls] using S.out, R.out⟩
          case round =>
            obtain ⟨k, hk, rfl, hs, hrow⟩ := hrel
            have S2 := hid hs
            have R2 := hid hrow
            clear hs hrow
            by_cases hlt : k < d.links.length
            · have ck : wr.cell? ⟨g, k, none⟩ = some (.int .i64 (lkBad (nsOf d) d.links k)) := by
                rw [R2.out.cell (by simpa using hlt)]
                simp [List.getD_eq_getElem?_getD, List.getElem?_range hlt]
              have HON := hid (@fls_on (q : Int) (fun i => lkBad (nsOf d) d.links i == (q : Int)) k)
              have HOFF := hid (@fls_off (q : Int) (fun i => lkBad (nsOf d) d.links i == (q : Int)) k)
              have HF1 := hid (fls_le (q : Int) (fun i => lkBad (nsOf d) d.links i == (q : Int)) k)
              obtain ⟨v, hv⟩ : ∃ v, lkBad (nsOf d) d.links k = v := ⟨_, rfl⟩
              rw [hv] at ck
              have HV := hid hv
              clear hv
              by_cases he : v = (q : Int)
              · have hb : (v == (q : Int)) = true := by simpa using he
                have HB : Hid ((lkBad (nsOf d) d.links k == (q : Int)) = true) := by show _ = _; rw [HV.out]; exact hb
                clear he
                obtain ⟨M3, n3, k3⟩ := S2.out.noted
                have HN3 := hid n3
                have HK3 := hid k3
                clear n3 k3
                go_wp2_with fail
                refine (repAdd_any M3 _ br _ q k HN3.out ?_).mono ?_
                · simp only [List.length_append]
                  have h1 := HF1.out; have h2 := HPL.out
                  omega
                rintro e w9 ⟨rfl, ⟨M4, n4, g4⟩, f4⟩
                have S9 := hid (HK3.out w9 M4 _ n4 g4 f4)
                clear n4 g4 f4
                have R9 := hid (R2.out.fr S9.out.2 (fun h => h XG.out))
                go_wp2
                go_roundw
                case rel => exact ⟨k + 1, by omega, by go_num, by rw [HON.out HB.out, ← List.append_assoc]; exact S9.out.1, R9.out⟩
                case measure => simp [intOf]; omega
              · have hb : (v == (q : Int)) = false := by simpa using he
                have HB : Hid ((lkBad (nsOf d) d.links k == (q : Int)) = false) := by show _ = _; rw [HV.out]; exact hb
                clear he
                go_wp2
                go_roundw
                case rel => exact ⟨k + 1, by omega, by go_num, by rw [HOFF.out HB.out]; exact S2.out, R2.out⟩
                case measure => simp [intOf]; omega
            · obtain rfl : k = d.links.length := by omega
              go_wp2
              go_roundw
              case rel => exact ⟨q + 1, by omega, by omega, by go_num, by rw [HPS.out]; exact S2.out, R2.out⟩
              case measure => simp [intOf]; omega
        · obtain rfl : q = 8 := by omega
          go_wp2
          go_end0
          obtain ⟨M', h1, h2, _⟩ := S.out.rep
          exact ⟨rfl, ⟨M', h1, h2⟩, S.out.fr⟩
end Go.Proofs.YtndfncaoejbkiaaGreatDoor
end
section
/- The walks of invariant's congruent and reasons. -/
namespace Go.Proofs.YtndfncaoejbkiaaGreatDoor
open Go.RowKit
set_option maxRecDepth 100000

def congS (r : Int → Int) (a b : Node) : Bool := labelS a b && (a.args.length == b.args.length) && (a.args.zip b.args).all (fun p => r p.1 == r p.2)
theorem congS_lab {r : Int → Int} {lab : List Int} (h : PR r lab) {a b : Node} (ha : ∀ x ∈ a.args, 0 ≤ x ∧ x < lab.length) (hb : ∀ x ∈ b.args, 0 ≤ x ∧ x < lab.length) : congS r a b = alikeS a b lab := by
  unfold congS alikeS
  congr 1
  rw [Bool.eq_iff_iff, List.all_eq_true, List.all_eq_true]
  constructor
  · intro h2 p hp
    have e := h2 p hp
    have m := List.of_mem_zip hp
    simp only [beq_iff_eq] at e ⊢
    exact (h p.1 p.2 (ha _ m.1).1 (ha _ m.1).2 (hb _ m.2).1 (hb _ m.2).2).1 e
  · intro h2 p hp
    have e := h2 p hp
    have m := List.of_mem_zip hp
    simp only [beq_iff_eq] at e ⊢
    exact (h p.1 p.2 (ha _ m.1).1 (ha _ m.1).2 (hb _ m.2).1 (hb _ m.2).2).2 e
theorem congS_no {r : Int → Int} {a b : Node} (h : ¬ (labelS a b = true ∧ a.args.length = b.args.length)) : congS r a b = false := by
  unfold congS
  by_cases h1 : labelS a b = true
  · have h2 : ¬ a.args.length = b.args.length := fun e => h ⟨h1, e⟩
    have : (a.args.length == b.args.length) = false := by simpa using h2
    rw [this]; simp
  · have : labelS a b = false := by simpa using h1
    rw [this]; simp
theorem congS_bad {r : Int → Int} {a b : Node} {k : Nat} (h1 : k < a.args.length) (h2 : k < b.args.length) (h : r (a.args.getD k 0) ≠ r (b.args.getD k 0)) : congS r a b = false := by
  unfold congS
  have : (a.args.zip b.args).all (fun p => r p.1 == r p.2) = false := by
    rw [List.all_eq_false]
    refine ⟨(a.args.zip b.args)[k]'(by simp; omega), List.getElem_mem _, ?_⟩
    rw [zip_get h1 h2]
    simpa using h
  rw [this]; simp
theorem congS_ok {r : Int → Int} {a b : Node} (h0 : labelS a b = true) (hl : a.args.length = b.args.length) (h : ∀ k, k < a.args.length → r (a.args.getD k 0) = r (b.args.getD k 0)) : congS r a b = true := by
  unfold congS
  have : (a.args.zip b.args).all (fun p => r p.1 == r p.2) = true := by
    rw [List.all_eq_true]
    intro p hp
    obtain ⟨k, hk, rfl⟩ := List.mem_iff_getElem.1 hp
    have hk2 : k < a.args.length := by simp at hk; omega
    rw [zip_get hk2 (by omega)]
    simpa using h k hk2
  rw [this, h0]; simp [hl]

set_option maxHeartbeats 4000000 in
theorem congruent_any (Mf : Nat → Prop) (w : World) (bf : Nat) (L : List Lnk) (r : Int → Int) (a b : Node) (v u : Value) (hF : ForAt Mf w bf L r) (ha : RdI Mf w v a.args) (hb : RdI Mf w u b.args) (hna : ∀ x ∈ a.args, 0 ≤ x) (hnb : ∀ x ∈ b.args, 0 ≤ x) (hla : a.args.length ≤ 1000000) :
    Calls Tryz.prog 92 #[.pointer (some ⟨bf, 0, none⟩), nodeV a v, nodeV b u] w fun e w' => e = .returned (.bool (congS r a b)) ∧ ForAt Mf w' bf L r ∧ Fr Mf w w' := by
  obtain ⟨a1, ca, rfl⟩ := ha.form
  obtain ⟨b1, cb, rfl⟩ := hb.form
  have W2 : Hid (Fr NoB w ((w.alloc (.cells (nodeCells a (.slice a1 a.args.length ca)) 44)).alloc (.cells (nodeCells b (.slice b1 b.args.length cb)) 44))) := ((Fr.refl NoB w).alloc _).alloc _
  have HA := hid (ha.fr W2.out (fun _ _ h => h.elim))
  have HB := hid (hb.fr W2.out (fun _ _ h => h.elim))
  have HF := hid (hF.step W2.out)
  have BA := hid (at_old (at_new w (.cells (nodeCells a (.slice a1 a.args.length ca)) 44)) (.cells (nodeCells b (.slice b1 b.args.length cb)) 44))
  have BB : Hid (((w.alloc (.cells (nodeCells a (.slice a1 a.args.length ca)) 44)).alloc (.cells (nodeCells b (.slice b1 b.args.length cb)) 44)).heap[w.heap.size + 1]? = some (.cells (nodeCells b (.slice b1 b.args.length cb)) 44 (0, 0))) := at_new' (by simp)
  have HLT := hid hF.lt
  have HNA := hid hna
  have HNB := hid hnb
  obtain ⟨w2, hw2⟩ : ∃ w2, (w.alloc (.cells (nodeCells a (.slice a1 a.args.length ca)) 44)).alloc (.cells (nodeCells b (.slice b1 b.args.length cb)) 44) = w2 := ⟨_, rfl⟩
  rw [hw2] at W2 HA HB HF BA BB
  have HW2 := hid hw2
  clear ha hb hF hna hnb hw2
  unfold nodeV
  by_cases hlab : labelS a b = true
  rotate_left
  · have HNO : Hid (congS r a b = false) := congS_no (fun h => hlab h.1)
    have hcs : a.op ≠ b.op ∨ a.op = b.op ∧ (a.width ≠ b.width ∨ a.width = b.width ∧ (a.val ≠ b.val ∨ a.val = b.val ∧ ¬ a.name.toList = b.name.toList)) := by
      by_cases e1 : a.op = b.op
      · by_cases e2 : a.width = b.width
        · by_cases e3 : a.val = b.val
          · refine .inr ⟨e1, .inr ⟨e2, .inr ⟨e3, fun e4 => hlab ?_⟩⟩⟩
            unfold labelS; simp [e1, e2, e3, e4]
          · exact .inr ⟨e1, .inr ⟨e2, .inl e3⟩⟩
        · exact .inr ⟨e1, .inl e2⟩
      · exact .inl e1
    clear hlab
    rcases hcs with e1 | ⟨e1, e2 | ⟨e2, e3 | ⟨e3, e4⟩⟩⟩
    · have q1 : (a.op != b.op) = true := by simpa using e1
      clear e1
      go_enter Tryz.func92, Tryz.ntmps92
      go_wp2
      go_ret
      rw [HW2.out]
      exact ⟨ret_bool HNO.out.symm, HF.out, W2.out.mono (fun _ _ h => h.elim)⟩
    · have q1 : (a.op != b.op) = false := by simpa using e1
      have q2 : (a.width != b.width) = true := by simpa using e2
      clear e1 e2
      go_enter Tryz.func92, Tryz.ntmps92
      go_wp2
      go_ret
      rw [HW2.out]
      exact ⟨ret_bool HNO.out.symm, HF.out, W2.out.mono (fun _ _ h => h.elim)⟩
    · have q1 : (a.op != b.op) = false := by simpa using e1
      have q2 : (a.width != b.width) = false := by simpa using e2
      have q3 : (a.val != b.val) = true := by simpa using e3
      clear e1 e2 e3
      go_enter Tryz.func92, Tryz.ntmps92
      go_wp2
      go_ret
      rw [HW2.out]
      exact ⟨ret_bool HNO.out.symm, HF.out, W2.out.mono (fun _ _ h => h.elim)⟩
    · have q1 : (a.op != b.op) = false := by simpa using e1
      have q2 : (a.width != b.width) = false := by simpa using e2
      have q3 : (a.val != b.val) = false := by simpa using e3
      clear e1 e2 e3
      go_enter Tryz.func92, Tryz.ntmps92
      go_wp2
      go_ret
      rw [HW2.out]
      exact ⟨ret_bool HNO.out.symm, HF.out, W2.out.mono (fun _ _ h => h.elim)⟩
  · have HL1 := hid hlab
    have h1 := hlab
    unfold labelS at h1
    simp only [Bool.and_eq_true, beq_iff_eq] at h1
    obtain ⟨⟨⟨o1, o2⟩, o3⟩, o4⟩ := h1
    have q1 : (a.op != b.op) = false := by simpa using o1
    have q2 : (a.width != b.width) = false := by simpa using o2
    have q3 : (a.val != b.val) = false := by simpa using o3
    clear o1 o2 o3 hlab
    by_cases hlen : a.args.length = b.args.length
    rotate_left
    · have q5 : ((a.args.length : Int) != (b.args.length : Int)) = true := by simp; omega
      have HNO : Hid (congS r a b = false) := congS_no (fun h => hlen h.2)
      clear hlen
      go_enter Tryz.func92, Tryz.ntmps92
      go_wp2
      go_ret
      rw [HW2.out]
      exact ⟨ret_bool HNO.out.symm, HF.out, W2.out.mono (fun _ _ h => h.elim)⟩
    have HL2 := hid hlen
    have q5 : ((a.args.length : Int) != (b.args.length : Int)) = false := by simp; omega
    clear hlen
    go_enter Tryz.func92, Tryz.ntmps92
    go_wp2
    rw [HW2.out]
    clear q1 q2 q3 q5 o4
    go_loopw [46] (fun j wr => ∃ (k : Nat), k ≤ a.args.length ∧ j = .int .i64 k ∧ ForAt Mf wr bf L r ∧ Fr Mf w2 wr ∧ ∀ i, i < k → r (a.args.getD i 0) = r (b.args.getD i 0)) (fun j _ => a.args.length - (intOf j).toNat)
    case atStart => exact ⟨0, Nat.zero_le _, rfl, HF.out, Fr.refl _ _, fun i h => by omega⟩
    case round =>
      obtain ⟨k, hk, rfl, hfor, hf, hall⟩ := hrel
      have H1 := hid hfor
      have F1 := hid hf
      have HALL := hid hall
      clear hfor hf hall
      by_cases hlt : k < a.args.length
      · have hlt2 : k < b.args.length := by have := HL2.out; omega
        have n0 : ¬ Mf w.heap.size := fun h => by have := HLT.out _ h; omega
        have n1 : ¬ Mf (w.heap.size + 1) := fun h => by have := HLT.out _ h; omega
        obtain ⟨_, _, _, _, x4, _, _⟩ := five_of (F1.out.at n0 BA.out)
        obtain ⟨_, _, _, _, y4, _, _⟩ := five_of (F1.out.at n1 BB.out)
        obtain ⟨ba, oa, rfl, ka⟩ := (HA.out.fr F1.out (fun _ _ h => h)).cellK hlt
        obtain ⟨bb, ob, rfl, kb⟩ := (HB.out.fr F1.out (fun _ _ h => h)).cellK hlt2
        obtain ⟨pv, hp⟩ : ∃ pv, a.args.getD k 0 = pv := ⟨_, rfl⟩
        obtain ⟨qv, hq⟩ : ∃ qv, b.args.getD k 0 = qv := ⟨_, rfl⟩
        have p0 : 0 ≤ pv := by rw [← hp]; exact HNA.out _ (getD_mem hlt)
        have q0 : 0 ≤ qv := by rw [← hq]; exact HNB.out _ (getD_mem hlt2)
        rw [hp] at ka
        rw [hq] at kb
        have HP := hid hp
        have HQ := hid hq
        clear hp hq n0 n1
        have hl2 := HL2.out
        rw [← hl2] at y4
        clear hl2
        have HS : Hid (∀ W', Fr Mf wr.drew W' → W'.cell? ⟨w.heap.size, 4, none⟩ = some (.slice (some ⟨ba, oa, none⟩) a.args.length ca) ∧ W'.cell? ⟨w.heap.size + 1, 4, none⟩ = some (.slice (some ⟨bb, ob, none⟩) a.args.length cb) ∧ W'.cell? ⟨ba, oa + k, none⟩ = some (.int .i64 pv) ∧ W'.cell? ⟨bb, ob + k, none⟩ = some (.int .i64 qv)) := fun W' hf => by
          have n0 : ¬ Mf w.heap.size := fun h => by have := HLT.out _ h; omega
          have n1 : ¬ Mf (w.heap.size + 1) := fun h => by have := HLT.out _ h; omega
          have hf' := F1.out.drew.trans hf
          obtain ⟨_, _, _, _, x4, _, _⟩ := five_of (hf'.at n0 BA.out)
          obtain ⟨_, _, _, _, y4, _, _⟩ := five_of (hf'.at n1 BB.out)
          obtain ⟨ba', oa', e, ka⟩ := (HA.out.fr hf' (fun _ _ h => h)).cellK hlt
          simp only [Option.some.injEq, Addr.mk.injEq, and_true] at e
          obtain ⟨rfl, rfl⟩ := e
          obtain ⟨bb', ob', e, kb⟩ := (HB.out.fr hf' (fun _ _ h => h)).cellK hlt2
          simp only [Option.some.injEq, Addr.mk.injEq, and_true] at e
          obtain ⟨rfl, rfl⟩ := e
          rw [HP.out] at ka
          rw [HQ.out] at kb
          rw [← HL2.out] at y4
          exact ⟨x4, y4, ka, kb⟩
        go_wp2
        refine region_eff (fun w' => w'.cell? ⟨w.heap.size, 4, none⟩ = some (.slice (some ⟨ba, oa, none⟩) a.args.length ca) ∧ w'.cell? ⟨w.heap.size + 1, 4, none⟩ = some (.slice (some ⟨bb, ob, none⟩) a.args.length cb) ∧ w'.cell? ⟨ba, oa + k, none⟩ = some (.int .i64 pv) ∧ w'.cell? ⟨bb, ob + k, none⟩ = some (.int .i64 qv)) 13 [(0, 1), (1, 1), (2, 0), (3, 1), (4, 1), (5, 0), (6, 1), (7, 0), (8, 1), (9, 1), (10, 0), (11, 2), (12, 1)] (by kernel_rfl) (by kernel_rfl) ?_ ?_
        · exact ⟨x4, y4, ka, kb⟩
        clear x4 y4 ka kb
        repeat (first | (refine eff_off (by rfl) (by rfl) ?_; (try simp only [Act.put, List.setIfInBounds_toArray, List.set_cons_zero, List.set_cons_succ])) | (refine eff_off0 (by rfl) (by rfl) ?_; (try simp only [Act.put, List.setIfInBounds_toArray, List.set_cons_zero, List.set_cons_succ])) | (refine eff_pu ?_ (by rfl) (by rfl) ?_ ?_; rotate_left; (focus (intro w'; go_simp; (try with_reducible rfl); done)); (try simp only [Act.put, List.setIfInBounds_toArray, List.set_cons_zero, List.set_cons_succ])) | (refine eff_rd ?_ (by rfl) (by rfl) ?_ ?_; rotate_left; (focus (intro w' hS; (try obtain ⟨hq1, hS⟩ := hS); (try obtain ⟨hq2, hS⟩ := hS); (try obtain ⟨hq3, hS⟩ := hS); (try obtain ⟨hq4, hS⟩ := hS); (try obtain ⟨hq5, hS⟩ := hS); (try obtain ⟨hq6, hS⟩ := hS); (try obtain ⟨hq7, hS⟩ := hS); (try obtain ⟨hq8, hS⟩ := hS); (try obtain ⟨hq9, hS⟩ := hS); (try obtain ⟨hq10, hS⟩ := hS); (try obtain ⟨hq11, hS⟩ := hS); (try obtain ⟨hq12, hS⟩ := hS); (try obtain ⟨hq13, hS⟩ := hS); (try obtain ⟨hq14, hS⟩ := hS); (try obtain ⟨hq15, hS⟩ := hS); (try obtain ⟨hq16, hS⟩ := hS); (try obtain ⟨hq17, hS⟩ := hS); (try obtain ⟨hq18, hS⟩ := hS); (try obtain ⟨hq19, hS⟩ := hS); (try dsimp only at hS); go_simp; (try with_reducible rfl); done)); (try simp only [Act.put, List.setIfInBounds_toArray, List.set_cons_zero, List.set_cons_succ])))
        refine eff_call 102 #[.pointer (some ⟨bf, 0, none⟩), .int .i64 pv, .int .i64 qv] (by rfl) (by rfl) (by intro w'; go_simp) ?_
        refine (fsame_any Mf _ bf L r pv qv (H1.out.step (Fr.refl NoB wr).drew)).mono ?_
        rintro e w4 ⟨rfl, h4, f4⟩
        have H4 := hid h4
        have F4 := hid (F1.out.drew.trans f4)
        refine ⟨_, rfl, fun _ => HS.out w4 f4, ?_⟩
        clear h4 f4 HS
        (try simp only [Act.put, List.setIfInBounds_toArray, List.set_cons_zero, List.set_cons_succ])
        by_cases hr : r pv = r qv
        · have hd : decide (0 ≤ pv ∧ 0 ≤ qv ∧ r pv = r qv) = true := by simp [p0, q0, hr]
          have HR := hid hr
          rw [hd]
          clear hd hr
          repeat (first | (refine eff_off (by rfl) (by rfl) ?_; (try simp only [Act.put, List.setIfInBounds_toArray, List.set_cons_zero, List.set_cons_succ])) | (refine eff_off0 (by rfl) (by rfl) ?_; (try simp only [Act.put, List.setIfInBounds_toArray, List.set_cons_zero, List.set_cons_succ])) | (refine eff_pu ?_ (by rfl) (by rfl) ?_ ?_; rotate_left; (focus (intro w'; go_simp; (try with_reducible rfl); done)); (try simp only [Act.put, List.setIfInBounds_toArray, List.set_cons_zero, List.set_cons_succ])) | (refine eff_rd ?_ (by rfl) (by rfl) ?_ ?_; rotate_left; (focus (intro w' hS; (try obtain ⟨hq1, hS⟩ := hS); (try obtain ⟨hq2, hS⟩ := hS); (try obtain ⟨hq3, hS⟩ := hS); (try obtain ⟨hq4, hS⟩ := hS); (try obtain ⟨hq5, hS⟩ := hS); (try obtain ⟨hq6, hS⟩ := hS); (try obtain ⟨hq7, hS⟩ := hS); (try obtain ⟨hq8, hS⟩ := hS); (try obtain ⟨hq9, hS⟩ := hS); (try obtain ⟨hq10, hS⟩ := hS); (try obtain ⟨hq11, hS⟩ := hS); (try obtain ⟨hq12, hS⟩ := hS); (try obtain ⟨hq13, hS⟩ := hS); (try obtain ⟨hq14, hS⟩ := hS); (try obtain ⟨hq15, hS⟩ := hS); (try obtain ⟨hq16, hS⟩ := hS); (try obtain ⟨hq17, hS⟩ := hS); (try obtain ⟨hq18, hS⟩ := hS); (try obtain ⟨hq19, hS⟩ := hS); (try dsimp only at hS); go_simp; (try with_reducible rfl); done)); (try simp only [Act.put, List.setIfInBounds_toArray, List.set_cons_zero, List.set_cons_succ])))
          refine eff_nil ?_
          go_wp2
          go_roundw
          case rel => exact ⟨k + 1, by omega, by go_num, H4.out, F4.out, fun i hi => by
            by_cases e : i = k
            · subst e; rw [HP.out, HQ.out]; exact HR.out
            · exact HALL.out i (by omega)⟩
          case measure => simp [intOf]; omega
        · have hd : decide (0 ≤ pv ∧ 0 ≤ qv ∧ r pv = r qv) = false := by simp [hr]
          have HR := hid hr
          rw [hd]
          clear hd hr
          repeat (first | (refine eff_off (by rfl) (by rfl) ?_; (try simp only [Act.put, List.setIfInBounds_toArray, List.set_cons_zero, List.set_cons_succ])) | (refine eff_off0 (by rfl) (by rfl) ?_; (try simp only [Act.put, List.setIfInBounds_toArray, List.set_cons_zero, List.set_cons_succ])) | (refine eff_pu ?_ (by rfl) (by rfl) ?_ ?_; rotate_left; (focus (intro w'; go_simp; (try with_reducible rfl); done)); (try simp only [Act.put, List.setIfInBounds_toArray, List.set_cons_zero, List.set_cons_succ])) | (refine eff_rd ?_ (by rfl) (by rfl) ?_ ?_; rotate_left; (focus (intro w' hS; (try obtain ⟨hq1, hS⟩ := hS); (try obtain ⟨hq2, hS⟩ := hS); (try obtain ⟨hq3, hS⟩ := hS); (try obtain ⟨hq4, hS⟩ := hS); (try obtain ⟨hq5, hS⟩ := hS); (try obtain ⟨hq6, hS⟩ := hS); (try obtain ⟨hq7, hS⟩ := hS); (try obtain ⟨hq8, hS⟩ := hS); (try obtain ⟨hq9, hS⟩ := hS); (try obtain ⟨hq10, hS⟩ := hS); (try obtain ⟨hq11, hS⟩ := hS); (try obtain ⟨hq12, hS⟩ := hS); (try obtain ⟨hq13, hS⟩ := hS); (try obtain ⟨hq14, hS⟩ := hS); (try obtain ⟨hq15, hS⟩ := hS); (try obtain ⟨hq16, hS⟩ := hS); (try obtain ⟨hq17, hS⟩ := hS); (try obtain ⟨hq18, hS⟩ := hS); (try obtain ⟨hq19, hS⟩ := hS); (try dsimp only at hS); go_simp; (try with_reducible rfl); done)); (try simp only [Act.put, List.setIfInBounds_toArray, List.set_cons_zero, List.set_cons_succ])))
          refine eff_nil ?_
          go_wp2
          go_ret
          exact ⟨ret_bool (congS_bad hlt hlt2 (by rw [HP.out, HQ.out]; exact HR.out)).symm, H4.out, (W2.out.mono (fun _ _ h => h.elim)).trans F4.out⟩
      · obtain rfl : k = a.args.length := by omega
        go_wp2
        go_ret
        exact ⟨ret_bool (congS_ok HL1.out HL2.out HALL.out).symm, H1.out, (W2.out.mono (fun _ _ h => h.elim)).trans F1.out⟩
end Go.Proofs.YtndfncaoejbkiaaGreatDoor
end
section
/- The walk of invariant's reasons. -/
namespace Go.Proofs.YtndfncaoejbkiaaGreatDoor
open Go.RowKit
set_option maxRecDepth 100000

structure ReS (M : Nat → Prop) (w : World) (sN sL sR : Value) (d : Dmp) (br : Nat) (l F : List Flw) (bf : Nat) (kf : Nat) (Mf X : Nat → Prop) (W : World) : Prop where
  st : RepS M w sN sL sR d br l F X W
  frs : ∃ Lf r, ForAt Mf W bf Lf r ∧ (∀ q, Mf q → X q) ∧ ¬ Mf w.heap.size ∧ PR r (lbAt d.nodes.length d.links kf) ∧ Lf.length ≤ kf
section
variable {M : Nat → Prop} {w : World} {sN sL sR : Value} {d : Dmp} {br : Nat} {l F : List Flw} {bf kf : Nat} {Mf X : Nat → Prop} {W W' : World}
theorem ReS.grow (h : ReS M w sN sL sR d br l F bf kf Mf X W) (hf : Fr NoB W W') : ReS M w sN sL sR d br l F bf kf Mf (NewX X W W') W' := by
  obtain ⟨h1, Lf, r, h5, h6, h8, h9⟩ := h
  exact ⟨h1.grow hf (fun _ h => h) (.inl h1.bx), Lf, r, h5.step hf, fun q hq => .inl (h6 q hq), h8, h9⟩
theorem ReS.out (h : ReS M w sN sL sR d br l F bf kf Mf X W) {x : Lnk} (hx : d.links[kf]? = some x) (hin : lbIn d.nodes.length x = false) : ReS M w sN sL sR d br l F bf (kf + 1) Mf X W := by
  obtain ⟨h1, Lf, r, h5, h6, h8, h9, h10⟩ := h
  refine ⟨h1, Lf, r, h5, h6, h8, ?_, by omega⟩
  have hk := (List.getElem?_eq_some_iff.1 hx)
  obtain ⟨hk1, hk2⟩ := hk
  rw [lbAt_succ _ _ hk1, hk2]
  have := h9.step (lbAt_length _ _ _) x
  unfold rStep at this
  rw [if_neg (fun h => by rw [hin] at h; cases h.1)] at this
  exact this
theorem ReS.link (h : ReS M w sN sL sR d br l F bf kf Mf X W) {x : Lnk} (hx : d.links[kf]? = some x) (hin : lbIn d.nodes.length x = true) : ∃ Lf r, ForAt Mf W bf Lf r ∧ Lf.length ≤ kf ∧
    ∀ e W2, LinkPost Mf W bf Lf r x.a x.b x.why e W2 → (∃ b, e = .returned (.bool b)) ∧ (∃ Mf', ReS M w sN sL sR d br l F bf (kf + 1) Mf' (NewX X W W2) W2) := by
  obtain ⟨h1, Lf, r, h5, h6, h8, h9, h10⟩ := h
  refine ⟨Lf, r, h5, h10, fun e W2 hp => ?_⟩
  unfold LinkPost at hp
  obtain ⟨he, ⟨M', h11, h12⟩, hf⟩ := hp
  have hh := hin
  unfold lbIn at hh
  simp only [decide_eq_true_eq] at hh
  have hk := (List.getElem?_eq_some_iff.1 hx)
  obtain ⟨hk1, hk2⟩ := hk
  have hpr := h9.step (lbAt_length _ _ _) x
  rw [← hk2, ← lbAt_succ _ _ hk1, hk2] at hpr
  have hbl := (h1.x _ h1.bx).2
  refine ⟨⟨_, he⟩, M', h1.turn' hf (fun q hq => ⟨h6 q hq, fun e => h8 (e ▸ hq)⟩) (fun _ h => h) (.inl h1.bx), _, _, h11, fun q hq => ?_, fun h => ?_, ?_, ?_⟩
  · rcases h12 q hq with h | h
    · exact .inl (h6 q h)
    · exact .inr ⟨h, h11.lt q hq⟩
  · rcases h12 _ h with h | h
    · exact h8 h
    · omega
  · unfold rStep at hpr
    by_cases c : r x.a ≠ r x.b
    · rw [if_pos ⟨hin, c⟩] at hpr
      rw [if_pos ⟨hh.1, hh.2.1, c⟩]; exact hpr
    · rw [if_neg (fun h => c h.2)] at hpr
      rw [if_neg (fun h => c h.2.2)]; exact hpr
  · split
    · rw [List.length_append, List.length_singleton]; omega
    · omega
theorem ReS.flt (h : ReS M w sN sL sR d br l F bf kf Mf X W) : ∀ q, Mf q → q < W.heap.size := by
  obtain ⟨_, Lf, r, h5, _⟩ := h
  exact h5.lt
theorem ReS.turn (h : ReS M w sN sL sR d br l F bf kf Mf X W) (hf : Fr Mf W W') (hF : ∀ Lf r, ForAt Mf W bf Lf r → ForAt Mf W' bf Lf r) : ReS M w sN sL sR d br l F bf kf Mf (NewX X W W') W' := by
  obtain ⟨h1, Lf, r, h5, h6, h8, h9⟩ := h
  exact ⟨h1.turn' hf (fun q hq => ⟨h6 q hq, fun e => h8 (e ▸ hq)⟩) (fun _ h => h) (.inl h1.bx), Lf, r, hF _ _ h5, fun q hq => .inl (h6 q hq), h8, h9⟩
theorem ReS.told {F' : List Flw} (h : ReS M w sN sL sR d br l F bf kf Mf X W) (h' : RepS M w sN sL sR d br l F' X W') (hf : Fr (fun q => ¬ X q) W W') : ReS M w sN sL sR d br l F' bf kf Mf X W' := by
  obtain ⟨_, Lf, r, h5, h6, h8, h9⟩ := h
  exact ⟨h', Lf, r, h5.fr hf (fun k hk hn => hn (h6 k hk)), h6, h8, h9⟩
theorem ReS.turn1 (h : ReS M w sN sL sR d br l F bf kf Mf X W) : ∃ Lf r, ForAt Mf W bf Lf r ∧ PR r (lbAt d.nodes.length d.links kf) ∧ (∀ q, Mf q → w.heap.size ≤ q) ∧ ¬ Mf w.heap.size ∧ ∀ W', ForAt Mf W' bf Lf r → Fr Mf W W' → ReS M w sN sL sR d br l F bf kf Mf (NewX X W W') W' := by
  obtain ⟨h1, Lf, r, h5, h6, h8, h9, h10⟩ := h
  exact ⟨Lf, r, h5, h9, fun q hq => (h1.x q (h6 q hq)).1, h8, fun W' hF hf => ⟨h1.turn' hf (fun q hq => ⟨h6 q hq, fun e => h8 (e ▸ hq)⟩) (fun _ h => h) (.inl h1.bx), Lf, r, hF, fun q hq => .inl (h6 q hq), h8, h9, h10⟩⟩
end

set_option maxHeartbeats 4000000 in
theorem reasons_any (M : Nat → Prop) (sN sL sR : Value) (d : Dmp) (w : World) (br : Nat) (l : List Flw) (hd : RdD M w sN sL sR d) (hr : RepAt M w br l) (hlen : d.nodes.length ≤ 1000000) (hlk : d.links.length ≤ 1000000) (hll : l.length ≤ 10000000)
    (hla : ∀ x ∈ d.nodes, x.1.args.length ≤ 1000000) (hord : ∀ x ∈ d.nodes, ∀ y ∈ x.1.args, 0 ≤ y ∧ y < d.nodes.length) :
    Calls Tryz.prog 72 #[dumpV sN sL sR, .func (.func 69) #[.pointer (some ⟨br, 0, none⟩)] #[]] w fun e w' => e = .returned (.tuple #[]) ∧
      (∃ M', RepAt M' w' br (l ++ fls 8 (lkRless (nsOf d) d.links) d.links.length) ∧ Gr M M' w) ∧ Fr M w w' := by
  obtain ⟨p, c1, hp⟩ := hd.nodes.form
  subst hp
  obtain ⟨pl, cl, hp⟩ := hd.links.form3
  subst hp
  have S0 := hid (RepS.start hd hr)
  have HLA := hid hla
  have HORD := hid hord
  clear hd hr hla hord
  unfold dumpV
  go_enter Tryz.func72, Tryz.ntmps72
  go_wp2_with fail
  refine (fnew_any _).mono ?_
  rintro e w1 ⟨bf, Mf, rfl, hF, hM, hf⟩
  simp only [World.size_alloc] at hM
  have hsz : w.heap.size + 1 ≤ w1.heap.size := by have := hf.size; simp only [World.size_alloc] at this; omega
  obtain ⟨X, hX⟩ : ∃ X : Nat → Prop, X = (fun q => w.heap.size ≤ q ∧ q < w1.heap.size) := ⟨_, rfl⟩
  have S1 : Hid (ReS M w (.slice p d.nodes.length c1) (.slice pl d.links.length cl) sR d br l [] bf 0 Mf X w1) :=
    ⟨S0.out.grow hf (fun q hq => by rw [hX] at hq; simp only [World.size_alloc]; by_cases e : q = w.heap.size; exact .inl e; exact .inr (by omega)) (by rw [hX]; omega), [], _, hF, fun q hq => by rw [hX]; exact ⟨by have := hM q hq; omega, hF.lt q hq⟩, fun h => by have := hM _ h; omega, PR.init _, Nat.le_refl _⟩
  clear S0 hsz hX hF hM hf
  obtain ⟨d0, d1, d2, df, dl⟩ := three_of S1.out.st.box
  go_wp2
  clear d0 d1 d2 df dl
  go_loopw [11] (fun j wr => ∃ (k : Nat), k ≤ d.links.length ∧ j = .int .i64 k ∧ (∃ Mf X, ReS M w (.slice p d.nodes.length c1) (.slice pl d.links.length cl) sR d br l (fls 8 (lkRless (nsOf d) d.links) k) bf k Mf X wr)) (fun j _ => d.links.length - (intOf j).toNat)
  case atStart => exact ⟨0, Nat.zero_le _, rfl, Mf, X, by simpa [fls] using S1.out⟩
  case round =>
    obtain ⟨k, hk, rfl, Mf, X, hs⟩ := hrel
    have S := hid hs
    clear hs S1
    by_cases hlt : k < d.links.length
    · obtain ⟨b, off, rfl, _, e0, e1, e2⟩ := S.out.st.rd.links.lkK hlt
      have HX := hid (List.getElem?_eq_getElem hlt)
      obtain ⟨x, hx⟩ : ∃ x, d.links[k] = x := ⟨_, rfl⟩
      rw [hx] at e0 e1 e2 HX
      clear hx
      obtain ⟨d0, d1, d2, df, dl⟩ := three_of S.out.st.box
      go_wp2_with fail
      clear d0 d1 d2 df dl e0 e1 e2
      have F0 := (Fr.refl NoB wr).alloc (.cells #[.int .i64 x.a, .int .i64 x.b, .int .i64 x.why] 57)
      have S0 := hid (S.out.grow F0)
      have HB0 := hid (at_new wr (.cells #[.int .i64 x.a, .int .i64 x.b, .int .i64 x.why] 57))
      have HQ := hid S.out.flt
      have HF1 := hid (fls_le 8 (lkRless (nsOf d) d.links) k)
      clear F0 S
      refine (inside_id_any _ _ _ p d.nodes.length c1 rfl x.a _).mono ?_
      rintro e w2 ⟨rfl, hf⟩
      have S2 := hid (S0.out.grow hf)
      have HB2 := hid (hf.at (fun h => h) HB0.out)
      have HSZ2 : Hid (wr.heap.size < w2.heap.size) := (Array.getElem?_eq_some_iff.1 HB2.out).1
      clear hf S0 HB0
      have H5 : Hid (lbIn d.nodes.length x = false → lkRless (nsOf d) d.links k = false) := fun h => by
        unfold lkRless
        rw [HX.out]
        simp [nsOf_length, h]
      by_cases hA : 0 ≤ x.a ∧ x.a < d.nodes.length
      rotate_left
      · have hq : decide (0 ≤ x.a ∧ x.a < (d.nodes.length : Int)) = false := by simpa using hA
        have hin : lbIn d.nodes.length x = false := by unfold lbIn; simp; omega
        have HV := hid (H5.out hin)
        have S3 := hid (S2.out.out HX.out hin)
        rw [hq]
        clear hq hA hin
        go_wp2
        go_roundw
        case rel => exact ⟨k + 1, by omega, by go_num, _, _, by rw [fls_off HV.out]; exact S3.out⟩
        case measure => simp [intOf]; omega
      · have hq : decide (0 ≤ x.a ∧ x.a < (d.nodes.length : Int)) = true := by simpa using hA
        rw [hq]
        have HA := hid hA
        clear hq hA
        obtain ⟨d0, d1, d2, df, dl⟩ := three_of S2.out.st.box
        obtain ⟨y0, y1, y2, yf, yl⟩ := three_of HB2.out
        go_wp2_with fail
        clear d0 d1 d2 df dl y0 y1 y2 yf yl
        refine (inside_id_any _ _ _ p d.nodes.length c1 rfl x.b _).mono ?_
        rintro e w3 ⟨rfl, hf⟩
        have S3 := hid (S2.out.grow hf)
        have HB3 := hid (hf.at (fun h => h) HB2.out)
        have HSZ3 : Hid (wr.heap.size < w3.heap.size) := (Array.getElem?_eq_some_iff.1 HB3.out).1
        have HX3 : Hid (NewX (NewX (NewX X wr (wr.alloc (.cells #[.int .i64 x.a, .int .i64 x.b, .int .i64 x.why] 57))) (wr.alloc (.cells #[.int .i64 x.a, .int .i64 x.b, .int .i64 x.why] 57)) w2) w2 w3 wr.heap.size) := .inl (.inl (.inr ⟨Nat.le_refl _, by simp⟩))
        obtain ⟨X3, hX3⟩ : ∃ X3, NewX (NewX (NewX X wr (wr.alloc (.cells #[.int .i64 x.a, .int .i64 x.b, .int .i64 x.why] 57))) (wr.alloc (.cells #[.int .i64 x.a, .int .i64 x.b, .int .i64 x.why] 57)) w2) w2 w3 = X3 := ⟨_, rfl⟩
        rw [hX3] at S3 HX3
        clear hf S2 HB2 hX3
        by_cases hB : 0 ≤ x.b ∧ x.b < d.nodes.length
        rotate_left
        · have hq : decide (0 ≤ x.b ∧ x.b < (d.nodes.length : Int)) = false := by simpa using hB
          have hin : lbIn d.nodes.length x = false := by unfold lbIn; simp; omega
          have HV := hid (H5.out hin)
          have S4 := hid (S3.out.out HX.out hin)
          rw [hq]
          clear hq hB hin
          go_wp2
          go_roundw
          case rel => exact ⟨k + 1, by omega, by go_num, _, _, by rw [fls_off HV.out]; exact S4.out⟩
          case measure => simp [intOf]; omega
        · have hq : decide (0 ≤ x.b ∧ x.b < (d.nodes.length : Int)) = true := by simpa using hB
          rw [hq]
          have HBb := hid hB
          have HIN : Hid (lbIn d.nodes.length x = true) := by
            have := HA.out
            show _ = _
            unfold lbIn; simp; omega
          clear hq hB
          by_cases hwy : x.why = -1
          rotate_left
          · have hq : (x.why == -1) = false := by simpa using hwy
            have HV : Hid (lkRless (nsOf d) d.links k = false) := by
              show _ = _
              unfold lkRless
              rw [HX.out]
              simp [hq]
            clear hwy
            obtain ⟨y0, y1, y2, yf, yl⟩ := three_of HB3.out
            clear yf
            go_wp2
            refine region_txt (Fr NoB _) (by kernel_rfl) (by kernel_rfl) ((Fr.refl NoB _).drew) ?_
            repeat (first | (refine txt_off (by rfl) ?_; (try simp only [Act.put, List.setIfInBounds_toArray, List.set_cons_zero, List.set_cons_succ])) | (refine txt_read ?_ (by rfl) ?_ ?_; rotate_left; (focus (intro W hW; have hWc := Fr.cq hW; clear hW; go_simp; (try with_reducible rfl); done)); (try simp only [Act.put, List.setIfInBounds_toArray, List.set_cons_zero, List.set_cons_succ])))
            refine txt_nil ?_
            intro W hW
            have S4 := hid (S3.out.grow hW)
            have HB4 := hid (hW.at (fun h => h) HB3.out)
            clear hW y0 y1 y2 yl S3 HB3
            obtain ⟨y0, y1, y2, yf, yl⟩ := three_of HB4.out
            clear yf
            go_wp2_with fail
            clear y0 y1 y2 yl
            obtain ⟨Lf, r, hF, hL, post⟩ := S4.out.link HX.out HIN.out
            have POST := hid post
            clear post
            refine (flink_any Mf _ bf Lf r x.a x.b x.why hF (by omega)).mono ?_
            intro e w8 hp
            obtain ⟨⟨bb, he⟩, ⟨Mf', s8⟩⟩ := POST.out e w8 hp
            subst he
            have S8 := hid s8
            clear hp s8 POST hF hL
            go_wp2
            go_roundw
            case rel => exact ⟨k + 1, by omega, by go_num, _, _, by rw [fls_off HV.out]; exact S8.out⟩
            case measure => simp [intOf]; omega
          · have hq : (x.why == -1) = true := by simpa using hwy
            have HWY := hid hwy
            clear hwy hq
            obtain ⟨y0, y1, y2, yf, yl⟩ := three_of HB3.out
            rw [HWY.out] at y2
            clear yf y0 y1 yl
            go_wp2
            have S4 := hid (S3.out.grow (Fr.refl NoB w3).drew)
            have HB4 : Hid (w3.drew.heap[wr.heap.size]? = some (.cells #[.int .i64 x.a, .int .i64 x.b, .int .i64 x.why] 57 (0, 0))) := HB3.out
            obtain ⟨Lf, r, hF, hPR, hM1, hM2, hturn⟩ := S4.out.turn1
            have HF := hid hF
            have HPR := hid hPR
            have HM1 := hid hM1
            have HM2 := hid hM2
            have HTU := hid hturn
            clear hF hPR hM1 hM2 hturn y2
            obtain ⟨a0, a1⟩ := HA.out
            obtain ⟨b0, b1⟩ := HBb.out
            have ha : x.a.toNat < d.nodes.length := by omega
            have hb : x.b.toNat < d.nodes.length := by omega
            obtain ⟨bn, on, hp1, _⟩ := S4.out.st.rd.nodes.nodeK ha
            subst hp1
            have HNA := hid (List.getElem_mem ha)
            have HNB := hid (List.getElem_mem hb)
            have HAL := hid (alikeAt_of (lab := lbAt d.nodes.length d.links k) ha hb)
            have HRD : Hid (∀ W', Fr Mf w3.drew W' → RdD (fun q => M q ∨ w.heap.size ≤ q) W' (.slice (some ⟨bn, on, none⟩) d.nodes.length c1) (.slice (some ⟨b, off, none⟩) d.links.length cl) sR d) := fun W' hf => S4.out.st.rd.fr hf (fun q _ h => .inr (HM1.out q h))
            have HS0 : Hid (∀ W', Fr Mf w3.drew W' → W'.cell? ⟨wr.heap.size, 0, none⟩ = some (.int .i64 x.a) ∧ W'.cell? ⟨wr.heap.size, 1, none⟩ = some (.int .i64 x.b) ∧ W'.cell? ⟨wr.heap.size, 2, none⟩ = some (.int .i64 (-1)) ∧ W'.cell? ⟨w.heap.size, 0, none⟩ = some (.slice (some ⟨bn, on, none⟩) d.nodes.length c1)) := fun W' hf => by
              obtain ⟨y0, y1, y2, _, _⟩ := three_of (hf.at (fun h => by have := HQ.out _ h; omega) HB4.out)
              obtain ⟨d0, _⟩ := three_of (hf.at HM2.out S4.out.st.box)
              rw [HWY.out] at y2
              exact ⟨y0, y1, y2, d0⟩
            have HNA2 : Hid (∀ W', Fr Mf w3.drew W' → W'.cell? ⟨bn, on + x.a.toNat * 5, none⟩ = some (.int .i64 d.nodes[x.a.toNat].1.op) ∧ W'.cell? ⟨bn, on + x.a.toNat * 5 + 1, none⟩ = some (.int .i64 d.nodes[x.a.toNat].1.width) ∧ W'.cell? ⟨bn, on + x.a.toNat * 5 + 2, none⟩ = some (.int .u64 d.nodes[x.a.toNat].1.val) ∧ W'.cell? ⟨bn, on + x.a.toNat * 5 + 3, none⟩ = some (.string d.nodes[x.a.toNat].1.name) ∧ W'.cell? ⟨bn, on + x.a.toNat * 5 + 4, none⟩ = some d.nodes[x.a.toNat].2 ∧ RdI (fun q => M q ∨ w.heap.size ≤ q) W' d.nodes[x.a.toNat].2 d.nodes[x.a.toNat].1.args) := fun W' hf => by
              obtain ⟨bn', on', e, e0, e1, e2, e3, e4, e5⟩ := (HRD.out W' hf).nodes.nodeK ha
              simp only [Option.some.injEq, Addr.mk.injEq, and_true] at e
              obtain ⟨rfl, rfl⟩ := e
              exact ⟨e0, e1, e2, e3, e4, e5⟩
            have HNB2 : Hid (∀ W', Fr Mf w3.drew W' → W'.cell? ⟨bn, on + x.b.toNat * 5, none⟩ = some (.int .i64 d.nodes[x.b.toNat].1.op) ∧ W'.cell? ⟨bn, on + x.b.toNat * 5 + 1, none⟩ = some (.int .i64 d.nodes[x.b.toNat].1.width) ∧ W'.cell? ⟨bn, on + x.b.toNat * 5 + 2, none⟩ = some (.int .u64 d.nodes[x.b.toNat].1.val) ∧ W'.cell? ⟨bn, on + x.b.toNat * 5 + 3, none⟩ = some (.string d.nodes[x.b.toNat].1.name) ∧ W'.cell? ⟨bn, on + x.b.toNat * 5 + 4, none⟩ = some d.nodes[x.b.toNat].2 ∧ RdI (fun q => M q ∨ w.heap.size ≤ q) W' d.nodes[x.b.toNat].2 d.nodes[x.b.toNat].1.args) := fun W' hf => by
              obtain ⟨bn', on', e, e0, e1, e2, e3, e4, e5⟩ := (HRD.out W' hf).nodes.nodeK hb
              simp only [Option.some.injEq, Addr.mk.injEq, and_true] at e
              obtain ⟨rfl, rfl⟩ := e
              exact ⟨e0, e1, e2, e3, e4, e5⟩
            have HOA := hid (HORD.out _ HNA.out)
            have HOB := hid (HORD.out _ HNB.out)
            have HLAA := hid (HLA.out _ HNA.out)
            generalize d.nodes[x.a.toNat] = na at HNA2 HOA HLAA HAL
            generalize d.nodes[x.b.toNat] = nb at HNB2 HOB HAL
            obtain ⟨na, va⟩ := na
            obtain ⟨nb, vb⟩ := nb
            simp only at HNA2 HNB2 HOA HOB HLAA HAL
            have HS : Hid (∀ W', Fr Mf w3.drew W' → (W'.cell? ⟨wr.heap.size, 0, none⟩ = some (.int .i64 x.a) ∧ W'.cell? ⟨wr.heap.size, 1, none⟩ = some (.int .i64 x.b) ∧ W'.cell? ⟨wr.heap.size, 2, none⟩ = some (.int .i64 (-1)) ∧ W'.cell? ⟨w.heap.size, 0, none⟩ = some (.slice (some ⟨bn, on, none⟩) d.nodes.length c1) ∧
                W'.cell? ⟨bn, on + x.a.toNat * 5, none⟩ = some (.int .i64 na.op) ∧ W'.cell? ⟨bn, on + x.a.toNat * 5 + 1, none⟩ = some (.int .i64 na.width) ∧ W'.cell? ⟨bn, on + x.a.toNat * 5 + 2, none⟩ = some (.int .u64 na.val) ∧ W'.cell? ⟨bn, on + x.a.toNat * 5 + 3, none⟩ = some (.string na.name) ∧ W'.cell? ⟨bn, on + x.a.toNat * 5 + 4, none⟩ = some va ∧
                W'.cell? ⟨bn, on + x.b.toNat * 5, none⟩ = some (.int .i64 nb.op) ∧ W'.cell? ⟨bn, on + x.b.toNat * 5 + 1, none⟩ = some (.int .i64 nb.width) ∧ W'.cell? ⟨bn, on + x.b.toNat * 5 + 2, none⟩ = some (.int .u64 nb.val) ∧ W'.cell? ⟨bn, on + x.b.toNat * 5 + 3, none⟩ = some (.string nb.name) ∧ W'.cell? ⟨bn, on + x.b.toNat * 5 + 4, none⟩ = some vb)) := fun W' hf => by
              obtain ⟨s1, s2, s3, s4⟩ := HS0.out W' hf
              obtain ⟨e0, e1, e2, e3, e4, _⟩ := HNA2.out W' hf
              obtain ⟨g0, g1, g2, g3, g4, _⟩ := HNB2.out W' hf
              exact ⟨s1, s2, s3, s4, e0, e1, e2, e3, e4, g0, g1, g2, g3, g4⟩
            have q0 := HS.out w3.drew (Fr.refl _ _)
            clear HNA HNB
            refine region_eff (fun W' => (W'.cell? ⟨wr.heap.size, 0, none⟩ = some (.int .i64 x.a) ∧ W'.cell? ⟨wr.heap.size, 1, none⟩ = some (.int .i64 x.b) ∧ W'.cell? ⟨wr.heap.size, 2, none⟩ = some (.int .i64 (-1)) ∧ W'.cell? ⟨w.heap.size, 0, none⟩ = some (.slice (some ⟨bn, on, none⟩) d.nodes.length c1) ∧ W'.cell? ⟨bn, on + x.a.toNat * 5, none⟩ = some (.int .i64 na.op) ∧ W'.cell? ⟨bn, on + x.a.toNat * 5 + 1, none⟩ = some (.int .i64 na.width) ∧ W'.cell? ⟨bn, on + x.a.toNat * 5 + 2, none⟩ = some (.int .u64 na.val) ∧ W'.cell? ⟨bn, on + x.a.toNat * 5 + 3, none⟩ = some (.string na.name) ∧ W'.cell? ⟨bn, on + x.a.toNat * 5 + 4, none⟩ = some va ∧ W'.cell? ⟨bn, on + x.b.toNat * 5, none⟩ = some (.int .i64 nb.op) ∧ W'.cell? ⟨bn, on + x.b.toNat * 5 + 1, none⟩ = some (.int .i64 nb.width) ∧ W'.cell? ⟨bn, on + x.b.toNat * 5 + 2, none⟩ = some (.int .u64 nb.val) ∧ W'.cell? ⟨bn, on + x.b.toNat * 5 + 3, none⟩ = some (.string nb.name) ∧ W'.cell? ⟨bn, on + x.b.toNat * 5 + 4, none⟩ = some vb)) 20 [(0, 1), (1, 0), (2, 1), (3, 1), (4, 1), (5, 1), (6, 0), (7, 1), (8, 0), (9, 1), (10, 0), (11, 1), (12, 0), (13, 1), (14, 0), (15, 1), (16, 0), (17, 2), (18, 1), (19, 1)] (by kernel_rfl) (by kernel_rfl) ?_ ?_
            · exact q0
            clear q0
            repeat (first | (refine eff_off (by rfl) (by rfl) ?_; (try simp only [Act.put, List.setIfInBounds_toArray, List.set_cons_zero, List.set_cons_succ])) | (refine eff_off0 (by rfl) (by rfl) ?_; (try simp only [Act.put, List.setIfInBounds_toArray, List.set_cons_zero, List.set_cons_succ])) | (refine eff_pu ?_ (by rfl) (by rfl) ?_ ?_; rotate_left; (focus (intro w'; go_simp; (try with_reducible rfl); done)); (try simp only [Act.put, List.setIfInBounds_toArray, List.set_cons_zero, List.set_cons_succ])) | (refine eff_rd ?_ (by rfl) (by rfl) ?_ ?_; rotate_left; (focus (intro w' hS; (try obtain ⟨hq1, hS⟩ := hS); (try obtain ⟨hq2, hS⟩ := hS); (try obtain ⟨hq3, hS⟩ := hS); (try obtain ⟨hq4, hS⟩ := hS); (try obtain ⟨hq5, hS⟩ := hS); (try obtain ⟨hq6, hS⟩ := hS); (try obtain ⟨hq7, hS⟩ := hS); (try obtain ⟨hq8, hS⟩ := hS); (try obtain ⟨hq9, hS⟩ := hS); (try obtain ⟨hq10, hS⟩ := hS); (try obtain ⟨hq11, hS⟩ := hS); (try obtain ⟨hq12, hS⟩ := hS); (try obtain ⟨hq13, hS⟩ := hS); (try obtain ⟨hq14, hS⟩ := hS); (try obtain ⟨hq15, hS⟩ := hS); (try obtain ⟨hq16, hS⟩ := hS); (try obtain ⟨hq17, hS⟩ := hS); (try obtain ⟨hq18, hS⟩ := hS); (try obtain ⟨hq19, hS⟩ := hS); (try dsimp only at hS); go_simp; (try with_reducible rfl); done)); (try simp only [Act.put, List.setIfInBounds_toArray, List.set_cons_zero, List.set_cons_succ])))
            refine eff_call 92 #[.pointer (some ⟨bf, 0, none⟩), nodeV na va, nodeV nb vb] (by rfl) (by rfl) (by intro w'; go_simp) ?_
            have RA := (HNA2.out w3.drew (Fr.refl _ _)).2.2.2.2.2
            have RB := (HNB2.out w3.drew (Fr.refl _ _)).2.2.2.2.2
            refine (congruent_any Mf _ bf Lf r na nb va vb HF.out (RA.weaken (fun q _ h => .inr (HM1.out q h))) (RB.weaken (fun q _ h => .inr (HM1.out q h))) (fun y hy => (HOA.out y hy).1) (fun y hy => (HOB.out y hy).1) HLAA.out).mono ?_
            rintro e w5 ⟨rfl, hF5, hf5⟩
            have S5 := hid (HTU.out w5 hF5 hf5)
            have HB5 := hid (hf5.at (fun h => by have := HQ.out _ h; omega) HB4.out)
            have HX5 : Hid (NewX (NewX X3 w3 w3.drew) w3.drew w5 wr.heap.size) := .inl (.inl HX3.out)
            refine ⟨_, rfl, fun _ => HS.out w5 hf5, ?_⟩
            have HCG : Hid (congS r na nb = alikeAt (nsOf d) (lbAt d.nodes.length d.links k) x.a.toNat x.b.toNat) := by
              show _ = _
              rw [HAL.out]
              exact congS_lab HPR.out (fun y hy => by rw [lbAt_length]; exact HOA.out y hy) (fun y hy => by rw [lbAt_length]; exact HOB.out y hy)
            have HVL : Hid (lkRless (nsOf d) d.links k = !congS r na nb) := by
              show _ = _
              rw [HCG.out]
              unfold lkRless
              rw [HX.out]
              simp only [Option.elim_some]
              rw [nsOf_length, HIN.out, HWY.out]
              rfl
            clear RA RB hF5 hf5 HS HS0 HNA2 HNB2 HTU HF S4 S3 HB3 HB4 HRD
            (try simp only [Act.put, List.setIfInBounds_toArray, List.set_cons_zero, List.set_cons_succ])
            cases hcg : congS r na nb with
            | true =>
              have HV : Hid (lkRless (nsOf d) d.links k = false) := by show _ = _; rw [HVL.out, hcg]; rfl
              clear hcg
              repeat (first | (refine eff_off (by rfl) (by rfl) ?_; (try simp only [Act.put, List.setIfInBounds_toArray, List.set_cons_zero, List.set_cons_succ])) | (refine eff_off0 (by rfl) (by rfl) ?_; (try simp only [Act.put, List.setIfInBounds_toArray, List.set_cons_zero, List.set_cons_succ])) | (refine eff_pu ?_ (by rfl) (by rfl) ?_ ?_; rotate_left; (focus (intro w'; go_simp; (try with_reducible rfl); done)); (try simp only [Act.put, List.setIfInBounds_toArray, List.set_cons_zero, List.set_cons_succ])) | (refine eff_rd ?_ (by rfl) (by rfl) ?_ ?_; rotate_left; (focus (intro w' hS; (try obtain ⟨hq1, hS⟩ := hS); (try obtain ⟨hq2, hS⟩ := hS); (try obtain ⟨hq3, hS⟩ := hS); (try obtain ⟨hq4, hS⟩ := hS); (try obtain ⟨hq5, hS⟩ := hS); (try obtain ⟨hq6, hS⟩ := hS); (try obtain ⟨hq7, hS⟩ := hS); (try obtain ⟨hq8, hS⟩ := hS); (try obtain ⟨hq9, hS⟩ := hS); (try obtain ⟨hq10, hS⟩ := hS); (try obtain ⟨hq11, hS⟩ := hS); (try obtain ⟨hq12, hS⟩ := hS); (try obtain ⟨hq13, hS⟩ := hS); (try obtain ⟨hq14, hS⟩ := hS); (try obtain ⟨hq15, hS⟩ := hS); (try obtain ⟨hq16, hS⟩ := hS); (try obtain ⟨hq17, hS⟩ := hS); (try obtain ⟨hq18, hS⟩ := hS); (try obtain ⟨hq19, hS⟩ := hS); (try dsimp only at hS); go_simp; (try with_reducible rfl); done)); (try simp only [Act.put, List.setIfInBounds_toArray, List.set_cons_zero, List.set_cons_succ])))
              refine eff_nil ?_
              obtain ⟨y0, y1, y2, yf, yl⟩ := three_of HB5.out
              clear yf
              go_wp2_with fail
              clear y0 y1 y2 yl
              obtain ⟨Lf, r, hF, hL, post⟩ := S5.out.link HX.out HIN.out
              have POST := hid post
              clear post
              refine (flink_any Mf _ bf Lf r x.a x.b x.why hF (by omega)).mono ?_
              intro e w8 hp
              obtain ⟨⟨bb, he⟩, ⟨Mf', s8⟩⟩ := POST.out e w8 hp
              subst he
              have S8 := hid s8
              clear hp s8 POST hF hL
              go_wp2
              go_roundw
              case rel => exact ⟨k + 1, by omega, by go_num, _, _, by rw [fls_off HV.out]; exact S8.out⟩
              case measure => simp [intOf]; omega
            | false =>
              have HV : Hid (lkRless (nsOf d) d.links k = true) := by show _ = _; rw [HVL.out, hcg]; rfl
              have RS := hid S5.out.st
              clear hcg
              repeat (first | (refine eff_off (by rfl) (by rfl) ?_; (try simp only [Act.put, List.setIfInBounds_toArray, List.set_cons_zero, List.set_cons_succ])) | (refine eff_off0 (by rfl) (by rfl) ?_; (try simp only [Act.put, List.setIfInBounds_toArray, List.set_cons_zero, List.set_cons_succ])) | (refine eff_pu ?_ (by rfl) (by rfl) ?_ ?_; rotate_left; (focus (intro w'; go_simp; (try with_reducible rfl); done)); (try simp only [Act.put, List.setIfInBounds_toArray, List.set_cons_zero, List.set_cons_succ])) | (refine eff_rd ?_ (by rfl) (by rfl) ?_ ?_; rotate_left; (focus (intro w' hS; (try obtain ⟨hq1, hS⟩ := hS); (try obtain ⟨hq2, hS⟩ := hS); (try obtain ⟨hq3, hS⟩ := hS); (try obtain ⟨hq4, hS⟩ := hS); (try obtain ⟨hq5, hS⟩ := hS); (try obtain ⟨hq6, hS⟩ := hS); (try obtain ⟨hq7, hS⟩ := hS); (try obtain ⟨hq8, hS⟩ := hS); (try obtain ⟨hq9, hS⟩ := hS); (try obtain ⟨hq10, hS⟩ := hS); (try obtain ⟨hq11, hS⟩ := hS); (try obtain ⟨hq12, hS⟩ := hS); (try obtain ⟨hq13, hS⟩ := hS); (try obtain ⟨hq14, hS⟩ := hS); (try obtain ⟨hq15, hS⟩ := hS); (try obtain ⟨hq16, hS⟩ := hS); (try obtain ⟨hq17, hS⟩ := hS); (try obtain ⟨hq18, hS⟩ := hS); (try obtain ⟨hq19, hS⟩ := hS); (try dsimp only at hS); go_simp; (try with_reducible rfl); done)); (try simp only [Act.put, List.setIfInBounds_toArray, List.set_cons_zero, List.set_cons_succ])))
              refine eff_nil ?_
              obtain ⟨M3, n3, k3⟩ := RS.out.noted
              have HN3 := hid n3
              have HK3 := hid k3
              clear n3 k3
              go_wp2_with fail
              refine (repAdd_any M3 _ br _ 8 k HN3.out ?_).mono ?_
              · simp only [List.length_append]
                have h1 := HF1.out
                omega
              rintro e w9 ⟨rfl, ⟨M4, n4, g4⟩, f4⟩
              have S9 := hid (HK3.out w9 M4 _ n4 g4 f4)
              clear n4 g4 f4
              have S6 := hid (S5.out.told S9.out.1 S9.out.2)
              have HB6 := hid (S9.out.2.at (fun h => h HX5.out) HB5.out)
              clear RS S9
              obtain ⟨y0, y1, y2, yf, yl⟩ := three_of HB6.out
              clear yf
              go_wp2_with fail
              clear y0 y1 y2 yl
              obtain ⟨Lf, r, hF, hL, post⟩ := S6.out.link HX.out HIN.out
              have POST := hid post
              clear post
              refine (flink_any Mf _ bf Lf r x.a x.b x.why hF (by omega)).mono ?_
              intro e w8 hp
              obtain ⟨⟨bb, he⟩, ⟨Mf', s8⟩⟩ := POST.out e w8 hp
              subst he
              have S8 := hid s8
              clear hp s8 POST hF hL
              go_wp2
              go_roundw
              case rel => exact ⟨k + 1, by omega, by go_num, _, _, by rw [fls_on HV.out]; exact S8.out⟩
              case measure => simp [intOf]; omega
    · obtain rfl : k = d.links.length := by omega
      go_wp2
      go_end0
      obtain ⟨M', h1, h2, _⟩ := S.out.st.rep
      exact ⟨rfl, ⟨M', h1, h2⟩, S.out.st.fr⟩
end Go.Proofs.YtndfncaoejbkiaaGreatDoor
end
