/- The walks of slices.Clone, hashcons.Canon and Copy, and of the reference's Copy, Find, Canon, Few. -/
import Derived.Test.YtkifedleajacpaaDoorOwnI
import Derived.Test.YtkifedleajacpaaDoorCmpN
import Derived.Deep.RegionHeld3
namespace Go.Proofs.YtkifedleajacpaaDoor
open Go.RowKit
set_option maxRecDepth 100000

theorem few_any (n : Node) (v : Value) (most : Int) (M : Nat → Prop) (w : World) (h : RdI M w v n.args) (hn : n.name.size ≤ 9223372036854775807) :
    Calls Tryd.prog 11 #[nodeV n v, .int .i64 most] w fun e w' => e = .returned (.bool (decide ((n.args.length : Int) ≤ most ∧ (n.name.size / 100 : Int) ≤ most))) ∧ Fr NoB w w' := by
  obtain ⟨a, cap, rfl⟩ := h.form
  clear h
  unfold nodeV
  by_cases h1 : (n.args.length : Int) ≤ most
  · go_enter Tryd.func11, Tryd.ntmps11
    go_wp2
    go_ret
    exact ⟨ret_bool (by simp [h1]), (Fr.refl NoB w).alloc _⟩
  · go_enter Tryd.func11, Tryd.ntmps11
    go_wp2
    go_ret
    exact ⟨ret_bool (by simp; omega), (Fr.refl NoB w).alloc _⟩

theorem clone_any (M : Nat → Prop) (v : Value) (l : List Int) (w : World) (h : RdI M w v l) (hl : l.length ≤ 17592186044416) :
    Calls Tryd.prog 37 #[v] w fun e w' => ∃ a' c', e = .returned (.slice a' l.length c') ∧ OwnI w.heap.size w' (.slice a' l.length c') l ∧ Fr NoB w w' := by
  have qs := eqlNilI
  have h0 : (v = .slice none 0 0 ∧ l = []) ∨ (∃ a cap, v = .slice (some a) l.length cap) := by
    rcases h with ⟨⟨a, cap, rfl, hcap⟩, rfl⟩ | ⟨b, off, cap, rfl, _⟩
    · cases a with
      | none => obtain rfl := hcap rfl; exact .inl ⟨rfl, rfl⟩
      | some a => exact .inr ⟨a, cap, rfl⟩
    · exact .inr ⟨_, cap, rfl⟩
  rcases h0 with ⟨rfl, rfl⟩ | ⟨a, cap, rfl⟩
  · go_enter Tryd.func37, Tryd.ntmps37
    go_wp2
    go_ret
    exact ⟨_, _, rfl, OwnI.nil _ _, Fr.refl _ _⟩
  · have hrd := hid (show RdI M (w.alloc (.cells #[] 3)) (.slice (some a) l.length cap) l from RdI.fr h ((Fr.refl NoB w).alloc _) (fun _ _ h => h.elim))
    have hown := hid (show OwnI w.heap.size (w.alloc (.cells #[] 3)) (.slice (some ⟨w.heap.size, 0, none⟩) 0 0) [] from OwnI.lit w.heap.size w [] (Nat.le_refl _) (by simp))
    clear h
    go_enter Tryd.func37, Tryd.ntmps37
    go_wp2_with (at_builtin; refine ap_ints _ rfl _ _ rfl w.heap.size (.slice (some ⟨w.heap.size, 0, none⟩) 0 0) [] rfl hown.out M _ l rfl hrd.out (by simpa using hl) (by simp) ?_; intro v' w1 h1 h2)
    go_ret
    obtain ⟨a', c', rfl⟩ := h1.form
    exact ⟨a', c', rfl, by simpa using h1, ((Fr.refl NoB w).alloc _).grown h2 (fun k hk hlt => by simp [Value.ownBlock] at hk; subst hk; exact absurd hlt (Nat.lt_irrefl _))⟩

theorem canonNil_any (M : Nat → Prop) (n : Node) (v : Value) (w : World) (h : RdI M w v n.args) (hl : n.args.length ≤ 17592186044416) :
    Calls Tryd.prog 16 #[nodeV n v, .nilFunc] w fun e w' => ∃ a' c', e = .returned (nodeV n (.slice a' n.args.length c')) ∧ OwnI w.heap.size w' (.slice a' n.args.length c') n.args ∧ Fr NoB w w' := by
  obtain ⟨a, cap, rfl⟩ := h.form
  have h' := hid (h.fr (((Fr.refl NoB w).alloc (.cells (nodeCells n (.slice a n.args.length cap)) 26)).alloc (.cells #[.int .i64 0, .int .i64 0, .int .u64 0, .string ⟨#[]⟩, .slice none 0 0] 26)) (fun _ _ h => h.elim))
  clear h
  unfold nodeV
  have qf := neqNilFn0
  go_enter Tryd.func16, Tryd.ntmps16
  go_wp2_with (go_at_call 37; refine (clone_any M _ n.args _ h'.out hl).mono ?_; rintro e w1 ⟨a', c', rfl, ho, hf⟩; obtain ⟨c0, c1, c2, c3, c4, cf, cl⟩ := hf.five (fun h => h) (at_old (at_new w _) _); obtain ⟨r0, r1, r2, r3, r4, rf, rl⟩ := hf.five (b := w.heap.size + 1) (fun h => h) (at_new' (by simp)); have HF := hid hf; have HO := hid ho; clear hf ho)
  refine bodyPost_ret (v := nodeV n (.slice a' n.args.length c')) (by simp [results, Tryd.results16, go_sem, r0, r1, r2, r3, r4, nodeV]) rfl ?_
  refine ⟨a', c', rfl, OwnI.keep HO.out ?_ ?_, ?_⟩
  · simp only [World.size_alloc]; omega
  · repeat (refine Fr.setCell ?_ (fun _ => by simp <;> omega) _)
    exact Fr.refl _ _
  · repeat (refine Fr.setCell ?_ (fun h => absurd h (by simp)) _)
    exact (((Fr.refl NoB w).alloc _).alloc _).step HF.out

/-- What a function value must do for Canon: Pr are the blocks that it must leave alone. -/
structure FindOk (F : FuncId) (first caps : Array Value) (I : (Nat → Prop) → Nat → World → Prop) (l : List Int) (φ : Int → Int) : Prop where
  enter : ∀ (args : Array Value) (w : World), (callFunc F args).run Tryd.prog w = .ok (.enter F args) w
  stable : ∀ Pr k w w', I Pr k w → Fr Pr w w' → I Pr k w'
  call : ∀ Pr k w, k < l.length → I Pr k w → Calls Tryd.prog F (first.push (.int .i64 (l.getD k 0)) ++ caps) w fun e w' => e = .returned (.int .i64 (φ (l.getD k 0))) ∧ I Pr (k + 1) w' ∧ Fr (fun b => ¬ Pr b) w w'

theorem take_map_set (l : List Int) (φ : Int → Int) (k : Nat) (hk : k < l.length) : ((l.take k).map φ ++ l.drop k).set k (φ (l.getD k 0)) = (l.take (k + 1)).map φ ++ l.drop (k + 1) := by
  have e1 : l.take (k + 1) = l.take k ++ [l[k]] := List.take_succ_eq_append_getElem hk
  have e2 : l.drop k = l[k] :: l.drop (k + 1) := List.drop_eq_getElem_cons hk
  rw [e1, e2, getD_eq hk, List.set_append_right _ _ (by simp; omega)]
  have e3 : k - (List.map φ (List.take k l)).length = 0 := by simp; omega
  rw [e3, List.set_cons_zero, List.map_append, List.append_assoc]
  rfl
theorem take_map_len (l : List Int) (φ : Int → Int) (k : Nat) : ((l.take k).map φ ++ l.drop k).length = l.length := by simp; omega
theorem take_map_get (l : List Int) (φ : Int → Int) (k : Nat) (hk : k < l.length) : ((l.take k).map φ ++ l.drop k).getD k 0 = l.getD k 0 := by
  rw [List.getD_eq_getElem?_getD, List.getElem?_append_right (by simp; omega), List.getD_eq_getElem?_getD]
  have e3 : k - (List.map φ (List.take k l)).length = 0 := by simp; omega
  rw [e3, List.getElem?_drop, Nat.add_zero]

set_option maxHeartbeats 1000000 in
theorem canon_any (M Keep : Nat → Prop) (F : FuncId) (first caps : Array Value) (I : (Nat → Prop) → Nat → World → Prop) (φ : Int → Int) (n : Node) (v : Value) (w : World) (h : RdI M w v n.args) (hl : n.args.length ≤ 17592186044416)
    (hI : FindOk F first caps I n.args φ) (hstart : ∀ w1, Fr NoB w w1 → I (fun b => Keep b ∨ (w.heap.size ≤ b ∧ b < w1.heap.size)) 0 w1) :
    Calls Tryd.prog 16 #[nodeV n v, .func (.func F) first caps] w fun e w' => ∃ a' c', e = .returned (nodeV { n with args := n.args.map φ } (.slice a' n.args.length c')) ∧ OwnI w.heap.size w' (.slice a' n.args.length c') (n.args.map φ) ∧
      (∃ Pr : Nat → Prop, I Pr n.args.length w' ∧ (∀ b, Keep b → Pr b) ∧ (∀ b, (Value.slice a' n.args.length c').ownBlock = some b → Pr b)) ∧ Fr (fun b => ¬ Keep b) w w' := by
  obtain ⟨a, cap, rfl⟩ := h.form
  have h' := hid (h.fr (((Fr.refl NoB w).alloc (.cells (nodeCells n (.slice a n.args.length cap)) 26)).alloc (.cells #[.int .i64 0, .int .i64 0, .int .u64 0, .string ⟨#[]⟩, .slice none 0 0] 26)) (fun _ _ h => h.elim))
  have HI := hid hI
  have HS := hid hstart
  clear h hI hstart
  unfold nodeV
  have qf := neqNilFn1
  go_enter Tryd.func16, Tryd.ntmps16
  go_wp2_with (go_at_call 37; refine (clone_any M _ n.args _ h'.out hl).mono ?_; rintro e w1 ⟨a', c', rfl, ho, hf⟩; obtain ⟨c0, c1, c2, c3, c4, cf, cl⟩ := hf.five (fun h => h) (at_old (at_new w _) _); have HB := hid (hf.at (fun h => h) (at_old (at_new w _) _)); have HR := hid (hf.at (b := w.heap.size + 1) (fun h => h) (at_new' (by simp))); have HF := hid hf; have HO := hid ho; clear hf ho)
  have hF1 : Fr NoB w w1 := (((Fr.refl NoB w).alloc _).alloc _).step HF.out
  have hO1 : OwnI (w.heap.size + 2) w1 (.slice a' n.args.length c') n.args := OwnI.base HO.out (by simp only [World.size_alloc]; omega)
  have hSz : w.heap.size + 2 ≤ w1.heap.size := by have := HF.out.size; simp only [World.size_alloc] at this; omega
  have hRow : ∀ b, (Value.slice a' n.args.length c').ownBlock = some b → w.heap.size + 2 ≤ b ∧ b < w1.heap.size := fun b hb => World.ownsRow.lt hO1 b hb
  have hI0 := HS.out w1 hF1
  obtain ⟨Pr, hPr⟩ : ∃ Pr : Nat → Prop, Pr = fun b => Keep b ∨ (w.heap.size ≤ b ∧ b < w1.heap.size) := ⟨_, rfl⟩
  rw [← hPr] at hI0
  have hPrB : Pr w.heap.size := by rw [hPr]; exact .inr ⟨by omega, by omega⟩
  have hPrR : Pr (w.heap.size + 1) := by rw [hPr]; exact .inr ⟨by omega, by omega⟩
  have hPrS : ∀ b, (Value.slice a' n.args.length c').ownBlock = some b → Pr b := fun b hb => by rw [hPr]; exact .inr ⟨by have := (hRow b hb).1; omega, (hRow b hb).2⟩
  have hPrK : ∀ b, Keep b → Pr b := fun b hb => by rw [hPr]; exact .inl hb
  have hPrF : ∀ (w2 w3 : World), Fr (fun b => ¬ Keep b) w w2 → Fr (fun b => ¬ Pr b) w2 w3 → Fr (fun b => ¬ Keep b) w w3 := fun w2 w3 h1 h2 => h1.trans' h2 (fun k _ hn hk => hn (hPrK k hk))
  clear hPr
  have HPB := hid hPrB
  have HPS := hid hPrS
  have HH := hid (And.intro hF1 (And.intro hO1 (And.intro hSz (And.intro hRow (And.intro hI0 (And.intro hPrB (And.intro hPrR (And.intro hPrS (And.intro hPrK hPrF)))))))))
  clear hF1 hO1 hSz hRow hI0 hPrB hPrR hPrS hPrK hPrF
  go_loopw [16] (fun i wr => ∃ k : Nat, k ≤ n.args.length ∧ i = .int .i64 k ∧ OwnI (w.heap.size + 2) wr (.slice a' n.args.length c') ((n.args.take k).map φ ++ n.args.drop k) ∧ I Pr k wr ∧
      wr.heap[w.heap.size]? = some (.cells (nodeCells n (.slice a' n.args.length c')) 26 (0, 0)) ∧
      wr.heap[w.heap.size + 1]? = some (.cells #[.int .i64 0, .int .i64 0, .int .u64 0, .string ⟨#[]⟩, .slice none 0 0] 26 (0, 0)) ∧ Fr (fun b => ¬ Keep b) w wr) (fun i _ => n.args.length - (intOf i).toNat)
  case atStart =>
    obtain ⟨hF1, hO1, hSz, hRow, hI0, hPrB, hPrR, hPrS, hPrK, hPrF⟩ := HH.out
    have hs : Fr (fun k => k = w.heap.size) w1 (w1.setCell ⟨w.heap.size, 4, none⟩ (.slice a' n.args.length c')) := Fr.setCell (M := fun k => k = w.heap.size) (Fr.refl _ _) (p := ⟨w.heap.size, 4, none⟩) (fun _ => rfl) _
    refine ⟨0, Nat.zero_le _, rfl, ?_, HI.out.stable Pr 0 w1 _ hI0 (hs.mono (fun k _ hk => by rw [hk]; exact hPrB)), ?_, set_other HR.out (by simp) _, ?_⟩
    · exact OwnI.fr hO1 hs (fun k hk => by have := hRow k hk; omega)
    · exact set_at HB.out 4 _
    · exact (hF1.trans' hs (fun k hk h => by omega) : Fr NoB w _).mono (fun k _ h => h.elim)
  case round =>
    obtain ⟨k, hk, rfl, ho, hi, hb, hr, hfr⟩ := hrel
    obtain ⟨c0, c1, c2, c3, c4, cf, cl⟩ := five_of hb
    have HB := hid hb
    have HR2 := hid hr
    have HI2 := hid hi
    have HF2 := hid hfr
    clear hb hr hi hfr
    by_cases hlt : k < n.args.length
    · rcases OwnI.form' ho with ⟨h1, h2⟩ | ⟨g, cap2, h1, hg1, hg2, hcap⟩
      · have := congrArg List.length h2; rw [take_map_len] at this; simp only [List.length_nil] at this; omega
      · simp only [Value.slice.injEq] at h1
        obtain ⟨rfl, h1, rfl⟩ := h1
        clear h1
        have hck := OwnI.cell ho (i := k) (by rw [take_map_len]; exact hlt)
        rw [take_map_get _ _ _ hlt] at hck
        obtain ⟨x, HX⟩ : ∃ x, Hid (n.args.getD k 0 = x) := ⟨_, rfl⟩
        rw [HX.out] at hck
        have HO2 := hid ho
        clear ho
        go_wp2
        have hcall := HI.out.call Pr k
        rw [HX.out] at hcall
        have HC : Hid (∀ W, Fr NoB wr W → Calls Tryd.prog F (first.push (.int .i64 x) ++ caps) W fun e w' => e = .returned (.int .i64 (φ x)) ∧ I Pr (k + 1) w' ∧ Fr (fun b => ¬ Pr b) W w') := fun W hW => hcall W hlt (HI.out.stable Pr k wr W HI2.out (hW.mono (fun _ _ h => h.elim)))
        clear hcall
        have hen := HI.out.enter
        have hne1 : g ≠ w.heap.size := by omega
        have hne2 : w.heap.size ≠ g := by omega
        go_region_held3 (fun w' => w'.cell? ⟨w.heap.size, 4, none⟩ = some (.slice (some ⟨g, 0, none⟩) n.args.length c')) (go_keep)
          (first | (with_reducible refine (HC.out _ (Fr.refl _ _).drew).mono ?_); rintro e w2 ⟨rfl, hi2, hfr2⟩; obtain ⟨_, _, _, _, d4, _, _⟩ := five_of (hfr2.at (fun h => h HPB.out) HB.out); have ho4 := OwnI.fr (OwnI.drew HO2.out) hfr2 (fun b hb h => h (HPS.out b hb)); have e1 := OwnI.cell ho4 (i := k) (by rw [take_map_len]; exact hlt); have e2 := OwnI.frozen ho4 k; have HO4 := hid ho4; have HI4 := hid hi2; have HF4 := hid hfr2; clear hi2 hfr2 ho4)
        go_wp2
        go_roundw
        case rel =>
          obtain ⟨hF1, hO1, hSz, hRow, hI0, hPrB, hPrR, hPrS, hPrK, hPrF⟩ := HH.out
          have hPg : Pr g := hPrS g rfl
          have hs : Fr (fun b => b = g) w2 (w2.setCell ⟨g, k, none⟩ (.int .i64 (φ x))) := Fr.setCell (M := fun b => b = g) (Fr.refl _ _) (p := ⟨g, k, none⟩) (fun _ => rfl) _
          refine ⟨k + 1, by omega, by go_num, ?_, ?_, ?_, ?_, ?_⟩
          · have h9 := OwnI.stored HO4.out k (φ x)
            rw [← HX.out, take_map_set _ _ _ hlt] at h9
            rw [← HX.out]; exact h9
          · exact HI.out.stable Pr (k + 1) w2 _ HI4.out (hs.mono (fun b _ hb => by rw [hb]; exact hPg))
          · exact set_other (HF4.out.at (fun h => h hPrB) HB.out) (by simp; omega) _
          · exact set_other (HF4.out.at (fun h => h hPrR) HR2.out) (by simp; omega) _
          · have h8 := hPrF _ _ (HF2.out.drew) HF4.out
            exact h8.trans' hs (fun b hb h => by have h2 : b = g := h; have := (hRow g rfl).1; omega)
        case measure => simp [intOf]; omega
    · obtain ⟨r0, r1, r2, r3, r4, rf, rl⟩ := five_of HR2.out
      obtain rfl : k = n.args.length := by omega
      go_wp2
      refine bodyPost_ret (v := nodeV { n with args := n.args.map φ } (.slice a' n.args.length c')) (by simp [results, Tryd.results16, go_sem, r0, r1, r2, r3, r4, nodeV]) rfl ?_
      obtain ⟨hF1, hO1, hSz, hRow, hI0, hPrB, hPrR, hPrS, hPrK, hPrF⟩ := HH.out
      have hs : Fr (fun b => b = w.heap.size + 1) wr _ := Fr.setCell (M := fun b => b = w.heap.size + 1) (Fr.setCell (M := fun b => b = w.heap.size + 1) (Fr.setCell (M := fun b => b = w.heap.size + 1) (Fr.setCell (M := fun b => b = w.heap.size + 1) (Fr.setCell (M := fun b => b = w.heap.size + 1) (Fr.refl _ wr) (p := ⟨w.heap.size + 1, 0, none⟩) (fun _ => rfl) (.int .i64 n.op)) (p := ⟨w.heap.size + 1, 1, none⟩) (fun _ => rfl) (.int .i64 n.width)) (p := ⟨w.heap.size + 1, 2, none⟩) (fun _ => rfl) (.int .u64 n.val)) (p := ⟨w.heap.size + 1, 3, none⟩) (fun _ => rfl) (.string n.name)) (p := ⟨w.heap.size + 1, 4, none⟩) (fun _ => rfl) (.slice a' n.args.length c')
      refine ⟨a', c', rfl, ?_, ⟨Pr, ?_, hPrK, hPrS⟩, ?_⟩
      · refine OwnI.base (B := w.heap.size + 2) (OwnI.fr (l := n.args.map φ) ?_ hs (fun b hb => by have := (hRow b hb).1; omega)) (by omega)
        have e : (n.args.take n.args.length).map φ ++ n.args.drop n.args.length = n.args.map φ := by simp
        rw [← e]; exact ho
      · exact HI.out.stable Pr _ wr _ HI2.out (hs.mono (fun b _ hb => by rw [hb]; exact hPrR))
      · exact HF2.out.trans' hs (fun b hb h => by omega)

end Go.Proofs.YtkifedleajacpaaDoor
