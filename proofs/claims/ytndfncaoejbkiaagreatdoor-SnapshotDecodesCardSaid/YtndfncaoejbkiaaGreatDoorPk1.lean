import Derived.Test.YtndfncaoejbkiaaGreatDoorPk0
import Derived.Deep.RegionHeld3
import Derived.Laws.BitsAllLaws
import Derived.Maps.AppendAt
set_option linter.all false
section
/- The walks of slices.Clone, hashcons.Canon and Copy, and of the reference's Copy, Find, Canon, Few. -/
namespace Go.Proofs.YtndfncaoejbkiaaGreatDoor
open Go.RowKit
set_option maxRecDepth 100000

theorem clone_any (M : Nat → Prop) (v : Value) (l : List Int) (w : World) (h : RdI M w v l) (hl : l.length ≤ 17592186044416) :
    Calls Tryz.prog 82 #[v] w fun e w' => ∃ a' c', e = .returned (.slice a' l.length c') ∧ OwnI w.heap.size w' (.slice a' l.length c') l ∧ Fr NoB w w' := by
  have qs := eqlNilI
  have h0 : (v = .slice none 0 0 ∧ l = []) ∨ (∃ a cap, v = .slice (some a) l.length cap) := by
    rcases h with ⟨⟨a, cap, rfl, hcap⟩, rfl⟩ | ⟨b, off, cap, rfl, _⟩
    · cases a with
      | none => obtain rfl := hcap rfl; exact .inl ⟨rfl, rfl⟩
      | some a => exact .inr ⟨a, cap, rfl⟩
    · exact .inr ⟨_, cap, rfl⟩
  rcases h0 with ⟨rfl, rfl⟩ | ⟨a, cap, rfl⟩
  · go_enter Tryz.func82, Tryz.ntmps82
    go_wp2
    go_ret
    exact ⟨_, _, rfl, OwnI.nil _ _, Fr.refl _ _⟩
  · have hrd := hid (show RdI M (w.alloc (.cells #[] 3)) (.slice (some a) l.length cap) l from RdI.fr h ((Fr.refl NoB w).alloc _) (fun _ _ h => h.elim))
    have hown := hid (show OwnI w.heap.size (w.alloc (.cells #[] 3)) (.slice (some ⟨w.heap.size, 0, none⟩) 0 0) [] from OwnI.lit w.heap.size w [] (Nat.le_refl _) (by simp))
    clear h
    go_enter Tryz.func82, Tryz.ntmps82
    go_wp2_with (at_builtin; refine ap_ints _ rfl _ _ rfl w.heap.size (.slice (some ⟨w.heap.size, 0, none⟩) 0 0) [] rfl hown.out M _ l rfl hrd.out (by simpa using hl) (by simp) ?_; intro v' w1 h1 h2)
    go_ret
    obtain ⟨a', c', rfl⟩ := h1.form
    exact ⟨a', c', rfl, by simpa using h1, ((Fr.refl NoB w).alloc _).grown h2 (fun k hk hlt => by simp [Value.ownBlock] at hk; subst hk; exact absurd hlt (Nat.lt_irrefl _))⟩

theorem canonNil_any (M : Nat → Prop) (n : Node) (v : Value) (w : World) (h : RdI M w v n.args) (hl : n.args.length ≤ 17592186044416) :
    Calls Tryz.prog 63 #[nodeV n v, .nilFunc] w fun e w' => ∃ a' c', e = .returned (nodeV n (.slice a' n.args.length c')) ∧ OwnI w.heap.size w' (.slice a' n.args.length c') n.args ∧ Fr NoB w w' := by
  obtain ⟨a, cap, rfl⟩ := h.form
  have h' := hid (h.fr (((Fr.refl NoB w).alloc (.cells (nodeCells n (.slice a n.args.length cap)) 44)).alloc (.cells #[.int .i64 0, .int .i64 0, .int .u64 0, .string ⟨#[]⟩, .slice none 0 0] 44)) (fun _ _ h => h.elim))
  clear h
  unfold nodeV
  have qf := neqNilFn0
  go_enter Tryz.func63, Tryz.ntmps63
  go_wp2_with (go_at_call 82; refine (clone_any M _ n.args _ h'.out hl).mono ?_; rintro e w1 ⟨a', c', rfl, ho, hf⟩; obtain ⟨c0, c1, c2, c3, c4, cf, cl⟩ := hf.five (fun h => h) (at_old (at_new w _) _); obtain ⟨r0, r1, r2, r3, r4, rf, rl⟩ := hf.five (b := w.heap.size + 1) (fun h => h) (at_new' (by simp)); have HF := hid hf; have HO := hid ho; clear hf ho)
  refine bodyPost_ret (v := nodeV n (.slice a' n.args.length c')) (by simp [results, Tryz.results63, go_sem, r0, r1, r2, r3, r4, nodeV]) rfl ?_
  refine ⟨a', c', rfl, OwnI.keep HO.out ?_ ?_, ?_⟩
  · simp only [World.size_alloc]; omega
  · repeat (refine Fr.setCell ?_ (fun _ => by simp <;> omega) _)
    exact Fr.refl _ _
  · repeat (refine Fr.setCell ?_ (fun h => absurd h (by simp)) _)
    exact (((Fr.refl NoB w).alloc _).alloc _).step HF.out

/-- What a function value must do for Canon: Pr are the blocks that it must leave alone. -/
structure FindOk (F : FuncId) (first caps : Array Value) (I : (Nat → Prop) → Nat → World → Prop) (l : List Int) (φ : Int → Int) : Prop where
  enter : ∀ (args : Array Value) (w : World), (callFunc F args).run Tryz.prog w = .ok (.enter F args) w
  stable : ∀ Pr k w w', I Pr k w → Fr Pr w w' → I Pr k w'
  call : ∀ Pr k w, k < l.length → I Pr k w → Calls Tryz.prog F (first.push (.int .i64 (l.getD k 0)) ++ caps) w fun e w' => e = .returned (.int .i64 (φ (l.getD k 0))) ∧ I Pr (k + 1) w' ∧ Fr (fun b => ¬ Pr b) w w'

theorem take_map_set (l : List Int) (φ : Int → Int) (k : Nat) (hk : k < l.length) : ((l.take k).map φ ++ l.drop k).set k (φ (l.getD k 0)) = (l.take (k + 1)).map φ ++ l.drop (k + 1) := by
  have e1 : l.take (k + 1) = l.take k ++ [l[k]] := List.take_succ_eq_append_getElem hk
  have e2 : l.drop k = l[k] :: l.drop (k + 1) := List.drop_eq_getElem_cons hk
  rw [e1, e2, getD_eq hk, List.set_append_right _ _ (by simp; omega)]
  have e3 : k - (List.map φ (List.take k l)).length = 0 := by simp; omega
  rw [e3, List.set_cons_zero, List.map_append, List.append_assoc]
  rfl
theorem take_map_len (l : List Int) (φ : Int → Int) (k : Nat) : ((l.take k).map φ ++ l.drop k).length = l.length := by simp; omega
theorem take_map_get (l : List Int) (φ : Int → Int) (k : Nat) (hk : k < l.length) : ((l.take k).map φ ++ l.drop k).getD k 0 = l.getD k 0 := by
  rw [List.getD_eq_getElem?_getD, List.getElem?_append_right (by simp; omega), List.getD_eq_getElem?_getD]
  have e3 : k - (List.map φ (List.take k l)).length = 0 := by simp; omega
  rw [e3, List.getElem?_drop, Nat.add_zero]

set_option maxHeartbeats 1000000 in
theorem canon_any (M Keep : Nat → Prop) (F : FuncId) (first caps : Array Value) (I : (Nat → Prop) → Nat → World → Prop) (φ : Int → Int) (n : Node) (v : Value) (w : World) (h : RdI M w v n.args) (hl : n.args.length ≤ 17592186044416)
    (hI : FindOk F first caps I n.args φ) (hstart : ∀ w1, Fr NoB w w1 → I (fun b => Keep b ∨ (w.heap.size ≤ b ∧ b < w1.heap.size)) 0 w1) :
    Calls Tryz.prog 63 #[nodeV n v, .func (.func F) first caps] w fun e w' => ∃ a' c', e = .returned (nodeV { n with args := n.args.map φ } (.slice a' n.args.length c')) ∧ OwnI w.heap.size w' (.slice a' n.args.length c') (n.args.map φ) ∧
      (∃ Pr : Nat → Prop, I Pr n.args.length w' ∧ (∀ b, Keep b → Pr b) ∧ (∀ b, (Value.slice a' n.args.length c').ownBlock = some b → Pr b)) ∧ Fr (fun b => ¬ Keep b) w w' := by
  obtain ⟨a, cap, rfl⟩ := h.form
  have h' := hid (h.fr (((Fr.refl NoB w).alloc (.cells (nodeCells n (.slice a n.args.length cap)) 44)).alloc (.cells #[.int .i64 0, .int .i64 0, .int .u64 0, .string ⟨#[]⟩, .slice none 0 0] 44)) (fun _ _ h => h.elim))
  have HI := hid hI
  have HS := hid hstart
  clear h hI hstart
  unfold nodeV
  have qf := neqNilFn1
  go_enter Tryz.func63, Tryz.ntmps63
  go_wp2_with (go_at_call 82; refine (clone_any M _ n.args _ h'.out hl).mono ?_; rintro e w1 ⟨a', c', rfl, ho, hf⟩; obtain ⟨c0, c1, c2, c3, c4, cf, cl⟩ := hf.five (fun h => h) (at_old (at_new w _) _); have HB := hid (hf.at (fun h => h) (at_old (at_new w _) _)); have HR := hid (hf.at (b := w.heap.size + 1) (fun h => h) (at_new' (by simp))); have HF := hid hf; have HO := hid ho; clear hf ho)
  have hF1 : Fr NoB w w1 := (((Fr.refl NoB w).alloc _).alloc _).step HF.out
  have hO1 : OwnI (w.heap.size + 2) w1 (.slice a' n.args.length c') n.args := OwnI.base HO.out (by simp only [World.size_alloc]; omega)
  have hSz : w.heap.size + 2 ≤ w1.heap.size := by have := HF.out.size; simp only [World.size_alloc] at this; omega
  have hRow : ∀ b, (Value.slice a' n.args.length c').ownBlock = some b → w.heap.size + 2 ≤ b ∧ b < w1.heap.size := fun b hb => World.ownsRow.lt hO1 b hb
  have hI0 := HS.out w1 hF1
  obtain ⟨Pr, hPr⟩ : ∃ Pr : Nat → Prop, Pr = fun b => Keep b ∨ (w.heap.size ≤ b ∧ b < w1.heap.size) := ⟨_, rfl⟩
  rw [← hPr] at hI0
  have hPrB : Pr w.heap.size := by rw [hPr]; exact .inr ⟨by omega, by omega⟩
  have hPrR : Pr (w.heap.size + 1) := by rw [hPr]; exact .inr ⟨by omega, by omega⟩
  have hPrS : ∀ b, (Value.slice a' n.args.length c').ownBlock = some b → Pr b := fun b hb => by rw [hPr]; exact .inr ⟨by have := (hRow b hb).1; omega, (hRow b hb).2⟩
  have hPrK : ∀ b, Keep b → Pr b := fun b hb => by rw [hPr]; exact .inl hb
  have hPrF : ∀ (w2 w3 : World), Fr (fun b => ¬ Keep b) w w2 → Fr (fun b => ¬ Pr b) w2 w3 → Fr (fun b => ¬ Keep b) w w3 := fun w2 w3 h1 h2 => h1.trans' h2 (fun k _ hn hk => hn (hPrK k hk))
  clear hPr
  have HPB := hid hPrB
  have HPS := hid hPrS
  have HH := hid (And.intro hF1 (And.intro hO1 (And.intro hSz (And.intro hRow (And.intro hI0 (And.intro hPrB (And.intro hPrR (And.intro hPrS (And.intro hPrK hPrF)))))))))
  clear hF1 hO1 hSz hRow hI0 hPrB hPrR hPrS hPrK hPrF
  go_loopw [16] (fun i wr => ∃ k : Nat, k ≤ n.args.length ∧ i = .int .i64 k ∧ OwnI (w.heap.size + 2) wr (.slice a' n.args.length c') ((n.args.take k).map φ ++ n.args.drop k) ∧ I Pr k wr ∧
      wr.heap[w.heap.size]? = some (.cells (nodeCells n (.slice a' n.args.length c')) 44 (0, 0)) ∧
      wr.heap[w.heap.size + 1]? = some (.cells #[.int .i64 0, .int .i64 0, .int .u64 0, .string ⟨#[]⟩, .slice none 0 0] 44 (0, 0)) ∧ Fr (fun b => ¬ Keep b) w wr) (fun i _ => n.args.length - (intOf i).toNat)
  case atStart =>
    obtain ⟨hF1, hO1, hSz, hRow, hI0, hPrB, hPrR, hPrS, hPrK, hPrF⟩ := HH.out
    have hs : Fr (fun k => k = w.heap.size) w1 (w1.setCell ⟨w.heap.size, 4, none⟩ (.slice a' n.args.length c')) := Fr.setCell (M := fun k => k = w.heap.size) (Fr.refl _ _) (p := ⟨w.heap.size, 4, none⟩) (fun _ => rfl) _
    refine ⟨0, Nat.zero_le _, rfl, ?_, HI.out.stable Pr 0 w1 _ hI0 (hs.mono (fun k _ hk => by rw [hk]; exact hPrB)), ?_, set_other HR.out (by simp) _, ?_⟩
    · exact OwnI.fr hO1 hs (fun k hk => by have := hRow k hk; omega)
    · exact set_at HB.out 4 _
    · exact (hF1.trans' hs (fun k hk h => by omega) : Fr NoB w _).mono (fun k _ h => h.elim)
  case round =>
    obtain ⟨k, hk, rfl, ho, hi, hb, hr, hfr⟩ := hrel
    obtain ⟨c0, c1, c2, c3, c4, cf, cl⟩ := five_of hb
    have HB := hid hb
    have HR2 := hid hr
    have HI2 := hid hi
    have HF2 := hid hfr
    clear hb hr hi hfr
    by_cases hlt : k < n.args.length
    · rcases OwnI.form' ho with ⟨h1, h2⟩ | ⟨g, cap2, h1, hg1, hg2, hcap⟩
      · have := congrArg List.length h2; rw [take_map_len] at this; simp only [List.length_nil] at this; omega
      · simp only [Value.slice.injEq] at h1
        obtain ⟨rfl, h1, rfl⟩ := h1
        clear h1
        have hck := OwnI.cell ho (i := k) (by rw [take_map_len]; exact hlt)
        rw [take_map_get _ _ _ hlt] at hck
        obtain ⟨x, HX⟩ : ∃ x, Hid (n.args.getD k 0 = x) := ⟨_, rfl⟩
        rw [HX.out] at hck
        have HO2 := hid ho
        clear ho
        go_wp2
        have hcall := HI.out.call Pr k
        rw [HX.out] at hcall
        have HC : Hid (∀ W, Fr NoB wr W → Calls Tryz.prog F (first.push (.int .i64 x) ++ caps) W fun e w' => e = .returned (.int .i64 (φ x)) ∧ I Pr (k + 1) w' ∧ Fr (fun b => ¬ Pr b) W w') := fun W hW => hcall W hlt (HI.out.stable Pr k wr W HI2.out (hW.mono (fun _ _ h => h.elim)))
        clear hcall
        have hen := HI.out.enter
        have hne1 : g ≠ w.heap.size := by omega
        have hne2 : w.heap.size ≠ g := by omega
        go_region_held3 (fun w' => w'.cell? ⟨w.heap.size, 4, none⟩ = some (.slice (some ⟨g, 0, none⟩) n.args.length c')) (go_keep)
          (first | (with_reducible refine (HC.out _ (Fr.refl _ _).drew).mono ?_); rintro e w2 ⟨rfl, hi2, hfr2⟩; obtain ⟨_, _, _, _, d4, _, _⟩ := five_of (hfr2.at (fun h => h HPB.out) HB.out); have ho4 := OwnI.fr (OwnI.drew HO2.out) hfr2 (fun b hb h => h (HPS.out b hb)); have e1 := OwnI.cell ho4 (i := k) (by rw [take_map_len]; exact hlt); have e2 := OwnI.frozen ho4 k; have HO4 := hid ho4; have HI4 := hid hi2; have HF4 := hid hfr2; clear hi2 hfr2 ho4)
        go_wp2
        go_roundw
        case rel =>
          obtain ⟨hF1, hO1, hSz, hRow, hI0, hPrB, hPrR, hPrS, hPrK, hPrF⟩ := HH.out
          have hPg : Pr g := hPrS g rfl
          have hs : Fr (fun b => b = g) w2 (w2.setCell ⟨g, k, none⟩ (.int .i64 (φ x))) := Fr.setCell (M := fun b => b = g) (Fr.refl _ _) (p := ⟨g, k, none⟩) (fun _ => rfl) _
          refine ⟨k + 1, by omega, by go_num, ?_, ?_, ?_, ?_, ?_⟩
          · have h9 := OwnI.stored HO4.out k (φ x)
            rw [← HX.out, take_map_set _ _ _ hlt] at h9
            rw [← HX.out]; exact h9
          · exact HI.out.stable Pr (k + 1) w2 _ HI4.out (hs.mono (fun b _ hb => by rw [hb]; exact hPg))
          · exact set_other (HF4.out.at (fun h => h hPrB) HB.out) (by simp; omega) _
          · exact set_other (HF4.out.at (fun h => h hPrR) HR2.out) (by simp; omega) _
          · have h8 := hPrF _ _ (HF2.out.drew) HF4.out
            exact h8.trans' hs (fun b hb h => by have h2 : b = g := h; have := (hRow g rfl).1; omega)
        case measure => simp [intOf]; omega
    · obtain ⟨r0, r1, r2, r3, r4, rf, rl⟩ := five_of HR2.out
      obtain rfl : k = n.args.length := by omega
      go_wp2
      refine bodyPost_ret (v := nodeV { n with args := n.args.map φ } (.slice a' n.args.length c')) (by simp [results, Tryz.results63, go_sem, r0, r1, r2, r3, r4, nodeV]) rfl ?_
      obtain ⟨hF1, hO1, hSz, hRow, hI0, hPrB, hPrR, hPrS, hPrK, hPrF⟩ := HH.out
      have hs : Fr (fun b => b = w.heap.size + 1) wr _ := Fr.setCell (M := fun b => b = w.heap.size + 1) (Fr.setCell (M := fun b => b = w.heap.size + 1) (Fr.setCell (M := fun b => b = w.heap.size + 1) (Fr.setCell (M := fun b => b = w.heap.size + 1) (Fr.setCell (M := fun b => b = w.heap.size + 1) (Fr.refl _ wr) (p := ⟨w.heap.size + 1, 0, none⟩) (fun _ => rfl) (.int .i64 n.op)) (p := ⟨w.heap.size + 1, 1, none⟩) (fun _ => rfl) (.int .i64 n.width)) (p := ⟨w.heap.size + 1, 2, none⟩) (fun _ => rfl) (.int .u64 n.val)) (p := ⟨w.heap.size + 1, 3, none⟩) (fun _ => rfl) (.string n.name)) (p := ⟨w.heap.size + 1, 4, none⟩) (fun _ => rfl) (.slice a' n.args.length c')
      refine ⟨a', c', rfl, ?_, ⟨Pr, ?_, hPrK, hPrS⟩, ?_⟩
      · refine OwnI.base (B := w.heap.size + 2) (OwnI.fr (l := n.args.map φ) ?_ hs (fun b hb => by have := (hRow b hb).1; omega)) (by omega)
        have e : (n.args.take n.args.length).map φ ++ n.args.drop n.args.length = n.args.map φ := by simp
        rw [← e]; exact ho
      · exact HI.out.stable Pr _ wr _ HI2.out (hs.mono (fun b _ hb => by rw [hb]; exact hPrR))
      · exact HF2.out.trans' hs (fun b hb h => by omega)

end Go.Proofs.YtndfncaoejbkiaaGreatDoor
end
section
/- The walks of the reference's Same, Copy, Find, Canon. -/
namespace Go.Proofs.YtndfncaoejbkiaaGreatDoor
open Go.RowKit
set_option maxRecDepth 100000

theorem refSame_any (M : Nat → Prop) (a b : Node) (v u : Value) (w : World) (h : RdI M w v a.args) (h' : RdI M w u b.args) (hl : a.args.length ≤ 1000000) (hm : b.args.length ≤ 1000000) :
    Calls Tryz.prog 45 #[nodeV a v, nodeV b u] w fun e w' => e = .returned (.bool (nodeCmp a b == 0)) ∧ Fr NoB w w' := by
  have HW := hid (show ∀ (W : World), Fr NoB w W → RdI M W v a.args ∧ RdI M W u b.args from fun W hf => ⟨h.fr hf (fun _ _ h => h.elim), h'.fr hf (fun _ _ h => h.elim)⟩)
  clear h h'
  have hF : Hid (∀ W, Fr NoB ((w.alloc (.cells (nodeCells a v) 44)).alloc (.cells (nodeCells b u) 44)) W → Fr NoB w W) := fun W hf => (((Fr.refl NoB w).alloc _).alloc _).step hf
  unfold nodeV
  go_enter Tryz.func45, Tryz.ntmps45
  go_wp2_with (go_at_call 55; refine (refCompare_any M a b v u _ (HW.out _ (by exact ((Fr.refl NoB w).alloc _).alloc _)).1 (HW.out _ (by exact ((Fr.refl NoB w).alloc _).alloc _)).2 hl hm).mono ?_; rintro e w1 ⟨rfl, hf⟩)
  go_ret
  exact ⟨rfl, hF.out _ hf⟩

end Go.Proofs.YtndfncaoejbkiaaGreatDoor
end
section
/- Rows of structs (k cells an element): how they read, the call's own ones. No program in sight. -/
namespace Go.Proofs.YtndfncaoejbkiaaGreatDoor
open Go.RowKit

section
variable {α : Type} (enc : α → List Value) {k : Nat}

def flatE : List α → List Value
  | [] => []
  | x :: l => enc x ++ flatE l
theorem flatE_append : ∀ l m : List α, flatE enc (l ++ m) = flatE enc l ++ flatE enc m
  | [], _ => rfl
  | x :: l, m => by simp only [List.cons_append, flatE, flatE_append l m, List.append_assoc]
theorem flatE_one : ∀ (l : List α), (∀ x ∈ l, ∀ u ∈ enc x, u.oneCell' = true) → ∀ u ∈ flatE enc l, u.oneCell' = true
  | [], _, u, hu => by simp [flatE] at hu
  | x :: l, h, u, hu => by
    simp only [flatE, List.mem_append] at hu
    rcases hu with hu | hu
    · exact h x (by simp) u hu
    · exact flatE_one l (fun y hy => h y (by simp [hy])) u hu
variable (hk : ∀ x, (enc x).length = k)
include hk
theorem flatE_length : ∀ l : List α, (flatE enc l).length = l.length * k
  | [] => by simp [flatE]
  | x :: l => by simp only [flatE, List.length_append, flatE_length l, hk, List.length_cons, Nat.add_mul, Nat.one_mul]; omega
theorem flatE_get : ∀ (l : List α) (i : Nat) (h : i < l.length) (j : Nat), j < k → (flatE enc l)[i * k + j]? = (enc l[i])[j]?
  | x :: l, 0, _, j, hj => by
    simp only [flatE, List.getElem_cons_zero, Nat.zero_mul, Nat.zero_add]
    rw [List.getElem?_append_left (by rw [hk]; exact hj)]
  | x :: l, i + 1, h, j, hj => by
    have ih := flatE_get l i (by simpa using h) j hj
    simp only [flatE, List.getElem_cons_succ]
    have e : (i + 1) * k + j = k + (i * k + j) := by rw [Nat.add_mul, Nat.one_mul]; omega
    rw [e, List.getElem?_append_right (by rw [hk]; omega), hk, Nat.add_sub_cancel_left]
    exact ih
theorem flatE_take : ∀ (l : List α) (i : Nat), i ≤ l.length → flatE enc (l.take i) = (flatE enc l).take (i * k)
  | l, 0, _ => by simp [flatE]
  | x :: l, i + 1, h => by
    have ih := flatE_take l i (by simpa using h)
    simp only [List.take_succ_cons, flatE, ih]
    have e : (i + 1) * k = k + i * k := by rw [Nat.add_mul, Nat.one_mul]; omega
    rw [e, List.take_append, hk, Nat.add_sub_cancel_left, List.take_of_length_le (l := enc x) (by rw [hk]; omega)]
theorem flatE_drop : ∀ (l : List α) (i : Nat), i ≤ l.length → flatE enc (l.drop i) = (flatE enc l).drop (i * k)
  | l, 0, _ => by simp
  | x :: l, i + 1, h => by
    have ih := flatE_drop l i (by simpa using h)
    simp only [List.drop_succ_cons, flatE, ih]
    have e : (i + 1) * k = k + i * k := by rw [Nat.add_mul, Nat.one_mul]; omega
    rw [e, List.drop_append, hk, Nat.add_sub_cancel_left, List.drop_of_length_le (l := enc x) (by rw [hk]; omega), List.nil_append]
end

/-- The cells cs lie from cell off of block b on. -/
def CellsAt (w : World) (b off : Nat) (cs : List Value) : Prop := ∀ j u, cs[j]? = some u → w.cell? ⟨b, off + j, none⟩ = some u
theorem CellsAt.fr {M : Nat → Prop} {w w' : World} {b off : Nat} {cs : List Value} (h : CellsAt w b off cs) (hf : Fr M w w') (hb : b < w.heap.size) (hm : ¬ M b) : CellsAt w' b off cs :=
  fun j u hj => (hf.cell (p := ⟨b, off + j, none⟩) hb hm).trans (h j u hj)
theorem CellsAt.take {w : World} {b off : Nat} {cs : List Value} (h : CellsAt w b off cs) (n : Nat) : CellsAt w b off (cs.take n) := fun j u hj => by
  rw [List.getElem?_take] at hj
  split at hj
  · exact h j u hj
  · cases hj
theorem CellsAt.drop {w : World} {b off : Nat} {cs : List Value} (h : CellsAt w b off cs) (n : Nat) : CellsAt w b (off + n) (cs.drop n) := fun j u hj => by
  rw [List.getElem?_drop] at hj
  rw [Nat.add_assoc]; exact h _ u hj
theorem CellsAt.news {w : World} {b off : Nat} {cs : List Value} (h : CellsAt w b off cs) : ∀ j u, cs[j]? = some u → w.cell? ((⟨b, off, none⟩ : Addr).add j) = some u := fun j u hj => by
  have e : (⟨b, off, none⟩ : Addr).add j = ⟨b, off + j, none⟩ := by unfold Addr.add; split <;> simp_all
  rw [e]; exact h j u hj
theorem CellsAt.of {w : World} {b off : Nat} {cs : List Value} (h : ∀ j u, cs[j]? = some u → w.cell? ((⟨b, off, none⟩ : Addr).add j) = some u) : CellsAt w b off cs := fun j u hj => by
  have e : (⟨b, off, none⟩ : Addr).add j = ⟨b, off + j, none⟩ := by unfold Addr.add; split <;> simp_all
  rw [← e]; exact h j u hj

/-- The slice v reads as the elements l; its block is not among M. -/
def RdE {α : Type} (enc : α → List Value) (M : Nat → Prop) (w : World) (v : Value) (l : List α) : Prop :=
  ((∃ a cap, v = .slice a 0 cap ∧ (a = none → cap = 0)) ∧ l = []) ∨ ∃ b off cap, v = .slice (some ⟨b, off, none⟩) l.length cap ∧ b < w.heap.size ∧ ¬ M b ∧ l.length ≤ cap ∧ CellsAt w b off (flatE enc l)
section
variable {α : Type} {enc : α → List Value} {N M : Nat → Prop} {w w' : World} {v : Value} {l : List α}
theorem RdE.fr (h : RdE enc N w v l) (hf : Fr M w w') (hm : ∀ k, k < w.heap.size → M k → N k) : RdE enc N w' v l := by
  rcases h with h | ⟨b, off, cap, h1, h2, h3, h4, h5⟩
  · exact .inl h
  · exact .inr ⟨b, off, cap, h1, Nat.lt_of_lt_of_le h2 hf.size, h3, h4, h5.fr hf h2 (fun h => h3 (hm b h2 h))⟩
theorem RdE.step (h : RdE enc N w v l) (hf : Fr NoB w w') : RdE enc N w' v l := h.fr hf (fun _ _ h => h.elim)
theorem RdE.drew (h : RdE enc N w v l) : RdE enc N w.drew v l := h
theorem RdE.weaken (h : RdE enc N w v l) (hm : ∀ k, k < w.heap.size → M k → N k) : RdE enc M w v l := by
  rcases h with h | ⟨b, off, cap, h1, h2, h3, h4⟩
  · exact .inl h
  · exact .inr ⟨b, off, cap, h1, h2, fun h => h3 (hm b h2 h), h4⟩
theorem RdE.more (h : RdE enc M w v l) : RdE enc (fun k => M k ∨ w.heap.size ≤ k) w v l := by
  rcases h with h | ⟨b, off, cap, h1, h2, h3, h4⟩
  · exact .inl h
  · exact .inr ⟨b, off, cap, h1, h2, fun h => h.elim h3 (fun h => by omega), h4⟩
theorem RdE.form (h : RdE enc M w v l) : ∃ a cap, v = .slice a l.length cap := by
  rcases h with ⟨⟨a, cap, h, _⟩, rfl⟩ | ⟨b, off, cap, h, _⟩
  · exact ⟨a, cap, h⟩
  · exact ⟨_, cap, h⟩
theorem RdE.form' (h : RdE enc M w v l) (hl : 0 < l.length) : ∃ b off cap, v = .slice (some ⟨b, off, none⟩) l.length cap ∧ b < w.heap.size ∧ ¬ M b ∧ l.length ≤ cap ∧ CellsAt w b off (flatE enc l) := by
  rcases h with ⟨_, rfl⟩ | h
  · simp at hl
  · exact h
theorem RdI.more {m : List Int} (hr : RdI M w v m) : RdI (fun k => M k ∨ w.heap.size ≤ k) w v m := by
  rcases hr with h | ⟨b, off, cap, h1, h2, h3, h4⟩
  · exact .inl h
  · exact .inr ⟨b, off, cap, h1, h2, fun h => h.elim h3 (fun h => by omega), h4⟩
end

/-- v is nil, or a row of blocks from B on that holds just the elements l; a cell's type is e. -/
def OwnE {α : Type} (enc : α → List Value) (k : Nat) (e : TypeId) (B : Nat) (w : World) (v : Value) (l : List α) : Prop := w.ownsRow B e k v l.length (flatE enc l)
section
variable {α : Type} {enc : α → List Value} {k : Nat} {e : TypeId} {B B' : Nat} {M : Nat → Prop} {w w' : World} {v : Value} {l : List α}
theorem OwnE.nil (enc : α → List Value) (k : Nat) (e : TypeId) (B : Nat) (w : World) : OwnE enc k e B w (.slice none 0 0) [] := World.ownsRow_nil w B e k
theorem OwnE.lt (h : OwnE enc k e B w v l) {j : Nat} (hj : v.ownBlock = some j) : B ≤ j ∧ j < w.heap.size := World.ownsRow.lt h j hj
theorem OwnE.fr (h : OwnE enc k e B w v l) (hf : Fr M w w') (hm : ∀ j, v.ownBlock = some j → ¬ M j) : OwnE enc k e B w' v l := by
  refine ⟨h.1, ?_⟩
  rcases h.2 with h2 | ⟨g, cap, cur, h1, hb, hg, r⟩
  · exact .inl h2
  · refine .inr ⟨g, cap, cur, h1, hb, ?_, r⟩
    rw [hf.block g (Array.getElem?_eq_some_iff.1 hg).1 (hm g (by rw [h1]; rfl))]; exact hg
theorem OwnE.step (h : OwnE enc k e B w v l) (hf : Fr NoB w w') : OwnE enc k e B w' v l := h.fr hf (fun _ _ h => h)
theorem OwnE.drew (h : OwnE enc k e B w v l) : OwnE enc k e B w.drew v l := h
theorem OwnE.base (h : OwnE enc k e B w v l) (hB : B' ≤ B) : OwnE enc k e B' w v l := by
  refine ⟨h.1, ?_⟩
  rcases h.2 with h2 | ⟨g, cap, cur, h1, hb, r⟩
  · exact .inl h2
  · exact .inr ⟨g, cap, cur, h1, Nat.le_trans hB hb, r⟩
theorem OwnE.form (h : OwnE enc k e B w v l) : ∃ a cap, v = .slice a l.length cap := by
  rcases h.2 with ⟨h, hl⟩ | ⟨g, cap, cur, h, _⟩
  · exact ⟨none, 0, by rw [hl]; exact h⟩
  · exact ⟨_, cap, h⟩
theorem OwnE.form' (h : OwnE enc k e B w v l) : (v = .slice none 0 0 ∧ l = []) ∨ ∃ g cap, v = .slice (some ⟨g, 0, none⟩) l.length cap ∧ B ≤ g ∧ g < w.heap.size ∧ l.length ≤ cap := by
  rcases h.2 with ⟨h, hl⟩ | ⟨g, cap, cur, h, hb, hg, hn, _⟩
  · exact .inl ⟨h, List.eq_nil_of_length_eq_zero hl⟩
  · exact .inr ⟨g, cap, h, hb, (Array.getElem?_eq_some_iff.1 hg).1, hn⟩
theorem OwnE.cells {g n cap : Nat} (h : OwnE enc k e B w (.slice (some ⟨g, 0, none⟩) n cap) l) : CellsAt w g 0 (flatE enc l) := by
  intro j u hj
  rw [Nat.zero_add]
  have hn : n = l.length := by
    rcases h.2 with ⟨h2, _⟩ | ⟨g', cap', cur, h1, _⟩
    · cases h2
    · cases h1; rfl
  subst hn
  have h2 := World.ownsRow.cellAt h (j := j) (by rw [← h.1]; exact (List.getElem?_eq_some_iff.1 hj).1)
  rw [h2]; exact hj
theorem OwnE.frozen {g n cap : Nat} (h : OwnE enc k e B w (.slice (some ⟨g, 0, none⟩) n cap) l) (i : Nat) : w.frozen? ⟨g, i, none⟩ = false := by
  rcases h.2 with ⟨h2, _⟩ | ⟨g', cap', cur, h1, _, hg, _⟩
  · cases h2
  · cases h1; exact frozen_of_row w g i cur _ hg
theorem OwnE.rd (h : OwnE enc k e B w v l) (hM : ∀ j, v.ownBlock = some j → ¬ M j) : RdE enc M w v l := by
  rcases h.form' with ⟨h1, h2⟩ | ⟨g, cap, h1, h2, h3, h4⟩
  · exact .inl ⟨⟨none, 0, by rw [h1], fun _ => rfl⟩, h2⟩
  · subst h1
    exact .inr ⟨g, 0, cap, rfl, h3, hM g rfl, h4, h.cells⟩

/-- append(s, t...): s is the call's own, t reads as m. -/
theorem ap_rows {P : Program} (w : World) {ops : Array Oper} {rest : List Oper} {o : Oper} {a : Act} {Q : Exit → Act → World → Prop} (hk : ∀ x : α, (enc x).length = k) (hk0 : 0 < k)
    {t : TypeId} (ht : P.underlying t = some (.slice e)) {z : Value} {bytes : Nat} (hinfo : (P.info? e).map (fun i => (i.zero, i.size, i.bytes)) = some (some z, k, bytes)) (hzs : z.cells.size = k)
    (hg : o.guard = none) (s x : Operand) (ho : o.op = .call { callee := .builtin .append, args := #[s, x], argTypes := #[t, t] }) (base : Nat) (v : Value) (l : List α) (hs : a.eval s = v) (hown : OwnE enc k e base w v l)
    (M : Nat → Prop) (u : Value) (m : List α) (hx : a.eval x = u) (hrd : RdE enc M w u m) (h1 : ∀ y ∈ m, ∀ u ∈ enc y, u.oneCell' = true) (hlen : (l.length + m.length) * bytes ≤ 140737488355328) (hmax : l.length + m.length ≤ 17592186044416) (hbase : base ≤ w.heap.size)
    (h : ∀ v' w', OwnE enc k e base w' v' (l ++ m) → w.grownBy w' v.ownBlock → (v'.ownBlock = v.ownBlock ∨ v'.ownBlock = some w.heap.size) → wpList P ops Q rest (a.put o.dst v') w') : wpList P ops Q (o :: rest) a w := by
  obtain ⟨i0, hi, hz0, hz1, hz2⟩ := info_parts hinfo
  rcases hrd with ⟨⟨ad, cap, rfl, hcap⟩, rfl⟩ | ⟨b, off, cap, rfl, _, _, _, hc⟩
  · cases ad with
    | some ad =>
      refine wpList_append_own_at (w := w) hg s x t ho base e i0 z k bytes ht hi hz0 hz1 hz2 hzs hk0 v _ _ hs hown ad 0 cap [] hx (by simp) (fun j u hu => by simp at hu) (by simp) (by unfold maxLen; simp at hmax; omega) (by simpa using hlen) hbase ?_
      intro v' w' h1 h2 _ h4
      refine h v' w' ?_ h2 h4
      simpa [OwnE] using h1
    | none =>
    obtain rfl := hcap rfl
    refine wpList_append_own_none (w := w) hg s x t ho base e i0 k ht hi v _ _ hs hown hx ?_
    exact h v w (by simpa using hown) ⟨rfl, rfl, rfl, Nat.le_refl _, fun _ _ _ => rfl⟩ (.inl rfl)
  · refine wpList_append_own_at (w := w) hg s x t ho base e i0 z k bytes ht hi hz0 hz1 hz2 hzs hk0 v _ _ hs hown ⟨b, off, none⟩ m.length cap (flatE enc m) hx (flatE_length enc hk m) hc.news (flatE_one enc m h1) (by unfold maxLen; omega) hlen hbase ?_
    intro v' w' h1 h2 _ h4
    refine h v' w' ?_ h2 h4
    unfold OwnE
    rw [List.length_append, flatE_append]; exact h1
end

end Go.Proofs.YtndfncaoejbkiaaGreatDoor
end
section
/- Rows of nodes (five cells each): how they read, the call's own ones, and the law of append for them. -/
namespace Go.Proofs.YtndfncaoejbkiaaGreatDoor
open Go.RowKit
set_option maxRecDepth 100000

/-- A node with the slice that holds its args: its five cells. -/
def nsCells (x : Node × Value) : List Value := [.int .i64 x.1.op, .int .i64 x.1.width, .int .u64 x.1.val, .string x.1.name, x.2]
theorem nsLen (x : Node × Value) : (nsCells x).length = 5 := rfl

/-- The slice v reads as the nodes l, their args too; none of their blocks is among M. -/
structure RdN (M : Nat → Prop) (w : World) (v : Value) (l : List (Node × Value)) : Prop where
  row : RdE nsCells M w v l
  args : ∀ x ∈ l, RdI M w x.2 x.1.args
theorem RdN.fr {N M : Nat → Prop} {w w' : World} {v : Value} {l : List (Node × Value)} (h : RdN N w v l) (hf : Fr M w w') (hm : ∀ k, k < w.heap.size → M k → N k) : RdN N w' v l := ⟨h.row.fr hf hm, fun x hx => (h.args x hx).fr hf hm⟩
theorem RdN.step {N : Nat → Prop} {w w' : World} {v : Value} {l : List (Node × Value)} (h : RdN N w v l) (hf : Fr NoB w w') : RdN N w' v l := h.fr hf (fun _ _ h => h.elim)
theorem RdN.weaken {N M : Nat → Prop} {w : World} {v : Value} {l : List (Node × Value)} (h : RdN N w v l) (hm : ∀ k, k < w.heap.size → M k → N k) : RdN M w v l := ⟨h.row.weaken hm, fun x hx => (h.args x hx).weaken hm⟩
theorem RdN.form {M : Nat → Prop} {w : World} {v : Value} {l : List (Node × Value)} (h : RdN M w v l) : ∃ a cap, v = .slice a l.length cap := h.row.form
theorem RdN.drew {M : Nat → Prop} {w : World} {v : Value} {l : List (Node × Value)} (h : RdN M w v l) : RdN M w.drew v l := ⟨h.row, h.args⟩
theorem RdN.more {M : Nat → Prop} {w : World} {v : Value} {l : List (Node × Value)} (h : RdN M w v l) : RdN (fun k => M k ∨ w.heap.size ≤ k) w v l := ⟨h.row.more, fun x hx => (h.args x hx).more⟩

/-- The five cells of element i. -/
theorem CellsAt.five {w : World} {b off : Nat} {l : List (Node × Value)} (h : CellsAt w b off (flatE nsCells l)) {i : Nat} (hi : i < l.length) :
    w.cell? ⟨b, off + i * 5, none⟩ = some (.int .i64 l[i].1.op) ∧ w.cell? ⟨b, off + i * 5 + 1, none⟩ = some (.int .i64 l[i].1.width) ∧ w.cell? ⟨b, off + i * 5 + 2, none⟩ = some (.int .u64 l[i].1.val) ∧ w.cell? ⟨b, off + i * 5 + 3, none⟩ = some (.string l[i].1.name) ∧ w.cell? ⟨b, off + i * 5 + 4, none⟩ = some l[i].2 := by
  have e := fun j (hj : j < 5) => flatE_get nsCells nsLen l i hi j hj
  refine ⟨?_, ?_, ?_, ?_, ?_⟩
  · exact h _ _ (e 0 (by decide))
  · have := h _ _ (e 1 (by decide)); rwa [← Nat.add_assoc] at this
  · have := h _ _ (e 2 (by decide)); rwa [← Nat.add_assoc] at this
  · have := h _ _ (e 3 (by decide)); rwa [← Nat.add_assoc] at this
  · have := h _ _ (e 4 (by decide)); rwa [← Nat.add_assoc] at this

abbrev OwnN (B : Nat) (w : World) (v : Value) (l : List (Node × Value)) : Prop := OwnE nsCells 5 44 B w v l
theorem infoNode : (Tryz.prog.info? 44).map (fun i => (i.zero, i.size, i.bytes)) = some (some (.agg #[.int .i64 0, .int .i64 0, .int .u64 0, .string ⟨#[]⟩, .slice none 0 0]), 5, 64) := by kernel_rfl
theorem OwnE.rdN {B : Nat} {M : Nat → Prop} {w : World} {v : Value} {l : List (Node × Value)} (h : OwnN B w v l) (hM : ∀ k, v.ownBlock = some k → ¬ M k) (ha : ∀ x ∈ l, RdI M w x.2 x.1.args) : RdN M w v l := ⟨h.rd hM, ha⟩

/-- append(s, t...) on nodes: s is the call's own, t reads as m. -/
theorem ap_nodes (w : World) {ops : Array Oper} {rest : List Oper} {o : Oper} {a : Act} {Q : Exit → Act → World → Prop} (hg : o.guard = none) (s x : Operand)
    (ho : o.op = .call { callee := .builtin .append, args := #[s, x], argTypes := #[22, 22] }) (base : Nat) (v : Value) (l : List (Node × Value)) (hs : a.eval s = v) (hown : OwnN base w v l)
    (M : Nat → Prop) (u : Value) (m : List (Node × Value)) (hx : a.eval x = u) (hrd : RdN M w u m) (hlen : l.length + m.length ≤ 2199023255552) (hbase : base ≤ w.heap.size)
    (h : ∀ v' w', OwnN base w' v' (l ++ m) → w.grownBy w' v.ownBlock → (v'.ownBlock = v.ownBlock ∨ v'.ownBlock = some w.heap.size) → wpList Tryz.prog ops Q rest (a.put o.dst v') w') : wpList Tryz.prog ops Q (o :: rest) a w :=
  ap_rows w nsLen (by decide) Tryz.underlying22 infoNode rfl hg s x ho base v l hs hown M u m hx hrd.row (fun y hy u hu => by
    obtain ⟨_, _, e⟩ := (hrd.args y hy).form
    simp only [nsCells, List.mem_cons, List.not_mem_nil, or_false] at hu
    rcases hu with rfl | rfl | rfl | rfl | rfl <;> first | rfl | (rw [e]; rfl)) (by omega) (by omega) hbase h

end Go.Proofs.YtndfncaoejbkiaaGreatDoor
end
section
/- append on rows of structs as one step of a region that draws its order. -/
namespace Go.Proofs.YtndfncaoejbkiaaGreatDoor
open Go.RowKit

/-- append(s, t...) inside a drawn region: s is the call's own, t reads as m. -/
theorem rows_step {α : Type} {enc : α → List Value} {k : Nat} {e : TypeId} {P : Program} (w : World) {ops : Array Oper} {o : Oper} {a : Act} {K : Act → World → Prop} {Q : Exit → Act → World → Prop} {E : Prop} (hk : ∀ x : α, (enc x).length = k) (hk0 : 0 < k)
    {t : TypeId} (ht : P.underlying t = some (.slice e)) {z : Value} {bytes : Nat} (hinfo : (P.info? e).map (fun i => (i.zero, i.size, i.bytes)) = some (some z, k, bytes)) (hzs : z.cells.size = k)
    (hg : o.guard = none) (s x : Operand) (ho : o.op = .call { callee := .builtin .append, args := #[s, x], argTypes := #[t, t] }) (base : Nat) (v : Value) (l : List α) (hs : a.eval s = v) (hown : OwnE enc k e base w v l)
    (M : Nat → Prop) (u : Value) (m : List α) (hx : a.eval x = u) (hrd : RdE enc M w u m) (h1 : ∀ y ∈ m, ∀ u ∈ enc y, u.oneCell' = true) (hlen : (l.length + m.length) * bytes ≤ 140737488355328) (hmax : l.length + m.length ≤ 17592186044416) (hbase : base ≤ w.heap.size)
    (h : ∀ v' w', OwnE enc k e base w' v' (l ++ m) → w.grownBy w' v.ownBlock → (v'.ownBlock = v.ownBlock ∨ v'.ownBlock = some w.heap.size) → K (a.put o.dst v') w') :
    if Region.wanted o (yielded ops a.tmps) = true then Oper.wp P o a w K Q else E := by
  have hw : Region.wanted o (yielded ops a.tmps) = true := by simp [Region.wanted, hg]
  rw [if_pos hw]
  obtain ⟨i0, hi, hz0, hz1, hz2⟩ := info_parts hinfo
  rcases hrd with ⟨⟨ad, cap, rfl, hcap⟩, rfl⟩ | ⟨b, off, cap, rfl, _, _, _, hc⟩
  · cases ad with
    | some ad =>
      obtain ⟨v', w', hr, h2, h3, h4, h5⟩ := run_append_own_at (P := P) w base t o.type e i0 z k bytes ht hi hz0 hz1 hz2 hzs hk0 v _ _ hown ad 0 cap [] (by simp) (fun j u hu => by simp at hu) (by simp) (by unfold maxLen; simp at hmax; omega) (by simpa using hlen) hbase
      unfold Oper.wp execOp
      simp only [ho, resolve, invoke, builtin, Sem.run_bind, Sem.run_pure, Result.andThen_ok, List.map_toArray, List.map_cons, List.map_nil, hs, hx, hr]
      exact h v' w' (by simpa [OwnE] using h2) h3 h5
    | none =>
    obtain rfl := hcap rfl
    have hrun := run_append_owned_none (P := P) (w := w) base t o.type e i0 k ht hi v _ _ hown
    unfold Oper.wp
    simp [execOp, ho, resolve, invoke, builtin, hs, hx, hrun, Result.andThen]
    exact h v w (by simpa using hown) ⟨rfl, rfl, rfl, Nat.le_refl _, fun _ _ _ => rfl⟩ (.inl rfl)
  · obtain ⟨v', w', hr, h2, h3, h4, h5⟩ := run_append_own_at (P := P) w base t o.type e i0 z k bytes ht hi hz0 hz1 hz2 hzs hk0 v _ _ hown ⟨b, off, none⟩ m.length cap (flatE enc m) (flatE_length enc hk m) hc.news (flatE_one enc m h1) (by unfold maxLen; omega) hlen hbase
    unfold Oper.wp execOp
    simp only [ho, resolve, invoke, builtin, Sem.run_bind, Sem.run_pure, Result.andThen_ok, List.map_toArray, List.map_cons, List.map_nil, hs, hx, hr]
    refine h v' w' ?_ h3 h5
    unfold OwnE
    rw [List.length_append, flatE_append]; exact h2

/-- .. on nodes; the new value written out. -/
theorem nodes_step (w : World) {ops : Array Oper} {o : Oper} {a : Act} {K : Act → World → Prop} {Q : Exit → Act → World → Prop} {E : Prop} (hg : o.guard = none) (s x : Operand)
    (ho : o.op = .call { callee := .builtin .append, args := #[s, x], argTypes := #[22, 22] }) (base : Nat) (v : Value) (l : List (Node × Value)) (hs : a.eval s = v) (hown : OwnN base w v l)
    (M : Nat → Prop) (u : Value) (m : List (Node × Value)) (hx : a.eval x = u) (hrd : RdN M w u m) (n : Nat) (hn : l.length + m.length = n) (hlen : n ≤ 2199023255552) (hbase : base ≤ w.heap.size)
    (h : ∀ p q w', OwnN base w' (.slice p n q) (l ++ m) → w.grownBy w' v.ownBlock → ((Value.slice p n q).ownBlock = v.ownBlock ∨ (Value.slice p n q).ownBlock = some w.heap.size) → K (a.put o.dst (.slice p n q)) w') :
    if Region.wanted o (yielded ops a.tmps) = true then Oper.wp Tryz.prog o a w K Q else E := by
  subst hn
  refine rows_step w nsLen (by decide) Tryz.underlying22 infoNode rfl hg s x ho base v l hs hown M u m hx hrd.row (fun y hy u hu => ?_) (by omega) (by omega) hbase (fun v' w' h1 h2 h3 => ?_)
  · obtain ⟨_, _, e⟩ := (hrd.args y hy).form
    simp only [nsCells, List.mem_cons, List.not_mem_nil, or_false] at hu
    rcases hu with rfl | rfl | rfl | rfl | rfl <;> first | rfl | (rw [e]; rfl)
  · obtain ⟨p, q, hv⟩ := h1.form
    rw [List.length_append] at hv
    subst hv
    exact h p q w' h1 h2 h3

/-- A literal row of one node, in a later world. -/
theorem rdN_lit {w W : World} {e : TypeId} {n : Node} {s : Value} (hf : Fr NoB (w.alloc (.cells (nodeCells n s) e)) W) (hs : RdI NoB W s n.args) : RdN NoB W (.slice (some ⟨w.heap.size, 0, none⟩) 1 1) [(n, s)] := by
  refine ⟨.inr ⟨w.heap.size, 0, 1, rfl, Nat.lt_of_lt_of_le (by simp) hf.size, fun h => h, Nat.le_refl _, ?_⟩, fun x hx => ?_⟩
  · have hb := hf.at (fun h => h) (at_new w (.cells (nodeCells n s) e))
    obtain ⟨c0, c1, c2, c3, c4, _, _⟩ := five_of hb
    intro j u hj
    rw [Nat.zero_add]
    match j, hj with
    | 0, hj => simp [flatE, nsCells] at hj; subst hj; exact c0
    | 1, hj => simp [flatE, nsCells] at hj; subst hj; exact c1
    | 2, hj => simp [flatE, nsCells] at hj; subst hj; exact c2
    | 3, hj => simp [flatE, nsCells] at hj; subst hj; exact c3
    | 4, hj => simp [flatE, nsCells] at hj; subst hj; exact c4
    | j + 5, hj => simp [flatE, nsCells] at hj
  · rw [List.mem_singleton] at hx
    subst hx
    exact hs

/-! The same on integers. -/
def iCells (x : Int) : List Value := [.int .i64 x]
theorem flatI : ∀ l : List Int, flatE iCells l = l.map (Value.int .i64)
  | [] => rfl
  | x :: l => by rw [flatE, flatI l]; rfl
theorem ownI_iff {B : Nat} {w : World} {v : Value} {l : List Int} : OwnE iCells 1 3 B w v l ↔ OwnI B w v l := by
  unfold OwnE OwnI; rw [flatI]
theorem RdI.rdE {M : Nat → Prop} {w : World} {v : Value} {l : List Int} (h : RdI M w v l) : RdE iCells M w v l := by
  rcases h with h | ⟨b, off, cap, h1, h2, h3, h4, h5⟩
  · exact .inl h
  · refine .inr ⟨b, off, cap, h1, h2, h3, h4, fun j u hj => ?_⟩
    rw [flatI, List.getElem?_map] at hj
    have hl : j < l.length := by
      rcases Nat.lt_or_ge j l.length with h | h
      · exact h
      · rw [List.getElem?_eq_none h] at hj; cases hj
    have := h5 j hl
    rw [this, List.getD_eq_getElem?_getD]
    rw [List.getElem?_eq_getElem hl] at hj ⊢
    exact hj
theorem RdE.rdI {M : Nat → Prop} {w : World} {v : Value} {l : List Int} (h : RdE iCells M w v l) : RdI M w v l := by
  rcases h with h | ⟨b, off, cap, h1, h2, h3, h4, h5⟩
  · exact .inl h
  · refine .inr ⟨b, off, cap, h1, h2, h3, h4, fun j hl => ?_⟩
    refine h5 j _ ?_
    rw [flatI, List.getElem?_map, List.getElem?_eq_getElem hl, List.getD_eq_getElem?_getD, List.getElem?_eq_getElem hl]
    rfl
/-- append(s, t...) on integers inside a drawn region; the new value written out. -/
theorem ints_step (w : World) {ops : Array Oper} {o : Oper} {a : Act} {K : Act → World → Prop} {Q : Exit → Act → World → Prop} {E : Prop} (hg : o.guard = none) (s x : Operand)
    (ho : o.op = .call { callee := .builtin .append, args := #[s, x], argTypes := #[24, 24] }) (base : Nat) (v : Value) (l : List Int) (hs : a.eval s = v) (hown : OwnI base w v l)
    (M : Nat → Prop) (u : Value) (m : List Int) (hx : a.eval x = u) (hrd : RdI M w u m) (n : Nat) (hn : l.length + m.length = n) (hlen : n ≤ 17592186044416) (hbase : base ≤ w.heap.size)
    (h : ∀ p q w', OwnI base w' (.slice p n q) (l ++ m) → w.grownBy w' v.ownBlock → ((Value.slice p n q).ownBlock = v.ownBlock ∨ (Value.slice p n q).ownBlock = some w.heap.size) → K (a.put o.dst (.slice p n q)) w') :
    if Region.wanted o (yielded ops a.tmps) = true then Oper.wp Tryz.prog o a w K Q else E := by
  subst hn
  refine rows_step (enc := iCells) (k := 1) w (fun _ => rfl) (by decide) Tryz.underlying24 infoInt rfl hg s x ho base v l hs (ownI_iff.2 hown) M u m hx hrd.rdE (fun y hy u hu => ?_) (by omega) (by omega) hbase (fun v' w' h1 h2 h3 => ?_)
  · simp only [iCells, List.mem_singleton] at hu
    rw [hu]; rfl
  · obtain ⟨p, q, hv⟩ := h1.form
    rw [List.length_append] at hv
    subst hv
    exact h p q w' (ownI_iff.1 h1) h2 h3

end Go.Proofs.YtndfncaoejbkiaaGreatDoor
end
section
/- The walks of invariant: inside, formed, ordered; the reference's in, label. How a dump lies. -/
namespace Go.Proofs.YtndfncaoejbkiaaGreatDoor
open Go.RowKit
set_option maxRecDepth 100000

/-- A link: two ids and a reason. -/
structure Lnk where
  a : Int
  b : Int
  why : Int
def lkCells (x : Lnk) : List Value := [.int .i64 x.a, .int .i64 x.b, .int .i64 x.why]
theorem lkLen (x : Lnk) : (lkCells x).length = 3 := rfl
/-- A dump: its nodes (with the slices that hold their args), links, roots. -/
structure Dmp where
  nodes : List (Node × Value)
  links : List Lnk
  roots : List Int
structure RdD (M : Nat → Prop) (w : World) (sN sL sR : Value) (d : Dmp) : Prop where
  nodes : RdN M w sN d.nodes
  links : RdE lkCells M w sL d.links
  roots : RdI M w sR d.roots
theorem RdD.fr {N M : Nat → Prop} {w w' : World} {sN sL sR : Value} {d : Dmp} (h : RdD N w sN sL sR d) (hf : Fr M w w') (hm : ∀ k, k < w.heap.size → M k → N k) : RdD N w' sN sL sR d := ⟨h.nodes.fr hf hm, h.links.fr hf hm, h.roots.fr hf hm⟩
theorem RdD.step {N : Nat → Prop} {w w' : World} {sN sL sR : Value} {d : Dmp} (h : RdD N w sN sL sR d) (hf : Fr NoB w w') : RdD N w' sN sL sR d := h.fr hf (fun _ _ h => h.elim)
abbrev dumpV (sN sL sR : Value) : Value := .agg #[sN, sL, sR]
abbrev dumpCells (sN sL sR : Value) : Array Value := #[sN, sL, sR]

def formedS (n : Node) : Bool := decide (0 ≤ ariS n.op) && !patS n.op && decide ((n.args.length : Int) = ariS n.op) && (if n.op = 1 then (n.val == 0) && nameS n.name else n.name.toList.isEmpty && (n.val == 0 || n.op == 2 || n.op == 21))

set_option maxHeartbeats 2000000 in
theorem formed_any (M : Nat → Prop) (n : Node) (v : Value) (w : World) (h : RdI M w v n.args) : Calls Tryz.prog 101 #[nodeV n v] w fun e w' => e = .returned (.bool (formedS n)) ∧ Fr NoB w w' := by
  obtain ⟨a, cap, rfl⟩ := h.form
  clear h
  unfold nodeV
  go_enter Tryz.func101, Tryz.ntmps101
  go_wp2_with (first
    | (go_at_call 95; refine (arity_any _ _).mono ?_; rintro e w9 ⟨rfl, h9⟩; have h9 := h9.symm; subst h9)
    | (go_at_call 96; refine (pat_any _ _).mono ?_; rintro e w9 ⟨rfl, h9⟩; have h9 := h9.symm; subst h9)
    | (go_at_call 97; refine (name_any _ _).mono ?_; rintro e w9 ⟨rfl, h9⟩; have h9 := h9.symm; subst h9))
  all_goals (go_ret; refine ⟨ret_bool ?_, (Fr.refl NoB w).alloc _⟩)
  all_goals (unfold formedS; first | (simp_all; done) | (simp_all; omega))

theorem inside_id_any (sN sL sR : Value) (a : Option Addr) (n c : Nat) (hN : sN = .slice a n c) (id : Int) (w : World) : Calls Tryz.prog 91 #[dumpV sN sL sR, .int .i64 id] w fun e w' => e = .returned (.bool (decide (0 ≤ id ∧ id < n))) ∧ Fr NoB w w' := by
  subst hN
  unfold dumpV
  go_enter Tryz.func91, Tryz.ntmps91
  go_wp2
  all_goals (go_ret; refine ⟨ret_bool ?_, by first | exact (Fr.refl NoB w).alloc _ | exact Fr.refl _ _⟩)
  all_goals first | (simp; omega) | (simp_all; done) | (simp_all; omega)
def labelS (a b : Node) : Bool := (a.op == b.op) && (a.width == b.width) && (a.val == b.val) && (a.name.toList == b.name.toList)
def ordS (l : List Int) (i : Int) : Bool := l.all (fun a => decide (0 ≤ a ∧ a < i))
theorem ordered_any (M : Nat → Prop) (n : Node) (v : Value) (i : Int) (w : World) (h : RdI M w v n.args) (hl : n.args.length ≤ 1000000) : Calls Tryz.prog 89 #[nodeV n v, .int .i64 i] w fun e w' => e = .returned (.bool (ordS n.args i)) ∧ Fr NoB w w' := by
  have HH := hid (h.fr ((Fr.refl NoB w).alloc (.cells (nodeCells n v) 44)) (fun _ _ h => h.elim))
  obtain ⟨a, cap, rfl⟩ := h.form
  clear h
  unfold nodeV
  go_enter Tryz.func89, Tryz.ntmps89
  go_wp2
  go_loop [10] (fun x => ∃ k : Nat, k ≤ n.args.length ∧ x = .int .i64 k ∧ ordS (n.args.take k) i = true) (fun x => n.args.length - (intOf x).toNat)
  case atStart => exact ⟨0, Nat.zero_le _, rfl, rfl⟩
  case round =>
    obtain ⟨k, hk, rfl, hall⟩ := hrel
    have HALL := hid hall
    clear hall
    by_cases hlt : k < n.args.length
    · rcases HH.out with ⟨_, h2⟩ | ⟨b, off, cap', h1, hb1, _, hb3, hc⟩
      · rw [h2] at hlt; simp at hlt
      simp only [Value.slice.injEq] at h1
      obtain ⟨rfl, h8, rfl⟩ := h1
      clear h8
      obtain ⟨y, hy, hcell⟩ := hc.get hlt
      have hy2 := hy.out
      rw [List.getD_eq_getElem?_getD, List.getElem?_eq_getElem hlt] at hy2
      simp only [Option.getD_some] at hy2
      have HY := hid hy2
      clear hc hy hy2
      by_cases hy0 : y < 0 ∨ i ≤ y
      · go_wp2
        all_goals first
          | (go_ret; refine ⟨ret_bool (Eq.symm ?_), (Fr.refl NoB w).alloc _⟩; unfold ordS; rw [List.all_eq_false]; exact ⟨n.args[k], List.getElem_mem _, by rw [HY.out]; simp; omega⟩)
          | (exfalso; omega)
      · go_wp2
        all_goals first
          | (exfalso; omega)
          | skip
        go_round
        case rel => exact ⟨k + 1, by omega, by go_num, by
          have := HALL.out
          unfold ordS at this ⊢
          rw [List.take_add_one, List.all_append, this, List.getElem?_eq_getElem hlt]
          simp [HY.out]; omega⟩
        case measure => simp [intOf]; omega
    · obtain rfl : k = n.args.length := by omega
      go_wp2
      go_ret
      have := HALL.out
      rw [List.take_length] at this
      exact ⟨ret_bool this.symm, (Fr.refl NoB w).alloc _⟩

end Go.Proofs.YtndfncaoejbkiaaGreatDoor
end
section
/- Plain laws of snapshot: numbers, nodes and dumps as bytes, and back. -/
namespace Go.Proofs.YtndfncaoejbkiaaGreatDoor
open Go.RowKit
set_option maxRecDepth 100000

def numE (x : Nat) : List Nat := if h : 128 ≤ x then (x % 128 + 128) :: numE (x / 128) else [x]
termination_by x
decreasing_by omega
theorem numE_lo {x : Nat} (h : x < 128) : numE x = [x] := by rw [numE, dif_neg (by omega)]
theorem numE_hi {x : Nat} (h : 128 ≤ x) : numE x = (x % 128 + 128) :: numE (x / 128) := by rw [numE, dif_pos h]
theorem numE_pos (x : Nat) : 0 < (numE x).length := by
  rw [numE]
  split <;> simp
theorem numE_byte (x : Nat) : ∀ c ∈ numE x, c < 256 := by
  induction x using Nat.strongRecOn with
  | ind x ih =>
    intro c hc
    by_cases h : 128 ≤ x
    · rw [numE_hi h] at hc
      rcases List.mem_cons.1 hc with rfl | hc
      · omega
      · exact ih _ (by omega) c hc
    · rw [numE_lo (by omega)] at hc
      have : c = x := by simpa using hc
      omega
def sgnE (n : Int) : List Nat := if 0 ≤ n then numE (2 * n.toNat) else numE (2 * (-(n + 1)).toNat + 1)
def sgnD (x : Nat) : Int := if x % 2 = 0 then ((x / 2 : Nat) : Int) else -((x / 2 : Nat) : Int) - 1
/-- One number off the front: i bytes of it are read, acc is their worth. -/
def rdGo (i acc : Nat) : List Nat → Option (Nat × List Nat)
  | [] => none
  | c :: t => if (i = 9 ∧ 1 < c) ∨ (0 < i ∧ c = 0) then none else if c < 128 then some (acc + c % 128 * 2 ^ (7 * i), t) else rdGo (i + 1) (acc + c % 128 * 2 ^ (7 * i)) t
theorem rdGo_numE (t : List Nat) : ∀ (x i acc : Nat), i ≤ 9 → x < 2 ^ (64 - 7 * i) → (i = 0 ∨ 0 < x) → rdGo i acc (numE x ++ t) = some (acc + x * 2 ^ (7 * i), t) := by
  intro x
  induction x using Nat.strongRecOn with
  | ind x ih =>
    intro i acc hi hx h0
    by_cases h : 128 ≤ x
    · have hi8 : i ≤ 8 := by
        by_cases e : i = 9
        · subst e; simp at hx; omega
        · omega
      rw [numE_hi h, List.cons_append, rdGo, if_neg (by omega), if_neg (by omega)]
      have e1 : (x % 128 + 128) % 128 = x % 128 := by omega
      have e2 : 2 ^ (64 - 7 * i) = 2 ^ (64 - 7 * (i + 1)) * 128 := by rw [show 64 - 7 * i = (64 - 7 * (i + 1)) + 7 by omega, Nat.pow_add]
      rw [e1, ih (x / 128) (by omega) (i + 1) _ (by omega) (by rw [e2] at hx; exact (Nat.div_lt_iff_lt_mul (by decide)).2 hx) (.inr (by omega))]
      congr 1
      congr 1
      rw [show 7 * (i + 1) = 7 * i + 7 by omega, Nat.pow_add]
      have : x = x / 128 * 128 + x % 128 := by omega
      generalize 2 ^ (7 * i) = P
      have e3 : x / 128 * (P * 2 ^ 7) = (x / 128 * 128) * P := by rw [Nat.mul_comm P, ← Nat.mul_assoc]
      rw [e3, Nat.add_assoc, ← Nat.add_mul]
      congr 2
      omega
    · rw [numE_lo (by omega), List.singleton_append, rdGo]
      have hx9 : i = 9 → x < 2 := fun e => by subst e; simpa using hx
      rw [if_neg (by omega), if_pos (by omega), Nat.mod_eq_of_lt (by omega)]
def rdN (l : List Nat) : Option (Nat × List Nat) := rdGo 0 0 l
theorem rdN_back {x : Nat} (h : x < 18446744073709551616) (t : List Nat) : rdN (numE x ++ t) = some (x, t) := by
  unfold rdN
  rw [rdGo_numE t x 0 0 (by omega) (by simpa using h) (.inl rfl)]
  simp
def rdS (l : List Nat) : Option (Int × List Nat) := (rdN l).map (fun p => (sgnD p.1, p.2))
theorem rdS_back {n : Int} (h0 : -9223372036854775808 ≤ n) (h1 : n < 9223372036854775808) (t : List Nat) : rdS (sgnE n ++ t) = some (n, t) := by
  unfold rdS sgnE
  by_cases h : 0 ≤ n
  · rw [if_pos h, rdN_back (by omega)]
    simp only [Option.map_some, sgnD]
    rw [if_pos (by omega)]
    congr 2
    omega
  · rw [if_neg h, rdN_back (by omega)]
    simp only [Option.map_some, sgnD]
    rw [if_neg (by omega)]
    congr 2
    omega
/-- A count: at most the bytes that are left. -/
def rdC (l : List Nat) : Option (Nat × List Nat) := (rdN l).bind (fun p => if p.1 ≤ p.2.length then some p else none)
theorem rdC_back {x : Nat} (h : x < 18446744073709551616) (t : List Nat) (ht : x ≤ t.length) : rdC (numE x ++ t) = some (x, t) := by
  unfold rdC
  rw [rdN_back h]
  simp [ht]
def rdMany {α : Type} (f : List Nat → Option (α × List Nat)) : Nat → List Nat → Option (List α × List Nat)
  | 0, l => some ([], l)
  | k + 1, l => (f l).bind fun p => (rdMany f k p.2).map fun q => (p.1 :: q.1, q.2)
theorem rdMany_back {α : Type} {f : List Nat → Option (α × List Nat)} {e : α → List Nat} : ∀ (l : List α) (t : List Nat), (∀ x ∈ l, ∀ t, f (e x ++ t) = some (x, t)) → rdMany f l.length (l.flatMap e ++ t) = some (l, t)
  | [], t, _ => by simp [rdMany]
  | x :: l, t, h => by
    rw [List.length_cons, rdMany, List.flatMap_cons, List.append_assoc, h x (List.mem_cons_self ..)]
    simp only [Option.bind_some]
    rw [rdMany_back l t (fun y hy => h y (List.mem_cons_of_mem _ hy))]
    rfl
theorem flatMap_len {α : Type} {e : α → List Nat} : ∀ (l : List α), (∀ x ∈ l, 0 < (e x).length) → l.length ≤ (l.flatMap e).length
  | [], _ => by simp
  | x :: l, h => by
    have h1 := h x (List.mem_cons_self ..)
    have h2 := flatMap_len l (fun y hy => h y (List.mem_cons_of_mem _ hy))
    rw [List.flatMap_cons, List.length_append, List.length_cons]
    omega
theorem sgnE_pos (n : Int) : 0 < (sgnE n).length := by unfold sgnE; split <;> exact numE_pos _
/-- The checksum: the low and the high half. -/
def sumGo : List Nat → Nat × Nat → Nat × Nat
  | [], p => p
  | c :: t, (a, b) => sumGo t ((a + c) % 65521, (b + (a + c) % 65521) % 65521)
def sumS (l : List Nat) : Nat := (sumGo l (1, 0)).2 * 65536 + (sumGo l (1, 0)).1
theorem sumGo_low : ∀ (l : List Nat) (a b : Nat), (sumGo l (a, b)).1 % 65521 = (a + l.sum) % 65521
  | [], a, b => by simp [sumGo]
  | c :: t, a, b => by
    rw [sumGo, sumGo_low t]
    simp only [List.sum_cons]
    omega
theorem sumGo_lt : ∀ (l : List Nat) (a b : Nat), a < 65521 → b < 65521 → (sumGo l (a, b)).1 < 65521 ∧ (sumGo l (a, b)).2 < 65521
  | [], a, b, h1, h2 => ⟨h1, h2⟩
  | c :: t, a, b, _, _ => by
    rw [sumGo]
    exact sumGo_lt t _ _ (Nat.mod_lt _ (by decide)) (Nat.mod_lt _ (by decide))
/-- One byte changed: another checksum. -/
theorem sumS_set {l : List Nat} {i c : Nat} (hi : i < l.length) (hl : l[i] < 256) (hc : c < 256) (hne : l[i] ≠ c) : sumS (l.set i c) ≠ sumS l := by
  intro h
  have h1 := sumGo_lt l 1 0 (by decide) (by decide)
  have h2 := sumGo_lt (l.set i c) 1 0 (by decide) (by decide)
  have h3 := sumGo_low l 1 0
  have h4 := sumGo_low (l.set i c) 1 0
  unfold sumS at h
  have h5 : (l.set i c).sum + l[i] = l.sum + c := by
    clear h h1 h2 h3 h4 hne hl hc
    induction l generalizing i with
    | nil => simp at hi
    | cons a t ih =>
      cases i with
      | zero => simp; omega
      | succ i =>
        have := ih (i := i) (by simpa using hi)
        simp only [List.set_cons_succ, List.sum_cons, List.getElem_cons_succ] at this ⊢
        omega
  omega
end Go.Proofs.YtndfncaoejbkiaaGreatDoor
end
section
/- Plain laws of snapshot: dumps as bytes, and back; one byte changed. -/
namespace Go.Proofs.YtndfncaoejbkiaaGreatDoor
open Go.RowKit
set_option maxRecDepth 100000

/-- A dump as the law sees it. -/
structure Dm where
  nodes : List Node
  links : List Lnk
  roots : List Int
def bytesN (s : ByteArray) : List Nat := s.data.toList.map (·.toNat)
theorem bytesN_inj {a b : ByteArray} (h : bytesN a = bytesN b) : a = b := by
  unfold bytesN at h
  have := (List.map_inj_right (fun (x y : UInt8) (e : x.toNat = y.toNat) => UInt8.toNat_inj.1 e)).1 h
  cases a; cases b
  simp only [ByteArray.mk.injEq]
  exact Array.toList_inj.1 this
def nodeE (n : Node) : List Nat := sgnE n.op ++ (sgnE n.width ++ (numE n.val.toNat ++ (numE n.name.size ++ (bytesN n.name ++ (numE n.args.length ++ n.args.flatMap sgnE)))))
def lnkE (x : Lnk) : List Nat := sgnE x.a ++ (sgnE x.b ++ sgnE x.why)
def bodyE (d : Dm) : List Nat := numE d.nodes.length ++ (d.nodes.flatMap nodeE ++ (numE d.links.length ++ (d.links.flatMap lnkE ++ (numE d.roots.length ++ d.roots.flatMap sgnE))))
def headE (d : Dm) : List Nat := [69, 71, 1] ++ bodyE d
def bigE (x : Nat) : List Nat := [x / 16777216 % 256, x / 65536 % 256, x / 256 % 256, x % 256]
def encE (d : Dm) : List Nat := headE d ++ bigE (sumS (headE d))
theorem bytesN_len (s : ByteArray) : (bytesN s).length = s.size := by simp [bytesN]
theorem bigE_inj {x y : Nat} (hx : x < 4294967296) (hy : y < 4294967296) (h : bigE x = bigE y) : x = y := by
  unfold bigE at h
  simp only [List.cons.injEq, and_true] at h
  omega
theorem sumS_lt (l : List Nat) : sumS l < 4294967296 := by
  have := sumGo_lt l 1 0 (by decide) (by decide)
  unfold sumS
  omega
/-- Reading. -/
def rdNode (l : List Nat) : Option (Node × List Nat) :=
  (rdS l).bind fun p0 => (rdS p0.2).bind fun p1 => (rdN p1.2).bind fun p2 => (rdC p2.2).bind fun p3 => (rdC (p3.2.drop p3.1)).bind fun p4 => (rdMany rdS p4.1 p4.2).map fun p5 =>
    ({ op := p0.1, width := p1.1, val := p2.1, name := ⟨((p3.2.take p3.1).map UInt8.ofNat).toArray⟩, args := p5.1 }, p5.2)
def rdLnk (l : List Nat) : Option (Lnk × List Nat) := (rdS l).bind fun p0 => (rdS p0.2).bind fun p1 => (rdS p1.2).map fun p2 => (⟨p0.1, p1.1, p2.1⟩, p2.2)
def rdDm (l : List Nat) : Option Dm :=
  (rdC l).bind fun c0 => (rdMany rdNode c0.1 c0.2).bind fun p0 => (rdC p0.2).bind fun c1 => (rdMany rdLnk c1.1 c1.2).bind fun p1 => (rdC p1.2).bind fun c2 => (rdMany rdS c2.1 c2.2).bind fun p2 =>
    if p2.2 = [] then some ⟨p0.1, p1.1, p2.1⟩ else none
structure NodeFit (n : Node) : Prop where
  op : -9223372036854775808 ≤ n.op ∧ n.op < 9223372036854775808
  width : -9223372036854775808 ≤ n.width ∧ n.width < 9223372036854775808
  val : 0 ≤ n.val ∧ n.val < 18446744073709551616
  name : n.name.size < 18446744073709551616
  len : n.args.length < 18446744073709551616
  args : ∀ x ∈ n.args, -9223372036854775808 ≤ x ∧ x < 9223372036854775808
structure DmFit (d : Dm) : Prop where
  nodes : ∀ n ∈ d.nodes, NodeFit n
  links : ∀ x ∈ d.links, (-9223372036854775808 ≤ x.a ∧ x.a < 9223372036854775808) ∧ (-9223372036854775808 ≤ x.b ∧ x.b < 9223372036854775808) ∧ (-9223372036854775808 ≤ x.why ∧ x.why < 9223372036854775808)
  roots : ∀ x ∈ d.roots, -9223372036854775808 ≤ x ∧ x < 9223372036854775808
  nn : d.nodes.length < 18446744073709551616
  nl : d.links.length < 18446744073709551616
  nr : d.roots.length < 18446744073709551616
theorem rdNode_back {n : Node} (h : NodeFit n) (t : List Nat) : rdNode (nodeE n ++ t) = some (n, t) := by
  unfold rdNode nodeE
  simp only [List.append_assoc]
  rw [rdS_back h.op.1 h.op.2]
  simp only [Option.bind_some]
  rw [rdS_back h.width.1 h.width.2]
  simp only [Option.bind_some]
  rw [rdN_back (by have := h.val; omega)]
  simp only [Option.bind_some]
  rw [rdC_back h.name _ (by rw [List.length_append, bytesN_len]; omega)]
  simp only [Option.bind_some]
  rw [List.drop_left' (bytesN_len _), List.take_left' (bytesN_len _)]
  rw [rdC_back h.len _ (by rw [List.length_append]; have := flatMap_len n.args (e := sgnE) (fun x _ => sgnE_pos x); omega)]
  simp only [Option.bind_some]
  rw [rdMany_back n.args t (fun x hx t => rdS_back (h.args x hx).1 (h.args x hx).2 t)]
  simp only [Option.map_some]
  have e1 : ((n.val.toNat : Nat) : Int) = n.val := Int.toNat_of_nonneg h.val.1
  have e2 : (⟨((bytesN n.name).map UInt8.ofNat).toArray⟩ : ByteArray) = n.name := by
    unfold bytesN
    rw [List.map_map]
    have : (UInt8.ofNat ∘ fun x : UInt8 => x.toNat) = id := by funext x; simp
    rw [this, List.map_id]
  rw [e1, e2]
theorem nodeE_pos (n : Node) : 0 < (nodeE n).length := by
  unfold nodeE
  rw [List.length_append]
  have := sgnE_pos n.op
  omega
theorem lnkE_pos (x : Lnk) : 0 < (lnkE x).length := by
  unfold lnkE
  rw [List.length_append]
  have := sgnE_pos x.a
  omega
theorem rdDm_back {d : Dm} (h : DmFit d) : rdDm (bodyE d) = some d := by
  unfold rdDm bodyE
  rw [rdC_back h.nn _ (by rw [List.length_append]; have := flatMap_len d.nodes (e := nodeE) (fun x _ => nodeE_pos x); omega)]
  simp only [Option.bind_some]
  rw [rdMany_back d.nodes _ (fun x hx t => rdNode_back (h.nodes x hx) t)]
  simp only [Option.bind_some]
  rw [rdC_back h.nl _ (by rw [List.length_append]; have := flatMap_len d.links (e := lnkE) (fun x _ => lnkE_pos x); omega)]
  simp only [Option.bind_some]
  rw [rdMany_back d.links _ (fun x hx t => by
    have hh := h.links x hx
    unfold rdLnk lnkE
    simp only [List.append_assoc]
    rw [rdS_back hh.1.1 hh.1.2]
    simp only [Option.bind_some]
    rw [rdS_back hh.2.1.1 hh.2.1.2]
    simp only [Option.bind_some]
    rw [rdS_back hh.2.2.1 hh.2.2.2]
    rfl)]
  simp only [Option.bind_some]
  have hr := flatMap_len d.roots (e := sgnE) (fun x _ => sgnE_pos x)
  rw [rdC_back h.nr _ hr]
  simp only [Option.bind_some]
  have := rdMany_back d.roots [] (f := rdS) (e := sgnE) (fun x hx t => rdS_back (h.roots x hx).1 (h.roots x hx).2 t)
  rw [List.append_nil] at this
  rw [this]
  rfl
/-- Decode: none and the kind of fault (1 form, 2 sum), or the dump. -/
def decE (l : List Nat) : Except Nat Dm :=
  if l.length < 7 ∨ l.take 3 ≠ [69, 71, 1] then .error 1
  else if l.drop (l.length - 4) ≠ bigE (sumS (l.take (l.length - 4))) then .error 2
  else match rdDm ((l.take (l.length - 4)).drop 3) with
    | none => .error 1
    | some d => .ok d
theorem encE_len (d : Dm) : (encE d).length = (headE d).length + 4 := by unfold encE bigE; simp
theorem headE_len (d : Dm) : 3 < (headE d).length := by
  unfold headE bodyE
  have := numE_pos d.nodes.length
  simp only [List.length_append, List.length_cons, List.length_nil]
  omega
theorem decE_back {d : Dm} (h : DmFit d) : decE (encE d) = .ok d := by
  have hl := encE_len d
  have h3 := headE_len d
  unfold decE
  have e1 : (encE d).take ((encE d).length - 4) = headE d := by
    rw [hl, show (headE d).length + 4 - 4 = (headE d).length by omega]
    unfold encE
    exact List.take_left' rfl
  have e2 : (encE d).drop ((encE d).length - 4) = bigE (sumS (headE d)) := by
    rw [hl, show (headE d).length + 4 - 4 = (headE d).length by omega]
    unfold encE
    exact List.drop_left' rfl
  have e3 : (encE d).take 3 = [69, 71, 1] := by
    unfold encE headE
    rfl
  rw [if_neg (by rw [e3]; intro h; rcases h with h | h; omega; exact h rfl), e1, e2, if_neg (fun h => h rfl)]
  have e4 : (headE d).drop 3 = bodyE d := rfl
  rw [e4, rdDm_back h]
/-- One byte changed: refused. -/
theorem decE_set (d : Dm) {i c : Nat} (hi : i < (encE d).length) (hb : ∀ x ∈ encE d, x < 256) (hc : c < 256) (hne : (encE d)[i] ≠ c) : ∃ k, decE ((encE d).set i c) = .error k := by
  have hl := encE_len d
  have h3 := headE_len d
  unfold decE
  rw [List.length_set]
  by_cases g : (encE d).length < 7 ∨ ((encE d).set i c).take 3 ≠ [69, 71, 1]
  · exact ⟨1, by rw [if_pos g]⟩
  · rw [if_neg g]
    refine ⟨2, if_pos fun h => ?_⟩
    rw [hl, show (headE d).length + 4 - 4 = (headE d).length by omega] at h
    by_cases hh : i < (headE d).length
    · have e1 : ((encE d).set i c).take (headE d).length = (headE d).set i c := by
        unfold encE
        rw [List.set_append_left _ _ hh]
        exact List.take_left' (by rw [List.length_set])
      have e2 : ((encE d).set i c).drop (headE d).length = bigE (sumS (headE d)) := by
        unfold encE
        rw [List.set_append_left _ _ hh]
        exact List.drop_left' (by rw [List.length_set])
      have e3 : (encE d)[i] = (headE d)[i] := List.getElem_append_left hh
      rw [e3] at hne
      rw [e1, e2] at h
      have hm : (headE d)[i] < 256 := by rw [← e3]; exact hb _ (List.getElem_mem hi)
      exact sumS_set hh hm hc hne (bigE_inj (sumS_lt _) (sumS_lt _) h).symm
    · have e1 : ((encE d).set i c).take (headE d).length = headE d := by
        unfold encE
        rw [List.set_append_right _ _ (by omega)]
        exact List.take_left' rfl
      have e2 : ((encE d).set i c).drop (headE d).length = (bigE (sumS (headE d))).set (i - (headE d).length) c := by
        unfold encE
        rw [List.set_append_right _ _ (by omega)]
        exact List.drop_left' rfl
      have hi2 : i - (headE d).length < (bigE (sumS (headE d))).length := by rw [hl] at hi; unfold bigE; simp; omega
      have e3 : (encE d)[i] = (bigE (sumS (headE d)))[i - (headE d).length] := List.getElem_append_right (Nat.le_of_not_lt hh)
      rw [e1, e2] at h
      have := congrArg (fun l => l[i - (headE d).length]?) h
      simp only [List.getElem?_set_self hi2, List.getElem?_eq_getElem hi2] at this
      exact hne (by rw [e3]; exact (Option.some.inj this).symm)
end Go.Proofs.YtndfncaoejbkiaaGreatDoor
end
section
/- Rows of bytes: RdE and OwnE at uint8; slices of them; append of a byte. -/
namespace Go.Proofs.YtndfncaoejbkiaaGreatDoor
open Go.RowKit
set_option maxRecDepth 100000

def byC (c : UInt8) : List Value := [.int .u8 (c.toNat : Int)]
theorem byLen (c : UInt8) : (byC c).length = 1 := rfl
abbrev RdY (M : Nat → Prop) (w : World) (v : Value) (l : List UInt8) : Prop := RdE byC M w v l
abbrev OwnY (B : Nat) (w : World) (v : Value) (l : List UInt8) : Prop := OwnE byC 1 5 B w v l
theorem infoU8 : (Tryz.prog.info? 5).map (fun i => (i.zero, i.size, i.bytes)) = some (some (.int .u8 0), 1, 1) := by kernel_rfl
theorem RdY.form {M : Nat → Prop} {w : World} {v : Value} {l : List UInt8} (h : RdY M w v l) : ∃ a c, v = .slice a l.length c := by
  rcases h with ⟨⟨a, c, h1, _⟩, h⟩ | ⟨b, off, cap, h1, _⟩
  · subst h; exact ⟨a, c, h1⟩
  · exact ⟨_, _, h1⟩
theorem flatE_by (l : List UInt8) : flatE byC l = l.map (fun c => Value.int .u8 (c.toNat : Int)) := by
  induction l with
  | nil => rfl
  | cons a t ih => rw [flatE, ih]; rfl
theorem RdY.cell {M : Nat → Prop} {w : World} {p : Option Addr} {n c : Nat} {l : List UInt8} (h : RdY M w (.slice p n c) l) {k : Nat} (hk : k < l.length) : ∃ b off, p = some ⟨b, off, none⟩ ∧ w.cell? ⟨b, off + k, none⟩ = some (.int .u8 (l[k].toNat : Int)) := by
  rcases h with ⟨_, h⟩ | ⟨b, off, cap, h1, _, _, _, hc⟩
  · subst h; simp at hk
  · simp only [Value.slice.injEq] at h1
    obtain ⟨rfl, rfl, rfl⟩ := h1
    exact ⟨b, off, rfl, hc k _ (by rw [flatE_by, List.getElem?_map, List.getElem?_eq_getElem hk]; rfl)⟩
/-- s[k:]. -/
theorem RdY.drop {M : Nat → Prop} {w : World} {b off n c : Nat} {l : List UInt8} (h : RdY M w (.slice (some ⟨b, off, none⟩) n c) l) {k : Nat} (hk : k ≤ l.length) : RdY M w (.slice (some ⟨b, off + k, none⟩) (n - k) (c - k)) (l.drop k) := by
  rcases h with ⟨⟨a', c', e, hc⟩, rfl⟩ | ⟨b', off', cap, e, h1, h2, h3, h4⟩
  · simp only [Value.slice.injEq] at e
    obtain ⟨rfl, rfl, rfl⟩ := e
    exact .inl ⟨⟨_, _, by rw [Nat.zero_sub], fun h => (by cases h)⟩, by simp⟩
  · simp only [Value.slice.injEq, Option.some.injEq, Addr.mk.injEq, and_true] at e
    obtain ⟨⟨rfl, rfl⟩, rfl, rfl⟩ := e
    refine .inr ⟨b, off + k, _, by rw [List.length_drop], h1, h2, by rw [List.length_drop]; omega, fun j u hj => ?_⟩
    have := h4 (k + j) u (by rw [flatE_by] at hj ⊢; rw [List.map_drop, List.getElem?_drop] at hj; exact hj)
    rw [Nat.add_assoc]; exact this
theorem rdY_lit {M : Nat → Prop} {w : World} (c : UInt8) {e : TypeId} {b : Nat} {x : Int} (hx : x = (c.toNat : Int)) (hb : b = w.heap.size) (hM : ¬ M b) : RdY M (w.alloc (.cells #[.int .u8 x] e)) (.slice (some ⟨b, 0, none⟩) 1 1) [c] := by
  subst hb
  subst hx
  refine .inr ⟨w.heap.size, 0, 1, rfl, by simp, hM, Nat.le_refl _, fun j u hj => ?_⟩
  have hb := at_new w (.cells #[.int .u8 (c.toNat : Int)] e)
  match j, hj with
  | 0, hj => simp [flatE, byC] at hj; subst hj; (unfold World.cell?; simp only [hb]; rfl)
  | j + 1, hj => simp [flatE, byC] at hj
/-- append(s, t...) on bytes. -/
theorem ap_by (w : World) {ops : Array Oper} {rest : List Oper} {o : Oper} {a : Act} {Q : Exit → Act → World → Prop} (hg : o.guard = none) (s x : Operand)
    (ho : o.op = .call { callee := .builtin .append, args := #[s, x], argTypes := #[27, 27] }) (B : Nat) (v : Value) (l : List UInt8) (hs : a.eval s = v) (hown : OwnY B w v l)
    (M : Nat → Prop) (u : Value) (m : List UInt8) (hx : a.eval x = u) (hrd : RdY M w u m) (hlen : l.length + m.length ≤ 1000000000) (hB : B ≤ w.heap.size)
    (h : ∀ p q w', OwnY B w' (.slice p (l ++ m).length q) (l ++ m) → w.grownBy w' v.ownBlock → ((Value.slice p (l ++ m).length q).ownBlock = v.ownBlock ∨ (Value.slice p (l ++ m).length q).ownBlock = some w.heap.size) → wpList Tryz.prog ops Q rest (a.put o.dst (.slice p (l ++ m).length q)) w') : wpList Tryz.prog ops Q (o :: rest) a w := by
  refine ap_rows (z := .int .u8 0) (bytes := 1) w byLen (by decide) Tryz.underlying27 infoU8 rfl hg s x ho B v l hs hown M u m hx hrd (fun y hy u hu => ?_) (by omega) (by omega) hB (fun v' w' h1 h2 h3 => ?_)
  · simp only [byC, List.mem_cons, List.not_mem_nil, or_false] at hu
    rcases hu with rfl; rfl
  · obtain ⟨p, q, hv⟩ := OwnE.form h1
    subst hv
    exact h p q w' h1 h2 h3
/-- The bytes of a number, and so on. -/
def bN (l : List Nat) : List UInt8 := l.map UInt8.ofNat
theorem bN_app (l m : List Nat) : bN (l ++ m) = bN l ++ bN m := List.map_append
theorem bN_toNat {l : List Nat} (h : ∀ x ∈ l, x < 256) : (bN l).map (·.toNat) = l := by
  unfold bN
  rw [List.map_map]
  conv => rhs; rw [← List.map_id l]
  refine List.map_congr_left fun x hx => ?_
  have := h x hx
  simp only [Function.comp_apply, UInt8.toNat_ofNat', id_eq]
  omega
theorem sgnE_byte (n : Int) : ∀ c ∈ sgnE n, c < 256 := by unfold sgnE; split <;> exact numE_byte _
theorem flatMap_byte {α : Type} {e : α → List Nat} {l : List α} (h : ∀ x ∈ l, ∀ c ∈ e x, c < 256) : ∀ c ∈ l.flatMap e, c < 256 := fun c hc => by
  obtain ⟨x, hx, hc⟩ := List.mem_flatMap.1 hc
  exact h x hx c hc
theorem bytesN_byte (s : ByteArray) : ∀ c ∈ bytesN s, c < 256 := fun c hc => by
  unfold bytesN at hc
  obtain ⟨x, _, rfl⟩ := List.mem_map.1 hc
  exact x.toNat_lt
theorem app_byte {l m : List Nat} (h : ∀ c ∈ l, c < 256) (h' : ∀ c ∈ m, c < 256) : ∀ c ∈ l ++ m, c < 256 := fun c hc => (List.mem_append.1 hc).elim (h c) (h' c)
theorem nodeE_byte (n : Node) : ∀ c ∈ nodeE n, c < 256 := app_byte (sgnE_byte _) (app_byte (sgnE_byte _) (app_byte (numE_byte _) (app_byte (numE_byte _) (app_byte (bytesN_byte _) (app_byte (numE_byte _) (flatMap_byte (fun _ _ => sgnE_byte _)))))))
theorem lnkE_byte (x : Lnk) : ∀ c ∈ lnkE x, c < 256 := app_byte (sgnE_byte _) (app_byte (sgnE_byte _) (sgnE_byte _))
theorem headE_byte (d : Dm) : ∀ c ∈ headE d, c < 256 := app_byte (fun c hc => by simp at hc; omega) (app_byte (numE_byte _) (app_byte (flatMap_byte (fun _ _ => nodeE_byte _)) (app_byte (numE_byte _) (app_byte (flatMap_byte (fun _ _ => lnkE_byte _)) (app_byte (numE_byte _) (flatMap_byte (fun _ _ => sgnE_byte _)))))))
theorem bigE_byte (x : Nat) : ∀ c ∈ bigE x, c < 256 := fun c hc => by
  unfold bigE at hc
  simp at hc
  omega
theorem encE_byte (d : Dm) : ∀ c ∈ encE d, c < 256 := app_byte (headE_byte d) (bigE_byte _)
theorem sumGo_app : ∀ (l m : List Nat) (p : Nat × Nat), sumGo (l ++ m) p = sumGo m (sumGo l p)
  | [], m, p => rfl
  | c :: t, m, (a, b) => by rw [List.cons_append, sumGo, sumGo, sumGo_app t]
/-- The byte of a number that is not its last. -/
theorem byte_or (x : Nat) : (x % 256) ||| 128 = x % 128 + 128 := by
  have h : ∀ y : Fin 256, (y.val ||| 128) = y.val % 128 + 128 := by decide
  have := h ⟨x % 256, Nat.mod_lt _ (by decide)⟩
  simp only at this
  omega
end Go.Proofs.YtndfncaoejbkiaaGreatDoor
end
section
/- Plain laws of snapshot: the reader's loop, byte by byte; the writer's loop. -/
namespace Go.Proofs.YtndfncaoejbkiaaGreatDoor
open Go.RowKit
set_option maxRecDepth 100000

/-- The reader's loop: i bytes of the number are read. -/
def rdAt (l : List Nat) (i acc : Nat) : Option (Nat × List Nat) := rdGo i acc (l.drop i)
theorem rdAt_start (l : List Nat) : rdAt l 0 0 = rdN l := rfl
theorem rdAt_end {l : List Nat} {i acc : Nat} (h : l.length ≤ i) : rdAt l i acc = none := by
  unfold rdAt
  rw [List.drop_eq_nil_of_le h]
  rfl
theorem rdAt_cons {l : List Nat} {i acc : Nat} (h : i < l.length) : rdAt l i acc = if (i = 9 ∧ 1 < l[i]) ∨ (0 < i ∧ l[i] = 0) then none else if l[i] < 128 then some (acc + l[i] % 128 * 2 ^ (7 * i), l.drop (i + 1)) else rdAt l (i + 1) (acc + l[i] % 128 * 2 ^ (7 * i)) := by
  unfold rdAt
  rw [List.drop_eq_getElem_cons h, rdGo]
/-- What is read so far is below its place; the loop ends at the tenth byte. -/
theorem acc_lt {i acc c : Nat} (h : acc < 2 ^ (7 * i)) : acc + c % 128 * 2 ^ (7 * i) < 2 ^ (7 * (i + 1)) := by
  have h1 : c % 128 < 128 := Nat.mod_lt _ (by decide)
  rw [show 7 * (i + 1) = 7 * i + 7 by omega, Nat.pow_add]
  generalize 2 ^ (7 * i) = P at *
  have h2 : c % 128 * P ≤ 127 * P := Nat.mul_le_mul_right _ (by omega)
  omega
theorem acc_or {i acc c : Nat} (h : acc < 2 ^ (7 * i)) : acc ||| (c % 128 * 2 ^ (7 * i)) = acc + c % 128 * 2 ^ (7 * i) := by
  have := Nat.two_pow_add_eq_or_of_lt h (c % 128)
  rw [Nat.or_comm, Nat.mul_comm, ← this, Nat.add_comm]
theorem rdAt_rest {l : List Nat} : ∀ {n i acc : Nat} {p : Nat × List Nat}, l.length - i ≤ n → rdAt l i acc = some p → ∃ j, i < j ∧ j ≤ l.length ∧ p.2 = l.drop j
  | 0, i, acc, p, hn, h => by rw [rdAt_end (by omega)] at h; cases h
  | n + 1, i, acc, p, hn, h => by
    by_cases hi : i < l.length
    · rw [rdAt_cons hi] at h
      split at h
      · cases h
      · split at h
        · cases h
          exact ⟨i + 1, by omega, by omega, rfl⟩
        · obtain ⟨j, h1, h2, h3⟩ := rdAt_rest (n := n) (by omega) h
          exact ⟨j, by omega, h2, h3⟩
    · rw [rdAt_end (by omega)] at h; cases h
theorem rdAt_val {l : List Nat} (hb : ∀ c ∈ l, c < 256) : ∀ {n i acc : Nat} {p : Nat × List Nat}, l.length - i ≤ n → i ≤ 9 → acc < 2 ^ (7 * i) → rdAt l i acc = some p → p.1 < 18446744073709551616
  | 0, i, acc, p, hn, _, _, h => by rw [rdAt_end (by omega)] at h; cases h
  | n + 1, i, acc, p, hn, hi9, ha, h => by
    by_cases hi : i < l.length
    · rw [rdAt_cons hi] at h
      split at h
      · cases h
      · rename_i hg
        split at h
        · cases h
          by_cases e : i = 9
          · subst e
            have : l[9] ≤ 1 := by omega
            have h2 : acc < 9223372036854775808 := ha
            show acc + l[9] % 128 * 9223372036854775808 < _
            have h3 : l[9] % 128 ≤ 1 := by omega
            have h4 : l[9] % 128 * 9223372036854775808 ≤ 1 * 9223372036854775808 := Nat.mul_le_mul_right _ h3
            omega
          · have h1 := acc_lt (c := l[i]) ha
            have h2 : 2 ^ (7 * (i + 1)) ≤ 2 ^ 63 := Nat.pow_le_pow_right (by decide) (by omega)
            have : (2 : Nat) ^ 63 < 18446744073709551616 := by decide
            omega
        · have e : i ≠ 9 := fun e => by omega
          exact rdAt_val hb (n := n) (by omega) (by omega) (acc_lt ha) h
    · rw [rdAt_end (by omega)] at h; cases h
theorem rdN_val {l : List Nat} (hb : ∀ c ∈ l, c < 256) {p : Nat × List Nat} (h : rdN l = some p) : p.1 < 18446744073709551616 := rdAt_val hb (n := l.length) (by omega) (by omega) (by decide) h
theorem rdN_rest {l : List Nat} {p : Nat × List Nat} (h : rdN l = some p) : ∃ j, 0 < j ∧ j ≤ l.length ∧ p.2 = l.drop j := rdAt_rest (n := l.length) (by omega) h
/-- The writer's loop: what is written, and what is left. -/
theorem numE_part {x y : Nat} {pre : List Nat} (h : numE x = pre ++ numE y) (hy : 128 ≤ y) : numE x = (pre ++ [y % 128 + 128]) ++ numE (y / 128) := by
  rw [h, numE_hi hy]
  simp
theorem numE_done {x y : Nat} {pre : List Nat} (h : numE x = pre ++ numE y) (hy : y < 128) : numE x = pre ++ [y] := by rw [h, numE_lo hy]
/-- A signed number, as the program makes it. -/
theorem sgnE_of (n : Int) (h0 : -9223372036854775808 ≤ n) (h1 : n < 9223372036854775808) : sgnE n = numE (if 0 ≤ n then (2 * n).toNat else (-2 * n - 1).toNat) := by
  unfold sgnE
  by_cases h : 0 ≤ n
  · rw [if_pos h, if_pos h]; congr 1; omega
  · rw [if_neg h, if_neg h]; congr 1; omega
end Go.Proofs.YtndfncaoejbkiaaGreatDoor
end
section
/- The walks of Sum, the program's and the reference's. -/
namespace Go.Proofs.YtndfncaoejbkiaaGreatDoor
open Go.RowKit
set_option maxRecDepth 100000

abbrev nats (l : List UInt8) : List Nat := l.map (·.toNat)
theorem sumGo_take (l : List UInt8) {k : Nat} (hk : k < l.length) : sumGo (nats (l.take (k + 1))) (1, 0) = (((sumGo (nats (l.take k)) (1, 0)).1 + l[k].toNat) % 65521, ((sumGo (nats (l.take k)) (1, 0)).2 + ((sumGo (nats (l.take k)) (1, 0)).1 + l[k].toNat) % 65521) % 65521) := by
  rw [List.take_succ_eq_append_getElem hk]
  unfold nats
  rw [List.map_append, sumGo_app]
  rfl
set_option maxHeartbeats 2000000 in
theorem sum_any (v : Value) (l : List UInt8) (w : World) (h : RdY NoB w v l) (hl : l.length ≤ 1000000000) :
    Calls Tryz.prog 11 #[v] w fun e w' => e = .returned (.int .u32 (sumS (nats l))) ∧ w' = w := by
  obtain ⟨p, c, hp⟩ := h.form
  subst hp
  have H := hid h
  clear h
  go_enter Tryz.func11, Tryz.ntmps11
  go_wp2
  go_loopw [3, 4, 9] (fun a b j wr => ∃ (k : Nat), k ≤ l.length ∧ j = .int .i64 k ∧ wr = w ∧ a = .int .u32 ((sumGo (nats (l.take k)) (1, 0)).1 : Nat) ∧ b = .int .u32 ((sumGo (nats (l.take k)) (1, 0)).2 : Nat)) (fun _ _ j _ => l.length - (intOf j).toNat)
  case atStart => exact ⟨0, Nat.zero_le _, rfl, rfl, rfl, rfl⟩
  case round =>
    obtain ⟨k, hk, rfl, rfl, rfl, rfl⟩ := hrel
    have hb := sumGo_lt (nats (l.take k)) 1 0 (by decide) (by decide)
    by_cases hlt : k < l.length
    · obtain ⟨b, off, rfl, e0⟩ := H.out.cell hlt
      have hs := sumGo_take l hlt
      have hc := l[k].toNat_lt
      obtain ⟨q, hq⟩ : ∃ q, l[k].toNat = q := ⟨_, rfl⟩
      rw [hq] at hs hc e0
      have HS := hid hs
      obtain ⟨lo, hlo⟩ : ∃ x, (sumGo (nats (l.take k)) (1, 0)).1 = x := ⟨_, rfl⟩
      obtain ⟨hi, hhi⟩ : ∃ x, (sumGo (nats (l.take k)) (1, 0)).2 = x := ⟨_, rfl⟩
      rw [hlo, hhi] at hb
      rw [hlo, hhi] at HS ⊢
      clear hs hq hlo hhi
      go_wp2
      go_roundw
      case rel =>
        refine ⟨k + 1, by omega, by go_num, by first | rfl | trivial, ?_, ?_⟩
        · rw [HS.out]; simp
        · rw [HS.out]; simp
      case measure => simp [intOf]; omega
    · obtain rfl : k = l.length := by omega
      rw [List.take_length] at hb ⊢
      have HSS : Hid (sumS (nats l) = (sumGo (nats l) (1, 0)).2 * 65536 + (sumGo (nats l) (1, 0)).1) := by show _ = _; rfl
      obtain ⟨lo, hlo⟩ : ∃ x, (sumGo (nats l) (1, 0)).1 = x := ⟨_, rfl⟩
      obtain ⟨hi, hhi⟩ : ∃ x, (sumGo (nats l) (1, 0)).2 = x := ⟨_, rfl⟩
      rw [hlo, hhi] at hb HSS ⊢
      clear hlo hhi
      go_wp2
      go_ret
      rw [HSS.out]
      refine ⟨?_, by first | rfl | trivial⟩
      have hlo2 : lo < 2 ^ 16 := by omega
      have e1 : bits .or .u32 ((hi : Int) * 65536) (lo : Int) = ((hi * 65536 + lo : Nat) : Int) := by
        have h1 := u32_or_nat (hi * 65536) lo (by omega) (by omega)
        have h2 := Nat.two_pow_add_eq_or_of_lt hlo2 hi
        have h3 : hi * 65536 ||| lo = hi * 65536 + lo := by
          rw [Nat.mul_comm hi]
          exact h2.symm
        rw [h3] at h1
        rw [← h1]
        congr 1
      show Ending.returned (.int .u32 (bits .or .u32 ((hi : Int) * 65536) (lo : Int))) = _
      rw [e1]
set_option maxHeartbeats 2000000 in
theorem refSum22_any (v : Value) (l : List UInt8) (w : World) (h : RdY NoB w v l) (hl : l.length ≤ 1000000000) :
    Calls Tryz.prog 12 #[v] w fun e w' => e = .returned (.int .u32 (sumS (nats l))) ∧ w' = w := by
  obtain ⟨p, c, hp⟩ := h.form
  subst hp
  have H := hid h
  clear h
  go_enter Tryz.func12, Tryz.ntmps12
  go_wp2
  go_loopw [3, 4, 5] (fun a b j wr => ∃ (k : Nat), k ≤ l.length ∧ j = .int .i64 k ∧ wr = w ∧ a = .int .u32 ((sumGo (nats (l.take k)) (1, 0)).1 : Nat) ∧ b = .int .u32 ((sumGo (nats (l.take k)) (1, 0)).2 : Nat)) (fun _ _ j _ => l.length - (intOf j).toNat)
  case atStart => exact ⟨0, Nat.zero_le _, rfl, rfl, rfl, rfl⟩
  case round =>
    obtain ⟨k, hk, rfl, rfl, rfl, rfl⟩ := hrel
    have hb := sumGo_lt (nats (l.take k)) 1 0 (by decide) (by decide)
    by_cases hlt : k < l.length
    · obtain ⟨b, off, rfl, e0⟩ := H.out.cell hlt
      have hs := sumGo_take l hlt
      have hc := l[k].toNat_lt
      obtain ⟨q, hq⟩ : ∃ q, l[k].toNat = q := ⟨_, rfl⟩
      rw [hq] at hs hc e0
      have HS := hid hs
      obtain ⟨lo, hlo⟩ : ∃ x, (sumGo (nats (l.take k)) (1, 0)).1 = x := ⟨_, rfl⟩
      obtain ⟨hi, hhi⟩ : ∃ x, (sumGo (nats (l.take k)) (1, 0)).2 = x := ⟨_, rfl⟩
      rw [hlo, hhi] at hb
      rw [hlo, hhi] at HS ⊢
      clear hs hq hlo hhi
      go_wp2
      go_roundw
      case rel =>
        refine ⟨k + 1, by omega, by go_num, by first | rfl | trivial, ?_, ?_⟩
        · rw [HS.out]; simp
        · rw [HS.out]; simp
      case measure => simp [intOf]; omega
    · obtain rfl : k = l.length := by omega
      rw [List.take_length] at hb ⊢
      have HSS : Hid (sumS (nats l) = (sumGo (nats l) (1, 0)).2 * 65536 + (sumGo (nats l) (1, 0)).1) := by show _ = _; rfl
      obtain ⟨lo, hlo⟩ : ∃ x, (sumGo (nats l) (1, 0)).1 = x := ⟨_, rfl⟩
      obtain ⟨hi, hhi⟩ : ∃ x, (sumGo (nats l) (1, 0)).2 = x := ⟨_, rfl⟩
      rw [hlo, hhi] at hb HSS ⊢
      clear hlo hhi
      go_wp2
      go_ret
      rw [HSS.out]
      refine ⟨?_, by first | rfl | trivial⟩
      show Ending.returned (.int .u32 _) = _
      congr 2
      omega
end Go.Proofs.YtndfncaoejbkiaaGreatDoor
end
section
/- The walks of number: the reference's. -/
namespace Go.Proofs.YtndfncaoejbkiaaGreatDoor
open Go.RowKit
set_option maxRecDepth 100000

theorem u8_of {n : Nat} (h : n < 256) : ((UInt8.ofNat n).toNat : Int) = n := by
  have : (UInt8.ofNat n).toNat = n := by simp only [UInt8.toNat_ofNat']; omega
  rw [this]
theorem numE_len (x : Nat) (h : x < 18446744073709551616) {pre : List Nat} {y : Nat} (e : numE x = pre ++ numE y) : pre.length ≤ 10 := by
  have key : ∀ k x, x < 128 ^ k → (numE x).length ≤ k + 1 := by
    intro k
    induction k with
    | zero => intro x hx; rw [numE_lo (by simp at hx; omega)]; simp
    | succ k ih =>
      intro x hx
      by_cases c : 128 ≤ x
      · rw [numE_hi c, List.length_cons]
        have := ih (x / 128) ((Nat.div_lt_iff_lt_mul (by decide)).2 (by rw [← Nat.pow_succ]; exact hx))
        omega
      · rw [numE_lo (by omega)]; simp
  have h1 := key 10 x (Nat.lt_of_lt_of_le h (by decide))
  rw [e, List.length_append] at h1
  have := numE_pos y
  omega
set_option maxHeartbeats 2000000 in
theorem refNum_any (B : Nat) (v : Value) (l : List UInt8) (x : Nat) (w : World) (ho : OwnY B w v l) (hx : x < 18446744073709551616) (hl : l.length ≤ 900000000) (hB : B ≤ w.heap.size) :
    Calls Tryz.prog 43 #[v, .int .u64 x] w fun e w' => ∃ v', e = .returned v' ∧ OwnY B w' v' (l ++ bN (numE x)) ∧ Fr (fun k => v.ownBlock = some k) w w' ∧ (v'.ownBlock = v.ownBlock ∨ ∃ q, v'.ownBlock = some q ∧ w.heap.size ≤ q) := by
  have HO := hid ho
  have HV := hid (fun k hk => (World.ownsRow.lt ho k hk))
  clear ho
  go_enter Tryz.func43, Tryz.ntmps43
  go_wp2
  go_loopw [0, 1] (fun t y wr => ∃ (y' : Nat) (pre : List Nat), y = .int .u64 y' ∧ numE x = pre ++ numE y' ∧ y' ≤ x ∧ OwnY B wr t (l ++ bN pre) ∧ Fr (fun k => v.ownBlock = some k) w wr ∧ (t.ownBlock = v.ownBlock ∨ ∃ q, t.ownBlock = some q ∧ w.heap.size ≤ q)) (fun _ y _ => (intOf y).toNat)
  case atStart => exact ⟨x, [], rfl, rfl, Nat.le_refl _, by simpa [bN] using HO.out, Fr.refl _ _, .inl rfl⟩
  case round =>
    obtain ⟨y, pre, rfl, hp, hyx, ho, hf, hb⟩ := hrel
    obtain ⟨tp, tc, hv⟩ := OwnE.form ho
    subst hv
    have hpl := numE_len x hx hp
    have hlen : (l ++ bN pre).length = l.length + pre.length := by simp [bN]
    have HAP := hid (fun m => (by rw [bN_app, ← List.append_assoc] : l ++ bN (pre ++ m) = (l ++ bN pre) ++ bN m))
    obtain ⟨LL, hLL⟩ : ∃ LL, l ++ bN pre = LL := ⟨_, rfl⟩
    rw [hLL] at ho hlen hb HAP ⊢
    have O := hid ho
    have F := hid hf
    have HP := hid hp
    have HBk := hid hb
    have hsz := hf.size
    have hl2 : LL.length ≤ 900000010 := by omega
    clear ho hf hp hb hlen hLL
    have HN : Hid (∀ p q c (w8 : World), ((Value.slice p (LL ++ [c]).length q).ownBlock = (Value.slice tp LL.length tc).ownBlock ∨ (Value.slice p (LL ++ [c]).length q).ownBlock = some (wr.heap.size + 1)) → ((Value.slice p (LL ++ [c]).length q).ownBlock = v.ownBlock ∨ ∃ j, (Value.slice p (LL ++ [c]).length q).ownBlock = some j ∧ w.heap.size ≤ j)) := fun p q c w8 h => by
      rcases h with h | h
      · rw [h]; exact HBk.out
      · exact .inr ⟨_, h, by omega⟩
    by_cases hge : 128 ≤ y
    · have hge' : (128 : Int) ≤ y := by omega
      have HC : Hid (((y : Int) % 128 + 128) = ((UInt8.ofNat (y % 128 + 128)).toNat : Int)) := by show _ = _; rw [u8_of (by omega)]; omega
      go_wp2_with (at_builtin; refine ap_by _ rfl _ _ rfl B (.slice tp LL.length tc) LL rfl (OwnE.fr O.out ((Fr.refl NoB wr).alloc (.cells #[.int .u8 ((y : Int) % 128 + 128)] 5)) (fun _ _ h => h)) NoB _ [UInt8.ofNat (y % 128 + 128)] rfl (rdY_lit (UInt8.ofNat (y % 128 + 128)) HC.out rfl (fun h => h)) ?_ ?_ ?_; (simp only [List.length_singleton]; omega); (simp only [World.size_alloc]; omega); intro p8 q8 w8 ho8 hg8 hb8; have O8 := hid ho8; have G8 := hid hg8; have B8 := hid hb8; clear ho8 hg8 hb8)
      go_roundw
      case rel =>
        refine ⟨y / 128, pre ++ [y % 128 + 128], by simp, numE_part HP.out hge, Nat.le_trans (Nat.div_le_self _ _) hyx, ?_, ?_, ?_⟩
        · rw [HAP.out]
          have h9 := O8.out
          rw [List.length_append, List.length_singleton] at h9
          exact h9
        · exact Fr.grown (M := fun k => v.ownBlock = some k) (F.out.alloc _) G8.out (fun k hk hk2 => by rcases HBk.out with h | ⟨q, h, h2⟩; (rw [← h]; exact hk); (rw [hk] at h; cases h; omega))
        · have h9 := HN.out p8 q8 (UInt8.ofNat (y % 128 + 128)) w8 (by simpa only [World.size_alloc] using B8.out)
          rw [List.length_append, List.length_singleton] at h9
          exact h9
      case measure => simp [intOf]; omega
    · have hge' : ¬ (128 : Int) ≤ y := by omega
      have HC : Hid ((y : Int) = ((UInt8.ofNat y).toNat : Int)) := by show _ = _; rw [u8_of (by omega)]
      go_wp2_with (at_builtin; refine ap_by _ rfl _ _ rfl B (.slice tp LL.length tc) LL rfl (OwnE.fr O.out ((Fr.refl NoB wr).alloc (.cells #[.int .u8 (y : Int)] 5)) (fun _ _ h => h)) NoB _ [UInt8.ofNat y] rfl (rdY_lit (UInt8.ofNat y) HC.out rfl (fun h => h)) ?_ ?_ ?_; (simp only [List.length_singleton]; omega); (simp only [World.size_alloc]; omega); intro p8 q8 w8 ho8 hg8 hb8; have O8 := hid ho8; have G8 := hid hg8; have B8 := hid hb8; clear ho8 hg8 hb8)
      go_ret
      refine ⟨_, rfl, ?_, Fr.grown (M := fun k => v.ownBlock = some k) (F.out.alloc _) G8.out (fun k hk hk2 => by rcases HBk.out with h | ⟨q, h, h2⟩; (rw [← h]; exact hk); (rw [hk] at h; cases h; omega)), ?_⟩
      · rw [numE_done HP.out (by omega), HAP.out]
        have h9 := O8.out
        rw [List.length_append, List.length_singleton] at h9
        exact h9
      · have h9 := HN.out p8 q8 (UInt8.ofNat y) w8 (by simpa only [World.size_alloc] using B8.out)
        rw [List.length_append, List.length_singleton] at h9
        exact h9
end Go.Proofs.YtndfncaoejbkiaaGreatDoor
end
