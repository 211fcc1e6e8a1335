/- The walks of the comparing functions: cmp.Compare, cmp.Or, slices.Compare, hashcons.Compare, hashcons.Same, and of the reference. -/
import Derived.Test.YtkifedleajacpaaDoorProg
import Derived.Test.YtkifedleajacpaaDoorCmpL
import Derived.StillTailTactics
import Derived.BigQuiet
import Derived.Deep.QuietTactic
namespace Go.Proofs.YtkifedleajacpaaDoor
open Go.RowKit

theorem cmpI_any (a b : Int) (w : World) : Calls Tryd.prog 40 #[.int .i64 a, .int .i64 b] w fun e w' => e = .returned (.int .i64 (cmpI a b)) ∧ w' = w := by
  by_cases h1 : a < b
  · go_enter Tryd.func40, Tryd.ntmps40
    go_wp2
    go_ret
    exact ⟨ret_int (by simp [cmpI, h1]), rfl⟩
  · by_cases h2 : b < a
    · go_enter Tryd.func40, Tryd.ntmps40
      go_wp2
      go_ret
      exact ⟨ret_int (by simp only [cmpI]; rw [if_neg (by omega), if_pos h2]), rfl⟩
    · go_enter Tryd.func40, Tryd.ntmps40
      go_wp2
      go_ret
      exact ⟨ret_int (by simp only [cmpI]; rw [if_neg (by omega), if_neg (by omega)]), rfl⟩

theorem cmpOp_any (a b : Int) (w : World) : Calls Tryd.prog 39 #[.int .i64 a, .int .i64 b] w fun e w' => e = .returned (.int .i64 (cmpI a b)) ∧ w' = w := by
  by_cases h1 : a < b
  · go_enter Tryd.func39, Tryd.ntmps39
    go_wp2
    go_ret
    exact ⟨ret_int (by simp [cmpI, h1]), rfl⟩
  · by_cases h2 : b < a
    · go_enter Tryd.func39, Tryd.ntmps39
      go_wp2
      go_ret
      exact ⟨ret_int (by simp only [cmpI]; rw [if_neg (by omega), if_pos h2]), rfl⟩
    · go_enter Tryd.func39, Tryd.ntmps39
      go_wp2
      go_ret
      exact ⟨ret_int (by simp only [cmpI]; rw [if_neg (by omega), if_neg (by omega)]), rfl⟩

theorem cmpU_any (a b : Int) (w : World) : Calls Tryd.prog 41 #[.int .u64 a, .int .u64 b] w fun e w' => e = .returned (.int .i64 (cmpI a b)) ∧ w' = w := by
  by_cases h1 : a < b
  · go_enter Tryd.func41, Tryd.ntmps41
    go_wp2
    go_ret
    exact ⟨ret_int (by simp [cmpI, h1]), rfl⟩
  · by_cases h2 : b < a
    · go_enter Tryd.func41, Tryd.ntmps41
      go_wp2
      go_ret
      exact ⟨ret_int (by simp only [cmpI]; rw [if_neg (by omega), if_pos h2]), rfl⟩
    · go_enter Tryd.func41, Tryd.ntmps41
      go_wp2
      go_ret
      exact ⟨ret_int (by simp only [cmpI]; rw [if_neg (by omega), if_neg (by omega)]), rfl⟩

theorem isNaNs_any (a : ByteArray) (w : World) : Calls Tryd.prog 53 #[.string a] w fun e w' => e = .returned (.bool false) ∧ w' = w := by
  go_enter Tryd.func53, Tryd.ntmps53
  go_wp2
  go_ret
  exact ⟨rfl, rfl⟩

theorem cmpB_any (a b : ByteArray) (w : World) : Calls Tryd.prog 42 #[.string a, .string b] w fun e w' => e = .returned (.int .i64 (cmpB a b)) ∧ w' = w := by
  unfold cmpB
  cases h1 : Op.bytesLess a.toList b.toList with
  | true =>
    go_enter Tryd.func42, Tryd.ntmps42
    go_wp2_with (go_at_call 53; refine (isNaNs_any _ _).mono ?_; rintro e w' ⟨rfl, rfl⟩)
    go_ret
    exact ⟨rfl, rfl⟩
  | false =>
    cases h2 : (a.toList == b.toList) with
    | true =>
      go_enter Tryd.func42, Tryd.ntmps42
      go_wp2_with (go_at_call 53; refine (isNaNs_any _ _).mono ?_; rintro e w' ⟨rfl, rfl⟩)
      go_ret
      exact ⟨rfl, rfl⟩
    | false =>
      go_enter Tryd.func42, Tryd.ntmps42
      go_wp2_with (go_at_call 53; refine (isNaNs_any _ _).mono ?_; rintro e w' ⟨rfl, rfl⟩)
      go_ret
      exact ⟨rfl, rfl⟩

theorem orI_take (l : List Int) : ∀ k, k ≤ l.length → (∀ i, i < k → l.getD i 0 = 0) → orI l = orI (l.drop k) := by
  intro k
  induction k with
  | zero => intro _ _; rfl
  | succ k ih =>
    intro hk h
    rw [ih (by omega) (fun i hi => h i (by omega))]
    have hd : l.drop k = l[k] :: l.drop (k + 1) := List.drop_eq_getElem_cons (by omega)
    have h0 := h k (by omega)
    rw [List.getD_eq_getElem?_getD, List.getElem?_eq_getElem (by omega)] at h0
    rw [hd, orI, if_pos (by simpa using h0)]

theorem getD_eq {l : List Int} {k : Nat} (h : k < l.length) : l.getD k 0 = l[k] := by
  rw [List.getD_eq_getElem?_getD, List.getElem?_eq_getElem h]; rfl

theorem or_any (M : Nat → Prop) (v : Value) (l : List Int) (w : World) (h : RdI M w v l) (hl : l.length ≤ 1000000) :
    Calls Tryd.prog 38 #[v] w fun e w' => e = .returned (.int .i64 (orI l)) ∧ w' = w := by
  obtain ⟨a, cap, rfl⟩ := h.form
  go_enter Tryd.func38, Tryd.ntmps38
  go_wp2
  go_loop [8] (fun i => ∃ k : Nat, k ≤ l.length ∧ i = .int .i64 k ∧ ∀ i, i < k → l.getD i 0 = 0) (fun i => l.length - (intOf i).toNat)
  case atStart => exact ⟨0, Nat.zero_le _, rfl, fun _ h => by omega⟩
  case round =>
    obtain ⟨k, hk, rfl, hz⟩ := hrel
    have hz' : Hid (∀ i, i < k → l.getD i 0 = 0) := hz
    clear hz
    by_cases hlt : k < l.length
    · rcases h with ⟨_, h⟩ | ⟨b, off, cap', h, _, _, _, hc⟩
      · rw [h] at hlt; simp at hlt
      · cases h
        obtain ⟨x, HX, hck⟩ := hc.get hlt
        clear hc
        by_cases h0 : x = 0
        · have hb : (x != 0) = false := by simp [h0]
          have H0 := hid h0
          clear h0
          go_wp2
          go_round
          case rel => exact ⟨k + 1, by omega, by go_num, fun i hi => by
            by_cases e : i = k
            · subst e; rw [HX.out]; exact H0
            · exact hz' i (by omega)⟩
          case measure => simp [intOf]; omega
        · have hb : (x != 0) = true := by simp [h0]
          go_wp2
          go_ret
          refine ⟨ret_int ?_, rfl⟩
          rw [orI_take l k hk hz', List.drop_eq_getElem_cons hlt, orI, ← getD_eq hlt, HX.out, if_neg h0]
    · go_wp2
      go_ret
      refine ⟨ret_int ?_, rfl⟩
      rw [orI_take l k hk hz', List.drop_of_length_le (by omega)]; rfl

theorem cmpL_take : ∀ (l m : List Int) (k : Nat), k ≤ l.length → k ≤ m.length → (∀ i, i < k → cmpI (l.getD i 0) (m.getD i 0) = 0) → cmpL l m = cmpL (l.drop k) (m.drop k)
  | l, m, 0, _, _, _ => rfl
  | a :: l, b :: m, k + 1, hl, hm, h => by
    have h0 : cmpI a b = 0 := by simpa using h 0 (by omega)
    rw [cmpL, if_pos h0, List.drop_succ_cons, List.drop_succ_cons]
    exact cmpL_take l m k (by simpa using hl) (by simpa using hm) (fun i hi => by simpa using h (i + 1) (by omega))

theorem slicesCompare_any (M : Nat → Prop) (v u : Value) (l m : List Int) (w : World) (h : RdI M w v l) (h' : RdI M w u m) (hl : l.length ≤ 1000000) (_hm : m.length ≤ 1000000) :
    Calls Tryd.prog 43 #[v, u] w fun e w' => e = .returned (.int .i64 (cmpL l m)) ∧ w' = w := by
  obtain ⟨a, cap, rfl⟩ := h.form
  obtain ⟨a', cap', rfl⟩ := h'.form
  go_enter Tryd.func43, Tryd.ntmps43
  go_wp2
  go_loop [11] (fun i => ∃ k : Nat, k ≤ l.length ∧ k ≤ m.length ∧ i = .int .i64 k ∧ ∀ i, i < k → cmpI (l.getD i 0) (m.getD i 0) = 0) (fun i => l.length - (intOf i).toNat)
  case atStart => exact ⟨0, Nat.zero_le _, Nat.zero_le _, rfl, fun _ h => by omega⟩
  case round =>
    obtain ⟨k, hk, hkm, rfl, hz⟩ := hrel
    have hz' : Hid (∀ i, i < k → cmpI (l.getD i 0) (m.getD i 0) = 0) := hz
    clear hz
    by_cases hlt : k < l.length
    · rcases h with ⟨_, h⟩ | ⟨b, off, cap', h, _, _, _, hc⟩
      · rw [h] at hlt; simp at hlt
      · cases h
        obtain ⟨x, HX, hck⟩ := hc.get hlt
        clear hc
        by_cases hlm : k < m.length
        · rcases h' with ⟨_, h'⟩ | ⟨b', off', cap', h', _, _, _, hc'⟩
          · rw [h'] at hlm; simp at hlm
          · cases h'
            obtain ⟨y, HY, hck'⟩ := hc'.get hlm
            clear hc'
            by_cases h0 : cmpI x y = 0
            · have hb : (cmpI x y != 0) = false := by simp [h0]
              have H0 := hid h0
              clear h0
              go_wp2_with (go_at_call 40; refine (cmpI_any _ _ _).mono ?_; rintro e w' ⟨rfl, rfl⟩)
              go_round
              case rel => exact ⟨k + 1, by omega, by omega, by go_num, fun i hi => by
                by_cases e : i = k
                · subst e; rw [HX.out, HY.out]; exact H0
                · exact hz' i (by omega)⟩
              case measure => simp [intOf]; omega
            · have hb : (cmpI x y != 0) = true := by simp [h0]
              go_wp2_with (go_at_call 40; refine (cmpI_any _ _ _).mono ?_; rintro e w' ⟨rfl, rfl⟩)
              go_ret
              refine ⟨ret_int ?_, rfl⟩
              rw [cmpL_take l m k hk hkm hz', List.drop_eq_getElem_cons hlt, List.drop_eq_getElem_cons hlm, cmpL, ← getD_eq hlt, ← getD_eq hlm, HX.out, HY.out, if_neg h0]
        · go_wp2
          go_ret
          refine ⟨ret_int ?_, rfl⟩
          rw [cmpL_take l m k hk hkm hz', List.drop_eq_getElem_cons hlt, List.drop_of_length_le (l := m) (by omega)]; rfl
    · by_cases hlm : k < m.length
      · go_wp2
        go_ret
        refine ⟨ret_int ?_, rfl⟩
        rw [cmpL_take l m k hk hkm hz', List.drop_eq_getElem_cons hlm, List.drop_of_length_le (l := l) (by omega)]; rfl
      · go_wp2
        go_ret
        refine ⟨ret_int ?_, rfl⟩
        rw [cmpL_take l m k hk hkm hz', List.drop_of_length_le (l := m) (by omega), List.drop_of_length_le (l := l) (by omega)]; rfl

end Go.Proofs.YtkifedleajacpaaDoor
