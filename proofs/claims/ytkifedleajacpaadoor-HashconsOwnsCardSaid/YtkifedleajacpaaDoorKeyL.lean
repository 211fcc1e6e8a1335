/- A key tells the node: plain lists, no program in sight. -/
import Derived.Test.YtkifedleajacpaaDoorKey
namespace Go.Proofs.YtkifedleajacpaaDoor
open Go.RowKit

/-- The number that decimal digits spell. -/
def spell (l : List UInt8) : Nat := l.foldl (fun s c => 10 * s + (c.toNat - 48)) 0
theorem spell_snoc (l : List UInt8) (c : UInt8) : spell (l ++ [c]) = 10 * spell l + (c.toNat - 48) := by simp [spell]
theorem ofNat_digit (d : Nat) (h : d < 10) : (UInt8.ofNat (48 + d)).toNat = 48 + d := by
  simp; omega
theorem spell_dec : ∀ (n u : Nat), u ≤ n → spell (Lib.decDigits u) = u
  | n, u, h => by
    rw [Lib.decDigits]
    split
    · rename_i h1; rw [spell, List.foldl_cons, List.foldl_nil, ofNat_digit u h1]; omega
    · rename_i h1
      match n, h with
      | 0, h => omega
      | n + 1, h =>
        rw [spell_snoc, spell_dec n (u / 10) (by omega), ofNat_digit _ (by omega)]; omega
theorem decDigits_inj {u v : Nat} (h : Lib.decDigits u = Lib.decDigits v) : u = v := by
  rw [← spell_dec u u (Nat.le_refl _), ← spell_dec v v (Nat.le_refl _), h]
/-- A digit is no mark. -/
def noMark (l : List UInt8) : Prop := ∀ c ∈ l, c ≠ 44 ∧ c ≠ 58
theorem digit_ne (d : Nat) (h : d < 10) : UInt8.ofNat (48 + d) ≠ 44 ∧ UInt8.ofNat (48 + d) ≠ 58 ∧ UInt8.ofNat (48 + d) ≠ 45 := by
  have e := ofNat_digit d h
  refine ⟨fun h2 => ?_, fun h2 => ?_, fun h2 => ?_⟩
  · rw [h2] at e; have : (44 : UInt8).toNat = 44 := rfl; omega
  · rw [h2] at e; have : (58 : UInt8).toNat = 58 := rfl; omega
  · rw [h2] at e; have : (45 : UInt8).toNat = 45 := rfl; omega
theorem dec_mem : ∀ (n u : Nat), u ≤ n → ∀ c ∈ Lib.decDigits u, c ≠ 44 ∧ c ≠ 58 ∧ c ≠ 45
  | n, u, h => by
    rw [Lib.decDigits]
    split
    · rename_i h1; intro c hc; simp only [List.mem_singleton] at hc; subst hc; exact digit_ne u h1
    · rename_i h1
      match n, h with
      | 0, h => omega
      | n + 1, h =>
        intro c hc
        rw [List.mem_append] at hc
        rcases hc with hc | hc
        · exact dec_mem n (u / 10) (by omega) c hc
        · simp only [List.mem_singleton] at hc; subst hc; exact digit_ne _ (by omega)
theorem dec_noMark (u : Nat) : noMark (Lib.decDigits u) := fun c hc => ⟨(dec_mem u u (Nat.le_refl _) c hc).1, (dec_mem u u (Nat.le_refl _) c hc).2.1⟩
theorem itoa_noMark (x : Int) : noMark (Lib.itoa x) := by
  unfold Lib.itoa
  split
  · intro c hc
    rcases List.mem_cons.1 hc with rfl | hc
    · decide
    · exact dec_noMark _ c hc
  · exact dec_noMark _
theorem dec_ne_nil (u : Nat) : Lib.decDigits u ≠ [] := by rw [Lib.decDigits]; split <;> simp
theorem itoa_inj {x y : Int} (h : Lib.itoa x = Lib.itoa y) : x = y := by
  unfold Lib.itoa at h
  by_cases h1 : x < 0 <;> by_cases h2 : y < 0
  · rw [if_pos h1, if_pos h2] at h; have := decDigits_inj (List.cons.inj h).2; omega
  · rw [if_pos h1, if_neg h2] at h
    have := (dec_mem y.toNat y.toNat (Nat.le_refl _) 45 (by rw [← h]; simp)).2.2
    exact absurd rfl this
  · rw [if_neg h1, if_pos h2] at h
    have := (dec_mem x.toNat x.toNat (Nat.le_refl _) 45 (by rw [h]; simp)).2.2
    exact absurd rfl this
  · rw [if_neg h1, if_neg h2] at h; have := decDigits_inj h; omega

/-- Text up to the first mark. -/
theorem cut_mark : ∀ (p q : List UInt8) (c d : UInt8) (r s : List UInt8), noMark p → noMark q → (c = 44 ∨ c = 58) → (d = 44 ∨ d = 58) → p ++ c :: r = q ++ d :: s → p = q ∧ c = d ∧ r = s
  | [], [], c, d, r, s, _, _, _, _, h => by simp at h; exact ⟨rfl, h⟩
  | [], y :: q, c, d, r, s, _, hq, hc, _, h => by
    simp at h
    have := hq y (by simp)
    rcases hc with e | e <;> (rw [e] at h; exact absurd h.1.symm (by first | exact this.1 | exact this.2))
  | x :: p, [], c, d, r, s, hp, _, _, hd, h => by
    simp at h
    have := hp x (by simp)
    rcases hd with e | e <;> (rw [e] at h; exact absurd h.1 (by first | exact this.1 | exact this.2))
  | x :: p, y :: q, c, d, r, s, hp, hq, hc, hd, h => by
    simp only [List.cons_append, List.cons.injEq] at h
    obtain ⟨h1, h2, h3⟩ := cut_mark p q c d r s (fun c hc => hp c (by simp [hc])) (fun c hc => hq c (by simp [hc])) hc hd h.2
    exact ⟨by rw [h.1, h1], h2, h3⟩

theorem keyArgs_cons (a : Int) (l : List Int) : keyArgs (a :: l) = 44 :: (Lib.itoa a ++ keyArgs l) := by simp [keyArgs]
theorem tail_mark (l : List Int) (s : List UInt8) : ∃ c r, (c = 44 ∨ c = 58) ∧ keyArgs l ++ 58 :: s = c :: r := by
  cases l with
  | nil => exact ⟨58, s, .inr rfl, rfl⟩
  | cons a l => exact ⟨44, _, .inl rfl, by rw [keyArgs_cons]; rfl⟩
theorem tail_inj : ∀ (l m : List Int) (s t : List UInt8), keyArgs l ++ 58 :: s = keyArgs m ++ 58 :: t → l = m ∧ s = t
  | [], [], s, t, h => by simp [keyArgs] at h; exact ⟨rfl, h⟩
  | [], b :: m, s, t, h => by rw [keyArgs_cons] at h; simp [keyArgs] at h
  | a :: l, [], s, t, h => by rw [keyArgs_cons] at h; simp [keyArgs] at h
  | a :: l, b :: m, s, t, h => by
    rw [keyArgs_cons, keyArgs_cons] at h
    simp only [List.cons_append, List.cons.injEq, true_and, List.append_assoc] at h
    obtain ⟨c, r, hc, e1⟩ := tail_mark l s
    obtain ⟨d, q, hd, e2⟩ := tail_mark m t
    rw [e1, e2] at h
    obtain ⟨h1, h2, h3⟩ := cut_mark _ _ c d r q (itoa_noMark a) (itoa_noMark b) hc hd h
    have h4 : keyArgs l ++ 58 :: s = keyArgs m ++ 58 :: t := by rw [e1, e2, h2, h3]
    obtain ⟨h5, h6⟩ := tail_inj l m s t h4
    exact ⟨by rw [itoa_inj h1, h5], h6⟩

theorem keyL_eq (n : Node) : keyL n = Lib.itoa n.op ++ 44 :: (Lib.itoa n.width ++ 44 :: (Lib.decDigits n.val.toNat ++ (keyArgs n.args ++ 58 :: n.name.data.toList))) := by simp [keyL]

theorem keyL_inj {a b : Node} (ha : NodeOk a) (hb : NodeOk b) (h : keyL a = keyL b) : a = b := by
  rw [keyL_eq, keyL_eq] at h
  obtain ⟨h1, _, h⟩ := cut_mark _ _ 44 44 _ _ (itoa_noMark _) (itoa_noMark _) (.inl rfl) (.inl rfl) h
  obtain ⟨h2, _, h⟩ := cut_mark _ _ 44 44 _ _ (itoa_noMark _) (itoa_noMark _) (.inl rfl) (.inl rfl) h
  obtain ⟨c, r, hc, e1⟩ := tail_mark a.args a.name.data.toList
  obtain ⟨d, q, hd, e2⟩ := tail_mark b.args b.name.data.toList
  rw [e1, e2] at h
  obtain ⟨h3, h4, h5⟩ := cut_mark _ _ c d r q (dec_noMark _) (dec_noMark _) hc hd h
  obtain ⟨h6, h7⟩ := tail_inj a.args b.args a.name.data.toList b.name.data.toList (by rw [e1, e2, h4, h5])
  refine node_ext (itoa_inj h1) (itoa_inj h2) ?_ ?_ h6
  · have := decDigits_inj h3; have := ha.val.1; have := hb.val.1; omega
  · exact toList_inj (by rw [toList_data, toList_data]; exact h7)
theorem keyB_inj {a b : Node} (ha : NodeOk a) (hb : NodeOk b) : keyB a = keyB b ↔ a = b := by
  constructor
  · intro h
    refine keyL_inj ha hb ?_
    have := congrArg (fun s : ByteArray => s.data.toList) h
    simpa [keyB] using this
  · rintro rfl; rfl

end Go.Proofs.YtkifedleajacpaaDoor
