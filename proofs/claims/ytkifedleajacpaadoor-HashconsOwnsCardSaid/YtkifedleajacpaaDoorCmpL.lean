/- Comparing integers, byte strings, lists and nodes: plain functions, no program in sight. -/
import Derived.Test.YtkifedleajacpaaDoorBase
import Derived.Lib.RabinKarpLaws
namespace Go.Proofs.YtkifedleajacpaaDoor
open Go.RowKit

def cmpI (a b : Int) : Int := if a < b then -1 else if b < a then 1 else 0
def cmpB (a b : ByteArray) : Int := if Op.bytesLess a.toList b.toList then -1 else if Op.bytesLess a.toList b.toList || a.toList == b.toList then 0 else 1
def cmpL : List Int → List Int → Int
  | [], [] => 0
  | [], _ :: _ => -1
  | _ :: _, [] => 1
  | a :: x, b :: y => if cmpI a b = 0 then cmpL x y else cmpI a b

/-- The first number that is not 0, or 0. -/
def orI : List Int → Int
  | [] => 0
  | a :: l => if a = 0 then orI l else a

def nodeCmp (a b : Node) : Int :=
  orI [cmpI a.op b.op, cmpI a.width b.width, cmpI a.val b.val, cmpB a.name b.name, cmpI a.args.length b.args.length, cmpL a.args b.args]

theorem cmpI_zero {a b : Int} : cmpI a b = 0 ↔ a = b := by unfold cmpI; split <;> (try split) <;> omega
theorem cmpI_self (a : Int) : cmpI a a = 0 := by simp [cmpI]
theorem cmpI_cases (a b : Int) : cmpI a b = -1 ∨ cmpI a b = 0 ∨ cmpI a b = 1 := by unfold cmpI; split <;> (try split) <;> simp
theorem cmpI_neg (a b : Int) : cmpI b a = - cmpI a b := by unfold cmpI; split <;> split <;> (try split) <;> omega

theorem bytesLess_irrefl : ∀ l : List UInt8, Op.bytesLess l l = false
  | [] => rfl
  | a :: l => by simp [Op.bytesLess, bytesLess_irrefl l]
theorem bytesLess_asymm : ∀ a b : List UInt8, Op.bytesLess a b = true → Op.bytesLess b a = false
  | [], [] => by simp [Op.bytesLess]
  | [], _ :: _ => by simp [Op.bytesLess]
  | _ :: _, [] => by simp [Op.bytesLess]
  | a :: x, b :: y => by
    have ih := bytesLess_asymm x y
    simp only [Op.bytesLess, Bool.or_eq_true, Bool.and_eq_true, decide_eq_true_eq, beq_iff_eq, Bool.or_eq_false_iff, Bool.and_eq_false_iff, decide_eq_false_iff_not, UInt8.lt_iff_toNat_lt]
    rintro (h | ⟨h, h2⟩)
    · exact ⟨by omega, .inl (by simp only [beq_eq_false_iff_ne, ne_eq]; rintro rfl; omega)⟩
    · subst h; exact ⟨by omega, .inr (ih h2)⟩
theorem bytesLess_total : ∀ a b : List UInt8, Op.bytesLess a b = false → Op.bytesLess b a = false → a = b
  | [], [] => by simp
  | [], _ :: _ => by simp [Op.bytesLess]
  | _ :: _, [] => by simp [Op.bytesLess]
  | a :: x, b :: y => by
    have ih := bytesLess_total x y
    simp only [Op.bytesLess, Bool.or_eq_false_iff, Bool.and_eq_false_iff, decide_eq_false_iff_not, UInt8.lt_iff_toNat_lt, beq_eq_false_iff_ne, ne_eq]
    rintro ⟨h1, h2⟩ ⟨h3, h4⟩
    have e : a = b := UInt8.toNat_inj.1 (by omega)
    subst e
    simp only [not_true, false_or] at h2 h4
    rw [ih h2 h4]
theorem bytesLess_trans : ∀ a b c : List UInt8, Op.bytesLess a b = true → Op.bytesLess b c = true → Op.bytesLess a c = true
  | [], [], _ => by simp [Op.bytesLess]
  | _ :: _, [], _ => by simp [Op.bytesLess]
  | _, _ :: _, [] => by simp [Op.bytesLess]
  | [], _ :: _, _ :: _ => by simp [Op.bytesLess]
  | a :: x, b :: y, c :: z => by
    have ih := bytesLess_trans x y z
    simp only [Op.bytesLess, Bool.or_eq_true, Bool.and_eq_true, decide_eq_true_eq, beq_iff_eq, UInt8.lt_iff_toNat_lt]
    rintro (h | ⟨h, h2⟩) (k | ⟨k, k2⟩)
    · exact .inl (by omega)
    · subst k; exact .inl h
    · subst h; exact .inl k
    · subst h; subst k; exact .inr ⟨rfl, ih h2 k2⟩

theorem toList_data (s : ByteArray) : s.toList = s.data.toList := ByteArray.toList_eq s

theorem toList_inj {a b : ByteArray} (h : a.toList = b.toList) : a = b := by
  rw [toList_data, toList_data] at h
  cases a; cases b; simp_all [Array.toList_inj]

theorem cmpB_zero {a b : ByteArray} : cmpB a b = 0 ↔ a = b := by
  unfold cmpB
  constructor
  · intro h
    by_cases h1 : Op.bytesLess a.toList b.toList = true
    · simp [h1] at h
    · by_cases h2 : (a.toList == b.toList) = true
      · exact toList_inj (by simpa using h2)
      · simp [h1, h2] at h
  · rintro rfl
    simp [bytesLess_irrefl]
theorem cmpB_cases (a b : ByteArray) : cmpB a b = -1 ∨ cmpB a b = 0 ∨ cmpB a b = 1 := by unfold cmpB; split <;> (try split) <;> simp
theorem cmpB_neg (a b : ByteArray) : cmpB b a = - cmpB a b := by
  by_cases h : a = b
  · subst h; rw [cmpB_zero.2 rfl]; rfl
  · have hn : ¬ a.toList = b.toList := fun e => h (toList_inj e)
    have hn' : ¬ b.toList = a.toList := fun e => hn e.symm
    unfold cmpB
    by_cases h1 : Op.bytesLess a.toList b.toList = true
    · simp [h1, bytesLess_asymm _ _ h1, hn']
    · have h2 : Op.bytesLess b.toList a.toList = true := by
        rcases hb : Op.bytesLess b.toList a.toList with _ | _
        · exact absurd (bytesLess_total _ _ (by simpa using h1) hb) hn
        · rfl
      simp [h1, h2, hn]

theorem cmpL_zero : ∀ {a b : List Int}, cmpL a b = 0 ↔ a = b
  | [], [] => by simp [cmpL]
  | [], _ :: _ => by simp [cmpL]
  | _ :: _, [] => by simp [cmpL]
  | a :: x, b :: y => by
    unfold cmpL
    by_cases h : cmpI a b = 0
    · rw [if_pos h, cmpL_zero, cmpI_zero.1 h]; simp
    · rw [if_neg h]; simp only [List.cons.injEq]; exact ⟨fun e => absurd e h, fun e => absurd (cmpI_zero.2 e.1) h⟩
theorem cmpL_cases : ∀ (a b : List Int), cmpL a b = -1 ∨ cmpL a b = 0 ∨ cmpL a b = 1
  | [], [] => by simp [cmpL]
  | [], _ :: _ => by simp [cmpL]
  | _ :: _, [] => by simp [cmpL]
  | a :: x, b :: y => by unfold cmpL; split; exact cmpL_cases x y; exact cmpI_cases a b
theorem cmpL_neg : ∀ (a b : List Int), cmpL b a = - cmpL a b
  | [], [] => by simp [cmpL]
  | [], _ :: _ => by simp [cmpL]
  | _ :: _, [] => by simp [cmpL]
  | a :: x, b :: y => by
    unfold cmpL
    rw [cmpI_neg a b, cmpL_neg x y]
    by_cases h : cmpI a b = 0 <;> simp [h]

theorem orI_nil : orI [] = 0 := rfl

/-- What a comparison by parts needs of each part: three answers, and the signs turn with the sides. -/
theorem orI_neg : ∀ (l m : List Int), l.length = m.length → (∀ i, m.getD i 0 = - l.getD i 0) → orI m = - orI l
  | [], [], _, _ => rfl
  | a :: l, b :: m, hl, h => by
    have h0 : b = -a := by simpa using h 0
    unfold orI
    rw [orI_neg l m (by simpa using hl) (fun i => by simpa using h (i + 1)), h0]
    by_cases h0 : a = 0 <;> simp [h0]

theorem nodeCmp_neg (a b : Node) : nodeCmp b a = - nodeCmp a b := by
  unfold nodeCmp
  refine orI_neg _ _ rfl (fun i => ?_)
  match i with
  | 0 => exact cmpI_neg _ _
  | 1 => exact cmpI_neg _ _
  | 2 => exact cmpI_neg _ _
  | 3 => exact cmpB_neg _ _
  | 4 => exact cmpI_neg _ _
  | 5 => exact cmpL_neg _ _
  | _ + 6 => simp

theorem orI_zero : ∀ (l : List Int), orI l = 0 ↔ ∀ x ∈ l, x = 0
  | [] => by simp [orI]
  | a :: l => by
    unfold orI
    by_cases h : a = 0
    · simp [h, orI_zero l]
    · simp [h]
theorem orI_cases : ∀ (l : List Int), (∀ x ∈ l, x = -1 ∨ x = 0 ∨ x = 1) → orI l = -1 ∨ orI l = 0 ∨ orI l = 1
  | [], _ => by simp [orI]
  | a :: l, h => by
    unfold orI
    split
    · exact orI_cases l (fun x hx => h x (by simp [hx]))
    · exact h a (by simp)

theorem node_ext {a b : Node} (h1 : a.op = b.op) (h2 : a.width = b.width) (h3 : a.val = b.val) (h4 : a.name = b.name) (h5 : a.args = b.args) : a = b := by
  cases a; cases b; simp_all

theorem nodeCmp_zero {a b : Node} : nodeCmp a b = 0 ↔ a = b := by
  unfold nodeCmp
  rw [orI_zero]
  simp only [List.mem_cons, List.not_mem_nil, or_false, forall_eq_or_imp, forall_eq, cmpI_zero, cmpB_zero, cmpL_zero]
  exact ⟨fun ⟨h1, h2, h3, h4, _, h5⟩ => node_ext h1 h2 h3 h4 h5, by rintro rfl; simp⟩
theorem nodeCmp_cases (a b : Node) : nodeCmp a b = -1 ∨ nodeCmp a b = 0 ∨ nodeCmp a b = 1 := by
  refine orI_cases _ fun x hx => ?_
  simp only [List.mem_cons, List.not_mem_nil, or_false] at hx
  rcases hx with rfl | rfl | rfl | rfl | rfl | rfl
  · exact cmpI_cases _ _
  · exact cmpI_cases _ _
  · exact cmpI_cases _ _
  · exact cmpB_cases _ _
  · exact cmpI_cases _ _
  · exact cmpL_cases _ _

/-- less or equal, by parts, is transitive: a strict step anywhere stays strict. -/
def LeT (x y z : Int) : Prop := x ≤ 0 → y ≤ 0 → z ≤ 0 ∧ (x < 0 ∨ y < 0 → z < 0)

theorem tr_core {p q r p' q' r' : Int} (h : LeT p q r) (hz : p = 0 → q = 0 → r = 0) (ih : LeT p' q' r') : LeT (if p = 0 then p' else p) (if q = 0 then q' else q) (if r = 0 then r' else r) := by
  intro h1 h2
  by_cases hp : p = 0 <;> by_cases hq : q = 0
  · rw [if_pos hp] at h1 ⊢; rw [if_pos hq] at h2 ⊢; rw [if_pos (hz hp hq)]; exact ih h1 h2
  all_goals
    simp only [hp, hq, if_true, if_false] at h1 h2 ⊢
    obtain ⟨h3, h4⟩ := h (by omega) (by omega)
    have h5 := h4 (by omega)
    rw [if_neg (by omega)]
    exact ⟨by omega, fun _ => h5⟩
theorem cmpI_tr (a b c : Int) : LeT (cmpI a b) (cmpI b c) (cmpI a c) := by
  unfold LeT cmpI; split <;> (try split) <;> split <;> (try split) <;> (try split) <;> (try split) <;> omega
theorem cmpB_lt {a b : ByteArray} : cmpB a b < 0 ↔ Op.bytesLess a.toList b.toList = true := by
  unfold cmpB; split <;> (try split) <;> simp_all
theorem cmpB_le {a b : ByteArray} : cmpB a b ≤ 0 ↔ (Op.bytesLess a.toList b.toList = true ∨ a = b) := by
  constructor
  · intro h
    rcases cmpB_cases a b with e | e | e
    · exact .inl (cmpB_lt.1 (by omega))
    · exact .inr (cmpB_zero.1 e)
    · omega
  · rintro (h | rfl)
    · have := cmpB_lt.2 h; omega
    · rw [cmpB_zero.2 rfl]; omega
theorem cmpB_tr (a b c : ByteArray) : LeT (cmpB a b) (cmpB b c) (cmpB a c) := by
  intro h1 h2
  rcases cmpB_le.1 h1 with h1' | rfl
  · rcases cmpB_le.1 h2 with h2' | rfl
    · have := cmpB_lt.2 (bytesLess_trans _ _ _ h1' h2'); exact ⟨by omega, fun _ => this⟩
    · have := cmpB_lt.2 h1'; exact ⟨by omega, fun _ => this⟩
  · refine ⟨h2, fun h => ?_⟩
    rw [cmpB_zero.2 rfl] at h; omega
theorem cmpL_tr : ∀ (a b c : List Int), LeT (cmpL a b) (cmpL b c) (cmpL a c)
  | [], [], [] => by simp [LeT, cmpL]
  | [], [], _ :: _ => by simp [LeT, cmpL]
  | [], _ :: _, [] => by simp [LeT, cmpL]
  | [], _ :: _, _ :: _ => by simp [LeT, cmpL]
  | _ :: _, [], _ => by simp [LeT, cmpL]
  | _ :: _, _ :: _, [] => by simp [LeT, cmpL]
  | a :: x, b :: y, c :: z => by
    have ih := cmpL_tr x y z
    have h := cmpI_tr a b c
    have hz : cmpI a b = 0 → cmpI b c = 0 → cmpI a c = 0 := fun e1 e2 => cmpI_zero.2 ((cmpI_zero.1 e1).trans (cmpI_zero.1 e2))
    unfold cmpL
    exact tr_core h hz ih

theorem orI_tr : ∀ (l m n : List Int), l.length = m.length → m.length = n.length → (∀ i, LeT (l.getD i 0) (m.getD i 0) (n.getD i 0)) → (∀ i, l.getD i 0 = 0 → m.getD i 0 = 0 → n.getD i 0 = 0) → LeT (orI l) (orI m) (orI n)
  | [], [], [], _, _, _, _ => by simp [LeT, orI]
  | a :: l, b :: m, c :: n, h1, h2, h, hz => by
    have ih := orI_tr l m n (by simpa using h1) (by simpa using h2) (fun i => by simpa using h (i + 1)) (fun i => by simpa using hz (i + 1))
    have h0 : LeT a b c := by simpa using h 0
    have z0 : a = 0 → b = 0 → c = 0 := by simpa using hz 0
    unfold orI
    exact tr_core h0 z0 ih

theorem nodeCmp_tr (a b c : Node) : LeT (nodeCmp a b) (nodeCmp b c) (nodeCmp a c) := by
  unfold nodeCmp
  refine orI_tr _ _ _ rfl rfl (fun i => ?_) (fun i => ?_)
  · match i with
    | 0 => exact cmpI_tr _ _ _
    | 1 => exact cmpI_tr _ _ _
    | 2 => exact cmpI_tr _ _ _
    | 3 => exact cmpB_tr _ _ _
    | 4 => exact cmpI_tr _ _ _
    | 5 => exact cmpL_tr _ _ _
    | _ + 6 => simp [LeT]
  · match i with
    | 0 => simp only [List.getD_cons_zero, cmpI_zero]; exact fun h k => h.trans k
    | 1 => simp only [List.getD_cons_zero, List.getD_cons_succ, cmpI_zero]; exact fun h k => h.trans k
    | 2 => simp only [List.getD_cons_zero, List.getD_cons_succ, cmpI_zero]; exact fun h k => h.trans k
    | 3 => simp only [List.getD_cons_zero, List.getD_cons_succ, cmpB_zero]; exact fun h k => h.trans k
    | 4 => simp only [List.getD_cons_zero, List.getD_cons_succ, cmpI_zero]; exact fun h k => h.trans k
    | 5 => simp only [List.getD_cons_zero, List.getD_cons_succ, cmpL_zero]; exact fun h k => h.trans k
    | _ + 6 => simp

end Go.Proofs.YtkifedleajacpaaDoor
