import Derived.Test.YtlekoceindepnaaGreatDoorPk0
import Derived.BigQuiet
import Derived.Deep.QuietTactic
import Derived.Deep.RegionHeld3
import Derived.KernelRfl
import Derived.Lib.RabinKarpLaws
import Derived.Maps.AppendAt
import Derived.StillTailTactics
import Derived.Test.YtlekoceindepnaaGreatDoorProg
set_option linter.all false
section
/- The walk of opinfo.Width, whole. -/
namespace Go.Proofs.YtlekoceindepnaaGreatDoor
open Go.RowKit
set_option maxRecDepth 100000

theorem opW_un {op x val : Int} {a : List Int} (h : knownS op = false ∨ (a.length : Int) ≠ ariS op) : opW op x val a = (0, 4) := by unfold opW; rw [if_pos h]
theorem opW_out {op x val : Int} {a : List Int} (hk : knownS op = true) (ha : (a.length : Int) = ariS op) {k : Nat} (hlt : k < a.length) (hy : insideS (a.getD k 0) = false) : opW op x val a = (0, 3) := by
  unfold opW
  rw [if_neg (by simp [hk, ha]), if_pos]
  rw [List.any_eq_true]
  refine ⟨a[k], List.getElem_mem _, ?_⟩
  rw [List.getD_eq_getElem?_getD, List.getElem?_eq_getElem hlt] at hy
  simpa using hy
theorem getD_mem {a : List Int} {k : Nat} (h : k < a.length) : a.getD k 0 ∈ a := by
  rw [List.getD_eq_getElem?_getD, List.getElem?_eq_getElem h]; exact List.getElem_mem _
theorem all_of {a : List Int} (h : ∀ k, k < a.length → insideS (a.getD k 0) = true) : ∀ y ∈ a, 0 ≤ y ∧ y ≤ 64 := fun y hy => by
  obtain ⟨k, hk, rfl⟩ := List.mem_iff_getElem.1 hy
  have := h k hk
  rw [List.getD_eq_getElem?_getD, List.getElem?_eq_getElem hk] at this
  exact insideS_iff.1 this
theorem len0 {a : List Int} (h : a.length = 0) : a = [] := List.eq_nil_of_length_eq_zero h
theorem len1 {a : List Int} (h : a.length = 1) : ∃ x, a = [x] := by
  match a, h with
  | [x], _ => exact ⟨x, rfl⟩
theorem len2 {a : List Int} (h : a.length = 2) : ∃ x y, a = [x, y] := by
  match a, h with
  | [x, y], _ => exact ⟨x, y, rfl⟩
theorem len3 {a : List Int} (h : a.length = 3) : ∃ x y z, a = [x, y, z] := by
  match a, h with
  | [x, y, z], _ => exact ⟨x, y, z, rfl⟩
theorem ari_cases (op : Int) (hk : knownS op = true) : (ariS op = 0 ∧ (op = 1 ∨ op = 2 ∨ op = 24 ∨ op = 25)) ∨ (ariS op = 1 ∧ (op = 3 ∨ op = 4 ∨ op = 26)) ∨ (ariS op = 1 ∧ (op = 21 ∨ op = 22 ∨ op = 23)) ∨ (ariS op = 3 ∧ op = 19) ∨ (ariS op = 2 ∧ op = 20) ∨ (ariS op = 2 ∧ (op = 16 ∨ op = 17 ∨ op = 18)) ∨ (ariS op = 2 ∧ 5 ≤ op ∧ op ≤ 15) := by
  simp only [knownS, decide_eq_true_eq] at hk
  unfold ariS
  rw [if_neg (by omega)]
  by_cases h0 : op = 1 ∨ op = 2 ∨ op = 24 ∨ op = 25
  · rw [if_pos h0]; exact .inl ⟨rfl, h0⟩
  rw [if_neg h0]
  by_cases h1 : op = 3 ∨ op = 4 ∨ op = 21 ∨ op = 22 ∨ op = 23 ∨ op = 26
  · rw [if_pos h1]
    by_cases h2 : op = 3 ∨ op = 4 ∨ op = 26
    · exact .inr (.inl ⟨rfl, h2⟩)
    · exact .inr (.inr (.inl ⟨rfl, by omega⟩))
  rw [if_neg h1]
  by_cases h2 : op = 19
  · rw [if_pos h2]; exact .inr (.inr (.inr (.inl ⟨rfl, h2⟩)))
  rw [if_neg h2]
  by_cases h3 : op = 20
  · exact .inr (.inr (.inr (.inr (.inl ⟨rfl, h3⟩))))
  by_cases h4 : op = 16 ∨ op = 17 ∨ op = 18
  · exact .inr (.inr (.inr (.inr (.inr (.inl ⟨rfl, h4⟩)))))
  · exact .inr (.inr (.inr (.inr (.inr (.inr ⟨rfl, by omega, by omega⟩)))))

set_option maxHeartbeats 2000000 in
theorem width_any (M : Nat → Prop) (op x val : Int) (v : Value) (w : World) (a : List Int) (h : RdI M w v a) (hl : a.length ≤ 1000000) :
    Calls Tryz.prog 55 #[.int .i64 op, .int .i64 x, .int .u64 val, v] w fun e w' => e = .returned (pairV (opW op x val a)) ∧ Fr NoB w w' := by
  by_cases hk : knownS op = true
  rotate_left
  · have hk : knownS op = false := by simpa using hk
    obtain ⟨p, c, rfl⟩ := h.form
    rw [opW_un (.inl hk)]
    clear h
    go_enter Tryz.func55, Tryz.ntmps55
    go_wp2_with (go_at_call 76; refine (known_any op _).mono ?_; rintro e w9 ⟨rfl, h9⟩; have h9 := h9.symm; subst h9)
    go_ret2
    exact ⟨rfl, Fr.refl _ _⟩
  by_cases ha : (a.length : Int) = ariS op
  rotate_left
  · have hq : ((a.length : Int) != ariS op) = true := by simpa using ha
    obtain ⟨p, c, rfl⟩ := h.form
    rw [opW_un (.inr ha)]
    clear h ha
    go_enter Tryz.func55, Tryz.ntmps55
    go_wp2_with (first | (go_at_call 76; refine (known_any op _).mono ?_; rintro e w9 ⟨rfl, h9⟩; have h9 := h9.symm; subst h9) | (go_at_call 52; refine (arity_any op _).mono ?_; rintro e w9 ⟨rfl, h9⟩; have h9 := h9.symm; subst h9))
    go_ret2
    exact ⟨rfl, Fr.refl _ _⟩
  by_cases hin : ∀ k, k < a.length → insideS (a.getD k 0) = true
  · have hb := all_of hin
    clear hin
    rcases ari_cases op hk with ⟨e, hop⟩ | ⟨e, hop⟩ | ⟨e, hop⟩ | ⟨e, hop⟩ | ⟨e, hop⟩ | ⟨e, hop⟩ | ⟨e, hop⟩
    · obtain rfl := len0 (a := a) (by omega)
      exact width_leaf M op x val v w h hop hk e
    · obtain ⟨y, rfl⟩ := len1 (a := a) (by omega)
      exact width_un M op x val v w y h hop hk e (hb y (by simp))
    · obtain ⟨y, rfl⟩ := len1 (a := a) (by omega)
      exact width_ext M op x val v w y h hop hk e (hb y (by simp))
    · obtain ⟨y, z, u, rfl⟩ := len3 (a := a) (by omega)
      exact width_ite M op x val v w y z u h hop hk e (hb y (by simp)) (hb z (by simp)) (hb u (by simp))
    · obtain ⟨y, z, rfl⟩ := len2 (a := a) (by omega)
      exact width_cat M op x val v w y z h hop hk e (hb y (by simp)) (hb z (by simp))
    · obtain ⟨y, z, rfl⟩ := len2 (a := a) (by omega)
      exact width_cmp M op x val v w y z h hop hk e (hb y (by simp)) (hb z (by simp))
    · obtain ⟨y, z, rfl⟩ := len2 (a := a) (by omega)
      exact width_bin M op x val v w y z h hop hk e (hb y (by simp)) (hb z (by simp))
  · have HIN := hid hin
    have HA := hid ha
    have HH := hid h
    have hq : ((a.length : Int) != ariS op) = false := by simpa using ha
    obtain ⟨p, c, rfl⟩ := h.form
    clear h hin ha
    go_enter Tryz.func55, Tryz.ntmps55
    go_wp2_with (first | (go_at_call 76; refine (known_any op _).mono ?_; rintro e w9 ⟨rfl, h9⟩; have h9 := h9.symm; subst h9) | (go_at_call 52; refine (arity_any op _).mono ?_; rintro e w9 ⟨rfl, h9⟩; have h9 := h9.symm; subst h9))
    go_loop [24] (fun i => ∃ k : Nat, k ≤ a.length ∧ i = .int .i64 k ∧ ∀ j, j < k → insideS (a.getD j 0) = true) (fun i => a.length - (intOf i).toNat)
    case atStart => exact ⟨0, Nat.zero_le _, rfl, fun j h => by omega⟩
    case round =>
      obtain ⟨k, hkn, rfl, hall⟩ := hrel
      have HALL := hid hall
      clear hall
      by_cases hlt : k < a.length
      · obtain ⟨b, off, rfl, _, hc⟩ := HH.out.lit2 (by omega)
        have hck := hc k hlt
        clear hc
        obtain ⟨y, hy⟩ : ∃ y, a.getD k 0 = y := ⟨_, rfl⟩
        rw [hy] at hck
        have HY := hid hy
        clear hy
        cases hyi : insideS y with
        | true =>
          go_wp2_with (go_at_call 77; refine (inside_any y _).mono ?_; rintro e w9 ⟨rfl, h9⟩; have h9 := h9.symm; subst h9)
          go_round
          case rel => exact ⟨k + 1, by omega, by go_num, fun j hj => by
            by_cases e : j = k
            · subst e; rw [HY.out]; exact hyi
            · exact HALL.out j (by omega)⟩
          case measure => simp [intOf]; omega
        | false =>
          have HF := hid hyi
          go_wp2_with (go_at_call 77; refine (inside_any y _).mono ?_; rintro e w9 ⟨rfl, h9⟩; have h9 := h9.symm; subst h9)
          go_ret2
          exact ⟨ret_pair (opW_out hk HA.out hlt (by rw [HY.out]; exact HF.out)), Fr.refl _ _⟩
      · exact absurd (fun j hj => HALL.out j (by omega)) HIN.out

end Go.Proofs.YtlekoceindepnaaGreatDoor
end
section
/- The walk of the reference's Width. -/
namespace Go.Proofs.YtlekoceindepnaaGreatDoor
open Go.RowKit
set_option maxRecDepth 100000

theorem RdI.lit3 {M : Nat → Prop} {w : World} {p : Option Addr} {n c : Nat} {l : List Int} (h : RdI M w (.slice p n c) l) (hn : 0 < l.length) : ∃ b off, p = some ⟨b, off, none⟩ ∧ b < w.heap.size ∧ ∀ i, i < l.length → w.cell? ⟨b, off + i, none⟩ = some (.int .i64 (l.getD i 0)) := by
  rcases h with ⟨_, h2⟩ | ⟨b, off, cap, h1, h2, _, _, hc⟩
  · rw [h2] at hn; simp at hn
  · simp only [Value.slice.injEq] at h1
    obtain ⟨rfl, rfl, rfl⟩ := h1
    exact ⟨b, off, rfl, h2, hc⟩
theorem cell_in {w W : World} {b off : Nat} (F : Fr NoB w W) (hb : b < w.heap.size) {l : List Int} (hc : ∀ i, i < l.length → w.cell? ⟨b, off + i, none⟩ = some (.int .i64 (l.getD i 0))) (hin : ∀ y ∈ l, 0 ≤ y ∧ y ≤ 64) {k : Nat} (hk : k < l.length) :
    ∃ y, W.cell? ⟨b, off + k, none⟩ = some (.int .i64 y) ∧ insideS y = true :=
  ⟨_, F.c hb (fun h => h) (hc k hk), insideS_iff.2 (hin _ (getD_mem hk))⟩

end Go.Proofs.YtlekoceindepnaaGreatDoor
end
section
/- The walk of the reference's Width, whole. -/
namespace Go.Proofs.YtlekoceindepnaaGreatDoor
open Go.RowKit
set_option maxRecDepth 100000

theorem ari_unknown {op : Int} (h : knownS op = false) : ariS op = -1 := by
  simp only [knownS, decide_eq_false_iff_not] at h
  unfold ariS
  rw [if_pos (by omega)]
theorem ari_nonneg {op : Int} (h : knownS op = true) : 0 ≤ ariS op := by
  rcases ari_cases op h with ⟨e, _⟩ | ⟨e, _⟩ | ⟨e, _⟩ | ⟨e, _⟩ | ⟨e, _⟩ | ⟨e, _⟩ | ⟨e, _⟩ <;> omega

end Go.Proofs.YtlekoceindepnaaGreatDoor
end
section
/- Comparing integers, byte strings, lists and nodes: plain functions, no program in sight. -/
namespace Go.Proofs.YtlekoceindepnaaGreatDoor
open Go.RowKit

def cmpI (a b : Int) : Int := if a < b then -1 else if b < a then 1 else 0
def cmpB (a b : ByteArray) : Int := if Op.bytesLess a.toList b.toList then -1 else if Op.bytesLess a.toList b.toList || a.toList == b.toList then 0 else 1
def cmpL : List Int → List Int → Int
  | [], [] => 0
  | [], _ :: _ => -1
  | _ :: _, [] => 1
  | a :: x, b :: y => if cmpI a b = 0 then cmpL x y else cmpI a b

/-- The first number that is not 0, or 0. -/
def orI : List Int → Int
  | [] => 0
  | a :: l => if a = 0 then orI l else a

def nodeCmp (a b : Node) : Int :=
  orI [cmpI a.op b.op, cmpI a.width b.width, cmpI a.val b.val, cmpB a.name b.name, cmpI a.args.length b.args.length, cmpL a.args b.args]

theorem cmpI_zero {a b : Int} : cmpI a b = 0 ↔ a = b := by unfold cmpI; split <;> (try split) <;> omega
theorem cmpI_self (a : Int) : cmpI a a = 0 := by simp [cmpI]
theorem cmpI_cases (a b : Int) : cmpI a b = -1 ∨ cmpI a b = 0 ∨ cmpI a b = 1 := by unfold cmpI; split <;> (try split) <;> simp
theorem cmpI_neg (a b : Int) : cmpI b a = - cmpI a b := by unfold cmpI; split <;> split <;> (try split) <;> omega

theorem bytesLess_irrefl : ∀ l : List UInt8, Op.bytesLess l l = false
  | [] => rfl
  | a :: l => by simp [Op.bytesLess, bytesLess_irrefl l]
theorem bytesLess_asymm : ∀ a b : List UInt8, Op.bytesLess a b = true → Op.bytesLess b a = false
  | [], [] => by simp [Op.bytesLess]
  | [], _ :: _ => by simp [Op.bytesLess]
  | _ :: _, [] => by simp [Op.bytesLess]
  | a :: x, b :: y => by
    have ih := bytesLess_asymm x y
    simp only [Op.bytesLess, Bool.or_eq_true, Bool.and_eq_true, decide_eq_true_eq, beq_iff_eq, Bool.or_eq_false_iff, Bool.and_eq_false_iff, decide_eq_false_iff_not, UInt8.lt_iff_toNat_lt]
    rintro (h | ⟨h, h2⟩)
    · exact ⟨by omega, .inl (by simp only [beq_eq_false_iff_ne, ne_eq]; rintro rfl; omega)⟩
    · subst h; exact ⟨by omega, .inr (ih h2)⟩
theorem bytesLess_total : ∀ a b : List UInt8, Op.bytesLess a b = false → Op.bytesLess b a = false → a = b
  | [], [] => by simp
  | [], _ :: _ => by simp [Op.bytesLess]
  | _ :: _, [] => by simp [Op.bytesLess]
  | a :: x, b :: y => by
    have ih := bytesLess_total x y
    simp only [Op.bytesLess, Bool.or_eq_false_iff, Bool.and_eq_false_iff, decide_eq_false_iff_not, UInt8.lt_iff_toNat_lt, beq_eq_false_iff_ne, ne_eq]
    rintro ⟨h1, h2⟩ ⟨h3, h4⟩
    have e : a = b := UInt8.toNat_inj.1 (by omega)
    subst e
    simp only [not_true, false_or] at h2 h4
    rw [ih h2 h4]
theorem bytesLess_trans : ∀ a b c : List UInt8, Op.bytesLess a b = true → Op.bytesLess b c = true → Op.bytesLess a c = true
  | [], [], _ => by simp [Op.bytesLess]
  | _ :: _, [], _ => by simp [Op.bytesLess]
  | _, _ :: _, [] => by simp [Op.bytesLess]
  | [], _ :: _, _ :: _ => by simp [Op.bytesLess]
  | a :: x, b :: y, c :: z => by
    have ih := bytesLess_trans x y z
    simp only [Op.bytesLess, Bool.or_eq_true, Bool.and_eq_true, decide_eq_true_eq, beq_iff_eq, UInt8.lt_iff_toNat_lt]
    rintro (h | ⟨h, h2⟩) (k | ⟨k, k2⟩)
    · exact .inl (by omega)
    · subst k; exact .inl h
    · subst h; exact .inl k
    · subst h; subst k; exact .inr ⟨rfl, ih h2 k2⟩

theorem toList_data (s : ByteArray) : s.toList = s.data.toList := ByteArray.toList_eq s

theorem toList_inj {a b : ByteArray} (h : a.toList = b.toList) : a = b := by
  rw [toList_data, toList_data] at h
  cases a; cases b; simp_all [Array.toList_inj]

theorem cmpB_zero {a b : ByteArray} : cmpB a b = 0 ↔ a = b := by
  unfold cmpB
  constructor
  · intro h
    by_cases h1 : Op.bytesLess a.toList b.toList = true
    · simp [h1] at h
    · by_cases h2 : (a.toList == b.toList) = true
      · exact toList_inj (by simpa using h2)
      · simp [h1, h2] at h
  · rintro rfl
    simp [bytesLess_irrefl]
theorem cmpB_cases (a b : ByteArray) : cmpB a b = -1 ∨ cmpB a b = 0 ∨ cmpB a b = 1 := by unfold cmpB; split <;> (try split) <;> simp
theorem cmpB_neg (a b : ByteArray) : cmpB b a = - cmpB a b := by
  by_cases h : a = b
  · subst h; rw [cmpB_zero.2 rfl]; rfl
  · have hn : ¬ a.toList = b.toList := fun e => h (toList_inj e)
    have hn' : ¬ b.toList = a.toList := fun e => hn e.symm
    unfold cmpB
    by_cases h1 : Op.bytesLess a.toList b.toList = true
    · simp [h1, bytesLess_asymm _ _ h1, hn']
    · have h2 : Op.bytesLess b.toList a.toList = true := by
        rcases hb : Op.bytesLess b.toList a.toList with _ | _
        · exact absurd (bytesLess_total _ _ (by simpa using h1) hb) hn
        · rfl
      simp [h1, h2, hn]

theorem cmpL_zero : ∀ {a b : List Int}, cmpL a b = 0 ↔ a = b
  | [], [] => by simp [cmpL]
  | [], _ :: _ => by simp [cmpL]
  | _ :: _, [] => by simp [cmpL]
  | a :: x, b :: y => by
    unfold cmpL
    by_cases h : cmpI a b = 0
    · rw [if_pos h, cmpL_zero, cmpI_zero.1 h]; simp
    · rw [if_neg h]; simp only [List.cons.injEq]; exact ⟨fun e => absurd e h, fun e => absurd (cmpI_zero.2 e.1) h⟩
theorem cmpL_cases : ∀ (a b : List Int), cmpL a b = -1 ∨ cmpL a b = 0 ∨ cmpL a b = 1
  | [], [] => by simp [cmpL]
  | [], _ :: _ => by simp [cmpL]
  | _ :: _, [] => by simp [cmpL]
  | a :: x, b :: y => by unfold cmpL; split; exact cmpL_cases x y; exact cmpI_cases a b
theorem cmpL_neg : ∀ (a b : List Int), cmpL b a = - cmpL a b
  | [], [] => by simp [cmpL]
  | [], _ :: _ => by simp [cmpL]
  | _ :: _, [] => by simp [cmpL]
  | a :: x, b :: y => by
    unfold cmpL
    rw [cmpI_neg a b, cmpL_neg x y]
    by_cases h : cmpI a b = 0 <;> simp [h]

theorem orI_nil : orI [] = 0 := rfl

/-- What a comparison by parts needs of each part: three answers, and the signs turn with the sides. -/
theorem orI_neg : ∀ (l m : List Int), l.length = m.length → (∀ i, m.getD i 0 = - l.getD i 0) → orI m = - orI l
  | [], [], _, _ => rfl
  | a :: l, b :: m, hl, h => by
    have h0 : b = -a := by simpa using h 0
    unfold orI
    rw [orI_neg l m (by simpa using hl) (fun i => by simpa using h (i + 1)), h0]
    by_cases h0 : a = 0 <;> simp [h0]

theorem nodeCmp_neg (a b : Node) : nodeCmp b a = - nodeCmp a b := by
  unfold nodeCmp
  refine orI_neg _ _ rfl (fun i => ?_)
  match i with
  | 0 => exact cmpI_neg _ _
  | 1 => exact cmpI_neg _ _
  | 2 => exact cmpI_neg _ _
  | 3 => exact cmpB_neg _ _
  | 4 => exact cmpI_neg _ _
  | 5 => exact cmpL_neg _ _
  | _ + 6 => simp

theorem orI_zero : ∀ (l : List Int), orI l = 0 ↔ ∀ x ∈ l, x = 0
  | [] => by simp [orI]
  | a :: l => by
    unfold orI
    by_cases h : a = 0
    · simp [h, orI_zero l]
    · simp [h]
theorem orI_cases : ∀ (l : List Int), (∀ x ∈ l, x = -1 ∨ x = 0 ∨ x = 1) → orI l = -1 ∨ orI l = 0 ∨ orI l = 1
  | [], _ => by simp [orI]
  | a :: l, h => by
    unfold orI
    split
    · exact orI_cases l (fun x hx => h x (by simp [hx]))
    · exact h a (by simp)

theorem node_ext {a b : Node} (h1 : a.op = b.op) (h2 : a.width = b.width) (h3 : a.val = b.val) (h4 : a.name = b.name) (h5 : a.args = b.args) : a = b := by
  cases a; cases b; simp_all

theorem nodeCmp_zero {a b : Node} : nodeCmp a b = 0 ↔ a = b := by
  unfold nodeCmp
  rw [orI_zero]
  simp only [List.mem_cons, List.not_mem_nil, or_false, forall_eq_or_imp, forall_eq, cmpI_zero, cmpB_zero, cmpL_zero]
  exact ⟨fun ⟨h1, h2, h3, h4, _, h5⟩ => node_ext h1 h2 h3 h4 h5, by rintro rfl; simp⟩
theorem nodeCmp_cases (a b : Node) : nodeCmp a b = -1 ∨ nodeCmp a b = 0 ∨ nodeCmp a b = 1 := by
  refine orI_cases _ fun x hx => ?_
  simp only [List.mem_cons, List.not_mem_nil, or_false] at hx
  rcases hx with rfl | rfl | rfl | rfl | rfl | rfl
  · exact cmpI_cases _ _
  · exact cmpI_cases _ _
  · exact cmpI_cases _ _
  · exact cmpB_cases _ _
  · exact cmpI_cases _ _
  · exact cmpL_cases _ _

/-- less or equal, by parts, is transitive: a strict step anywhere stays strict. -/
def LeT (x y z : Int) : Prop := x ≤ 0 → y ≤ 0 → z ≤ 0 ∧ (x < 0 ∨ y < 0 → z < 0)

theorem tr_core {p q r p' q' r' : Int} (h : LeT p q r) (hz : p = 0 → q = 0 → r = 0) (ih : LeT p' q' r') : LeT (if p = 0 then p' else p) (if q = 0 then q' else q) (if r = 0 then r' else r) := by
  intro h1 h2
  by_cases hp : p = 0 <;> by_cases hq : q = 0
  · rw [if_pos hp] at h1 ⊢; rw [if_pos hq] at h2 ⊢; rw [if_pos (hz hp hq)]; exact ih h1 h2
  all_goals
    simp only [hp, hq, if_true, if_false] at h1 h2 ⊢
    obtain ⟨h3, h4⟩ := h (by omega) (by omega)
    have h5 := h4 (by omega)
    rw [if_neg (by omega)]
    exact ⟨by omega, fun _ => h5⟩
theorem cmpI_tr (a b c : Int) : LeT (cmpI a b) (cmpI b c) (cmpI a c) := by
  unfold LeT cmpI; split <;> (try split) <;> split <;> (try split) <;> (try split) <;> (try split) <;> omega
theorem cmpB_lt {a b : ByteArray} : cmpB a b < 0 ↔ Op.bytesLess a.toList b.toList = true := by
  unfold cmpB; split <;> (try split) <;> simp_all
theorem cmpB_le {a b : ByteArray} : cmpB a b ≤ 0 ↔ (Op.bytesLess a.toList b.toList = true ∨ a = b) := by
  constructor
  · intro h
    rcases cmpB_cases a b with e | e | e
    · exact .inl (cmpB_lt.1 (by omega))
    · exact .inr (cmpB_zero.1 e)
    · omega
  · rintro (h | rfl)
    · have := cmpB_lt.2 h; omega
    · rw [cmpB_zero.2 rfl]; omega
theorem cmpB_tr (a b c : ByteArray) : LeT (cmpB a b) (cmpB b c) (cmpB a c) := by
  intro h1 h2
  rcases cmpB_le.1 h1 with h1' | rfl
  · rcases cmpB_le.1 h2 with h2' | rfl
    · have := cmpB_lt.2 (bytesLess_trans _ _ _ h1' h2'); exact ⟨by omega, fun _ => this⟩
    · have := cmpB_lt.2 h1'; exact ⟨by omega, fun _ => this⟩
  · refine ⟨h2, fun h => ?_⟩
    rw [cmpB_zero.2 rfl] at h; omega
theorem cmpL_tr : ∀ (a b c : List Int), LeT (cmpL a b) (cmpL b c) (cmpL a c)
  | [], [], [] => by simp [LeT, cmpL]
  | [], [], _ :: _ => by simp [LeT, cmpL]
  | [], _ :: _, [] => by simp [LeT, cmpL]
  | [], _ :: _, _ :: _ => by simp [LeT, cmpL]
  | _ :: _, [], _ => by simp [LeT, cmpL]
  | _ :: _, _ :: _, [] => by simp [LeT, cmpL]
  | a :: x, b :: y, c :: z => by
    have ih := cmpL_tr x y z
    have h := cmpI_tr a b c
    have hz : cmpI a b = 0 → cmpI b c = 0 → cmpI a c = 0 := fun e1 e2 => cmpI_zero.2 ((cmpI_zero.1 e1).trans (cmpI_zero.1 e2))
    unfold cmpL
    exact tr_core h hz ih

theorem orI_tr : ∀ (l m n : List Int), l.length = m.length → m.length = n.length → (∀ i, LeT (l.getD i 0) (m.getD i 0) (n.getD i 0)) → (∀ i, l.getD i 0 = 0 → m.getD i 0 = 0 → n.getD i 0 = 0) → LeT (orI l) (orI m) (orI n)
  | [], [], [], _, _, _, _ => by simp [LeT, orI]
  | a :: l, b :: m, c :: n, h1, h2, h, hz => by
    have ih := orI_tr l m n (by simpa using h1) (by simpa using h2) (fun i => by simpa using h (i + 1)) (fun i => by simpa using hz (i + 1))
    have h0 : LeT a b c := by simpa using h 0
    have z0 : a = 0 → b = 0 → c = 0 := by simpa using hz 0
    unfold orI
    exact tr_core h0 z0 ih

theorem nodeCmp_tr (a b c : Node) : LeT (nodeCmp a b) (nodeCmp b c) (nodeCmp a c) := by
  unfold nodeCmp
  refine orI_tr _ _ _ rfl rfl (fun i => ?_) (fun i => ?_)
  · match i with
    | 0 => exact cmpI_tr _ _ _
    | 1 => exact cmpI_tr _ _ _
    | 2 => exact cmpI_tr _ _ _
    | 3 => exact cmpB_tr _ _ _
    | 4 => exact cmpI_tr _ _ _
    | 5 => exact cmpL_tr _ _ _
    | _ + 6 => simp [LeT]
  · match i with
    | 0 => simp only [List.getD_cons_zero, cmpI_zero]; exact fun h k => h.trans k
    | 1 => simp only [List.getD_cons_zero, List.getD_cons_succ, cmpI_zero]; exact fun h k => h.trans k
    | 2 => simp only [List.getD_cons_zero, List.getD_cons_succ, cmpI_zero]; exact fun h k => h.trans k
    | 3 => simp only [List.getD_cons_zero, List.getD_cons_succ, cmpB_zero]; exact fun h k => h.trans k
    | 4 => simp only [List.getD_cons_zero, List.getD_cons_succ, cmpI_zero]; exact fun h k => h.trans k
    | 5 => simp only [List.getD_cons_zero, List.getD_cons_succ, cmpL_zero]; exact fun h k => h.trans k
    | _ + 6 => simp

end Go.Proofs.YtlekoceindepnaaGreatDoor
end
section
/- The walks of the comparing functions: cmp.Compare, cmp.Or, slices.Compare, hashcons.Compare, hashcons.Same, and of the reference. -/
namespace Go.Proofs.YtlekoceindepnaaGreatDoor
open Go.RowKit

theorem cmpI_any (a b : Int) (w : World) : Calls Tryz.prog 88 #[.int .i64 a, .int .i64 b] w fun e w' => e = .returned (.int .i64 (cmpI a b)) ∧ w' = w := by
  by_cases h1 : a < b
  · go_enter Tryz.func88, Tryz.ntmps88
    go_wp2
    go_ret
    exact ⟨ret_int (by simp [cmpI, h1]), rfl⟩
  · by_cases h2 : b < a
    · go_enter Tryz.func88, Tryz.ntmps88
      go_wp2
      go_ret
      exact ⟨ret_int (by simp only [cmpI]; rw [if_neg (by omega), if_pos h2]), rfl⟩
    · go_enter Tryz.func88, Tryz.ntmps88
      go_wp2
      go_ret
      exact ⟨ret_int (by simp only [cmpI]; rw [if_neg (by omega), if_neg (by omega)]), rfl⟩

theorem cmpOp_any (a b : Int) (w : World) : Calls Tryz.prog 87 #[.int .i64 a, .int .i64 b] w fun e w' => e = .returned (.int .i64 (cmpI a b)) ∧ w' = w := by
  by_cases h1 : a < b
  · go_enter Tryz.func87, Tryz.ntmps87
    go_wp2
    go_ret
    exact ⟨ret_int (by simp [cmpI, h1]), rfl⟩
  · by_cases h2 : b < a
    · go_enter Tryz.func87, Tryz.ntmps87
      go_wp2
      go_ret
      exact ⟨ret_int (by simp only [cmpI]; rw [if_neg (by omega), if_pos h2]), rfl⟩
    · go_enter Tryz.func87, Tryz.ntmps87
      go_wp2
      go_ret
      exact ⟨ret_int (by simp only [cmpI]; rw [if_neg (by omega), if_neg (by omega)]), rfl⟩

theorem cmpU_any (a b : Int) (w : World) : Calls Tryz.prog 89 #[.int .u64 a, .int .u64 b] w fun e w' => e = .returned (.int .i64 (cmpI a b)) ∧ w' = w := by
  by_cases h1 : a < b
  · go_enter Tryz.func89, Tryz.ntmps89
    go_wp2
    go_ret
    exact ⟨ret_int (by simp [cmpI, h1]), rfl⟩
  · by_cases h2 : b < a
    · go_enter Tryz.func89, Tryz.ntmps89
      go_wp2
      go_ret
      exact ⟨ret_int (by simp only [cmpI]; rw [if_neg (by omega), if_pos h2]), rfl⟩
    · go_enter Tryz.func89, Tryz.ntmps89
      go_wp2
      go_ret
      exact ⟨ret_int (by simp only [cmpI]; rw [if_neg (by omega), if_neg (by omega)]), rfl⟩

theorem isNaNs_any (a : ByteArray) (w : World) : Calls Tryz.prog 107 #[.string a] w fun e w' => e = .returned (.bool false) ∧ w' = w := by
  go_enter Tryz.func107, Tryz.ntmps107
  go_wp2
  go_ret
  exact ⟨rfl, rfl⟩

theorem cmpB_any (a b : ByteArray) (w : World) : Calls Tryz.prog 90 #[.string a, .string b] w fun e w' => e = .returned (.int .i64 (cmpB a b)) ∧ w' = w := by
  unfold cmpB
  cases h1 : Op.bytesLess a.toList b.toList with
  | true =>
    go_enter Tryz.func90, Tryz.ntmps90
    go_wp2_with (go_at_call 107; refine (isNaNs_any _ _).mono ?_; rintro e w' ⟨rfl, rfl⟩)
    go_ret
    exact ⟨rfl, rfl⟩
  | false =>
    cases h2 : (a.toList == b.toList) with
    | true =>
      go_enter Tryz.func90, Tryz.ntmps90
      go_wp2_with (go_at_call 107; refine (isNaNs_any _ _).mono ?_; rintro e w' ⟨rfl, rfl⟩)
      go_ret
      exact ⟨rfl, rfl⟩
    | false =>
      go_enter Tryz.func90, Tryz.ntmps90
      go_wp2_with (go_at_call 107; refine (isNaNs_any _ _).mono ?_; rintro e w' ⟨rfl, rfl⟩)
      go_ret
      exact ⟨rfl, rfl⟩

theorem orI_take (l : List Int) : ∀ k, k ≤ l.length → (∀ i, i < k → l.getD i 0 = 0) → orI l = orI (l.drop k) := by
  intro k
  induction k with
  | zero => intro _ _; rfl
  | succ k ih =>
    intro hk h
    rw [ih (by omega) (fun i hi => h i (by omega))]
    have hd : l.drop k = l[k] :: l.drop (k + 1) := List.drop_eq_getElem_cons (by omega)
    have h0 := h k (by omega)
    rw [List.getD_eq_getElem?_getD, List.getElem?_eq_getElem (by omega)] at h0
    rw [hd, orI, if_pos (by simpa using h0)]

theorem getD_eq {l : List Int} {k : Nat} (h : k < l.length) : l.getD k 0 = l[k] := by
  rw [List.getD_eq_getElem?_getD, List.getElem?_eq_getElem h]; rfl

theorem or_any (M : Nat → Prop) (v : Value) (l : List Int) (w : World) (h : RdI M w v l) (hl : l.length ≤ 1000000) :
    Calls Tryz.prog 86 #[v] w fun e w' => e = .returned (.int .i64 (orI l)) ∧ w' = w := by
  obtain ⟨a, cap, rfl⟩ := h.form
  go_enter Tryz.func86, Tryz.ntmps86
  go_wp2
  go_loop [8] (fun i => ∃ k : Nat, k ≤ l.length ∧ i = .int .i64 k ∧ ∀ i, i < k → l.getD i 0 = 0) (fun i => l.length - (intOf i).toNat)
  case atStart => exact ⟨0, Nat.zero_le _, rfl, fun _ h => by omega⟩
  case round =>
    obtain ⟨k, hk, rfl, hz⟩ := hrel
    have hz' : Hid (∀ i, i < k → l.getD i 0 = 0) := hz
    clear hz
    by_cases hlt : k < l.length
    · rcases h with ⟨_, h⟩ | ⟨b, off, cap', h, _, _, _, hc⟩
      · rw [h] at hlt; simp at hlt
      · cases h
        obtain ⟨x, HX, hck⟩ := hc.get hlt
        clear hc
        by_cases h0 : x = 0
        · have hb : (x != 0) = false := by simp [h0]
          have H0 := hid h0
          clear h0
          go_wp2
          go_round
          case rel => exact ⟨k + 1, by omega, by go_num, fun i hi => by
            by_cases e : i = k
            · subst e; rw [HX.out]; exact H0
            · exact hz' i (by omega)⟩
          case measure => simp [intOf]; omega
        · have hb : (x != 0) = true := by simp [h0]
          go_wp2
          go_ret
          refine ⟨ret_int ?_, rfl⟩
          rw [orI_take l k hk hz', List.drop_eq_getElem_cons hlt, orI, ← getD_eq hlt, HX.out, if_neg h0]
    · go_wp2
      go_ret
      refine ⟨ret_int ?_, rfl⟩
      rw [orI_take l k hk hz', List.drop_of_length_le (by omega)]; rfl

theorem cmpL_take : ∀ (l m : List Int) (k : Nat), k ≤ l.length → k ≤ m.length → (∀ i, i < k → cmpI (l.getD i 0) (m.getD i 0) = 0) → cmpL l m = cmpL (l.drop k) (m.drop k)
  | l, m, 0, _, _, _ => rfl
  | a :: l, b :: m, k + 1, hl, hm, h => by
    have h0 : cmpI a b = 0 := by simpa using h 0 (by omega)
    rw [cmpL, if_pos h0, List.drop_succ_cons, List.drop_succ_cons]
    exact cmpL_take l m k (by simpa using hl) (by simpa using hm) (fun i hi => by simpa using h (i + 1) (by omega))

theorem slicesCompare_any (M : Nat → Prop) (v u : Value) (l m : List Int) (w : World) (h : RdI M w v l) (h' : RdI M w u m) (hl : l.length ≤ 1000000) (_hm : m.length ≤ 1000000) :
    Calls Tryz.prog 91 #[v, u] w fun e w' => e = .returned (.int .i64 (cmpL l m)) ∧ w' = w := by
  obtain ⟨a, cap, rfl⟩ := h.form
  obtain ⟨a', cap', rfl⟩ := h'.form
  go_enter Tryz.func91, Tryz.ntmps91
  go_wp2
  go_loop [11] (fun i => ∃ k : Nat, k ≤ l.length ∧ k ≤ m.length ∧ i = .int .i64 k ∧ ∀ i, i < k → cmpI (l.getD i 0) (m.getD i 0) = 0) (fun i => l.length - (intOf i).toNat)
  case atStart => exact ⟨0, Nat.zero_le _, Nat.zero_le _, rfl, fun _ h => by omega⟩
  case round =>
    obtain ⟨k, hk, hkm, rfl, hz⟩ := hrel
    have hz' : Hid (∀ i, i < k → cmpI (l.getD i 0) (m.getD i 0) = 0) := hz
    clear hz
    by_cases hlt : k < l.length
    · rcases h with ⟨_, h⟩ | ⟨b, off, cap', h, _, _, _, hc⟩
      · rw [h] at hlt; simp at hlt
      · cases h
        obtain ⟨x, HX, hck⟩ := hc.get hlt
        clear hc
        by_cases hlm : k < m.length
        · rcases h' with ⟨_, h'⟩ | ⟨b', off', cap', h', _, _, _, hc'⟩
          · rw [h'] at hlm; simp at hlm
          · cases h'
            obtain ⟨y, HY, hck'⟩ := hc'.get hlm
            clear hc'
            by_cases h0 : cmpI x y = 0
            · have hb : (cmpI x y != 0) = false := by simp [h0]
              have H0 := hid h0
              clear h0
              go_wp2_with (go_at_call 88; refine (cmpI_any _ _ _).mono ?_; rintro e w' ⟨rfl, rfl⟩)
              go_round
              case rel => exact ⟨k + 1, by omega, by omega, by go_num, fun i hi => by
                by_cases e : i = k
                · subst e; rw [HX.out, HY.out]; exact H0
                · exact hz' i (by omega)⟩
              case measure => simp [intOf]; omega
            · have hb : (cmpI x y != 0) = true := by simp [h0]
              go_wp2_with (go_at_call 88; refine (cmpI_any _ _ _).mono ?_; rintro e w' ⟨rfl, rfl⟩)
              go_ret
              refine ⟨ret_int ?_, rfl⟩
              rw [cmpL_take l m k hk hkm hz', List.drop_eq_getElem_cons hlt, List.drop_eq_getElem_cons hlm, cmpL, ← getD_eq hlt, ← getD_eq hlm, HX.out, HY.out, if_neg h0]
        · go_wp2
          go_ret
          refine ⟨ret_int ?_, rfl⟩
          rw [cmpL_take l m k hk hkm hz', List.drop_eq_getElem_cons hlt, List.drop_of_length_le (l := m) (by omega)]; rfl
    · by_cases hlm : k < m.length
      · go_wp2
        go_ret
        refine ⟨ret_int ?_, rfl⟩
        rw [cmpL_take l m k hk hkm hz', List.drop_eq_getElem_cons hlm, List.drop_of_length_le (l := l) (by omega)]; rfl
      · go_wp2
        go_ret
        refine ⟨ret_int ?_, rfl⟩
        rw [cmpL_take l m k hk hkm hz', List.drop_of_length_le (l := m) (by omega), List.drop_of_length_le (l := l) (by omega)]; rfl

end Go.Proofs.YtlekoceindepnaaGreatDoor
end
section
/- The walks of hashcons.Compare and Same, and of the reference's Compare and Same. -/
namespace Go.Proofs.YtlekoceindepnaaGreatDoor
open Go.RowKit

theorem region_tail {P : Program} {id : Nat} {Q : Exit → Act → World → Prop} {a : Act} {w : World} {l : List Oper} (n : Nat) (hm : P.follows .mixedOrders = true) (hB : Region.lexTailB .any l.toArray n = true)
    (h : wpStill P l.toArray w.drew (fun a' => wpList P l.toArray Q (l.drop n) a' w.drew) (l.take n) a) : (Code.region id l.toArray true).wp P Q a w := wp_region_still_tail n hm hB h

theorem region_still {P : Program} {id : Nat} {Q : Exit → Act → World → Prop} {a : Act} {w : World} {l : List Oper} (hm : P.follows .mixedOrders = true) (hB : Region.lexB .any l.toArray = true)
    (h : wpStill P l.toArray w.drew (fun a' => Q .normal a' w.drew) l a) : (Code.region id l.toArray true).wp P Q a w := wp_region_still_lit hm hB h

set_option maxRecDepth 100000 in
set_option maxHeartbeats 800000 in
theorem hcCompare_any (M : Nat → Prop) (a b : Node) (v u : Value) (w : World) (h : RdI M w v a.args) (h' : RdI M w u b.args) (hl : a.args.length ≤ 1000000) (hm : b.args.length ≤ 1000000) :
    Calls Tryz.prog 72 #[nodeV a v, nodeV b u] w fun e w' => e = .returned (.int .i64 (nodeCmp a b)) ∧ Fr NoB w w' := by
  obtain ⟨a1, cap, rfl⟩ := h.form
  obtain ⟨a2, cap', rfl⟩ := h'.form
  unfold nodeV
  have hW : ∀ (W : World), Fr NoB w W → RdI M W (.slice a1 a.args.length cap) a.args ∧ RdI M W (.slice a2 b.args.length cap') b.args := fun W hf => ⟨h.fr hf (fun _ _ h => h.elim), h'.fr hf (fun _ _ h => h.elim)⟩
  have HW := hid hW
  clear hW h h'
  go_enter Tryz.func72, Tryz.ntmps72
  go_wp2
  refine region_tail 32 (by kernel_rfl) (by kernel_rfl) ?_
  simp only [List.take_succ_cons, List.take_zero, List.drop_succ_cons, List.drop_zero]
  repeat (first
    | still_step
    | still_call (cmpOp_any _ _ _)
    | still_call (cmpI_any _ _ _)
    | still_call (cmpU_any _ _ _)
    | still_call (cmpB_any _ _ _)
    | still_call (slicesCompare_any M _ _ _ _ _ (HW.out _ (by exact (((Fr.refl NoB w).alloc _).alloc _).drew)).1 (HW.out _ (by exact (((Fr.refl NoB w).alloc _).alloc _).drew)).2 hl hm))
  refine wpStill_nil ?_
  go_wp2_with fail
  refine (or_any NoB _ [cmpI a.op b.op, cmpI a.width b.width, cmpI a.val b.val, cmpB a.name b.name, cmpI a.args.length b.args.length, cmpL a.args b.args] _ ?_ (by simp)).mono ?_
  · refine RdI.drew (rdI_lit' (M := NoB) ?_ ?_ ?_ (fun h => h))
    · rfl
    · rfl
    · simp
  rintro e w' ⟨rfl, rfl⟩
  go_wp2
  go_ret
  exact ⟨rfl, (((Fr.refl NoB w).alloc _).alloc _).drew.alloc _⟩

theorem hcSame_any (M : Nat → Prop) (a b : Node) (v u : Value) (w : World) (h : RdI M w v a.args) (h' : RdI M w u b.args) (hl : a.args.length ≤ 1000000) (hm : b.args.length ≤ 1000000) :
    Calls Tryz.prog 66 #[nodeV a v, nodeV b u] w fun e w' => e = .returned (.bool (nodeCmp a b == 0)) ∧ Fr NoB w w' := by
  have hW : ∀ (W : World), Fr NoB w W → RdI M W v a.args ∧ RdI M W u b.args := fun W hf => ⟨h.fr hf (fun _ _ h => h.elim), h'.fr hf (fun _ _ h => h.elim)⟩
  have HW := hid hW
  clear hW h h'
  have hF : Hid (∀ W, Fr NoB ((w.alloc (.cells (nodeCells a v) 30)).alloc (.cells (nodeCells b u) 30)) W → Fr NoB w W) := fun W hf => (((Fr.refl NoB w).alloc _).alloc _).step hf
  unfold nodeV
  go_enter Tryz.func66, Tryz.ntmps66
  go_wp2_with (go_at_call 72; refine (hcCompare_any M a b v u _ (HW.out _ (by exact ((Fr.refl NoB w).alloc _).alloc _)).1 (HW.out _ (by exact ((Fr.refl NoB w).alloc _).alloc _)).2 hl hm).mono ?_; rintro e w1 ⟨rfl, hf⟩)
  go_ret
  exact ⟨rfl, hF.out _ hf⟩

end Go.Proofs.YtlekoceindepnaaGreatDoor
end
section
/- The walks of the reference's Compare and Same of nodes. -/
namespace Go.Proofs.YtlekoceindepnaaGreatDoor
open Go.RowKit

def sgnB (x : Bool) : Int := if x = true then -1 else 1

theorem cmpI_of_ne {a b : Int} (h : a ≠ b) : sgnB (decide (a < b)) = cmpI a b := by
  unfold cmpI sgnB
  by_cases h1 : a < b
  · simp [h1]
  · rw [if_neg (by simpa using h1), if_neg h1, if_pos (by omega)]
theorem cmpB_of_ne {a b : ByteArray} (h : (a.toList == b.toList) = false) : sgnB (Op.bytesLess a.toList b.toList) = cmpB a b := by
  unfold cmpB sgnB
  cases Op.bytesLess a.toList b.toList <;> simp [h]

end Go.Proofs.YtlekoceindepnaaGreatDoor
end
section
/- The walks of slices.Clone, hashcons.Canon and Copy, and of the reference's Copy, Find, Canon, Few. -/
namespace Go.Proofs.YtlekoceindepnaaGreatDoor
open Go.RowKit
set_option maxRecDepth 100000

theorem clone_any (M : Nat → Prop) (v : Value) (l : List Int) (w : World) (h : RdI M w v l) (hl : l.length ≤ 17592186044416) :
    Calls Tryz.prog 59 #[v] w fun e w' => ∃ a' c', e = .returned (.slice a' l.length c') ∧ OwnI w.heap.size w' (.slice a' l.length c') l ∧ Fr NoB w w' := by
  have qs := eqlNilI
  have h0 : (v = .slice none 0 0 ∧ l = []) ∨ (∃ a cap, v = .slice (some a) l.length cap) := by
    rcases h with ⟨⟨a, cap, rfl, hcap⟩, rfl⟩ | ⟨b, off, cap, rfl, _⟩
    · cases a with
      | none => obtain rfl := hcap rfl; exact .inl ⟨rfl, rfl⟩
      | some a => exact .inr ⟨a, cap, rfl⟩
    · exact .inr ⟨_, cap, rfl⟩
  rcases h0 with ⟨rfl, rfl⟩ | ⟨a, cap, rfl⟩
  · go_enter Tryz.func59, Tryz.ntmps59
    go_wp2
    go_ret
    exact ⟨_, _, rfl, OwnI.nil _ _, Fr.refl _ _⟩
  · have hrd := hid (show RdI M (w.alloc (.cells #[] 3)) (.slice (some a) l.length cap) l from RdI.fr h ((Fr.refl NoB w).alloc _) (fun _ _ h => h.elim))
    have hown := hid (show OwnI w.heap.size (w.alloc (.cells #[] 3)) (.slice (some ⟨w.heap.size, 0, none⟩) 0 0) [] from OwnI.lit w.heap.size w [] (Nat.le_refl _) (by simp))
    clear h
    go_enter Tryz.func59, Tryz.ntmps59
    go_wp2_with (at_builtin; refine ap_ints _ rfl _ _ rfl w.heap.size (.slice (some ⟨w.heap.size, 0, none⟩) 0 0) [] rfl hown.out M _ l rfl hrd.out (by simpa using hl) (by simp) ?_; intro v' w1 h1 h2)
    go_ret
    obtain ⟨a', c', rfl⟩ := h1.form
    exact ⟨a', c', rfl, by simpa using h1, ((Fr.refl NoB w).alloc _).grown h2 (fun k hk hlt => by simp [Value.ownBlock] at hk; subst hk; exact absurd hlt (Nat.lt_irrefl _))⟩

theorem canonNil_any (M : Nat → Prop) (n : Node) (v : Value) (w : World) (h : RdI M w v n.args) (hl : n.args.length ≤ 17592186044416) :
    Calls Tryz.prog 30 #[nodeV n v, .nilFunc] w fun e w' => ∃ a' c', e = .returned (nodeV n (.slice a' n.args.length c')) ∧ OwnI w.heap.size w' (.slice a' n.args.length c') n.args ∧ Fr NoB w w' := by
  obtain ⟨a, cap, rfl⟩ := h.form
  have h' := hid (h.fr (((Fr.refl NoB w).alloc (.cells (nodeCells n (.slice a n.args.length cap)) 30)).alloc (.cells #[.int .i64 0, .int .i64 0, .int .u64 0, .string ⟨#[]⟩, .slice none 0 0] 30)) (fun _ _ h => h.elim))
  clear h
  unfold nodeV
  have qf := neqNilFn0
  go_enter Tryz.func30, Tryz.ntmps30
  go_wp2_with (go_at_call 59; refine (clone_any M _ n.args _ h'.out hl).mono ?_; rintro e w1 ⟨a', c', rfl, ho, hf⟩; obtain ⟨c0, c1, c2, c3, c4, cf, cl⟩ := hf.five (fun h => h) (at_old (at_new w _) _); obtain ⟨r0, r1, r2, r3, r4, rf, rl⟩ := hf.five (b := w.heap.size + 1) (fun h => h) (at_new' (by simp)); have HF := hid hf; have HO := hid ho; clear hf ho)
  refine bodyPost_ret (v := nodeV n (.slice a' n.args.length c')) (by simp [results, Tryz.results30, go_sem, r0, r1, r2, r3, r4, nodeV]) rfl ?_
  refine ⟨a', c', rfl, OwnI.keep HO.out ?_ ?_, ?_⟩
  · simp only [World.size_alloc]; omega
  · repeat (refine Fr.setCell ?_ (fun _ => by simp <;> omega) _)
    exact Fr.refl _ _
  · repeat (refine Fr.setCell ?_ (fun h => absurd h (by simp)) _)
    exact (((Fr.refl NoB w).alloc _).alloc _).step HF.out

/-- What a function value must do for Canon: Pr are the blocks that it must leave alone. -/
structure FindOk (F : FuncId) (first caps : Array Value) (I : (Nat → Prop) → Nat → World → Prop) (l : List Int) (φ : Int → Int) : Prop where
  enter : ∀ (args : Array Value) (w : World), (callFunc F args).run Tryz.prog w = .ok (.enter F args) w
  stable : ∀ Pr k w w', I Pr k w → Fr Pr w w' → I Pr k w'
  call : ∀ Pr k w, k < l.length → I Pr k w → Calls Tryz.prog F (first.push (.int .i64 (l.getD k 0)) ++ caps) w fun e w' => e = .returned (.int .i64 (φ (l.getD k 0))) ∧ I Pr (k + 1) w' ∧ Fr (fun b => ¬ Pr b) w w'

theorem take_map_set (l : List Int) (φ : Int → Int) (k : Nat) (hk : k < l.length) : ((l.take k).map φ ++ l.drop k).set k (φ (l.getD k 0)) = (l.take (k + 1)).map φ ++ l.drop (k + 1) := by
  have e1 : l.take (k + 1) = l.take k ++ [l[k]] := List.take_succ_eq_append_getElem hk
  have e2 : l.drop k = l[k] :: l.drop (k + 1) := List.drop_eq_getElem_cons hk
  rw [e1, e2, getD_eq hk, List.set_append_right _ _ (by simp; omega)]
  have e3 : k - (List.map φ (List.take k l)).length = 0 := by simp; omega
  rw [e3, List.set_cons_zero, List.map_append, List.append_assoc]
  rfl
theorem take_map_len (l : List Int) (φ : Int → Int) (k : Nat) : ((l.take k).map φ ++ l.drop k).length = l.length := by simp; omega
theorem take_map_get (l : List Int) (φ : Int → Int) (k : Nat) (hk : k < l.length) : ((l.take k).map φ ++ l.drop k).getD k 0 = l.getD k 0 := by
  rw [List.getD_eq_getElem?_getD, List.getElem?_append_right (by simp; omega), List.getD_eq_getElem?_getD]
  have e3 : k - (List.map φ (List.take k l)).length = 0 := by simp; omega
  rw [e3, List.getElem?_drop, Nat.add_zero]

set_option maxHeartbeats 1000000 in
theorem canon_any (M Keep : Nat → Prop) (F : FuncId) (first caps : Array Value) (I : (Nat → Prop) → Nat → World → Prop) (φ : Int → Int) (n : Node) (v : Value) (w : World) (h : RdI M w v n.args) (hl : n.args.length ≤ 17592186044416)
    (hI : FindOk F first caps I n.args φ) (hstart : ∀ w1, Fr NoB w w1 → I (fun b => Keep b ∨ (w.heap.size ≤ b ∧ b < w1.heap.size)) 0 w1) :
    Calls Tryz.prog 30 #[nodeV n v, .func (.func F) first caps] w fun e w' => ∃ a' c', e = .returned (nodeV { n with args := n.args.map φ } (.slice a' n.args.length c')) ∧ OwnI w.heap.size w' (.slice a' n.args.length c') (n.args.map φ) ∧
      (∃ Pr : Nat → Prop, I Pr n.args.length w' ∧ (∀ b, Keep b → Pr b) ∧ (∀ b, (Value.slice a' n.args.length c').ownBlock = some b → Pr b)) ∧ Fr (fun b => ¬ Keep b) w w' := by
  obtain ⟨a, cap, rfl⟩ := h.form
  have h' := hid (h.fr (((Fr.refl NoB w).alloc (.cells (nodeCells n (.slice a n.args.length cap)) 30)).alloc (.cells #[.int .i64 0, .int .i64 0, .int .u64 0, .string ⟨#[]⟩, .slice none 0 0] 30)) (fun _ _ h => h.elim))
  have HI := hid hI
  have HS := hid hstart
  clear h hI hstart
  unfold nodeV
  have qf := neqNilFn1
  go_enter Tryz.func30, Tryz.ntmps30
  go_wp2_with (go_at_call 59; refine (clone_any M _ n.args _ h'.out hl).mono ?_; rintro e w1 ⟨a', c', rfl, ho, hf⟩; obtain ⟨c0, c1, c2, c3, c4, cf, cl⟩ := hf.five (fun h => h) (at_old (at_new w _) _); have HB := hid (hf.at (fun h => h) (at_old (at_new w _) _)); have HR := hid (hf.at (b := w.heap.size + 1) (fun h => h) (at_new' (by simp))); have HF := hid hf; have HO := hid ho; clear hf ho)
  have hF1 : Fr NoB w w1 := (((Fr.refl NoB w).alloc _).alloc _).step HF.out
  have hO1 : OwnI (w.heap.size + 2) w1 (.slice a' n.args.length c') n.args := OwnI.base HO.out (by simp only [World.size_alloc]; omega)
  have hSz : w.heap.size + 2 ≤ w1.heap.size := by have := HF.out.size; simp only [World.size_alloc] at this; omega
  have hRow : ∀ b, (Value.slice a' n.args.length c').ownBlock = some b → w.heap.size + 2 ≤ b ∧ b < w1.heap.size := fun b hb => World.ownsRow.lt hO1 b hb
  have hI0 := HS.out w1 hF1
  obtain ⟨Pr, hPr⟩ : ∃ Pr : Nat → Prop, Pr = fun b => Keep b ∨ (w.heap.size ≤ b ∧ b < w1.heap.size) := ⟨_, rfl⟩
  rw [← hPr] at hI0
  have hPrB : Pr w.heap.size := by rw [hPr]; exact .inr ⟨by omega, by omega⟩
  have hPrR : Pr (w.heap.size + 1) := by rw [hPr]; exact .inr ⟨by omega, by omega⟩
  have hPrS : ∀ b, (Value.slice a' n.args.length c').ownBlock = some b → Pr b := fun b hb => by rw [hPr]; exact .inr ⟨by have := (hRow b hb).1; omega, (hRow b hb).2⟩
  have hPrK : ∀ b, Keep b → Pr b := fun b hb => by rw [hPr]; exact .inl hb
  have hPrF : ∀ (w2 w3 : World), Fr (fun b => ¬ Keep b) w w2 → Fr (fun b => ¬ Pr b) w2 w3 → Fr (fun b => ¬ Keep b) w w3 := fun w2 w3 h1 h2 => h1.trans' h2 (fun k _ hn hk => hn (hPrK k hk))
  clear hPr
  have HPB := hid hPrB
  have HPS := hid hPrS
  have HH := hid (And.intro hF1 (And.intro hO1 (And.intro hSz (And.intro hRow (And.intro hI0 (And.intro hPrB (And.intro hPrR (And.intro hPrS (And.intro hPrK hPrF)))))))))
  clear hF1 hO1 hSz hRow hI0 hPrB hPrR hPrS hPrK hPrF
  go_loopw [16] (fun i wr => ∃ k : Nat, k ≤ n.args.length ∧ i = .int .i64 k ∧ OwnI (w.heap.size + 2) wr (.slice a' n.args.length c') ((n.args.take k).map φ ++ n.args.drop k) ∧ I Pr k wr ∧
      wr.heap[w.heap.size]? = some (.cells (nodeCells n (.slice a' n.args.length c')) 30 (0, 0)) ∧
      wr.heap[w.heap.size + 1]? = some (.cells #[.int .i64 0, .int .i64 0, .int .u64 0, .string ⟨#[]⟩, .slice none 0 0] 30 (0, 0)) ∧ Fr (fun b => ¬ Keep b) w wr) (fun i _ => n.args.length - (intOf i).toNat)
  case atStart =>
    obtain ⟨hF1, hO1, hSz, hRow, hI0, hPrB, hPrR, hPrS, hPrK, hPrF⟩ := HH.out
    have hs : Fr (fun k => k = w.heap.size) w1 (w1.setCell ⟨w.heap.size, 4, none⟩ (.slice a' n.args.length c')) := Fr.setCell (M := fun k => k = w.heap.size) (Fr.refl _ _) (p := ⟨w.heap.size, 4, none⟩) (fun _ => rfl) _
    refine ⟨0, Nat.zero_le _, rfl, ?_, HI.out.stable Pr 0 w1 _ hI0 (hs.mono (fun k _ hk => by rw [hk]; exact hPrB)), ?_, set_other HR.out (by simp) _, ?_⟩
    · exact OwnI.fr hO1 hs (fun k hk => by have := hRow k hk; omega)
    · exact set_at HB.out 4 _
    · exact (hF1.trans' hs (fun k hk h => by omega) : Fr NoB w _).mono (fun k _ h => h.elim)
  case round =>
    obtain ⟨k, hk, rfl, ho, hi, hb, hr, hfr⟩ := hrel
    obtain ⟨c0, c1, c2, c3, c4, cf, cl⟩ := five_of hb
    have HB := hid hb
    have HR2 := hid hr
    have HI2 := hid hi
    have HF2 := hid hfr
    clear hb hr hi hfr
    by_cases hlt : k < n.args.length
    · rcases OwnI.form' ho with ⟨h1, h2⟩ | ⟨g, cap2, h1, hg1, hg2, hcap⟩
      · have := congrArg List.length h2; rw [take_map_len] at this; simp only [List.length_nil] at this; omega
      · simp only [Value.slice.injEq] at h1
        obtain ⟨rfl, h1, rfl⟩ := h1
        clear h1
        have hck := OwnI.cell ho (i := k) (by rw [take_map_len]; exact hlt)
        rw [take_map_get _ _ _ hlt] at hck
        obtain ⟨x, HX⟩ : ∃ x, Hid (n.args.getD k 0 = x) := ⟨_, rfl⟩
        rw [HX.out] at hck
        have HO2 := hid ho
        clear ho
        go_wp2
        have hcall := HI.out.call Pr k
        rw [HX.out] at hcall
        have HC : Hid (∀ W, Fr NoB wr W → Calls Tryz.prog F (first.push (.int .i64 x) ++ caps) W fun e w' => e = .returned (.int .i64 (φ x)) ∧ I Pr (k + 1) w' ∧ Fr (fun b => ¬ Pr b) W w') := fun W hW => hcall W hlt (HI.out.stable Pr k wr W HI2.out (hW.mono (fun _ _ h => h.elim)))
        clear hcall
        have hen := HI.out.enter
        have hne1 : g ≠ w.heap.size := by omega
        have hne2 : w.heap.size ≠ g := by omega
        go_region_held3 (fun w' => w'.cell? ⟨w.heap.size, 4, none⟩ = some (.slice (some ⟨g, 0, none⟩) n.args.length c')) (go_keep)
          (first | (with_reducible refine (HC.out _ (Fr.refl _ _).drew).mono ?_); rintro e w2 ⟨rfl, hi2, hfr2⟩; obtain ⟨_, _, _, _, d4, _, _⟩ := five_of (hfr2.at (fun h => h HPB.out) HB.out); have ho4 := OwnI.fr (OwnI.drew HO2.out) hfr2 (fun b hb h => h (HPS.out b hb)); have e1 := OwnI.cell ho4 (i := k) (by rw [take_map_len]; exact hlt); have e2 := OwnI.frozen ho4 k; have HO4 := hid ho4; have HI4 := hid hi2; have HF4 := hid hfr2; clear hi2 hfr2 ho4)
        go_wp2
        go_roundw
        case rel =>
          obtain ⟨hF1, hO1, hSz, hRow, hI0, hPrB, hPrR, hPrS, hPrK, hPrF⟩ := HH.out
          have hPg : Pr g := hPrS g rfl
          have hs : Fr (fun b => b = g) w2 (w2.setCell ⟨g, k, none⟩ (.int .i64 (φ x))) := Fr.setCell (M := fun b => b = g) (Fr.refl _ _) (p := ⟨g, k, none⟩) (fun _ => rfl) _
          refine ⟨k + 1, by omega, by go_num, ?_, ?_, ?_, ?_, ?_⟩
          · have h9 := OwnI.stored HO4.out k (φ x)
            rw [← HX.out, take_map_set _ _ _ hlt] at h9
            rw [← HX.out]; exact h9
          · exact HI.out.stable Pr (k + 1) w2 _ HI4.out (hs.mono (fun b _ hb => by rw [hb]; exact hPg))
          · exact set_other (HF4.out.at (fun h => h hPrB) HB.out) (by simp; omega) _
          · exact set_other (HF4.out.at (fun h => h hPrR) HR2.out) (by simp; omega) _
          · have h8 := hPrF _ _ (HF2.out.drew) HF4.out
            exact h8.trans' hs (fun b hb h => by have h2 : b = g := h; have := (hRow g rfl).1; omega)
        case measure => simp [intOf]; omega
    · obtain ⟨r0, r1, r2, r3, r4, rf, rl⟩ := five_of HR2.out
      obtain rfl : k = n.args.length := by omega
      go_wp2
      refine bodyPost_ret (v := nodeV { n with args := n.args.map φ } (.slice a' n.args.length c')) (by simp [results, Tryz.results30, go_sem, r0, r1, r2, r3, r4, nodeV]) rfl ?_
      obtain ⟨hF1, hO1, hSz, hRow, hI0, hPrB, hPrR, hPrS, hPrK, hPrF⟩ := HH.out
      have hs : Fr (fun b => b = w.heap.size + 1) wr _ := Fr.setCell (M := fun b => b = w.heap.size + 1) (Fr.setCell (M := fun b => b = w.heap.size + 1) (Fr.setCell (M := fun b => b = w.heap.size + 1) (Fr.setCell (M := fun b => b = w.heap.size + 1) (Fr.setCell (M := fun b => b = w.heap.size + 1) (Fr.refl _ wr) (p := ⟨w.heap.size + 1, 0, none⟩) (fun _ => rfl) (.int .i64 n.op)) (p := ⟨w.heap.size + 1, 1, none⟩) (fun _ => rfl) (.int .i64 n.width)) (p := ⟨w.heap.size + 1, 2, none⟩) (fun _ => rfl) (.int .u64 n.val)) (p := ⟨w.heap.size + 1, 3, none⟩) (fun _ => rfl) (.string n.name)) (p := ⟨w.heap.size + 1, 4, none⟩) (fun _ => rfl) (.slice a' n.args.length c')
      refine ⟨a', c', rfl, ?_, ⟨Pr, ?_, hPrK, hPrS⟩, ?_⟩
      · refine OwnI.base (B := w.heap.size + 2) (OwnI.fr (l := n.args.map φ) ?_ hs (fun b hb => by have := (hRow b hb).1; omega)) (by omega)
        have e : (n.args.take n.args.length).map φ ++ n.args.drop n.args.length = n.args.map φ := by simp
        rw [← e]; exact ho
      · exact HI.out.stable Pr _ wr _ HI2.out (hs.mono (fun b _ hb => by rw [hb]; exact hPrR))
      · exact HF2.out.trans' hs (fun b hb h => by omega)

end Go.Proofs.YtlekoceindepnaaGreatDoor
end
section
/- The walks of the reference's Same, Copy, Find, Canon. -/
namespace Go.Proofs.YtlekoceindepnaaGreatDoor
open Go.RowKit
set_option maxRecDepth 100000

end Go.Proofs.YtlekoceindepnaaGreatDoor
end
section
/- Rows of structs (k cells an element): how they read, the call's own ones. No program in sight. -/
namespace Go.Proofs.YtlekoceindepnaaGreatDoor
open Go.RowKit

section
variable {α : Type} (enc : α → List Value) {k : Nat}

def flatE : List α → List Value
  | [] => []
  | x :: l => enc x ++ flatE l
theorem flatE_append : ∀ l m : List α, flatE enc (l ++ m) = flatE enc l ++ flatE enc m
  | [], _ => rfl
  | x :: l, m => by simp only [List.cons_append, flatE, flatE_append l m, List.append_assoc]
theorem flatE_one : ∀ (l : List α), (∀ x ∈ l, ∀ u ∈ enc x, u.oneCell' = true) → ∀ u ∈ flatE enc l, u.oneCell' = true
  | [], _, u, hu => by simp [flatE] at hu
  | x :: l, h, u, hu => by
    simp only [flatE, List.mem_append] at hu
    rcases hu with hu | hu
    · exact h x (by simp) u hu
    · exact flatE_one l (fun y hy => h y (by simp [hy])) u hu
variable (hk : ∀ x, (enc x).length = k)
include hk
theorem flatE_length : ∀ l : List α, (flatE enc l).length = l.length * k
  | [] => by simp [flatE]
  | x :: l => by simp only [flatE, List.length_append, flatE_length l, hk, List.length_cons, Nat.add_mul, Nat.one_mul]; omega
theorem flatE_get : ∀ (l : List α) (i : Nat) (h : i < l.length) (j : Nat), j < k → (flatE enc l)[i * k + j]? = (enc l[i])[j]?
  | x :: l, 0, _, j, hj => by
    simp only [flatE, List.getElem_cons_zero, Nat.zero_mul, Nat.zero_add]
    rw [List.getElem?_append_left (by rw [hk]; exact hj)]
  | x :: l, i + 1, h, j, hj => by
    have ih := flatE_get l i (by simpa using h) j hj
    simp only [flatE, List.getElem_cons_succ]
    have e : (i + 1) * k + j = k + (i * k + j) := by rw [Nat.add_mul, Nat.one_mul]; omega
    rw [e, List.getElem?_append_right (by rw [hk]; omega), hk, Nat.add_sub_cancel_left]
    exact ih
theorem flatE_take : ∀ (l : List α) (i : Nat), i ≤ l.length → flatE enc (l.take i) = (flatE enc l).take (i * k)
  | l, 0, _ => by simp [flatE]
  | x :: l, i + 1, h => by
    have ih := flatE_take l i (by simpa using h)
    simp only [List.take_succ_cons, flatE, ih]
    have e : (i + 1) * k = k + i * k := by rw [Nat.add_mul, Nat.one_mul]; omega
    rw [e, List.take_append, hk, Nat.add_sub_cancel_left, List.take_of_length_le (l := enc x) (by rw [hk]; omega)]
theorem flatE_drop : ∀ (l : List α) (i : Nat), i ≤ l.length → flatE enc (l.drop i) = (flatE enc l).drop (i * k)
  | l, 0, _ => by simp
  | x :: l, i + 1, h => by
    have ih := flatE_drop l i (by simpa using h)
    simp only [List.drop_succ_cons, flatE, ih]
    have e : (i + 1) * k = k + i * k := by rw [Nat.add_mul, Nat.one_mul]; omega
    rw [e, List.drop_append, hk, Nat.add_sub_cancel_left, List.drop_of_length_le (l := enc x) (by rw [hk]; omega), List.nil_append]
end

/-- The cells cs lie from cell off of block b on. -/
def CellsAt (w : World) (b off : Nat) (cs : List Value) : Prop := ∀ j u, cs[j]? = some u → w.cell? ⟨b, off + j, none⟩ = some u
theorem CellsAt.fr {M : Nat → Prop} {w w' : World} {b off : Nat} {cs : List Value} (h : CellsAt w b off cs) (hf : Fr M w w') (hb : b < w.heap.size) (hm : ¬ M b) : CellsAt w' b off cs :=
  fun j u hj => (hf.cell (p := ⟨b, off + j, none⟩) hb hm).trans (h j u hj)
theorem CellsAt.take {w : World} {b off : Nat} {cs : List Value} (h : CellsAt w b off cs) (n : Nat) : CellsAt w b off (cs.take n) := fun j u hj => by
  rw [List.getElem?_take] at hj
  split at hj
  · exact h j u hj
  · cases hj
theorem CellsAt.drop {w : World} {b off : Nat} {cs : List Value} (h : CellsAt w b off cs) (n : Nat) : CellsAt w b (off + n) (cs.drop n) := fun j u hj => by
  rw [List.getElem?_drop] at hj
  rw [Nat.add_assoc]; exact h _ u hj
theorem CellsAt.news {w : World} {b off : Nat} {cs : List Value} (h : CellsAt w b off cs) : ∀ j u, cs[j]? = some u → w.cell? ((⟨b, off, none⟩ : Addr).add j) = some u := fun j u hj => by
  have e : (⟨b, off, none⟩ : Addr).add j = ⟨b, off + j, none⟩ := by unfold Addr.add; split <;> simp_all
  rw [e]; exact h j u hj
theorem CellsAt.of {w : World} {b off : Nat} {cs : List Value} (h : ∀ j u, cs[j]? = some u → w.cell? ((⟨b, off, none⟩ : Addr).add j) = some u) : CellsAt w b off cs := fun j u hj => by
  have e : (⟨b, off, none⟩ : Addr).add j = ⟨b, off + j, none⟩ := by unfold Addr.add; split <;> simp_all
  rw [← e]; exact h j u hj

/-- The slice v reads as the elements l; its block is not among M. -/
def RdE {α : Type} (enc : α → List Value) (M : Nat → Prop) (w : World) (v : Value) (l : List α) : Prop :=
  ((∃ a cap, v = .slice a 0 cap ∧ (a = none → cap = 0)) ∧ l = []) ∨ ∃ b off cap, v = .slice (some ⟨b, off, none⟩) l.length cap ∧ b < w.heap.size ∧ ¬ M b ∧ l.length ≤ cap ∧ CellsAt w b off (flatE enc l)
section
variable {α : Type} {enc : α → List Value} {N M : Nat → Prop} {w w' : World} {v : Value} {l : List α}
theorem RdE.fr (h : RdE enc N w v l) (hf : Fr M w w') (hm : ∀ k, k < w.heap.size → M k → N k) : RdE enc N w' v l := by
  rcases h with h | ⟨b, off, cap, h1, h2, h3, h4, h5⟩
  · exact .inl h
  · exact .inr ⟨b, off, cap, h1, Nat.lt_of_lt_of_le h2 hf.size, h3, h4, h5.fr hf h2 (fun h => h3 (hm b h2 h))⟩
theorem RdE.step (h : RdE enc N w v l) (hf : Fr NoB w w') : RdE enc N w' v l := h.fr hf (fun _ _ h => h.elim)
theorem RdE.drew (h : RdE enc N w v l) : RdE enc N w.drew v l := h
theorem RdE.weaken (h : RdE enc N w v l) (hm : ∀ k, k < w.heap.size → M k → N k) : RdE enc M w v l := by
  rcases h with h | ⟨b, off, cap, h1, h2, h3, h4⟩
  · exact .inl h
  · exact .inr ⟨b, off, cap, h1, h2, fun h => h3 (hm b h2 h), h4⟩
theorem RdE.more (h : RdE enc M w v l) : RdE enc (fun k => M k ∨ w.heap.size ≤ k) w v l := by
  rcases h with h | ⟨b, off, cap, h1, h2, h3, h4⟩
  · exact .inl h
  · exact .inr ⟨b, off, cap, h1, h2, fun h => h.elim h3 (fun h => by omega), h4⟩
theorem RdE.form (h : RdE enc M w v l) : ∃ a cap, v = .slice a l.length cap := by
  rcases h with ⟨⟨a, cap, h, _⟩, rfl⟩ | ⟨b, off, cap, h, _⟩
  · exact ⟨a, cap, h⟩
  · exact ⟨_, cap, h⟩
theorem RdE.form' (h : RdE enc M w v l) (hl : 0 < l.length) : ∃ b off cap, v = .slice (some ⟨b, off, none⟩) l.length cap ∧ b < w.heap.size ∧ ¬ M b ∧ l.length ≤ cap ∧ CellsAt w b off (flatE enc l) := by
  rcases h with ⟨_, rfl⟩ | h
  · simp at hl
  · exact h
theorem RdI.more {m : List Int} (hr : RdI M w v m) : RdI (fun k => M k ∨ w.heap.size ≤ k) w v m := by
  rcases hr with h | ⟨b, off, cap, h1, h2, h3, h4⟩
  · exact .inl h
  · exact .inr ⟨b, off, cap, h1, h2, fun h => h.elim h3 (fun h => by omega), h4⟩
end

/-- v is nil, or a row of blocks from B on that holds just the elements l; a cell's type is e. -/
def OwnE {α : Type} (enc : α → List Value) (k : Nat) (e : TypeId) (B : Nat) (w : World) (v : Value) (l : List α) : Prop := w.ownsRow B e k v l.length (flatE enc l)
section
variable {α : Type} {enc : α → List Value} {k : Nat} {e : TypeId} {B B' : Nat} {M : Nat → Prop} {w w' : World} {v : Value} {l : List α}
theorem OwnE.nil (enc : α → List Value) (k : Nat) (e : TypeId) (B : Nat) (w : World) : OwnE enc k e B w (.slice none 0 0) [] := World.ownsRow_nil w B e k
theorem OwnE.lt (h : OwnE enc k e B w v l) {j : Nat} (hj : v.ownBlock = some j) : B ≤ j ∧ j < w.heap.size := World.ownsRow.lt h j hj
theorem OwnE.fr (h : OwnE enc k e B w v l) (hf : Fr M w w') (hm : ∀ j, v.ownBlock = some j → ¬ M j) : OwnE enc k e B w' v l := by
  refine ⟨h.1, ?_⟩
  rcases h.2 with h2 | ⟨g, cap, cur, h1, hb, hg, r⟩
  · exact .inl h2
  · refine .inr ⟨g, cap, cur, h1, hb, ?_, r⟩
    rw [hf.block g (Array.getElem?_eq_some_iff.1 hg).1 (hm g (by rw [h1]; rfl))]; exact hg
theorem OwnE.step (h : OwnE enc k e B w v l) (hf : Fr NoB w w') : OwnE enc k e B w' v l := h.fr hf (fun _ _ h => h)
theorem OwnE.drew (h : OwnE enc k e B w v l) : OwnE enc k e B w.drew v l := h
theorem OwnE.base (h : OwnE enc k e B w v l) (hB : B' ≤ B) : OwnE enc k e B' w v l := by
  refine ⟨h.1, ?_⟩
  rcases h.2 with h2 | ⟨g, cap, cur, h1, hb, r⟩
  · exact .inl h2
  · exact .inr ⟨g, cap, cur, h1, Nat.le_trans hB hb, r⟩
theorem OwnE.form (h : OwnE enc k e B w v l) : ∃ a cap, v = .slice a l.length cap := by
  rcases h.2 with ⟨h, hl⟩ | ⟨g, cap, cur, h, _⟩
  · exact ⟨none, 0, by rw [hl]; exact h⟩
  · exact ⟨_, cap, h⟩
theorem OwnE.form' (h : OwnE enc k e B w v l) : (v = .slice none 0 0 ∧ l = []) ∨ ∃ g cap, v = .slice (some ⟨g, 0, none⟩) l.length cap ∧ B ≤ g ∧ g < w.heap.size ∧ l.length ≤ cap := by
  rcases h.2 with ⟨h, hl⟩ | ⟨g, cap, cur, h, hb, hg, hn, _⟩
  · exact .inl ⟨h, List.eq_nil_of_length_eq_zero hl⟩
  · exact .inr ⟨g, cap, h, hb, (Array.getElem?_eq_some_iff.1 hg).1, hn⟩
theorem OwnE.cells {g n cap : Nat} (h : OwnE enc k e B w (.slice (some ⟨g, 0, none⟩) n cap) l) : CellsAt w g 0 (flatE enc l) := by
  intro j u hj
  rw [Nat.zero_add]
  have hn : n = l.length := by
    rcases h.2 with ⟨h2, _⟩ | ⟨g', cap', cur, h1, _⟩
    · cases h2
    · cases h1; rfl
  subst hn
  have h2 := World.ownsRow.cellAt h (j := j) (by rw [← h.1]; exact (List.getElem?_eq_some_iff.1 hj).1)
  rw [h2]; exact hj
theorem OwnE.frozen {g n cap : Nat} (h : OwnE enc k e B w (.slice (some ⟨g, 0, none⟩) n cap) l) (i : Nat) : w.frozen? ⟨g, i, none⟩ = false := by
  rcases h.2 with ⟨h2, _⟩ | ⟨g', cap', cur, h1, _, hg, _⟩
  · cases h2
  · cases h1; exact frozen_of_row w g i cur _ hg
theorem OwnE.rd (h : OwnE enc k e B w v l) (hM : ∀ j, v.ownBlock = some j → ¬ M j) : RdE enc M w v l := by
  rcases h.form' with ⟨h1, h2⟩ | ⟨g, cap, h1, h2, h3, h4⟩
  · exact .inl ⟨⟨none, 0, by rw [h1], fun _ => rfl⟩, h2⟩
  · subst h1
    exact .inr ⟨g, 0, cap, rfl, h3, hM g rfl, h4, h.cells⟩

/-- append(s, t...): s is the call's own, t reads as m. -/
theorem ap_rows {P : Program} (w : World) {ops : Array Oper} {rest : List Oper} {o : Oper} {a : Act} {Q : Exit → Act → World → Prop} (hk : ∀ x : α, (enc x).length = k) (hk0 : 0 < k)
    {t : TypeId} (ht : P.underlying t = some (.slice e)) {z : Value} {bytes : Nat} (hinfo : (P.info? e).map (fun i => (i.zero, i.size, i.bytes)) = some (some z, k, bytes)) (hzs : z.cells.size = k)
    (hg : o.guard = none) (s x : Operand) (ho : o.op = .call { callee := .builtin .append, args := #[s, x], argTypes := #[t, t] }) (base : Nat) (v : Value) (l : List α) (hs : a.eval s = v) (hown : OwnE enc k e base w v l)
    (M : Nat → Prop) (u : Value) (m : List α) (hx : a.eval x = u) (hrd : RdE enc M w u m) (h1 : ∀ y ∈ m, ∀ u ∈ enc y, u.oneCell' = true) (hlen : (l.length + m.length) * bytes ≤ 140737488355328) (hmax : l.length + m.length ≤ 17592186044416) (hbase : base ≤ w.heap.size)
    (h : ∀ v' w', OwnE enc k e base w' v' (l ++ m) → w.grownBy w' v.ownBlock → (v'.ownBlock = v.ownBlock ∨ v'.ownBlock = some w.heap.size) → wpList P ops Q rest (a.put o.dst v') w') : wpList P ops Q (o :: rest) a w := by
  obtain ⟨i0, hi, hz0, hz1, hz2⟩ := info_parts hinfo
  rcases hrd with ⟨⟨ad, cap, rfl, hcap⟩, rfl⟩ | ⟨b, off, cap, rfl, _, _, _, hc⟩
  · cases ad with
    | some ad =>
      refine wpList_append_own_at (w := w) hg s x t ho base e i0 z k bytes ht hi hz0 hz1 hz2 hzs hk0 v _ _ hs hown ad 0 cap [] hx (by simp) (fun j u hu => by simp at hu) (by simp) (by unfold maxLen; simp at hmax; omega) (by simpa using hlen) hbase ?_
      intro v' w' h1 h2 _ h4
      refine h v' w' ?_ h2 h4
      simpa [OwnE] using h1
    | none =>
    obtain rfl := hcap rfl
    refine wpList_append_own_none (w := w) hg s x t ho base e i0 k ht hi v _ _ hs hown hx ?_
    exact h v w (by simpa using hown) ⟨rfl, rfl, rfl, Nat.le_refl _, fun _ _ _ => rfl⟩ (.inl rfl)
  · refine wpList_append_own_at (w := w) hg s x t ho base e i0 z k bytes ht hi hz0 hz1 hz2 hzs hk0 v _ _ hs hown ⟨b, off, none⟩ m.length cap (flatE enc m) hx (flatE_length enc hk m) hc.news (flatE_one enc m h1) (by unfold maxLen; omega) hlen hbase ?_
    intro v' w' h1 h2 _ h4
    refine h v' w' ?_ h2 h4
    unfold OwnE
    rw [List.length_append, flatE_append]; exact h1
end

end Go.Proofs.YtlekoceindepnaaGreatDoor
end
section
/- Rows of nodes (five cells each): how they read, the call's own ones, and the law of append for them. -/
namespace Go.Proofs.YtlekoceindepnaaGreatDoor
open Go.RowKit
set_option maxRecDepth 100000

/-- A node with the slice that holds its args: its five cells. -/
def nsCells (x : Node × Value) : List Value := [.int .i64 x.1.op, .int .i64 x.1.width, .int .u64 x.1.val, .string x.1.name, x.2]
theorem nsLen (x : Node × Value) : (nsCells x).length = 5 := rfl

/-- The slice v reads as the nodes l, their args too; none of their blocks is among M. -/
structure RdN (M : Nat → Prop) (w : World) (v : Value) (l : List (Node × Value)) : Prop where
  row : RdE nsCells M w v l
  args : ∀ x ∈ l, RdI M w x.2 x.1.args
theorem RdN.fr {N M : Nat → Prop} {w w' : World} {v : Value} {l : List (Node × Value)} (h : RdN N w v l) (hf : Fr M w w') (hm : ∀ k, k < w.heap.size → M k → N k) : RdN N w' v l := ⟨h.row.fr hf hm, fun x hx => (h.args x hx).fr hf hm⟩
theorem RdN.step {N : Nat → Prop} {w w' : World} {v : Value} {l : List (Node × Value)} (h : RdN N w v l) (hf : Fr NoB w w') : RdN N w' v l := h.fr hf (fun _ _ h => h.elim)
theorem RdN.weaken {N M : Nat → Prop} {w : World} {v : Value} {l : List (Node × Value)} (h : RdN N w v l) (hm : ∀ k, k < w.heap.size → M k → N k) : RdN M w v l := ⟨h.row.weaken hm, fun x hx => (h.args x hx).weaken hm⟩
theorem RdN.form {M : Nat → Prop} {w : World} {v : Value} {l : List (Node × Value)} (h : RdN M w v l) : ∃ a cap, v = .slice a l.length cap := h.row.form
theorem RdN.drew {M : Nat → Prop} {w : World} {v : Value} {l : List (Node × Value)} (h : RdN M w v l) : RdN M w.drew v l := ⟨h.row, h.args⟩
theorem RdN.more {M : Nat → Prop} {w : World} {v : Value} {l : List (Node × Value)} (h : RdN M w v l) : RdN (fun k => M k ∨ w.heap.size ≤ k) w v l := ⟨h.row.more, fun x hx => (h.args x hx).more⟩

/-- The five cells of element i. -/
theorem CellsAt.five {w : World} {b off : Nat} {l : List (Node × Value)} (h : CellsAt w b off (flatE nsCells l)) {i : Nat} (hi : i < l.length) :
    w.cell? ⟨b, off + i * 5, none⟩ = some (.int .i64 l[i].1.op) ∧ w.cell? ⟨b, off + i * 5 + 1, none⟩ = some (.int .i64 l[i].1.width) ∧ w.cell? ⟨b, off + i * 5 + 2, none⟩ = some (.int .u64 l[i].1.val) ∧ w.cell? ⟨b, off + i * 5 + 3, none⟩ = some (.string l[i].1.name) ∧ w.cell? ⟨b, off + i * 5 + 4, none⟩ = some l[i].2 := by
  have e := fun j (hj : j < 5) => flatE_get nsCells nsLen l i hi j hj
  refine ⟨?_, ?_, ?_, ?_, ?_⟩
  · exact h _ _ (e 0 (by decide))
  · have := h _ _ (e 1 (by decide)); rwa [← Nat.add_assoc] at this
  · have := h _ _ (e 2 (by decide)); rwa [← Nat.add_assoc] at this
  · have := h _ _ (e 3 (by decide)); rwa [← Nat.add_assoc] at this
  · have := h _ _ (e 4 (by decide)); rwa [← Nat.add_assoc] at this

abbrev OwnN (B : Nat) (w : World) (v : Value) (l : List (Node × Value)) : Prop := OwnE nsCells 5 30 B w v l
theorem infoNode : (Tryz.prog.info? 30).map (fun i => (i.zero, i.size, i.bytes)) = some (some (.agg #[.int .i64 0, .int .i64 0, .int .u64 0, .string ⟨#[]⟩, .slice none 0 0]), 5, 64) := by kernel_rfl
theorem OwnE.rdN {B : Nat} {M : Nat → Prop} {w : World} {v : Value} {l : List (Node × Value)} (h : OwnN B w v l) (hM : ∀ k, v.ownBlock = some k → ¬ M k) (ha : ∀ x ∈ l, RdI M w x.2 x.1.args) : RdN M w v l := ⟨h.rd hM, ha⟩

/-- append(s, t...) on nodes: s is the call's own, t reads as m. -/
theorem ap_nodes (w : World) {ops : Array Oper} {rest : List Oper} {o : Oper} {a : Act} {Q : Exit → Act → World → Prop} (hg : o.guard = none) (s x : Operand)
    (ho : o.op = .call { callee := .builtin .append, args := #[s, x], argTypes := #[41, 41] }) (base : Nat) (v : Value) (l : List (Node × Value)) (hs : a.eval s = v) (hown : OwnN base w v l)
    (M : Nat → Prop) (u : Value) (m : List (Node × Value)) (hx : a.eval x = u) (hrd : RdN M w u m) (hlen : l.length + m.length ≤ 2199023255552) (hbase : base ≤ w.heap.size)
    (h : ∀ v' w', OwnN base w' v' (l ++ m) → w.grownBy w' v.ownBlock → (v'.ownBlock = v.ownBlock ∨ v'.ownBlock = some w.heap.size) → wpList Tryz.prog ops Q rest (a.put o.dst v') w') : wpList Tryz.prog ops Q (o :: rest) a w :=
  ap_rows w nsLen (by decide) Tryz.underlying41 infoNode rfl hg s x ho base v l hs hown M u m hx hrd.row (fun y hy u hu => by
    obtain ⟨_, _, e⟩ := (hrd.args y hy).form
    simp only [nsCells, List.mem_cons, List.not_mem_nil, or_false] at hu
    rcases hu with rfl | rfl | rfl | rfl | rfl <;> first | rfl | (rw [e]; rfl)) (by omega) (by omega) hbase h

end Go.Proofs.YtlekoceindepnaaGreatDoor
end
section
/- append on rows of structs as one step of a region that draws its order. -/
namespace Go.Proofs.YtlekoceindepnaaGreatDoor
open Go.RowKit

/-- append(s, t...) inside a drawn region: s is the call's own, t reads as m. -/
theorem rows_step {α : Type} {enc : α → List Value} {k : Nat} {e : TypeId} {P : Program} (w : World) {ops : Array Oper} {o : Oper} {a : Act} {K : Act → World → Prop} {Q : Exit → Act → World → Prop} {E : Prop} (hk : ∀ x : α, (enc x).length = k) (hk0 : 0 < k)
    {t : TypeId} (ht : P.underlying t = some (.slice e)) {z : Value} {bytes : Nat} (hinfo : (P.info? e).map (fun i => (i.zero, i.size, i.bytes)) = some (some z, k, bytes)) (hzs : z.cells.size = k)
    (hg : o.guard = none) (s x : Operand) (ho : o.op = .call { callee := .builtin .append, args := #[s, x], argTypes := #[t, t] }) (base : Nat) (v : Value) (l : List α) (hs : a.eval s = v) (hown : OwnE enc k e base w v l)
    (M : Nat → Prop) (u : Value) (m : List α) (hx : a.eval x = u) (hrd : RdE enc M w u m) (h1 : ∀ y ∈ m, ∀ u ∈ enc y, u.oneCell' = true) (hlen : (l.length + m.length) * bytes ≤ 140737488355328) (hmax : l.length + m.length ≤ 17592186044416) (hbase : base ≤ w.heap.size)
    (h : ∀ v' w', OwnE enc k e base w' v' (l ++ m) → w.grownBy w' v.ownBlock → (v'.ownBlock = v.ownBlock ∨ v'.ownBlock = some w.heap.size) → K (a.put o.dst v') w') :
    if Region.wanted o (yielded ops a.tmps) = true then Oper.wp P o a w K Q else E := by
  have hw : Region.wanted o (yielded ops a.tmps) = true := by simp [Region.wanted, hg]
  rw [if_pos hw]
  obtain ⟨i0, hi, hz0, hz1, hz2⟩ := info_parts hinfo
  rcases hrd with ⟨⟨ad, cap, rfl, hcap⟩, rfl⟩ | ⟨b, off, cap, rfl, _, _, _, hc⟩
  · cases ad with
    | some ad =>
      obtain ⟨v', w', hr, h2, h3, h4, h5⟩ := run_append_own_at (P := P) w base t o.type e i0 z k bytes ht hi hz0 hz1 hz2 hzs hk0 v _ _ hown ad 0 cap [] (by simp) (fun j u hu => by simp at hu) (by simp) (by unfold maxLen; simp at hmax; omega) (by simpa using hlen) hbase
      unfold Oper.wp execOp
      simp only [ho, resolve, invoke, builtin, Sem.run_bind, Sem.run_pure, Result.andThen_ok, List.map_toArray, List.map_cons, List.map_nil, hs, hx, hr]
      exact h v' w' (by simpa [OwnE] using h2) h3 h5
    | none =>
    obtain rfl := hcap rfl
    have hrun := run_append_owned_none (P := P) (w := w) base t o.type e i0 k ht hi v _ _ hown
    unfold Oper.wp
    simp [execOp, ho, resolve, invoke, builtin, hs, hx, hrun, Result.andThen]
    exact h v w (by simpa using hown) ⟨rfl, rfl, rfl, Nat.le_refl _, fun _ _ _ => rfl⟩ (.inl rfl)
  · obtain ⟨v', w', hr, h2, h3, h4, h5⟩ := run_append_own_at (P := P) w base t o.type e i0 z k bytes ht hi hz0 hz1 hz2 hzs hk0 v _ _ hown ⟨b, off, none⟩ m.length cap (flatE enc m) (flatE_length enc hk m) hc.news (flatE_one enc m h1) (by unfold maxLen; omega) hlen hbase
    unfold Oper.wp execOp
    simp only [ho, resolve, invoke, builtin, Sem.run_bind, Sem.run_pure, Result.andThen_ok, List.map_toArray, List.map_cons, List.map_nil, hs, hx, hr]
    refine h v' w' ?_ h3 h5
    unfold OwnE
    rw [List.length_append, flatE_append]; exact h2

/-- .. on nodes; the new value written out. -/
theorem nodes_step (w : World) {ops : Array Oper} {o : Oper} {a : Act} {K : Act → World → Prop} {Q : Exit → Act → World → Prop} {E : Prop} (hg : o.guard = none) (s x : Operand)
    (ho : o.op = .call { callee := .builtin .append, args := #[s, x], argTypes := #[41, 41] }) (base : Nat) (v : Value) (l : List (Node × Value)) (hs : a.eval s = v) (hown : OwnN base w v l)
    (M : Nat → Prop) (u : Value) (m : List (Node × Value)) (hx : a.eval x = u) (hrd : RdN M w u m) (n : Nat) (hn : l.length + m.length = n) (hlen : n ≤ 2199023255552) (hbase : base ≤ w.heap.size)
    (h : ∀ p q w', OwnN base w' (.slice p n q) (l ++ m) → w.grownBy w' v.ownBlock → ((Value.slice p n q).ownBlock = v.ownBlock ∨ (Value.slice p n q).ownBlock = some w.heap.size) → K (a.put o.dst (.slice p n q)) w') :
    if Region.wanted o (yielded ops a.tmps) = true then Oper.wp Tryz.prog o a w K Q else E := by
  subst hn
  refine rows_step w nsLen (by decide) Tryz.underlying41 infoNode rfl hg s x ho base v l hs hown M u m hx hrd.row (fun y hy u hu => ?_) (by omega) (by omega) hbase (fun v' w' h1 h2 h3 => ?_)
  · obtain ⟨_, _, e⟩ := (hrd.args y hy).form
    simp only [nsCells, List.mem_cons, List.not_mem_nil, or_false] at hu
    rcases hu with rfl | rfl | rfl | rfl | rfl <;> first | rfl | (rw [e]; rfl)
  · obtain ⟨p, q, hv⟩ := h1.form
    rw [List.length_append] at hv
    subst hv
    exact h p q w' h1 h2 h3

/-- A literal row of one node, in a later world. -/
theorem rdN_lit {w W : World} {e : TypeId} {n : Node} {s : Value} (hf : Fr NoB (w.alloc (.cells (nodeCells n s) e)) W) (hs : RdI NoB W s n.args) : RdN NoB W (.slice (some ⟨w.heap.size, 0, none⟩) 1 1) [(n, s)] := by
  refine ⟨.inr ⟨w.heap.size, 0, 1, rfl, Nat.lt_of_lt_of_le (by simp) hf.size, fun h => h, Nat.le_refl _, ?_⟩, fun x hx => ?_⟩
  · have hb := hf.at (fun h => h) (at_new w (.cells (nodeCells n s) e))
    obtain ⟨c0, c1, c2, c3, c4, _, _⟩ := five_of hb
    intro j u hj
    rw [Nat.zero_add]
    match j, hj with
    | 0, hj => simp [flatE, nsCells] at hj; subst hj; exact c0
    | 1, hj => simp [flatE, nsCells] at hj; subst hj; exact c1
    | 2, hj => simp [flatE, nsCells] at hj; subst hj; exact c2
    | 3, hj => simp [flatE, nsCells] at hj; subst hj; exact c3
    | 4, hj => simp [flatE, nsCells] at hj; subst hj; exact c4
    | j + 5, hj => simp [flatE, nsCells] at hj
  · rw [List.mem_singleton] at hx
    subst hx
    exact hs

/-! The same on integers. -/
def iCells (x : Int) : List Value := [.int .i64 x]
theorem flatI : ∀ l : List Int, flatE iCells l = l.map (Value.int .i64)
  | [] => rfl
  | x :: l => by rw [flatE, flatI l]; rfl
theorem ownI_iff {B : Nat} {w : World} {v : Value} {l : List Int} : OwnE iCells 1 3 B w v l ↔ OwnI B w v l := by
  unfold OwnE OwnI; rw [flatI]
theorem RdI.rdE {M : Nat → Prop} {w : World} {v : Value} {l : List Int} (h : RdI M w v l) : RdE iCells M w v l := by
  rcases h with h | ⟨b, off, cap, h1, h2, h3, h4, h5⟩
  · exact .inl h
  · refine .inr ⟨b, off, cap, h1, h2, h3, h4, fun j u hj => ?_⟩
    rw [flatI, List.getElem?_map] at hj
    have hl : j < l.length := by
      rcases Nat.lt_or_ge j l.length with h | h
      · exact h
      · rw [List.getElem?_eq_none h] at hj; cases hj
    have := h5 j hl
    rw [this, List.getD_eq_getElem?_getD]
    rw [List.getElem?_eq_getElem hl] at hj ⊢
    exact hj
theorem RdE.rdI {M : Nat → Prop} {w : World} {v : Value} {l : List Int} (h : RdE iCells M w v l) : RdI M w v l := by
  rcases h with h | ⟨b, off, cap, h1, h2, h3, h4, h5⟩
  · exact .inl h
  · refine .inr ⟨b, off, cap, h1, h2, h3, h4, fun j hl => ?_⟩
    refine h5 j _ ?_
    rw [flatI, List.getElem?_map, List.getElem?_eq_getElem hl, List.getD_eq_getElem?_getD, List.getElem?_eq_getElem hl]
    rfl
/-- append(s, t...) on integers inside a drawn region; the new value written out. -/
theorem ints_step (w : World) {ops : Array Oper} {o : Oper} {a : Act} {K : Act → World → Prop} {Q : Exit → Act → World → Prop} {E : Prop} (hg : o.guard = none) (s x : Operand)
    (ho : o.op = .call { callee := .builtin .append, args := #[s, x], argTypes := #[28, 28] }) (base : Nat) (v : Value) (l : List Int) (hs : a.eval s = v) (hown : OwnI base w v l)
    (M : Nat → Prop) (u : Value) (m : List Int) (hx : a.eval x = u) (hrd : RdI M w u m) (n : Nat) (hn : l.length + m.length = n) (hlen : n ≤ 17592186044416) (hbase : base ≤ w.heap.size)
    (h : ∀ p q w', OwnI base w' (.slice p n q) (l ++ m) → w.grownBy w' v.ownBlock → ((Value.slice p n q).ownBlock = v.ownBlock ∨ (Value.slice p n q).ownBlock = some w.heap.size) → K (a.put o.dst (.slice p n q)) w') :
    if Region.wanted o (yielded ops a.tmps) = true then Oper.wp Tryz.prog o a w K Q else E := by
  subst hn
  refine rows_step (enc := iCells) (k := 1) w (fun _ => rfl) (by decide) Tryz.underlying28 infoInt rfl hg s x ho base v l hs (ownI_iff.2 hown) M u m hx hrd.rdE (fun y hy u hu => ?_) (by omega) (by omega) hbase (fun v' w' h1 h2 h3 => ?_)
  · simp only [iCells, List.mem_singleton] at hu
    rw [hu]; rfl
  · obtain ⟨p, q, hv⟩ := h1.form
    rw [List.length_append] at hv
    subst hv
    exact h p q w' (ownI_iff.1 h1) h2 h3

end Go.Proofs.YtlekoceindepnaaGreatDoor
end
section
/- The walks of invariant: inside, formed, ordered; the reference's in, label. How a dump lies. -/
namespace Go.Proofs.YtlekoceindepnaaGreatDoor
open Go.RowKit
set_option maxRecDepth 100000

/-- A link: two ids and a reason. -/
structure Lnk where
  a : Int
  b : Int
  why : Int
def lkCells (x : Lnk) : List Value := [.int .i64 x.a, .int .i64 x.b, .int .i64 x.why]
theorem lkLen (x : Lnk) : (lkCells x).length = 3 := rfl
/-- A dump: its nodes (with the slices that hold their args), links, roots. -/
structure Dmp where
  nodes : List (Node × Value)
  links : List Lnk
  roots : List Int
structure RdD (M : Nat → Prop) (w : World) (sN sL sR : Value) (d : Dmp) : Prop where
  nodes : RdN M w sN d.nodes
  links : RdE lkCells M w sL d.links
  roots : RdI M w sR d.roots
theorem RdD.fr {N M : Nat → Prop} {w w' : World} {sN sL sR : Value} {d : Dmp} (h : RdD N w sN sL sR d) (hf : Fr M w w') (hm : ∀ k, k < w.heap.size → M k → N k) : RdD N w' sN sL sR d := ⟨h.nodes.fr hf hm, h.links.fr hf hm, h.roots.fr hf hm⟩
theorem RdD.step {N : Nat → Prop} {w w' : World} {sN sL sR : Value} {d : Dmp} (h : RdD N w sN sL sR d) (hf : Fr NoB w w') : RdD N w' sN sL sR d := h.fr hf (fun _ _ h => h.elim)
abbrev dumpV (sN sL sR : Value) : Value := .agg #[sN, sL, sR]
abbrev dumpCells (sN sL sR : Value) : Array Value := #[sN, sL, sR]

def formedS (n : Node) : Bool := decide (0 ≤ ariS n.op) && !patS n.op && decide ((n.args.length : Int) = ariS n.op) && (if n.op = 1 then (n.val == 0) && nameS n.name else n.name.toList.isEmpty && (n.val == 0 || n.op == 2 || n.op == 21))

def labelS (a b : Node) : Bool := (a.op == b.op) && (a.width == b.width) && (a.val == b.val) && (a.name.toList == b.name.toList)
def ordS (l : List Int) (i : Int) : Bool := l.all (fun a => decide (0 ≤ a ∧ a < i))
end Go.Proofs.YtlekoceindepnaaGreatDoor
end
section
/- The walks of the reference's alike, disordered, malformed. -/
namespace Go.Proofs.YtlekoceindepnaaGreatDoor
open Go.RowKit
set_option maxRecDepth 100000

theorem three_of {w : World} {b : Nat} {x y z : Value} {e : TypeId} (h1 : w.heap[b]? = some (.cells #[x, y, z] e (0, 0))) : w.cell? ⟨b, 0, none⟩ = some x ∧ w.cell? ⟨b, 1, none⟩ = some y ∧ w.cell? ⟨b, 2, none⟩ = some z ∧ (∀ o, w.frozen? ⟨b, o, none⟩ = false) ∧ b < w.heap.size :=
  ⟨by simp [World.cell?, h1], by simp [World.cell?, h1], by simp [World.cell?, h1], fun o => by simp [World.frozen?, h1], (Array.getElem?_eq_some_iff.1 h1).1⟩
/-- The cells of a row of integers, at an index. -/
theorem RdI.cellK {M : Nat → Prop} {w : World} {p : Option Addr} {n c : Nat} {l : List Int} (h : RdI M w (.slice p n c) l) {k : Nat} (hk : k < l.length) : ∃ b off, p = some ⟨b, off, none⟩ ∧ w.cell? ⟨b, off + k, none⟩ = some (.int .i64 (l.getD k 0)) := by
  obtain ⟨b, off, h1, _, h3⟩ := h.lit3 (by omega)
  exact ⟨b, off, h1, h3 k hk⟩

def labAt (lab : List Int) (x : Int) : Int := lab.getD x.toNat 0
def alikeS (a b : Node) (lab : List Int) : Bool := labelS a b && (a.args.length == b.args.length) && (a.args.zip b.args).all (fun p => labAt lab p.1 == labAt lab p.2)
theorem alikeS_no {a b : Node} {lab : List Int} (h : labelS a b = false ∨ a.args.length ≠ b.args.length) : alikeS a b lab = false := by
  unfold alikeS
  rcases h with h | h
  · rw [h]; rfl
  · have : (a.args.length == b.args.length) = false := by simpa using h
    rw [this]; simp
theorem zip_get {a b : List Int} {k : Nat} (h1 : k < a.length) (h2 : k < b.length) : (a.zip b)[k]'(by simp; omega) = (a.getD k 0, b.getD k 0) := by
  rw [List.getElem_zip, List.getD_eq_getElem?_getD, List.getD_eq_getElem?_getD, List.getElem?_eq_getElem h1, List.getElem?_eq_getElem h2]; rfl
theorem alikeS_bad {a b : Node} {lab : List Int} {k : Nat} (h1 : k < a.args.length) (h2 : k < b.args.length) (h : labAt lab (a.args.getD k 0) ≠ labAt lab (b.args.getD k 0)) : alikeS a b lab = false := by
  unfold alikeS
  have : (a.args.zip b.args).all (fun p => labAt lab p.1 == labAt lab p.2) = false := by
    rw [List.all_eq_false]
    refine ⟨(a.args.zip b.args)[k]'(by simp; omega), List.getElem_mem _, ?_⟩
    rw [zip_get h1 h2]
    simpa using h
  rw [this]; simp
theorem alikeS_ok {a b : Node} {lab : List Int} (h0 : labelS a b = true) (hl : a.args.length = b.args.length) (h : ∀ k, k < a.args.length → labAt lab (a.args.getD k 0) = labAt lab (b.args.getD k 0)) : alikeS a b lab = true := by
  unfold alikeS
  have : (a.args.zip b.args).all (fun p => labAt lab p.1 == labAt lab p.2) = true := by
    rw [List.all_eq_true]
    intro p hp
    obtain ⟨k, hk, rfl⟩ := List.mem_iff_getElem.1 hp
    have hk2 : k < a.args.length := by simp at hk; omega
    rw [zip_get hk2 (by omega)]
    simpa using h k hk2
  rw [this, h0]; simp [hl]

end Go.Proofs.YtlekoceindepnaaGreatDoor
end
section
/- The walks of the reference's disordered and malformed. -/
namespace Go.Proofs.YtlekoceindepnaaGreatDoor
open Go.RowKit
set_option maxRecDepth 100000

/-- A node of a row, with its args. -/
theorem RdN.nodeK {M : Nat → Prop} {w : World} {p : Option Addr} {n c : Nat} {l : List (Node × Value)} (h : RdN M w (.slice p n c) l) {k : Nat} (hk : k < l.length) : ∃ b off, p = some ⟨b, off, none⟩ ∧
    w.cell? ⟨b, off + k * 5, none⟩ = some (.int .i64 l[k].1.op) ∧ w.cell? ⟨b, off + k * 5 + 1, none⟩ = some (.int .i64 l[k].1.width) ∧ w.cell? ⟨b, off + k * 5 + 2, none⟩ = some (.int .u64 l[k].1.val) ∧ w.cell? ⟨b, off + k * 5 + 3, none⟩ = some (.string l[k].1.name) ∧ w.cell? ⟨b, off + k * 5 + 4, none⟩ = some l[k].2 ∧ RdI M w l[k].2 l[k].1.args := by
  rcases h.row.form' (by omega) with ⟨b, off, cap, h1, _, _, _, hc⟩
  simp only [Value.slice.injEq] at h1
  obtain ⟨rfl, _, rfl⟩ := h1
  obtain ⟨e0, e1, e2, e3, e4⟩ := hc.five hk
  exact ⟨b, off, rfl, e0, e1, e2, e3, e4, h.args _ (List.getElem_mem _)⟩

def nsOf (d : Dmp) : List Node := d.nodes.map (·.1)
def clashS (n : Node) (l : List Node) : Bool := l.any (fun m => m.op == 1 && m.name.toList == n.name.toList && m.width != n.width)
def malfS (n : Node) (l : List Node) : Bool := !formedS n || (n.op == 1 && clashS n l)

end Go.Proofs.YtlekoceindepnaaGreatDoor
end
section
/- The walk of the reference's malformed. -/
namespace Go.Proofs.YtlekoceindepnaaGreatDoor
open Go.RowKit
set_option maxRecDepth 100000

theorem formedS_iff {n : Node} : formedS n = true ↔ 0 ≤ ariS n.op ∧ patS n.op = false ∧ (n.args.length : Int) = ariS n.op ∧ (if n.op = 1 then n.val = 0 ∧ nameS n.name = true else n.name.toList.isEmpty = true ∧ (n.val = 0 ∨ n.op = 2 ∨ n.op = 21)) := by
  unfold formedS
  by_cases h : n.op = 1
  · simp only [h, if_true, Bool.and_eq_true, decide_eq_true_eq, Bool.not_eq_true', beq_iff_eq]
    constructor
    · rintro ⟨⟨⟨a, b⟩, c⟩, d⟩; exact ⟨a, b, c, d⟩
    · rintro ⟨a, b, c, d⟩; exact ⟨⟨⟨a, b⟩, c⟩, d⟩
  · simp only [h, if_false, Bool.and_eq_true, decide_eq_true_eq, Bool.not_eq_true', Bool.or_eq_true, beq_iff_eq]
    constructor
    · rintro ⟨⟨⟨a, b⟩, c⟩, d, e⟩; exact ⟨a, b, c, d, by rcases e with (e | e) | e; exact .inl e; exact .inr (.inl e); exact .inr (.inr e)⟩
    · rintro ⟨a, b, c, d, e⟩; exact ⟨⟨⟨a, b⟩, c⟩, d, by rcases e with e | e | e; exact .inl (.inl e); exact .inl (.inr e); exact .inr e⟩

/-- What the walk of malformed carries: the box of the dump, that of the node. -/
structure MfS (w : World) (sN sL sR : Value) (d : Dmp) (n : Node) (v : Value) (W : World) : Prop where
  fr : Fr NoB w W
  rd : RdD NoB W sN sL sR d
  box : W.heap[w.heap.size]? = some (.cells (dumpCells sN sL sR) 43 (0, 0))
  node : W.heap[w.heap.size + 1]? = some (.cells (nodeCells n v) 30 (0, 0))
theorem MfS.step {w : World} {sN sL sR : Value} {d : Dmp} {n : Node} {v : Value} {W W' : World} (h : MfS w sN sL sR d n v W) (hf : Fr NoB W W') : MfS w sN sL sR d n v W' :=
  ⟨h.fr.step hf, h.rd.step hf, hf.at (fun h => h) h.box, hf.at (fun h => h) h.node⟩

end Go.Proofs.YtlekoceindepnaaGreatDoor
end
section
/- The walk of the reference's malformed, at a node that is formed. -/
namespace Go.Proofs.YtlekoceindepnaaGreatDoor
open Go.RowKit
set_option maxRecDepth 100000

theorem clash_step {n m : Node} {l : List Node} (h : clashS n l = false) (h2 : (m.op == 1 && m.name.toList == n.name.toList && m.width != n.width) = false) : clashS n (l ++ [m]) = false := by
  unfold clashS at *
  rw [List.any_append, h, Bool.false_or, List.any_cons, List.any_nil, Bool.or_false]
  exact h2
theorem clash_yes {n m : Node} {l : List Node} (hm : m ∈ l) (h2 : (m.op == 1 && m.name.toList == n.name.toList && m.width != n.width) = true) : clashS n l = true := by
  unfold clashS
  rw [List.any_eq_true]
  exact ⟨m, hm, h2⟩

end Go.Proofs.YtlekoceindepnaaGreatDoor
end
section
/- The walk of invariant's widths. -/
namespace Go.Proofs.YtlekoceindepnaaGreatDoor
open Go.RowKit
set_option maxRecDepth 100000

def wAt (ns : List Node) (a : Int) : Int := ((ns[a.toNat]?).map (·.width)).getD 0
def wOk (n : Node) (ns : List Node) : Bool := decide (1 ≤ n.width) && ((opW n.op n.width n.val (n.args.map (wAt ns))).2 == 0) && ((opW n.op n.width n.val (n.args.map (wAt ns))).1 == n.width)
theorem wAt_of {d : Dmp} {a : Int} {x : Node × Value} (h : d.nodes[a.toNat]? = some x) : wAt (nsOf d) a = x.1.width := by
  unfold wAt nsOf
  rw [List.getElem?_map, h]; rfl
theorem take_map_snoc {α : Type} (f : Int → α) {l : List Int} {k : Nat} (h : k < l.length) : (l.take (k + 1)).map f = (l.take k).map f ++ [f (l.getD k 0)] := by
  rw [List.take_add_one, List.getElem?_eq_getElem h, List.map_append, List.getD_eq_getElem?_getD, List.getElem?_eq_getElem h]
  rfl

end Go.Proofs.YtlekoceindepnaaGreatDoor
end
section
/- The walk of the reference's wide. -/
namespace Go.Proofs.YtlekoceindepnaaGreatDoor
open Go.RowKit
set_option maxRecDepth 100000

def malfAt (ns : List Node) (k : Nat) : Bool := (ns[k]?).elim false (fun n => malfS n (ns.take k))
def disAt (ns : List Node) (k : Nat) : Bool := (ns[k]?).elim false (fun n => !ordS n.args k)
def badAt (ns : List Node) (k : Nat) : Bool := malfAt ns k || disAt ns k
def wideAt (ns : List Node) (i : Nat) : Bool := (ns[i]?).elim false (fun n => !badAt ns i && n.args.all (fun a => !badAt ns a.toNat) && !wOk n ns)
theorem nsOf_at {d : Dmp} {k : Nat} (h : k < d.nodes.length) : (nsOf d)[k]? = some d.nodes[k].1 := by unfold nsOf; rw [List.getElem?_map, List.getElem?_eq_getElem h]; rfl
/-- The box of the dump. -/
structure DbS (w : World) (sN sL sR : Value) (d : Dmp) (W : World) : Prop where
  fr : Fr NoB w W
  rd : RdD NoB W sN sL sR d
  box : W.heap[w.heap.size]? = some (.cells (dumpCells sN sL sR) 43 (0, 0))
theorem DbS.step {w : World} {sN sL sR : Value} {d : Dmp} {W W' : World} (h : DbS w sN sL sR d W) (hf : Fr NoB W W') : DbS w sN sL sR d W' :=
  ⟨h.fr.step hf, h.rd.step hf, hf.at (fun h => h) h.box⟩
theorem DbS.drew {w : World} {sN sL sR : Value} {d : Dmp} {W : World} (h : DbS w sN sL sR d W) : DbS w sN sL sR d W.drew := h.step (Fr.refl _ _).drew
theorem RdI.cellP {w : World} {b off n c : Nat} {l : List Int} (h : RdI NoB w (.slice (some ⟨b, off, none⟩) n c) l) {k : Nat} (hk : k < l.length) : ∀ W, Fr NoB w W → W.cell? ⟨b, off + k, none⟩ = some (.int .i64 (l.getD k 0)) := fun W hf => by
  obtain ⟨b', off', h1, h2⟩ := (h.fr hf (fun _ _ h => h)).cellK hk
  simp only [Option.some.injEq, Addr.mk.injEq, and_true] at h1
  obtain ⟨rfl, rfl⟩ := h1
  exact h2
theorem DbS.start {w : World} {sN sL sR : Value} {d : Dmp} (h : RdD NoB w sN sL sR d) : DbS w sN sL sR d (w.alloc (.cells (dumpCells sN sL sR) 43)) :=
  ⟨(Fr.refl NoB w).alloc _, h.step ((Fr.refl NoB w).alloc _), at_new w _⟩

end Go.Proofs.YtlekoceindepnaaGreatDoor
end
section
/- The walk of the reference's Labels. -/
namespace Go.Proofs.YtlekoceindepnaaGreatDoor
open Go.RowKit
set_option maxRecDepth 100000

/-- A link of a row. -/
theorem RdE.lkK {M : Nat → Prop} {w : World} {p : Option Addr} {n c : Nat} {l : List Lnk} (h : RdE lkCells M w (.slice p n c) l) {k : Nat} (hk : k < l.length) : ∃ b off, p = some ⟨b, off, none⟩ ∧ n = l.length ∧
    w.cell? ⟨b, off + k * 3, none⟩ = some (.int .i64 l[k].a) ∧ w.cell? ⟨b, off + k * 3 + 1, none⟩ = some (.int .i64 l[k].b) ∧ w.cell? ⟨b, off + k * 3 + 2, none⟩ = some (.int .i64 l[k].why) := by
  rcases h with ⟨_, h⟩ | ⟨b, off, cap, h1, _, _, _, hc⟩
  · subst h; simp at hk
  · simp only [Value.slice.injEq] at h1
    obtain ⟨rfl, rfl, rfl⟩ := h1
    have e := fun j (hj : j < 3) => flatE_get lkCells lkLen l k hk j hj
    have e0 := hc (k * 3 + 0) _ (by rw [e 0 (by omega)]; rfl)
    have e1 := hc (k * 3 + 1) _ (by rw [e 1 (by omega)]; rfl)
    have e2 := hc (k * 3 + 2) _ (by rw [e 2 (by omega)]; rfl)
    exact ⟨b, off, rfl, rfl, by simpa using e0, by rw [Nat.add_assoc]; exact e1, by rw [Nat.add_assoc]; exact e2⟩
theorem RdE.form3 {M : Nat → Prop} {w : World} {v : Value} {l : List Lnk} (h : RdE lkCells M w v l) : ∃ a c, v = .slice a l.length c := by
  rcases h with ⟨⟨a, c, h1, _⟩, h⟩ | ⟨b, off, cap, h1, _⟩
  · subst h; exact ⟨a, c, h1⟩
  · exact ⟨_, _, h1⟩

def lbInit (m : Nat) : List Int := (List.range m).map (fun i : Nat => (i : Int))
def lbIn (m : Nat) (x : Lnk) : Bool := decide (0 ≤ x.a ∧ 0 ≤ x.b ∧ x.a < m ∧ x.b < m)
def lbMerge (l : List Int) (a b : Int) : List Int := l.map (fun y => if y = max a b then min a b else y)
def lbStep (m : Nat) (l : List Int) (x : Lnk) : List Int := if lbIn m x then lbMerge l (l.getD x.a.toNat 0) (l.getD x.b.toNat 0) else l
def lbAt (m : Nat) (lk : List Lnk) (k : Nat) : List Int := (lk.take k).foldl (lbStep m) (lbInit m)
theorem lbInit_length (m : Nat) : (lbInit m).length = m := by simp [lbInit]
theorem lbStep_length (m : Nat) (l : List Int) (x : Lnk) : (lbStep m l x).length = l.length := by unfold lbStep lbMerge; split <;> simp
theorem lbFold_length (m : Nat) : ∀ (lk : List Lnk) (l : List Int), (lk.foldl (lbStep m) l).length = l.length
  | [], _ => rfl
  | x :: lk, l => by rw [List.foldl_cons, lbFold_length m lk, lbStep_length]
theorem lbAt_length (m : Nat) (lk : List Lnk) (k : Nat) : (lbAt m lk k).length = m := by unfold lbAt; rw [lbFold_length, lbInit_length]
theorem lbAt_succ (m : Nat) (lk : List Lnk) {k : Nat} (hk : k < lk.length) : lbAt m lk (k + 1) = lbStep m (lbAt m lk k) lk[k] := by
  unfold lbAt
  rw [List.take_add_one, List.getElem?_eq_getElem hk, List.foldl_append]; rfl
theorem set_same (l : List Int) (n : Nat) (h : n < l.length) (y : Int) (hy : l.getD n 0 = y) : l.set n y = l := by
  subst hy
  rw [getD_eq h]
  exact List.set_getElem_self h
theorem lbInit_succ (k : Nat) : lbInit (k + 1) = lbInit k ++ [(k : Int)] := by unfold lbInit; rw [List.range_succ, List.map_append]; rfl

end Go.Proofs.YtlekoceindepnaaGreatDoor
end
section
/- The walks of the reference's twice and open. -/
namespace Go.Proofs.YtlekoceindepnaaGreatDoor
open Go.RowKit
set_option maxRecDepth 100000

def alikeAt (ns : List Node) (lab : List Int) (k i : Nat) : Bool := (ns[k]?).elim false (fun a => (ns[i]?).elim false (fun b => alikeS a b lab))
def twiceAt (ns : List Node) (i : Nat) : Bool := (List.range i).any (fun k => alikeAt ns (lbInit ns.length) k i)
def openAt (ns : List Node) (lab : List Int) (i : Nat) : Bool := (List.range i).any (fun k => alikeAt ns lab k i && lab.getD k 0 != lab.getD i 0)
theorem nsOf_length (d : Dmp) : (nsOf d).length = d.nodes.length := by simp [nsOf]
theorem alikeAt_of {d : Dmp} {lab : List Int} {k i : Nat} (hk : k < d.nodes.length) (hi : i < d.nodes.length) : alikeAt (nsOf d) lab k i = alikeS d.nodes[k].1 d.nodes[i].1 lab := by
  unfold alikeAt
  rw [nsOf_at hk, nsOf_at hi]; rfl
theorem any_upto {i : Nat} {p : Nat → Bool} (h : ∀ k, k < i → p k = false) : (List.range i).any p = false := by
  rw [List.any_eq_false]
  intro k hk
  rw [h k (List.mem_range.1 hk)]; simp
theorem any_at {i : Nat} {p : Nat → Bool} (k : Nat) (hk : k < i) (h : p k = true) : (List.range i).any p = true :=
  List.any_eq_true.2 ⟨k, List.mem_range.2 hk, h⟩

end Go.Proofs.YtlekoceindepnaaGreatDoor
end
section
/- The walks of the reference's bad and reasonless. -/
namespace Go.Proofs.YtlekoceindepnaaGreatDoor
open Go.RowKit
set_option maxRecDepth 100000

def lkBad (ns : List Node) (lk : List Lnk) (i : Nat) : Int := (lk[i]?).elim 0 (fun x =>
  if lbIn ns.length x = false then 5
  else if (lbAt ns.length lk i).getD x.a.toNat 0 = (lbAt ns.length lk i).getD x.b.toNat 0 then 6
  else if wAt ns x.a ≠ wAt ns x.b then 7 else 0)

def lkRless (ns : List Node) (lk : List Lnk) (i : Nat) : Bool := (lk[i]?).elim false (fun x =>
  lbIn ns.length x && (x.why == -1) && !alikeAt ns (lbAt ns.length lk i) x.a.toNat x.b.toNat)

end Go.Proofs.YtlekoceindepnaaGreatDoor
end
section
/- Rows of flaws; the walk of the reference's form. -/
namespace Go.Proofs.YtlekoceindepnaaGreatDoor
open Go.RowKit
set_option maxRecDepth 100000

structure Flw where
  kind : Int
  pos : Int
deriving DecidableEq
def flCells (x : Flw) : List Value := [.int .i64 x.kind, .int .i64 x.pos]
theorem flLen (x : Flw) : (flCells x).length = 2 := rfl
/-- A literal row of one flaw. -/
theorem rdF_lit {w : World} {k x : Int} {e : TypeId} {b : Nat} (hb : b = w.heap.size) : RdE flCells NoB (w.alloc (.cells #[.int .i64 k, .int .i64 x] e)) (.slice (some ⟨b, 0, none⟩) 1 1) [⟨k, x⟩] := by
  subst hb
  refine .inr ⟨w.heap.size, 0, 1, rfl, by simp, fun h => h, Nat.le_refl _, ?_⟩
  have hb := at_new w (.cells #[.int .i64 k, .int .i64 x] e)
  intro j u hj
  rw [Nat.zero_add]
  match j, hj with
  | 0, hj => simp [flatE, flCells] at hj; subst hj; (unfold World.cell?; simp only [hb]; rfl)
  | 1, hj => simp [flatE, flCells] at hj; subst hj; (unfold World.cell?; simp only [hb]; rfl)
  | j + 2, hj => simp [flatE, flCells] at hj

def fls (kind : Int) (P : Nat → Bool) (k : Nat) : List Flw := ((List.range k).filter P).map (fun i : Nat => ⟨kind, i⟩)
theorem fls_le (kind : Int) (P : Nat → Bool) (k : Nat) : (fls kind P k).length ≤ k := by
  unfold fls
  rw [List.length_map]
  exact Nat.le_trans (List.length_filter_le _ _) (by simp)
theorem fls_on {kind : Int} {P : Nat → Bool} {k : Nat} (h : P k = true) : fls kind P (k + 1) = fls kind P k ++ [⟨kind, k⟩] := by
  unfold fls
  rw [List.range_succ, List.filter_append, List.map_append]
  simp [h]
theorem fls_off {kind : Int} {P : Nat → Bool} {k : Nat} (h : P k = false) : fls kind P (k + 1) = fls kind P k := by
  unfold fls
  rw [List.range_succ, List.filter_append, List.map_append]
  simp [h]
def formF (ns : List Node) : List Flw := fls 1 (malfAt ns) ns.length ++ fls 2 (disAt ns) ns.length ++ fls 3 (wideAt ns) ns.length

end Go.Proofs.YtlekoceindepnaaGreatDoor
end
section
/- The walk of the reference's links. -/
namespace Go.Proofs.YtlekoceindepnaaGreatDoor
open Go.RowKit
set_option maxRecDepth 100000

def lkPre (ns : List Node) (lk : List Lnk) : Nat → List Flw
  | 0 => []
  | n + 1 => lkPre ns lk n ++ fls ((5 + n : Nat) : Int) (fun i => lkBad ns lk i == ((5 + n : Nat) : Int)) lk.length
theorem lkPre_succ (ns : List Node) (lk : List Lnk) {q : Nat} (h : 5 ≤ q) : lkPre ns lk (q + 1 - 5) = lkPre ns lk (q - 5) ++ fls (q : Int) (fun i => lkBad ns lk i == (q : Int)) lk.length := by
  obtain ⟨n, rfl⟩ : ∃ n, q = 5 + n := ⟨q - 5, by omega⟩
  rw [show 5 + n + 1 - 5 = n + 1 by omega, show 5 + n - 5 = n by omega]
  rfl
theorem lkPre_le (ns : List Node) (lk : List Lnk) : ∀ n, (lkPre ns lk n).length ≤ n * lk.length
  | 0 => by simp [lkPre]
  | n + 1 => by
    have h1 := lkPre_le ns lk n
    have h2 := fls_le ((5 + n : Nat) : Int) (fun i => lkBad ns lk i == ((5 + n : Nat) : Int)) lk.length
    unfold lkPre
    rw [List.length_append, Nat.succ_mul]
    omega
def linksF (ns : List Node) (lk : List Lnk) : List Flw := lkPre ns lk 3 ++ fls 8 (lkRless ns lk) lk.length

end Go.Proofs.YtlekoceindepnaaGreatDoor
end
section
/- The walk of the reference's Same. -/
namespace Go.Proofs.YtlekoceindepnaaGreatDoor
open Go.RowKit
set_option maxRecDepth 100000

/-- A flaw of a row. -/
theorem RdE.flK {M : Nat → Prop} {w : World} {p : Option Addr} {n c : Nat} {l : List Flw} (h : RdE flCells M w (.slice p n c) l) {k : Nat} (hk : k < l.length) : ∃ b off, p = some ⟨b, off, none⟩ ∧
    w.cell? ⟨b, off + k * 2, none⟩ = some (.int .i64 l[k].kind) ∧ w.cell? ⟨b, off + k * 2 + 1, none⟩ = some (.int .i64 l[k].pos) := by
  rcases h with ⟨_, h⟩ | ⟨b, off, cap, h1, _, _, _, hc⟩
  · subst h; simp at hk
  · simp only [Value.slice.injEq] at h1
    obtain ⟨rfl, rfl, rfl⟩ := h1
    have e := fun j (hj : j < 2) => flatE_get flCells flLen l k hk j hj
    have e0 := hc (k * 2 + 0) _ (by rw [e 0 (by omega)]; rfl)
    have e1 := hc (k * 2 + 1) _ (by rw [e 1 (by omega)]; rfl)
    exact ⟨b, off, rfl, by simpa using e0, by rw [Nat.add_assoc]; exact e1⟩
theorem RdE.formF {M : Nat → Prop} {w : World} {v : Value} {l : List Flw} (h : RdE flCells M w v l) : ∃ a c, v = .slice a l.length c := by
  rcases h with ⟨⟨a, c, h1, _⟩, h⟩ | ⟨b, off, cap, h1, _⟩
  · subst h; exact ⟨a, c, h1⟩
  · exact ⟨_, _, h1⟩

end Go.Proofs.YtlekoceindepnaaGreatDoor
end
section
/- The walk of the reference's All (under way). -/
namespace Go.Proofs.YtlekoceindepnaaGreatDoor
open Go.RowKit
set_option maxRecDepth 100000

theorem fls_nil {kind : Int} {P : Nat → Bool} {n : Nat} (h : fls kind P n = []) : ∀ i, i < n → P i = false := by
  intro i hi
  unfold fls at h
  rw [List.map_eq_nil_iff, List.filter_eq_nil_iff] at h
  simpa using h i (List.mem_range.2 hi)
/-- No flaw of form: the args lie in range. -/
theorem formF_ord {d : Dmp} (h : formF (nsOf d) = []) : ∀ x ∈ d.nodes, ∀ y ∈ x.1.args, 0 ≤ y ∧ y < d.nodes.length := by
  intro x hx y hy
  obtain ⟨i, hi, rfl⟩ := List.getElem_of_mem hx
  unfold formF at h
  rw [List.append_eq_nil_iff, List.append_eq_nil_iff, nsOf_length] at h
  have hs := fls_nil h.1.2 i hi
  unfold disAt at hs
  rw [nsOf_at hi] at hs
  have hs : ordS d.nodes[i].1.args i = true := by simpa using hs
  unfold ordS at hs
  rw [List.all_eq_true] at hs
  have h2 : 0 ≤ y ∧ y < (i : Int) := by simpa using hs y hy
  omega
theorem formF_le (d : Dmp) : (formF (nsOf d)).length ≤ 3 * d.nodes.length := by
  unfold formF
  have h1 := fls_le 1 (malfAt (nsOf d)) (nsOf d).length
  have h2 := fls_le 2 (disAt (nsOf d)) (nsOf d).length
  have h3 := fls_le 3 (wideAt (nsOf d)) (nsOf d).length
  rw [nsOf_length] at *
  simp only [List.length_append]
  omega
theorem linksF_le (ns : List Node) (lk : List Lnk) : (linksF ns lk).length ≤ 4 * lk.length := by
  unfold linksF
  have h1 := lkPre_le ns lk 3
  have h2 := fls_le 8 (lkRless ns lk) lk.length
  rw [List.length_append]
  omega
def rootsF (roots lab : List Int) (k : Nat) : List Flw := fls 9 (fun i => roots.getD i 0 != lab.getD i 0) k
def allF (ns : List Node) (lk : List Lnk) (roots : List Int) : List Flw :=
  if formF ns = [] then fls 4 (twiceAt ns) ns.length ++ linksF ns lk ++ rootsF roots (lbAt ns.length lk lk.length) (min roots.length ns.length) ++
    (if roots.length = ns.length then [] else [⟨9, ((min roots.length ns.length : Nat) : Int)⟩]) ++ fls 10 (openAt ns (lbAt ns.length lk lk.length)) ns.length
  else formF ns

theorem disj_next {B : Nat} {W : World} {v v' lv : Value} {lab : List Int} {n : Nat} (hR : OwnI B W lv lab) (hd : ∀ b, v.ownBlock = some b → lv.ownBlock ≠ some b) (hn : W.heap.size ≤ n) (h : v'.ownBlock = v.ownBlock ∨ v'.ownBlock = some n) : ∀ b, v'.ownBlock = some b → lv.ownBlock ≠ some b := by
  intro b hb hb2
  rcases h with h | h
  · exact hd b (by rw [← h]; exact hb) hb2
  · rw [h] at hb
    cases hb
    have := (World.ownsRow.lt hR _ hb2).2
    omega
end Go.Proofs.YtlekoceindepnaaGreatDoor
end
section
/- The proof forest: its rows of link numbers (near); the walk of add. -/
namespace Go.Proofs.YtlekoceindepnaaGreatDoor
open Go.RowKit
set_option maxRecDepth 100000

theorem OwnE.head {α : Type} {enc : α → List Value} {k : Nat} {e : TypeId} {B : Nat} {w : World} {v : Value} {l : List α} (h : OwnE enc k e B w v l) {b : Nat} (hb : v.ownBlock = some b) : ∃ cur, w.heap[b]? = some (.cells cur e (0, 0)) := by
  rcases h.2 with ⟨h2, _⟩ | ⟨g, cap, cur, h1, _, hg, _⟩
  · rw [h2] at hb; cases hb
  · rw [h1] at hb; cases hb; exact ⟨cur, hg⟩
theorem OwnI.head {B : Nat} {w : World} {v : Value} {l : List Int} (h : OwnI B w v l) {b : Nat} (hb : v.ownBlock = some b) : ∃ cur, w.heap[b]? = some (.cells cur 3 (0, 0)) := by
  rcases h.2 with ⟨h2, _⟩ | ⟨g, cap, cur, h1, _, hg, _⟩
  · rw [h2] at hb; cases hb
  · rw [h1] at hb; cases hb; exact ⟨cur, hg⟩
theorem ne_of_types {w : World} {b q : Nat} {c c' : Array Value} {e e' : TypeId} {f f' : Nat × Nat} (h : w.heap[b]? = some (.cells c e f)) (h' : w.heap[q]? = some (.cells c' e' f')) (he : e ≠ e') : b ≠ q := by
  rintro rfl
  rw [h] at h'
  simp only [Option.some.injEq, Obj.cells.injEq] at h'
  exact he h'.2.1
theorem MapIs.ne_cells {κ : Type} [DecidableEq κ] {d : TypeDesc} {mk : κ → Value} {w : World} {q b : Nat} {m : List (κ × Value)} (h : MapIs d mk w q m) {c : Array Value} {e : TypeId} {f : Nat × Nat} (h' : w.heap[b]? = some (.cells c e f)) : b ≠ q := by
  rintro rfl
  obtain ⟨es, clock, hb, _⟩ := h
  rw [hb] at h'; cases h'

theorem MapIs.at_eq {κ : Type} [DecidableEq κ] {d : TypeDesc} {mk : κ → Value} {w w1 : World} {b : Nat} {m : List (κ × Value)} (h : MapIs d mk w b m) (e : w1.heap[b]? = w.heap[b]?) : MapIs d mk w1 b m := by
  obtain ⟨es, clock, hb, r⟩ := h
  exact ⟨es, clock, e.trans hb, r⟩
def NearIs (N : Nat → Prop) (w : World) (bn : Nat) (nl : Int → List Int) : Prop :=
  ∃ m : List (Int × Value), MapIs (.int .i64) (Value.int .i64) w bn m ∧ (∀ k, mget m k = none → nl k = []) ∧ (∀ k v, mget m k = some v → OwnI 0 w v (nl k) ∧ ∀ b, v.ownBlock = some b → N b) ∧
    ∀ k k' v v', k ≠ k' → mget m k = some v → mget m k' = some v' → ∀ b, v.ownBlock = some b → v'.ownBlock ≠ some b
theorem NearIs.fr {N M : Nat → Prop} {w w' : World} {bn : Nat} {nl : Int → List Int} (h : NearIs N w bn nl) (hf : Fr M w w') (hb : ¬ M bn) (hm : ∀ k, N k → ¬ M k) : NearIs N w' bn nl := by
  obtain ⟨m, h1, h2, h3, h4⟩ := h
  exact ⟨m, h1.fr hf hb, h2, fun k v hk => ⟨(h3 k v hk).1.fr hf (fun b hb => hm b ((h3 k v hk).2 b hb)), (h3 k v hk).2⟩, h4⟩
/-- The row at a key, as the program looks it up. -/
theorem NearIs.look {N : Nat → Prop} {w : World} {bn : Nat} {nl : Int → List Int} (h : NearIs N w bn nl) (x : Int) :
    ∃ p c, (∀ w1 : World, w1.heap[bn]? = w.heap[bn]? → (Instr.lookup 99 (.map (some bn)) (.int .i64 x) false).run Tryz.prog w1 = .ok (.slice p (nl x).length c) w1) ∧ OwnI 0 w (.slice p (nl x).length c) (nl x) ∧ (∀ b, (Value.slice p (nl x).length c).ownBlock = some b → N b) ∧
      (∀ (w1 : World) (v' : Value) (l' : List Int), Fr (fun b => (Value.slice p (nl x).length c).ownBlock = some b) w w1 → OwnI 0 w1 v' l' → (v'.ownBlock = (Value.slice p (nl x).length c).ownBlock ∨ ∃ q, v'.ownBlock = some q ∧ w.heap.size ≤ q) →
        ∃ w2, (Instr.mapUpdate 99 (.map (some bn)) (.int .i64 x) v').run Tryz.prog w1 = .ok () w2 ∧ NearIs (fun k => N k ∨ w.heap.size ≤ k) w2 bn (fun k => if k = x then l' else nl k) ∧ Fr (fun k => k = bn) w1 w2) := by
  obtain ⟨m, h1, h2, h3, h4⟩ := h
  have key : ∀ (v : Value), OwnI 0 w v (nl x) → (mget m x = some v ∨ (mget m x = none ∧ v.ownBlock = none)) → ∀ (w1 : World) (v' : Value) (l' : List Int), Fr (fun b => v.ownBlock = some b) w w1 → OwnI 0 w1 v' l' → (v'.ownBlock = v.ownBlock ∨ ∃ q, v'.ownBlock = some q ∧ w.heap.size ≤ q) →
        ∃ w2, (Instr.mapUpdate 99 (.map (some bn)) (.int .i64 x) v').run Tryz.prog w1 = .ok () w2 ∧ NearIs (fun k => N k ∨ w.heap.size ≤ k) w2 bn (fun k => if k = x then l' else nl k) ∧ Fr (fun k => k = bn) w1 w2 := by
    intro v ho hv w1 v' l' hf ho' hb
    have hbn : ¬ v.ownBlock = some bn := fun e => by
      obtain ⟨cur, hc⟩ := ho.head e
      exact h1.ne_cells hc rfl
    have hm1 := h1.fr hf hbn
    obtain ⟨w2, e1, e2, e3⟩ := hm1.put (P := Tryz.prog) kkInt Tryz.underlying99 Tryz.underlying3 x v'
    refine ⟨w2, e1, ⟨_, e2, fun k hk => ?_, fun k u hk => ?_, fun k k' u u' hkk hk hk' b hbu => ?_⟩, e3⟩
    · rw [mget_put] at hk
      by_cases e : k = x
      · rw [if_pos e] at hk; cases hk
      · rw [if_neg e] at hk; simp only [if_neg e]; exact h2 k hk
    · rw [mget_put] at hk
      by_cases e : k = x
      · rw [if_pos e] at hk
        cases hk
        simp only [if_pos e]
        refine ⟨ho'.fr e3 (fun b hb2 e9 => ?_), fun b hb2 => ?_⟩
        · obtain ⟨cur, hc⟩ := ho'.head hb2
          exact hm1.ne_cells hc e9
        · rcases hb with hb | ⟨q, hb, hq⟩
          · rw [hb] at hb2
            rcases hv with hv | ⟨_, hv⟩
            · exact .inl ((h3 x v hv).2 b hb2)
            · rw [hv] at hb2; cases hb2
          · rw [hb] at hb2; cases hb2; exact .inr hq
      · rw [if_neg e] at hk
        simp only [if_neg e]
        have hu := h3 k u hk
        have hu1 : OwnI 0 w1 u (nl k) := hu.1.fr hf (fun b hb2 hb3 => by
          rcases hv with hv | ⟨_, hv⟩
          · exact h4 k x u v e hk hv b hb2 hb3
          · rw [hv] at hb3; cases hb3)
        refine ⟨hu1.fr e3 (fun b hb2 e9 => ?_), fun b hb2 => .inl (hu.2 b hb2)⟩
        obtain ⟨cur, hc⟩ := hu1.head hb2
        exact hm1.ne_cells hc e9
    · rw [mget_put] at hk hk'
      have other : ∀ k u, k ≠ x → mget m k = some u → ∀ b, u.ownBlock = some b → v'.ownBlock ≠ some b := fun k u hkx hku b hb2 hb3 => by
        rcases hb with hb | ⟨q, hb, hq⟩
        · rw [hb] at hb3
          rcases hv with hv | ⟨_, hv⟩
          · exact h4 k x u v hkx hku hv b hb2 hb3
          · rw [hv] at hb3; cases hb3
        · rw [hb] at hb3; cases hb3
          have := World.ownsRow.lt (h3 k u hku).1 _ hb2
          omega
      by_cases e : k = x
      · have e' : k' ≠ x := fun e2 => hkk (e.trans e2.symm)
        rw [if_pos e] at hk
        rw [if_neg e'] at hk'
        cases hk
        exact fun e9 => other k' u' e' hk' b e9 hbu
      · rw [if_neg e] at hk
        by_cases e' : k' = x
        · rw [if_pos e'] at hk'
          cases hk'
          exact other k u e hk b hbu
        · rw [if_neg e'] at hk'
          exact h4 k k' u u' hkk hk hk' b hbu
  cases hg : mget m x with
  | none =>
    have h0 := h2 x hg
    rw [h0]
    refine ⟨none, 0, fun w1 e => (h1.at_eq e).lookNone kkInt Tryz.underlying99 Tryz.underlying3 x hg (z := .slice none 0 0) (by kernel_rfl) false, OwnI.nil 0 w, fun b hb => (by cases hb), fun w1 v' l' => ?_⟩
    exact key (.slice none 0 0) (by rw [h0]; exact OwnI.nil 0 w) (.inr ⟨hg, rfl⟩) w1 v' l'
  | some v =>
    obtain ⟨ho, hN⟩ := h3 x v hg
    obtain ⟨p, c, hv⟩ := ho.form
    subst hv
    exact ⟨p, c, fun w1 e => (h1.at_eq e).look kkInt Tryz.underlying99 Tryz.underlying3 x hg false, ho, hN, fun w1 v' l' => key _ ho (.inl hg) w1 v' l'⟩

/-- The numbers of the links at an id. -/
def nearL (L : List Lnk) (x : Int) : List Int := ((List.range L.length).filter (fun i => (L[i]?).elim false (fun l => l.a == x || l.b == x))).map (fun i : Nat => (i : Int))
theorem nearL_app (L : List Lnk) (l : Lnk) (x : Int) : nearL (L ++ [l]) x = if l.a = x ∨ l.b = x then nearL L x ++ [(L.length : Int)] else nearL L x := by
  unfold nearL
  rw [List.length_append, List.length_singleton, List.range_succ, List.filter_append, List.map_append]
  have h1 : (List.range L.length).filter (fun i => ((L ++ [l])[i]?).elim false (fun l => l.a == x || l.b == x)) = (List.range L.length).filter (fun i => (L[i]?).elim false (fun l => l.a == x || l.b == x)) := by
    apply List.filter_congr
    intro i hi
    rw [List.getElem?_append_left (List.mem_range.1 hi)]
  rw [h1]
  by_cases h : l.a = x ∨ l.b = x
  · rw [if_pos h]
    have : (l.a == x || l.b == x) = true := by simpa using h
    simp [this]
  · rw [if_neg h]
    have : (l.a == x || l.b == x) = false := by simpa using h
    simp [this]
theorem nearL_le (L : List Lnk) (x : Int) : (nearL L x).length ≤ L.length := by
  unfold nearL
  rw [List.length_map]
  exact Nat.le_trans (List.length_filter_le _ _) (by simp)
end Go.Proofs.YtlekoceindepnaaGreatDoor
end
