import Derived.Test.YtndfncaoejbkiaaGreatDoorPk0
import Derived.Test.YtndfncaoejbkiaaGreatDoorPk1
import Derived.ChangeMaps5
import Derived.Deep.RegionHeld3
import Derived.MapKept
import Derived.Maps.AppendAt
import Derived.Maps.RangeRun
import Derived.OrdersHeld
import Derived.StillTactics
set_option linter.all false
section
/- Maps with plain keys, as lists of pairs: what the model's operations do. No program in sight. -/
namespace Go.Proofs.YtndfncaoejbkiaaGreatDoor
open Go.RowKit Go.MapKept
open Go.ChangeMaps (setBlock)

/-- mk makes the model's keys of kind d out of κ. -/
structure KK {κ : Type} (d : TypeDesc) (mk : κ → Value) : Prop where
  key : ∀ a, IsKey d (mk a)
  inj : ∀ a b, mk a = mk b → a = b
  stays : ∀ (P : Program) (w : World) a, (Instr.keyThatStays (mk a) (mk a)).run P w = .ok (mk a) w

theorem kkString : KK .string Value.string := ⟨fun _ => trivial, fun a b h => by cases h; rfl, fun P w a => MapKept.run_keyThatStays (d := .string) trivial⟩
theorem kkInt : KK (.int .i64) (Value.int .i64) := ⟨fun _ => rfl, fun a b h => by cases h; rfl, fun P w a => MapKept.run_keyThatStays (d := .int .i64) rfl⟩

set_option linter.unusedSectionVars false
section
variable {κ : Type} [DecidableEq κ]

def mget (m : List (κ × Value)) (k : κ) : Option Value := (m.find? (fun p => decide (p.1 = k))).map (·.2)
def mput (m : List (κ × Value)) (k : κ) (v : Value) : List (κ × Value) := if (mget m k).isSome then m.map (fun p => if p.1 = k then (p.1, v) else p) else m ++ [(k, v)]
def mdel (m : List (κ × Value)) (k : κ) : List (κ × Value) := m.filter (fun p => decide (p.1 ≠ k))

/-- Block b of w is a map that holds just the pairs m, in the order of their making. -/
def MapIs (_d : TypeDesc) (mk : κ → Value) (w : World) (b : Nat) (m : List (κ × Value)) : Prop :=
  ∃ es clock, w.heap[b]? = some (.map es clock) ∧ es.toList.map (fun e => (e.key, e.val)) = m.map (fun p => (mk p.1, p.2)) ∧ Stamped es clock

variable {d : TypeDesc} {mk : κ → Value} {w : World} {b : Nat} {m : List (κ × Value)}

theorem MapIs.lt (h : MapIs d mk w b m) : b < w.heap.size := by obtain ⟨es, clock, h, _⟩ := h; exact (Array.getElem?_eq_some_iff.1 h).1
theorem MapIs.fr {M : Nat → Prop} {w' : World} (h : MapIs d mk w b m) (hf : Fr M w w') (hm : ¬ M b) : MapIs d mk w' b m := by
  obtain ⟨es, clock, h1, h2⟩ := h
  exact ⟨es, clock, hf.at hm h1, h2⟩
theorem MapIs.new (d : TypeDesc) (mk : κ → Value) (w : World) : MapIs d mk (w.alloc (.map #[] 0)) w.heap.size [] := ⟨#[], 0, at_new w _, rfl, stamped_empty 0⟩

theorem find_at (K : KK d mk) {es : List MapEntry} : ∀ {m : List (κ × Value)} (k : κ) (i : Nat), es.map (fun e => (e.key, e.val)) = m.map (fun p => (mk p.1, p.2)) →
    (Instr.findNow d (mk k) es i = some none ∧ mget m k = none) ∨ ∃ j v, Instr.findNow d (mk k) es i = some (some (i + j, v)) ∧ mget m k = some v ∧ j < m.length ∧ (m.map (·.1))[j]? = some k ∧ (es.map (·.key))[j]? = some (mk k) := by
  induction es with
  | nil =>
    intro m k i h
    have : m = [] := by simpa using h.symm
    subst this
    exact .inl ⟨rfl, rfl⟩
  | cons e es ih =>
    intro m k i h
    match m, h with
    | [], h => simp at h
    | p :: m, h =>
      simp only [List.map_cons, List.cons.injEq, Prod.mk.injEq] at h
      obtain ⟨⟨hk, hv⟩, ht⟩ := h
      obtain ⟨r, hr, hiff⟩ := sameNow_of_keys (K.key k) (hk ▸ K.key p.1 : IsKey d e.key)
      by_cases hp : p.1 = k
      · have hrt : r = true := hiff.2 (by rw [hk, hp])
        subst hrt
        exact .inr ⟨0, e.val, by simp [Instr.findNow, hr], by simp [mget, hp, hv], by simp, by simp [hp], by simp [hk, hp]⟩
      · have hrf : r = false := by
          cases r with
          | false => rfl
          | true => exact absurd (K.inj _ _ ((hiff.1 rfl).trans hk)).symm hp
        subst hrf
        rcases ih (m := m) k (i + 1) ht with ⟨h1, h2⟩ | ⟨j, v, h1, h2, h3, h4, h5⟩
        · exact .inl ⟨by simp [Instr.findNow, hr, h1], by simp only [mget, List.find?_cons, hp, decide_false]; exact h2⟩
        · refine .inr ⟨j + 1, v, by simp [Instr.findNow, hr, h1]; omega, by simp only [mget, List.find?_cons, hp, decide_false]; exact h2, by simpa using h3, by simpa using h4, by simpa using h5⟩

variable {P : Program} {t kt e : TypeId}

theorem MapIs.look (h : MapIs d mk w b m) (K : KK d mk) (ht : P.underlying t = some (.map kt e)) (hk : P.underlying kt = some d) (k : κ) {v : Value} (hg : mget m k = some v) (ok : Bool) :
    (Instr.lookup t (.map (some b)) (mk k) ok).run P w = .ok (if ok then .tuple #[v, .bool true] else v) w := by
  obtain ⟨es, clock, hb, hm, _⟩ := h
  rcases find_at K k 0 hm with ⟨h1, h2⟩ | ⟨j, v', h1, h2, _⟩
  · rw [h2] at hg; cases hg
  · rw [h2] at hg; cases hg
    have hf := MapKept.run_findKey (P := P) (w := w) hk h1
    simp [Instr.lookup, run_underlying ht, MapKept.run_getObj_map hb, MapKept.run_checkKey (P := P) (w := w) hk (K.key k), hf, Result.andThen]

theorem MapIs.lookNone (h : MapIs d mk w b m) (K : KK d mk) (ht : P.underlying t = some (.map kt e)) (hk : P.underlying kt = some d) (k : κ) (hg : mget m k = none) {z : Value} (hz : (zeroValue e).run P w = .ok z w) (ok : Bool) :
    (Instr.lookup t (.map (some b)) (mk k) ok).run P w = .ok (if ok then .tuple #[z, .bool false] else z) w := by
  obtain ⟨es, clock, hb, hm, _⟩ := h
  rcases find_at K k 0 hm with ⟨h1, h2⟩ | ⟨j, v', h1, h2, _⟩
  · have hf := MapKept.run_findKey (P := P) (w := w) hk h1
    simp [Instr.lookup, run_underlying ht, MapKept.run_getObj_map hb, MapKept.run_checkKey (P := P) (w := w) hk (K.key k), hf, hz, Result.andThen]
  · rw [h2] at hg; cases hg

theorem map_erase {α β : Type} (f : α → β) : ∀ (l : List α) (i : Nat), (l.eraseIdx i).map f = (l.map f).eraseIdx i
  | [], _ => rfl
  | _ :: _, 0 => rfl
  | x :: l, i + 1 => by rw [List.eraseIdx_cons_succ, List.map_cons, List.map_cons, List.eraseIdx_cons_succ, map_erase f l i]

theorem frBlock (_hb : b < w.heap.size) (o : Obj) : Fr (fun k => k = b) w (setBlock w b o) :=
  ⟨rfl, rfl, rfl, by simp [setBlock], fun k _ hk => by simp [setBlock, Ne.symm (show k ≠ b from hk)]⟩

theorem nodup_of (_K : KK d mk) {es : Array MapEntry} {clock : Nat} (hm : es.toList.map (fun e => (e.key, e.val)) = m.map (fun p => (mk p.1, p.2))) (hs : Stamped es clock) : (m.map (·.1)).Nodup := by
  have h1 : es.toList.map (·.key) = (m.map (·.1)).map mk := by
    have := congrArg (List.map (·.1)) hm
    rw [List.map_map, List.map_map] at this
    rw [List.map_map]; exact this
  have h2 := hs.2.2
  rw [h1] at h2
  exact List.Pairwise.imp (fun h e => h (by rw [e])) (List.pairwise_map.1 h2)

theorem MapIs.nodup (h : MapIs d mk w b m) (K : KK d mk) : (m.map (·.1)).Nodup := by
  obtain ⟨es, clock, _, hm, hs⟩ := h
  exact nodup_of K hm hs

theorem MapIs.del (h : MapIs d mk w b m) (K : KK d mk) (ht : P.underlying t = some (.map kt e)) (hk : P.underlying kt = some d) (k : κ) (ty : TypeId) (t2 : TypeId) :
    ∃ w', (Builtin.delete_ #[t, t2] ty #[.map (some b), mk k]).run P w = .ok (.tuple #[]) w' ∧ MapIs d mk w' b (mdel m k) ∧ Fr (fun q => q = b) w w' := by
  have hlt := h.lt
  have hnd := h.nodup K
  obtain ⟨es, clock, hb, hm, hs⟩ := h
  rcases find_at K k 0 hm with ⟨h1, h2⟩ | ⟨j, v', h1, h2, h3, h4, h5⟩
  · have hf := MapKept.run_findKey (P := P) (w := w) hk h1
    refine ⟨setBlock w b (.map es clock), ?_, ⟨es, clock, by simp [setBlock, hlt], ?_, hs⟩, frBlock hlt _⟩
    · simp [Builtin.delete_, run_underlying ht, MapKept.run_getObj_map hb, MapKept.run_checkKey (P := P) (w := w) hk (K.key k), hf, MapKept.run_setObj_map _ hb, Result.andThen, setBlock]
    · rw [hm]
      congr 1
      refine (List.filter_eq_self.2 (fun p hp => ?_)).symm
      simp only [decide_eq_true_eq]
      intro e2
      have : mget m k ≠ none := by
        unfold mget
        intro h0
        rw [Option.map_eq_none_iff, List.find?_eq_none] at h0
        exact h0 p hp (by simpa using e2)
      exact this h2
  · have hf := MapKept.run_findKey (P := P) (w := w) hk h1
    refine ⟨setBlock w b (.map (es.eraseIdxIfInBounds (0 + j)) clock), ?_, ⟨es.eraseIdxIfInBounds (0 + j), clock, by simp [setBlock, hlt], ?_, ?_⟩, frBlock hlt _⟩
    · simp [Builtin.delete_, run_underlying ht, MapKept.run_getObj_map hb, MapKept.run_checkKey (P := P) (w := w) hk (K.key k), hf, MapKept.run_setObj_map _ hb, Result.andThen, setBlock]
    · rw [Nat.zero_add]
      have e1 : (es.eraseIdxIfInBounds j).toList = es.toList.eraseIdx j := by simp
      rw [e1, map_erase, hm, ← map_erase]
      congr 1
      have key : ∀ (m : List (κ × Value)) (j : Nat), (m.map (·.1)).Nodup → (m.map (·.1))[j]? = some k → m.eraseIdx j = m.filter (fun p => decide (p.1 ≠ k)) := by
        intro m
        induction m with
        | nil => intro j _ h; simp at h
        | cons p m ih =>
          intro j hn hj
          simp only [List.map_cons, List.nodup_cons] at hn
          cases j with
          | zero =>
            simp only [List.map_cons, List.getElem?_cons_zero, Option.some.injEq] at hj
            rw [List.eraseIdx_cons_zero, List.filter_cons_of_neg (by simpa using hj)]
            refine (List.filter_eq_self.2 (fun q hq => ?_)).symm
            simp only [decide_eq_true_eq]
            intro e2
            exact hn.1 (by rw [hj, ← e2]; exact List.mem_map_of_mem hq)
          | succ j =>
            simp only [List.map_cons, List.getElem?_cons_succ] at hj
            rw [List.eraseIdx_cons_succ, List.filter_cons_of_pos, ih j hn.2 hj]
            simp only [decide_eq_true_eq]
            intro e2
            exact hn.1 (by rw [e2]; exact List.mem_of_getElem? hj)
      exact key m j hnd h4
    · obtain ⟨s1, s2, s3⟩ := hs
      have e1 : (es.eraseIdxIfInBounds (0 + j)).toList = es.toList.eraseIdx (0 + j) := by simp
      refine ⟨fun x hx => s1 x (by rw [e1] at hx; exact List.mem_of_mem_eraseIdx hx), ?_, ?_⟩
      · rw [e1, map_erase]; exact List.Nodup.sublist (List.eraseIdx_sublist _ _) s2
      · rw [e1, map_erase]; exact List.Nodup.sublist (List.eraseIdx_sublist _ _) s3

theorem MapIs.put (h : MapIs d mk w b m) (K : KK d mk) (ht : P.underlying t = some (.map kt e)) (hk : P.underlying kt = some d) (k : κ) (v : Value) :
    ∃ w', (Instr.mapUpdate t (.map (some b)) (mk k) v).run P w = .ok () w' ∧ MapIs d mk w' b (mput m k v) ∧ Fr (fun q => q = b) w w' := by
  have hlt := h.lt
  have hnd := h.nodup K
  obtain ⟨es, clock, hb, hm, hs⟩ := h
  rcases find_at K k 0 hm with ⟨h1, h2⟩ | ⟨j, v', h1, h2, h3, h4, h5⟩
  · have hf := MapKept.run_findKey (P := P) (w := w) hk h1
    refine ⟨setBlock w b (.map (es.push { key := mk k, val := v, born := clock }) (clock + 1)), ?_, ⟨es.push { key := mk k, val := v, born := clock }, clock + 1, by simp [setBlock, hlt], ?_, stamped_push hs ?_⟩, frBlock hlt _⟩
    · simp [Instr.mapUpdate, run_underlying ht, MapKept.run_getObj_map hb, MapKept.run_checkKey (P := P) (w := w) hk (K.key k), hf, MapKept.run_setObj_map _ hb, Result.andThen, setBlock]
    · rw [mput, h2]; simp [hm]
    · intro x hx e2
      have hx1 : (x.key, x.val) ∈ m.map (fun p => (mk p.1, p.2)) := by rw [← hm]; exact List.mem_map_of_mem (f := fun e : MapEntry => (e.key, e.val)) hx
      obtain ⟨p, hp, hpe⟩ := List.mem_map.1 hx1
      simp only [Prod.mk.injEq] at hpe
      have e3 : p.1 = k := K.inj _ _ (hpe.1.trans e2)
      unfold mget at h2
      rw [Option.map_eq_none_iff, List.find?_eq_none] at h2
      exact h2 p hp (by simpa using e3)
  · have hf := MapKept.run_findKey (P := P) (w := w) hk h1
    have hj : j < es.size := by
      have := congrArg List.length hm
      simp at this
      omega
    have hkey : (((es[0 + j]?).map (·.key)).getD (mk k)) = mk k := by
      rw [Nat.zero_add]
      rw [List.getElem?_map, Array.getElem?_toList] at h5
      rw [h5]; rfl
    refine ⟨setBlock w b (.map (es.modify (0 + j) fun e => { e with key := mk k, val := v }) clock), ?_, ⟨es.modify (0 + j) (fun e => { e with key := mk k, val := v }), clock, by simp [setBlock, hlt], ?_, ?_⟩, frBlock hlt _⟩
    · simp only [Instr.mapUpdate, Sem.run_bind, run_underlying ht, MapKept.run_getObj_map hb, MapKept.run_checkKey (P := P) (w := w) hk (K.key k), hf, Result.andThen, hkey, K.stays, MapKept.run_setObj_map _ hb]
      rfl
    · rw [Nat.zero_add, mput, h2]
      simp only [Option.isSome_some, if_true, Array.toList_modify]
      refine List.ext_getElem? (fun i => ?_)
      have hmi : (es.toList.map (fun e => (e.key, e.val)))[i]? = (m.map (fun p => (mk p.1, p.2)))[i]? := by rw [hm]
      simp only [List.getElem?_map] at hmi h4 ⊢
      rw [List.getElem?_modify]
      by_cases hij : j = i
      · subst hij
        simp only [if_true, Option.map_eq_map]
        cases hmj : m[j]? with
        | none => rw [hmj] at h4; simp at h4
        | some p =>
          rw [hmj] at hmi h4
          simp only [Option.map_some, Option.some.injEq] at h4 hmi ⊢
          cases hej : es.toList[j]? with
          | none => rw [hej] at hmi; simp at hmi
          | some e1 => simp [h4]
      · simp only [if_neg hij, Option.map_eq_map, Option.map_id']
        cases hmj : m[i]? with
        | none => rw [hmj] at hmi; simpa using hmi
        | some p =>
          rw [hmj] at hmi
          have hpk : p.1 ≠ k := by
            intro e2
            have h6 : (m.map (·.1))[i]? = some k := by rw [List.getElem?_map, hmj]; simp [e2]
            have h7 : (m.map (·.1))[j]? = some k := by rw [List.getElem?_map]; exact h4
            have hi : i < (m.map (·.1)).length := (List.getElem?_eq_some_iff.1 h6).1
            have hjj : j < (m.map (·.1)).length := (List.getElem?_eq_some_iff.1 h7).1
            rw [List.getElem?_eq_getElem hi] at h6
            rw [List.getElem?_eq_getElem hjj] at h7
            have := (List.getElem_inj (h₀ := hjj) (h₁ := hi) hnd).1 ((Option.some.inj h7).trans (Option.some.inj h6).symm)
            exact hij this
          simpa [hpk] using hmi
    · refine stamped_modify hs _ _ (fun _ _ => rfl) (fun x hx hxj => ?_)
      rw [Nat.zero_add] at hxj
      rw [List.getElem?_map, Array.getElem?_toList, hxj] at h5
      simpa using h5.symm

end
end Go.Proofs.YtndfncaoejbkiaaGreatDoor
end
section
/- Maps: a statement that stores into an entry that is there (m[k], x = v, ..), and what a store leaves at each key. -/
namespace Go.Proofs.YtndfncaoejbkiaaGreatDoor
open Go.RowKit Go.MapKept
open Go.ChangeMaps (setBlock)

section
variable {κ : Type} [DecidableEq κ] {d : TypeDesc} {mk : κ → Value} {w : World} {b : Nat} {m : List (κ × Value)} {P : Program} {t kt e : TypeId}

theorem mget_app (m m' : List (κ × Value)) (k : κ) : mget (m ++ m') k = (mget m k).or (mget m' k) := by
  unfold mget
  rw [List.find?_append]
  cases List.find? (fun p => decide (p.1 = k)) m <;> simp
theorem mget_map_at (k k' : κ) (v : Value) : ∀ m : List (κ × Value), mget (m.map (fun p => if p.1 = k then (p.1, v) else p)) k' = if k' = k then (mget m k).map (fun _ => v) else mget m k'
  | [] => by simp [mget]
  | p :: m => by
    have ih := mget_map_at k k' v m
    unfold mget at ih ⊢
    by_cases h : p.1 = k
    · by_cases h2 : k' = k
      · subst h2; simp [List.find?_cons, h]
      · have h3 : ¬ p.1 = k' := fun e => h2 (e ▸ h)
        simp only [List.map_cons, h, if_true, List.find?_cons, if_neg h2] at ih ⊢
        have h4 : decide (k = k') = false := by simpa using fun e => h2 e.symm
        rw [h4]
        exact ih
    · by_cases h3 : p.1 = k'
      · have h2 : ¬ k' = k := fun e => h (h3.trans e)
        simp [List.find?_cons, h3, h2]
      · by_cases h2 : k' = k
        · subst h2
          simp only [List.map_cons, if_neg h, List.find?_cons, decide_eq_false h, if_true] at ih ⊢
          exact ih
        · simp only [List.map_cons, if_neg h, List.find?_cons, decide_eq_false h3, if_neg h2] at ih ⊢
          exact ih
theorem mget_put (m : List (κ × Value)) (k k' : κ) (v : Value) : mget (mput m k v) k' = if k' = k then some v else mget m k' := by
  unfold mput
  by_cases h : (mget m k).isSome = true
  · rw [if_pos h, mget_map_at]
    obtain ⟨x, hx⟩ := Option.isSome_iff_exists.1 h
    rw [hx]; rfl
  · rw [if_neg h, mget_app]
    have hn : mget m k = none := by simpa using h
    by_cases h2 : k' = k
    · subst h2; rw [hn]; simp [mget]
    · have h3 : mget [(k, v)] k' = none := by simp [mget, List.find?_cons, Ne.symm h2]
      rw [h3, if_neg h2]; simp

theorem modify_same {es : Array MapEntry} {j : Nat} {f : MapEntry → MapEntry} (h : ∀ x, es[j]? = some x → f x = x) : es.modify j f = es := by
  apply Array.ext_getElem?
  intro i
  rw [Array.getElem?_modify]
  by_cases hij : j = i
  · subst hij
    simp only [if_true]
    cases he : es[j]? with
    | none => rfl
    | some x => simp [h x he]
  · rw [if_neg hij]
theorem modify_cong {es : Array MapEntry} {j : Nat} {f g : MapEntry → MapEntry} (h : ∀ x, es[j]? = some x → f x = g x) : es.modify j f = es.modify j g := by
  apply Array.ext_getElem?
  intro i
  rw [Array.getElem?_modify, Array.getElem?_modify]
  by_cases hij : j = i
  · subst hij
    simp only [if_true]
    cases he : es[j]? with
    | none => rfl
    | some x => simp [h x he]
  · rw [if_neg hij, if_neg hij]
theorem setBlock_same {es : Array MapEntry} {clock : Nat} (hb : w.heap[b]? = some (.map es clock)) : setBlock w b (.map es clock) = w := by
  unfold setBlock
  have : w.heap.setIfInBounds b (.map es clock) = w.heap := by
    apply Array.ext_getElem?
    intro i
    rw [Array.getElem?_setIfInBounds]
    by_cases h : b = i
    · subst h
      rw [if_pos rfl]
      have := (Array.getElem?_eq_some_iff.1 hb).1
      rw [if_pos this, hb]
    · rw [if_neg h]
  rw [this]

/-- An entry that is there: mapEntry leaves the world, and entryStore behind it stores as mapUpdate does. -/
theorem MapIs.entry (h : MapIs d mk w b m) (K : KK d mk) (ht : P.underlying t = some (.map kt e)) (hk : P.underlying kt = some d) (k : κ) {v : Value} (hg : mget m k = some v) (u : Value) :
    ∃ s w', (Instr.mapEntry t (.map (some b)) (mk k)).run P w = .ok (.tuple #[v, .int .i64 s]) w ∧ (Instr.entryStore t (.map (some b)) (.int .i64 s) u).run P w = .ok () w' ∧ MapIs d mk w' b (mput m k u) ∧ Fr (fun q => q = b) w w' := by
  obtain ⟨w', hp, hm', hf⟩ := h.put (P := P) K ht hk k u
  obtain ⟨es, clock, hb, hm, hs⟩ := h
  rcases find_at K k 0 hm with ⟨h1, h2⟩ | ⟨j, v', h1, h2, h3, h4, h5⟩
  · rw [h2] at hg; cases hg
  · rw [h2] at hg; cases hg
    have hfk := MapKept.run_findKey (P := P) (w := w) hk h1
    have hj : j < es.size := by
      have := congrArg List.length hm
      simp at this
      omega
    obtain ⟨x, hx⟩ : ∃ x, es[j]? = some x := ⟨_, Array.getElem?_eq_getElem hj⟩
    have hxk : x.key = mk k := by
      rw [List.getElem?_map, Array.getElem?_toList, hx] at h5
      simpa using h5
    have hkey : (((es[0 + j]?).map (·.key)).getD (mk k)) = mk k := by rw [Nat.zero_add, hx]; simpa using hxk
    have hsame : es.modify (0 + j) (fun e => { e with key := mk k }) = es := modify_same (fun y hy => by
      rw [Nat.zero_add, hx] at hy
      cases hy
      rw [← hxk])
    refine ⟨x.born, w', ?_, ?_, hm', hf⟩
    · simp only [Instr.mapEntry, Sem.run_bind, run_underlying ht, MapKept.run_getObj_map hb, MapKept.run_checkKey (P := P) (w := w) hk (K.key k), hfk, Result.andThen, hkey, K.stays, MapKept.run_setObj_map _ hb, hsame]
      rw [Nat.zero_add, hx]
      have := setBlock_same hb
      unfold setBlock at this
      simp only [this]
      rfl
    · have hfi : es.findIdx? (fun e => (e.born : Int) == (x.born : Int)) = some j := by
        rw [Array.findIdx?_eq_some_iff_getElem]
        refine ⟨hj, ?_, fun i hij => ?_⟩
        · have : es[j] = x := by rw [Array.getElem?_eq_getElem hj] at hx; exact Option.some.inj hx
          rw [this]; simp
        · have hnd := hs.2.1
          have hi : i < es.size := by omega
          intro he
          have hxj : es[j] = x := by rw [Array.getElem?_eq_getElem hj] at hx; exact Option.some.inj hx
          have he2 : es[i].born = es[j].born := by
            rw [hxj]
            have h9 : (es[i].born : Int) = (x.born : Int) := by simpa using he
            omega
          have hl1 : i < (es.toList.map (·.born)).length := by simpa using hi
          have hl2 : j < (es.toList.map (·.born)).length := by simpa using hj
          have := (List.getElem_inj (h₀ := hl1) (h₁ := hl2) hnd).1 (by simpa using he2)
          omega
      rw [← hp]
      simp only [Instr.mapUpdate, Instr.entryStore, Sem.run_bind, run_underlying ht, MapKept.run_getObj_map hb, MapKept.run_checkKey (P := P) (w := w) hk (K.key k), hfk, Result.andThen, hkey, K.stays, MapKept.run_setObj_map _ hb]
      have hmod : es.modify (0 + j) (fun e => { e with key := mk k, val := u }) = es.modify j (fun e => { e with val := u }) := by
        rw [Nat.zero_add]
        exact modify_cong (fun y hy => by rw [hx] at hy; cases hy; rw [← hxk])
      rw [hmod]
      have ha : (asInt (.int .i64 (x.born : Int))).run P w = .ok (x.born : Int) w := rfl
      simp only [ha, hfi, MapKept.run_setObj_map _ hb]
end
end Go.Proofs.YtndfncaoejbkiaaGreatDoor
end
section
/- Drawn regions in TEXT ORDER: each operation either is not wanted, or yields one and the same value in every world of a family G and leaves a world of G. -/
namespace Go.Proofs.YtndfncaoejbkiaaGreatDoor
open Go.RowKit
set_option maxRecDepth 100000

section
variable {P : Program} {ops : Array Oper} {md : Region.Mode} {G : World → Prop}

/-- The operation's run ends with the value v in a world of G. -/
def okR (P : Program) (v : Value) (G : World → Prop) : Result Next → Prop
  | .ok (.value u) W => u = v ∧ G W
  | .ok .skip W => undef = v ∧ G W
  | .ok (.enter f args) W => Calls P f args W (fun e W' => e = .returned v ∧ G W')
  | .ok (.row r args) W => Rows P r args W (fun u W' => u = v ∧ G W')
  | _ => False
/-- What the operation gives, in every world of G. -/
def YG (P : Program) (ops : Array Oper) (G : World → Prop) (o : Oper) (v : Value) (a : Act) : Prop :=
  (Region.wanted o (yielded ops a.tmps) = true ∧ ∀ W, G W → okR P v G ((execOp a.eval o).run P W)) ∨
  (Region.wanted o (yielded ops a.tmps) = false ∧ v = undef)
theorem YG.of_same {o : Oper} {v : Value} {a a' : Act} (hy : YG P ops G o v a) (he : execOp a'.eval o = execOp a.eval o)
    (hw : Region.wanted o (yielded ops a'.tmps) = Region.wanted o (yielded ops a.tmps)) : YG P ops G o v a' := by
  unfold YG at *
  rw [he, hw]
  exact hy
theorem okR.wp {o : Oper} {v : Value} {a : Act} {K : Act → World → Prop} {Q : Exit → Act → World → Prop} (hK : ∀ W, G W → K (a.put o.dst v) W) {r : Result Next} (h : okR P v G r) : o.upon P a K Q r := by
  cases r with
  | ok n W =>
    cases n <;> simp only [okR] at h <;> simp only [Oper.upon]
    case value u => obtain ⟨rfl, h⟩ := h; exact hK _ h
    case skip => obtain ⟨rfl, h⟩ := h; exact hK _ h
    case enter f args => exact h.mono fun e W' ⟨he, hw⟩ => by subst he; exact hK _ hw
    case row r args => exact Rows.mono h fun u W' ⟨he, hw⟩ => by subst he; exact hK _ hw
  | halt x W => cases x <;> exact False.elim h
theorem YG.wpOp {i : Nat} {o : Oper} {v : Value} {a : Act} (hi : ops[i]? = some o) (hy : YG P ops G o v a) {K : Act → World → Prop} {Q : Exit → Act → World → Prop}
    (hK : ∀ W, G W → K (a.put o.dst v) W) {W : World} (hW : G W) : Go.wpOp P ops Q i K a W := by
  unfold Go.wpOp
  simp only [hi]
  rcases hy with ⟨hw, hv⟩ | ⟨hw, rfl⟩
  · simp only [hw, if_true]
    exact .inl (okR.wp hK (hv W hW))
  · simp only [hw, Bool.false_eq_true, if_false]
    exact hK _ hW

/-- One operation, by its number. -/
def stG (P : Program) (ops : Array Oper) (G : World → Prop) (i : Nat) (K : Act → Prop) (a : Act) : Prop :=
  ∀ o, ops[i]? = some o → ∃ v, YG P ops G o v a ∧ K (a.put o.dst v)
theorem stG_mono {i : Nat} {a : Act} {K K' : Act → Prop} (h : ∀ a, K a → K' a) (hh : stG P ops G i K a) : stG P ops G i K' a := fun o ho => by
  obtain ⟨v, h1, h2⟩ := hh o ho
  exact ⟨v, h1, h _ h2⟩
theorem stG_put {j : Nat} {oi oj : Oper} {v : Value} (hj : ops[j]? = some oj) (hap : oi.apart ops oj = true)
    (hsi : ∀ cs b, oi.op ≠ .select cs b) (hsj : ∀ cs b, oj.op ≠ .select cs b) {K : Act → Prop} {a : Act}
    (hy : YG P ops G oi v a) (h : stG P ops G j K (a.put oi.dst v)) : stG P ops G j (fun a' => YG P ops G oi v a' ∧ K (a'.put oi.dst v)) a := fun o ho => by
  obtain rfl : oj = o := by rw [hj] at ho; exact Option.some.inj ho
  obtain ⟨h1, h2, h3⟩ := Oper.apart_spec hap
  obtain ⟨u, hu, hK⟩ := h _ hj
  refine ⟨u, hu.of_same (execOp_put oj hsj a oi.dst v h1).symm (wanted_put oj a oi.dst v h1).symm, hy.of_same (execOp_put oi hsi a oj.dst u h3) (wanted_put oi a oj.dst u h3), ?_⟩
  rw [← Act.put_comm a v u h2]
  exact hK
/-- All orders. -/
def anyG (P : Program) (md : Region.Mode) (ops : Array Oper) (G : World → Prop) (R : Act → Prop) : Nat → Array Bool → Act → Prop
  | 0, listed, a => Region.ready md ops listed = [] ∧ R a
  | fuel + 1, listed, a => (Region.ready md ops listed = [] → R a) ∧ ∀ i ∈ Region.ready md ops listed, stG P ops G i (anyG P md ops G R fuel (listed.setIfInBounds i true)) a
theorem anyG.any {R : Act → Prop} {Q : Exit → Act → World → Prop} (hR : ∀ a W, R a → G W → Q .normal a W) : ∀ (fuel : Nat) (listed : Array Bool) (a : Act) (W : World),
    anyG P md ops G R fuel listed a → G W → wpAny P md ops Q fuel listed a W
  | 0, _, _, _, h, hW => ⟨h.1, hR _ _ h.2 hW⟩
  | fuel + 1, listed, a, W, h, hW => ⟨fun h0 => hR _ _ (h.1 h0) hW, fun i hi => by
      obtain ⟨_, o, ho, _⟩ := mem_ready.1 hi
      obtain ⟨v, hy, hK⟩ := h.2 i hi o ho
      exact hy.wpOp ho (fun W' hW' => anyG.any hR fuel _ _ W' hK hW') hW⟩
theorem anyG_first {R : Act → Prop} {i : Nat} {oi : Oper} {v : Value} (hi : ops[i]? = some oi) (hsel : ∀ (j : Nat) (o : Oper) cs b, ops[j]? = some o → o.op ≠ .select cs b) :
    ∀ (fuel : Nat) (listed : Array Bool) (a : Act),
      (∀ j oj, ops[j]? = some oj → j ≠ i → listed.getD j true = false → (∀ e ∈ oj.after, Region.binds md e = true → e.on ≠ i) → oi.apart ops oj = true) →
      i ∈ Region.ready md ops listed → YG P ops G oi v a →
      anyG P md ops G R fuel (listed.setIfInBounds i true) (a.put oi.dst v) → anyG P md ops G R (fuel + 1) listed a := by
  intro fuel
  induction fuel with
  | zero =>
    intro listed a _ hr hy H
    refine ⟨fun h => absurd (h ▸ hr) (by simp), fun j hj => ?_⟩
    by_cases hji : j = i
    · subst hji
      intro o ho
      obtain rfl : oi = o := by rw [hi] at ho; exact Option.some.inj ho
      exact ⟨v, hy, H⟩
    · have := ready_mono hj hji
      rw [H.1] at this
      cases this
  | succ fuel ih =>
    intro listed a hfree hr hy H
    refine ⟨fun h => absurd (h ▸ hr) (by simp), fun j hj => ?_⟩
    by_cases hji : j = i
    · subst hji
      intro o ho
      obtain rfl : oi = o := by rw [hi] at ho; exact Option.some.inj ho
      exact ⟨v, hy, H⟩
    · obtain ⟨hjun, oj, hoj, hall⟩ := mem_ready.1 hj
      have hnot : ∀ e ∈ oj.after, Region.binds md e = true → e.on ≠ i := fun e he hb heq => by
        have h1 := hall e he hb
        have h0 := (mem_ready.1 hr).1
        rw [heq] at h1
        rcases Nat.lt_or_ge i listed.size with h' | h'
        · simp [h'] at h0 h1; rw [h0] at h1; cases h1
        · simp [Array.getElem?_eq_none h'] at h1
      have h2 := stG_put hoj (hfree j oj hoj hji hjun hnot) (fun cs b => hsel i oi cs b hi) (fun cs b => hsel j oj cs b hoj) hy (H.2 j (ready_mono hj hji))
      refine stG_mono (fun a' h3 => ih (listed.setIfInBounds j true) a' (fun k ok hk hki hun hno => hfree k ok hk hki ?_ hno) (ready_mono hr (Ne.symm hji)) h3.1 ?_) h2
      · by_cases hjk : j = k
        · subst hjk; exact hjun
        · rw [getD_set_ne true hjk] at hun; exact hun
      · rw [Array.setIfInBounds_comm _ _ hji]
        exact h3.2
/-- The operations in text order. -/
def txtG (P : Program) (ops : Array Oper) (G : World → Prop) (R : Act → Prop) : List Oper → Act → Prop
  | [], a => R a
  | o :: rest, a => ∃ v, YG P ops G o v a ∧ txtG P ops G R rest (a.put o.dst v)
theorem txtG.any {R : Act → Prop} (hs : Region.noSelect ops = true) : ∀ (l : List Oper) (k : Nat) (listed : Array Bool) (a : Act), (∀ j, l[j]? = ops[k + j]?) →
    Region.lexFrom md ops l.length k listed = true → txtG P ops G R l a → anyG P md ops G R l.length listed a
  | [], _, _, _, _, hB, h => ⟨by simpa [Region.lexFrom] using hB, h⟩
  | o :: l, k, listed, a, hl, hB, h => by
    have h0 : ops[k]? = some o := by simpa using (hl 0).symm
    simp only [List.length_cons, Region.lexFrom, Bool.and_eq_true] at hB
    obtain ⟨⟨hr, hf⟩, hB'⟩ := hB
    obtain ⟨v, hy, hK⟩ := h
    exact anyG_first h0 (Region.noSelect_spec hs) l.length listed a (Region.free_spec h0 hf) (by simpa using hr) hy
      (txtG.any hs l (k + 1) _ _ (fun j => by have := hl (j + 1); simpa [Nat.add_assoc, Nat.add_comm 1 j] using this) hB' hK)
theorem region_txt (G : World → Prop) {id : Nat} {Q : Exit → Act → World → Prop} {a : Act} {w : World} {l : List Oper} (hm : P.follows .mixedOrders = true) (hB : Region.lexB .any l.toArray = true)
    (hG : G w.drew) (h : txtG P l.toArray G (fun a' => ∀ W, G W → Q .normal a' W) l a) : (Code.region id l.toArray true).wp P Q a w := by
  simp only [Region.lexB, Bool.and_eq_true] at hB
  refine wp_region_any hm ?_
  have := txtG.any (md := .any) hB.1 l 0 (Array.replicate l.length false) a (by simp) (by simpa using hB.2) h
  simpa using this.any (fun a W hR hW => hR W hW) _ _ _ _ hG
theorem txt_nil {R : Act → Prop} {a : Act} (h : R a) : txtG P ops G R [] a := h
theorem txt_off {R : Act → Prop} {a : Act} {o : Oper} {rest : List Oper} (hw : Region.wanted o (yielded ops a.tmps) = false) (h : txtG P ops G R rest (a.put o.dst undef)) : txtG P ops G R (o :: rest) a :=
  ⟨undef, .inr ⟨hw, rfl⟩, h⟩
theorem txt_on {R : Act → Prop} {a : Act} {o : Oper} {rest : List Oper} (v : Value) (hw : Region.wanted o (yielded ops a.tmps) = true) (hy : ∀ W, G W → okR P v G ((execOp a.eval o).run P W)) (h : txtG P ops G R rest (a.put o.dst v)) : txtG P ops G R (o :: rest) a :=
  ⟨v, .inl ⟨hw, hy⟩, h⟩
/-- A read: every world of G gives the same value and stays as it is. -/
theorem txt_read {R : Act → Prop} {a : Act} {o : Oper} {rest : List Oper} (v : Value) (hw : Region.wanted o (yielded ops a.tmps) = true) (hy : ∀ W, G W → (execOp a.eval o).run P W = .ok (.value v) W) (h : txtG P ops G R rest (a.put o.dst v)) : txtG P ops G R (o :: rest) a :=
  txt_on v hw (fun W hW => by rw [hy W hW]; exact ⟨rfl, hW⟩) h
theorem txt_call {R : Act → Prop} {a : Act} {o : Oper} {rest : List Oper} (v : Value) (f : FuncId) (args : Array Value) (hw : Region.wanted o (yielded ops a.tmps) = true) (hy : ∀ W, (execOp a.eval o).run P W = .ok (.enter f args) W)
    (hc : ∀ W, G W → Calls P f args W (fun e W' => e = .returned v ∧ G W')) (h : txtG P ops G R rest (a.put o.dst v)) : txtG P ops G R (o :: rest) a :=
  txt_on v hw (fun W hW => by rw [hy W]; exact hc W hW) h
end

theorem lt_of_cell {w : World} {b o : Nat} {v : Value} (h : w.cell? ⟨b, o, none⟩ = some v) : b < w.heap.size := by
  rcases Nat.lt_or_ge b w.heap.size with h1 | h1
  · exact h1
  · simp [World.cell?, Array.getElem?_eq_none h1] at h
theorem Fr.cf {w W : World} {b o : Nat} {v : Value} (hf : Fr NoB w W) (h : w.cell? ⟨b, o, none⟩ = some v) : W.cell? ⟨b, o, none⟩ = some v :=
  hf.c (lt_of_cell h) (fun h => h) h
theorem Fr.cq {w W : World} (hf : Fr NoB w W) (b o : Nat) (h : b < w.heap.size) : W.cell? ⟨b, o, none⟩ = w.cell? ⟨b, o, none⟩ := hf.cells.1 b o h

end Go.Proofs.YtndfncaoejbkiaaGreatDoor
end
section
/- Drawn regions that write. The operations come in three kinds: 0 reads (the same value in every world that meets S), 1 works on values alone, 2 turns the world; behind the operation 'brk' S need not hold. Reads and works are taken as soon as they may come up; those that turn the world come up one at a time. -/
namespace Go.Proofs.YtndfncaoejbkiaaGreatDoor
open Go.RowKit
set_option maxRecDepth 100000

section
variable {P : Program} {ops : Array Oper} {S : World → Prop} {Q : Exit → Act → World → Prop} {md : Region.Mode} {brk : Nat}

abbrev AnyW : World → Prop := fun _ => True
def TT (S : World → Prop) (brk : Nat) (listed : Array Bool) (w : World) : Prop := listed.getD brk false = true ∨ S w
theorem getD_set_ne' {l : Array Bool} {i k : Nat} (h : i ≠ k) : (l.setIfInBounds i true).getD k false = l.getD k false := by
  rw [Array.getD_eq_getD_getElem?, Array.getD_eq_getD_getElem?, Array.getElem?_setIfInBounds_ne h]
def wpAnyT (P : Program) (md : Region.Mode) (ops : Array Oper) (Q : Exit → Act → World → Prop) (S : World → Prop) (brk : Nat) : Nat → Array Bool → Act → World → Prop
  | 0, listed, a, w => Region.ready md ops listed = [] ∧ Q .normal a w
  | fuel + 1, listed, a, w =>
    (Region.ready md ops listed = [] → Q .normal a w) ∧
    ∀ i ∈ Region.ready md ops listed, wpOp P ops Q i (fun a' w' => TT S brk (listed.setIfInBounds i true) w' ∧ wpAnyT P md ops Q S brk fuel (listed.setIfInBounds i true) a' w') a w
theorem wpAny_of_T : ∀ (fuel : Nat) (listed : Array Bool) (a : Act) (w : World), wpAnyT P md ops Q S brk fuel listed a w → wpAny P md ops Q fuel listed a w
  | 0, _, _, _, h => h
  | fuel + 1, _, _, _, h => ⟨h.1, fun i hi => wpOp_mono (fun a' w' h' => wpAny_of_T fuel _ a' w' h'.2) (h.2 i hi)⟩

/-- A quiet operation first: C is what holds of (listed, world) while it waits, and yields its value there. -/
theorem wpAnyT_first {S' : World → Prop} {i : Nat} {oi : Oper} {v : Value} (hi : ops[i]? = some oi) (hsel : ∀ (j : Nat) (o : Oper) cs b, ops[j]? = some o → o.op ≠ .select cs b)
    (hQ : ∀ c a w, Q (.panic c) (a.put oi.dst v) w → Q (.panic c) a w) (hib : i ≠ brk)
    (hrd : (∀ w, S' w) ∨ ((∀ listed, listed.getD i true = false → brk ∉ Region.ready md ops listed) ∧ ∀ w, S w → S' w)) :
    ∀ (fuel : Nat) (listed : Array Bool) (a : Act) (w : World),
      (∀ j oj, ops[j]? = some oj → j ≠ i → listed.getD j true = false → (∀ e ∈ oj.after, Region.binds md e = true → e.on ≠ i) → oi.apart ops oj = true) →
      i ∈ Region.ready md ops listed → YieldsIf P ops S' oi v a → TT S brk listed w → ((∀ w, S' w) ∨ listed.getD brk false = false) →
      wpAnyT P md ops Q S brk fuel (listed.setIfInBounds i true) (a.put oi.dst v) w → wpAnyT P md ops Q S brk (fuel + 1) listed a w := by
  have hS' : ∀ listed w, TT S brk listed w → ((∀ w, S' w) ∨ listed.getD brk false = false) → S' w := fun listed w hT hb => by
    rcases hrd with h | ⟨_, h⟩
    · exact h w
    · rcases hb with hb | hb
      · exact hb w
      · rcases hT with hT | hT
        · rw [hb] at hT; cases hT
        · exact h w hT
  intro fuel
  induction fuel with
  | zero =>
    intro listed a w _ hr hy hT hb H
    refine ⟨fun h => (by rw [h] at hr; cases hr), fun j hj => ?_⟩
    by_cases hji : j = i
    · subst hji; exact hy.wpOp hi (hS' listed w hT hb) ⟨by unfold TT; rw [getD_set_ne' hib]; exact hT, H⟩
    · have := ready_mono hj hji
      rw [H.1] at this
      cases this
  | succ fuel ih =>
    intro listed a w hfree hr hy hT hb H
    refine ⟨fun h => (by rw [h] at hr; cases hr), fun j hj => ?_⟩
    by_cases hji : j = i
    · subst hji; exact hy.wpOp hi (hS' listed w hT hb) ⟨by unfold TT; rw [getD_set_ne' hib]; exact hT, H⟩
    · have h1 := H.2 j (ready_mono hj hji)
      obtain ⟨hjun, oj, hoj, hall⟩ := mem_ready.1 hj
      have hnot : ∀ e ∈ oj.after, Region.binds md e = true → e.on ≠ i := fun e he hb heq => by
        have h1 := hall e he hb
        have h0 := (mem_ready.1 hr).1
        rw [heq] at h1
        rcases Nat.lt_or_ge i listed.size with h' | h'
        · simp [h'] at h0 h1; rw [h0] at h1; cases h1
        · simp [Array.getElem?_eq_none h'] at h1
      have h2 := wpOp_putIf hoj (hfree j oj hoj hji hjun hnot) (fun cs b => hsel i oi cs b hi) (fun cs b => hsel j oj cs b hoj) hQ hy h1
      have hfree' : ∀ k ok, ops[k]? = some ok → k ≠ i → (listed.setIfInBounds j true).getD k true = false →
          (∀ e ∈ ok.after, Region.binds md e = true → e.on ≠ i) → oi.apart ops ok = true := fun k ok hk hki hun hno => by
        refine hfree k ok hk hki ?_ hno
        by_cases hjk : j = k
        · subst hjk; exact hjun
        · rw [getD_set_ne true hjk] at hun; exact hun
      have hb' : (∀ w, S' w) ∨ (listed.setIfInBounds j true).getD brk false = false := by
        rcases hb with hb | hb
        · exact .inl hb
        · rcases hrd with h | ⟨h, _⟩
          · exact .inl h
          · refine .inr ?_
            have hjb : j ≠ brk := fun e => h listed (mem_ready.1 hr).1 (e ▸ hj)
            rw [getD_set_ne' hjb]; exact hb
      refine wpOp_mono (fun a' w' h3 => ?_) h2
      obtain ⟨h4, h5, h6⟩ := h3
      have hT' : TT S brk (listed.setIfInBounds j true) w' := by
        unfold TT at h5 ⊢
        rw [Array.setIfInBounds_comm _ _ (Ne.symm hji), getD_set_ne' hib] at h5
        exact h5
      refine ⟨hT', ih (listed.setIfInBounds j true) a' w' hfree' (ready_mono hr (Ne.symm hji)) h4 hT' hb' ?_⟩
      rw [Array.setIfInBounds_comm _ _ hji]
      exact h6

def effL (P : Program) (ops : Array Oper) (S : World → Prop) (brk : Nat) (R : Act → World → Prop) : List (Nat × Nat) → Act → World → Prop
  | [], a, W => R a W
  | (i, 0) :: s, a, W => ∃ o v, ops[i]? = some o ∧ YieldsIf P ops S o v a ∧ effL P ops S brk R s (a.put o.dst v) W
  | (i, 1) :: s, a, W => ∃ o v, ops[i]? = some o ∧ YieldsIf P ops AnyW o v a ∧ effL P ops S brk R s (a.put o.dst v) W
  | (i, _ + 2) :: s, a, W => ∃ o, ops[i]? = some o ∧ wpList P ops (fun x a' W' => x = .normal ∧ (i ≠ brk → S W') ∧ effL P ops S brk R s a' W') [o] a W
def anch (md : Region.Mode) (ops : Array Oper) (brk i : Nat) : Bool := ((ops[brk]?).map (·.after.any (fun e => Region.binds md e && e.on == i))).getD true
def effB (md : Region.Mode) (ops : Array Oper) (brk : Nat) : List (Nat × Nat) → Array Bool → Bool
  | [], listed => Region.ready md ops listed == []
  | (i, 0) :: s, listed => Region.free md ops listed i && (Region.ready md ops listed).contains i && (i != brk) && !listed.getD brk false && anch md ops brk i && effB md ops brk s (listed.setIfInBounds i true)
  | (i, 1) :: s, listed => Region.free md ops listed i && (Region.ready md ops listed).contains i && (i != brk) && effB md ops brk s (listed.setIfInBounds i true)
  | (i, _ + 2) :: s, listed => (Region.ready md ops listed == [i]) && (decide (i < listed.size)) && (!listed.getD brk false) && effB md ops brk s (listed.setIfInBounds i true)

theorem effL_one {K : Act → World → Prop} {i : Nat} {o : Oper} {a : Act} {W : World} (hi : ops[i]? = some o) (h : wpList P ops (fun x a' W' => x = .normal ∧ K a' W') [o] a W) : Go.wpOp P ops Q i K a W := by
  unfold Go.wpOp
  simp only [hi]
  unfold wpList at h
  by_cases hw : Region.wanted o (yielded ops a.tmps) = true
  · rw [if_pos hw] at h ⊢
    rcases h with h | ⟨_, a', W', h1, _⟩
    · refine .inl ?_
      unfold Oper.wp at h ⊢
      generalize (execOp a.eval o).run P W = r at *
      cases r with
      | ok n w' =>
        cases n <;> simp only [Oper.upon, wpList] at h ⊢
        case value u => exact h.2
        case skip => exact h.2
        case defer d => exact h.2
        case enter f args =>
          refine Calls.mono h fun e w'' he => ?_
          cases e with
          | returned u => exact he.2
          | panicked c => exact absurd he.1 (by simp)
          | outgrown => obtain ⟨_, _, h1, _⟩ := he; exact absurd h1 (by simp)
        case row row args => exact Rows.mono h fun u w'' he => he.2
      | halt x w' =>
        cases x <;> simp only [Oper.upon] at h ⊢
        case panic u => exact absurd h.1 (by simp)
    · exact absurd h1 (by simp)
  · rw [if_neg hw] at h ⊢
    exact h.2

theorem anch_spec {i : Nat} {ob : Oper} (hb : ops[brk]? = some ob) (h : anch md ops brk i = true) : ∀ listed : Array Bool, listed.getD i true = false → brk ∉ Region.ready md ops listed := fun listed hl hr => by
  obtain ⟨_, o, ho, hall⟩ := mem_ready.1 hr
  obtain rfl : ob = o := by rw [hb] at ho; exact Option.some.inj ho
  unfold anch at h
  rw [hb] at h
  simp only [Option.map_some, Option.getD_some, Array.any_eq_true'] at h
  obtain ⟨e, he, h2⟩ := h
  simp only [Bool.and_eq_true, beq_iff_eq] at h2
  have h3 := hall e he h2.1
  rw [h2.2] at h3
  rcases Nat.lt_or_ge i listed.size with h' | h'
  · simp [h'] at hl h3; rw [hl] at h3; cases h3
  · simp [Array.getElem?_eq_none h'] at hl

theorem effL_any {R : Act → World → Prop} (hs : Region.noSelect ops = true) (hR : ∀ a w, R a w → Q .normal a w) (hQ : ∀ c a w, ¬ Q (.panic c) a w) :
    ∀ (s : List (Nat × Nat)) (listed : Array Bool) (a : Act) (w : World), effB md ops brk s listed = true → TT S brk listed w → effL P ops S brk R s a w → wpAnyT P md ops Q S brk s.length listed a w
  | [], listed, a, w, hB, _, h => ⟨by simpa [effB] using hB, hR _ _ h⟩
  | (i, 0) :: s, listed, a, w, hB, hT, h => by
    simp only [effB, Bool.and_eq_true, bne_iff_ne, ne_eq, Bool.not_eq_true'] at hB
    obtain ⟨⟨⟨⟨⟨h1, h2⟩, h3⟩, h4⟩, h5⟩, h6⟩ := hB
    obtain ⟨o, v, hi, hy, hk⟩ := h
    cases hb : ops[brk]? with
    | none =>
      have hn : ∀ listed : Array Bool, listed.getD i true = false → brk ∉ Region.ready md ops listed := fun listed _ hr => by
        obtain ⟨_, o, ho, _⟩ := mem_ready.1 hr
        rw [hb] at ho; cases ho
      exact wpAnyT_first (S' := S) hi (Region.noSelect_spec hs) (fun c a w h => absurd h (hQ c _ _)) h3 (.inr ⟨hn, fun w h => h⟩) s.length listed a w (Region.free_spec hi h1) (by simpa using h2) hy hT (.inr h4)
        (effL_any hs hR hQ s _ _ _ h6 (by unfold TT; rw [getD_set_ne' h3]; exact hT) hk)
    | some ob =>
      exact wpAnyT_first (S' := S) hi (Region.noSelect_spec hs) (fun c a w h => absurd h (hQ c _ _)) h3 (.inr ⟨anch_spec hb h5, fun w h => h⟩) s.length listed a w (Region.free_spec hi h1) (by simpa using h2) hy hT (.inr h4)
        (effL_any hs hR hQ s _ _ _ h6 (by unfold TT; rw [getD_set_ne' h3]; exact hT) hk)
  | (i, 1) :: s, listed, a, w, hB, hT, h => by
    simp only [effB, Bool.and_eq_true, bne_iff_ne, ne_eq] at hB
    obtain ⟨⟨⟨h1, h2⟩, h3⟩, h6⟩ := hB
    obtain ⟨o, v, hi, hy, hk⟩ := h
    exact wpAnyT_first (S' := AnyW) hi (Region.noSelect_spec hs) (fun c a w h => absurd h (hQ c _ _)) h3 (.inl (fun _ => trivial)) s.length listed a w (Region.free_spec hi h1) (by simpa using h2) hy hT (.inl (fun _ => trivial))
      (effL_any hs hR hQ s _ _ _ h6 (by unfold TT; rw [getD_set_ne' h3]; exact hT) hk)
  | (i, n + 2) :: s, listed, a, w, hB, hT, h => by
    simp only [effB, Bool.and_eq_true, beq_iff_eq, decide_eq_true_eq, Bool.not_eq_true'] at hB
    obtain ⟨⟨⟨h1, h2⟩, h4⟩, h6⟩ := hB
    obtain ⟨o, hi, hk⟩ := h
    refine ⟨fun h0 => (by rw [h1] at h0; cases h0), fun j hj => ?_⟩
    rw [h1] at hj
    obtain rfl : j = i := by simpa using hj
    refine wpOp_mono (fun a' w' hh => ?_) (effL_one hi hk)
    have hT' : TT S brk (listed.setIfInBounds j true) w' := by
      by_cases e : j = brk
      · subst e; exact .inl (by simp [h2])
      · exact .inr (hh.1 e)
    exact ⟨hT', effL_any hs hR hQ s _ _ _ h6 hT' hh.2⟩

/-- The region, by the order s: (number, kind). -/
theorem region_eff (S : World → Prop) (brk : Nat) (s : List (Nat × Nat)) {id : Nat} {a : Act} {w : World} {l : List Oper} (hm : P.follows .mixedOrders = true)
    (hB : (Region.noSelect l.toArray && (s.length == l.length) && effB .any l.toArray brk s (Array.replicate l.length false)) = true) (hS : S w.drew) (h : effL P l.toArray S brk (fun a' W' => Q .normal a' W') s a w.drew) : (Code.region id l.toArray true).wp P Q a w := by
  simp only [Bool.and_eq_true, beq_iff_eq] at hB
  obtain ⟨⟨h1, h2⟩, h3⟩ := hB
  refine wp_mono (Q := fun x a w => x = .normal ∧ Q .normal a w) (wp_region_any hm (wpAny_of_T (S := S) (brk := brk) _ _ _ _ ?_)) (fun e a w hh => by obtain ⟨rfl, hh⟩ := hh; exact hh)
  have := effL_any (md := .any) (Q := fun x a w => x = .normal ∧ Q .normal a w) h1 (fun a w hh => ⟨rfl, hh⟩) (fun c a w hh => by simp at hh) s _ a w.drew h3 (.inr hS) h
  rw [h2] at this
  simpa using this
variable {R : Act → World → Prop} {a : Act} {W W' : World} {i : Nat} {s : List (Nat × Nat)} {o : Oper} {l : List Oper}
theorem at_l (h : l[i]? = some o) : l.toArray[i]? = some o := by simpa using h
theorem eff_nil (h : R a W) : effL P l.toArray S brk R [] a W := h
theorem eff_off (hi : l[i]? = some o) (hw : Region.wanted o (yielded l.toArray a.tmps) = false) (h : effL P l.toArray S brk R s (a.put o.dst undef) W) : effL P l.toArray S brk R ((i, 1) :: s) a W :=
  ⟨o, undef, at_l hi, .inr ⟨hw, rfl⟩, h⟩
theorem eff_off0 (hi : l[i]? = some o) (hw : Region.wanted o (yielded l.toArray a.tmps) = false) (h : effL P l.toArray S brk R s (a.put o.dst undef) W) : effL P l.toArray S brk R ((i, 0) :: s) a W :=
  ⟨o, undef, at_l hi, .inr ⟨hw, rfl⟩, h⟩
theorem eff_rd (v : Value) (hi : l[i]? = some o) (hw : Region.wanted o (yielded l.toArray a.tmps) = true) (hy : ∀ w', S w' → (execOp a.eval o).run P w' = .ok (.value v) w') (h : effL P l.toArray S brk R s (a.put o.dst v) W) :
    effL P l.toArray S brk R ((i, 0) :: s) a W := ⟨o, v, at_l hi, .inl ⟨hw, hy⟩, h⟩
theorem eff_pu (v : Value) (hi : l[i]? = some o) (hw : Region.wanted o (yielded l.toArray a.tmps) = true) (hy : ∀ w', (execOp a.eval o).run P w' = .ok (.value v) w') (h : effL P l.toArray S brk R s (a.put o.dst v) W) :
    effL P l.toArray S brk R ((i, 1) :: s) a W := ⟨o, v, at_l hi, .inl ⟨hw, fun w _ => hy w⟩, h⟩
theorem eff_do (hi : l[i]? = some o) (h : wpList P l.toArray (fun x a' W' => x = .normal ∧ (i ≠ brk → S W') ∧ effL P l.toArray S brk R s a' W') [o] a W) : effL P l.toArray S brk R ((i, 2) :: s) a W := ⟨o, at_l hi, h⟩
/-- A call, that goes through as its contract says. -/
theorem eff_call (f : FuncId) (args : Array Value) (hi : l[i]? = some o) (hw : Region.wanted o (yielded l.toArray a.tmps) = true) (hy : ∀ w', (execOp a.eval o).run P w' = .ok (.enter f args) w')
    (hc : Calls P f args W (fun e W' => ∃ v, e = .returned v ∧ (i ≠ brk → S W') ∧ effL P l.toArray S brk R s (a.put o.dst v) W')) : effL P l.toArray S brk R ((i, 2) :: s) a W := by
  refine ⟨o, at_l hi, ?_⟩
  unfold wpList
  rw [if_pos hw]
  refine .inl ?_
  unfold Oper.wp
  rw [hy W]
  simp only [Oper.upon, wpList]
  refine Calls.mono hc fun e w' he => ?_
  obtain ⟨v, rfl, h1, h2⟩ := he
  exact ⟨trivial, h1, h2⟩
/-- An operation with a value, that turns the world. -/
theorem eff_run {v : Value} (hi : l[i]? = some o) (hw : Region.wanted o (yielded l.toArray a.tmps) = true) (hy : (execOp a.eval o).run P W = .ok (.value v) W') (hS : i ≠ brk → S W') (h : effL P l.toArray S brk R s (a.put o.dst v) W') : effL P l.toArray S brk R ((i, 2) :: s) a W := by
  refine ⟨o, at_l hi, ?_⟩
  unfold wpList
  rw [if_pos hw]
  refine .inl ?_
  unfold Oper.wp
  rw [hy]
  simp only [Oper.upon, wpList]
  exact ⟨trivial, hS, h⟩
theorem eff_skip (hi : l[i]? = some o) (hw : Region.wanted o (yielded l.toArray a.tmps) = true) (hy : (execOp a.eval o).run P W = .ok .skip W') (hS : i ≠ brk → S W') (h : effL P l.toArray S brk R s (a.put o.dst undef) W') : effL P l.toArray S brk R ((i, 2) :: s) a W := by
  refine ⟨o, at_l hi, ?_⟩
  unfold wpList
  rw [if_pos hw]
  refine .inl ?_
  unfold Oper.wp
  rw [hy]
  simp only [Oper.upon, wpList]
  exact ⟨trivial, hS, h⟩
end

theorem Fr.cqm {M : Nat → Prop} {w W : World} (hf : Fr M w W) (b o : Nat) (h : b < w.heap.size) (hm : ¬ M b) : W.cell? ⟨b, o, none⟩ = w.cell? ⟨b, o, none⟩ := hf.cell (p := ⟨b, o, none⟩) h hm

end Go.Proofs.YtndfncaoejbkiaaGreatDoor
end
section
/- The proof forest: its up map; the walk of find. -/
namespace Go.Proofs.YtndfncaoejbkiaaGreatDoor
open Go.RowKit
set_option maxRecDepth 100000

def UpIs (w : World) (bu : Nat) (g : Int → Option Int) : Prop := ∃ m : List (Int × Value), MapIs (.int .i64) (Value.int .i64) w bu m ∧ ∀ k, mget m k = (g k).map (Value.int .i64)
/-- r is the root of every id by the map g; rk goes down along it. -/
structure UpOk (g : Int → Option Int) (r : Int → Int) (rk : Int → Nat) : Prop where
  top : ∀ y, g y = none → r y = y
  step : ∀ y p, g y = some p → r p = r y ∧ rk p < rk y
theorem UpOk.low {g : Int → Option Int} {r : Int → Int} {rk : Int → Nat} (h : UpOk g r rk) : ∀ n y, rk y = n → r y = y ∨ rk (r y) < rk y := by
  intro n
  induction n using Nat.strongRecOn with
  | ind n ih =>
    intro y hy
    cases hg : g y with
    | none => exact .inl (h.top y hg)
    | some p =>
      obtain ⟨h1, h2⟩ := h.step y p hg
      rcases ih (rk p) (by omega) p rfl with h3 | h3
      · rw [← h1, h3]; exact .inr h2
      · rw [← h1]; exact .inr (by omega)
theorem UpOk.root {g : Int → Option Int} {r : Int → Int} {rk : Int → Nat} (h : UpOk g r rk) (y : Int) : g (r y) = none := by
  cases hg : g (r y) with
  | none => rfl
  | some p =>
    exfalso
    have key : ∀ n y p, rk y = n → g (r y) = some p → False := by
      intro n
      induction n using Nat.strongRecOn with
      | ind n ih =>
        intro y p hn hp
        cases hy : g y with
        | none =>
          rw [h.top y hy, hy] at hp
          cases hp
        | some q =>
          obtain ⟨h1, h2⟩ := h.step y q hy
          rw [← h1] at hp
          exact ih (rk q) (by omega) q p rfl hp
    exact key _ y p rfl hg
theorem UpOk.idem {g : Int → Option Int} {r : Int → Int} {rk : Int → Nat} (h : UpOk g r rk) (y : Int) : r (r y) = r y := h.top _ (h.root y)
theorem UpOk.none_iff {g : Int → Option Int} {r : Int → Int} {rk : Int → Nat} (h : UpOk g r rk) {y : Int} (hy : r y = y) : g y = none := by rw [← hy]; exact h.root y
/-- The path is made shorter. -/
theorem UpOk.cut {g : Int → Option Int} {r : Int → Int} {rk : Int → Nat} (h : UpOk g r rk) (y : Int) (hy : y ≠ r y) : UpOk (fun k => if k = y then some (r y) else g k) r rk := by
  refine ⟨fun k hk => ?_, fun k p hk => ?_⟩
  · by_cases e : k = y
    · simp [e] at hk
    · simp [e] at hk; exact h.top k hk
  · by_cases e : k = y
    · subst e
      simp at hk
      subst hk
      refine ⟨h.idem k, ?_⟩
      rcases h.low _ k rfl with h1 | h1
      · exact absurd h1.symm hy
      · exact h1
    · simp [e] at hk; exact h.step k p hk
/-- Two roots are joined. -/
theorem UpOk.join {g : Int → Option Int} {r : Int → Int} {rk : Int → Nat} (h : UpOk g r rk) (a b : Int) (ha : r a = a) (hb : r b = b) (hab : a ≠ b) :
    UpOk (fun k => if k = a then some b else g k) (fun k => if r k = a then b else r k) (fun k => if r k = a then rk k + rk b + 1 else rk k) := by
  refine ⟨fun k hk => ?_, fun k p hk => ?_⟩
  · by_cases e : k = a
    · simp [e] at hk
    · simp [e] at hk
      have := h.top k hk
      simp only [this, if_neg e]
  · by_cases e : k = a
    · subst e
      simp at hk
      subst hk
      have hb2 : ¬ r b = k := by rw [hb]; exact fun e => hab e.symm
      simp only [hb, ha, if_true]
      refine ⟨by rw [if_neg (fun e => hab e.symm)], ?_⟩
      rw [if_neg (fun e => hab e.symm)]; omega
    · simp [e] at hk
      obtain ⟨h1, h2⟩ := h.step k p hk
      simp only [h1]
      refine ⟨trivial, ?_⟩
      split <;> omega

theorem UpIs.fr {M : Nat → Prop} {w w' : World} {b : Nat} {g : Int → Option Int} (h : UpIs w b g) (hf : Fr M w w') (hm : ¬ M b) : UpIs w' b g := by
  obtain ⟨m, h1, h2⟩ := h
  exact ⟨m, h1.fr hf hm, h2⟩
theorem UpIs.lt {w : World} {b : Nat} {g : Int → Option Int} (h : UpIs w b g) : b < w.heap.size := by obtain ⟨m, h1, _⟩ := h; exact h1.lt
theorem UpIs.look {w : World} {b : Nat} {g : Int → Option Int} (h : UpIs w b g) (x : Int) (ok : Bool) :
    (Instr.lookup 132 (.map (some b)) (.int .i64 x) ok).run Tryz.prog w = .ok (if ok then .tuple #[.int .i64 ((g x).getD 0), .bool (g x).isSome] else .int .i64 ((g x).getD 0)) w := by
  obtain ⟨m, h1, h2⟩ := h
  cases hg : g x with
  | none => exact h1.lookNone kkInt Tryz.underlying132 Tryz.underlying3 x (by rw [h2, hg]; rfl) (z := .int .i64 0) (by kernel_rfl) ok
  | some p => exact h1.look kkInt Tryz.underlying132 Tryz.underlying3 x (by rw [h2, hg]; rfl) ok
theorem UpIs.entry {w : World} {b : Nat} {g : Int → Option Int} (h : UpIs w b g) (x p u : Int) (hx : g x = some p) :
    ∃ s w', (Instr.mapEntry 132 (.map (some b)) (.int .i64 x)).run Tryz.prog w = .ok (.tuple #[.int .i64 p, .int .i64 s]) w ∧ (Instr.entryStore 132 (.map (some b)) (.int .i64 s) (.int .i64 u)).run Tryz.prog w = .ok () w' ∧ UpIs w' b (fun k => if k = x then some u else g k) ∧ Fr (fun q => q = b) w w' := by
  obtain ⟨m, h1, h2⟩ := h
  obtain ⟨s, w', e1, e2, e3, e4⟩ := h1.entry (P := Tryz.prog) kkInt Tryz.underlying132 Tryz.underlying3 x (by rw [h2, hx]; rfl) (.int .i64 u)
  refine ⟨s, w', e1, e2, ⟨_, e3, fun k => ?_⟩, e4⟩
  rw [mget_put]
  by_cases e : k = x
  · simp [e]
  · simp [e, h2]
theorem UpIs.put {w : World} {b : Nat} {g : Int → Option Int} (h : UpIs w b g) (x u : Int) :
    ∃ w', (Instr.mapUpdate 132 (.map (some b)) (.int .i64 x) (.int .i64 u)).run Tryz.prog w = .ok () w' ∧ UpIs w' b (fun k => if k = x then some u else g k) ∧ Fr (fun q => q = b) w w' := by
  obtain ⟨m, h1, h2⟩ := h
  obtain ⟨w', e1, e2, e3⟩ := h1.put (P := Tryz.prog) kkInt Tryz.underlying132 Tryz.underlying3 x (.int .i64 u)
  refine ⟨w', e1, ⟨_, e2, fun k => ?_⟩, e3⟩
  rw [mget_put]
  by_cases e : k = x
  · simp [e]
  · simp [e, h2]

/-- The head of a forest. -/
def FHead (w : World) (bf bn bu : Nat) (sl : Value) : Prop := w.heap[bf]? = some (.cells #[.bool true, sl, .map (some bn), .map (some bu)] 134 (0, 0))
theorem FHead.cells {w : World} {bf bn bu : Nat} {sl : Value} (h : FHead w bf bn bu sl) : w.cell? ⟨bf, 0, none⟩ = some (.bool true) ∧ w.cell? ⟨bf, 1, none⟩ = some sl ∧ w.cell? ⟨bf, 2, none⟩ = some (.map (some bn)) ∧ w.cell? ⟨bf, 3, none⟩ = some (.map (some bu)) ∧ (∀ o, w.frozen? ⟨bf, o, none⟩ = false) ∧ bf < w.heap.size := by
  unfold FHead at h
  exact ⟨by simp [World.cell?, h], by simp [World.cell?, h], by simp [World.cell?, h], by simp [World.cell?, h], fun o => by simp [World.frozen?, h], (Array.getElem?_eq_some_iff.1 h).1⟩

set_option maxHeartbeats 2000000 in
theorem ffind_any (w : World) (bf bn bu : Nat) (sl : Value) (g : Int → Option Int) (r : Int → Int) (rk : Int → Nat) (x : Int) (hh : FHead w bf bn bu sl) (hu : UpIs w bu g) (ho : UpOk g r rk) (hne : bu ≠ bf) :
    Calls Tryz.prog 80 #[.pointer (some ⟨bf, 0, none⟩), .int .i64 x] w fun e w' => e = .returned (.int .i64 (r x)) ∧ (∃ g', UpIs w' bu g' ∧ UpOk g' r rk) ∧ Fr (fun k => k = bu) w w' := by
  have HH := hid hh
  have HU := hid hu
  have HO := hid ho
  have HNE := hid hne
  obtain ⟨c0, c1, c2, c3, cf, cl⟩ := hh.cells
  clear hh hu ho hne c0 c1 c2
  go_enter Tryz.func80, Tryz.ntmps80
  go_wp2
  go_loop [5] (fun v => ∃ y, v = .int .i64 y ∧ r y = r x) (fun v => rk (intOf v))
  case atStart => exact ⟨x, rfl, rfl⟩
  case round =>
    obtain ⟨y, rfl, hy⟩ := hrel
    have HY := hid hy
    clear hy
    cases hg : g y with
    | some p =>
      have lk := HU.out.look y true
      rw [hg] at lk
      have HG := hid hg
      clear hg
      go_wp2
      go_round
      case rel => exact ⟨p, rfl, by rw [(HO.out.step y p HG.out).1]; exact HY.out⟩
      case measure => exact (HO.out.step y p HG.out).2
    | none =>
      have lk := HU.out.look y true
      rw [hg] at lk
      have HG : Hid (y = r x) := by show _ = _; rw [← HY.out]; exact (HO.out.top y hg).symm
      clear hg
      go_wp2
      clear lk
      obtain rfl := HG.out
      clear HG HY
      clear c3 cf cl
      go_loopw [1] (fun v wr => ∃ y, v = .int .i64 y ∧ r y = r x ∧ (∃ g', UpIs wr bu g' ∧ UpOk g' r rk) ∧ Fr (fun k => k = bu) w wr) (fun v _ => rk (intOf v))
      case atStart => exact ⟨x, rfl, rfl, ⟨g, HU.out, HO.out⟩, Fr.refl _ _⟩
      case round =>
        obtain ⟨z, rfl, hz, ⟨g', hu', ho'⟩, hf⟩ := hrel
        have HZ := hid hz
        have HU' := hid hu'
        have HO' := hid ho'
        have F := hid hf
        have hh' : FHead wr bf bn bu sl := hf.at (fun h => HNE.out h.symm) HH.out
        obtain ⟨c0, c1, c2, c3, cf, cl⟩ := hh'.cells
        clear hz hu' ho' hf hh' c0 c1 c2
        by_cases hzr : z = r x
        · have hq : (z != r x) = false := by simpa using hzr
          have HZR := hid hzr
          clear hzr
          go_wp2
          go_ret
          exact ⟨rfl, ⟨g', HU'.out, HO'.out⟩, F.out⟩
        · have hq : (z != r x) = true := by simpa using hzr
          have hne : z ≠ r z := by rw [HZ.out]; exact hzr
          cases hgz : g' z with
          | none => exact absurd (HO'.out.top z hgz).symm hne
          | some p =>
            have HGZ := hid hgz
            have hU2 : UpIs wr.drew bu g' := HU'.out.fr (M := NoB) (Fr.refl NoB wr).drew (fun h => h)
            have lk := hU2.look z false
            rw [hgz] at lk
            obtain ⟨s, w', e1, e2, e3, e4⟩ := hU2.entry z p (r x) hgz
            have HE2 := hid e2
            have HE3 := hid e3
            have HE4 := hid e4
            have HNZ := hid hne
            clear hgz hzr e2 e3 e4 hne hU2
            go_wp2
            refine region_eff (fun w' => w'.cell? ⟨bf, 3, none⟩ = some (.map (some bu)) ∧ (Instr.lookup 132 (.map (some bu)) (.int .i64 z) false).run Tryz.prog w' = .ok (.int .i64 p) w' ∧ (Instr.mapEntry 132 (.map (some bu)) (.int .i64 z)).run Tryz.prog w' = .ok (.tuple #[.int .i64 p, .int .i64 s]) w') 14 [(0, 1), (1, 1), (2, 1), (3, 0), (4, 1), (5, 1), (6, 1), (7, 1), (8, 1), (9, 0), (10, 1), (11, 0), (12, 0), (13, 1), (14, 2), (15, 1)] (by kernel_rfl) (by kernel_rfl) ?_ ?_
            · exact ⟨c3, lk, e1⟩
            clear lk e1
            repeat (first | (refine eff_off (by rfl) (by rfl) ?_; (try simp only [Act.put, List.setIfInBounds_toArray, List.set_cons_zero, List.set_cons_succ])) | (refine eff_off0 (by rfl) (by rfl) ?_; (try simp only [Act.put, List.setIfInBounds_toArray, List.set_cons_zero, List.set_cons_succ])) | (refine eff_pu ?_ (by rfl) (by rfl) ?_ ?_; rotate_left; (focus (intro w'; go_simp; (try with_reducible rfl); done)); (try simp only [Act.put, List.setIfInBounds_toArray, List.set_cons_zero, List.set_cons_succ])) | (refine eff_rd ?_ (by rfl) (by rfl) ?_ ?_; rotate_left; (focus (intro w' hS; (try obtain ⟨hq1, hS⟩ := hS); (try obtain ⟨hq2, hS⟩ := hS); (try obtain ⟨hq3, hS⟩ := hS); (try obtain ⟨hq4, hS⟩ := hS); (try obtain ⟨hq5, hS⟩ := hS); (try obtain ⟨hq6, hS⟩ := hS); (try obtain ⟨hq7, hS⟩ := hS); (try obtain ⟨hq8, hS⟩ := hS); (try obtain ⟨hq9, hS⟩ := hS); (try obtain ⟨hq10, hS⟩ := hS); (try obtain ⟨hq11, hS⟩ := hS); (try obtain ⟨hq12, hS⟩ := hS); (try obtain ⟨hq13, hS⟩ := hS); (try obtain ⟨hq14, hS⟩ := hS); (try obtain ⟨hq15, hS⟩ := hS); (try obtain ⟨hq16, hS⟩ := hS); (try obtain ⟨hq17, hS⟩ := hS); (try obtain ⟨hq18, hS⟩ := hS); (try obtain ⟨hq19, hS⟩ := hS); (try dsimp only at hS); go_simp; (try with_reducible rfl); done)); (try simp only [Act.put, List.setIfInBounds_toArray, List.set_cons_zero, List.set_cons_succ])))
            refine eff_skip (W' := w') (by rfl) (by rfl) (by have h := HE2.out; go_simp) (fun h => absurd rfl h) ?_
            (try simp only [Act.put, List.setIfInBounds_toArray, List.set_cons_zero, List.set_cons_succ])
            repeat (first | (refine eff_off (by rfl) (by rfl) ?_; (try simp only [Act.put, List.setIfInBounds_toArray, List.set_cons_zero, List.set_cons_succ])) | (refine eff_off0 (by rfl) (by rfl) ?_; (try simp only [Act.put, List.setIfInBounds_toArray, List.set_cons_zero, List.set_cons_succ])) | (refine eff_pu ?_ (by rfl) (by rfl) ?_ ?_; rotate_left; (focus (intro w'; go_simp; (try with_reducible rfl); done)); (try simp only [Act.put, List.setIfInBounds_toArray, List.set_cons_zero, List.set_cons_succ])) | (refine eff_rd ?_ (by rfl) (by rfl) ?_ ?_; rotate_left; (focus (intro w' hS; (try obtain ⟨hq1, hS⟩ := hS); (try obtain ⟨hq2, hS⟩ := hS); (try obtain ⟨hq3, hS⟩ := hS); (try obtain ⟨hq4, hS⟩ := hS); (try obtain ⟨hq5, hS⟩ := hS); (try obtain ⟨hq6, hS⟩ := hS); (try obtain ⟨hq7, hS⟩ := hS); (try obtain ⟨hq8, hS⟩ := hS); (try obtain ⟨hq9, hS⟩ := hS); (try obtain ⟨hq10, hS⟩ := hS); (try obtain ⟨hq11, hS⟩ := hS); (try obtain ⟨hq12, hS⟩ := hS); (try obtain ⟨hq13, hS⟩ := hS); (try obtain ⟨hq14, hS⟩ := hS); (try obtain ⟨hq15, hS⟩ := hS); (try obtain ⟨hq16, hS⟩ := hS); (try obtain ⟨hq17, hS⟩ := hS); (try obtain ⟨hq18, hS⟩ := hS); (try obtain ⟨hq19, hS⟩ := hS); (try dsimp only at hS); go_simp; (try with_reducible rfl); done)); (try simp only [Act.put, List.setIfInBounds_toArray, List.set_cons_zero, List.set_cons_succ])))
            refine eff_nil ?_
            go_wp2
            go_roundw
            case rel => exact ⟨p, rfl, by rw [(HO'.out.step z p HGZ.out).1]; exact HZ.out, ⟨_, HE3.out, by have h := HO'.out.cut z HNZ.out; rw [HZ.out] at h; exact h⟩, F.out.drew.trans HE4.out⟩
            case measure => exact (HO'.out.step z p HGZ.out).2
end Go.Proofs.YtndfncaoejbkiaaGreatDoor
end
section
/- append on integers, with the place of the new row. -/
namespace Go.Proofs.YtndfncaoejbkiaaGreatDoor
open Go.RowKit

/-- append(s, t...) on integers, and where the new row lies. -/
theorem ap_ints_at (w : World) {ops : Array Oper} {rest : List Oper} {o : Oper} {a : Act} {Q : Exit → Act → World → Prop} (hg : o.guard = none) (s x : Operand)
    (ho : o.op = .call { callee := .builtin .append, args := #[s, x], argTypes := #[24, 24] }) (base : Nat) (v : Value) (l : List Int) (hs : a.eval s = v) (hown : OwnI base w v l)
    (M : Nat → Prop) (u : Value) (m : List Int) (hx : a.eval x = u) (hrd : RdI M w u m) (hlen : l.length + m.length ≤ 17592186044416) (hbase : base ≤ w.heap.size)
    (h : ∀ v' w', OwnI base w' v' (l ++ m) → w.grownBy w' v.ownBlock → (v'.ownBlock = v.ownBlock ∨ v'.ownBlock = some w.heap.size) → wpList Tryz.prog ops Q rest (a.put o.dst v') w') : wpList Tryz.prog ops Q (o :: rest) a w := by
  obtain ⟨i0, hi, hz0, hz1, hz2⟩ := info_parts infoInt
  rcases hrd with ⟨⟨ad, cap, rfl, hcap⟩, rfl⟩ | ⟨b, off, cap, rfl, _, _, _, hc⟩
  · cases ad with
    | some ad =>
      refine wpList_append_own_at (w := w) hg s x 24 ho base 3 i0 (.int .i64 0) 1 8 Tryz.underlying24 hi hz0 hz1 hz2 rfl (by decide) v _ _ hs hown ad 0 cap [] hx (by simp) (fun j u hu => by simp at hu) (by simp) (by unfold maxLen; simp at hlen; omega) (by simp at hlen; omega) hbase ?_
      intro v' w' h1 h2 _ h4
      refine h v' w' ?_ h2 h4
      simpa [OwnI] using h1
    | none =>
    obtain rfl := hcap rfl
    refine wpList_append_own_none (w := w) hg s x 24 ho base 3 i0 1 Tryz.underlying24 hi v _ _ hs hown hx ?_
    exact h v w (by simpa using hown) ⟨rfl, rfl, rfl, Nat.le_refl _, fun _ _ _ => rfl⟩ (.inl rfl)
  · refine wpList_append_own_at (w := w) hg s x 24 ho base 3 i0 (.int .i64 0) 1 8 Tryz.underlying24 hi hz0 hz1 hz2 rfl (by decide) v _ _ hs hown ⟨b, off, none⟩ m.length cap (m.map (Value.int .i64)) hx (by simp) hc.news (by simp [Value.oneCell']) (by unfold maxLen; omega) (by omega) hbase ?_
    intro v' w' h1 h2 _ h4
    refine h v' w' ?_ h2 h4
    unfold OwnI
    rw [List.length_append, List.map_append]; exact h1

end Go.Proofs.YtndfncaoejbkiaaGreatDoor
end
section
/- The walks of the reference's alike, disordered, malformed. -/
namespace Go.Proofs.YtndfncaoejbkiaaGreatDoor
open Go.RowKit
set_option maxRecDepth 100000

theorem three_of {w : World} {b : Nat} {x y z : Value} {e : TypeId} (h1 : w.heap[b]? = some (.cells #[x, y, z] e (0, 0))) : w.cell? ⟨b, 0, none⟩ = some x ∧ w.cell? ⟨b, 1, none⟩ = some y ∧ w.cell? ⟨b, 2, none⟩ = some z ∧ (∀ o, w.frozen? ⟨b, o, none⟩ = false) ∧ b < w.heap.size :=
  ⟨by simp [World.cell?, h1], by simp [World.cell?, h1], by simp [World.cell?, h1], fun o => by simp [World.frozen?, h1], (Array.getElem?_eq_some_iff.1 h1).1⟩
/-- The cells of a row of integers, at an index. -/
theorem RdI.cellK {M : Nat → Prop} {w : World} {p : Option Addr} {n c : Nat} {l : List Int} (h : RdI M w (.slice p n c) l) {k : Nat} (hk : k < l.length) : ∃ b off, p = some ⟨b, off, none⟩ ∧ w.cell? ⟨b, off + k, none⟩ = some (.int .i64 (l.getD k 0)) := by
  obtain ⟨b, off, h1, _, h3⟩ := h.lit3 (by omega)
  exact ⟨b, off, h1, h3 k hk⟩

def labAt (lab : List Int) (x : Int) : Int := lab.getD x.toNat 0
def alikeS (a b : Node) (lab : List Int) : Bool := labelS a b && (a.args.length == b.args.length) && (a.args.zip b.args).all (fun p => labAt lab p.1 == labAt lab p.2)
theorem alikeS_no {a b : Node} {lab : List Int} (h : labelS a b = false ∨ a.args.length ≠ b.args.length) : alikeS a b lab = false := by
  unfold alikeS
  rcases h with h | h
  · rw [h]; rfl
  · have : (a.args.length == b.args.length) = false := by simpa using h
    rw [this]; simp
theorem zip_get {a b : List Int} {k : Nat} (h1 : k < a.length) (h2 : k < b.length) : (a.zip b)[k]'(by simp; omega) = (a.getD k 0, b.getD k 0) := by
  rw [List.getElem_zip, List.getD_eq_getElem?_getD, List.getD_eq_getElem?_getD, List.getElem?_eq_getElem h1, List.getElem?_eq_getElem h2]; rfl
theorem alikeS_bad {a b : Node} {lab : List Int} {k : Nat} (h1 : k < a.args.length) (h2 : k < b.args.length) (h : labAt lab (a.args.getD k 0) ≠ labAt lab (b.args.getD k 0)) : alikeS a b lab = false := by
  unfold alikeS
  have : (a.args.zip b.args).all (fun p => labAt lab p.1 == labAt lab p.2) = false := by
    rw [List.all_eq_false]
    refine ⟨(a.args.zip b.args)[k]'(by simp; omega), List.getElem_mem _, ?_⟩
    rw [zip_get h1 h2]
    simpa using h
  rw [this]; simp
theorem alikeS_ok {a b : Node} {lab : List Int} (h0 : labelS a b = true) (hl : a.args.length = b.args.length) (h : ∀ k, k < a.args.length → labAt lab (a.args.getD k 0) = labAt lab (b.args.getD k 0)) : alikeS a b lab = true := by
  unfold alikeS
  have : (a.args.zip b.args).all (fun p => labAt lab p.1 == labAt lab p.2) = true := by
    rw [List.all_eq_true]
    intro p hp
    obtain ⟨k, hk, rfl⟩ := List.mem_iff_getElem.1 hp
    have hk2 : k < a.args.length := by simp at hk; omega
    rw [zip_get hk2 (by omega)]
    simpa using h k hk2
  rw [this, h0]; simp [hl]

end Go.Proofs.YtndfncaoejbkiaaGreatDoor
end
section
/- The walks of the reference's disordered and malformed. -/
namespace Go.Proofs.YtndfncaoejbkiaaGreatDoor
open Go.RowKit
set_option maxRecDepth 100000

/-- A node of a row, with its args. -/
theorem RdN.nodeK {M : Nat → Prop} {w : World} {p : Option Addr} {n c : Nat} {l : List (Node × Value)} (h : RdN M w (.slice p n c) l) {k : Nat} (hk : k < l.length) : ∃ b off, p = some ⟨b, off, none⟩ ∧
    w.cell? ⟨b, off + k * 5, none⟩ = some (.int .i64 l[k].1.op) ∧ w.cell? ⟨b, off + k * 5 + 1, none⟩ = some (.int .i64 l[k].1.width) ∧ w.cell? ⟨b, off + k * 5 + 2, none⟩ = some (.int .u64 l[k].1.val) ∧ w.cell? ⟨b, off + k * 5 + 3, none⟩ = some (.string l[k].1.name) ∧ w.cell? ⟨b, off + k * 5 + 4, none⟩ = some l[k].2 ∧ RdI M w l[k].2 l[k].1.args := by
  rcases h.row.form' (by omega) with ⟨b, off, cap, h1, _, _, _, hc⟩
  simp only [Value.slice.injEq] at h1
  obtain ⟨rfl, _, rfl⟩ := h1
  obtain ⟨e0, e1, e2, e3, e4⟩ := hc.five hk
  exact ⟨b, off, rfl, e0, e1, e2, e3, e4, h.args _ (List.getElem_mem _)⟩

def nsOf (d : Dmp) : List Node := d.nodes.map (·.1)
def clashS (n : Node) (l : List Node) : Bool := l.any (fun m => m.op == 1 && m.name.toList == n.name.toList && m.width != n.width)
def malfS (n : Node) (l : List Node) : Bool := !formedS n || (n.op == 1 && clashS n l)

end Go.Proofs.YtndfncaoejbkiaaGreatDoor
end
section
/- The walk of the reference's malformed. -/
namespace Go.Proofs.YtndfncaoejbkiaaGreatDoor
open Go.RowKit
set_option maxRecDepth 100000

theorem formedS_iff {n : Node} : formedS n = true ↔ 0 ≤ ariS n.op ∧ patS n.op = false ∧ (n.args.length : Int) = ariS n.op ∧ (if n.op = 1 then n.val = 0 ∧ nameS n.name = true else n.name.toList.isEmpty = true ∧ (n.val = 0 ∨ n.op = 2 ∨ n.op = 21)) := by
  unfold formedS
  by_cases h : n.op = 1
  · simp only [h, if_true, Bool.and_eq_true, decide_eq_true_eq, Bool.not_eq_true', beq_iff_eq]
    constructor
    · rintro ⟨⟨⟨a, b⟩, c⟩, d⟩; exact ⟨a, b, c, d⟩
    · rintro ⟨a, b, c, d⟩; exact ⟨⟨⟨a, b⟩, c⟩, d⟩
  · simp only [h, if_false, Bool.and_eq_true, decide_eq_true_eq, Bool.not_eq_true', Bool.or_eq_true, beq_iff_eq]
    constructor
    · rintro ⟨⟨⟨a, b⟩, c⟩, d, e⟩; exact ⟨a, b, c, d, by rcases e with (e | e) | e; exact .inl e; exact .inr (.inl e); exact .inr (.inr e)⟩
    · rintro ⟨a, b, c, d, e⟩; exact ⟨⟨⟨a, b⟩, c⟩, d, by rcases e with e | e | e; exact .inl (.inl e); exact .inl (.inr e); exact .inr e⟩

/-- What the walk of malformed carries: the box of the dump, that of the node. -/
structure MfS (w : World) (sN sL sR : Value) (d : Dmp) (n : Node) (v : Value) (W : World) : Prop where
  fr : Fr NoB w W
  rd : RdD NoB W sN sL sR d
  box : W.heap[w.heap.size]? = some (.cells (dumpCells sN sL sR) 26 (0, 0))
  node : W.heap[w.heap.size + 1]? = some (.cells (nodeCells n v) 44 (0, 0))
theorem MfS.step {w : World} {sN sL sR : Value} {d : Dmp} {n : Node} {v : Value} {W W' : World} (h : MfS w sN sL sR d n v W) (hf : Fr NoB W W') : MfS w sN sL sR d n v W' :=
  ⟨h.fr.step hf, h.rd.step hf, hf.at (fun h => h) h.box, hf.at (fun h => h) h.node⟩

end Go.Proofs.YtndfncaoejbkiaaGreatDoor
end
section
/- The walk of the reference's malformed, at a node that is formed. -/
namespace Go.Proofs.YtndfncaoejbkiaaGreatDoor
open Go.RowKit
set_option maxRecDepth 100000

theorem clash_step {n m : Node} {l : List Node} (h : clashS n l = false) (h2 : (m.op == 1 && m.name.toList == n.name.toList && m.width != n.width) = false) : clashS n (l ++ [m]) = false := by
  unfold clashS at *
  rw [List.any_append, h, Bool.false_or, List.any_cons, List.any_nil, Bool.or_false]
  exact h2
theorem clash_yes {n m : Node} {l : List Node} (hm : m ∈ l) (h2 : (m.op == 1 && m.name.toList == n.name.toList && m.width != n.width) = true) : clashS n l = true := by
  unfold clashS
  rw [List.any_eq_true]
  exact ⟨m, hm, h2⟩

end Go.Proofs.YtndfncaoejbkiaaGreatDoor
end
section
/- The walk of invariant's widths. -/
namespace Go.Proofs.YtndfncaoejbkiaaGreatDoor
open Go.RowKit
set_option maxRecDepth 100000

def wAt (ns : List Node) (a : Int) : Int := ((ns[a.toNat]?).map (·.width)).getD 0
def wOk (n : Node) (ns : List Node) : Bool := decide (1 ≤ n.width) && ((opW n.op n.width n.val (n.args.map (wAt ns))).2 == 0) && ((opW n.op n.width n.val (n.args.map (wAt ns))).1 == n.width)
theorem wAt_of {d : Dmp} {a : Int} {x : Node × Value} (h : d.nodes[a.toNat]? = some x) : wAt (nsOf d) a = x.1.width := by
  unfold wAt nsOf
  rw [List.getElem?_map, h]; rfl
theorem take_map_snoc {α : Type} (f : Int → α) {l : List Int} {k : Nat} (h : k < l.length) : (l.take (k + 1)).map f = (l.take k).map f ++ [f (l.getD k 0)] := by
  rw [List.take_add_one, List.getElem?_eq_getElem h, List.map_append, List.getD_eq_getElem?_getD, List.getElem?_eq_getElem h]
  rfl

set_option maxHeartbeats 4000000 in
theorem widths_any (sN sL sR : Value) (d : Dmp) (n : Node) (v : Value) (w : World) (hd : RdD NoB w sN sL sR d) (hn : RdI NoB w v n.args) (hr : ∀ a ∈ n.args, 0 ≤ a ∧ a < d.nodes.length) (hla : n.args.length ≤ 1000000) :
    Calls Tryz.prog 90 #[dumpV sN sL sR, nodeV n v] w fun e w' => e = .returned (.bool (wOk n (nsOf d))) ∧ Fr NoB w w' := by
  obtain ⟨a0, c0, rfl⟩ := hn.form
  obtain ⟨p, c, hp⟩ := hd.nodes.form
  subst hp
  have M0 : Hid (MfS w (.slice p d.nodes.length c) sL sR d n (.slice a0 n.args.length c0) ((w.alloc (.cells (dumpCells (.slice p d.nodes.length c) sL sR) 26)).alloc (.cells (nodeCells n (.slice a0 n.args.length c0)) 44))) :=
    ⟨((Fr.refl NoB w).alloc _).alloc _, hd.step (((Fr.refl NoB w).alloc _).alloc _), at_old (at_new w _) _, at_new' (by simp)⟩
  have HN := hid (hn.fr M0.out.fr (fun _ _ h => h))
  have HR := hid hr
  have hsz : ((w.alloc (.cells (dumpCells (.slice p d.nodes.length c) sL sR) 26)).alloc (.cells (nodeCells n (.slice a0 n.args.length c0)) 44)).heap.size = w.heap.size + 2 := by simp
  obtain ⟨w2, hw2⟩ : ∃ w2, (w.alloc (.cells (dumpCells (.slice p d.nodes.length c) sL sR) 26)).alloc (.cells (nodeCells n (.slice a0 n.args.length c0)) 44) = w2 := ⟨_, rfl⟩
  rw [hw2] at M0 HN hsz
  have HW2 := hid hw2
  have HSZ := hid hsz
  clear hd hn hr hw2 hsz
  unfold dumpV nodeV
  go_enter Tryz.func90, Tryz.ntmps90
  go_wp2
  rw [HW2.out]
  go_loopw [5, 13] (fun t j wr => ∃ (k : Nat), k ≤ n.args.length ∧ j = .int .i64 k ∧ Fr NoB w2 wr ∧ OwnI w2.heap.size wr t ((n.args.take k).map (wAt (nsOf d)))) (fun _ j _ => n.args.length - (intOf j).toNat)
  case atStart => exact ⟨0, Nat.zero_le _, rfl, Fr.refl _ _, OwnI.nil _ _⟩
  case round =>
    obtain ⟨k, hk, rfl, hf, ho⟩ := hrel
    obtain ⟨tp, tc, hv⟩ := ho.form
    rw [show ((n.args.take k).map (wAt (nsOf d))).length = k by simp; omega] at hv
    subst hv
    have F := hid hf
    have O := hid ho
    have M1 := hid (M0.out.step hf)
    obtain ⟨x0, x1, x2, x3, x4, xf, xl⟩ := five_of M1.out.node
    obtain ⟨d0, d1, d2, df, dl⟩ := three_of M1.out.box
    clear hf ho M0 d1 d2
    by_cases hlt : k < n.args.length
    · obtain ⟨ba, oa, rfl, ka⟩ := (HN.out.fr F.out (fun _ _ h => h)).cellK hlt
      have ra := HR.out _ (getD_mem hlt)
      obtain ⟨y, hy⟩ : ∃ y, n.args.getD k 0 = y := ⟨_, rfl⟩
      rw [hy] at ka ra
      have HY := hid hy
      clear hy
      obtain ⟨r0, r1⟩ := ra
      have hyn : y.toNat < d.nodes.length := by omega
      obtain ⟨b, off, rfl, e0, e1, e2, e3, e4, _⟩ := M1.out.rd.nodes.nodeK hyn
      have HWA := hid (wAt_of (d := d) (a := y) (List.getElem?_eq_getElem hyn))
      generalize d.nodes[y.toNat] = z at e0 e1 e2 e3 e4 HWA
      clear e0 e2 e3 e4
      have hB : w2.heap.size ≤ wr.heap.size := F.out.size
      go_wp2_with (at_builtin; refine ap_ints_at _ rfl _ _ rfl w2.heap.size (.slice tp k tc) _ rfl (OwnI.fr O.out ((Fr.refl NoB wr).alloc (.cells #[.int .i64 z.1.width] 3)) (fun _ _ h => h)) NoB _ [z.1.width] rfl (rdI_lit' (l := [z.1.width]) rfl rfl rfl (fun h => h)) ?_ ?_ ?_; (simp; omega); (simp only [World.size_alloc]; omega); intro v6 w6 ho6 hg6 ha6; obtain ⟨p6, q6, hv6⟩ := ho6.form; rw [show ((n.args.take k).map (wAt (nsOf d)) ++ [z.1.width]).length = k + 1 by simp; omega] at hv6; subst hv6; have F6 : Hid (Fr NoB w2 w6) := Fr.grown (F.out.alloc _) hg6 (fun j hj hj2 => by have := (World.ownsRow.lt O.out j hj).1; omega); have O6 := hid ho6; clear ho6 hg6 ha6)
      go_roundw
      case rel => exact ⟨k + 1, by omega, by go_num, F6.out, by rw [take_map_snoc _ hlt, HY.out, HWA.out]; exact O6.out⟩
      case measure => simp [intOf]; omega
    · obtain rfl : k = n.args.length := by omega
      go_wp2_with fail
      refine (width_any NoB n.op n.width n.val _ _ ((n.args.take n.args.length).map (wAt (nsOf d))) (O.out.rd (fun _ _ h => h)) (by simp; omega)).mono ?_
      rintro e w5 ⟨rfl, hf5⟩
      have M5 := hid (M1.out.step hf5)
      clear hf5 x0 x1 x2 x3 x4 xf xl d0 df dl
      obtain ⟨x0, x1, x2, x3, x4, xf, xl⟩ := five_of M5.out.node
      rw [List.take_length]
      obtain ⟨⟨q1, q2⟩, hq⟩ : ∃ q, opW n.op n.width n.val (n.args.map (wAt (nsOf d))) = q := ⟨_, rfl⟩
      rw [hq]
      have HQ := hid hq
      clear hq
      simp only
      go_wp2
      all_goals (go_ret; refine ⟨ret_bool ?_, M5.out.fr⟩; unfold wOk; rw [HQ.out]; clear HQ; first | (simp_all; done) | (simp_all; omega))

end Go.Proofs.YtndfncaoejbkiaaGreatDoor
end
section
/- The walk of the reference's wide. -/
namespace Go.Proofs.YtndfncaoejbkiaaGreatDoor
open Go.RowKit
set_option maxRecDepth 100000

def malfAt (ns : List Node) (k : Nat) : Bool := (ns[k]?).elim false (fun n => malfS n (ns.take k))
def disAt (ns : List Node) (k : Nat) : Bool := (ns[k]?).elim false (fun n => !ordS n.args k)
def badAt (ns : List Node) (k : Nat) : Bool := malfAt ns k || disAt ns k
def wideAt (ns : List Node) (i : Nat) : Bool := (ns[i]?).elim false (fun n => !badAt ns i && n.args.all (fun a => !badAt ns a.toNat) && !wOk n ns)
theorem nsOf_at {d : Dmp} {k : Nat} (h : k < d.nodes.length) : (nsOf d)[k]? = some d.nodes[k].1 := by unfold nsOf; rw [List.getElem?_map, List.getElem?_eq_getElem h]; rfl
/-- The box of the dump. -/
structure DbS (w : World) (sN sL sR : Value) (d : Dmp) (W : World) : Prop where
  fr : Fr NoB w W
  rd : RdD NoB W sN sL sR d
  box : W.heap[w.heap.size]? = some (.cells (dumpCells sN sL sR) 26 (0, 0))
theorem DbS.step {w : World} {sN sL sR : Value} {d : Dmp} {W W' : World} (h : DbS w sN sL sR d W) (hf : Fr NoB W W') : DbS w sN sL sR d W' :=
  ⟨h.fr.step hf, h.rd.step hf, hf.at (fun h => h) h.box⟩
theorem DbS.drew {w : World} {sN sL sR : Value} {d : Dmp} {W : World} (h : DbS w sN sL sR d W) : DbS w sN sL sR d W.drew := h.step (Fr.refl _ _).drew
theorem RdI.cellP {w : World} {b off n c : Nat} {l : List Int} (h : RdI NoB w (.slice (some ⟨b, off, none⟩) n c) l) {k : Nat} (hk : k < l.length) : ∀ W, Fr NoB w W → W.cell? ⟨b, off + k, none⟩ = some (.int .i64 (l.getD k 0)) := fun W hf => by
  obtain ⟨b', off', h1, h2⟩ := (h.fr hf (fun _ _ h => h)).cellK hk
  simp only [Option.some.injEq, Addr.mk.injEq, and_true] at h1
  obtain ⟨rfl, rfl⟩ := h1
  exact h2
theorem DbS.start {w : World} {sN sL sR : Value} {d : Dmp} (h : RdD NoB w sN sL sR d) : DbS w sN sL sR d (w.alloc (.cells (dumpCells sN sL sR) 26)) :=
  ⟨(Fr.refl NoB w).alloc _, h.step ((Fr.refl NoB w).alloc _), at_new w _⟩

end Go.Proofs.YtndfncaoejbkiaaGreatDoor
end
section
/- The walk of the reference's Labels. -/
namespace Go.Proofs.YtndfncaoejbkiaaGreatDoor
open Go.RowKit
set_option maxRecDepth 100000

/-- A link of a row. -/
theorem RdE.lkK {M : Nat → Prop} {w : World} {p : Option Addr} {n c : Nat} {l : List Lnk} (h : RdE lkCells M w (.slice p n c) l) {k : Nat} (hk : k < l.length) : ∃ b off, p = some ⟨b, off, none⟩ ∧ n = l.length ∧
    w.cell? ⟨b, off + k * 3, none⟩ = some (.int .i64 l[k].a) ∧ w.cell? ⟨b, off + k * 3 + 1, none⟩ = some (.int .i64 l[k].b) ∧ w.cell? ⟨b, off + k * 3 + 2, none⟩ = some (.int .i64 l[k].why) := by
  rcases h with ⟨_, h⟩ | ⟨b, off, cap, h1, _, _, _, hc⟩
  · subst h; simp at hk
  · simp only [Value.slice.injEq] at h1
    obtain ⟨rfl, rfl, rfl⟩ := h1
    have e := fun j (hj : j < 3) => flatE_get lkCells lkLen l k hk j hj
    have e0 := hc (k * 3 + 0) _ (by rw [e 0 (by omega)]; rfl)
    have e1 := hc (k * 3 + 1) _ (by rw [e 1 (by omega)]; rfl)
    have e2 := hc (k * 3 + 2) _ (by rw [e 2 (by omega)]; rfl)
    exact ⟨b, off, rfl, rfl, by simpa using e0, by rw [Nat.add_assoc]; exact e1, by rw [Nat.add_assoc]; exact e2⟩
theorem RdE.form3 {M : Nat → Prop} {w : World} {v : Value} {l : List Lnk} (h : RdE lkCells M w v l) : ∃ a c, v = .slice a l.length c := by
  rcases h with ⟨⟨a, c, h1, _⟩, h⟩ | ⟨b, off, cap, h1, _⟩
  · subst h; exact ⟨a, c, h1⟩
  · exact ⟨_, _, h1⟩

def lbInit (m : Nat) : List Int := (List.range m).map (fun i : Nat => (i : Int))
def lbIn (m : Nat) (x : Lnk) : Bool := decide (0 ≤ x.a ∧ 0 ≤ x.b ∧ x.a < m ∧ x.b < m)
def lbMerge (l : List Int) (a b : Int) : List Int := l.map (fun y => if y = max a b then min a b else y)
def lbStep (m : Nat) (l : List Int) (x : Lnk) : List Int := if lbIn m x then lbMerge l (l.getD x.a.toNat 0) (l.getD x.b.toNat 0) else l
def lbAt (m : Nat) (lk : List Lnk) (k : Nat) : List Int := (lk.take k).foldl (lbStep m) (lbInit m)
theorem lbInit_length (m : Nat) : (lbInit m).length = m := by simp [lbInit]
theorem lbStep_length (m : Nat) (l : List Int) (x : Lnk) : (lbStep m l x).length = l.length := by unfold lbStep lbMerge; split <;> simp
theorem lbFold_length (m : Nat) : ∀ (lk : List Lnk) (l : List Int), (lk.foldl (lbStep m) l).length = l.length
  | [], _ => rfl
  | x :: lk, l => by rw [List.foldl_cons, lbFold_length m lk, lbStep_length]
theorem lbAt_length (m : Nat) (lk : List Lnk) (k : Nat) : (lbAt m lk k).length = m := by unfold lbAt; rw [lbFold_length, lbInit_length]
theorem lbAt_succ (m : Nat) (lk : List Lnk) {k : Nat} (hk : k < lk.length) : lbAt m lk (k + 1) = lbStep m (lbAt m lk k) lk[k] := by
  unfold lbAt
  rw [List.take_add_one, List.getElem?_eq_getElem hk, List.foldl_append]; rfl
theorem set_same (l : List Int) (n : Nat) (h : n < l.length) (y : Int) (hy : l.getD n 0 = y) : l.set n y = l := by
  subst hy
  rw [getD_eq h]
  exact List.set_getElem_self h
theorem lbInit_succ (k : Nat) : lbInit (k + 1) = lbInit k ++ [(k : Int)] := by unfold lbInit; rw [List.range_succ, List.map_append]; rfl

end Go.Proofs.YtndfncaoejbkiaaGreatDoor
end
section
/- The walks of the reference's twice and open. -/
namespace Go.Proofs.YtndfncaoejbkiaaGreatDoor
open Go.RowKit
set_option maxRecDepth 100000

def alikeAt (ns : List Node) (lab : List Int) (k i : Nat) : Bool := (ns[k]?).elim false (fun a => (ns[i]?).elim false (fun b => alikeS a b lab))
def twiceAt (ns : List Node) (i : Nat) : Bool := (List.range i).any (fun k => alikeAt ns (lbInit ns.length) k i)
def openAt (ns : List Node) (lab : List Int) (i : Nat) : Bool := (List.range i).any (fun k => alikeAt ns lab k i && lab.getD k 0 != lab.getD i 0)
theorem nsOf_length (d : Dmp) : (nsOf d).length = d.nodes.length := by simp [nsOf]
theorem alikeAt_of {d : Dmp} {lab : List Int} {k i : Nat} (hk : k < d.nodes.length) (hi : i < d.nodes.length) : alikeAt (nsOf d) lab k i = alikeS d.nodes[k].1 d.nodes[i].1 lab := by
  unfold alikeAt
  rw [nsOf_at hk, nsOf_at hi]; rfl
theorem any_upto {i : Nat} {p : Nat → Bool} (h : ∀ k, k < i → p k = false) : (List.range i).any p = false := by
  rw [List.any_eq_false]
  intro k hk
  rw [h k (List.mem_range.1 hk)]; simp
theorem any_at {i : Nat} {p : Nat → Bool} (k : Nat) (hk : k < i) (h : p k = true) : (List.range i).any p = true :=
  List.any_eq_true.2 ⟨k, List.mem_range.2 hk, h⟩

end Go.Proofs.YtndfncaoejbkiaaGreatDoor
end
section
/- The walks of the reference's bad and reasonless. -/
namespace Go.Proofs.YtndfncaoejbkiaaGreatDoor
open Go.RowKit
set_option maxRecDepth 100000

def lkBad (ns : List Node) (lk : List Lnk) (i : Nat) : Int := (lk[i]?).elim 0 (fun x =>
  if lbIn ns.length x = false then 5
  else if (lbAt ns.length lk i).getD x.a.toNat 0 = (lbAt ns.length lk i).getD x.b.toNat 0 then 6
  else if wAt ns x.a ≠ wAt ns x.b then 7 else 0)

def lkRless (ns : List Node) (lk : List Lnk) (i : Nat) : Bool := (lk[i]?).elim false (fun x =>
  lbIn ns.length x && (x.why == -1) && !alikeAt ns (lbAt ns.length lk i) x.a.toNat x.b.toNat)

end Go.Proofs.YtndfncaoejbkiaaGreatDoor
end
section
/- Rows of flaws; the walk of the reference's form. -/
namespace Go.Proofs.YtndfncaoejbkiaaGreatDoor
open Go.RowKit
set_option maxRecDepth 100000

structure Flw where
  kind : Int
  pos : Int
deriving DecidableEq
def flCells (x : Flw) : List Value := [.int .i64 x.kind, .int .i64 x.pos]
theorem flLen (x : Flw) : (flCells x).length = 2 := rfl
theorem infoFlaw : (Tryz.prog.info? 150).map (fun i => (i.zero, i.size, i.bytes)) = some (some (.agg #[.int .i64 0, .int .i64 0]), 2, 16) := by kernel_rfl
abbrev OwnF (B : Nat) (w : World) (v : Value) (l : List Flw) : Prop := OwnE flCells 2 150 B w v l
/-- append of one flaw. -/
theorem ap_flaw (w : World) {ops : Array Oper} {rest : List Oper} {o : Oper} {a : Act} {Q : Exit → Act → World → Prop} (hg : o.guard = none) (s x : Operand)
    (ho : o.op = .call { callee := .builtin .append, args := #[s, x], argTypes := #[104, 104] }) (base : Nat) (v : Value) (l : List Flw) (hs : a.eval s = v) (hown : OwnF base w v l)
    (u : Value) (m : List Flw) (hx : a.eval x = u) (hrd : RdE flCells NoB w u m) (hlen : l.length + m.length ≤ 1000000000) (hbase : base ≤ w.heap.size)
    (h : ∀ p q w', OwnF base w' (.slice p (l ++ m).length q) (l ++ m) → w.grownBy w' v.ownBlock → wpList Tryz.prog ops Q rest (a.put o.dst (.slice p (l ++ m).length q)) w') : wpList Tryz.prog ops Q (o :: rest) a w := by
  refine ap_rows (z := .agg #[.int .i64 0, .int .i64 0]) (bytes := 16) w flLen (by decide) Tryz.underlying104 infoFlaw rfl hg s x ho base v l hs hown NoB u m hx hrd (fun y hy u hu => ?_) (by omega) (by omega) hbase (fun v' w' h1 h2 _ => ?_)
  · simp only [flCells, List.mem_cons, List.not_mem_nil, or_false] at hu
    rcases hu with rfl | rfl <;> rfl
  · obtain ⟨p, q, hv⟩ := OwnE.form h1
    subst hv
    exact h p q w' h1 h2
/-- A literal row of one flaw. -/
theorem rdF_lit {w : World} {k x : Int} {e : TypeId} {b : Nat} (hb : b = w.heap.size) : RdE flCells NoB (w.alloc (.cells #[.int .i64 k, .int .i64 x] e)) (.slice (some ⟨b, 0, none⟩) 1 1) [⟨k, x⟩] := by
  subst hb
  refine .inr ⟨w.heap.size, 0, 1, rfl, by simp, fun h => h, Nat.le_refl _, ?_⟩
  have hb := at_new w (.cells #[.int .i64 k, .int .i64 x] e)
  intro j u hj
  rw [Nat.zero_add]
  match j, hj with
  | 0, hj => simp [flatE, flCells] at hj; subst hj; (unfold World.cell?; simp only [hb]; rfl)
  | 1, hj => simp [flatE, flCells] at hj; subst hj; (unfold World.cell?; simp only [hb]; rfl)
  | j + 2, hj => simp [flatE, flCells] at hj

def fls (kind : Int) (P : Nat → Bool) (k : Nat) : List Flw := ((List.range k).filter P).map (fun i : Nat => ⟨kind, i⟩)
theorem fls_le (kind : Int) (P : Nat → Bool) (k : Nat) : (fls kind P k).length ≤ k := by
  unfold fls
  rw [List.length_map]
  exact Nat.le_trans (List.length_filter_le _ _) (by simp)
theorem fls_on {kind : Int} {P : Nat → Bool} {k : Nat} (h : P k = true) : fls kind P (k + 1) = fls kind P k ++ [⟨kind, k⟩] := by
  unfold fls
  rw [List.range_succ, List.filter_append, List.map_append]
  simp [h]
theorem fls_off {kind : Int} {P : Nat → Bool} {k : Nat} (h : P k = false) : fls kind P (k + 1) = fls kind P k := by
  unfold fls
  rw [List.range_succ, List.filter_append, List.map_append]
  simp [h]
def formF (ns : List Node) : List Flw := fls 1 (malfAt ns) ns.length ++ fls 2 (disAt ns) ns.length ++ fls 3 (wideAt ns) ns.length

end Go.Proofs.YtndfncaoejbkiaaGreatDoor
end
section
/- The walk of the reference's links. -/
namespace Go.Proofs.YtndfncaoejbkiaaGreatDoor
open Go.RowKit
set_option maxRecDepth 100000

def lkPre (ns : List Node) (lk : List Lnk) : Nat → List Flw
  | 0 => []
  | n + 1 => lkPre ns lk n ++ fls ((5 + n : Nat) : Int) (fun i => lkBad ns lk i == ((5 + n : Nat) : Int)) lk.length
theorem lkPre_succ (ns : List Node) (lk : List Lnk) {q : Nat} (h : 5 ≤ q) : lkPre ns lk (q + 1 - 5) = lkPre ns lk (q - 5) ++ fls (q : Int) (fun i => lkBad ns lk i == (q : Int)) lk.length := by
  obtain ⟨n, rfl⟩ : ∃ n, q = 5 + n := ⟨q - 5, by omega⟩
  rw [show 5 + n + 1 - 5 = n + 1 by omega, show 5 + n - 5 = n by omega]
  rfl
theorem lkPre_le (ns : List Node) (lk : List Lnk) : ∀ n, (lkPre ns lk n).length ≤ n * lk.length
  | 0 => by simp [lkPre]
  | n + 1 => by
    have h1 := lkPre_le ns lk n
    have h2 := fls_le ((5 + n : Nat) : Int) (fun i => lkBad ns lk i == ((5 + n : Nat) : Int)) lk.length
    unfold lkPre
    rw [List.length_append, Nat.succ_mul]
    omega
def linksF (ns : List Node) (lk : List Lnk) : List Flw := lkPre ns lk 3 ++ fls 8 (lkRless ns lk) lk.length

end Go.Proofs.YtndfncaoejbkiaaGreatDoor
end
section
/- The walk of the reference's Same. -/
namespace Go.Proofs.YtndfncaoejbkiaaGreatDoor
open Go.RowKit
set_option maxRecDepth 100000

/-- A flaw of a row. -/
theorem RdE.flK {M : Nat → Prop} {w : World} {p : Option Addr} {n c : Nat} {l : List Flw} (h : RdE flCells M w (.slice p n c) l) {k : Nat} (hk : k < l.length) : ∃ b off, p = some ⟨b, off, none⟩ ∧
    w.cell? ⟨b, off + k * 2, none⟩ = some (.int .i64 l[k].kind) ∧ w.cell? ⟨b, off + k * 2 + 1, none⟩ = some (.int .i64 l[k].pos) := by
  rcases h with ⟨_, h⟩ | ⟨b, off, cap, h1, _, _, _, hc⟩
  · subst h; simp at hk
  · simp only [Value.slice.injEq] at h1
    obtain ⟨rfl, rfl, rfl⟩ := h1
    have e := fun j (hj : j < 2) => flatE_get flCells flLen l k hk j hj
    have e0 := hc (k * 2 + 0) _ (by rw [e 0 (by omega)]; rfl)
    have e1 := hc (k * 2 + 1) _ (by rw [e 1 (by omega)]; rfl)
    exact ⟨b, off, rfl, by simpa using e0, by rw [Nat.add_assoc]; exact e1⟩
theorem RdE.formF {M : Nat → Prop} {w : World} {v : Value} {l : List Flw} (h : RdE flCells M w v l) : ∃ a c, v = .slice a l.length c := by
  rcases h with ⟨⟨a, c, h1, _⟩, h⟩ | ⟨b, off, cap, h1, _⟩
  · subst h; exact ⟨a, c, h1⟩
  · exact ⟨_, _, h1⟩

end Go.Proofs.YtndfncaoejbkiaaGreatDoor
end
