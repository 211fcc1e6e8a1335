/- Maps with plain keys, as lists of pairs: what the model's operations do. No program in sight. -/
import Derived.Test.YtkifedleajacpaaDoorBase
import Derived.MapKept
import Derived.ChangeMaps5
import Derived.Maps.RangeRun
namespace Go.Proofs.YtkifedleajacpaaDoor
open Go.RowKit Go.MapKept
open Go.ChangeMaps (setBlock)

/-- mk makes the model's keys of kind d out of κ. -/
structure KK {κ : Type} (d : TypeDesc) (mk : κ → Value) : Prop where
  key : ∀ a, IsKey d (mk a)
  inj : ∀ a b, mk a = mk b → a = b
  stays : ∀ (P : Program) (w : World) a, (Instr.keyThatStays (mk a) (mk a)).run P w = .ok (mk a) w

theorem kkString : KK .string Value.string := ⟨fun _ => trivial, fun a b h => by cases h; rfl, fun P w a => MapKept.run_keyThatStays (d := .string) trivial⟩
theorem kkInt : KK (.int .i64) (Value.int .i64) := ⟨fun _ => rfl, fun a b h => by cases h; rfl, fun P w a => MapKept.run_keyThatStays (d := .int .i64) rfl⟩

set_option linter.unusedSectionVars false
section
variable {κ : Type} [DecidableEq κ]

def mget (m : List (κ × Value)) (k : κ) : Option Value := (m.find? (fun p => decide (p.1 = k))).map (·.2)
def mput (m : List (κ × Value)) (k : κ) (v : Value) : List (κ × Value) := if (mget m k).isSome then m.map (fun p => if p.1 = k then (p.1, v) else p) else m ++ [(k, v)]
def mdel (m : List (κ × Value)) (k : κ) : List (κ × Value) := m.filter (fun p => decide (p.1 ≠ k))

/-- Block b of w is a map that holds just the pairs m, in the order of their making. -/
def MapIs (_d : TypeDesc) (mk : κ → Value) (w : World) (b : Nat) (m : List (κ × Value)) : Prop :=
  ∃ es clock, w.heap[b]? = some (.map es clock) ∧ es.toList.map (fun e => (e.key, e.val)) = m.map (fun p => (mk p.1, p.2)) ∧ Stamped es clock

variable {d : TypeDesc} {mk : κ → Value} {w : World} {b : Nat} {m : List (κ × Value)}

theorem MapIs.lt (h : MapIs d mk w b m) : b < w.heap.size := by obtain ⟨es, clock, h, _⟩ := h; exact (Array.getElem?_eq_some_iff.1 h).1
theorem MapIs.fr {M : Nat → Prop} {w' : World} (h : MapIs d mk w b m) (hf : Fr M w w') (hm : ¬ M b) : MapIs d mk w' b m := by
  obtain ⟨es, clock, h1, h2⟩ := h
  exact ⟨es, clock, hf.at hm h1, h2⟩
theorem MapIs.new (d : TypeDesc) (mk : κ → Value) (w : World) : MapIs d mk (w.alloc (.map #[] 0)) w.heap.size [] := ⟨#[], 0, at_new w _, rfl, stamped_empty 0⟩

theorem find_at (K : KK d mk) {es : List MapEntry} : ∀ {m : List (κ × Value)} (k : κ) (i : Nat), es.map (fun e => (e.key, e.val)) = m.map (fun p => (mk p.1, p.2)) →
    (Instr.findNow d (mk k) es i = some none ∧ mget m k = none) ∨ ∃ j v, Instr.findNow d (mk k) es i = some (some (i + j, v)) ∧ mget m k = some v ∧ j < m.length ∧ (m.map (·.1))[j]? = some k ∧ (es.map (·.key))[j]? = some (mk k) := by
  induction es with
  | nil =>
    intro m k i h
    have : m = [] := by simpa using h.symm
    subst this
    exact .inl ⟨rfl, rfl⟩
  | cons e es ih =>
    intro m k i h
    match m, h with
    | [], h => simp at h
    | p :: m, h =>
      simp only [List.map_cons, List.cons.injEq, Prod.mk.injEq] at h
      obtain ⟨⟨hk, hv⟩, ht⟩ := h
      obtain ⟨r, hr, hiff⟩ := sameNow_of_keys (K.key k) (hk ▸ K.key p.1 : IsKey d e.key)
      by_cases hp : p.1 = k
      · have hrt : r = true := hiff.2 (by rw [hk, hp])
        subst hrt
        exact .inr ⟨0, e.val, by simp [Instr.findNow, hr], by simp [mget, hp, hv], by simp, by simp [hp], by simp [hk, hp]⟩
      · have hrf : r = false := by
          cases r with
          | false => rfl
          | true => exact absurd (K.inj _ _ ((hiff.1 rfl).trans hk)).symm hp
        subst hrf
        rcases ih (m := m) k (i + 1) ht with ⟨h1, h2⟩ | ⟨j, v, h1, h2, h3, h4, h5⟩
        · exact .inl ⟨by simp [Instr.findNow, hr, h1], by simp only [mget, List.find?_cons, hp, decide_false]; exact h2⟩
        · refine .inr ⟨j + 1, v, by simp [Instr.findNow, hr, h1]; omega, by simp only [mget, List.find?_cons, hp, decide_false]; exact h2, by simpa using h3, by simpa using h4, by simpa using h5⟩

variable {P : Program} {t kt e : TypeId}

theorem MapIs.look (h : MapIs d mk w b m) (K : KK d mk) (ht : P.underlying t = some (.map kt e)) (hk : P.underlying kt = some d) (k : κ) {v : Value} (hg : mget m k = some v) (ok : Bool) :
    (Instr.lookup t (.map (some b)) (mk k) ok).run P w = .ok (if ok then .tuple #[v, .bool true] else v) w := by
  obtain ⟨es, clock, hb, hm, _⟩ := h
  rcases find_at K k 0 hm with ⟨h1, h2⟩ | ⟨j, v', h1, h2, _⟩
  · rw [h2] at hg; cases hg
  · rw [h2] at hg; cases hg
    have hf := MapKept.run_findKey (P := P) (w := w) hk h1
    simp [Instr.lookup, run_underlying ht, MapKept.run_getObj_map hb, MapKept.run_checkKey (P := P) (w := w) hk (K.key k), hf, Result.andThen]

theorem MapIs.lookNone (h : MapIs d mk w b m) (K : KK d mk) (ht : P.underlying t = some (.map kt e)) (hk : P.underlying kt = some d) (k : κ) (hg : mget m k = none) {z : Value} (hz : (zeroValue e).run P w = .ok z w) (ok : Bool) :
    (Instr.lookup t (.map (some b)) (mk k) ok).run P w = .ok (if ok then .tuple #[z, .bool false] else z) w := by
  obtain ⟨es, clock, hb, hm, _⟩ := h
  rcases find_at K k 0 hm with ⟨h1, h2⟩ | ⟨j, v', h1, h2, _⟩
  · have hf := MapKept.run_findKey (P := P) (w := w) hk h1
    simp [Instr.lookup, run_underlying ht, MapKept.run_getObj_map hb, MapKept.run_checkKey (P := P) (w := w) hk (K.key k), hf, hz, Result.andThen]
  · rw [h2] at hg; cases hg

theorem map_erase {α β : Type} (f : α → β) : ∀ (l : List α) (i : Nat), (l.eraseIdx i).map f = (l.map f).eraseIdx i
  | [], _ => rfl
  | _ :: _, 0 => rfl
  | x :: l, i + 1 => by rw [List.eraseIdx_cons_succ, List.map_cons, List.map_cons, List.eraseIdx_cons_succ, map_erase f l i]

theorem frBlock (_hb : b < w.heap.size) (o : Obj) : Fr (fun k => k = b) w (setBlock w b o) :=
  ⟨rfl, rfl, rfl, by simp [setBlock], fun k _ hk => by simp [setBlock, Ne.symm (show k ≠ b from hk)]⟩

theorem nodup_of (_K : KK d mk) {es : Array MapEntry} {clock : Nat} (hm : es.toList.map (fun e => (e.key, e.val)) = m.map (fun p => (mk p.1, p.2))) (hs : Stamped es clock) : (m.map (·.1)).Nodup := by
  have h1 : es.toList.map (·.key) = (m.map (·.1)).map mk := by
    have := congrArg (List.map (·.1)) hm
    rw [List.map_map, List.map_map] at this
    rw [List.map_map]; exact this
  have h2 := hs.2.2
  rw [h1] at h2
  exact List.Pairwise.imp (fun h e => h (by rw [e])) (List.pairwise_map.1 h2)

theorem MapIs.nodup (h : MapIs d mk w b m) (K : KK d mk) : (m.map (·.1)).Nodup := by
  obtain ⟨es, clock, _, hm, hs⟩ := h
  exact nodup_of K hm hs

theorem MapIs.del (h : MapIs d mk w b m) (K : KK d mk) (ht : P.underlying t = some (.map kt e)) (hk : P.underlying kt = some d) (k : κ) (ty : TypeId) (t2 : TypeId) :
    ∃ w', (Builtin.delete_ #[t, t2] ty #[.map (some b), mk k]).run P w = .ok (.tuple #[]) w' ∧ MapIs d mk w' b (mdel m k) ∧ Fr (fun q => q = b) w w' := by
  have hlt := h.lt
  have hnd := h.nodup K
  obtain ⟨es, clock, hb, hm, hs⟩ := h
  rcases find_at K k 0 hm with ⟨h1, h2⟩ | ⟨j, v', h1, h2, h3, h4, h5⟩
  · have hf := MapKept.run_findKey (P := P) (w := w) hk h1
    refine ⟨setBlock w b (.map es clock), ?_, ⟨es, clock, by simp [setBlock, hlt], ?_, hs⟩, frBlock hlt _⟩
    · simp [Builtin.delete_, run_underlying ht, MapKept.run_getObj_map hb, MapKept.run_checkKey (P := P) (w := w) hk (K.key k), hf, MapKept.run_setObj_map _ hb, Result.andThen, setBlock]
    · rw [hm]
      congr 1
      refine (List.filter_eq_self.2 (fun p hp => ?_)).symm
      simp only [decide_eq_true_eq]
      intro e2
      have : mget m k ≠ none := by
        unfold mget
        intro h0
        rw [Option.map_eq_none_iff, List.find?_eq_none] at h0
        exact h0 p hp (by simpa using e2)
      exact this h2
  · have hf := MapKept.run_findKey (P := P) (w := w) hk h1
    refine ⟨setBlock w b (.map (es.eraseIdxIfInBounds (0 + j)) clock), ?_, ⟨es.eraseIdxIfInBounds (0 + j), clock, by simp [setBlock, hlt], ?_, ?_⟩, frBlock hlt _⟩
    · simp [Builtin.delete_, run_underlying ht, MapKept.run_getObj_map hb, MapKept.run_checkKey (P := P) (w := w) hk (K.key k), hf, MapKept.run_setObj_map _ hb, Result.andThen, setBlock]
    · rw [Nat.zero_add]
      have e1 : (es.eraseIdxIfInBounds j).toList = es.toList.eraseIdx j := by simp
      rw [e1, map_erase, hm, ← map_erase]
      congr 1
      have key : ∀ (m : List (κ × Value)) (j : Nat), (m.map (·.1)).Nodup → (m.map (·.1))[j]? = some k → m.eraseIdx j = m.filter (fun p => decide (p.1 ≠ k)) := by
        intro m
        induction m with
        | nil => intro j _ h; simp at h
        | cons p m ih =>
          intro j hn hj
          simp only [List.map_cons, List.nodup_cons] at hn
          cases j with
          | zero =>
            simp only [List.map_cons, List.getElem?_cons_zero, Option.some.injEq] at hj
            rw [List.eraseIdx_cons_zero, List.filter_cons_of_neg (by simpa using hj)]
            refine (List.filter_eq_self.2 (fun q hq => ?_)).symm
            simp only [decide_eq_true_eq]
            intro e2
            exact hn.1 (by rw [hj, ← e2]; exact List.mem_map_of_mem hq)
          | succ j =>
            simp only [List.map_cons, List.getElem?_cons_succ] at hj
            rw [List.eraseIdx_cons_succ, List.filter_cons_of_pos, ih j hn.2 hj]
            simp only [decide_eq_true_eq]
            intro e2
            exact hn.1 (by rw [e2]; exact List.mem_of_getElem? hj)
      exact key m j hnd h4
    · obtain ⟨s1, s2, s3⟩ := hs
      have e1 : (es.eraseIdxIfInBounds (0 + j)).toList = es.toList.eraseIdx (0 + j) := by simp
      refine ⟨fun x hx => s1 x (by rw [e1] at hx; exact List.mem_of_mem_eraseIdx hx), ?_, ?_⟩
      · rw [e1, map_erase]; exact List.Nodup.sublist (List.eraseIdx_sublist _ _) s2
      · rw [e1, map_erase]; exact List.Nodup.sublist (List.eraseIdx_sublist _ _) s3

theorem MapIs.put (h : MapIs d mk w b m) (K : KK d mk) (ht : P.underlying t = some (.map kt e)) (hk : P.underlying kt = some d) (k : κ) (v : Value) :
    ∃ w', (Instr.mapUpdate t (.map (some b)) (mk k) v).run P w = .ok () w' ∧ MapIs d mk w' b (mput m k v) ∧ Fr (fun q => q = b) w w' := by
  have hlt := h.lt
  have hnd := h.nodup K
  obtain ⟨es, clock, hb, hm, hs⟩ := h
  rcases find_at K k 0 hm with ⟨h1, h2⟩ | ⟨j, v', h1, h2, h3, h4, h5⟩
  · have hf := MapKept.run_findKey (P := P) (w := w) hk h1
    refine ⟨setBlock w b (.map (es.push { key := mk k, val := v, born := clock }) (clock + 1)), ?_, ⟨es.push { key := mk k, val := v, born := clock }, clock + 1, by simp [setBlock, hlt], ?_, stamped_push hs ?_⟩, frBlock hlt _⟩
    · simp [Instr.mapUpdate, run_underlying ht, MapKept.run_getObj_map hb, MapKept.run_checkKey (P := P) (w := w) hk (K.key k), hf, MapKept.run_setObj_map _ hb, Result.andThen, setBlock]
    · rw [mput, h2]; simp [hm]
    · intro x hx e2
      have hx1 : (x.key, x.val) ∈ m.map (fun p => (mk p.1, p.2)) := by rw [← hm]; exact List.mem_map_of_mem (f := fun e : MapEntry => (e.key, e.val)) hx
      obtain ⟨p, hp, hpe⟩ := List.mem_map.1 hx1
      simp only [Prod.mk.injEq] at hpe
      have e3 : p.1 = k := K.inj _ _ (hpe.1.trans e2)
      unfold mget at h2
      rw [Option.map_eq_none_iff, List.find?_eq_none] at h2
      exact h2 p hp (by simpa using e3)
  · have hf := MapKept.run_findKey (P := P) (w := w) hk h1
    have hj : j < es.size := by
      have := congrArg List.length hm
      simp at this
      omega
    have hkey : (((es[0 + j]?).map (·.key)).getD (mk k)) = mk k := by
      rw [Nat.zero_add]
      rw [List.getElem?_map, Array.getElem?_toList] at h5
      rw [h5]; rfl
    refine ⟨setBlock w b (.map (es.modify (0 + j) fun e => { e with key := mk k, val := v }) clock), ?_, ⟨es.modify (0 + j) (fun e => { e with key := mk k, val := v }), clock, by simp [setBlock, hlt], ?_, ?_⟩, frBlock hlt _⟩
    · simp only [Instr.mapUpdate, Sem.run_bind, run_underlying ht, MapKept.run_getObj_map hb, MapKept.run_checkKey (P := P) (w := w) hk (K.key k), hf, Result.andThen, hkey, K.stays, MapKept.run_setObj_map _ hb]
      rfl
    · rw [Nat.zero_add, mput, h2]
      simp only [Option.isSome_some, if_true, Array.toList_modify]
      refine List.ext_getElem? (fun i => ?_)
      have hmi : (es.toList.map (fun e => (e.key, e.val)))[i]? = (m.map (fun p => (mk p.1, p.2)))[i]? := by rw [hm]
      simp only [List.getElem?_map] at hmi h4 ⊢
      rw [List.getElem?_modify]
      by_cases hij : j = i
      · subst hij
        simp only [if_true, Option.map_eq_map]
        cases hmj : m[j]? with
        | none => rw [hmj] at h4; simp at h4
        | some p =>
          rw [hmj] at hmi h4
          simp only [Option.map_some, Option.some.injEq] at h4 hmi ⊢
          cases hej : es.toList[j]? with
          | none => rw [hej] at hmi; simp at hmi
          | some e1 => simp [h4]
      · simp only [if_neg hij, Option.map_eq_map, Option.map_id']
        cases hmj : m[i]? with
        | none => rw [hmj] at hmi; simpa using hmi
        | some p =>
          rw [hmj] at hmi
          have hpk : p.1 ≠ k := by
            intro e2
            have h6 : (m.map (·.1))[i]? = some k := by rw [List.getElem?_map, hmj]; simp [e2]
            have h7 : (m.map (·.1))[j]? = some k := by rw [List.getElem?_map]; exact h4
            have hi : i < (m.map (·.1)).length := (List.getElem?_eq_some_iff.1 h6).1
            have hjj : j < (m.map (·.1)).length := (List.getElem?_eq_some_iff.1 h7).1
            rw [List.getElem?_eq_getElem hi] at h6
            rw [List.getElem?_eq_getElem hjj] at h7
            have := (List.getElem_inj (h₀ := hjj) (h₁ := hi) hnd).1 ((Option.some.inj h7).trans (Option.some.inj h6).symm)
            exact hij this
          simpa [hpk] using hmi
    · refine stamped_modify hs _ _ (fun _ _ => rfl) (fun x hx hxj => ?_)
      rw [Nat.zero_add] at hxj
      rw [List.getElem?_map, Array.getElem?_toList, hxj] at h5
      simpa using h5.symm

end
end Go.Proofs.YtkifedleajacpaaDoor
