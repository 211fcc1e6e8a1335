/- The walk of the law's own example: saturatelaw16.live. -/
import Derived.Test.YtkifedleajacpaaDoorTabPut
namespace Go.Proofs.YtkifedleajacpaaDoor
open Go.RowKit
set_option maxRecDepth 100000

def liveF (x : Int) : Int := if x = 4 then 1 else x
theorem live1_any (x : Int) (w : World) : Calls Tryd.prog 34 #[.int .i64 x] w fun e w' => e = .returned (.int .i64 (liveF x)) ∧ w' = w := by
  by_cases h : x = 4
  · subst h
    go_enter Tryd.func34, Tryd.ntmps34
    go_wp2
    go_ret
    exact ⟨rfl, rfl⟩
  · have hb : (x == 4) = false := by simpa using h
    have hv := hid (show liveF x = x by simp [liveF, h])
    clear h
    go_enter Tryd.func34, Tryd.ntmps34
    go_wp2
    go_ret
    exact ⟨by rw [hv.out]; rfl, rfl⟩

theorem liveOk (l : List Int) : FindOk 34 #[] #[] (fun _ _ _ => True) l liveF where
  enter := enters_of Tryd.func34 (by kernel_rfl) rfl
  stable := fun _ _ _ _ _ _ => trivial
  call := fun Pr k w hk _ => (live1_any _ w).mono (fun e w' ⟨h1, h2⟩ => ⟨h1, trivial, by subst h2; exact Fr.refl _ _⟩)

def liveN : Node := ⟨8, 8, 0, ⟨#[]⟩, [3, 4]⟩
theorem liveN_ok : NodeOk liveN := ⟨by decide, by decide, by decide, fun i hi => by
  match i, hi with
  | 0, _ => decide
  | 1, _ => decide⟩
theorem liveN_sm : NodeSm liveN := ⟨by decide, by decide⟩

theorem tget_one (n : Node) (sl : Value) (id : Int) : tget [⟨n, sl, id⟩] n = some ⟨n, sl, id⟩ := by
  have : nodeCmp n n = 0 := nodeCmp_zero.2 rfl
  simp [tget, this]
theorem tdel_one (n : Node) (sl : Value) (id : Int) : tdel [⟨n, sl, id⟩] n = [] := by
  have : nodeCmp n n = 0 := nodeCmp_zero.2 rfl
  simp [tdel, this]

/-- What stays of the example's node from world to world. -/
structure LiveS (w wk : World) : Prop where
  fr : Fr NoB w wk
  box : wk.heap[w.heap.size + 1]? = some (.cells #[.int .i64 8, .int .i64 8, .int .u64 0, .string ⟨#[]⟩, .slice (some ⟨w.heap.size, 0, none⟩) 2 2] 26 (0, 0))
  args : ∀ N : Nat → Prop, ¬ N w.heap.size → RdI N wk (.slice (some ⟨w.heap.size, 0, none⟩) 2 2) [3, 4]
  tab : Tab wk
  tb : TB < w.heap.size
theorem LiveS.step {w wk w' : World} {M : Nat → Prop} (h : LiveS w wk) (hf : Fr M wk w') (hM : ∀ k, M k → w.heap.size + 2 ≤ k) : LiveS w w' where
  fr := h.fr.trans' hf (fun k hk hm => by have := hM k hm; omega)
  box := hf.at (fun hm => by have := hM _ hm; omega) h.box
  args := fun N hN => by
    have hf' : Fr (fun k => w.heap.size + 2 ≤ k) wk w' := hf.mono (fun k _ hm => hM k hm)
    rcases h.args (fun k => w.heap.size + 2 ≤ k ∨ N k) (by simp; exact hN) with h1 | ⟨b, off, cap, h1, h2⟩
    · exact absurd h1.1 (by simp)
    · exact (RdI.fr (.inr ⟨b, off, cap, h1, h2⟩ : RdI (fun k => w.heap.size + 2 ≤ k ∨ N k) wk _ [3, 4]) hf' (fun k _ hk => .inl hk)).weaken (fun k _ hk => .inr hk)
  tab := h.tab.fr hf (fun hm => by have := hM _ hm; have := h.tb; omega)
  tb := h.tb
theorem LiveS.start {w : World} (ht : Tab w) : LiveS w ((w.alloc (.cells #[.int .i64 3, .int .i64 4] 3)).alloc (.cells #[.int .i64 8, .int .i64 8, .int .u64 0, .string ⟨#[]⟩, .slice (some ⟨w.heap.size, 0, none⟩) 2 2] 26)) where
  fr := ((Fr.refl NoB w).alloc _).alloc _
  box := at_new' (by simp)
  args := fun N hN => .inr ⟨w.heap.size, 0, 2, rfl, by simp only [World.size_alloc]; omega, hN, by decide, fun i hi => by
    have hB0 : ((w.alloc (.cells #[.int .i64 3, .int .i64 4] 3)).alloc (.cells #[.int .i64 8, .int .i64 8, .int .u64 0, .string ⟨#[]⟩, .slice (some ⟨w.heap.size, 0, none⟩) 2 2] 26)).heap[w.heap.size]? = some (.cells #[.int .i64 3, .int .i64 4] 3 (0, 0)) := at_old (at_new w _) _
    match i, hi with
    | 0, _ => simp [World.cell?, hB0]
    | 1, _ => simp [World.cell?, hB0]⟩
  tab := ht.fr (((Fr.refl NoB w).alloc _).alloc _) (fun h => h)
  tb := ht.lt

abbrev liveV (B : Nat) : Value := .agg #[.int .i64 8, .int .i64 8, .int .u64 0, .string ⟨#[]⟩, .slice (some ⟨B, 0, none⟩) 2 2]

set_option maxHeartbeats 4000000 in
theorem live_any (w : World) (ht : Tab w) : Calls Tryd.prog 12 #[] w fun e w' => e = .returned (.bool true) ∧ Fr NoB w w' := by
  have S0 := hid (LiveS.start ht)
  have hSz : ((w.alloc (.cells #[.int .i64 3, .int .i64 4] 3)).alloc (.cells #[.int .i64 8, .int .i64 8, .int .u64 0, .string ⟨#[]⟩, .slice (some ⟨w.heap.size, 0, none⟩) 2 2] 26)).heap.size = w.heap.size + 2 := by simp
  obtain ⟨W0, hW0⟩ : ∃ W0, W0 = (w.alloc (.cells #[.int .i64 3, .int .i64 4] 3)).alloc (.cells #[.int .i64 8, .int .i64 8, .int .u64 0, .string ⟨#[]⟩, .slice (some ⟨w.heap.size, 0, none⟩) 2 2] 26) := ⟨_, rfl⟩
  rw [← hW0] at S0 hSz
  have HSz := hid hSz
  have HW0 := hid hW0
  clear ht hSz hW0
  go_enter Tryd.func12, Tryd.ntmps12
  go_wp2_with fail
  rw [← HW0.out]
  refine (canon_any NoB (fun _ => True) 34 #[] #[] (fun _ _ _ => True) liveF liveN _ W0 (S0.out.args NoB (fun h => h)) (by decide) (liveOk _) (fun _ _ => trivial)).mono ?_
  rintro e w1 ⟨a', c', he, ho1, _, hf1⟩
  have he : e = .returned (.agg #[.int .i64 8, .int .i64 8, .int .u64 0, .string ⟨#[]⟩, .slice a' 2 c']) := he
  have ho1 : OwnI W0.heap.size w1 (.slice a' 2 c') [3, 1] := ho1
  subst he
  have F1 : Hid (Fr NoB W0 w1) := hf1.mono (fun k _ h => h trivial)
  have S1 := hid (S0.out.step F1.out (fun k h => h.elim))
  rcases OwnI.form' ho1 with ⟨_, h2⟩ | ⟨g, cap, h1, hg1, hg2, _⟩
  · exact absurd h2 (by decide)
  simp only [Value.slice.injEq] at h1
  obtain ⟨rfl, _, rfl⟩ := h1
  have e0 : w1.cell? ⟨g, 0, none⟩ = some (.int .i64 3) := OwnI.cell ho1 (i := 0) (by decide)
  have e1 : w1.cell? ⟨g, 1, none⟩ = some (.int .i64 1) := OwnI.cell ho1 (i := 1) (by decide)
  have hw1 : w.heap.size + 2 ≤ w1.heap.size := by have := F1.out.size; have := HSz.out; omega
  clear hf1 ho1
  go_wp2_with fail
  refine (new_any _).mono ?_
  rintro e w2 ⟨bm, bt, rfl, hbm, hbt, hne, ht2, hf2⟩
  simp only [World.size_alloc] at hbm hbt
  have F2 : Hid (Fr NoB w1 w2) := (((Fr.refl NoB w1).alloc _).step hf2)
  have S2 := hid (S1.out.step F2.out (fun k h => h.elim))
  have hc2 : w2.heap[w1.heap.size]? = some (.cells #[.int .i64 8, .int .i64 8, .int .u64 0, .string ⟨#[]⟩, .slice (some ⟨g, 0, none⟩) 2 c'] 26 (0, 0)) := hf2.at (fun h => h) (at_new w1 _)
  obtain ⟨d0, d1, d2, d3, d4, df, dl⟩ := five_of hc2
  obtain ⟨b0, b1, b2, b3, b4, bf, bl⟩ := five_of S2.out.box
  have e0 := F2.out.c hg2 (fun h => h) e0
  have e1 := F2.out.c hg2 (fun h => h) e1
  have hbml : bm < w2.heap.size := (ht2 NoB).map.lt
  have T2 := hid (ht2 (fun k => k = bm))
  clear hf2 hc2 ht2
  go_wp2_with fail
  refine (put_none (fun k => k = bm) (fun k => k = bm) w2 bt bm [] T2.out liveN _ 7 (S2.out.args _ (fun h => by omega)) liveN_ok liveN_sm S2.out.tab rfl rfl hne (fun k hk => by rw [hk]; exact hbml)).mono ?_
  rintro e w3 ⟨rfl, ⟨sl, ht3⟩, hf3⟩
  have S3 := hid (S2.out.step hf3 (fun k h => by rw [h]; omega))
  have T3 := hid ht3
  clear hf3 ht3 b0 b1 b2 b3 b4 bf bl d0 d1 d2 d3 d4 df dl e0 e1
  obtain ⟨b0, b1, b2, b3, b4, bf, bl⟩ := five_of S3.out.box
  go_wp2_with fail
  refine (put_some (fun k => k = bm) (fun k => k = bm) w3 bt bm _ T3.out liveN _ 8 (S3.out.args _ (fun h => by omega)) liveN_ok liveN_sm S3.out.tab _ (tget_one _ _ _)).mono ?_
  rintro e w4 ⟨rfl, hf4⟩
  have S4 := hid (S3.out.step hf4 (fun k h => h.elim))
  have T4 := hid (T3.out.fr hf4 (fun h => h) (fun h => h) (fun _ _ h => h.elim))
  clear hf4 b0 b1 b2 b3 b4 bf bl
  obtain ⟨b0, b1, b2, b3, b4, bf, bl⟩ := five_of S4.out.box
  go_wp2_with fail
  refine (get_some (fun k => k = bm) (fun k => k = bm) w4 bt bm _ T4.out liveN _ (S4.out.args _ (fun h => by omega)) liveN_ok liveN_sm S4.out.tab _ (tget_one _ _ _)).mono ?_
  rintro e w5 ⟨rfl, hf5⟩
  have S5 := hid (S4.out.step hf5 (fun k h => h.elim))
  have T5 := hid (T4.out.fr hf5 (fun h => h) (fun h => h) (fun _ _ h => h.elim))
  clear hf5 b0 b1 b2 b3 b4 bf bl
  obtain ⟨b0, b1, b2, b3, b4, bf, bl⟩ := five_of S5.out.box
  go_wp2_with fail
  refine (len_any (fun k => k = bm) w5 bt bm _ T5.out).mono ?_
  rintro e w5' ⟨rfl, rfl⟩
  go_wp2_with fail
  refine (del_some (fun k => k = bm) (fun k => k = bm) w5' bt bm _ T5.out liveN _ (S5.out.args _ (fun h => by omega)) liveN_ok liveN_sm S5.out.tab _ (tget_one _ _ _) rfl hne).mono ?_
  rintro e w6 ⟨rfl, ht6, hf6⟩
  have S6 := hid (S5.out.step hf6 (fun k h => by rw [h]; omega))
  have ht6 : TableAt (fun k => k = bm) w6 bt bm [] := by rw [← tdel_one liveN sl 7]; exact ht6
  have T6 := hid ht6
  clear hf6 ht6 b0 b1 b2 b3 b4 bf bl
  go_wp2_with fail
  refine (len_any (fun k => k = bm) w6 bt bm _ T6.out).mono ?_
  rintro e w6' ⟨rfl, rfl⟩
  go_wp2
  go_ret
  exact ⟨rfl, S6.out.fr⟩

end Go.Proofs.YtkifedleajacpaaDoor
