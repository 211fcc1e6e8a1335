/- HashconsCanons: for every node and table hashcons.Canon asks its function once for each Arg in order and puts in what it answers, as the reference does, and without a function leaves the Args (where the node is too large for the law's guard it checks the chapter's example alone). Condition: the three listed tables of Go's library hold what the program's text lays in them (the card ties this). -/
import Derived.Test.YtkifedleajacpaaDoorCards
import Derived.Test.YtkifedleajacpaaDoorTie
import Derived.Test.YtkifedleajacpaaDoorOpen
import Derived.Test.YtkifedleajacpaaDoorTwo
import Derived.Test.YtkifedleajacpaaDoorFindN
import Derived.Test.YtkifedleajacpaaDoorOwnAt
import Derived.SevenTiedAt
namespace Go.Proofs.YtkifedleajacpaaDoor.LawCanons
open Go.ChangeShapes Go.WideShapes Go.ChangeAt Go.RowKit
set_option maxRecDepth 100000

set_option maxHeartbeats 2000000 in
theorem ask (B A T : Nat) (va tv : Value) (la tl : List Int) (x : Int) (w : World) (hA : w.heap[A]? = some (.cells #[va] 24 (0, 0))) (hT : w.heap[T]? = some (.cells #[tv] 24 (0, 0)))
    (hva : OwnI B w va la) (hAB : A < B) (hTB : T < B) (hAT : A ≠ T) (hB : B ≤ w.heap.size) (ht : RdI (fun k => A ≤ k) w tv tl) (hlen : la.length + 1 ≤ 17592186044416) :
    Calls Tryd.prog 17 #[.int .i64 x, .pointer (some ⟨A, 0, none⟩), .pointer (some ⟨T, 0, none⟩)] w fun e w' => e = .returned (.int .i64 (tfind tl x)) ∧
      ∃ va', OwnI B w' va' (la ++ [x]) ∧ w'.heap[A]? = some (.cells #[va'] 24 (0, 0)) ∧ (∀ k, va'.ownBlock = some k → va.ownBlock = some k ∨ w.heap.size ≤ k) ∧ Fr (fun k => k = A ∨ va.ownBlock = some k) w w' := by
  have c0 : w.cell? ⟨A, 0, none⟩ = some va := by simp [World.cell?, hA]
  have c1 : w.cell? ⟨T, 0, none⟩ = some tv := by simp [World.cell?, hT]
  have cfA : ∀ o, w.frozen? ⟨A, o, none⟩ = false := fun o => by simp [World.frozen?, hA]
  have hTA : T ≠ A := fun h => hAT h.symm
  have hrx := hid (show RdI NoB (w.alloc (.cells #[.int .i64 x] 3)) (.slice (some ⟨w.heap.size, 0, none⟩) 1 1) [x] from rdI_lit' (l := [x]) rfl rfl rfl (fun h => h))
  have hva2 := hid (show OwnI B (w.alloc (.cells #[.int .i64 x] 3)) va la from hva.fr ((Fr.refl NoB w).alloc _) (fun _ _ h => h))
  have hrow := hid (World.ownsRow.lt hva)
  have HTT := hid ht
  have HA := hid hA
  have HB : Hid (B ≤ (w.alloc (.cells #[.int .i64 x] 3)).heap.size) := by simp only [World.size_alloc]; exact Nat.le_succ_of_le hB
  have HTl := hid (Nat.lt_of_lt_of_le hTB hB)
  have HAl := hid (Nat.lt_of_lt_of_le hAB hB)
  clear hA hT hva ht hB
  go_enter Tryd.func17, Tryd.ntmps17
  go_wp2_with (at_builtin; refine ap_ints_at _ rfl _ _ rfl B va la rfl hva2.out NoB _ [x] rfl hrx.out (by simpa using hlen) HB.out ?_; intro v1 w1 ho hg hat; obtain ⟨a', c', hv1⟩ := ho.form; rw [show (la ++ [x]).length = la.length + 1 from by simp] at hv1; subst hv1; have HAT := hid hat; have HO := hid ho; have hf : Hid (Fr (fun k => va.ownBlock = some k) w w1) := ((Fr.refl NoB w).alloc _).mono (fun _ _ h => h.elim) |>.grown hg (fun k hk _ => hk); have d0 := hf.out.c (b := T) HTl.out (fun h => by have := (hrow.out T h).1; omega) c1; have d1 := hf.out.at (b := A) (fun h => by have := (hrow.out A h).1; omega) HA.out; have d2 : w1.cell? ⟨A, 0, none⟩ = some va := (by simp [World.cell?, d1]); have d3 : ∀ o, w1.frozen? ⟨A, o, none⟩ = false := (fun o => by simp [World.frozen?, d1]); have d4 := (Array.getElem?_eq_some_iff.1 d1).1; have D1 := hid d1; clear hg ho hat d1)
  have hs : Fr (fun k => k = A) w1 (w1.setCell ⟨A, 0, none⟩ (.slice a' (la.length + 1) c')) := Fr.setCell (M := fun k => k = A) (Fr.refl _ _) (p := ⟨A, 0, none⟩) (fun _ => rfl) _
  have hf2 : Fr (fun k => k = A ∨ va.ownBlock = some k) w (w1.setCell ⟨A, 0, none⟩ (.slice a' (la.length + 1) c')) := (hf.out.mono (fun _ _ h => .inr h)).trans' hs (fun _ _ h => .inl h)
  refine (find_any (fun k => A ≤ k) _ tl x _ (HTT.out.fr hf2 (fun k _ hk => ?_))).mono ?_
  · rcases hk with h | h
    · exact Nat.le_of_eq h.symm
    · have := (hrow.out k h).1; show A ≤ k; omega
  rintro e w2 ⟨rfl, rfl⟩
  go_wp2
  go_ret
  refine ⟨rfl, _, ?_, set_at D1.out 0 _, ?_, hf2⟩
  · exact HO.out.fr hs (fun k hk h => by have := (World.ownsRow.lt HO.out k hk).1; omega)
  · intro k hk
    rcases HAT.out with h | h
    · exact .inl (h.symm.trans hk)
    · rw [h] at hk; simp only [World.size_alloc, Option.some.injEq] at hk; exact .inr (by omega)

/-- What the law's function value needs and keeps: the list asked so far, the table, and that the blocks Pr are not its own. -/
structure AskI (w0 : World) (B A T : Nat) (tv : Value) (tl args : List Int) (Pr : Nat → Prop) (k : Nat) (w : World) : Prop where
  fr0 : Fr NoB w0 w
  tab : RdI (fun k => w0.heap.size ≤ k) w tv tl
  boxT : w.heap[T]? = some (.cells #[tv] 24 (0, 0))
  asked : ∃ va, OwnI B w va (args.take k) ∧ w.heap[A]? = some (.cells #[va] 24 (0, 0)) ∧ ∀ b, va.ownBlock = some b → ¬ Pr b
  prA : ¬ Pr A
  prT : ¬ Pr T
  pr : ∀ b, Pr b → w0.heap.size ≤ b ∧ b < w.heap.size
  size : B ≤ w.heap.size

theorem askOk (w0 : World) (B A T : Nat) (tv : Value) (tl args : List Int) (h1 : w0.heap.size ≤ A) (h2 : A < B) (_h3 : w0.heap.size ≤ T) (h4 : T < B) (h5 : A ≠ T) (hl : args.length ≤ 1000000) :
    FindOk 17 #[] #[.pointer (some ⟨A, 0, none⟩), .pointer (some ⟨T, 0, none⟩)] (AskI w0 B A T tv tl args) args (tfind tl) where
  enter := enters_of Tryd.func17 (by kernel_rfl) rfl
  stable := fun Pr k w w' h hf => by
    have hlow : ∀ b, b < w0.heap.size → ¬ Pr b := fun b hb hp => by have := (h.pr b hp).1; omega
    obtain ⟨va, o1, o2, o3⟩ := h.asked
    refine ⟨h.fr0.trans' hf (fun b hb hp => absurd hp (hlow b hb)), h.tab.fr hf (fun b _ hp => (h.pr b hp).1), hf.at h.prT h.boxT, ⟨va, o1.fr hf o3, hf.at h.prA o2, o3⟩, h.prA, h.prT, fun b hb => ⟨(h.pr b hb).1, Nat.lt_of_lt_of_le (h.pr b hb).2 hf.size⟩, Nat.le_trans h.size hf.size⟩
  call := fun Pr k w hk h => by
    obtain ⟨va, o1, o2, o3⟩ := h.asked
    refine (ask B A T va tv (args.take k) tl (args.getD k 0) w o2 h.boxT o1 h2 h4 h5 h.size (h.tab.weaken (fun b _ hb => Nat.le_trans h1 hb)) (by simp only [List.length_take]; omega)).mono ?_
    rintro e w' ⟨rfl, va', p1, p2, p3, p4⟩
    have hlow : ∀ b, b = A ∨ va.ownBlock = some b → w0.heap.size ≤ b := fun b hb => by
      rcases hb with rfl | hb
      · exact h1
      · have := (World.ownsRow.lt o1 b hb).1; omega
    have hno : ∀ b, b = A ∨ va.ownBlock = some b → ¬ Pr b := fun b hb => by
      rcases hb with rfl | hb
      · exact h.prA
      · exact o3 b hb
    refine ⟨rfl, ⟨h.fr0.trans' p4 (fun b hb hm => by have := hlow b hm; omega), h.tab.fr p4 (fun b _ hm => hlow b hm), p4.at (fun hm => ?_) h.boxT, ⟨va', ?_, p2, fun b hb => ?_⟩, h.prA, h.prT, fun b hb => ⟨(h.pr b hb).1, Nat.lt_of_lt_of_le (h.pr b hb).2 p4.size⟩, Nat.le_trans h.size p4.size⟩, p4.mono (fun b _ hb => hno b hb)⟩
    · rcases hm with hm | hm
      · exact h5 hm.symm
      · have := (World.ownsRow.lt o1 T hm).1; omega
    · have e1 : args.take (k + 1) = args.take k ++ [args[k]] := List.take_succ_eq_append_getElem hk
      rw [e1, ← getD_eq hk]; exact p1
    · rcases p3 b hb with hb | hb
      · exact o3 b hb
      · exact fun hp => by have := (h.pr b hp).2; omega

/-- What stays after the first call of Canon. -/
structure CanS (w : World) (n : Node) (v : Value) (B A T : Nat) (va tv : Value) (l : List Int) (W : World) : Prop where
  one : One w n v W
  boxA : W.heap[A]? = some (.cells #[va] 24 (0, 0))
  own : OwnI B W va n.args
  boxT : W.heap[T]? = some (.cells #[tv] 24 (0, 0))
  tbl : RdI (fun k => w.heap.size ≤ k) W tv l
theorem CanS.step {w : World} {n : Node} {v : Value} {B A T : Nat} {va tv : Value} {l : List Int} {W W' : World} (h : CanS w n v B A T va tv l W) (hf : Fr NoB W W') : CanS w n v B A T va tv l W' :=
  ⟨h.one.step hf, hf.at (fun h => h) h.boxA, h.own.fr hf (fun _ _ h => h), hf.at (fun h => h) h.boxT, h.tbl.fr hf (fun _ _ h => h.elim)⟩
theorem CanS.drew {w : World} {n : Node} {v : Value} {B A T : Nat} {va tv : Value} {l : List Int} {W : World} (h : CanS w n v B A T va tv l W) : CanS w n v B A T va tv l W.drew := h.step (Fr.refl _ _).drew
theorem _root_.Go.Proofs.YtkifedleajacpaaDoor.Held.drew {n : Node} {B b : Nat} {v : Value} {W : World} (h : Held n B b v W) : Held n B b v W.drew := h.step (Fr.refl _ _).drew
theorem one_of {w : World} {b : Nat} {x : Value} {e : TypeId} (h1 : w.heap[b]? = some (.cells #[x] e (0, 0))) : w.cell? ⟨b, 0, none⟩ = some x ∧ (∀ o, w.frozen? ⟨b, o, none⟩ = false) ∧ b < w.heap.size :=
  ⟨by simp [World.cell?, h1], fun o => by simp [World.frozen?, h1], (Array.getElem?_eq_some_iff.1 h1).1⟩

set_option maxHeartbeats 2000000 in
theorem walk (n : Node) (v t : Value) (l : List Int) (w : World) (hn : RdI (fun k => w.heap.size ≤ k) w v n.args) (hl : RdI (fun k => w.heap.size ≤ k) w t l) (ht : Tab w) (nn : n.name.size ≤ 9223372036854775807) :
    Calls Tryd.prog 4 #[nodeV n v, t] w fun e w' => e = .returned (.bool true) ∧ Fr NoB w w' := by
  have T0 := hid (One.start hn ht)
  have HN := hid hn
  have HL := hid hl
  have HT := hid ht
  obtain ⟨a1, cap, rfl⟩ := hn.form
  obtain ⟨a2, tcap, rfl⟩ := hl.form
  have F0 := hid ((Fr.refl NoB (w.alloc (.cells (nodeCells n (.slice a1 n.args.length cap)) 26))).alloc (.cells #[.slice a2 l.length tcap] 24))
  have H0 := hid (at_new' (w := w.alloc (.cells (nodeCells n (.slice a1 n.args.length cap)) 26)) (o := .cells #[.slice a2 l.length tcap] 24) (b := w.heap.size + 1) (by simp))
  clear hn hl ht
  unfold nodeV
  by_cases g1 : (n.args.length : Int) ≤ 200 ∧ (n.name.size / 100 : Int) ≤ 200
  · have d1 := hid (show decide ((n.args.length : Int) ≤ 200 ∧ (n.name.size / 100 : Int) ≤ 200) = true from decide_eq_true g1)
    have l1 := hid (show n.args.length ≤ 1000000 by omega)
    have s1 := hid (show ∀ m : Node, (nodeCmp m m == 0) = true from fun m => by rw [nodeCmp_zero.2 rfl]; rfl)
    clear g1
    go_enter Tryd.func4, Tryd.ntmps4
    go_wp2_with fail
    refine (few_any n _ 200 _ _ (T0.out.step F0.out).ra nn).mono ?_
    rintro e w1 ⟨rfl, hf1⟩
    rw [d1.out]
    have T1 := hid ((T0.out.step F0.out).step hf1)
    have H1 := hid (hf1.at (fun h => h) H0.out)
    clear hf1 T0 F0 H0
    obtain ⟨a0, a1', a2', a3', a4, af, al⟩ := five_of T1.out.boxA
    have hH1 := (Array.getElem?_eq_some_iff.1 H1.out).1
    go_wp2_with fail
    refine (canon_any (fun k => w.heap.size ≤ k) (fun b => w.heap.size ≤ b ∧ b < w1.heap.size ∧ b ≠ w.heap.size + 1) 17 #[] #[.pointer (some ⟨w1.heap.size, 0, none⟩), .pointer (some ⟨w.heap.size + 1, 0, none⟩)]
      (AskI w (w1.heap.size + 1) w1.heap.size (w.heap.size + 1) (.slice a2 l.length tcap) l n.args) (tfind l) n _ _ (T1.out.ra.fr ((Fr.refl NoB w1).alloc _) (fun _ _ h => h.elim)) (by have := l1.out; omega)
      (askOk w _ _ _ _ _ _ (by omega) (by omega) (by omega) (by omega) (by omega) l1.out) (fun w' hw' => ?_)).mono ?_
    · have hsz := hw'.size
      simp only [World.size_alloc] at hsz ⊢
      exact ⟨(T1.out.fr.alloc _).step hw', HL.out.fr ((T1.out.fr.alloc _).step hw') (fun _ _ h => h.elim), hw'.at (fun h => h) (at_old H1.out _), ⟨.slice none 0 0, OwnI.nil _ _, hw'.at (fun h => h) (at_new w1 _), fun b hb => by simp [Value.ownBlock] at hb⟩, fun h => by omega, fun h => by omega, fun b hb => by omega, by omega⟩
    rintro e w2 ⟨p1, q1, he, ho, ⟨Pr, hI, hKP, hOP⟩, hf⟩
    have he : e = .returned (.agg #[.int .i64 n.op, .int .i64 n.width, .int .u64 n.val, .string n.name, .slice p1 n.args.length q1]) := he
    subst he
    obtain ⟨va, o1, o2, o3⟩ := hI.asked
    rw [List.take_length] at o1
    obtain ⟨p2, q2, hva⟩ := o1.form
    subst hva
    have S2 := hid (show CanS w n (.slice a1 n.args.length cap) (w1.heap.size + 1) w1.heap.size (w.heap.size + 1) (.slice p2 n.args.length q2) (.slice a2 l.length tcap) l w2 from
      ⟨⟨hI.fr0, HN.out.fr hI.fr0 (fun _ _ h => h.elim), HT.out.fr hI.fr0 (fun h => h), hf.at (fun h => h ⟨Nat.le_refl _, by omega, by omega⟩) (at_old T1.out.boxA _)⟩, o2, o1, hI.boxT, hI.tab⟩)
    have O2 := hid (show OwnI (w1.heap.size + 1) w2 (.slice p1 n.args.length q1) (n.args.map (tfind l)) by simpa using ho)
    have X2 := hid (show Held { n with args := n.args.map (tfind l) } (w1.heap.size + 1) w2.heap.size (.slice p1 n.args.length q1) (w2.alloc (.cells #[.int .i64 n.op, .int .i64 n.width, .int .u64 n.val, .string n.name, .slice p1 n.args.length q1] 26)) from Held.start (n := { n with args := n.args.map (tfind l) }) O2.out)
    have S3 := hid (S2.out.step ((Fr.refl NoB w2).alloc (.cells #[.int .i64 n.op, .int .i64 n.width, .int .u64 n.val, .string n.name, .slice p1 n.args.length q1] 26)))
    clear hI hKP hOP hf ho o1 o2 o3 a0 a1' a2' a3' a4 af al
    obtain ⟨a0, a1', a2', a3', a4, af, al⟩ := five_of S2.out.one.boxA
    obtain ⟨b0, bf, bl⟩ := one_of S2.out.boxA
    go_wp2
    go_loopw [7] (fun i wr => ∃ k : Nat, k ≤ n.args.length ∧ i = .int .i64 k ∧ CanS w n (.slice a1 n.args.length cap) (w1.heap.size + 1) w1.heap.size (w.heap.size + 1) (.slice p2 n.args.length q2) (.slice a2 l.length tcap) l wr ∧
      Held { n with args := n.args.map (tfind l) } (w1.heap.size + 1) w2.heap.size (.slice p1 n.args.length q1) wr) (fun i _ => n.args.length - (intOf i).toNat)
    case atStart => exact ⟨0, Nat.zero_le _, rfl, S3.out, X2.out⟩
    case round =>
      obtain ⟨k, hk, rfl, hs, hx⟩ := hrel
      have S4 := hid hs
      have X4 := hid hx
      have hl1 := l1.out
      clear hs hx
      obtain ⟨a0, a1', a2', a3', a4, af, al⟩ := five_of S4.out.one.boxA
      obtain ⟨b0, bf, bl⟩ := one_of S4.out.boxA
      obtain ⟨c0, cf, cl⟩ := one_of S4.out.boxT
      obtain ⟨x0, x1', x2', x3', x4, xf, xl⟩ := five_of X4.out.box
      by_cases hlt : k < n.args.length
      · rcases OwnI.form' S4.out.own with ⟨_, h2⟩ | ⟨g, cap2, h1, hg1, hg2, hcap⟩
        · rw [h2] at hlt; simp at hlt
        simp only [Value.slice.injEq] at h1
        obtain ⟨rfl, h1, rfl⟩ := h1
        clear h1
        rcases S4.out.one.ra with ⟨_, h2⟩ | ⟨g', off, cap3, h1, _, _, hcap', hc⟩
        · rw [h2] at hlt; simp at hlt
        simp only [Value.slice.injEq] at h1
        obtain ⟨rfl, h1, rfl⟩ := h1
        clear h1
        have hck := OwnI.cell S4.out.own (i := k) hlt
        obtain ⟨x, HX, hcx⟩ := hc.get hlt
        rw [HX.out] at hck
        clear hc
        go_wp2
        refine region_still (by kernel_rfl) (by kernel_rfl) ?_
        repeat still_step
        refine wpStill_nil ?_
        go_wp2
        go_roundw
        case rel => exact ⟨k + 1, by omega, by go_num, S4.out.step (Fr.refl _ _).drew, X4.out.step (Fr.refl _ _).drew⟩
        case measure => simp [intOf]; omega
      · go_wp2
        go_region_held3 (fun w' => w'.cell? ⟨w.heap.size, 0, none⟩ = some (.int .i64 n.op) ∧ w'.cell? ⟨w.heap.size, 1, none⟩ = some (.int .i64 n.width) ∧ w'.cell? ⟨w.heap.size, 2, none⟩ = some (.int .u64 n.val) ∧ w'.cell? ⟨w.heap.size, 3, none⟩ = some (.string n.name) ∧ w'.cell? ⟨w.heap.size, 4, none⟩ = some (.slice a1 n.args.length cap) ∧ w'.cell? ⟨w2.heap.size, 0, none⟩ = some (.int .i64 n.op) ∧ w'.cell? ⟨w2.heap.size, 1, none⟩ = some (.int .i64 n.width) ∧ w'.cell? ⟨w2.heap.size, 2, none⟩ = some (.int .u64 n.val) ∧ w'.cell? ⟨w2.heap.size, 3, none⟩ = some (.string n.name) ∧ w'.cell? ⟨w2.heap.size, 4, none⟩ = some (.slice p1 n.args.length q1) ∧ w'.cell? ⟨w.heap.size + 1, 0, none⟩ = some (.slice a2 l.length tcap)) (go_keep)
          (first
            | (go_at_call 19; have X := refCanon_any _ _ n _ _ l _ S4.out.drew.one.ra S4.out.drew.tbl (by omega); (with_reducible refine X.mono ?_); clear X; rintro e w5 ⟨p3, q3, rfl, ho, hf⟩; have O5 := hid ho; clear ho; have S5 := hid (S4.out.drew.step hf); have X5 := hid (X4.out.drew.step hf); clear hf; obtain ⟨a0, a1', a2', a3', a4, af, al⟩ := five_of S5.out.one.boxA; obtain ⟨c0, cf, cl⟩ := one_of S5.out.boxT; obtain ⟨x0, x1', x2', x3', x4, xf, xl⟩ := five_of X5.out.box)
            | (go_at_call 16; have X := canonNil_any _ n _ _ S6.out.one.ra (by omega); (with_reducible refine X.mono ?_); clear X; rintro e w7 ⟨p4, q4, rfl, ho, hf⟩; have O7 := hid ho; clear ho; have S7 := hid (S6.out.step hf); have X7 := hid (X6.out.step hf); clear hf; obtain ⟨a0, a1', a2', a3', a4, af, al⟩ := five_of S7.out.one.boxA; obtain ⟨c0, cf, cl⟩ := one_of S7.out.boxT; obtain ⟨x0, x1', x2', x3', x4, xf, xl⟩ := five_of X7.out.box)
            | (go_at_call 14; have X := refSame_any NoB n n _ _ _ (O7.out.rd (fun _ _ h => h)) (S7.out.one.ra.weaken (fun _ _ h => h.elim)) hl1 hl1; (with_reducible refine X.mono ?_); clear X; rintro e w8 ⟨rfl, hf⟩; rw [s1.out]; have S8 := hid (S7.out.step hf); have X8 := hid (X7.out.step hf); clear hf; obtain ⟨a0, a1', a2', a3', a4, af, al⟩ := five_of S8.out.one.boxA; obtain ⟨c0, cf, cl⟩ := one_of S8.out.boxT; obtain ⟨x0, x1', x2', x3', x4, xf, xl⟩ := five_of X8.out.box)
            | (go_at_call 14; have X := refSame_any NoB { n with args := n.args.map (tfind l) } { n with args := n.args.map (tfind l) } _ _ _ (X5.out.own.rd (fun _ _ h => h)) (O5.out.rd (fun _ _ h => h)) (by simpa using hl1) (by simpa using hl1); (with_reducible refine X.mono ?_); clear X; rintro e w6 ⟨rfl, hf⟩; rw [s1.out]; have S6 := hid (S5.out.step hf); have X6 := hid (X5.out.step hf); clear hf; obtain ⟨a0, a1', a2', a3', a4, af, al⟩ := five_of S6.out.one.boxA; obtain ⟨c0, cf, cl⟩ := one_of S6.out.boxT; obtain ⟨x0, x1', x2', x3', x4, xf, xl⟩ := five_of X6.out.box)
            | (go_at_call 12; have X := live_any _ S8.out.one.tab; (with_reducible refine X.mono ?_); clear X; rintro e w9 ⟨rfl, hf⟩; have S9 := hid (S8.out.step hf); have X9 := hid (X8.out.step hf); clear hf; obtain ⟨a0, a1', a2', a3', a4, af, al⟩ := five_of S9.out.one.boxA; obtain ⟨c0, cf, cl⟩ := one_of S9.out.boxT; obtain ⟨x0, x1', x2', x3', x4, xf, xl⟩ := five_of X9.out.box))
        go_wp2
        go_ret
        exact ⟨rfl, S9.out.one.fr⟩
  · have d1 := hid (show decide ((n.args.length : Int) ≤ 200 ∧ (n.name.size / 100 : Int) ≤ 200) = false from decide_eq_false g1)
    clear g1
    go_enter Tryd.func4, Tryd.ntmps4
    go_wp2_with fail
    refine (few_any n _ 200 _ _ (T0.out.step F0.out).ra nn).mono ?_
    rintro e w1 ⟨rfl, hf1⟩
    rw [d1.out]
    have T1 := hid ((T0.out.step F0.out).step hf1)
    clear hf1 T0
    go_wp2_with fail
    refine (live_any _ T1.out.tab).mono ?_
    rintro e w3 ⟨rfl, hf3⟩
    go_wp2
    go_ret
    exact ⟨rfl, T1.out.fr.step hf3⟩

-- ROW
/-- What the walk gives, for every argument and every world that holds the tables. -/
theorem contract (H : Type) (enc : TypeId × Value → H) (W : World) (base : Nat) (args : Array Value) (ds gs : List (DataW H)) (before : List MemPlace)
    (hval : ∀ (j : Nat) t v, Tryd.f4.params[j]? = some t → args[j]? = some v → Value.okWide Tryd.prog W .any base t v)
    (hW : DataW.Whole enc Tryd.prog Tryd.f4.params.toList Rows.hashconsCanonsSpec.vars false W args.toList ds gs before) (hL : laidMetH Tryd.prog Rows.hashconsCanonsRow.laid W) :
    Calls Tryd.prog 4 args W fun e W' => ∃ v, e = .returned v ∧ Rows.hashconsCanonsSpec.post enc Tryd.prog Tryd.f4 false true false false W args v W' := by
  have hW' := hW
  obtain ⟨p, q, hA0, hV, rfl, hfz, hnd⟩ := hW
  have hA : DataW.TrodAll enc Tryd.prog W 0 (fun _ => true) true Tryd.f4.params.toList args.toList ds p := hA0
  rw [Tryd.params4] at hA hval
  obtain ⟨v0, vs0, d0, ds0, p0, q0, hargs, rfl, rfl, h0, r0⟩ := trodAll_cons hA
  obtain ⟨v1, vs1, d1, ds1, p1, q1, rfl, rfl, rfl, h1, r1⟩ := trodAll_cons r0
  obtain ⟨rfl, rfl, rfl⟩ := trodAll_nil r1
  obtain rfl : args = #[v0, v1] := by cases args; simp_all
  obtain ⟨rfl, rfl⟩ := trodVars_none hV
  have lt0 : ∀ x ∈ p0, x.block < W.heap.size := by obtain ⟨m, hm⟩ := h0; exact DataW.trod_lt m _ _ _ hm
  have lt1 : ∀ x ∈ p1, x.block < W.heap.size := by obtain ⟨m, hm⟩ := h1; exact DataW.trod_lt m _ _ _ hm
  have k0 := h0
  have hv0 := hval 0 26 v0 rfl rfl
  have k1 := h1
  have hv1 := hval 1 24 v1 rfl rfl
  obtain ⟨n0, s0, rfl, r0n, ok0, _, nm0⟩ := open_node hv0 h0 (fun k => W.heap.size ≤ k) (fun k hk => by omega)
  obtain ⟨m1, hm1⟩ := h1
  obtain ⟨a2, n2, c2, rfl⟩ := okWide_slice Tryd.underlying24 hv1
  obtain ⟨l1, rl1, _, _⟩ := rdI_of_trod hm1 (fun k => W.heap.size ≤ k) (fun k hk => by omega)
  clear hA0
  have htab := tab_of_laid hL
  refine (walk n0 s0 _ l1 W r0n rl1 htab nm0).mono fun e W' ⟨he, hf⟩ => ?_
  subst he
  have bel := hf.below
  exact ⟨_, rfl, _, _, _, [], _, [], hW', trodAll_mk1 (shut_bool Tryd.underlying4 _), (trodAll_cons_mk (Below.trod laidOut (by kernel_rfl) (of_decide_eq_true (by kernel_rfl)) k0 bel lt0) (trodAll_cons_mk (Below.trod laidOut (by kernel_rfl) (of_decide_eq_true (by kernel_rfl)) k1 bel lt1) trodAll_mk0)), rfl, bel.frame _, fun h => by cases h⟩

theorem laid_met (os : Os) : laidMet Tryd.prog Rows.hashconsCanonsRow.laid ((laidWorld os).forCall (fun _ _ => 0) ⟨#[], #[.agg #[.int .i64 0, .int .i64 0, .int .u64 0, .string ⟨#[]⟩, .slice none 0 0], .slice none 0 0], []⟩).memory :=
  laidMet_of_run' 8 (by kernel_rfl) (by kernel_rfl)
theorem reads (os : Os) {H : Type} (enc : TypeId × Value → H) : ∃ places, DataW.whole enc Tryd.prog ((laidWorld os).forCall (fun _ _ => 0) ⟨#[], #[.agg #[.int .i64 0, .int .i64 0, .int .u64 0, .string ⟨#[]⟩, .slice none 0 0], .slice none 0 0], []⟩).memory Tryd.f4.params.toList Rows.hashconsCanonsSpec.vars false #[.agg #[.int .i64 0, .int .i64 0, .int .u64 0, .string ⟨#[]⟩, .slice none 0 0], .slice none 0 0].toList 8 = some ([.agg [.lit (.int .i64 0), .lit (.int .i64 0), .lit (.int .u64 0), .lit (.string []), .nil], .nil], [], places) :=
  ⟨[], by kernel_rfl⟩

set_option maxRecDepth 100000 in
theorem lifted (os : Os) (started : os.Started) (H : Type) (enc : TypeId × Value → H) (F : Stop.Interp) :
    ReturnsInHanded {} Tryd.checked os 4 .any ((OpenSpec.ofChange Rows.hashconsCanonsSpec).preRow enc Tryd.prog Tryd.f4 Rows.hashconsCanonsRow.domain false Rows.hashconsCanonsRow.laid) (((OpenSpec.ofChange Rows.hashconsCanonsSpec).at F).post enc Tryd.prog Tryd.f4 false true false false) := by
  obtain ⟨places, hx⟩ := reads os enc
  refine returnsInHanded_of_row (C := Tryd.checked) (s := OpenSpec.ofChange Rows.hashconsCanonsSpec) own started (by kernel_rfl) Tryd.func4
    (witness_row_at (enc := enc) (C := Tryd.checked) false (laidWorld os) #[.agg #[.int .i64 0, .int .i64 0, .int .u64 0, .string ⟨#[]⟩, .slice none 0 0], .slice none 0 0] rfl (by kernel_rfl) (by kernel_rfl) (by kernel_rfl)
      (OpenSpec.preRow_of_cond 8 hx (by kernel_rfl) (fun k hk => by cases hk) (by kernel_rfl) (laid_met os))) ?_
  intro W base args ds gs before hval hW _ hcond _ hL _ _
  exact contract H enc W base args ds gs before hval hW hL

theorem said : Rows.HashconsCanonsSaid :=
  OpenClaim.holds_of_cond 4 Tryd.f4 rfl rfl rfl rfl rfl rfl rfl ⟨rfl, rfl, rfl, rfl, rfl⟩ rfl rfl rfl rfl rfl (by kernel_rfl) Tryd.func4 (by kernel_rfl)
    (of_decide_eq_true (by kernel_rfl)) (by unfold Func.isWrapper; first | (rw [if_pos (by decide +kernel)]; kernel_rfl) | (rw [if_neg (by decide +kernel)]; exact ⟨rfl, rfl⟩))
    (fun os started H enc _ F => by rw [OpenClaim.pre_eq_preRow]; exact lifted os started H enc F)

theorem plain (f : FuncId) (fn : Func) (hf : Tryd.pinned.checked.prog.funcNamed "saturate/saturatelaw16.HashconsCanons" = some f) (hfn : Tryd.pinned.checked.prog.funcs[f]? = some fn) :
    false = Tryd.pinned.checked.prog.looks [] ∧ ∀ (j : Nat) t, fn.params[j]? = some t → Tryd.pinned.checked.prog.wantsStandIn t = false := by
  obtain rfl : f = 4 := Option.some.inj ((show Tryd.prog.funcNamed "saturate/saturatelaw16.HashconsCanons" = some 4 by kernel_rfl).symm.trans hf) |>.symm
  obtain rfl : fn = Tryd.f4 := (Option.some.inj (Tryd.func4.symm.trans hfn)).symm
  refine ⟨by kernel_rfl, fun j t ht => ?_⟩
  rw [Tryd.params4] at ht
  have hm : t ∈ [26, 24] := by have := Array.mem_of_getElem? ht; simpa using this
  have q0 : Tryd.prog.wantsStandIn 26 = false := by kernel_rfl
  have q1 : Tryd.prog.wantsStandIn 24 = false := by kernel_rfl
  simp only [List.mem_cons, List.not_mem_nil, or_false] at hm
  rcases hm with rfl | rfl
  · exact q0
  · exact q1

theorem card : Rows.HashconsCanonsCardSaid :=
  Claim7.holds_tied_plain_at .later [] _ _ _ _ said (fun _ h => by cases h) (by kernel_rfl) (fun _ h => by cases h) hashconsCanons_row_tie rfl ⟨rfl, rfl⟩ (by kernel_rfl) rfl plain (by kernel_rfl)
#print axioms card

end Go.Proofs.YtkifedleajacpaaDoor.LawCanons
