/- HashconsOrders: for every three nodes hashcons.Compare is antisymmetric, transitive and 0 exactly if Same holds (where the nodes are too large for the law's guard it checks the chapter's example alone). Condition: the three listed tables of Go's library hold what the program's text lays in them (the card ties this). -/
import Derived.Test.YtkifedleajacpaaDoorCards
import Derived.Test.YtkifedleajacpaaDoorTie
import Derived.Test.YtkifedleajacpaaDoorOpen
import Derived.Test.YtkifedleajacpaaDoorTwo
import Derived.SevenTiedAt
namespace Go.Proofs.YtkifedleajacpaaDoor.LawOrders
open Go.ChangeShapes Go.WideShapes Go.ChangeAt Go.RowKit
set_option maxRecDepth 100000

theorem seven (a b c : Node) : (nodeCmp a b = 1 ∧ nodeCmp b a = -1) ∨ (nodeCmp a b = -1 ∧ nodeCmp b a = 1 ∧ nodeCmp b c = 1) ∨ (nodeCmp a b = -1 ∧ nodeCmp b a = 1 ∧ nodeCmp b c = -1 ∧ nodeCmp a c = -1) ∨ (nodeCmp a b = -1 ∧ nodeCmp b a = 1 ∧ nodeCmp b c = 0 ∧ nodeCmp a c = -1) ∨
    (nodeCmp a b = 0 ∧ nodeCmp b a = 0 ∧ nodeCmp b c = 1) ∨ (nodeCmp a b = 0 ∧ nodeCmp b a = 0 ∧ nodeCmp b c = -1 ∧ nodeCmp a c = -1) ∨ (nodeCmp a b = 0 ∧ nodeCmp b a = 0 ∧ nodeCmp b c = 0 ∧ nodeCmp a c = 0) := by
  rw [nodeCmp_neg a b]
  have h := nodeCmp_tr a b c
  have z : nodeCmp a b = 0 → nodeCmp b c = 0 → nodeCmp a c = 0 := fun e1 e2 => nodeCmp_zero.2 ((nodeCmp_zero.1 e1).trans (nodeCmp_zero.1 e2))
  unfold LeT at h
  rcases nodeCmp_cases a b with e | e | e <;> rcases nodeCmp_cases b c with f | f | f <;> rcases nodeCmp_cases a c with g | g | g <;> rw [e, f, g] at h z <;> rw [e, f, g] <;> first | omega | simp_all

set_option maxHeartbeats 4000000 in
theorem walk (a b c : Node) (v u t : Value) (w : World) (ha : RdI (fun k => w.heap.size ≤ k) w v a.args) (hb : RdI (fun k => w.heap.size ≤ k) w u b.args) (hc : RdI (fun k => w.heap.size ≤ k) w t c.args) (ht : Tab w) (na : a.name.size ≤ 9223372036854775807) (nb : b.name.size ≤ 9223372036854775807) (nc : c.name.size ≤ 9223372036854775807) :
    Calls Tryd.prog 7 #[nodeV a v, nodeV b u, nodeV c t] w fun e w' => e = .returned (.bool true) ∧ Fr NoB w w' := by
  have T0 := hid (Three.start ha hb hc ht)
  obtain ⟨a1, cap, rfl⟩ := ha.form
  obtain ⟨a2, cap', rfl⟩ := hb.form
  obtain ⟨a3, cap'', rfl⟩ := hc.form
  clear ha hb hc ht
  unfold nodeV
  by_cases g1 : (a.args.length : Int) ≤ 200 ∧ (a.name.size / 100 : Int) ≤ 200
  · have d1 := hid (show decide ((a.args.length : Int) ≤ 200 ∧ (a.name.size / 100 : Int) ≤ 200) = true from decide_eq_true g1)
    by_cases g2 : (b.args.length : Int) ≤ 200 ∧ (b.name.size / 100 : Int) ≤ 200
    · have d2 := hid (show decide ((b.args.length : Int) ≤ 200 ∧ (b.name.size / 100 : Int) ≤ 200) = true from decide_eq_true g2)
      by_cases g3 : (c.args.length : Int) ≤ 200 ∧ (c.name.size / 100 : Int) ≤ 200
      · have d3 := hid (show decide ((c.args.length : Int) ≤ 200 ∧ (c.name.size / 100 : Int) ≤ 200) = true from decide_eq_true g3)
        have l1 := hid (show a.args.length ≤ 1000000 by omega)
        have l2 := hid (show b.args.length ≤ 1000000 by omega)
        have l3 := hid (show c.args.length ≤ 1000000 by omega)
        clear g1 g2 g3
        have O3 := hid (nodeCmp_zero.2 (rfl : a = a))
        go_enter Tryd.func7, Tryd.ntmps7
        obtain ⟨a0, a1', a2', a3', a4, af, al⟩ := five_of T0.out.boxA
        obtain ⟨b0, b1, b2, b3, b4, bf, bl⟩ := five_of T0.out.boxB
        obtain ⟨c0, c1, c2, c3, c4, cf, cl⟩ := five_of T0.out.boxC
        go_wp2_with fail
        refine (few_any a _ 200 _ _ T0.out.ra na).mono ?_
        rintro e w1 ⟨rfl, hf⟩
        rw [d1.out]
        have T1 := hid (T0.out.step hf)
        clear hf T0
        clear a0 a1' a2' a3' a4 af al b0 b1 b2 b3 b4 bf bl c0 c1 c2 c3 c4 cf cl
        obtain ⟨a0, a1', a2', a3', a4, af, al⟩ := five_of T1.out.boxA
        obtain ⟨b0, b1, b2, b3, b4, bf, bl⟩ := five_of T1.out.boxB
        obtain ⟨c0, c1, c2, c3, c4, cf, cl⟩ := five_of T1.out.boxC
        go_wp2_with fail
        refine (few_any b _ 200 _ _ T1.out.rb nb).mono ?_
        rintro e w2 ⟨rfl, hf⟩
        rw [d2.out]
        have T2 := hid (T1.out.step hf)
        clear hf T1
        clear a0 a1' a2' a3' a4 af al b0 b1 b2 b3 b4 bf bl c0 c1 c2 c3 c4 cf cl
        obtain ⟨a0, a1', a2', a3', a4, af, al⟩ := five_of T2.out.boxA
        obtain ⟨b0, b1, b2, b3, b4, bf, bl⟩ := five_of T2.out.boxB
        obtain ⟨c0, c1, c2, c3, c4, cf, cl⟩ := five_of T2.out.boxC
        go_wp2_with fail
        refine (few_any c _ 200 _ _ T2.out.rc nc).mono ?_
        rintro e w3 ⟨rfl, hf⟩
        rw [d3.out]
        have T3 := hid (T2.out.step hf)
        clear hf T2
        clear a0 a1' a2' a3' a4 af al b0 b1 b2 b3 b4 bf bl c0 c1 c2 c3 c4 cf cl
        rcases seven a b c with ⟨e1, e2⟩ | ⟨e1, e2, e3⟩ | ⟨e1, e2, e3, e4⟩ | ⟨e1, e2, e3, e4⟩ | ⟨e1, e2, e3⟩ | ⟨e1, e2, e3, e4⟩ | ⟨e1, e2, e3, e4⟩
        · have s1 := hid (show (nodeCmp a b == 0) = false by rw [e1]; rfl)
          have f1 := hid e1
          have f2 := hid e2
          clear e1 e2
          obtain ⟨a0, a1', a2', a3', a4, af, al⟩ := five_of T3.out.boxA
          obtain ⟨b0, b1, b2, b3, b4, bf, bl⟩ := five_of T3.out.boxB
          obtain ⟨c0, c1, c2, c3, c4, cf, cl⟩ := five_of T3.out.boxC
          go_wp2_with fail
          go_at_call 21
          refine (hcCompare_any _ a b _ _ _ T3.out.ra T3.out.rb l1.out l2.out).mono ?_
          rintro e w4 ⟨rfl, hf⟩
          have T4 := hid (T3.out.step hf)
          clear hf
          clear a0 a1' a2' a3' a4 af al b0 b1 b2 b3 b4 bf bl c0 c1 c2 c3 c4 cf cl
          rw [f1.out]
          obtain ⟨a0, a1', a2', a3', a4, af, al⟩ := five_of T4.out.boxA
          obtain ⟨b0, b1, b2, b3, b4, bf, bl⟩ := five_of T4.out.boxB
          obtain ⟨c0, c1, c2, c3, c4, cf, cl⟩ := five_of T4.out.boxC
          go_wp2_with fail
          go_at_call 21
          refine (hcCompare_any _ b c _ _ _ T4.out.rb T4.out.rc l2.out l3.out).mono ?_
          rintro e w5 ⟨rfl, hf⟩
          have T5 := hid (T4.out.step hf)
          clear hf
          clear a0 a1' a2' a3' a4 af al b0 b1 b2 b3 b4 bf bl c0 c1 c2 c3 c4 cf cl
          generalize nodeCmp b c = yy
          obtain ⟨a0, a1', a2', a3', a4, af, al⟩ := five_of T5.out.boxA
          obtain ⟨b0, b1, b2, b3, b4, bf, bl⟩ := five_of T5.out.boxB
          obtain ⟨c0, c1, c2, c3, c4, cf, cl⟩ := five_of T5.out.boxC
          go_wp2_with fail
          go_at_call 21
          refine (hcCompare_any _ a c _ _ _ T5.out.ra T5.out.rc l1.out l3.out).mono ?_
          rintro e w6 ⟨rfl, hf⟩
          have T6 := hid (T5.out.step hf)
          clear hf
          clear a0 a1' a2' a3' a4 af al b0 b1 b2 b3 b4 bf bl c0 c1 c2 c3 c4 cf cl
          generalize nodeCmp a c = zz
          obtain ⟨a0, a1', a2', a3', a4, af, al⟩ := five_of T6.out.boxA
          obtain ⟨b0, b1, b2, b3, b4, bf, bl⟩ := five_of T6.out.boxB
          obtain ⟨c0, c1, c2, c3, c4, cf, cl⟩ := five_of T6.out.boxC
          go_wp2_with fail
          go_at_call 21
          refine (hcCompare_any _ b a _ _ _ T6.out.rb T6.out.ra l2.out l1.out).mono ?_
          rintro e w7 ⟨rfl, hf⟩
          have T7 := hid (T6.out.step hf)
          clear hf
          clear a0 a1' a2' a3' a4 af al b0 b1 b2 b3 b4 bf bl c0 c1 c2 c3 c4 cf cl
          rw [f2.out]
          obtain ⟨a0, a1', a2', a3', a4, af, al⟩ := five_of T7.out.boxA
          obtain ⟨b0, b1, b2, b3, b4, bf, bl⟩ := five_of T7.out.boxB
          obtain ⟨c0, c1, c2, c3, c4, cf, cl⟩ := five_of T7.out.boxC
          go_wp2_with fail
          go_at_call 23
          refine (hcSame_any _ a b _ _ _ T7.out.ra T7.out.rb l1.out l2.out).mono ?_
          rintro e w8 ⟨rfl, hf⟩
          have T8 := hid (T7.out.step hf)
          clear hf
          clear a0 a1' a2' a3' a4 af al b0 b1 b2 b3 b4 bf bl c0 c1 c2 c3 c4 cf cl
          rw [s1.out]
          obtain ⟨a0, a1', a2', a3', a4, af, al⟩ := five_of T8.out.boxA
          obtain ⟨b0, b1, b2, b3, b4, bf, bl⟩ := five_of T8.out.boxB
          obtain ⟨c0, c1, c2, c3, c4, cf, cl⟩ := five_of T8.out.boxC
          go_wp2_with fail
          go_at_call 21
          refine (hcCompare_any _ a a _ _ _ T8.out.ra T8.out.ra l1.out l1.out).mono ?_
          rintro e w9 ⟨rfl, hf⟩
          have T9 := hid (T8.out.step hf)
          clear hf
          clear a0 a1' a2' a3' a4 af al b0 b1 b2 b3 b4 bf bl c0 c1 c2 c3 c4 cf cl
          rw [O3.out]
          go_wp2_with fail
          refine (live_any _ T9.out.tab).mono ?_
          rintro e w9 ⟨rfl, hf⟩
          go_wp2
          go_ret
          exact ⟨rfl, T9.out.fr.step hf⟩
        · have s1 := hid (show (nodeCmp a b == 0) = false by rw [e1]; rfl)
          have f1 := hid e1
          have f2 := hid e2
          have f3 := hid e3
          clear e1 e2 e3
          obtain ⟨a0, a1', a2', a3', a4, af, al⟩ := five_of T3.out.boxA
          obtain ⟨b0, b1, b2, b3, b4, bf, bl⟩ := five_of T3.out.boxB
          obtain ⟨c0, c1, c2, c3, c4, cf, cl⟩ := five_of T3.out.boxC
          go_wp2_with fail
          go_at_call 21
          refine (hcCompare_any _ a b _ _ _ T3.out.ra T3.out.rb l1.out l2.out).mono ?_
          rintro e w4 ⟨rfl, hf⟩
          have T4 := hid (T3.out.step hf)
          clear hf
          clear a0 a1' a2' a3' a4 af al b0 b1 b2 b3 b4 bf bl c0 c1 c2 c3 c4 cf cl
          rw [f1.out]
          obtain ⟨a0, a1', a2', a3', a4, af, al⟩ := five_of T4.out.boxA
          obtain ⟨b0, b1, b2, b3, b4, bf, bl⟩ := five_of T4.out.boxB
          obtain ⟨c0, c1, c2, c3, c4, cf, cl⟩ := five_of T4.out.boxC
          go_wp2_with fail
          go_at_call 21
          refine (hcCompare_any _ b c _ _ _ T4.out.rb T4.out.rc l2.out l3.out).mono ?_
          rintro e w5 ⟨rfl, hf⟩
          have T5 := hid (T4.out.step hf)
          clear hf
          clear a0 a1' a2' a3' a4 af al b0 b1 b2 b3 b4 bf bl c0 c1 c2 c3 c4 cf cl
          rw [f3.out]
          obtain ⟨a0, a1', a2', a3', a4, af, al⟩ := five_of T5.out.boxA
          obtain ⟨b0, b1, b2, b3, b4, bf, bl⟩ := five_of T5.out.boxB
          obtain ⟨c0, c1, c2, c3, c4, cf, cl⟩ := five_of T5.out.boxC
          go_wp2_with fail
          go_at_call 21
          refine (hcCompare_any _ a c _ _ _ T5.out.ra T5.out.rc l1.out l3.out).mono ?_
          rintro e w6 ⟨rfl, hf⟩
          have T6 := hid (T5.out.step hf)
          clear hf
          clear a0 a1' a2' a3' a4 af al b0 b1 b2 b3 b4 bf bl c0 c1 c2 c3 c4 cf cl
          generalize nodeCmp a c = zz
          obtain ⟨a0, a1', a2', a3', a4, af, al⟩ := five_of T6.out.boxA
          obtain ⟨b0, b1, b2, b3, b4, bf, bl⟩ := five_of T6.out.boxB
          obtain ⟨c0, c1, c2, c3, c4, cf, cl⟩ := five_of T6.out.boxC
          go_wp2_with fail
          go_at_call 21
          refine (hcCompare_any _ b a _ _ _ T6.out.rb T6.out.ra l2.out l1.out).mono ?_
          rintro e w7 ⟨rfl, hf⟩
          have T7 := hid (T6.out.step hf)
          clear hf
          clear a0 a1' a2' a3' a4 af al b0 b1 b2 b3 b4 bf bl c0 c1 c2 c3 c4 cf cl
          rw [f2.out]
          obtain ⟨a0, a1', a2', a3', a4, af, al⟩ := five_of T7.out.boxA
          obtain ⟨b0, b1, b2, b3, b4, bf, bl⟩ := five_of T7.out.boxB
          obtain ⟨c0, c1, c2, c3, c4, cf, cl⟩ := five_of T7.out.boxC
          go_wp2_with fail
          go_at_call 23
          refine (hcSame_any _ a b _ _ _ T7.out.ra T7.out.rb l1.out l2.out).mono ?_
          rintro e w8 ⟨rfl, hf⟩
          have T8 := hid (T7.out.step hf)
          clear hf
          clear a0 a1' a2' a3' a4 af al b0 b1 b2 b3 b4 bf bl c0 c1 c2 c3 c4 cf cl
          rw [s1.out]
          obtain ⟨a0, a1', a2', a3', a4, af, al⟩ := five_of T8.out.boxA
          obtain ⟨b0, b1, b2, b3, b4, bf, bl⟩ := five_of T8.out.boxB
          obtain ⟨c0, c1, c2, c3, c4, cf, cl⟩ := five_of T8.out.boxC
          go_wp2_with fail
          go_at_call 21
          refine (hcCompare_any _ a a _ _ _ T8.out.ra T8.out.ra l1.out l1.out).mono ?_
          rintro e w9 ⟨rfl, hf⟩
          have T9 := hid (T8.out.step hf)
          clear hf
          clear a0 a1' a2' a3' a4 af al b0 b1 b2 b3 b4 bf bl c0 c1 c2 c3 c4 cf cl
          rw [O3.out]
          go_wp2_with fail
          refine (live_any _ T9.out.tab).mono ?_
          rintro e w9 ⟨rfl, hf⟩
          go_wp2
          go_ret
          exact ⟨rfl, T9.out.fr.step hf⟩
        · have s1 := hid (show (nodeCmp a b == 0) = false by rw [e1]; rfl)
          have f1 := hid e1
          have f2 := hid e2
          have f3 := hid e3
          have f4 := hid e4
          clear e1 e2 e3 e4
          obtain ⟨a0, a1', a2', a3', a4, af, al⟩ := five_of T3.out.boxA
          obtain ⟨b0, b1, b2, b3, b4, bf, bl⟩ := five_of T3.out.boxB
          obtain ⟨c0, c1, c2, c3, c4, cf, cl⟩ := five_of T3.out.boxC
          go_wp2_with fail
          go_at_call 21
          refine (hcCompare_any _ a b _ _ _ T3.out.ra T3.out.rb l1.out l2.out).mono ?_
          rintro e w4 ⟨rfl, hf⟩
          have T4 := hid (T3.out.step hf)
          clear hf
          clear a0 a1' a2' a3' a4 af al b0 b1 b2 b3 b4 bf bl c0 c1 c2 c3 c4 cf cl
          rw [f1.out]
          obtain ⟨a0, a1', a2', a3', a4, af, al⟩ := five_of T4.out.boxA
          obtain ⟨b0, b1, b2, b3, b4, bf, bl⟩ := five_of T4.out.boxB
          obtain ⟨c0, c1, c2, c3, c4, cf, cl⟩ := five_of T4.out.boxC
          go_wp2_with fail
          go_at_call 21
          refine (hcCompare_any _ b c _ _ _ T4.out.rb T4.out.rc l2.out l3.out).mono ?_
          rintro e w5 ⟨rfl, hf⟩
          have T5 := hid (T4.out.step hf)
          clear hf
          clear a0 a1' a2' a3' a4 af al b0 b1 b2 b3 b4 bf bl c0 c1 c2 c3 c4 cf cl
          rw [f3.out]
          obtain ⟨a0, a1', a2', a3', a4, af, al⟩ := five_of T5.out.boxA
          obtain ⟨b0, b1, b2, b3, b4, bf, bl⟩ := five_of T5.out.boxB
          obtain ⟨c0, c1, c2, c3, c4, cf, cl⟩ := five_of T5.out.boxC
          go_wp2_with fail
          go_at_call 21
          refine (hcCompare_any _ a c _ _ _ T5.out.ra T5.out.rc l1.out l3.out).mono ?_
          rintro e w6 ⟨rfl, hf⟩
          have T6 := hid (T5.out.step hf)
          clear hf
          clear a0 a1' a2' a3' a4 af al b0 b1 b2 b3 b4 bf bl c0 c1 c2 c3 c4 cf cl
          rw [f4.out]
          obtain ⟨a0, a1', a2', a3', a4, af, al⟩ := five_of T6.out.boxA
          obtain ⟨b0, b1, b2, b3, b4, bf, bl⟩ := five_of T6.out.boxB
          obtain ⟨c0, c1, c2, c3, c4, cf, cl⟩ := five_of T6.out.boxC
          go_wp2_with fail
          go_at_call 21
          refine (hcCompare_any _ b a _ _ _ T6.out.rb T6.out.ra l2.out l1.out).mono ?_
          rintro e w7 ⟨rfl, hf⟩
          have T7 := hid (T6.out.step hf)
          clear hf
          clear a0 a1' a2' a3' a4 af al b0 b1 b2 b3 b4 bf bl c0 c1 c2 c3 c4 cf cl
          rw [f2.out]
          obtain ⟨a0, a1', a2', a3', a4, af, al⟩ := five_of T7.out.boxA
          obtain ⟨b0, b1, b2, b3, b4, bf, bl⟩ := five_of T7.out.boxB
          obtain ⟨c0, c1, c2, c3, c4, cf, cl⟩ := five_of T7.out.boxC
          go_wp2_with fail
          go_at_call 23
          refine (hcSame_any _ a b _ _ _ T7.out.ra T7.out.rb l1.out l2.out).mono ?_
          rintro e w8 ⟨rfl, hf⟩
          have T8 := hid (T7.out.step hf)
          clear hf
          clear a0 a1' a2' a3' a4 af al b0 b1 b2 b3 b4 bf bl c0 c1 c2 c3 c4 cf cl
          rw [s1.out]
          obtain ⟨a0, a1', a2', a3', a4, af, al⟩ := five_of T8.out.boxA
          obtain ⟨b0, b1, b2, b3, b4, bf, bl⟩ := five_of T8.out.boxB
          obtain ⟨c0, c1, c2, c3, c4, cf, cl⟩ := five_of T8.out.boxC
          go_wp2_with fail
          go_at_call 21
          refine (hcCompare_any _ a a _ _ _ T8.out.ra T8.out.ra l1.out l1.out).mono ?_
          rintro e w9 ⟨rfl, hf⟩
          have T9 := hid (T8.out.step hf)
          clear hf
          clear a0 a1' a2' a3' a4 af al b0 b1 b2 b3 b4 bf bl c0 c1 c2 c3 c4 cf cl
          rw [O3.out]
          go_wp2_with fail
          refine (live_any _ T9.out.tab).mono ?_
          rintro e w9 ⟨rfl, hf⟩
          go_wp2
          go_ret
          exact ⟨rfl, T9.out.fr.step hf⟩
        · have s1 := hid (show (nodeCmp a b == 0) = false by rw [e1]; rfl)
          have f1 := hid e1
          have f2 := hid e2
          have f3 := hid e3
          have f4 := hid e4
          clear e1 e2 e3 e4
          obtain ⟨a0, a1', a2', a3', a4, af, al⟩ := five_of T3.out.boxA
          obtain ⟨b0, b1, b2, b3, b4, bf, bl⟩ := five_of T3.out.boxB
          obtain ⟨c0, c1, c2, c3, c4, cf, cl⟩ := five_of T3.out.boxC
          go_wp2_with fail
          go_at_call 21
          refine (hcCompare_any _ a b _ _ _ T3.out.ra T3.out.rb l1.out l2.out).mono ?_
          rintro e w4 ⟨rfl, hf⟩
          have T4 := hid (T3.out.step hf)
          clear hf
          clear a0 a1' a2' a3' a4 af al b0 b1 b2 b3 b4 bf bl c0 c1 c2 c3 c4 cf cl
          rw [f1.out]
          obtain ⟨a0, a1', a2', a3', a4, af, al⟩ := five_of T4.out.boxA
          obtain ⟨b0, b1, b2, b3, b4, bf, bl⟩ := five_of T4.out.boxB
          obtain ⟨c0, c1, c2, c3, c4, cf, cl⟩ := five_of T4.out.boxC
          go_wp2_with fail
          go_at_call 21
          refine (hcCompare_any _ b c _ _ _ T4.out.rb T4.out.rc l2.out l3.out).mono ?_
          rintro e w5 ⟨rfl, hf⟩
          have T5 := hid (T4.out.step hf)
          clear hf
          clear a0 a1' a2' a3' a4 af al b0 b1 b2 b3 b4 bf bl c0 c1 c2 c3 c4 cf cl
          rw [f3.out]
          obtain ⟨a0, a1', a2', a3', a4, af, al⟩ := five_of T5.out.boxA
          obtain ⟨b0, b1, b2, b3, b4, bf, bl⟩ := five_of T5.out.boxB
          obtain ⟨c0, c1, c2, c3, c4, cf, cl⟩ := five_of T5.out.boxC
          go_wp2_with fail
          go_at_call 21
          refine (hcCompare_any _ a c _ _ _ T5.out.ra T5.out.rc l1.out l3.out).mono ?_
          rintro e w6 ⟨rfl, hf⟩
          have T6 := hid (T5.out.step hf)
          clear hf
          clear a0 a1' a2' a3' a4 af al b0 b1 b2 b3 b4 bf bl c0 c1 c2 c3 c4 cf cl
          rw [f4.out]
          obtain ⟨a0, a1', a2', a3', a4, af, al⟩ := five_of T6.out.boxA
          obtain ⟨b0, b1, b2, b3, b4, bf, bl⟩ := five_of T6.out.boxB
          obtain ⟨c0, c1, c2, c3, c4, cf, cl⟩ := five_of T6.out.boxC
          go_wp2_with fail
          go_at_call 21
          refine (hcCompare_any _ b a _ _ _ T6.out.rb T6.out.ra l2.out l1.out).mono ?_
          rintro e w7 ⟨rfl, hf⟩
          have T7 := hid (T6.out.step hf)
          clear hf
          clear a0 a1' a2' a3' a4 af al b0 b1 b2 b3 b4 bf bl c0 c1 c2 c3 c4 cf cl
          rw [f2.out]
          obtain ⟨a0, a1', a2', a3', a4, af, al⟩ := five_of T7.out.boxA
          obtain ⟨b0, b1, b2, b3, b4, bf, bl⟩ := five_of T7.out.boxB
          obtain ⟨c0, c1, c2, c3, c4, cf, cl⟩ := five_of T7.out.boxC
          go_wp2_with fail
          go_at_call 23
          refine (hcSame_any _ a b _ _ _ T7.out.ra T7.out.rb l1.out l2.out).mono ?_
          rintro e w8 ⟨rfl, hf⟩
          have T8 := hid (T7.out.step hf)
          clear hf
          clear a0 a1' a2' a3' a4 af al b0 b1 b2 b3 b4 bf bl c0 c1 c2 c3 c4 cf cl
          rw [s1.out]
          obtain ⟨a0, a1', a2', a3', a4, af, al⟩ := five_of T8.out.boxA
          obtain ⟨b0, b1, b2, b3, b4, bf, bl⟩ := five_of T8.out.boxB
          obtain ⟨c0, c1, c2, c3, c4, cf, cl⟩ := five_of T8.out.boxC
          go_wp2_with fail
          go_at_call 21
          refine (hcCompare_any _ a a _ _ _ T8.out.ra T8.out.ra l1.out l1.out).mono ?_
          rintro e w9 ⟨rfl, hf⟩
          have T9 := hid (T8.out.step hf)
          clear hf
          clear a0 a1' a2' a3' a4 af al b0 b1 b2 b3 b4 bf bl c0 c1 c2 c3 c4 cf cl
          rw [O3.out]
          go_wp2_with fail
          refine (live_any _ T9.out.tab).mono ?_
          rintro e w9 ⟨rfl, hf⟩
          go_wp2
          go_ret
          exact ⟨rfl, T9.out.fr.step hf⟩
        · have s1 := hid (show (nodeCmp a b == 0) = true by rw [e1]; rfl)
          have f1 := hid e1
          have f2 := hid e2
          have f3 := hid e3
          clear e1 e2 e3
          obtain ⟨a0, a1', a2', a3', a4, af, al⟩ := five_of T3.out.boxA
          obtain ⟨b0, b1, b2, b3, b4, bf, bl⟩ := five_of T3.out.boxB
          obtain ⟨c0, c1, c2, c3, c4, cf, cl⟩ := five_of T3.out.boxC
          go_wp2_with fail
          go_at_call 21
          refine (hcCompare_any _ a b _ _ _ T3.out.ra T3.out.rb l1.out l2.out).mono ?_
          rintro e w4 ⟨rfl, hf⟩
          have T4 := hid (T3.out.step hf)
          clear hf
          clear a0 a1' a2' a3' a4 af al b0 b1 b2 b3 b4 bf bl c0 c1 c2 c3 c4 cf cl
          rw [f1.out]
          obtain ⟨a0, a1', a2', a3', a4, af, al⟩ := five_of T4.out.boxA
          obtain ⟨b0, b1, b2, b3, b4, bf, bl⟩ := five_of T4.out.boxB
          obtain ⟨c0, c1, c2, c3, c4, cf, cl⟩ := five_of T4.out.boxC
          go_wp2_with fail
          go_at_call 21
          refine (hcCompare_any _ b c _ _ _ T4.out.rb T4.out.rc l2.out l3.out).mono ?_
          rintro e w5 ⟨rfl, hf⟩
          have T5 := hid (T4.out.step hf)
          clear hf
          clear a0 a1' a2' a3' a4 af al b0 b1 b2 b3 b4 bf bl c0 c1 c2 c3 c4 cf cl
          rw [f3.out]
          obtain ⟨a0, a1', a2', a3', a4, af, al⟩ := five_of T5.out.boxA
          obtain ⟨b0, b1, b2, b3, b4, bf, bl⟩ := five_of T5.out.boxB
          obtain ⟨c0, c1, c2, c3, c4, cf, cl⟩ := five_of T5.out.boxC
          go_wp2_with fail
          go_at_call 21
          refine (hcCompare_any _ a c _ _ _ T5.out.ra T5.out.rc l1.out l3.out).mono ?_
          rintro e w6 ⟨rfl, hf⟩
          have T6 := hid (T5.out.step hf)
          clear hf
          clear a0 a1' a2' a3' a4 af al b0 b1 b2 b3 b4 bf bl c0 c1 c2 c3 c4 cf cl
          generalize nodeCmp a c = zz
          obtain ⟨a0, a1', a2', a3', a4, af, al⟩ := five_of T6.out.boxA
          obtain ⟨b0, b1, b2, b3, b4, bf, bl⟩ := five_of T6.out.boxB
          obtain ⟨c0, c1, c2, c3, c4, cf, cl⟩ := five_of T6.out.boxC
          go_wp2_with fail
          go_at_call 21
          refine (hcCompare_any _ b a _ _ _ T6.out.rb T6.out.ra l2.out l1.out).mono ?_
          rintro e w7 ⟨rfl, hf⟩
          have T7 := hid (T6.out.step hf)
          clear hf
          clear a0 a1' a2' a3' a4 af al b0 b1 b2 b3 b4 bf bl c0 c1 c2 c3 c4 cf cl
          rw [f2.out]
          obtain ⟨a0, a1', a2', a3', a4, af, al⟩ := five_of T7.out.boxA
          obtain ⟨b0, b1, b2, b3, b4, bf, bl⟩ := five_of T7.out.boxB
          obtain ⟨c0, c1, c2, c3, c4, cf, cl⟩ := five_of T7.out.boxC
          go_wp2_with fail
          go_at_call 23
          refine (hcSame_any _ a b _ _ _ T7.out.ra T7.out.rb l1.out l2.out).mono ?_
          rintro e w8 ⟨rfl, hf⟩
          have T8 := hid (T7.out.step hf)
          clear hf
          clear a0 a1' a2' a3' a4 af al b0 b1 b2 b3 b4 bf bl c0 c1 c2 c3 c4 cf cl
          rw [s1.out]
          obtain ⟨a0, a1', a2', a3', a4, af, al⟩ := five_of T8.out.boxA
          obtain ⟨b0, b1, b2, b3, b4, bf, bl⟩ := five_of T8.out.boxB
          obtain ⟨c0, c1, c2, c3, c4, cf, cl⟩ := five_of T8.out.boxC
          go_wp2_with fail
          go_at_call 21
          refine (hcCompare_any _ a a _ _ _ T8.out.ra T8.out.ra l1.out l1.out).mono ?_
          rintro e w9 ⟨rfl, hf⟩
          have T9 := hid (T8.out.step hf)
          clear hf
          clear a0 a1' a2' a3' a4 af al b0 b1 b2 b3 b4 bf bl c0 c1 c2 c3 c4 cf cl
          rw [O3.out]
          go_wp2_with fail
          refine (live_any _ T9.out.tab).mono ?_
          rintro e w9 ⟨rfl, hf⟩
          go_wp2
          go_ret
          exact ⟨rfl, T9.out.fr.step hf⟩
        · have s1 := hid (show (nodeCmp a b == 0) = true by rw [e1]; rfl)
          have f1 := hid e1
          have f2 := hid e2
          have f3 := hid e3
          have f4 := hid e4
          clear e1 e2 e3 e4
          obtain ⟨a0, a1', a2', a3', a4, af, al⟩ := five_of T3.out.boxA
          obtain ⟨b0, b1, b2, b3, b4, bf, bl⟩ := five_of T3.out.boxB
          obtain ⟨c0, c1, c2, c3, c4, cf, cl⟩ := five_of T3.out.boxC
          go_wp2_with fail
          go_at_call 21
          refine (hcCompare_any _ a b _ _ _ T3.out.ra T3.out.rb l1.out l2.out).mono ?_
          rintro e w4 ⟨rfl, hf⟩
          have T4 := hid (T3.out.step hf)
          clear hf
          clear a0 a1' a2' a3' a4 af al b0 b1 b2 b3 b4 bf bl c0 c1 c2 c3 c4 cf cl
          rw [f1.out]
          obtain ⟨a0, a1', a2', a3', a4, af, al⟩ := five_of T4.out.boxA
          obtain ⟨b0, b1, b2, b3, b4, bf, bl⟩ := five_of T4.out.boxB
          obtain ⟨c0, c1, c2, c3, c4, cf, cl⟩ := five_of T4.out.boxC
          go_wp2_with fail
          go_at_call 21
          refine (hcCompare_any _ b c _ _ _ T4.out.rb T4.out.rc l2.out l3.out).mono ?_
          rintro e w5 ⟨rfl, hf⟩
          have T5 := hid (T4.out.step hf)
          clear hf
          clear a0 a1' a2' a3' a4 af al b0 b1 b2 b3 b4 bf bl c0 c1 c2 c3 c4 cf cl
          rw [f3.out]
          obtain ⟨a0, a1', a2', a3', a4, af, al⟩ := five_of T5.out.boxA
          obtain ⟨b0, b1, b2, b3, b4, bf, bl⟩ := five_of T5.out.boxB
          obtain ⟨c0, c1, c2, c3, c4, cf, cl⟩ := five_of T5.out.boxC
          go_wp2_with fail
          go_at_call 21
          refine (hcCompare_any _ a c _ _ _ T5.out.ra T5.out.rc l1.out l3.out).mono ?_
          rintro e w6 ⟨rfl, hf⟩
          have T6 := hid (T5.out.step hf)
          clear hf
          clear a0 a1' a2' a3' a4 af al b0 b1 b2 b3 b4 bf bl c0 c1 c2 c3 c4 cf cl
          rw [f4.out]
          obtain ⟨a0, a1', a2', a3', a4, af, al⟩ := five_of T6.out.boxA
          obtain ⟨b0, b1, b2, b3, b4, bf, bl⟩ := five_of T6.out.boxB
          obtain ⟨c0, c1, c2, c3, c4, cf, cl⟩ := five_of T6.out.boxC
          go_wp2_with fail
          go_at_call 21
          refine (hcCompare_any _ b a _ _ _ T6.out.rb T6.out.ra l2.out l1.out).mono ?_
          rintro e w7 ⟨rfl, hf⟩
          have T7 := hid (T6.out.step hf)
          clear hf
          clear a0 a1' a2' a3' a4 af al b0 b1 b2 b3 b4 bf bl c0 c1 c2 c3 c4 cf cl
          rw [f2.out]
          obtain ⟨a0, a1', a2', a3', a4, af, al⟩ := five_of T7.out.boxA
          obtain ⟨b0, b1, b2, b3, b4, bf, bl⟩ := five_of T7.out.boxB
          obtain ⟨c0, c1, c2, c3, c4, cf, cl⟩ := five_of T7.out.boxC
          go_wp2_with fail
          go_at_call 23
          refine (hcSame_any _ a b _ _ _ T7.out.ra T7.out.rb l1.out l2.out).mono ?_
          rintro e w8 ⟨rfl, hf⟩
          have T8 := hid (T7.out.step hf)
          clear hf
          clear a0 a1' a2' a3' a4 af al b0 b1 b2 b3 b4 bf bl c0 c1 c2 c3 c4 cf cl
          rw [s1.out]
          obtain ⟨a0, a1', a2', a3', a4, af, al⟩ := five_of T8.out.boxA
          obtain ⟨b0, b1, b2, b3, b4, bf, bl⟩ := five_of T8.out.boxB
          obtain ⟨c0, c1, c2, c3, c4, cf, cl⟩ := five_of T8.out.boxC
          go_wp2_with fail
          go_at_call 21
          refine (hcCompare_any _ a a _ _ _ T8.out.ra T8.out.ra l1.out l1.out).mono ?_
          rintro e w9 ⟨rfl, hf⟩
          have T9 := hid (T8.out.step hf)
          clear hf
          clear a0 a1' a2' a3' a4 af al b0 b1 b2 b3 b4 bf bl c0 c1 c2 c3 c4 cf cl
          rw [O3.out]
          go_wp2_with fail
          refine (live_any _ T9.out.tab).mono ?_
          rintro e w9 ⟨rfl, hf⟩
          go_wp2
          go_ret
          exact ⟨rfl, T9.out.fr.step hf⟩
        · have s1 := hid (show (nodeCmp a b == 0) = true by rw [e1]; rfl)
          have f1 := hid e1
          have f2 := hid e2
          have f3 := hid e3
          have f4 := hid e4
          clear e1 e2 e3 e4
          obtain ⟨a0, a1', a2', a3', a4, af, al⟩ := five_of T3.out.boxA
          obtain ⟨b0, b1, b2, b3, b4, bf, bl⟩ := five_of T3.out.boxB
          obtain ⟨c0, c1, c2, c3, c4, cf, cl⟩ := five_of T3.out.boxC
          go_wp2_with fail
          go_at_call 21
          refine (hcCompare_any _ a b _ _ _ T3.out.ra T3.out.rb l1.out l2.out).mono ?_
          rintro e w4 ⟨rfl, hf⟩
          have T4 := hid (T3.out.step hf)
          clear hf
          clear a0 a1' a2' a3' a4 af al b0 b1 b2 b3 b4 bf bl c0 c1 c2 c3 c4 cf cl
          rw [f1.out]
          obtain ⟨a0, a1', a2', a3', a4, af, al⟩ := five_of T4.out.boxA
          obtain ⟨b0, b1, b2, b3, b4, bf, bl⟩ := five_of T4.out.boxB
          obtain ⟨c0, c1, c2, c3, c4, cf, cl⟩ := five_of T4.out.boxC
          go_wp2_with fail
          go_at_call 21
          refine (hcCompare_any _ b c _ _ _ T4.out.rb T4.out.rc l2.out l3.out).mono ?_
          rintro e w5 ⟨rfl, hf⟩
          have T5 := hid (T4.out.step hf)
          clear hf
          clear a0 a1' a2' a3' a4 af al b0 b1 b2 b3 b4 bf bl c0 c1 c2 c3 c4 cf cl
          rw [f3.out]
          obtain ⟨a0, a1', a2', a3', a4, af, al⟩ := five_of T5.out.boxA
          obtain ⟨b0, b1, b2, b3, b4, bf, bl⟩ := five_of T5.out.boxB
          obtain ⟨c0, c1, c2, c3, c4, cf, cl⟩ := five_of T5.out.boxC
          go_wp2_with fail
          go_at_call 21
          refine (hcCompare_any _ a c _ _ _ T5.out.ra T5.out.rc l1.out l3.out).mono ?_
          rintro e w6 ⟨rfl, hf⟩
          have T6 := hid (T5.out.step hf)
          clear hf
          clear a0 a1' a2' a3' a4 af al b0 b1 b2 b3 b4 bf bl c0 c1 c2 c3 c4 cf cl
          rw [f4.out]
          obtain ⟨a0, a1', a2', a3', a4, af, al⟩ := five_of T6.out.boxA
          obtain ⟨b0, b1, b2, b3, b4, bf, bl⟩ := five_of T6.out.boxB
          obtain ⟨c0, c1, c2, c3, c4, cf, cl⟩ := five_of T6.out.boxC
          go_wp2_with fail
          go_at_call 21
          refine (hcCompare_any _ b a _ _ _ T6.out.rb T6.out.ra l2.out l1.out).mono ?_
          rintro e w7 ⟨rfl, hf⟩
          have T7 := hid (T6.out.step hf)
          clear hf
          clear a0 a1' a2' a3' a4 af al b0 b1 b2 b3 b4 bf bl c0 c1 c2 c3 c4 cf cl
          rw [f2.out]
          obtain ⟨a0, a1', a2', a3', a4, af, al⟩ := five_of T7.out.boxA
          obtain ⟨b0, b1, b2, b3, b4, bf, bl⟩ := five_of T7.out.boxB
          obtain ⟨c0, c1, c2, c3, c4, cf, cl⟩ := five_of T7.out.boxC
          go_wp2_with fail
          go_at_call 23
          refine (hcSame_any _ a b _ _ _ T7.out.ra T7.out.rb l1.out l2.out).mono ?_
          rintro e w8 ⟨rfl, hf⟩
          have T8 := hid (T7.out.step hf)
          clear hf
          clear a0 a1' a2' a3' a4 af al b0 b1 b2 b3 b4 bf bl c0 c1 c2 c3 c4 cf cl
          rw [s1.out]
          obtain ⟨a0, a1', a2', a3', a4, af, al⟩ := five_of T8.out.boxA
          obtain ⟨b0, b1, b2, b3, b4, bf, bl⟩ := five_of T8.out.boxB
          obtain ⟨c0, c1, c2, c3, c4, cf, cl⟩ := five_of T8.out.boxC
          go_wp2_with fail
          go_at_call 21
          refine (hcCompare_any _ a a _ _ _ T8.out.ra T8.out.ra l1.out l1.out).mono ?_
          rintro e w9 ⟨rfl, hf⟩
          have T9 := hid (T8.out.step hf)
          clear hf
          clear a0 a1' a2' a3' a4 af al b0 b1 b2 b3 b4 bf bl c0 c1 c2 c3 c4 cf cl
          rw [O3.out]
          go_wp2_with fail
          refine (live_any _ T9.out.tab).mono ?_
          rintro e w9 ⟨rfl, hf⟩
          go_wp2
          go_ret
          exact ⟨rfl, T9.out.fr.step hf⟩
      · have d3 := hid (show decide ((c.args.length : Int) ≤ 200 ∧ (c.name.size / 100 : Int) ≤ 200) = false from decide_eq_false g3)
        clear g1 g2 g3
        go_enter Tryd.func7, Tryd.ntmps7
        obtain ⟨a0, a1', a2', a3', a4, af, al⟩ := five_of T0.out.boxA
        obtain ⟨b0, b1, b2, b3, b4, bf, bl⟩ := five_of T0.out.boxB
        obtain ⟨c0, c1, c2, c3, c4, cf, cl⟩ := five_of T0.out.boxC
        go_wp2_with fail
        refine (few_any a _ 200 _ _ T0.out.ra na).mono ?_
        rintro e w1 ⟨rfl, hf⟩
        rw [d1.out]
        have T1 := hid (T0.out.step hf)
        clear hf T0
        clear a0 a1' a2' a3' a4 af al b0 b1 b2 b3 b4 bf bl c0 c1 c2 c3 c4 cf cl
        obtain ⟨a0, a1', a2', a3', a4, af, al⟩ := five_of T1.out.boxA
        obtain ⟨b0, b1, b2, b3, b4, bf, bl⟩ := five_of T1.out.boxB
        obtain ⟨c0, c1, c2, c3, c4, cf, cl⟩ := five_of T1.out.boxC
        go_wp2_with fail
        refine (few_any b _ 200 _ _ T1.out.rb nb).mono ?_
        rintro e w2 ⟨rfl, hf⟩
        rw [d2.out]
        have T2 := hid (T1.out.step hf)
        clear hf T1
        clear a0 a1' a2' a3' a4 af al b0 b1 b2 b3 b4 bf bl c0 c1 c2 c3 c4 cf cl
        obtain ⟨a0, a1', a2', a3', a4, af, al⟩ := five_of T2.out.boxA
        obtain ⟨b0, b1, b2, b3, b4, bf, bl⟩ := five_of T2.out.boxB
        obtain ⟨c0, c1, c2, c3, c4, cf, cl⟩ := five_of T2.out.boxC
        go_wp2_with fail
        refine (few_any c _ 200 _ _ T2.out.rc nc).mono ?_
        rintro e w3 ⟨rfl, hf⟩
        rw [d3.out]
        have T3 := hid (T2.out.step hf)
        clear hf T2
        clear a0 a1' a2' a3' a4 af al b0 b1 b2 b3 b4 bf bl c0 c1 c2 c3 c4 cf cl
        go_wp2_with fail
        refine (live_any _ T3.out.tab).mono ?_
        rintro e w9 ⟨rfl, hf⟩
        go_wp2
        go_ret
        exact ⟨rfl, T3.out.fr.step hf⟩
    · have d2 := hid (show decide ((b.args.length : Int) ≤ 200 ∧ (b.name.size / 100 : Int) ≤ 200) = false from decide_eq_false g2)
      clear g1 g2
      go_enter Tryd.func7, Tryd.ntmps7
      obtain ⟨a0, a1', a2', a3', a4, af, al⟩ := five_of T0.out.boxA
      obtain ⟨b0, b1, b2, b3, b4, bf, bl⟩ := five_of T0.out.boxB
      obtain ⟨c0, c1, c2, c3, c4, cf, cl⟩ := five_of T0.out.boxC
      go_wp2_with fail
      refine (few_any a _ 200 _ _ T0.out.ra na).mono ?_
      rintro e w1 ⟨rfl, hf⟩
      rw [d1.out]
      have T1 := hid (T0.out.step hf)
      clear hf T0
      clear a0 a1' a2' a3' a4 af al b0 b1 b2 b3 b4 bf bl c0 c1 c2 c3 c4 cf cl
      obtain ⟨a0, a1', a2', a3', a4, af, al⟩ := five_of T1.out.boxA
      obtain ⟨b0, b1, b2, b3, b4, bf, bl⟩ := five_of T1.out.boxB
      obtain ⟨c0, c1, c2, c3, c4, cf, cl⟩ := five_of T1.out.boxC
      go_wp2_with fail
      refine (few_any b _ 200 _ _ T1.out.rb nb).mono ?_
      rintro e w2 ⟨rfl, hf⟩
      rw [d2.out]
      have T2 := hid (T1.out.step hf)
      clear hf T1
      clear a0 a1' a2' a3' a4 af al b0 b1 b2 b3 b4 bf bl c0 c1 c2 c3 c4 cf cl
      go_wp2_with fail
      refine (live_any _ T2.out.tab).mono ?_
      rintro e w9 ⟨rfl, hf⟩
      go_wp2
      go_ret
      exact ⟨rfl, T2.out.fr.step hf⟩
  · have d1 := hid (show decide ((a.args.length : Int) ≤ 200 ∧ (a.name.size / 100 : Int) ≤ 200) = false from decide_eq_false g1)
    clear g1
    go_enter Tryd.func7, Tryd.ntmps7
    obtain ⟨a0, a1', a2', a3', a4, af, al⟩ := five_of T0.out.boxA
    obtain ⟨b0, b1, b2, b3, b4, bf, bl⟩ := five_of T0.out.boxB
    obtain ⟨c0, c1, c2, c3, c4, cf, cl⟩ := five_of T0.out.boxC
    go_wp2_with fail
    refine (few_any a _ 200 _ _ T0.out.ra na).mono ?_
    rintro e w1 ⟨rfl, hf⟩
    rw [d1.out]
    have T1 := hid (T0.out.step hf)
    clear hf T0
    clear a0 a1' a2' a3' a4 af al b0 b1 b2 b3 b4 bf bl c0 c1 c2 c3 c4 cf cl
    go_wp2_with fail
    refine (live_any _ T1.out.tab).mono ?_
    rintro e w9 ⟨rfl, hf⟩
    go_wp2
    go_ret
    exact ⟨rfl, T1.out.fr.step hf⟩

/-- What the walk gives, for every argument and every world that holds the tables. -/
theorem contract (H : Type) (enc : TypeId × Value → H) (W : World) (base : Nat) (args : Array Value) (ds gs : List (DataW H)) (before : List MemPlace)
    (hval : ∀ (j : Nat) t v, Tryd.f7.params[j]? = some t → args[j]? = some v → Value.okWide Tryd.prog W .any base t v)
    (hW : DataW.Whole enc Tryd.prog Tryd.f7.params.toList Rows.hashconsOrdersSpec.vars false W args.toList ds gs before) (hL : laidMetH Tryd.prog Rows.hashconsOrdersRow.laid W) :
    Calls Tryd.prog 7 args W fun e W' => ∃ v, e = .returned v ∧ Rows.hashconsOrdersSpec.post enc Tryd.prog Tryd.f7 false true false false W args v W' := by
  have hW' := hW
  obtain ⟨p, q, hA0, hV, rfl, hfz, hnd⟩ := hW
  have hA : DataW.TrodAll enc Tryd.prog W 0 (fun _ => true) true Tryd.f7.params.toList args.toList ds p := hA0
  rw [Tryd.params7] at hA hval
  obtain ⟨v0, vs0, d0, ds0, p0, q0, hargs, rfl, rfl, h0, r0⟩ := trodAll_cons hA
  obtain ⟨v1, vs1, d1, ds1, p1, q1, rfl, rfl, rfl, h1, r1⟩ := trodAll_cons r0
  obtain ⟨v2, vs2, d2, ds2, p2, q2, rfl, rfl, rfl, h2, r2⟩ := trodAll_cons r1
  obtain ⟨rfl, rfl, rfl⟩ := trodAll_nil r2
  obtain rfl : args = #[v0, v1, v2] := by cases args; simp_all
  obtain ⟨rfl, rfl⟩ := trodVars_none hV
  have lt0 : ∀ x ∈ p0, x.block < W.heap.size := by obtain ⟨m, hm⟩ := h0; exact DataW.trod_lt m _ _ _ hm
  have lt1 : ∀ x ∈ p1, x.block < W.heap.size := by obtain ⟨m, hm⟩ := h1; exact DataW.trod_lt m _ _ _ hm
  have lt2 : ∀ x ∈ p2, x.block < W.heap.size := by obtain ⟨m, hm⟩ := h2; exact DataW.trod_lt m _ _ _ hm
  have k0 := h0
  have hv0 := hval 0 26 v0 rfl rfl
  have k1 := h1
  have hv1 := hval 1 26 v1 rfl rfl
  have k2 := h2
  have hv2 := hval 2 26 v2 rfl rfl
  obtain ⟨n0, s0, rfl, r0n, ok0, _, nm0⟩ := open_node hv0 h0 (fun k => W.heap.size ≤ k) (fun k hk => by omega)
  obtain ⟨n1, s1, rfl, r1n, ok1, _, nm1⟩ := open_node hv1 h1 (fun k => W.heap.size ≤ k) (fun k hk => by omega)
  obtain ⟨n2, s2, rfl, r2n, ok2, _, nm2⟩ := open_node hv2 h2 (fun k => W.heap.size ≤ k) (fun k hk => by omega)
  clear hA0
  have htab := tab_of_laid hL
  refine (walk n0 n1 n2 s0 s1 s2 W r0n r1n r2n htab nm0 nm1 nm2).mono fun e W' ⟨he, hf⟩ => ?_
  subst he
  have bel := hf.below
  exact ⟨_, rfl, _, _, _, [], _, [], hW', trodAll_mk1 (shut_bool Tryd.underlying4 _), (trodAll_cons_mk (Below.trod laidOut (by kernel_rfl) (of_decide_eq_true (by kernel_rfl)) k0 bel lt0) (trodAll_cons_mk (Below.trod laidOut (by kernel_rfl) (of_decide_eq_true (by kernel_rfl)) k1 bel lt1) (trodAll_cons_mk (Below.trod laidOut (by kernel_rfl) (of_decide_eq_true (by kernel_rfl)) k2 bel lt2) trodAll_mk0))), rfl, bel.frame _, fun h => by cases h⟩

theorem laid_met (os : Os) : laidMet Tryd.prog Rows.hashconsOrdersRow.laid ((laidWorld os).forCall (fun _ _ => 0) ⟨#[], #[.agg #[.int .i64 0, .int .i64 0, .int .u64 0, .string ⟨#[]⟩, .slice none 0 0], .agg #[.int .i64 0, .int .i64 0, .int .u64 0, .string ⟨#[]⟩, .slice none 0 0], .agg #[.int .i64 0, .int .i64 0, .int .u64 0, .string ⟨#[]⟩, .slice none 0 0]], []⟩).memory :=
  laidMet_of_run' 8 (by kernel_rfl) (by kernel_rfl)
theorem reads (os : Os) {H : Type} (enc : TypeId × Value → H) : ∃ places, DataW.whole enc Tryd.prog ((laidWorld os).forCall (fun _ _ => 0) ⟨#[], #[.agg #[.int .i64 0, .int .i64 0, .int .u64 0, .string ⟨#[]⟩, .slice none 0 0], .agg #[.int .i64 0, .int .i64 0, .int .u64 0, .string ⟨#[]⟩, .slice none 0 0], .agg #[.int .i64 0, .int .i64 0, .int .u64 0, .string ⟨#[]⟩, .slice none 0 0]], []⟩).memory Tryd.f7.params.toList Rows.hashconsOrdersSpec.vars false #[.agg #[.int .i64 0, .int .i64 0, .int .u64 0, .string ⟨#[]⟩, .slice none 0 0], .agg #[.int .i64 0, .int .i64 0, .int .u64 0, .string ⟨#[]⟩, .slice none 0 0], .agg #[.int .i64 0, .int .i64 0, .int .u64 0, .string ⟨#[]⟩, .slice none 0 0]].toList 8 = some ([.agg [.lit (.int .i64 0), .lit (.int .i64 0), .lit (.int .u64 0), .lit (.string []), .nil], .agg [.lit (.int .i64 0), .lit (.int .i64 0), .lit (.int .u64 0), .lit (.string []), .nil], .agg [.lit (.int .i64 0), .lit (.int .i64 0), .lit (.int .u64 0), .lit (.string []), .nil]], [], places) :=
  ⟨[], by kernel_rfl⟩

set_option maxRecDepth 100000 in
theorem lifted (os : Os) (started : os.Started) (H : Type) (enc : TypeId × Value → H) (F : Stop.Interp) :
    ReturnsInHanded {} Tryd.checked os 7 .any ((OpenSpec.ofChange Rows.hashconsOrdersSpec).preRow enc Tryd.prog Tryd.f7 Rows.hashconsOrdersRow.domain false Rows.hashconsOrdersRow.laid) (((OpenSpec.ofChange Rows.hashconsOrdersSpec).at F).post enc Tryd.prog Tryd.f7 false true false false) := by
  obtain ⟨places, hx⟩ := reads os enc
  refine returnsInHanded_of_row (C := Tryd.checked) (s := OpenSpec.ofChange Rows.hashconsOrdersSpec) own started (by kernel_rfl) Tryd.func7
    (witness_row_at (enc := enc) (C := Tryd.checked) false (laidWorld os) #[.agg #[.int .i64 0, .int .i64 0, .int .u64 0, .string ⟨#[]⟩, .slice none 0 0], .agg #[.int .i64 0, .int .i64 0, .int .u64 0, .string ⟨#[]⟩, .slice none 0 0], .agg #[.int .i64 0, .int .i64 0, .int .u64 0, .string ⟨#[]⟩, .slice none 0 0]] rfl (by kernel_rfl) (by kernel_rfl) (by kernel_rfl)
      (OpenSpec.preRow_of_cond 8 hx (by kernel_rfl) (fun k hk => by cases hk) (by kernel_rfl) (laid_met os))) ?_
  intro W base args ds gs before hval hW _ hcond _ hL _ _
  exact contract H enc W base args ds gs before hval hW hL

theorem said : Rows.HashconsOrdersSaid :=
  OpenClaim.holds_of_cond 7 Tryd.f7 rfl rfl rfl rfl rfl rfl rfl ⟨rfl, rfl, rfl, rfl, rfl⟩ rfl rfl rfl rfl rfl (by kernel_rfl) Tryd.func7 (by kernel_rfl)
    (of_decide_eq_true (by kernel_rfl)) (by unfold Func.isWrapper; first | (rw [if_pos (by decide +kernel)]; kernel_rfl) | (rw [if_neg (by decide +kernel)]; exact ⟨rfl, rfl⟩))
    (fun os started H enc _ F => by rw [OpenClaim.pre_eq_preRow]; exact lifted os started H enc F)

theorem plain (f : FuncId) (fn : Func) (hf : Tryd.pinned.checked.prog.funcNamed "saturate/saturatelaw16.HashconsOrders" = some f) (hfn : Tryd.pinned.checked.prog.funcs[f]? = some fn) :
    false = Tryd.pinned.checked.prog.looks [] ∧ ∀ (j : Nat) t, fn.params[j]? = some t → Tryd.pinned.checked.prog.wantsStandIn t = false := by
  obtain rfl : f = 7 := Option.some.inj ((show Tryd.prog.funcNamed "saturate/saturatelaw16.HashconsOrders" = some 7 by kernel_rfl).symm.trans hf) |>.symm
  obtain rfl : fn = Tryd.f7 := (Option.some.inj (Tryd.func7.symm.trans hfn)).symm
  refine ⟨by kernel_rfl, fun j t ht => ?_⟩
  rw [Tryd.params7] at ht
  have hm : t ∈ [26, 26, 26] := by have := Array.mem_of_getElem? ht; simpa using this
  have q0 : Tryd.prog.wantsStandIn 26 = false := by kernel_rfl
  simp only [List.mem_cons, List.not_mem_nil, or_false] at hm
  rcases hm with rfl | rfl | rfl
  · exact q0
  · exact q0
  · exact q0

theorem card : Rows.HashconsOrdersCardSaid :=
  Claim7.holds_tied_plain_at .later [] _ _ _ _ said (fun _ h => by cases h) (by kernel_rfl) (fun _ h => by cases h) hashconsOrders_row_tie rfl ⟨rfl, rfl⟩ (by kernel_rfl) rfl plain (by kernel_rfl)
#print axioms card


end Go.Proofs.YtkifedleajacpaaDoor.LawOrders
