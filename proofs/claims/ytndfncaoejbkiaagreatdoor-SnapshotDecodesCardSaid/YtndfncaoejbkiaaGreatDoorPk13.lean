import Derived.Test.YtndfncaoejbkiaaGreatDoorPk1
import Derived.Test.YtndfncaoejbkiaaGreatDoorPk6
import Derived.Test.YtndfncaoejbkiaaGreatDoorPk12
set_option linter.all false
section
/- The walk of the reference's node (printed by gen_rr4.py). -/
namespace Go.Proofs.YtndfncaoejbkiaaGreatDoor
open Go.RowKit
set_option maxRecDepth 100000

/-- A node. -/
def pNode (l : List UInt8) (s : Option Nat) : Option Nat × Node :=
  let r1 := pS l s
  let r2 := pS l r1.1
  let r3 := pN l r2.1
  let r4 := pC l r3.1
  let r6 := pIs l (r4.1.map (· + r4.2))
  (r6.1, ⟨r1.2, r2.2, r3.2, ⟨(match r4.1 with | some p => (l.drop p).take r4.2 | none => []).toArray⟩, r6.2⟩)
theorem pNode_ok {l : List UInt8} {s : Option Nat} : ∀ p, (pNode l s).1 = some p → p ≤ l.length := fun p hp => pIs_ok p hp
theorem pC_room {l : List UInt8} {s : Option Nat} {p : Nat} (h : (pC l s).1 = some p) : p + (pC l s).2 ≤ l.length := by
  have h0 := pC_ok p h
  cases hq : (pN l s).1 with
  | none => rw [pC_of_none hq] at h; cases h
  | some q =>
    rw [pC_of_some hq] at h ⊢
    by_cases hh : (pN l s).2 ≤ l.length - q
    · rw [if_pos hh] at h ⊢
      cases h
      simp only
      omega
    · rw [if_neg hh] at h
      cases h
/-- What the reference's node answers. -/
def RefNodeOut (w : World) (v : Value) (r : Option Nat × Node) (e : Ending) (w' : World) : Prop :=
  ∃ a c, e = .returned (.tuple #[rV v r.1, nodeV r.2 (.slice a r.2.args.length c)]) ∧ RdI (fun k => k < w.heap.size) w' (.slice a r.2.args.length c) r.2.args ∧ Fr NoB w w'
theorem st5 {W : World} {R : Nat} {a b c d f x y z s t : Value} {e : TypeId} (hR : W.heap[R]? = some (.cells #[a, b, c, d, f] e (0, 0))) :
    let WF := ((((W.setCell ⟨R, 0, none⟩ x).setCell ⟨R, 1, none⟩ y).setCell ⟨R, 2, none⟩ z).setCell ⟨R, 3, none⟩ s).setCell ⟨R, 4, none⟩ t
    WF.heap[R]? = some (.cells #[x, y, z, s, t] e (0, 0)) ∧ Fr (fun k => k = R) W WF := by
  intro WF
  exact ⟨set_at (set_at (set_at (set_at (set_at hR 0 _) 1 _) 2 _) 3 _) 4 _, (((((Fr.refl (fun k => k = R) W).setCell (p := ⟨R, 0, none⟩) (fun _ => rfl) _).setCell (p := ⟨R, 1, none⟩) (fun _ => rfl) _).setCell (p := ⟨R, 2, none⟩) (fun _ => rfl) _).setCell (p := ⟨R, 3, none⟩) (fun _ => rfl) _).setCell (p := ⟨R, 4, none⟩) (fun _ => rfl) _⟩
abbrev zNode : Array Value := #[.int .i64 0, .int .i64 0, .int .u64 0, .string ⟨#[]⟩, .slice none 0 0]
/-- Where the reading of a node stands. -/
structure NdR (w : World) (a : Option Addr) (m d : Nat) (z : Int) (b : Bool) (n : Node) (sl : Value) (wr : World) : Prop where
  rd : wr.heap[w.heap.size]? = some (.cells #[.slice a m d, .int .i64 z, .bool b] 72 (0, 0))
  outR : wr.heap[w.heap.size + 1]? = some (.cells #[.slice none 0 0, .int .i64 0, .bool false] 72 (0, 0))
  outN : wr.heap[w.heap.size + 1 + 1]? = some (.cells zNode 44 (0, 0))
  nd : wr.heap[w.heap.size + 1 + 1 + 1]? = some (.cells (nodeCells n sl) 44 (0, 0))
  fr : Fr NoB w wr
theorem NdR.step {w : World} {a : Option Addr} {m d : Nat} {z : Int} {b : Bool} {n : Node} {sl : Value} {wr w' : World} (h : NdR w a m d z b n sl wr) (hf : Fr NoB wr w') : NdR w a m d z b n sl w' :=
  ⟨hf.at (fun h => h) h.rd, hf.at (fun h => h) h.outR, hf.at (fun h => h) h.outN, hf.at (fun h => h) h.nd, h.fr.step hf⟩
theorem NdR.read {w : World} {a a' : Option Addr} {m d m' d' : Nat} {z z' : Int} {b b' : Bool} {n : Node} {sl : Value} {wr : World} (h : NdR w a m d z b n sl wr) :
    NdR w a' m' d' z' b' n sl (((wr.setCell ⟨w.heap.size, 0, none⟩ (.slice a' m' d')).setCell ⟨w.heap.size, 1, none⟩ (.int .i64 z')).setCell ⟨w.heap.size, 2, none⟩ (.bool b')) := by
  obtain ⟨h1, h2⟩ := st3 (x := .slice a' m' d') (y := .int .i64 z') (z := .bool b') h.rd
  exact ⟨h1, h2.at (fun e => by have e2 : w.heap.size + 1 = w.heap.size := e; omega) h.outR, h2.at (fun e => by have e2 : w.heap.size + 1 + 1 = w.heap.size := e; omega) h.outN, h2.at (fun e => by have e2 : w.heap.size + 1 + 1 + 1 = w.heap.size := e; omega) h.nd,
    h.fr.trans' h2 (fun q hq e => by have e2 : q = w.heap.size := e; omega)⟩
theorem NdR.mv {w : World} {a : Option Addr} {m d : Nat} {z z' : Int} {b : Bool} {n : Node} {sl : Value} {wr : World} (h : NdR w a m d z b n sl wr) :
    NdR w a m d z' b n sl (wr.setCell ⟨w.heap.size, 1, none⟩ (.int .i64 z')) := by
  have h2 : Fr (fun k => k = w.heap.size) wr (wr.setCell ⟨w.heap.size, 1, none⟩ (.int .i64 z')) := (Fr.refl (fun k => k = w.heap.size) wr).setCell (p := ⟨w.heap.size, 1, none⟩) (fun _ => rfl) _
  exact ⟨set_at h.rd 1 _, h2.at (fun e => by have e2 : w.heap.size + 1 = w.heap.size := e; omega) h.outR, h2.at (fun e => by have e2 : w.heap.size + 1 + 1 = w.heap.size := e; omega) h.outN, h2.at (fun e => by have e2 : w.heap.size + 1 + 1 + 1 = w.heap.size := e; omega) h.nd,
    h.fr.trans' h2 (fun q hq e => by have e2 : q = w.heap.size := e; omega)⟩
theorem NdR.put {w : World} {a : Option Addr} {m d : Nat} {z : Int} {b : Bool} {n : Node} {sl : Value} {wr : World} (h : NdR w a m d z b n sl wr) (i : Nat) (x : Value) (n' : Node) (sl' : Value) (he : (nodeCells n sl).setIfInBounds i x = nodeCells n' sl') :
    NdR w a m d z b n' sl' (wr.setCell ⟨w.heap.size + 1 + 1 + 1, i, none⟩ x) := by
  have h2 : Fr (fun k => k = w.heap.size + 1 + 1 + 1) wr (wr.setCell ⟨w.heap.size + 1 + 1 + 1, i, none⟩ x) := (Fr.refl (fun k => k = w.heap.size + 1 + 1 + 1) wr).setCell (p := ⟨w.heap.size + 1 + 1 + 1, i, none⟩) (fun _ => rfl) _
  refine ⟨h2.at (fun e => by have e2 : w.heap.size = w.heap.size + 1 + 1 + 1 := e; omega) h.rd, h2.at (fun e => by have e2 : w.heap.size + 1 = w.heap.size + 1 + 1 + 1 := e; omega) h.outR, h2.at (fun e => by have e2 : w.heap.size + 1 + 1 = w.heap.size + 1 + 1 + 1 := e; omega) h.outN, ?_,
    h.fr.trans' h2 (fun q hq e => by have e2 : q = w.heap.size + 1 + 1 + 1 := e; omega)⟩
  have := set_at h.nd i x
  rw [he] at this
  exact this
set_option maxHeartbeats 8000000 in
theorem refNode_any (ad : Addr) (c : Nat) (l : List UInt8) (s : Option Nat) (w : World) (h : RdY NoB w (.slice (some ad) l.length c) l) (hs : ∀ p, s = some p → p ≤ l.length) (hl : l.length ≤ 1000000) (hlc : l.length < c) :
    Calls Tryz.prog 36 #[rV (.slice (some ad) l.length c) s] w (RefNodeOut w (.slice (some ad) l.length c) (pNode l s)) := by
  obtain ⟨a0, m0, d0, z0, b0, hr0, hq1, hq2⟩ := rV_form (some ad) l.length c s
  clear hq1 hq2
  have H := hid h
  have HS0 := hid hs
  have HR0 := hid hr0
  rw [hr0]
  clear h hs hr0
  obtain ⟨s1, hs1⟩ : ∃ t, (pS l s).1 = t := ⟨_, rfl⟩
  obtain ⟨x1, hx1⟩ : ∃ t, (pS l s).2 = t := ⟨_, rfl⟩
  have HS1 : Hid (∀ p, s1 = some p → p ≤ l.length) := fun p hp => pN_ok p (hs1.trans hp)
  obtain ⟨a1, m1, d1, z1, b1, hr1, hq1, hq2⟩ := rV_form (some ad) l.length c s1
  clear hq1 hq2
  have HR1 := hid hr1
  clear hr1
  obtain ⟨s2, hs2⟩ : ∃ t, (pS l s1).1 = t := ⟨_, rfl⟩
  obtain ⟨x2, hx2⟩ : ∃ t, (pS l s1).2 = t := ⟨_, rfl⟩
  have HS2 : Hid (∀ p, s2 = some p → p ≤ l.length) := fun p hp => pN_ok p (hs2.trans hp)
  obtain ⟨a2, m2, d2, z2, b2, hr2, hq1, hq2⟩ := rV_form (some ad) l.length c s2
  clear hq1 hq2
  have HR2 := hid hr2
  clear hr2
  obtain ⟨s3, hs3⟩ : ∃ t, (pN l s2).1 = t := ⟨_, rfl⟩
  obtain ⟨x3, hx3⟩ : ∃ t, (pN l s2).2 = t := ⟨_, rfl⟩
  have HS3 : Hid (∀ p, s3 = some p → p ≤ l.length) := fun p hp => pN_ok p (hs3.trans hp)
  obtain ⟨a3, m3, d3, z3, b3, hr3, hq1, hq2⟩ := rV_form (some ad) l.length c s3
  clear hq1 hq2
  have HR3 := hid hr3
  clear hr3
  obtain ⟨s4, hs4⟩ : ∃ t, (pC l s3).1 = t := ⟨_, rfl⟩
  obtain ⟨x4, hx4⟩ : ∃ t, (pC l s3).2 = t := ⟨_, rfl⟩
  have HS4 : Hid (∀ p, s4 = some p → p ≤ l.length) := fun p hp => pC_ok p (hs4.trans hp)
  obtain ⟨a4, m4, d4, z4, b4, hr4, hq1, hq2⟩ := rV_form (some ad) l.length c s4
  clear hq1 hq2
  have HR4 := hid hr4
  clear hr4
  obtain ⟨AN, hAN⟩ : ∃ A, A = pNode l s := ⟨_, rfl⟩
  rw [← hAN]
  have HAN : Hid (AN = ((pIs l (s4.map (· + x4))).1, ⟨x1, x2, x3, ⟨(match s4 with | some p => (l.drop p).take x4 | none => []).toArray⟩, (pIs l (s4.map (· + x4))).2⟩)) := by
    show _ = _
    rw [hAN]
    unfold pNode
    simp only
    rw [hs1, hx1, hs2, hx2, hs3, hx3, hs4, hx4]
  have HRM : Hid (∀ p, s4 = some p → p + x4 ≤ l.length) := fun p hp => by rw [← hx4]; exact pC_room (hs4.trans hp)
  have hx4l : x4 ≤ l.length := by rw [← hx4]; exact pC_le l s3
  clear hAN
  have HE1 := hid hs1
  have HX1 := hid hx1
  clear hs1 hx1
  have HE2 := hid hs2
  have HX2 := hid hx2
  clear hs2 hx2
  have HE3 := hid hs3
  have HX3 := hid hx3
  clear hs3 hx3
  have HE4 := hid hs4
  have HX4 := hid hx4
  clear hs4 hx4
  have S0 : Hid (NdR w a0 m0 d0 z0 b0 ⟨0, 0, 0, ⟨#[]⟩, []⟩ (.slice none 0 0) ((((w.alloc (.cells #[.slice a0 m0 d0, .int .i64 z0, .bool b0] 72)).alloc (.cells #[.slice none 0 0, .int .i64 0, .bool false] 72)).alloc (.cells zNode 44)).alloc (.cells zNode 44))) :=
    ⟨at_old (at_old (at_old (at_new w _) _) _) _, at_old (at_old (at_new' (by simp)) _) _, at_old (at_new' (by simp)) _, at_new' (by simp), (((Fr.refl NoB w).alloc _).alloc _).alloc _ |>.alloc _⟩
  go_enter Tryz.func36, Tryz.ntmps36
  go_wp2_with fail
  have hc := integer_any _ l s _ (RdE.step H.out S0.out.fr) HS0.out hl
  rw [HR0.out, HE1.out, HX1.out, HR1.out] at hc
  refine hc.mono ?_
  clear hc
  rintro e w1 ⟨rfl, hf⟩
  have T1 := hid (S0.out.step hf)
  clear hf S0
  obtain ⟨c0, c1, c2, cf, cl⟩ := three_of T1.out.rd
  have U1 := hid (T1.out.read (a' := a1) (m' := m1) (d' := d1) (z' := z1) (b' := b1))
  obtain ⟨n0, n1, n2, n3, n4, nf, nl⟩ := five_of U1.out.nd
  have S1 := U1
  clear T1 U1
  obtain ⟨k0, k1, k2, kf, kl⟩ := three_of S1.out.rd
  go_wp2_with fail
  have hc := integer_any _ l s1 _ (RdE.step H.out S1.out.fr) HS1.out hl
  rw [HR1.out, HE2.out, HX2.out, HR2.out] at hc
  refine hc.mono ?_
  clear hc c0 c1 c2 cf cl n0 n1 n2 n3 n4 nf nl k0 k1 k2 kf kl
  rintro e w2 ⟨rfl, hf⟩
  have T2 := hid (S1.out.step hf)
  clear hf S1
  obtain ⟨c0, c1, c2, cf, cl⟩ := three_of T2.out.rd
  have U2 := hid (T2.out.read (a' := a2) (m' := m2) (d' := d2) (z' := z2) (b' := b2))
  obtain ⟨n0, n1, n2, n3, n4, nf, nl⟩ := five_of U2.out.nd
  have S2 := hid (U2.out.put 1 (.int .i64 x2) ⟨0, x2, 0, ⟨#[]⟩, []⟩ (.slice none 0 0) rfl)
  clear T2 U2
  obtain ⟨k0, k1, k2, kf, kl⟩ := three_of S2.out.rd
  go_wp2_with fail
  have hc := read_any _ l s2 _ (RdE.step H.out S2.out.fr) HS2.out hl
  rw [HR2.out, HE3.out, HX3.out, HR3.out] at hc
  refine hc.mono ?_
  clear hc c0 c1 c2 cf cl n0 n1 n2 n3 n4 nf nl k0 k1 k2 kf kl
  rintro e w3 ⟨rfl, hf⟩
  have T3 := hid (S2.out.step hf)
  clear hf S2
  obtain ⟨c0, c1, c2, cf, cl⟩ := three_of T3.out.rd
  have U3 := hid (T3.out.read (a' := a3) (m' := m3) (d' := d3) (z' := z3) (b' := b3))
  obtain ⟨n0, n1, n2, n3, n4, nf, nl⟩ := five_of U3.out.nd
  have S3 := hid (U3.out.put 2 (.int .u64 x3) ⟨0, x2, x3, ⟨#[]⟩, []⟩ (.slice none 0 0) rfl)
  clear T3 U3
  obtain ⟨k0, k1, k2, kf, kl⟩ := three_of S3.out.rd
  go_wp2_with fail
  have hc := count_any _ l s3 _ (RdE.step H.out S3.out.fr) HS3.out hl
  rw [HR3.out, HE4.out, HX4.out, HR4.out] at hc
  refine hc.mono ?_
  clear hc c0 c1 c2 cf cl n0 n1 n2 n3 n4 nf nl k0 k1 k2 kf kl
  rintro e w4 ⟨rfl, hf⟩
  have T4 := hid (S3.out.step hf)
  clear hf S3
  obtain ⟨c0, c1, c2, cf, cl⟩ := three_of T4.out.rd
  have U4 := hid (T4.out.read (a' := a4) (m' := m4) (d' := d4) (z' := z4) (b' := b4))
  obtain ⟨n0, n1, n2, n3, n4, nf, nl⟩ := five_of U4.out.nd
  have S4 := hid (U4.out.put 0 (.int .i64 x1) ⟨x1, x2, x3, ⟨#[]⟩, []⟩ (.slice none 0 0) rfl)
  clear T4 U4
  obtain ⟨k0, k1, k2, kf, kl⟩ := three_of S4.out.rd
  cases s4 with
  | none =>
    have h1 := HR4.out
    have HS5 : Hid (∀ p, (none : Option Nat) = some p → p ≤ l.length) := fun p hp => by cases hp
    simp only [rV, Value.agg.injEq, Array.mk.injEq, List.cons.injEq, Value.slice.injEq, Value.int.injEq, true_and, Value.bool.injEq, and_true] at h1; obtain ⟨⟨rfl, rfl, rfl⟩, rfl, rfl⟩ := h1
    obtain ⟨s6, hs6⟩ : ∃ t, (pIs l (none)).1 = t := ⟨_, rfl⟩
    obtain ⟨xs6, hx6⟩ : ∃ t, (pIs l (none)).2 = t := ⟨_, rfl⟩
    obtain ⟨a6, m6, d6, z6, b6, hr6, hq1, hq2⟩ := rV_form (some ad) l.length c s6
    clear hq1 hq2
    have HR6 := hid hr6
    clear hr6
    have AE : Hid (AN = (s6, ⟨x1, x2, x3, ⟨#[]⟩, xs6⟩)) := hid (by rw [HAN.out]; show ((pIs l (none)).1, Node.mk x1 x2 x3 _ (pIs l (none)).2) = _; rw [hs6, hx6])
    have HI := hid (fun (W : World) (hf : Fr NoB w W) => integers_any _ l (none) W (RdE.step H.out hf) HS5.out hl)
    have HE6 := hid hs6
    have HX6 := hid hx6
    clear hs6 hx6 HAN
    go_wp2_with fail
    have hc := HI.out _ S4.out.fr
    unfold RefIsOut at hc
    rw [HE6.out, HX6.out, HR6.out, show rV (.slice (some ad) l.length c) (none) = .agg #[.slice none 0 0, .int .i64 0, .bool true] from rfl] at hc
    refine hc.mono ?_
    clear hc c0 c1 c2 cf cl n0 n1 n2 n3 n4 nf nl k0 k1 k2 kf kl
    rintro e w5 ⟨ia, ic, rfl, hrd, hf⟩
    have L4 : w.heap.size + 1 + 1 + 1 < _ := (Array.getElem?_eq_some_iff.1 S4.out.nd).1
    have R5 : Hid (RdI (fun k => k < w.heap.size + 1 + 1 + 1 + 1) w5 (.slice ia xs6.length ic) xs6) := hid (RdI.weaken hrd (fun k _ (hk : k < _) => by show k < _; omega))
    have T5 := hid (S4.out.step hf)
    clear hf hrd L4 S4 HI
    obtain ⟨c0, c1, c2, cf, cl⟩ := three_of T5.out.rd
    have U5 := hid (T5.out.read (a' := a6) (m' := m6) (d' := d6) (z' := z6) (b' := b6))
    obtain ⟨n0, n1, n2, n3, n4, nf, nl⟩ := five_of U5.out.nd
    have S5 := hid (U5.out.put 4 (.slice ia xs6.length ic) ⟨x1, x2, x3, ⟨#[]⟩, xs6⟩ (.slice ia xs6.length ic) rfl)
    clear U5
    go_wp2_with fail
    clear c0 c1 c2 cf cl n0 n1 n2 n3 n4 nf nl
    have R6 : Hid (RdI (fun k => k < w.heap.size + 1 + 1 + 1 + 1) ((((w5.setCell ⟨w.heap.size, 0, none⟩ (.slice a6 m6 d6)).setCell ⟨w.heap.size, 1, none⟩ (.int .i64 z6)).setCell ⟨w.heap.size, 2, none⟩ (.bool b6)).setCell ⟨w.heap.size + 1 + 1 + 1, 4, none⟩ (.slice ia xs6.length ic)) (.slice ia xs6.length ic) xs6) := hid (RdI.fr R5.out (((((Fr.refl (fun k => k < w.heap.size + 1 + 1 + 1 + 1) w5).setCell (p := ⟨w.heap.size, 0, none⟩) (fun _ => by show _ < _; simp only; omega) _).setCell (p := ⟨w.heap.size, 1, none⟩) (fun _ => by show _ < _; simp only; omega) _).setCell (p := ⟨w.heap.size, 2, none⟩) (fun _ => by show _ < _; simp only; omega) _).setCell (p := ⟨w.heap.size + 1 + 1 + 1, 4, none⟩) (fun _ => by show _ < _; simp only; omega) _) (fun k _ e => e))
    obtain ⟨w6, hw6⟩ : ∃ w6, ((((w5.setCell ⟨w.heap.size, 0, none⟩ (.slice a6 m6 d6)).setCell ⟨w.heap.size, 1, none⟩ (.int .i64 z6)).setCell ⟨w.heap.size, 2, none⟩ (.bool b6)).setCell ⟨w.heap.size + 1 + 1 + 1, 4, none⟩ (.slice ia xs6.length ic)) = w6 := ⟨_, rfl⟩
    rw [hw6] at S5 R6 ⊢
    clear hw6 R5 T5
    have S6 := hid (S5.out.step (Fr.refl NoB w6).drew)
    have R7 := hid (RdI.fr R6.out (Fr.refl (fun k => k < w.heap.size + 1 + 1 + 1 + 1) w6).drew (fun k _ e => e))
    clear S5 R6
    obtain ⟨k0, k1, k2, kf, kl⟩ := three_of S6.out.rd
    obtain ⟨n0, n1, n2, n3, n4, nf, nl⟩ := five_of S6.out.nd
    refine region_eff (fun w' => w'.cell? ⟨w.heap.size, 0, none⟩ = some (.slice a6 m6 d6) ∧ w'.cell? ⟨w.heap.size, 1, none⟩ = some (.int .i64 z6) ∧ w'.cell? ⟨w.heap.size, 2, none⟩ = some (.bool b6) ∧ w'.cell? ⟨w.heap.size + 1 + 1 + 1, 0, none⟩ = some (.int .i64 x1) ∧ w'.cell? ⟨w.heap.size + 1 + 1 + 1, 1, none⟩ = some (.int .i64 x2) ∧ w'.cell? ⟨w.heap.size + 1 + 1 + 1, 2, none⟩ = some (.int .u64 x3) ∧ w'.cell? ⟨w.heap.size + 1 + 1 + 1, 3, none⟩ = some (.string ⟨#[]⟩) ∧ w'.cell? ⟨w.heap.size + 1 + 1 + 1, 4, none⟩ = some (.slice ia xs6.length ic)) 3 [(0, 0), (1, 0), (2, 2), (3, 2)] (by kernel_rfl) (by kernel_rfl) ?_ ?_
    · exact ⟨k0, k1, k2, n0, n1, n2, n3, n4⟩
    clear k0 k1 k2 kf kl n0 n1 n2 n3 n4 nf nl
    obtain ⟨wd, hwd⟩ : ∃ wd, w6.drew = wd := ⟨_, rfl⟩
    rw [hwd] at S6 R7 ⊢
    clear hwd
    obtain ⟨o0, o1, o2, of, ol⟩ := three_of S6.out.outR
    repeat (first | (refine eff_off (by rfl) (by rfl) ?_; (try simp only [Act.put, List.setIfInBounds_toArray, List.set_cons_zero, List.set_cons_succ])) | (refine eff_off0 (by rfl) (by rfl) ?_; (try simp only [Act.put, List.setIfInBounds_toArray, List.set_cons_zero, List.set_cons_succ])) | (refine eff_pu ?_ (by rfl) (by rfl) ?_ ?_; rotate_left; (focus (intro w'; go_simp; (try with_reducible rfl); done)); (try simp only [Act.put, List.setIfInBounds_toArray, List.set_cons_zero, List.set_cons_succ])) | (refine eff_rd ?_ (by rfl) (by rfl) ?_ ?_; rotate_left; (focus (intro w' hS; (try obtain ⟨hq1, hS⟩ := hS); (try obtain ⟨hq2, hS⟩ := hS); (try obtain ⟨hq3, hS⟩ := hS); (try obtain ⟨hq4, hS⟩ := hS); (try obtain ⟨hq5, hS⟩ := hS); (try obtain ⟨hq6, hS⟩ := hS); (try obtain ⟨hq7, hS⟩ := hS); (try obtain ⟨hq8, hS⟩ := hS); (try obtain ⟨hq9, hS⟩ := hS); (try obtain ⟨hq10, hS⟩ := hS); (try obtain ⟨hq11, hS⟩ := hS); (try obtain ⟨hq12, hS⟩ := hS); (try obtain ⟨hq13, hS⟩ := hS); (try obtain ⟨hq14, hS⟩ := hS); (try obtain ⟨hq15, hS⟩ := hS); (try obtain ⟨hq16, hS⟩ := hS); (try obtain ⟨hq17, hS⟩ := hS); (try obtain ⟨hq18, hS⟩ := hS); (try obtain ⟨hq19, hS⟩ := hS); (try dsimp only at hS); go_simp; (try with_reducible rfl); done)); (try simp only [Act.put, List.setIfInBounds_toArray, List.set_cons_zero, List.set_cons_succ])))
    obtain ⟨q1, g1⟩ := st3 (x := .slice a6 m6 d6) (y := .int .i64 z6) (z := .bool b6) S6.out.outR
    have V1 := hid q1
    have D1 := hid (g1.at (fun e => by have e2 : w.heap.size = w.heap.size + 1 := e; omega) S6.out.rd)
    have E1 := hid (g1.at (fun e => by have e2 : w.heap.size + 1 + 1 + 1 = w.heap.size + 1 := e; omega) S6.out.nd)
    have N1 := hid (g1.at (fun e => by have e2 : w.heap.size + 1 + 1 = w.heap.size + 1 := e; omega) S6.out.outN)
    have F7 := hid (S6.out.fr.trans' g1 (fun q hq e => by have e2 : q = w.heap.size + 1 := e; omega))
    have R8 := hid (RdI.fr R7.out g1 (fun k _ e => by have e2 : k = w.heap.size + 1 := e; show k < _; omega))
    clear q1 g1 R7 S6
    obtain ⟨p0, p1, p2, pf, pl⟩ := three_of D1.out
    obtain ⟨u0, u1, u2, u3, u4, uf, ul⟩ := five_of E1.out
    refine eff_skip (W' := (((wd.setCell ⟨w.heap.size + 1, 0, none⟩ (.slice a6 m6 d6)).setCell ⟨w.heap.size + 1, 1, none⟩ (.int .i64 z6)).setCell ⟨w.heap.size + 1, 2, none⟩ (.bool b6))) (by rfl) (by rfl) (by go_simp) (fun _ => ⟨p0, p1, p2, u0, u1, u2, u3, u4⟩) ?_
    (try simp only [Act.put, List.setIfInBounds_toArray, List.set_cons_zero, List.set_cons_succ])
    clear o0 o1 o2 of ol p0 p1 p2 pf pl u0 u1 u2 u3 u4 uf ul
    obtain ⟨w7, hw7⟩ : ∃ w7, (((wd.setCell ⟨w.heap.size + 1, 0, none⟩ (.slice a6 m6 d6)).setCell ⟨w.heap.size + 1, 1, none⟩ (.int .i64 z6)).setCell ⟨w.heap.size + 1, 2, none⟩ (.bool b6)) = w7 := ⟨_, rfl⟩
    rw [hw7] at V1 D1 E1 N1 F7 R8 ⊢
    clear hw7
    obtain ⟨q2, g2⟩ := st5 (x := .int .i64 x1) (y := .int .i64 x2) (z := .int .u64 x3) (s := .string ⟨#[]⟩) (t := .slice ia xs6.length ic) N1.out
    have V2 := hid (g2.at (fun e => by have e2 : w.heap.size + 1 = w.heap.size + 1 + 1 := e; omega) V1.out)
    have N2 := hid q2
    have F8 := hid (F7.out.trans' g2 (fun q hq e => by have e2 : q = w.heap.size + 1 + 1 := e; omega))
    have R9 := hid (RdI.fr R8.out g2 (fun k _ e => by have e2 : k = w.heap.size + 1 + 1 := e; show k < _; omega))
    clear q2 g2
    obtain ⟨u0, u1, u2, u3, u4, uf, ul⟩ := five_of N1.out
    refine eff_skip (W' := (((((w7.setCell ⟨w.heap.size + 1 + 1, 0, none⟩ (.int .i64 x1)).setCell ⟨w.heap.size + 1 + 1, 1, none⟩ (.int .i64 x2)).setCell ⟨w.heap.size + 1 + 1, 2, none⟩ (.int .u64 x3)).setCell ⟨w.heap.size + 1 + 1, 3, none⟩ (.string ⟨#[]⟩)).setCell ⟨w.heap.size + 1 + 1, 4, none⟩ (.slice ia xs6.length ic))) (by rfl) (by rfl) (by go_simp) (fun h => absurd rfl h) ?_
    (try simp only [Act.put, List.setIfInBounds_toArray, List.set_cons_zero, List.set_cons_succ])
    refine eff_nil ?_
    clear u0 u1 u2 u3 u4 uf ul
    obtain ⟨w8, hw8⟩ : ∃ w8, (((((w7.setCell ⟨w.heap.size + 1 + 1, 0, none⟩ (.int .i64 x1)).setCell ⟨w.heap.size + 1 + 1, 1, none⟩ (.int .i64 x2)).setCell ⟨w.heap.size + 1 + 1, 2, none⟩ (.int .u64 x3)).setCell ⟨w.heap.size + 1 + 1, 3, none⟩ (.string ⟨#[]⟩)).setCell ⟨w.heap.size + 1 + 1, 4, none⟩ (.slice ia xs6.length ic)) = w8 := ⟨_, rfl⟩
    rw [hw8] at V2 N2 F8 R9 ⊢
    clear hw8
    obtain ⟨v0, v1, v2, vf, vl⟩ := three_of V2.out
    obtain ⟨u0, u1, u2, u3, u4, uf, ul⟩ := five_of N2.out
    go_wp2_with fail
    refine bodyPost_ret (v := .tuple #[.agg #[.slice a6 m6 d6, .int .i64 z6, .bool b6], nodeV ⟨x1, x2, x3, ⟨#[]⟩, xs6⟩ (.slice ia xs6.length ic)]) (by simp [results, Tryz.results36, go_sem, v0, v1, v2, u0, u1, u2, u3, u4]) rfl ?_
    exact ⟨ia, ic, by rw [AE.out]; dsimp only; rw [HR6.out], by rw [AE.out]; exact RdI.weaken R9.out (fun k _ hk => by show k < _; omega), F8.out⟩
  | some p =>
    have h1 := HR4.out
    simp only [rV, Value.agg.injEq, Array.mk.injEq, List.cons.injEq, Value.slice.injEq, Value.int.injEq, true_and, Value.bool.injEq, and_true] at h1; obtain ⟨⟨rfl, rfl, rfl⟩, rfl, rfl⟩ := h1
    have hpx : p + x4 ≤ l.length := HRM.out p rfl
    have HS5 : Hid (∀ q, some (p + x4) = some q → q ≤ l.length) := fun q hq => by cases hq; omega
    have CV : Hid (∀ W, Fr NoB w W → (convert 27 9 (.slice (some (ad.add p)) x4 (c - p))).run Tryz.prog W = .ok (.string ⟨((l.drop p).take x4).toArray⟩) W) := fun W hf => by
      have h9 := RdY.dropF (RdE.step H.out hf) (k := p) (by omega)
      unfold dropA at h9
      rw [if_neg (by omega)] at h9
      exact conv_take h9 (by rw [List.length_drop]; omega)
    have cv := CV.out _ S4.out.fr
    clear CV HRM
    obtain ⟨nm, hnm⟩ : ∃ nm : ByteArray, nm = ⟨((l.drop p).take x4).toArray⟩ := ⟨_, rfl⟩
    rw [← hnm] at cv
    have HNM := hid hnm
    clear hnm
    obtain ⟨y0, y1, y2, y3, y4, yf, yl⟩ := five_of S4.out.nd
    have S5 := hid (S4.out.put 3 (.string nm) ⟨x1, x2, x3, nm, []⟩ (.slice none 0 0) rfl)
    have S6 := hid (S5.out.mv (z' := (p : Int) + (x4 : Int)))
    obtain ⟨r0, r1, r2, rf, rl⟩ := three_of S5.out.rd
    obtain ⟨v0, v1, v2, vf, vl⟩ := three_of S6.out.rd
    clear S4 S5
    have hcp : ¬ c = p := by omega
    dsimp only
    repeat (first | go_values | go_skip | go_guarded | go_step | go_upon)
    go_simp
    repeat (first | go_values | go_skip | go_guarded | go_step | go_upon)
    clear r0 r1 r2 rf rl y0 y1 y2 y3 y4 yf yl v0 v1 v2 vf vl cv
    obtain ⟨s6, hs6⟩ : ∃ t, (pIs l (some (p + x4))).1 = t := ⟨_, rfl⟩
    obtain ⟨xs6, hx6⟩ : ∃ t, (pIs l (some (p + x4))).2 = t := ⟨_, rfl⟩
    obtain ⟨a6, m6, d6, z6, b6, hr6, hq1, hq2⟩ := rV_form (some ad) l.length c s6
    clear hq1 hq2
    have HR6 := hid hr6
    clear hr6
    have AE : Hid (AN = (s6, ⟨x1, x2, x3, nm, xs6⟩)) := hid (by rw [HAN.out]; show ((pIs l (some (p + x4))).1, Node.mk x1 x2 x3 _ (pIs l (some (p + x4))).2) = _; rw [hs6, hx6] <;> rw [HNM.out])
    have HI := hid (fun (W : World) (hf : Fr NoB w W) => integers_any _ l (some (p + x4)) W (RdE.step H.out hf) HS5.out hl)
    have HE6 := hid hs6
    have HX6 := hid hx6
    clear hs6 hx6 HAN
    go_wp2_with fail
    have hc := HI.out _ S6.out.fr
    unfold RefIsOut at hc
    rw [HE6.out, HX6.out, HR6.out, show rV (.slice (some ad) l.length c) (some (p + x4)) = .agg #[.slice (some ad) l.length c, .int .i64 ((p : Int) + (x4 : Int)), .bool false] from rfl] at hc
    refine hc.mono ?_
    clear hc c0 c1 c2 cf cl n0 n1 n2 n3 n4 nf nl k0 k1 k2 kf kl
    rintro e w5 ⟨ia, ic, rfl, hrd, hf⟩
    have L4 : w.heap.size + 1 + 1 + 1 < _ := (Array.getElem?_eq_some_iff.1 S6.out.nd).1
    have R5 : Hid (RdI (fun k => k < w.heap.size + 1 + 1 + 1 + 1) w5 (.slice ia xs6.length ic) xs6) := hid (RdI.weaken hrd (fun k _ (hk : k < _) => by show k < _; omega))
    have T5 := hid (S6.out.step hf)
    clear hf hrd L4 S6 HI
    obtain ⟨c0, c1, c2, cf, cl⟩ := three_of T5.out.rd
    have U5 := hid (T5.out.read (a' := a6) (m' := m6) (d' := d6) (z' := z6) (b' := b6))
    obtain ⟨n0, n1, n2, n3, n4, nf, nl⟩ := five_of U5.out.nd
    have S5 := hid (U5.out.put 4 (.slice ia xs6.length ic) ⟨x1, x2, x3, nm, xs6⟩ (.slice ia xs6.length ic) rfl)
    clear U5
    go_wp2_with fail
    clear c0 c1 c2 cf cl n0 n1 n2 n3 n4 nf nl
    have R6 : Hid (RdI (fun k => k < w.heap.size + 1 + 1 + 1 + 1) ((((w5.setCell ⟨w.heap.size, 0, none⟩ (.slice a6 m6 d6)).setCell ⟨w.heap.size, 1, none⟩ (.int .i64 z6)).setCell ⟨w.heap.size, 2, none⟩ (.bool b6)).setCell ⟨w.heap.size + 1 + 1 + 1, 4, none⟩ (.slice ia xs6.length ic)) (.slice ia xs6.length ic) xs6) := hid (RdI.fr R5.out (((((Fr.refl (fun k => k < w.heap.size + 1 + 1 + 1 + 1) w5).setCell (p := ⟨w.heap.size, 0, none⟩) (fun _ => by show _ < _; simp only; omega) _).setCell (p := ⟨w.heap.size, 1, none⟩) (fun _ => by show _ < _; simp only; omega) _).setCell (p := ⟨w.heap.size, 2, none⟩) (fun _ => by show _ < _; simp only; omega) _).setCell (p := ⟨w.heap.size + 1 + 1 + 1, 4, none⟩) (fun _ => by show _ < _; simp only; omega) _) (fun k _ e => e))
    obtain ⟨w6, hw6⟩ : ∃ w6, ((((w5.setCell ⟨w.heap.size, 0, none⟩ (.slice a6 m6 d6)).setCell ⟨w.heap.size, 1, none⟩ (.int .i64 z6)).setCell ⟨w.heap.size, 2, none⟩ (.bool b6)).setCell ⟨w.heap.size + 1 + 1 + 1, 4, none⟩ (.slice ia xs6.length ic)) = w6 := ⟨_, rfl⟩
    rw [hw6] at S5 R6 ⊢
    clear hw6 R5 T5
    have S6 := hid (S5.out.step (Fr.refl NoB w6).drew)
    have R7 := hid (RdI.fr R6.out (Fr.refl (fun k => k < w.heap.size + 1 + 1 + 1 + 1) w6).drew (fun k _ e => e))
    clear S5 R6
    obtain ⟨k0, k1, k2, kf, kl⟩ := three_of S6.out.rd
    obtain ⟨n0, n1, n2, n3, n4, nf, nl⟩ := five_of S6.out.nd
    refine region_eff (fun w' => w'.cell? ⟨w.heap.size, 0, none⟩ = some (.slice a6 m6 d6) ∧ w'.cell? ⟨w.heap.size, 1, none⟩ = some (.int .i64 z6) ∧ w'.cell? ⟨w.heap.size, 2, none⟩ = some (.bool b6) ∧ w'.cell? ⟨w.heap.size + 1 + 1 + 1, 0, none⟩ = some (.int .i64 x1) ∧ w'.cell? ⟨w.heap.size + 1 + 1 + 1, 1, none⟩ = some (.int .i64 x2) ∧ w'.cell? ⟨w.heap.size + 1 + 1 + 1, 2, none⟩ = some (.int .u64 x3) ∧ w'.cell? ⟨w.heap.size + 1 + 1 + 1, 3, none⟩ = some (.string nm) ∧ w'.cell? ⟨w.heap.size + 1 + 1 + 1, 4, none⟩ = some (.slice ia xs6.length ic)) 3 [(0, 0), (1, 0), (2, 2), (3, 2)] (by kernel_rfl) (by kernel_rfl) ?_ ?_
    · exact ⟨k0, k1, k2, n0, n1, n2, n3, n4⟩
    clear k0 k1 k2 kf kl n0 n1 n2 n3 n4 nf nl
    obtain ⟨wd, hwd⟩ : ∃ wd, w6.drew = wd := ⟨_, rfl⟩
    rw [hwd] at S6 R7 ⊢
    clear hwd
    obtain ⟨o0, o1, o2, of, ol⟩ := three_of S6.out.outR
    repeat (first | (refine eff_off (by rfl) (by rfl) ?_; (try simp only [Act.put, List.setIfInBounds_toArray, List.set_cons_zero, List.set_cons_succ])) | (refine eff_off0 (by rfl) (by rfl) ?_; (try simp only [Act.put, List.setIfInBounds_toArray, List.set_cons_zero, List.set_cons_succ])) | (refine eff_pu ?_ (by rfl) (by rfl) ?_ ?_; rotate_left; (focus (intro w'; go_simp; (try with_reducible rfl); done)); (try simp only [Act.put, List.setIfInBounds_toArray, List.set_cons_zero, List.set_cons_succ])) | (refine eff_rd ?_ (by rfl) (by rfl) ?_ ?_; rotate_left; (focus (intro w' hS; (try obtain ⟨hq1, hS⟩ := hS); (try obtain ⟨hq2, hS⟩ := hS); (try obtain ⟨hq3, hS⟩ := hS); (try obtain ⟨hq4, hS⟩ := hS); (try obtain ⟨hq5, hS⟩ := hS); (try obtain ⟨hq6, hS⟩ := hS); (try obtain ⟨hq7, hS⟩ := hS); (try obtain ⟨hq8, hS⟩ := hS); (try obtain ⟨hq9, hS⟩ := hS); (try obtain ⟨hq10, hS⟩ := hS); (try obtain ⟨hq11, hS⟩ := hS); (try obtain ⟨hq12, hS⟩ := hS); (try obtain ⟨hq13, hS⟩ := hS); (try obtain ⟨hq14, hS⟩ := hS); (try obtain ⟨hq15, hS⟩ := hS); (try obtain ⟨hq16, hS⟩ := hS); (try obtain ⟨hq17, hS⟩ := hS); (try obtain ⟨hq18, hS⟩ := hS); (try obtain ⟨hq19, hS⟩ := hS); (try dsimp only at hS); go_simp; (try with_reducible rfl); done)); (try simp only [Act.put, List.setIfInBounds_toArray, List.set_cons_zero, List.set_cons_succ])))
    obtain ⟨q1, g1⟩ := st3 (x := .slice a6 m6 d6) (y := .int .i64 z6) (z := .bool b6) S6.out.outR
    have V1 := hid q1
    have D1 := hid (g1.at (fun e => by have e2 : w.heap.size = w.heap.size + 1 := e; omega) S6.out.rd)
    have E1 := hid (g1.at (fun e => by have e2 : w.heap.size + 1 + 1 + 1 = w.heap.size + 1 := e; omega) S6.out.nd)
    have N1 := hid (g1.at (fun e => by have e2 : w.heap.size + 1 + 1 = w.heap.size + 1 := e; omega) S6.out.outN)
    have F7 := hid (S6.out.fr.trans' g1 (fun q hq e => by have e2 : q = w.heap.size + 1 := e; omega))
    have R8 := hid (RdI.fr R7.out g1 (fun k _ e => by have e2 : k = w.heap.size + 1 := e; show k < _; omega))
    clear q1 g1 R7 S6
    obtain ⟨p0, p1, p2, pf, pl⟩ := three_of D1.out
    obtain ⟨u0, u1, u2, u3, u4, uf, ul⟩ := five_of E1.out
    refine eff_skip (W' := (((wd.setCell ⟨w.heap.size + 1, 0, none⟩ (.slice a6 m6 d6)).setCell ⟨w.heap.size + 1, 1, none⟩ (.int .i64 z6)).setCell ⟨w.heap.size + 1, 2, none⟩ (.bool b6))) (by rfl) (by rfl) (by go_simp) (fun _ => ⟨p0, p1, p2, u0, u1, u2, u3, u4⟩) ?_
    (try simp only [Act.put, List.setIfInBounds_toArray, List.set_cons_zero, List.set_cons_succ])
    clear o0 o1 o2 of ol p0 p1 p2 pf pl u0 u1 u2 u3 u4 uf ul
    obtain ⟨w7, hw7⟩ : ∃ w7, (((wd.setCell ⟨w.heap.size + 1, 0, none⟩ (.slice a6 m6 d6)).setCell ⟨w.heap.size + 1, 1, none⟩ (.int .i64 z6)).setCell ⟨w.heap.size + 1, 2, none⟩ (.bool b6)) = w7 := ⟨_, rfl⟩
    rw [hw7] at V1 D1 E1 N1 F7 R8 ⊢
    clear hw7
    obtain ⟨q2, g2⟩ := st5 (x := .int .i64 x1) (y := .int .i64 x2) (z := .int .u64 x3) (s := .string nm) (t := .slice ia xs6.length ic) N1.out
    have V2 := hid (g2.at (fun e => by have e2 : w.heap.size + 1 = w.heap.size + 1 + 1 := e; omega) V1.out)
    have N2 := hid q2
    have F8 := hid (F7.out.trans' g2 (fun q hq e => by have e2 : q = w.heap.size + 1 + 1 := e; omega))
    have R9 := hid (RdI.fr R8.out g2 (fun k _ e => by have e2 : k = w.heap.size + 1 + 1 := e; show k < _; omega))
    clear q2 g2
    obtain ⟨u0, u1, u2, u3, u4, uf, ul⟩ := five_of N1.out
    refine eff_skip (W' := (((((w7.setCell ⟨w.heap.size + 1 + 1, 0, none⟩ (.int .i64 x1)).setCell ⟨w.heap.size + 1 + 1, 1, none⟩ (.int .i64 x2)).setCell ⟨w.heap.size + 1 + 1, 2, none⟩ (.int .u64 x3)).setCell ⟨w.heap.size + 1 + 1, 3, none⟩ (.string nm)).setCell ⟨w.heap.size + 1 + 1, 4, none⟩ (.slice ia xs6.length ic))) (by rfl) (by rfl) (by go_simp) (fun h => absurd rfl h) ?_
    (try simp only [Act.put, List.setIfInBounds_toArray, List.set_cons_zero, List.set_cons_succ])
    refine eff_nil ?_
    clear u0 u1 u2 u3 u4 uf ul
    obtain ⟨w8, hw8⟩ : ∃ w8, (((((w7.setCell ⟨w.heap.size + 1 + 1, 0, none⟩ (.int .i64 x1)).setCell ⟨w.heap.size + 1 + 1, 1, none⟩ (.int .i64 x2)).setCell ⟨w.heap.size + 1 + 1, 2, none⟩ (.int .u64 x3)).setCell ⟨w.heap.size + 1 + 1, 3, none⟩ (.string nm)).setCell ⟨w.heap.size + 1 + 1, 4, none⟩ (.slice ia xs6.length ic)) = w8 := ⟨_, rfl⟩
    rw [hw8] at V2 N2 F8 R9 ⊢
    clear hw8
    obtain ⟨v0, v1, v2, vf, vl⟩ := three_of V2.out
    obtain ⟨u0, u1, u2, u3, u4, uf, ul⟩ := five_of N2.out
    go_wp2_with fail
    refine bodyPost_ret (v := .tuple #[.agg #[.slice a6 m6 d6, .int .i64 z6, .bool b6], nodeV ⟨x1, x2, x3, nm, xs6⟩ (.slice ia xs6.length ic)]) (by simp [results, Tryz.results36, go_sem, v0, v1, v2, u0, u1, u2, u3, u4]) rfl ?_
    exact ⟨ia, ic, by rw [AE.out]; dsimp only; rw [HR6.out], by rw [AE.out]; exact RdI.weaken R9.out (fun k _ hk => by show k < _; omega), F8.out⟩
end Go.Proofs.YtndfncaoejbkiaaGreatDoor
end
section
/- The reference's reading, and the plain reading. -/
namespace Go.Proofs.YtndfncaoejbkiaaGreatDoor
open Go.RowKit

/-- A reading from where the reader stands (f) answers as the plain one (g). -/
def AgF {α : Type} (l : List UInt8) (r : Option Nat × α) (g : Option (α × List Nat)) : Prop :=
  match g with
  | none => r.1 = none
  | some p => ∃ q, q ≤ l.length ∧ p.2 = (nats l).drop q ∧ r = (some q, p.1)
def Ag {α : Type} (l : List UInt8) (f : Option Nat → Option Nat × α) (g : List Nat → Option (α × List Nat)) : Prop :=
  (f none).1 = none ∧ ∀ p, p ≤ l.length → AgF l (f (some p)) (g ((nats l).drop p))
theorem AgF.some {α : Type} {l : List UInt8} {r : Option Nat × α} {p : α × List Nat} (h : AgF l r (some p)) : ∃ q, q ≤ l.length ∧ p.2 = (nats l).drop q ∧ r = (some q, p.1) := h
theorem AgF.none {α : Type} {l : List UInt8} {r : Option Nat × α} (h : AgF l r none) : r.1 = none := h
theorem pN_ag (l : List UInt8) : Ag l (pN l) rdN := by
  refine ⟨rfl, fun p hp => ?_⟩
  cases hr : rdN ((nats l).drop p) with
  | none =>
    show (pN l (Option.some p)).1 = Option.none
    rw [pN_none hr]
  | some q =>
    obtain ⟨j, _, hj, h2⟩ := rdN_rest hr
    rw [List.length_drop, List.length_map] at hj
    have e : l.length - q.2.length = p + j := by rw [h2, List.length_drop, List.length_drop, List.length_map]; omega
    refine ⟨p + j, by omega, ?_, ?_⟩
    · rw [h2, List.drop_drop]
    · rw [pN_some hr, e]
theorem pS_ag (l : List UInt8) : Ag l (pS l) rdS := by
  refine ⟨rfl, fun p hp => ?_⟩
  have h := (pN_ag l).2 p hp
  unfold rdS
  cases hr : rdN ((nats l).drop p) with
  | none =>
    rw [hr] at h
    exact h.none
  | some q =>
    rw [hr] at h
    obtain ⟨j, h1, h2, h3⟩ := h.some
    refine ⟨j, h1, h2, ?_⟩
    unfold pS
    rw [h3]
theorem pC_ag (l : List UInt8) : Ag l (pC l) rdC := by
  refine ⟨rfl, fun p hp => ?_⟩
  have h := (pN_ag l).2 p hp
  unfold rdC
  cases hr : rdN ((nats l).drop p) with
  | none =>
    rw [hr] at h
    show (pC l (Option.some p)).1 = Option.none
    rw [pC_of_none h.none]
  | some q =>
    rw [hr] at h
    obtain ⟨j, h1, h2, h3⟩ := h.some
    rw [Option.bind_some]
    have e1 : (pN l (Option.some p)).1 = Option.some j := by rw [h3]
    have e2 : (pN l (Option.some p)).2 = q.1 := by rw [h3]
    have e3 : q.2.length = l.length - j := by rw [h2, List.length_drop, List.length_map]
    by_cases hc : q.1 ≤ q.2.length
    · rw [if_pos hc]
      refine ⟨j, h1, h2, ?_⟩
      rw [pC_of_some e1, e2, if_pos (by omega)]
    · rw [if_neg hc]
      show (pC l (Option.some p)).1 = Option.none
      rw [pC_of_some e1, e2, if_neg (by omega)]
/-- k readings. -/
def pMany {α : Type} (f : Option Nat → Option Nat × α) : Nat → Option Nat → List α → Option Nat × List α
  | 0, s, xs => (s, xs)
  | _ + 1, none, xs => (none, xs)
  | k + 1, some p, xs => pMany f k (f (some p)).1 (xs ++ [(f (some p)).2])
theorem pMany_none {α : Type} (f : Option Nat → Option Nat × α) (k : Nat) (xs : List α) : pMany f k none xs = (none, xs) := by cases k <;> rfl
theorem pMany_step {α : Type} {f : Option Nat → Option Nat × α} {n k p : Nat} {xs : List α} (h : k < n) : pMany f (n - k) (some p) xs = pMany f (n - (k + 1)) (f (some p)).1 (xs ++ [(f (some p)).2]) := by
  rw [show n - k = (n - (k + 1)) + 1 by omega, pMany]
theorem pGo_many (l : List UInt8) : ∀ (k : Nat) (s : Option Nat) (xs : List Int), pGo l k s xs = pMany (pS l) k s xs
  | 0, s, xs => rfl
  | k + 1, none, xs => rfl
  | k + 1, some p, xs => by unfold pGo pMany; exact pGo_many l k _ _
theorem pMany_ok {α : Type} {l : List UInt8} {f : Option Nat → Option Nat × α} (hf : ∀ s p, (f s).1 = some p → p ≤ l.length) : ∀ (k : Nat) (s : Option Nat) (xs : List α), (∀ p, s = some p → p ≤ l.length) → ∀ p, (pMany f k s xs).1 = some p → p ≤ l.length
  | 0, s, xs, h, p, hp => h p hp
  | k + 1, none, xs, h, p, hp => by cases hp
  | k + 1, some q, xs, h, p, hp => pMany_ok hf k _ _ (fun p hp => hf _ p hp) p hp
theorem pMany_ag {α : Type} {l : List UInt8} {f : Option Nat → Option Nat × α} {g : List Nat → Option (α × List Nat)} (h : Ag l f g) :
    ∀ (k : Nat) (p : Nat) (xs : List α), p ≤ l.length → AgF l (pMany f k (some p) xs) ((rdMany g k ((nats l).drop p)).map (fun q => (xs ++ q.1, q.2)))
  | 0, p, xs, hp => ⟨p, hp, rfl, by simp [pMany]⟩
  | k + 1, p, xs, hp => by
    have h1 := h.2 p hp
    rw [rdMany, pMany]
    cases hr : g ((nats l).drop p) with
    | none =>
      rw [hr] at h1
      show (pMany f k (f (some p)).1 (xs ++ [(f (some p)).2])).1 = none
      rw [h1.none, pMany_none]
    | some q =>
      rw [hr] at h1
      obtain ⟨j, j1, j2, j3⟩ := h1.some
      rw [Option.bind_some, j2, j3]
      simp only
      have h2 := pMany_ag h k j (xs ++ [q.1]) j1
      rw [Option.map_map]
      have e : ((fun q => (xs ++ q.1, q.2)) ∘ fun r : List α × List Nat => (q.1 :: r.1, r.2)) = fun r => (xs ++ [q.1] ++ r.1, r.2) := by funext r; simp
      rw [e]
      exact h2
theorem pMany_ag0 {α : Type} {l : List UInt8} {f : Option Nat → Option Nat × α} {g : List Nat → Option (α × List Nat)} (h : Ag l f g) (k p : Nat) (hp : p ≤ l.length) : AgF l (pMany f k (some p) []) (rdMany g k ((nats l).drop p)) := by
  have h1 := pMany_ag h k p [] hp
  have e : (fun q : List α × List Nat => (([] : List α) ++ q.1, q.2)) = id := by funext q; rfl
  rw [e, Option.map_id] at h1
  exact h1
/-- A count, and as many readings. -/
theorem pCnt_ag {α : Type} {l : List UInt8} {f : Option Nat → Option Nat × α} {g : List Nat → Option (α × List Nat)} (h : Ag l f g) : Ag l (fun s => pMany f (pC l s).2 (pC l s).1 []) (fun m => (rdC m).bind fun c => rdMany g c.1 c.2) := by
  refine ⟨by show (pMany f 0 none []).1 = none; rfl, fun p hp => ?_⟩
  have h1 := (pC_ag l).2 p hp
  simp only
  cases hr : rdC ((nats l).drop p) with
  | none =>
    rw [hr] at h1
    show (pMany f _ _ []).1 = none
    rw [h1.none, pMany_none]
  | some q =>
    rw [hr] at h1
    obtain ⟨j, j1, j2, j3⟩ := h1.some
    rw [Option.bind_some, j3, j2]
    exact pMany_ag0 h q.1 j j1
theorem pIs_ag (l : List UInt8) : Ag l (pIs l) (fun m => (rdC m).bind fun c => rdMany rdS c.1 c.2) := by
  have h := pCnt_ag (pS_ag l)
  have e : pIs l = fun s => pMany (pS l) (pC l s).2 (pC l s).1 [] := by funext s; unfold pIs; rw [pGo_many]
  rw [e]
  exact h
theorem pIs_none (l : List UInt8) : (pIs l none).1 = none := (pIs_ag l).1
theorem pNode_ag (l : List UInt8) : Ag l (pNode l) rdNode := by
  have hpn : ∀ s, (pC l (pN l (pS l (pS l s).1).1).1).1 = none → (pNode l s).1 = none := fun s h => by
    unfold pNode
    simp only [h, Option.map_none]
    exact pIs_none l
  have e1 : ∀ s, (pN l (pS l (pS l s).1).1).1 = none → (pNode l s).1 = none := fun s h => hpn s (by rw [h]; rfl)
  have e2 : ∀ s, (pS l (pS l s).1).1 = none → (pNode l s).1 = none := fun s h => e1 s (by rw [h]; rfl)
  have e3 : ∀ s, (pS l s).1 = none → (pNode l s).1 = none := fun s h => e2 s (by rw [h]; rfl)
  refine ⟨e3 none rfl, fun p hp => ?_⟩
  unfold rdNode
  have h0 := (pS_ag l).2 p hp
  cases hr0 : rdS ((nats l).drop p) with
  | none => rw [hr0] at h0; exact e3 _ h0.none
  | some p0 =>
  rw [hr0] at h0
  obtain ⟨q0, b0, r0, f0⟩ := h0.some
  rw [Option.bind_some, r0]
  have h1 := (pS_ag l).2 q0 b0
  cases hr1 : rdS ((nats l).drop q0) with
  | none => rw [hr1] at h1; exact e2 _ (by rw [f0]; exact h1.none)
  | some p1 =>
  rw [hr1] at h1
  obtain ⟨q1, b1, r1, f1⟩ := h1.some
  rw [Option.bind_some, r1]
  have h2 := (pN_ag l).2 q1 b1
  cases hr2 : rdN ((nats l).drop q1) with
  | none => rw [hr2] at h2; exact e1 _ (by rw [f0, f1]; exact h2.none)
  | some p2 =>
  rw [hr2] at h2
  obtain ⟨q2, b2, r2, f2⟩ := h2.some
  rw [Option.bind_some, r2]
  have h3 := (pC_ag l).2 q2 b2
  cases hr3 : rdC ((nats l).drop q2) with
  | none => rw [hr3] at h3; exact hpn _ (by rw [f0, f1, f2]; exact h3.none)
  | some p3 =>
  rw [hr3] at h3
  obtain ⟨q3, b3, r3, f3⟩ := h3.some
  have hle := (rdC_le hr3).2
  rw [r3, List.length_drop, List.length_map] at hle
  rw [Option.bind_some, r3]
  have h4 := (pIs_ag l).2 (q3 + p3.1) (by omega)
  rw [List.drop_drop]
  have hN : pNode l (some p) = ((pIs l (some (q3 + p3.1))).1, ⟨p0.1, p1.1, p2.1, ⟨((l.drop q3).take p3.1).toArray⟩, (pIs l (some (q3 + p3.1))).2⟩) := by
    unfold pNode
    rw [f0]; simp only
    rw [f1]; simp only
    rw [f2]; simp only
    rw [f3]; simp only [Option.map_some]
  rw [hN]
  have hnm : (((nats l).drop q3).take p3.1).map UInt8.ofNat = (l.drop q3).take p3.1 := by
    rw [← List.map_drop, ← List.map_take, List.map_map]
    have : (UInt8.ofNat ∘ fun x : UInt8 => x.toNat) = id := by funext x; simp
    rw [this, List.map_id]
  cases hr4 : rdC ((nats l).drop (q3 + p3.1)) with
  | none =>
    simp only [hr4, Option.bind_none] at h4
    exact h4.none
  | some p4 =>
  simp only [hr4, Option.bind_some] at h4
  rw [Option.bind_some]
  cases hr5 : rdMany rdS p4.1 p4.2 with
  | none =>
    rw [hr5] at h4
    exact h4.none
  | some p5 =>
  rw [hr5] at h4
  obtain ⟨q5, b5, r5, f5⟩ := h4.some
  refine ⟨q5, b5, r5, ?_⟩
  rw [f5, hnm]
def pLnk (l : List UInt8) (s : Option Nat) : Option Nat × Lnk :=
  let r0 := pS l s
  let r1 := pS l r0.1
  let r2 := pS l r1.1
  (r2.1, ⟨r0.2, r1.2, r2.2⟩)
theorem pLnk_ok {l : List UInt8} {s : Option Nat} : ∀ p, (pLnk l s).1 = some p → p ≤ l.length := fun p hp => pN_ok p hp
theorem pLnk_ag (l : List UInt8) : Ag l (pLnk l) rdLnk := by
  have e2 : ∀ s, (pS l (pS l s).1).1 = none → (pLnk l s).1 = none := fun s h => by unfold pLnk; simp only; rw [h]; rfl
  have e3 : ∀ s, (pS l s).1 = none → (pLnk l s).1 = none := fun s h => e2 s (by rw [h]; rfl)
  refine ⟨e3 none rfl, fun p hp => ?_⟩
  unfold rdLnk
  have h0 := (pS_ag l).2 p hp
  cases hr0 : rdS ((nats l).drop p) with
  | none => rw [hr0] at h0; exact e3 _ h0.none
  | some p0 =>
  rw [hr0] at h0
  obtain ⟨q0, b0, r0, f0⟩ := h0.some
  rw [Option.bind_some, r0]
  have h1 := (pS_ag l).2 q0 b0
  cases hr1 : rdS ((nats l).drop q0) with
  | none => rw [hr1] at h1; exact e2 _ (by rw [f0]; exact h1.none)
  | some p1 =>
  rw [hr1] at h1
  obtain ⟨q1, b1, r1, f1⟩ := h1.some
  rw [Option.bind_some, r1]
  have h2 := (pS_ag l).2 q1 b1
  have hN : pLnk l (some p) = ((pS l (some q1)).1, ⟨p0.1, p1.1, (pS l (some q1)).2⟩) := by
    unfold pLnk
    rw [f0]; simp only
    rw [f1]
  rw [hN]
  cases hr2 : rdS ((nats l).drop q1) with
  | none => rw [hr2] at h2; exact h2.none
  | some p2 =>
  rw [hr2] at h2
  obtain ⟨q2, b2, r2, f2⟩ := h2.some
  exact ⟨q2, b2, r2, by rw [f2]⟩
def pNs (l : List UInt8) (s : Option Nat) : Option Nat × List Node := pMany (pNode l) (pC l s).2 (pC l s).1 []
def pLs (l : List UInt8) (s : Option Nat) : Option Nat × List Lnk := pMany (pLnk l) (pC l s).2 (pC l s).1 []
/-- The body. -/
def pDec (l : List UInt8) : Option Dm :=
  let n := pNs l (some 3)
  let k := pLs l n.1
  let r := pIs l k.1
  if r.1 = some l.length then some ⟨n.2, k.2, r.2⟩ else none
theorem pDec_eq {l : List UInt8} (h3 : 3 ≤ l.length) : pDec l = rdDm ((nats l).drop 3) := by
  have h0 := (pCnt_ag (pNode_ag l)).2 3 h3
  simp only at h0
  have E3 : ∀ s, (pIs l s).1 = none → (if (pIs l s).1 = some l.length then some (⟨(pNs l (some 3)).2, (pLs l (pNs l (some 3)).1).2, (pIs l s).2⟩ : Dm) else none) = none := fun s h => by rw [h]; rfl
  unfold pDec
  simp only
  have e3 : (pIs l (pLs l (pNs l (some 3)).1).1).1 = none → (if (pIs l (pLs l (pNs l (some 3)).1).1).1 = some l.length then some (⟨(pNs l (some 3)).2, (pLs l (pNs l (some 3)).1).2, (pIs l (pLs l (pNs l (some 3)).1).1).2⟩ : Dm) else none) = none := fun h => by rw [h]; rfl
  have e2 : (pLs l (pNs l (some 3)).1).1 = none → (pIs l (pLs l (pNs l (some 3)).1).1).1 = none := fun h => by rw [h]; exact pIs_none l
  have e1 : (pNs l (some 3)).1 = none → (pLs l (pNs l (some 3)).1).1 = none := fun h => by rw [h]; rfl
  have hns : pNs l (some 3) = pMany (pNode l) (pC l (some 3)).2 (pC l (some 3)).1 [] := rfl
  unfold rdDm
  cases hr0 : rdC ((nats l).drop 3) with
  | none =>
    simp only [hr0, Option.bind_none] at h0
    exact e3 (e2 (e1 h0.none))
  | some c0 =>
  simp only [hr0, Option.bind_some] at h0
  rw [Option.bind_some]
  cases hr1 : rdMany rdNode c0.1 c0.2 with
  | none =>
    rw [hr1] at h0
    exact e3 (e2 (e1 h0.none))
  | some p0 =>
  rw [hr1] at h0
  obtain ⟨q0, b0, r0, f0⟩ := h0.some
  rw [Option.bind_some, r0]
  have f0' : pNs l (some 3) = (some q0, p0.1) := f0
  have h1 := (pCnt_ag (pLnk_ag l)).2 q0 b0
  simp only at h1
  have hls : (pLs l (pNs l (some 3)).1) = pMany (pLnk l) (pC l (some q0)).2 (pC l (some q0)).1 [] := by rw [f0']; rfl
  cases hr2 : rdC ((nats l).drop q0) with
  | none =>
    simp only [hr2, Option.bind_none] at h1
    exact e3 (e2 (by rw [hls]; exact h1.none))
  | some c1 =>
  simp only [hr2, Option.bind_some] at h1
  rw [Option.bind_some]
  cases hr3 : rdMany rdLnk c1.1 c1.2 with
  | none =>
    rw [hr3] at h1
    exact e3 (e2 (by rw [hls]; exact h1.none))
  | some p1 =>
  rw [hr3] at h1
  obtain ⟨q1, b1, r1, f1⟩ := h1.some
  rw [Option.bind_some, r1]
  have f1' : (pLs l (pNs l (some 3)).1) = (some q1, p1.1) := by rw [hls]; exact f1
  have h2 := (pIs_ag l).2 q1 b1
  simp only at h2
  rw [f1', f0']
  simp only
  cases hr4 : rdC ((nats l).drop q1) with
  | none =>
    simp only [hr4, Option.bind_none] at h2
    have := h2.none
    rw [this]; rfl
  | some c2 =>
  simp only [hr4, Option.bind_some] at h2
  rw [Option.bind_some]
  cases hr5 : rdMany rdS c2.1 c2.2 with
  | none =>
    rw [hr5] at h2
    have := h2.none
    rw [this]; rfl
  | some p2 =>
  rw [hr5] at h2
  obtain ⟨q2, b2, r2, f2⟩ := h2.some
  rw [Option.bind_some, f2, r2]
  simp only [Option.some.injEq]
  by_cases hq : q2 = l.length
  · rw [if_pos hq, if_pos (by rw [hq]; exact List.drop_eq_nil_of_le (by simp))]
  · rw [if_neg hq, if_neg (fun e => by
      have := congrArg List.length e
      rw [List.length_drop, List.length_map] at this
      simp at this
      omega)]
end Go.Proofs.YtndfncaoejbkiaaGreatDoor
end
