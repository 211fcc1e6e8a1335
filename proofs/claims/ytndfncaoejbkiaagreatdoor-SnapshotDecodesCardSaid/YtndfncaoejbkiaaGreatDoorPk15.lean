import Derived.Test.YtndfncaoejbkiaaGreatDoorPk7
set_option linter.all false
section
/- The sizes of what is read: no more than the bytes. -/
namespace Go.Proofs.YtndfncaoejbkiaaGreatDoor
open Go.RowKit

theorem rdMany_all {α : Type} {f : List Nat → Option (α × List Nat)} {P : α → Prop} {N : Nat} (hf : ∀ l p, l.length ≤ N → f l = some p → P p.1 ∧ p.2.length ≤ N) :
    ∀ (k : Nat) (l : List Nat) (p : List α × List Nat), l.length ≤ N → rdMany f k l = some p → p.1.length = k ∧ (∀ x ∈ p.1, P x) ∧ p.2.length ≤ N
  | 0, l, p, hl, h => by rw [rdMany] at h; cases h; exact ⟨rfl, fun x hx => by simp at hx, hl⟩
  | k + 1, l, p, hl, h => by
    rw [rdMany] at h
    cases h1 : f l with
    | none => rw [h1] at h; cases h
    | some q =>
      rw [h1] at h
      simp only [Option.bind_some] at h
      obtain ⟨g1, g2⟩ := hf l q hl h1
      cases h2 : rdMany f k q.2 with
      | none => rw [h2] at h; cases h
      | some r =>
        rw [h2] at h
        cases h
        obtain ⟨g3, g4, g5⟩ := rdMany_all hf k q.2 r g2 h2
        refine ⟨by simp [g3], fun x hx => ?_, g5⟩
        rcases List.mem_cons.1 hx with rfl | hx
        · exact g1
        · exact g4 x hx
theorem rdNode_few {N : Nat} {l : List Nat} {p : Node × List Nat} (hl : l.length ≤ N) (h : rdNode l = some p) : p.1.args.length ≤ N ∧ p.2.length ≤ N := by
  refine ⟨?_, Nat.le_trans (rdNode_le h) hl⟩
  unfold rdNode at h
  cases h1 : rdS l with
  | none => rw [h1] at h; cases h
  | some p1 =>
  rw [h1] at h; simp only [Option.bind_some] at h
  have g1 := rdS_rest h1
  cases h2 : rdS p1.2 with
  | none => rw [h2] at h; cases h
  | some p2 =>
  rw [h2] at h; simp only [Option.bind_some] at h
  have g2 := rdS_rest h2
  cases h3 : rdN p2.2 with
  | none => rw [h3] at h; cases h
  | some p3 =>
  rw [h3] at h; simp only [Option.bind_some] at h
  have g3 := rdN_le h3
  cases h4 : rdC p3.2 with
  | none => rw [h4] at h; cases h
  | some p4 =>
  rw [h4] at h; simp only [Option.bind_some] at h
  have g4 := (rdC_le h4).1
  cases h5 : rdC (p4.2.drop p4.1) with
  | none => rw [h5] at h; cases h
  | some p5 =>
  rw [h5] at h; simp only [Option.bind_some] at h
  have g5 := rdC_le h5
  rw [List.length_drop] at g5
  cases h6 : rdMany rdS p5.1 p5.2 with
  | none => rw [h6] at h; cases h
  | some p6 =>
  rw [h6] at h
  cases h
  have g6 := rdMany_all (f := rdS) (P := fun _ => True) (N := N) (fun l p hl h => ⟨trivial, Nat.le_trans (rdS_rest h) hl⟩) _ _ _ (by omega) h6
  simp only
  omega
theorem rdDm_few {N : Nat} {l : List Nat} {d : Dm} (hl : l.length ≤ N) (h : rdDm l = some d) : d.nodes.length ≤ N ∧ d.links.length ≤ N ∧ d.roots.length ≤ N ∧ ∀ n ∈ d.nodes, n.args.length ≤ N := by
  unfold rdDm at h
  cases h1 : rdC l with
  | none => rw [h1] at h; cases h
  | some c0 =>
  rw [h1] at h; simp only [Option.bind_some] at h
  have g1 := rdC_le h1
  cases h2 : rdMany rdNode c0.1 c0.2 with
  | none => rw [h2] at h; cases h
  | some p0 =>
  rw [h2] at h; simp only [Option.bind_some] at h
  have g2 := rdMany_all (f := rdNode) (P := fun n => n.args.length ≤ N) (N := N) (fun l p hl h => rdNode_few hl h) _ _ _ (by omega) h2
  cases h3 : rdC p0.2 with
  | none => rw [h3] at h; cases h
  | some c1 =>
  rw [h3] at h; simp only [Option.bind_some] at h
  have g3 := rdC_le h3
  cases h4 : rdMany rdLnk c1.1 c1.2 with
  | none => rw [h4] at h; cases h
  | some p1 =>
  rw [h4] at h; simp only [Option.bind_some] at h
  have g4 := rdMany_all (f := rdLnk) (P := fun _ => True) (N := N) (fun l p hl h => ⟨trivial, Nat.le_trans (rdLnk_le h) hl⟩) _ _ _ (by omega) h4
  cases h5 : rdC p1.2 with
  | none => rw [h5] at h; cases h
  | some c2 =>
  rw [h5] at h; simp only [Option.bind_some] at h
  have g5 := rdC_le h5
  cases h6 : rdMany rdS c2.1 c2.2 with
  | none => rw [h6] at h; cases h
  | some p2 =>
  rw [h6] at h; simp only [Option.bind_some] at h
  have g6 := rdMany_all (f := rdS) (P := fun _ => True) (N := N) (fun l p hl h => ⟨trivial, Nat.le_trans (rdS_rest h) hl⟩) _ _ _ (by omega) h6
  split at h
  · cases h
    exact ⟨by show p0.1.length ≤ N; omega, by show p1.1.length ≤ N; omega, by show p2.1.length ≤ N; omega, g2.2.1⟩
  · cases h
theorem decR_few {N : Nat} {l : List Nat} (hl : l.length ≤ N) : (decR (decE l)).1.nodes.length ≤ N ∧ (decR (decE l)).1.links.length ≤ N ∧ (decR (decE l)).1.roots.length ≤ N ∧ ∀ n ∈ (decR (decE l)).1.nodes, n.args.length ≤ N := by
  have hz : ∀ k, (decR (.error k)).1.nodes.length ≤ N ∧ (decR (.error k)).1.links.length ≤ N ∧ (decR (.error k)).1.roots.length ≤ N ∧ ∀ n ∈ (decR (.error k)).1.nodes, n.args.length ≤ N := fun k => ⟨Nat.zero_le _, Nat.zero_le _, Nat.zero_le _, fun n hn => by simp [decR] at hn⟩
  unfold decE
  split
  · exact hz 1
  · split
    · exact hz 2
    · split
      · exact hz 1
      · next d h =>
        exact rdDm_few (N := N) (by rw [List.length_drop, List.length_take]; omega) h
/-- The sizes of a decoded dump. -/
theorem dec_few {l : List UInt8} {d : Dmp} (hl : l.length ≤ 1000000) (h : dmOf d = (decR (decE (nats l))).1) : d.nodes.length ≤ 1000000 ∧ d.links.length ≤ 1000000 ∧ d.roots.length ≤ 1000000 ∧ ∀ x ∈ d.nodes, x.1.args.length ≤ 1000000 := by
  have h1 := decR_few (l := nats l) (N := 1000000) (by rw [List.length_map]; exact hl)
  rw [← h] at h1
  obtain ⟨a, b, c, e⟩ := h1
  refine ⟨by simpa [dmOf] using a, b, c, fun x hx => e x.1 (List.mem_map_of_mem hx)⟩
end Go.Proofs.YtndfncaoejbkiaaGreatDoor
end
