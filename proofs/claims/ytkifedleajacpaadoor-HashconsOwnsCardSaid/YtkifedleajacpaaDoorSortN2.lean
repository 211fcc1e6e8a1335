/- slices.SortFunc on a row of nodes: the contract in plain words. -/
import Derived.Test.YtkifedleajacpaaDoorSortN
namespace Go.Proofs.YtkifedleajacpaaDoor
open Go.Shelf Go.RowKit Go.Lib Go.Sort
set_option maxRecDepth 100000

theorem isAggNode (w : World) : (isAgg 26).run Tryd.prog w = .ok true w := by kernel_rfl
theorem sizeOfNode (w : World) : (Go.sizeOf 26).run Tryd.prog w = .ok 5 w := by kernel_rfl

/-- The cells of a row, both ways. -/
theorem flatK_get {M : Nat → Prop} {w : World} [Inhabited (GoodN M w)] (d : Array (GoodN M w)) (j : Nat) (hj : j < d.size * 5) : (flatE nsCells (d.toList.map (·.1)))[j]? = some ((flatK encN 5 d)[j]!) := by
  rw [get_flatK encN 5 d j hj]
  have hi : j / 5 < d.size := by omega
  have e := flatE_get nsCells nsLen (d.toList.map (·.1)) (j / 5) (by simpa using hi) (j % 5) (Nat.mod_lt _ (by decide))
  rw [show j / 5 * 5 + j % 5 = j by omega] at e
  rw [e, List.getElem_map, Array.getElem_toList, getElem!_pos d (j / 5) hi]
  have hm : j % 5 < (nsCells (d[j / 5]).1).length := by rw [nsLen]; exact Nat.mod_lt _ (by decide)
  rw [List.getElem?_eq_getElem hm]
  show _ = some ((nsCells (d[j / 5]).1)[j % 5]!)
  rw [getElem!_pos (nsCells (d[j / 5]).1) (j % 5) hm]

theorem sort_nodes (B : Nat) (w : World) (g cap : Nat) (l : List (Node × Value)) (h : OwnN B w (.slice (some ⟨g, 0, none⟩) l.length cap) l) (hgood : ∀ x ∈ l, RdI (fun k => k = g) w x.2 x.1.args ∧ x.1.args.length ≤ 1000000) (hlen : l.length ≤ 1000000000) :
    Calls Tryd.prog 47 #[.slice (some ⟨g, 0, none⟩) l.length cap, .func (.func 21) #[] #[]] w fun e w' => e = .returned (.tuple #[]) ∧ ∃ l' : List (Node × Value), l'.Perm l ∧
      l'.Pairwise (fun x y => ¬ nodeCmp y.1 x.1 < 0) ∧ CellsAt w' g 0 (flatE nsCells l') ∧ (∀ o, o < l.length * 5 → w'.frozen? ⟨g, o, none⟩ = false) ∧ Fr (fun k => k = g) w w' := by
  obtain ⟨d, hd⟩ : ∃ d : Array (GoodN (fun k => k = g) w), d.toList.map (·.1) = l := ⟨(l.attach.map fun x => ⟨x.1, hgood x.1 x.2⟩).toArray, by
    rw [List.toList_toArray, List.map_map]
    exact (List.map_congr_left (fun _ _ => rfl)).trans (List.attach_map_subtype_val l)⟩
  have hds : d.size = l.length := by have := congrArg List.length hd; simpa using this
  haveI : Inhabited (GoodN (fun k => k = g) w) := ⟨⟨(⟨0, 0, 0, ByteArray.empty, []⟩, .slice none 0 0), .inl ⟨⟨none, 0, rfl, fun _ => rfl⟩, rfl⟩, by simp⟩⟩
  have hgl : g < w.heap.size := (h.lt rfl).2
  have hH : HoldsK encN 5 w g 0 d := by
    intro j hj
    rw [size_flatK] at hj
    have e := flatK_get d j hj
    rw [hd] at e
    exact ⟨h.cells j _ e, by rw [Nat.zero_add]; exact h.frozen j⟩
  have eg : ∀ args w, (callFunc 21 args).run Tryd.prog w = .ok (.enter 21 args) w := enters_of Tryd.func21 (by kernel_rfl) rfl
  have hcon := AnyQ.slices_SortFunc Tryd.laysSort 5 isAggNode sizeOfNode encN (fun _ => rfl) (fun x v hv => by
    obtain ⟨a, c, e⟩ := x.2.1.form
    simp only [encN, nsCells, List.mem_cons, List.not_mem_nil, or_false] at hv
    rcases hv with rfl | rfl | rfl | rfl | rfl <;> first | rfl | (rw [e]; rfl)) cfN (swoN _ w) 21 #[] g 0 cap d w eg (cmpLaysN _ w g 0 d.size rfl) hH hgl (by omega)
  rw [hds] at hcon
  refine Calls.mono hcon ?_
  rintro e w' ⟨rfl, d', n, os, hp, hs, rfl⟩
  have hsz : d'.size = d.size := hp.1
  refine ⟨rfl, d'.toList.map (·.1), ?_, ?_, ?_, ?_, sort_fr _ _ _ _ _ _ _ _⟩
  · rw [← hd]
    have := hp.2.2
    rw [← hds, Array.extract_size, ← hsz, Array.extract_size] at this
    exact this.map _
  · rw [List.pairwise_map, List.pairwise_iff_getElem]
    intro i j hi hj hij
    have h3 := hs i j (Nat.zero_le _) hij (by simpa [hsz, hds] using hj)
    rw [ltN] at h3
    have h4 := of_decide_eq_false h3
    simp only [Array.length_toList] at hi hj
    rw [getElem!_pos d' i hi, getElem!_pos d' j hj] at h4
    simpa using h4
  · have hH' := holdsK_sortWorldK_c encN 5 w g 0 d d' n os hH hgl hsz
    intro j u hj
    have hj2 : j < d'.size * 5 := by have := (List.getElem?_eq_some_iff.1 hj).1; rw [flatE_length nsCells nsLen] at this; simpa using this
    have e := flatK_get d' j hj2
    rw [hj] at e
    have := (hH' j (by rw [size_flatK]; exact hj2)).1
    rw [this]; exact e.symm
  · have hH' := holdsK_sortWorldK_c encN 5 w g 0 d d' n os hH hgl hsz
    intro o ho
    have := (hH' o (by rw [size_flatK, hsz, hds]; exact ho)).2
    rwa [Nat.zero_add] at this

end Go.Proofs.YtkifedleajacpaaDoor
