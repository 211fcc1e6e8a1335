import Derived.Test.YtgpliiepoimcbaaDoorPk1
import Derived.Test.YtgpliiepoimcbaaDoorPk6
import Derived.Test.YtgpliiepoimcbaaDoorPk7
import Derived.Test.YtgpliiepoimcbaaDoorPk8
set_option linter.all false
section
/- Plain laws for invariant's classes; its function value, and Canon with it. -/
namespace Go.Proofs.YtgpliiepoimcbaaDoor
open Go.RowKit
set_option maxRecDepth 100000

abbrev canonN (lab : List Int) (n : Node) : Node := { n with args := n.args.map (labAt lab) }
theorem alike_canon {a b : Node} {lab : List Int} : alikeS a b lab = true ↔ canonN lab a = canonN lab b := by
  constructor
  · intro h
    unfold alikeS at h
    simp only [Bool.and_eq_true, beq_iff_eq, List.all_eq_true] at h
    obtain ⟨⟨h1, h2⟩, h3⟩ := h
    unfold labelS at h1
    simp only [Bool.and_eq_true, beq_iff_eq] at h1
    have h4 : a.args.map (labAt lab) = b.args.map (labAt lab) := by
      apply List.ext_getElem (by simp [h2])
      intro i hi hi'
      simp only [List.length_map] at hi hi'
      have hp := h3 (a.args[i], b.args[i]) (by rw [List.mem_iff_getElem]; exact ⟨i, by simp; omega, by simp⟩)
      simpa using hp
    obtain ⟨⟨⟨h5, h6⟩, h7⟩, h8⟩ := h1
    cases a; cases b
    simp only at h4 h5 h6 h7 h8
    simp only [canonN, h4, h5, h6, h7, toList_inj h8]
  · intro h
    cases a with
    | mk ao aw av an aa =>
      cases b with
      | mk bo bw bv bn ba =>
        simp only [canonN, Node.mk.injEq] at h
        obtain ⟨h1, h2, h3, h4, h5⟩ := h
        have hl : aa.length = ba.length := by simpa using congrArg List.length h5
        refine alikeS_ok (by unfold labelS; simp [h1, h2, h3, h4]) hl (fun k hk => ?_)
        have := congrArg (fun l => l.getD k 0) h5
        simp only [List.getD_eq_getElem?_getD, List.getElem?_map] at this
        simp only at hk
        have hk' : k < ba.length := hl ▸ hk
        simp only
        rw [List.getD_eq_getElem?_getD, List.getD_eq_getElem?_getD, List.getElem?_eq_getElem hk, List.getElem?_eq_getElem hk']
        rw [List.getElem?_eq_getElem hk, List.getElem?_eq_getElem hk'] at this
        simpa using this
def keyAt (ns : List Node) (lab : List Int) (i : Nat) : ByteArray := (ns[i]?).elim ⟨#[]⟩ (fun n => keyB (canonN lab n))
theorem open_key {ns : List Node} {lab : List Int} (hok : ∀ n ∈ ns, NodeOk (canonN lab n)) {i : Nat} (hi : i < ns.length) : openAt ns lab i = true ↔ ∃ j, j < i ∧ keyAt ns lab j = keyAt ns lab i ∧ lab.getD j 0 ≠ lab.getD i 0 := by
  unfold openAt
  rw [List.any_eq_true]
  have key : ∀ j, j < i → (alikeAt ns lab j i = true ↔ keyAt ns lab j = keyAt ns lab i) := fun j hj => by
    have hjl : j < ns.length := by omega
    unfold alikeAt keyAt
    rw [List.getElem?_eq_getElem hjl, List.getElem?_eq_getElem hi]
    simp only [Option.elim_some]
    rw [alike_canon, keyB_inj (hok _ (List.getElem_mem hjl)) (hok _ (List.getElem_mem hi))]
  constructor
  · rintro ⟨j, hj, h⟩
    have hj2 := List.mem_range.1 hj
    simp only [Bool.and_eq_true, bne_iff_ne, ne_eq] at h
    exact ⟨j, hj2, (key j hj2).1 h.1, h.2⟩
  · rintro ⟨j, hj, h1, h2⟩
    refine ⟨j, List.mem_range.2 hj, ?_⟩
    simp only [Bool.and_eq_true, bne_iff_ne, ne_eq]
    exact ⟨(key j hj).2 h1, h2⟩
/-- What classes' two maps hold behind k nodes. -/
structure ClsI (key : Nat → ByteArray) (lb : Nat → Int) (k : Nat) (gw : ByteArray → Option Int) (gm : ByteArray → Option Bool) : Prop where
  no : ∀ nm, gw nm = none → ∀ j, j < k → key j ≠ nm
  so : ∀ nm f, gw nm = some f → ∃ j, j < k ∧ key j = nm ∧ lb j = f
  mix : ∀ nm, (gm nm).getD false = true ↔ ∃ f, gw nm = some f ∧ ∃ j, j < k ∧ key j = nm ∧ lb j ≠ f
section
variable {key : Nat → ByteArray} {lb : Nat → Int} {k : Nat} {gw : ByteArray → Option Int} {gm : ByteArray → Option Bool}
theorem ClsI.init : ClsI key lb 0 (fun _ => none) (fun _ => none) := ⟨fun _ _ j hj => by omega, fun _ _ h => (by cases h), fun _ => ⟨fun h => (by cases h), fun ⟨_, h, _⟩ => (by cases h)⟩⟩
theorem ClsI.fresh (h : ClsI key lb k gw gm) (hk : gw (key k) = none) : ClsI key lb (k + 1) (fun nm => if nm = key k then some (lb k) else gw nm) gm ∧ ¬ ∃ j, j < k ∧ key j = key k ∧ lb j ≠ lb k := by
  refine ⟨⟨fun nm hn j hj => ?_, fun nm f hn => ?_, fun nm => ?_⟩, fun ⟨j, h1, h2, _⟩ => h.no _ hk j h1 h2⟩
  · by_cases e : nm = key k
    · simp [e] at hn
    · rw [if_neg e] at hn
      by_cases e2 : j = k
      · subst e2; exact fun e3 => e e3.symm
      · exact h.no nm hn j (by omega)
  · by_cases e : nm = key k
    · rw [if_pos e] at hn
      exact ⟨k, by omega, e.symm, by simpa using hn⟩
    · rw [if_neg e] at hn
      obtain ⟨j, h1, h2⟩ := h.so nm f hn
      exact ⟨j, by omega, h2⟩
  · rw [h.mix nm]
    by_cases e : nm = key k
    · subst e
      rw [hk]
      simp only [if_true]
      constructor
      · rintro ⟨f, h1, _⟩; cases h1
      · rintro ⟨f, h1, j, h2, h3, h4⟩
        simp only [Option.some.injEq] at h1
        by_cases e2 : j = k
        · subst e2; exact absurd h1 h4
        · exact absurd h3 (h.no _ hk j (by omega))
    · simp only [if_neg e]
      constructor
      · rintro ⟨f, h1, j, h2, h3⟩; exact ⟨f, h1, j, by omega, h3⟩
      · rintro ⟨f, h1, j, h2, h3, h4⟩
        by_cases e2 : j = k
        · subst e2; exact absurd h3.symm e
        · exact ⟨f, h1, j, by omega, h3, h4⟩
theorem ClsI.bad (h : ClsI key lb k gw gm) {f : Int} (hk : gw (key k) = some f) (hb : (gm (key k)).getD false = true ∨ f ≠ lb k) : ClsI key lb (k + 1) gw (fun nm => if nm = key k then some true else gm nm) ∧ ∃ j, j < k ∧ key j = key k ∧ lb j ≠ lb k := by
  obtain ⟨j0, p1, p2, p3⟩ := h.so _ _ hk
  have hex : ∃ j, j < k ∧ key j = key k ∧ lb j ≠ lb k := by
    by_cases c : f = lb k
    · rcases hb with hb | hb
      · obtain ⟨f', e1, j, e2, e3, e4⟩ := (h.mix _).1 hb
        rw [hk] at e1
        simp only [Option.some.injEq] at e1
        exact ⟨j, e2, e3, by rw [← c, e1]; exact e4⟩
      · exact absurd c hb
    · exact ⟨j0, p1, p2, by rw [p3]; exact c⟩
  refine ⟨⟨fun nm hn j hj => ?_, fun nm f hn => ?_, fun nm => ?_⟩, hex⟩
  · by_cases e2 : j = k
    · subst e2; intro e3; rw [← e3, hk] at hn; cases hn
    · exact h.no nm hn j (by omega)
  · obtain ⟨j, h1, h2⟩ := h.so nm f hn
    exact ⟨j, by omega, h2⟩
  · by_cases e : nm = key k
    · subst e
      simp only [if_true, Option.getD_some, true_iff]
      refine ⟨f, hk, ?_⟩
      by_cases c : f = lb k
      · obtain ⟨j, e1, e2, e3⟩ := hex
        exact ⟨j, by omega, e2, by rw [c]; exact e3⟩
      · exact ⟨k, by omega, rfl, fun e => c e.symm⟩
    · simp only [if_neg e]
      rw [h.mix nm]
      constructor
      · rintro ⟨f, h1, j, h2, h3⟩; exact ⟨f, h1, j, by omega, h3⟩
      · rintro ⟨f, h1, j, h2, h3, h4⟩
        by_cases e2 : j = k
        · subst e2; exact absurd h3.symm e
        · exact ⟨f, h1, j, by omega, h3, h4⟩
theorem ClsI.fine (h : ClsI key lb k gw gm) {f : Int} (hk : gw (key k) = some f) (hb : (gm (key k)).getD false = false) (hf : f = lb k) : ClsI key lb (k + 1) gw gm ∧ ¬ ∃ j, j < k ∧ key j = key k ∧ lb j ≠ lb k := by
  have hno : ¬ ∃ j, j < k ∧ key j = key k ∧ lb j ≠ lb k := fun ⟨j, e1, e2, e3⟩ => by
    have := (h.mix _).2 ⟨f, hk, j, e1, e2, by rw [hf]; exact e3⟩
    rw [hb] at this; cases this
  refine ⟨⟨fun nm hn j hj => ?_, fun nm f hn => ?_, fun nm => ?_⟩, hno⟩
  · by_cases e2 : j = k
    · subst e2; intro e3; rw [← e3, hk] at hn; cases hn
    · exact h.no nm hn j (by omega)
  · obtain ⟨j, h1, h2⟩ := h.so nm f hn
    exact ⟨j, by omega, h2⟩
  · rw [h.mix nm]
    constructor
    · rintro ⟨f, h1, j, h2, h3⟩; exact ⟨f, h1, j, by omega, h3⟩
    · rintro ⟨f', h1, j, h2, h3, h4⟩
      by_cases e2 : j = k
      · subst e2
        rw [← h3, hk] at h1
        simp only [Option.some.injEq] at h1
        exact absurd (hf.symm.trans h1) h4
      · exact ⟨f', h1, j, by omega, h3, h4⟩
end
theorem OwnI.at_eq {B : Nat} {w w1 : World} {v : Value} {l : List Int} (h : OwnI B w v l) (e : ∀ b, v.ownBlock = some b → w1.heap[b]? = w.heap[b]?) : OwnI B w1 v l := by
  refine ⟨h.1, ?_⟩
  rcases h.2 with h2 | ⟨g, cap, cur, h1, hb, hg, r⟩
  · exact .inl h2
  · exact .inr ⟨g, cap, cur, h1, hb, by rw [e g (by rw [h1]; rfl)]; exact hg, r⟩
theorem classFn_any (g4 : Nat) (lv : Value) (lab : List Int) (x : Int) (w : World) (hb : w.heap[g4]? = some (.cells #[lv] 24 (0, 0))) (B : Nat) (ho : OwnI B w lv lab) (x0 : 0 ≤ x) (x1 : x < lab.length) (hl : lab.length ≤ 1000000) :
    Calls Tryd.prog 41 #[.int .i64 x, .pointer (some ⟨g4, 0, none⟩)] w fun e w' => e = .returned (.int .i64 (labAt lab x)) ∧ Fr NoB w w' := by
  have xn : x.toNat < lab.length := by omega
  rcases ho.form' with ⟨_, hv⟩ | ⟨g, cap, hv, _, _, hc⟩
  · rw [hv] at xn; simp at xn
  subst hv
  have c0 : w.cell? ⟨g4, 0, none⟩ = some (.slice (some ⟨g, 0, none⟩) lab.length cap) := by simp [World.cell?, hb]
  have c1 := ho.cell xn
  have HL : Hid (labAt lab x = lab.getD x.toNat 0) := by show _ = _; rfl
  obtain ⟨q, hq⟩ : ∃ q, lab.getD x.toNat 0 = q := ⟨_, rfl⟩
  rw [hq] at c1 HL
  clear hq hb ho
  go_enter Tryd.func41, Tryd.ntmps41
  go_wp2
  go_ret
  exact ⟨by rw [HL.out]; rfl, by first | exact Fr.refl _ _ | exact (Fr.refl NoB w).alloc _⟩
abbrev ClB (g4 : Nat) (lv : Value) : Nat → Prop := fun b => b = g4 ∨ lv.ownBlock = some b
theorem classCanon_any (g4 : Nat) (lv : Value) (lab : List Int) (n : Node) (v : Value) (w : World) (hb : w.heap[g4]? = some (.cells #[lv] 24 (0, 0))) (B : Nat) (ho : OwnI B w lv lab) (hl : lab.length ≤ 1000000)
    (hv : RdI NoB w v n.args) (hn : n.args.length ≤ 1000000) (hord : ∀ y ∈ n.args, 0 ≤ y ∧ y < lab.length) :
    Calls Tryd.prog 40 #[nodeV n v, .func (.func 41) #[] #[.pointer (some ⟨g4, 0, none⟩)]] w fun e w' => ∃ a' c', e = .returned (nodeV (canonN lab n) (.slice a' n.args.length c')) ∧ OwnI w.heap.size w' (.slice a' n.args.length c') (n.args.map (labAt lab)) ∧ Fr NoB w w' := by
  have hbl : ∀ b, ClB g4 lv b → b < w.heap.size := fun b h => by
    rcases h with rfl | h
    · exact (Array.getElem?_eq_some_iff.1 hb).1
    · exact (World.ownsRow.lt ho b h).2
  have hI : FindOk 41 #[] #[.pointer (some ⟨g4, 0, none⟩)] (fun Pr _ W => (∀ b, ClB g4 lv b → W.heap[b]? = w.heap[b]?) ∧ (∀ b, ClB g4 lv b → ¬ Pr b) ∧ w.heap.size ≤ W.heap.size) n.args (labAt lab) := by
    refine ⟨enters_of Tryd.func41 (by kernel_rfl) rfl, fun Pr k W W' h hf => ⟨fun b hb => ?_, h.2.1, Nat.le_trans h.2.2 hf.size⟩, fun Pr k W hk h => ?_⟩
    · rw [hf.block b (Nat.lt_of_lt_of_le (hbl b hb) h.2.2) (h.2.1 b hb)]; exact h.1 b hb
    · have hm : n.args.getD k 0 ∈ n.args := by
        rw [List.getD_eq_getElem?_getD, List.getElem?_eq_getElem hk]; exact List.getElem_mem hk
      obtain ⟨y0, y1⟩ := hord _ hm
      refine (classFn_any g4 lv lab (n.args.getD k 0) W (by rw [h.1 g4 (.inl rfl)]; exact hb) B (ho.at_eq (fun b hb => h.1 b (.inr hb))) y0 y1 hl).mono ?_
      rintro e W' ⟨rfl, hf⟩
      exact ⟨rfl, ⟨fun b hb => by rw [hf.block b (Nat.lt_of_lt_of_le (hbl b hb) h.2.2) (fun h => h)]; exact h.1 b hb, h.2.1, Nat.le_trans h.2.2 hf.size⟩, hf.mono (fun _ _ h => h.elim)⟩
  refine (canon_any NoB (fun b => ¬ ClB g4 lv b ∧ b < w.heap.size) 41 #[] #[.pointer (some ⟨g4, 0, none⟩)] _ (labAt lab) n v w hv (by omega) hI (fun w1 hf => ⟨fun b hb => hf.block b (hbl b hb) (fun h => h), fun b hb h => ?_, hf.size⟩)).mono ?_
  · rcases h with h | h
    · exact h.1 hb
    · have := hbl b hb; omega
  rintro e w' ⟨a', c', rfl, h1, ⟨Pr, h2, _⟩, h3⟩
  refine ⟨a', c', rfl, h1, h3.os, h3.tape, h3.output, h3.size, fun k hk _ => ?_⟩
  by_cases c : ClB g4 lv k
  · exact h2.1 k c
  · exact h3.block k hk (fun hn => hn ⟨c, hk⟩)
theorem canon_ok {n : Nat} {lk : List Lnk} (hn : n ≤ 1000000) {x : Node} (h : NodeOk x) (ho : ∀ y ∈ x.args, 0 ≤ y ∧ y < n) : NodeOk (canonN (lbAt n lk lk.length) x) := by
  refine ⟨h.op, h.width, h.val, fun i hi => ?_⟩
  simp only [canonN, List.length_map] at hi ⊢
  rw [List.getD_eq_getElem?_getD, List.getElem?_map, List.getElem?_eq_getElem hi]
  simp only [Option.map_some, Option.getD_some]
  have h1 := ho _ (List.getElem_mem hi)
  have h2 := (labOk_all n lk).rng _ h1.1 h1.2
  unfold labAt i64ok
  omega
theorem canon_sm {lab : List Int} {x : Node} (h : NodeSm x) : NodeSm (canonN lab x) := ⟨by simpa [canonN] using h.args, h.name⟩

/-- The state of classes: its labels lie in the box g4. -/
structure ClS (M : Nat → Prop) (w : World) (sN sL sR : Value) (d : Dmp) (br : Nat) (l F : List Flw) (g4 : Nat) (lv : Value) (lab : List Int) (X : Nat → Prop) (W : World) : Prop where
  st : RepS M w sN sL sR d br l F X W
  box : W.heap[g4]? = some (.cells #[lv] 24 (0, 0))
  row : OwnI (w.heap.size + 1) W lv lab
  own : ∀ b, ClB g4 lv b → X b
section
variable {M : Nat → Prop} {w : World} {sN sL sR : Value} {d : Dmp} {br : Nat} {l F F' : List Flw} {g4 : Nat} {lv : Value} {lab : List Int} {X X' : Nat → Prop} {W W' : World}
theorem ClS.grow (h : ClS M w sN sL sR d br l F g4 lv lab X W) (hf : Fr NoB W W') : ClS M w sN sL sR d br l F g4 lv lab X W' :=
  ⟨h.st.step hf, hf.at (fun h => h) h.box, h.row.fr hf (fun _ _ h => h), h.own⟩
theorem ClS.told (h : ClS M w sN sL sR d br l F g4 lv lab X W) (h' : RepS M w sN sL sR d br l F' X W') (hf : Fr (fun q => ¬ X q) W W') : ClS M w sN sL sR d br l F' g4 lv lab X W' :=
  ⟨h', hf.at (fun hn => hn (h.own _ (.inl rfl))) h.box, h.row.fr hf (fun b hb hn => hn (h.own _ (.inr hb))), h.own⟩
end
structure ClM (M : Nat → Prop) (w : World) (sN sL sR : Value) (d : Dmp) (br : Nat) (l F : List Flw) (g4 : Nat) (lv : Value) (lab : List Int) (bw bm : Nat) (gw : ByteArray → Option Int) (gm : ByteArray → Option Bool) (X : Nat → Prop) (W : World) : Prop where
  c : ClS M w sN sL sR d br l F g4 lv lab X W
  wd : strMap W bw gw
  mx : flagMap W bm gm
  xw : X bw
  xm : X bm
  ne : bw ≠ bm
section
variable {M : Nat → Prop} {w : World} {sN sL sR : Value} {d : Dmp} {br : Nat} {l F F' : List Flw} {g4 : Nat} {lv : Value} {lab : List Int} {bw bm : Nat} {gw gw' : ByteArray → Option Int} {gm gm' : ByteArray → Option Bool} {X X' : Nat → Prop} {W W' : World}
theorem ClM.grow (h : ClM M w sN sL sR d br l F g4 lv lab bw bm gw gm X W) (hf : Fr NoB W W') : ClM M w sN sL sR d br l F g4 lv lab bw bm gw gm X W' :=
  ⟨h.c.grow hf, h.wd.fr hf (fun h => h), h.mx.fr hf (fun h => h), h.xw, h.xm, h.ne⟩
theorem ClM.told (h : ClM M w sN sL sR d br l F g4 lv lab bw bm gw gm X W) (h' : RepS M w sN sL sR d br l F' X W') (hf : Fr (fun q => ¬ X q) W W') : ClM M w sN sL sR d br l F' g4 lv lab bw bm gw gm X W' :=
  ⟨h.c.told h' hf, h.wd.fr hf (fun hn => hn h.xw), h.mx.fr hf (fun hn => hn h.xm), h.xw, h.xm, h.ne⟩
theorem ClM.turn (h : ClM M w sN sL sR d br l F g4 lv lab bw bm gw gm X W) {q : Nat} (hq : q = bw ∨ q = bm) (hf : Fr (fun j => j = q) W W') (h1 : strMap W' bw gw') (h2 : flagMap W' bm gm') : ClM M w sN sL sR d br l F g4 lv lab bw bm gw' gm' X W' := by
  have key : ∀ {b : Nat} {cs : Array Value} {e : TypeId} {f : Nat × Nat}, W.heap[b]? = some (.cells cs e f) → b ≠ q := fun hb => by
    rcases hq with rfl | rfl
    · exact h.wd.ne_cells hb
    · exact h.mx.ne_cells hb
  have hx : X q := by
    rcases hq with rfl | rfl
    · exact h.xw
    · exact h.xm
  refine ⟨⟨h.c.st.turn hf (fun j e => ?_), hf.at (key h.c.box) h.c.box, h.c.row.fr hf (fun b hb e => ?_), h.c.own⟩, h1, h2, h.xw, h.xm, h.ne⟩
  · have e2 : j = q := e
    subst e2
    exact ⟨hx, fun e3 => key h.c.st.box e3.symm⟩
  · obtain ⟨cur, hc⟩ := h.c.row.head hb
    exact key hc e
end
end Go.Proofs.YtgpliiepoimcbaaDoor
end
section
/- The walk of invariant's classes. -/
namespace Go.Proofs.YtgpliiepoimcbaaDoor
open Go.RowKit
set_option maxRecDepth 100000

def clsF (ns : List Node) (roots lab : List Int) : List Flw :=
  rootsF roots lab (min roots.length ns.length) ++ (if roots.length = ns.length then [] else [⟨9, ((min roots.length ns.length : Nat) : Int)⟩]) ++ fls 10 (openAt ns lab) ns.length


set_option maxHeartbeats 4000000 in
theorem classes_any (M : Nat → Prop) (sN sL sR : Value) (d : Dmp) (w : World) (br : Nat) (l : List Flw) (hd : RdD M w sN sL sR d) (hr : RepAt M w br l) (hlen : d.nodes.length ≤ 1000000) (hlk : d.links.length ≤ 1000000) (hlr : d.roots.length ≤ 1000000) (hll : l.length ≤ 10000000) (ht : Tab w) (hMT : ¬ M TB)
    (hok : ∀ x ∈ d.nodes, NodeOk x.1 ∧ NodeSm x.1) (hord : ∀ x ∈ d.nodes, ∀ y ∈ x.1.args, 0 ≤ y ∧ y < d.nodes.length) :
    Calls Tryd.prog 23 #[dumpV sN sL sR, .func (.func 19) #[.pointer (some ⟨br, 0, none⟩)] #[]] w fun e w' => e = .returned (.tuple #[]) ∧
      (∃ M', RepAt M' w' br (l ++ clsF (nsOf d) d.roots (lbAt d.nodes.length d.links d.links.length)) ∧ Gr M M' w) ∧ Fr M w w' := by
  obtain ⟨p, c1, hp⟩ := hd.nodes.form
  subst hp
  obtain ⟨pl, cl, hp⟩ := hd.links.form3
  subst hp
  obtain ⟨pr, cr, hp⟩ := hd.roots.form
  subst hp
  have S0 := hid (RepS.start hd hr)
  have HT := hid ht
  have HMT := hid hMT
  have HOK := hid hok
  have HORD := hid hord
  have HCO := hid (fun (x : Node) h1 h2 => canon_ok (n := d.nodes.length) (lk := d.links) hlen (x := x) h1 h2)
  have HNO : Hid (∀ x ∈ nsOf d, NodeOk (canonN (lbAt d.nodes.length d.links d.links.length) x)) := fun y hy => by
    unfold nsOf at hy
    obtain ⟨x, hx, rfl⟩ := List.mem_map.1 hy
    exact canon_ok hlen (hok x hx).1 (hord x hx)
  obtain ⟨lab, hlab⟩ : ∃ lab, lbAt d.nodes.length d.links d.links.length = lab := ⟨_, rfl⟩
  rw [hlab] at HNO HCO ⊢
  have HLB := hid hlab
  clear hlab
  clear hd hr ht hMT hok hord
  obtain ⟨d0, d1, d2, df, dl⟩ := three_of S0.out.box
  unfold dumpV
  go_enter Tryd.func23, Tryd.ntmps23
  go_wp2_with fail
  clear d0 d1 d2 df dl
  refine (roots2_any _ _ _ d _ (S0.out.rd.weaken (fun _ _ h => h.elim)) hlen hlk).mono ?_
  rintro e w1 ⟨v, rfl, ho, hf⟩
  simp only [World.size_alloc] at ho
  obtain ⟨lp, lc, hv⟩ := ho.form
  have hll0 := lbAt_length d.nodes.length d.links d.links.length
  rw [hll0] at hv
  subst hv
  rw [HLB.out] at ho hll0
  have HLL := hid hll0
  have HO := hid ho
  have hs1 : w.heap.size + 1 ≤ w1.heap.size := by have := hf.size; simp only [World.size_alloc] at this; omega
  have HS1 := hid hs1
  have S1 : Hid (RepS M w (.slice p d.nodes.length c1) (.slice pl d.links.length cl) (.slice pr d.roots.length cr) d br l [] (fun q => w.heap.size ≤ q ∧ q < w1.heap.size) w1) := S0.out.grow hf (fun q hq => by simp only [World.size_alloc]; by_cases e : q = w.heap.size; exact .inl e; exact .inr (by omega)) (by omega)
  clear hf ho hll0 S0 hs1
  obtain ⟨N, hN⟩ : ∃ N : Nat, min d.roots.length d.nodes.length = N := ⟨_, rfl⟩
  have hmin : min (d.nodes.length : Int) (d.roots.length : Int) = (N : Int) := by omega
  have HN := hid hN
  clear hN
  obtain ⟨d0, d1, d2, df, dl⟩ := three_of S1.out.box
  go_wp2
  clear d0 d1 d2 df dl
  have f1 := (Fr.refl NoB w1).alloc (.cells #[.slice lp d.nodes.length lc] 24)
  have S2 : Hid (ClS M w (.slice p d.nodes.length c1) (.slice pl d.links.length cl) (.slice pr d.roots.length cr) d br l [] w1.heap.size (.slice lp d.nodes.length lc) lab (fun q => w.heap.size ≤ q ∧ q < w1.heap.size + 1) (w1.alloc (.cells #[.slice lp d.nodes.length lc] 24))) := by
    have hs := HS1.out
    refine ⟨S1.out.grow f1 (fun q hq => ?_) (by omega), at_new w1 _, HO.out.fr f1 (fun _ _ h => h), fun b hb => ?_⟩
    · simp only [World.size_alloc]
      by_cases e : q = w1.heap.size
      · exact .inr (by omega)
      · exact .inl (by omega)
    · rcases hb with rfl | hb
      · omega
      · have := World.ownsRow.lt HO.out b hb; omega
  obtain ⟨X0, hX0⟩ : ∃ X : Nat → Prop, X = (fun q => w.heap.size ≤ q ∧ q < w1.heap.size + 1) := ⟨_, rfl⟩
  rw [← hX0] at S2
  obtain ⟨g4, hg4⟩ : ∃ g, w1.heap.size = g := ⟨_, rfl⟩
  rw [hg4] at S2 ⊢
  clear f1 hX0 hg4 S1 HO HS1
  go_loopw [23] (fun j wr => ∃ (k : Nat), k ≤ N ∧ j = .int .i64 k ∧ ∃ X, ClS M w (.slice p d.nodes.length c1) (.slice pl d.links.length cl) (.slice pr d.roots.length cr) d br l (rootsF d.roots lab k) g4 (.slice lp d.nodes.length lc) lab X wr) (fun j _ => N - (intOf j).toNat)
  case atStart => exact ⟨0, Nat.zero_le _, rfl, X0, by simpa [rootsF, fls] using S2.out⟩
  case round =>
    obtain ⟨k, hk, rfl, X, hs⟩ := hrel
    have S3 := hid hs
    have HON := hid (@fls_on 9 (fun i => d.roots.getD i 0 != lab.getD i 0) k)
    have HOFF := hid (@fls_off 9 (fun i => d.roots.getD i 0 != lab.getD i 0) k)
    have HF1 := hid (fls_le 9 (fun i => d.roots.getD i 0 != lab.getD i 0) k)
    clear hs S2
    obtain ⟨d0, d1, d2, df, dl⟩ := three_of S3.out.st.box
    have c0 : wr.cell? ⟨g4, 0, none⟩ = some (.slice lp d.nodes.length lc) := by simp [World.cell?, S3.out.box]
    have c0l := lt_of_cell c0
    by_cases hlt : k < N
    · have hN2 := HN.out
      have hkr : k < d.roots.length := by omega
      have hkn : k < d.nodes.length := by omega
      obtain ⟨br1, orr, rfl, r0⟩ := S3.out.st.rd.roots.cellK hkr
      obtain ⟨bb, ob, rfl, b0⟩ := (S3.out.row.rd (M := NoB) (fun _ _ h => h)).cellK (k := k) (by rw [HLL.out]; exact hkn)
      obtain ⟨q1, hq1⟩ : ∃ q, d.roots.getD k 0 = q := ⟨_, rfl⟩
      obtain ⟨q2, hq2⟩ : ∃ q, lab.getD k 0 = q := ⟨_, rfl⟩
      rw [hq1] at r0
      rw [hq2] at b0
      have HQ1 := hid hq1
      have HQ2 := hid hq2
      have db := lt_of_cell r0
      have db' := lt_of_cell b0
      clear hq1 hq2 hN2
      by_cases hq : q1 = q2
      · have hp : (d.roots.getD k 0 != lab.getD k 0) = false := by rw [HQ1.out, HQ2.out]; simpa using hq
        have HP := hid hp
        subst hq
        clear hp
        go_wp2
        refine region_txt (Fr NoB _) (by kernel_rfl) (by kernel_rfl) ((Fr.refl NoB _).drew) ?_
        repeat (first | (refine txt_off (by rfl) ?_; (try simp only [Act.put, List.setIfInBounds_toArray, List.set_cons_zero, List.set_cons_succ])) | (refine txt_read ?_ (by rfl) ?_ ?_; rotate_left; (focus (intro W hW; have hWc := Fr.cq hW; clear hW; go_simp; (try with_reducible rfl); done)); (try simp only [Act.put, List.setIfInBounds_toArray, List.set_cons_zero, List.set_cons_succ])))
        refine txt_nil ?_
        intro W hW
        have S4 := hid (S3.out.grow hW)
        clear hW d0 d1 d2 df dl r0 b0 db db' c0 c0l S3
        go_wp2
        go_roundw
        case rel => exact ⟨k + 1, by omega, by go_num, X, by unfold rootsF; rw [HOFF.out HP.out]; exact S4.out⟩
        case measure => simp [intOf]; omega
      · have hp : (d.roots.getD k 0 != lab.getD k 0) = true := by rw [HQ1.out, HQ2.out]; simpa using hq
        have HP := hid hp
        have hq' : ¬ q2 = q1 := fun e => hq e.symm
        clear hp
        go_wp2
        refine region_txt (Fr NoB _) (by kernel_rfl) (by kernel_rfl) ((Fr.refl NoB _).drew) ?_
        repeat (first | (refine txt_off (by rfl) ?_; (try simp only [Act.put, List.setIfInBounds_toArray, List.set_cons_zero, List.set_cons_succ])) | (refine txt_read ?_ (by rfl) ?_ ?_; rotate_left; (focus (intro W hW; have hWc := Fr.cq hW; clear hW; go_simp; (try with_reducible rfl); done)); (try simp only [Act.put, List.setIfInBounds_toArray, List.set_cons_zero, List.set_cons_succ])))
        refine txt_nil ?_
        intro W hW
        have S4 := hid (S3.out.grow hW)
        have RS := hid S4.out.st
        clear hW d0 d1 d2 df dl r0 b0 db db' c0 c0l S3
        obtain ⟨M3, n3, k3⟩ := RS.out.noted
        have HN3 := hid n3
        have HK3 := hid k3
        clear n3 k3
        go_wp2_with fail
        refine (repAdd_any M3 _ br _ 9 k HN3.out ?_).mono ?_
        · simp only [List.length_append]
          have h1 := HF1.out; unfold rootsF
          omega
        rintro e w9 ⟨rfl, ⟨M4, n4, g4⟩, f4⟩
        have S9 := hid (HK3.out w9 M4 _ n4 g4 f4)
        clear n4 g4 f4
        have S9' := hid (S4.out.told S9.out.1 S9.out.2)
        go_wp2
        go_roundw
        case rel => exact ⟨k + 1, by omega, by go_num, X, by unfold rootsF; rw [HON.out HP.out]; exact S9'.out⟩
        case measure => simp [intOf]; omega
    · obtain rfl : k = N := by omega
      have hfl1 := HF1.out
      by_cases hrl : d.roots.length = d.nodes.length
      · have hrl' : (d.roots.length : Int) = d.nodes.length := by omega
        obtain ⟨FF, hff⟩ : ∃ FF, rootsF d.roots lab k = FF := ⟨_, rfl⟩
        rw [hff] at S3
        have HFF : Hid (rootsF d.roots lab (min d.roots.length d.nodes.length) ++ (if d.roots.length = d.nodes.length then [] else [⟨9, ((min d.roots.length d.nodes.length : Nat) : Int)⟩]) = FF) := by
          show _ = _
          rw [if_pos hrl, List.append_nil, HN.out, hff]
        have HFL : Hid (FF.length ≤ 2000000) := by
          show _ ≤ _
          rw [← hff]; unfold rootsF; omega
        clear hff hfl1 hrl
        have hmm := @run_makeMap Tryd.prog
        obtain ⟨d0, d1, d2, df, dl⟩ := three_of S3.out.st.box
        go_wp2
        clear hmm d0 d1 d2 df dl
        have M1 : Hid (∃ X, ClM M w (.slice p d.nodes.length c1) (.slice pl d.links.length cl) (.slice pr d.roots.length cr) d br l FF g4 (.slice lp d.nodes.length lc) lab wr.heap.size (wr.heap.size + 1) (fun _ => none) (fun _ => none) X ((wr.alloc (.map #[] 0)).alloc (.map #[] 0))) := by
          have f2 : Fr NoB wr ((wr.alloc (.map #[] 0)).alloc (.map #[] 0)) := ((Fr.refl NoB wr).alloc _).alloc _
          have hs := S3.out.st.x _ S3.out.st.bx
          refine ⟨fun q => X q ∨ (wr.heap.size ≤ q ∧ q < wr.heap.size + 2), ⟨⟨S3.out.st.grow f2 (fun q hq => hq.imp_right (fun h => ⟨h.1, by simp; omega⟩)) (.inl S3.out.st.bx), f2.at (fun h => h) S3.out.box, S3.out.row.fr f2 (fun _ _ h => h), fun b hb => .inl (S3.out.own b hb)⟩, ?_, ?_, .inr ⟨by omega, by omega⟩, .inr ⟨by omega, by omega⟩, by omega⟩⟩
          · exact (MpIs.new .string Value.string (Value.int .i64) wr).fr ((Fr.refl NoB _).alloc _) (fun h => h)
          · have h := MpIs.new .string Value.string Value.bool (wr.alloc (.map #[] 0))
            simp only [World.size_alloc] at h
            exact h
        obtain ⟨bw, hbw⟩ : ∃ bw, wr.heap.size = bw := ⟨_, rfl⟩
        rw [hbw] at M1 ⊢
        clear hbw
        go_loopw [54] (fun j wr => ∃ (k : Nat), k ≤ d.nodes.length ∧ j = .int .i64 k ∧ ∃ X gw gm, ClM M w (.slice p d.nodes.length c1) (.slice pl d.links.length cl) (.slice pr d.roots.length cr) d br l (FF ++ fls 10 (openAt (nsOf d) lab) k) g4 (.slice lp d.nodes.length lc) lab bw (bw + 1) gw gm X wr ∧ ClsI (keyAt (nsOf d) lab) (fun j => lab.getD j 0) k gw gm) (fun j _ => d.nodes.length - (intOf j).toNat)
        case atStart =>
          obtain ⟨X1, M1⟩ := M1.out
          exact ⟨0, Nat.zero_le _, rfl, X1, _, _, by simpa [fls] using M1, ClsI.init⟩
        case round =>
          obtain ⟨k, hk, rfl, X, gw, gm, hs, hi⟩ := hrel
          have S := hid hs
          have I := hid hi
          clear hs hi M1 S3 hrl' hmin
          by_cases hlt : k < d.nodes.length
          · obtain ⟨b, off, rfl, e0, e1, e2, e3, e4, ha⟩ := S.out.c.st.rd.nodes.nodeK hlt
            have HX := hid (nsOf_at hlt)
            have HMEM := hid (List.getElem_mem hlt)
            obtain ⟨x, hx⟩ : ∃ x, d.nodes[k] = x := ⟨_, rfl⟩
            rw [hx] at e0 e1 e2 e3 e4 ha HX HMEM
            obtain ⟨xn, xs⟩ := x
            simp only at e0 e1 e2 e3 e4 ha HX
            obtain ⟨xa, xc, hv⟩ := ha.form
            subst hv
            have HA := hid ha
            have HF1 := hid (fls_le 10 (openAt (nsOf d) lab) k)
            clear hx ha
            have c0 : wr.cell? ⟨g4, 0, none⟩ = some (.slice lp d.nodes.length lc) := by simp [World.cell?, S.out.c.box]
            have c0l := lt_of_cell c0
            go_wp2_with fail
            clear e0 e1 e2 e3 e4 c0 c0l
            have FA := (Fr.refl NoB wr).alloc (.cells (nodeCells xn (.slice xa xn.args.length xc)) 40)
            have S0 := hid (S.out.grow FA)
            have HA0 := hid (HA.out.fr FA (fun _ _ h => h.elim))
            obtain ⟨wb, hwb⟩ : ∃ wb, wr.alloc (.cells (nodeCells xn (.slice xa xn.args.length xc)) 40) = wb := ⟨_, rfl⟩
            rw [hwb] at S0 HA0 ⊢
            clear hwb FA S HA
            refine (classCanon_any g4 (.slice lp d.nodes.length lc) lab xn (.slice xa xn.args.length xc) wb S0.out.c.box _ S0.out.c.row (by rw [HLL.out]; exact hlen) (HA0.out.weaken (fun _ _ h => h.elim)) (Nat.le_trans (show xn.args.length ≤ 100000 from (HOK.out _ HMEM.out).2.args) (by omega)) (fun y hy => by rw [HLL.out]; exact HORD.out _ HMEM.out y hy)).mono ?_
            rintro e w2 ⟨a', c', rfl, hoc, hf⟩
            have S2 := hid (S0.out.grow hf)
            have OC := hid hoc
            clear hf hoc S0 HA0
            go_wp2_with fail
            refine (key_any NoB (canonN lab xn) (.slice a' xn.args.length c') w2 (OC.out.rd (fun _ _ h => h)) (HCO.out _ (HOK.out _ HMEM.out).1 (HORD.out _ HMEM.out)) (canon_sm (HOK.out _ HMEM.out).2) (HT.out.fr S2.out.c.st.fr HMT.out)).mono ?_
            rintro e w3 ⟨rfl, hf⟩
            have S3 := hid (S2.out.grow hf)
            have HKB : Hid (keyAt (nsOf d) lab k = keyB (canonN lab xn)) := by show _ = _; unfold keyAt; rw [HX.out]; rfl
            obtain ⟨kb, hkb⟩ : ∃ kb, keyB (canonN lab xn) = kb := ⟨_, rfl⟩
            rw [hkb] at HKB ⊢
            clear hf OC S2 hkb
            have HOP : Hid (openAt (nsOf d) lab k = true ↔ ∃ j, j < k ∧ keyAt (nsOf d) lab j = keyAt (nsOf d) lab k ∧ lab.getD j 0 ≠ lab.getD k 0) := open_key HNO.out (by rw [nsOf_length]; exact hlt)
            have c0 : w3.cell? ⟨g4, 0, none⟩ = some (.slice lp d.nodes.length lc) := by simp [World.cell?, S3.out.c.box]
            rcases S3.out.c.row.form' with ⟨_, hv⟩ | ⟨gl, lcap, hv, _, _, _⟩
            · have := HLL.out; rw [hv] at this; simp at this; omega
            rw [HLL.out] at hv
            simp only [Value.slice.injEq] at hv
            obtain ⟨rfl, _, rfl⟩ := hv
            have cl0 := S3.out.c.row.cell (i := k) (by rw [HLL.out]; exact hlt)
            obtain ⟨lk0, hlk0⟩ : ∃ q, lab.getD k 0 = q := ⟨_, rfl⟩
            rw [hlk0] at cl0
            have HLK0 := hid hlk0
            clear hlk0
            have lkw := S3.out.wd.look (P := Tryd.prog) kkString Tryd.underlying66 Tryd.underlying9 (z := .int .i64 0) (by kernel_rfl) kb true
            cases hg : gw kb with
            | none =>
              rw [hg] at lkw
              have HI := hid (I.out.fresh (by rw [HKB.out]; exact hg))
              rw [HKB.out] at HI
              obtain ⟨w4, p1, p2, p3⟩ := S3.out.wd.put (P := Tryd.prog) kkString Tryd.underlying66 Tryd.underlying9 kb lk0
              have S4 := hid (S3.out.turn (.inl rfl) p3 p2 (S3.out.mx.fr p3 (fun e => S3.out.ne e.symm)))
              have HV : Hid (openAt (nsOf d) lab k = false) := by
                show _ = _
                cases h : openAt (nsOf d) lab k with
                | false => rfl
                | true => exact absurd (by have := HOP.out.1 h; rw [HKB.out] at this; exact this) HI.out.2
              clear hg p2 p3
              go_wp2
              go_roundw
              case rel => exact ⟨k + 1, by omega, by go_num, X, _, _, by rw [fls_off HV.out]; exact S4.out, by have := HI.out.1; simp only [HLK0.out] at this; exact this⟩
              case measure => simp [intOf]; omega
            | some f =>
              rw [hg] at lkw
              have HG := hid hg
              have lkm := S3.out.mx.look (P := Tryd.prog) kkString Tryd.underlying67 Tryd.underlying9 (z := .bool false) (by kernel_rfl) kb false
              obtain ⟨mv, hmv⟩ : ∃ mv, (gm kb).getD false = mv := ⟨_, rfl⟩
              have hval : ((gm kb).map Value.bool).getD (.bool false) = .bool mv := by
                cases h : gm kb with
                | none => rw [h] at hmv; simp at hmv; rw [← hmv]; rfl
                | some b => rw [h] at hmv; simp at hmv; rw [← hmv]; rfl
              simp only [Bool.false_eq_true, if_false, hval] at lkm
              have HMV := hid hmv
              clear hg hmv hval
              by_cases hbad : mv = true ∨ f ≠ lk0
              · have HI := hid (I.out.bad (by rw [HKB.out]; exact HG.out) (by rw [HKB.out, HMV.out]; simp only [HLK0.out]; exact hbad))
                rw [HKB.out] at HI
                have HV : Hid (openAt (nsOf d) lab k = true) := HOP.out.2 (by rw [HKB.out]; exact HI.out.2)
                obtain ⟨w4, p1, p2, p3⟩ := S3.out.mx.put (P := Tryd.prog) kkString Tryd.underlying67 Tryd.underlying9 kb true
                have S4 := hid (S3.out.turn (.inr rfl) p3 (S3.out.wd.fr p3 S3.out.ne) p2)
                have RS := hid S4.out.c.st
                clear p2 p3
                cases mv with
                | true =>
                  clear hbad
                  obtain ⟨M3, n3, k3⟩ := RS.out.noted
                  have HN3 := hid n3
                  have HK3 := hid k3
                  clear n3 k3
                  go_wp2_with fail
                  refine (repAdd_any M3 _ br _ 10 k HN3.out ?_).mono ?_
                  · simp only [List.length_append]
                    have h1 := HF1.out; have h2 := HFL.out
                    omega
                  rintro e w9 ⟨rfl, ⟨M4, n4, g4⟩, f4⟩
                  have S9 := hid (HK3.out w9 M4 _ n4 g4 f4)
                  clear n4 g4 f4
                  have S9' := hid (S4.out.told S9.out.1 S9.out.2)
                  go_wp2
                  go_roundw
                  case rel => exact ⟨k + 1, by omega, by go_num, X, _, _, by rw [fls_on HV.out, ← List.append_assoc]; exact S9'.out, HI.out.1⟩
                  case measure => simp [intOf]; omega
                | false =>
                  have hfw : f ≠ lk0 := by simpa using hbad
                  clear hbad
                  obtain ⟨M3, n3, k3⟩ := RS.out.noted
                  have HN3 := hid n3
                  have HK3 := hid k3
                  clear n3 k3
                  go_wp2_with fail
                  refine (repAdd_any M3 _ br _ 10 k HN3.out ?_).mono ?_
                  · simp only [List.length_append]
                    have h1 := HF1.out; have h2 := HFL.out
                    omega
                  rintro e w9 ⟨rfl, ⟨M4, n4, g4⟩, f4⟩
                  have S9 := hid (HK3.out w9 M4 _ n4 g4 f4)
                  clear n4 g4 f4
                  have S9' := hid (S4.out.told S9.out.1 S9.out.2)
                  go_wp2
                  go_roundw
                  case rel => exact ⟨k + 1, by omega, by go_num, X, _, _, by rw [fls_on HV.out, ← List.append_assoc]; exact S9'.out, HI.out.1⟩
                  case measure => simp [intOf]; omega
              · have hmf : mv = false := by cases mv <;> simp_all
                have hfw : f = lk0 := by by_cases e : f = lk0; exact e; exact absurd (.inr e) hbad
                subst hmf
                have HI := hid (I.out.fine (by rw [HKB.out]; exact HG.out) (by rw [HKB.out]; exact HMV.out) (by simp only [HLK0.out]; exact hfw))
                have HV : Hid (openAt (nsOf d) lab k = false) := by
                  show _ = _
                  cases h : openAt (nsOf d) lab k with
                  | false => rfl
                  | true => exact absurd (HOP.out.1 h) HI.out.2
                clear hbad
                go_wp2
                go_roundw
                case rel => exact ⟨k + 1, by omega, by go_num, X, _, _, by rw [fls_off HV.out]; exact S3.out, HI.out.1⟩
                case measure => simp [intOf]; omega
          · obtain rfl : k = d.nodes.length := by omega
            go_wp2
            go_end0
            obtain ⟨M', h1, h2, _⟩ := S.out.c.st.rep
            have e : FF ++ fls 10 (openAt (nsOf d) lab) d.nodes.length = clsF (nsOf d) d.roots lab := by
              unfold clsF
              rw [nsOf_length, HFF.out]
            rw [e] at h1
            exact ⟨rfl, ⟨M', h1, h2⟩, S.out.c.st.fr⟩
      · have hrl' : ¬ (d.nodes.length : Int) = d.roots.length := by omega
        have RS := hid S3.out.st
        obtain ⟨M3, n3, k3⟩ := RS.out.noted
        have HN3 := hid n3
        have HK3 := hid k3
        clear n3 k3
        go_wp2_with fail
        refine (repAdd_any M3 _ br _ 9 k HN3.out ?_).mono ?_
        · simp only [List.length_append]
          have h1 := HF1.out; unfold rootsF
          omega
        rintro e w9 ⟨rfl, ⟨M4, n4, g4⟩, f4⟩
        have S9 := hid (HK3.out w9 M4 _ n4 g4 f4)
        clear n4 g4 f4
        have S4 := hid (S3.out.told S9.out.1 S9.out.2)
        obtain ⟨FF, hff⟩ : ∃ FF, rootsF d.roots lab k ++ [⟨9, (k : Int)⟩] = FF := ⟨_, rfl⟩
        rw [hff] at S4
        have HFF : Hid (rootsF d.roots lab (min d.roots.length d.nodes.length) ++ (if d.roots.length = d.nodes.length then [] else [⟨9, ((min d.roots.length d.nodes.length : Nat) : Int)⟩]) = FF) := by
          show _ = _
          rw [if_neg hrl, HN.out, hff]
        have HFL : Hid (FF.length ≤ 2000000) := by
          show _ ≤ _
          rw [← hff, List.length_append, List.length_singleton]; unfold rootsF; omega
        clear hff hfl1 hrl d0 d1 d2 df dl c0 c0l S3 RS S9
        have hmm := @run_makeMap Tryd.prog
        obtain ⟨d0, d1, d2, df, dl⟩ := three_of S4.out.st.box
        go_wp2
        clear hmm d0 d1 d2 df dl
        have M1 : Hid (∃ X, ClM M w (.slice p d.nodes.length c1) (.slice pl d.links.length cl) (.slice pr d.roots.length cr) d br l FF g4 (.slice lp d.nodes.length lc) lab w9.heap.size (w9.heap.size + 1) (fun _ => none) (fun _ => none) X ((w9.alloc (.map #[] 0)).alloc (.map #[] 0))) := by
          have f2 : Fr NoB w9 ((w9.alloc (.map #[] 0)).alloc (.map #[] 0)) := ((Fr.refl NoB w9).alloc _).alloc _
          have hs := S4.out.st.x _ S4.out.st.bx
          refine ⟨fun q => X q ∨ (w9.heap.size ≤ q ∧ q < w9.heap.size + 2), ⟨⟨S4.out.st.grow f2 (fun q hq => hq.imp_right (fun h => ⟨h.1, by simp; omega⟩)) (.inl S4.out.st.bx), f2.at (fun h => h) S4.out.box, S4.out.row.fr f2 (fun _ _ h => h), fun b hb => .inl (S4.out.own b hb)⟩, ?_, ?_, .inr ⟨by omega, by omega⟩, .inr ⟨by omega, by omega⟩, by omega⟩⟩
          · exact (MpIs.new .string Value.string (Value.int .i64) w9).fr ((Fr.refl NoB _).alloc _) (fun h => h)
          · have h := MpIs.new .string Value.string Value.bool (w9.alloc (.map #[] 0))
            simp only [World.size_alloc] at h
            exact h
        obtain ⟨bw, hbw⟩ : ∃ bw, w9.heap.size = bw := ⟨_, rfl⟩
        rw [hbw] at M1 ⊢
        clear hbw
        go_loopw [54] (fun j wr => ∃ (k : Nat), k ≤ d.nodes.length ∧ j = .int .i64 k ∧ ∃ X gw gm, ClM M w (.slice p d.nodes.length c1) (.slice pl d.links.length cl) (.slice pr d.roots.length cr) d br l (FF ++ fls 10 (openAt (nsOf d) lab) k) g4 (.slice lp d.nodes.length lc) lab bw (bw + 1) gw gm X wr ∧ ClsI (keyAt (nsOf d) lab) (fun j => lab.getD j 0) k gw gm) (fun j _ => d.nodes.length - (intOf j).toNat)
        case atStart =>
          obtain ⟨X1, M1⟩ := M1.out
          exact ⟨0, Nat.zero_le _, rfl, X1, _, _, by simpa [fls] using M1, ClsI.init⟩
        case round =>
          obtain ⟨k, hk, rfl, X, gw, gm, hs, hi⟩ := hrel
          have S := hid hs
          have I := hid hi
          clear hs hi M1 S4 hrl' hmin
          by_cases hlt : k < d.nodes.length
          · obtain ⟨b, off, rfl, e0, e1, e2, e3, e4, ha⟩ := S.out.c.st.rd.nodes.nodeK hlt
            have HX := hid (nsOf_at hlt)
            have HMEM := hid (List.getElem_mem hlt)
            obtain ⟨x, hx⟩ : ∃ x, d.nodes[k] = x := ⟨_, rfl⟩
            rw [hx] at e0 e1 e2 e3 e4 ha HX HMEM
            obtain ⟨xn, xs⟩ := x
            simp only at e0 e1 e2 e3 e4 ha HX
            obtain ⟨xa, xc, hv⟩ := ha.form
            subst hv
            have HA := hid ha
            have HF1 := hid (fls_le 10 (openAt (nsOf d) lab) k)
            clear hx ha
            have c0 : wr.cell? ⟨g4, 0, none⟩ = some (.slice lp d.nodes.length lc) := by simp [World.cell?, S.out.c.box]
            have c0l := lt_of_cell c0
            go_wp2_with fail
            clear e0 e1 e2 e3 e4 c0 c0l
            have FA := (Fr.refl NoB wr).alloc (.cells (nodeCells xn (.slice xa xn.args.length xc)) 40)
            have S0 := hid (S.out.grow FA)
            have HA0 := hid (HA.out.fr FA (fun _ _ h => h.elim))
            obtain ⟨wb, hwb⟩ : ∃ wb, wr.alloc (.cells (nodeCells xn (.slice xa xn.args.length xc)) 40) = wb := ⟨_, rfl⟩
            rw [hwb] at S0 HA0 ⊢
            clear hwb FA S HA
            refine (classCanon_any g4 (.slice lp d.nodes.length lc) lab xn (.slice xa xn.args.length xc) wb S0.out.c.box _ S0.out.c.row (by rw [HLL.out]; exact hlen) (HA0.out.weaken (fun _ _ h => h.elim)) (Nat.le_trans (show xn.args.length ≤ 100000 from (HOK.out _ HMEM.out).2.args) (by omega)) (fun y hy => by rw [HLL.out]; exact HORD.out _ HMEM.out y hy)).mono ?_
            rintro e w2 ⟨a', c', rfl, hoc, hf⟩
            have S2 := hid (S0.out.grow hf)
            have OC := hid hoc
            clear hf hoc S0 HA0
            go_wp2_with fail
            refine (key_any NoB (canonN lab xn) (.slice a' xn.args.length c') w2 (OC.out.rd (fun _ _ h => h)) (HCO.out _ (HOK.out _ HMEM.out).1 (HORD.out _ HMEM.out)) (canon_sm (HOK.out _ HMEM.out).2) (HT.out.fr S2.out.c.st.fr HMT.out)).mono ?_
            rintro e w3 ⟨rfl, hf⟩
            have S3 := hid (S2.out.grow hf)
            have HKB : Hid (keyAt (nsOf d) lab k = keyB (canonN lab xn)) := by show _ = _; unfold keyAt; rw [HX.out]; rfl
            obtain ⟨kb, hkb⟩ : ∃ kb, keyB (canonN lab xn) = kb := ⟨_, rfl⟩
            rw [hkb] at HKB ⊢
            clear hf OC S2 hkb
            have HOP : Hid (openAt (nsOf d) lab k = true ↔ ∃ j, j < k ∧ keyAt (nsOf d) lab j = keyAt (nsOf d) lab k ∧ lab.getD j 0 ≠ lab.getD k 0) := open_key HNO.out (by rw [nsOf_length]; exact hlt)
            have c0 : w3.cell? ⟨g4, 0, none⟩ = some (.slice lp d.nodes.length lc) := by simp [World.cell?, S3.out.c.box]
            rcases S3.out.c.row.form' with ⟨_, hv⟩ | ⟨gl, lcap, hv, _, _, _⟩
            · have := HLL.out; rw [hv] at this; simp at this; omega
            rw [HLL.out] at hv
            simp only [Value.slice.injEq] at hv
            obtain ⟨rfl, _, rfl⟩ := hv
            have cl0 := S3.out.c.row.cell (i := k) (by rw [HLL.out]; exact hlt)
            obtain ⟨lk0, hlk0⟩ : ∃ q, lab.getD k 0 = q := ⟨_, rfl⟩
            rw [hlk0] at cl0
            have HLK0 := hid hlk0
            clear hlk0
            have lkw := S3.out.wd.look (P := Tryd.prog) kkString Tryd.underlying66 Tryd.underlying9 (z := .int .i64 0) (by kernel_rfl) kb true
            cases hg : gw kb with
            | none =>
              rw [hg] at lkw
              have HI := hid (I.out.fresh (by rw [HKB.out]; exact hg))
              rw [HKB.out] at HI
              obtain ⟨w4, p1, p2, p3⟩ := S3.out.wd.put (P := Tryd.prog) kkString Tryd.underlying66 Tryd.underlying9 kb lk0
              have S4 := hid (S3.out.turn (.inl rfl) p3 p2 (S3.out.mx.fr p3 (fun e => S3.out.ne e.symm)))
              have HV : Hid (openAt (nsOf d) lab k = false) := by
                show _ = _
                cases h : openAt (nsOf d) lab k with
                | false => rfl
                | true => exact absurd (by have := HOP.out.1 h; rw [HKB.out] at this; exact this) HI.out.2
              clear hg p2 p3
              go_wp2
              go_roundw
              case rel => exact ⟨k + 1, by omega, by go_num, X, _, _, by rw [fls_off HV.out]; exact S4.out, by have := HI.out.1; simp only [HLK0.out] at this; exact this⟩
              case measure => simp [intOf]; omega
            | some f =>
              rw [hg] at lkw
              have HG := hid hg
              have lkm := S3.out.mx.look (P := Tryd.prog) kkString Tryd.underlying67 Tryd.underlying9 (z := .bool false) (by kernel_rfl) kb false
              obtain ⟨mv, hmv⟩ : ∃ mv, (gm kb).getD false = mv := ⟨_, rfl⟩
              have hval : ((gm kb).map Value.bool).getD (.bool false) = .bool mv := by
                cases h : gm kb with
                | none => rw [h] at hmv; simp at hmv; rw [← hmv]; rfl
                | some b => rw [h] at hmv; simp at hmv; rw [← hmv]; rfl
              simp only [Bool.false_eq_true, if_false, hval] at lkm
              have HMV := hid hmv
              clear hg hmv hval
              by_cases hbad : mv = true ∨ f ≠ lk0
              · have HI := hid (I.out.bad (by rw [HKB.out]; exact HG.out) (by rw [HKB.out, HMV.out]; simp only [HLK0.out]; exact hbad))
                rw [HKB.out] at HI
                have HV : Hid (openAt (nsOf d) lab k = true) := HOP.out.2 (by rw [HKB.out]; exact HI.out.2)
                obtain ⟨w4, p1, p2, p3⟩ := S3.out.mx.put (P := Tryd.prog) kkString Tryd.underlying67 Tryd.underlying9 kb true
                have S4 := hid (S3.out.turn (.inr rfl) p3 (S3.out.wd.fr p3 S3.out.ne) p2)
                have RS := hid S4.out.c.st
                clear p2 p3
                cases mv with
                | true =>
                  clear hbad
                  obtain ⟨M3, n3, k3⟩ := RS.out.noted
                  have HN3 := hid n3
                  have HK3 := hid k3
                  clear n3 k3
                  go_wp2_with fail
                  refine (repAdd_any M3 _ br _ 10 k HN3.out ?_).mono ?_
                  · simp only [List.length_append]
                    have h1 := HF1.out; have h2 := HFL.out
                    omega
                  rintro e w9 ⟨rfl, ⟨M4, n4, g4⟩, f4⟩
                  have S9 := hid (HK3.out w9 M4 _ n4 g4 f4)
                  clear n4 g4 f4
                  have S9' := hid (S4.out.told S9.out.1 S9.out.2)
                  go_wp2
                  go_roundw
                  case rel => exact ⟨k + 1, by omega, by go_num, X, _, _, by rw [fls_on HV.out, ← List.append_assoc]; exact S9'.out, HI.out.1⟩
                  case measure => simp [intOf]; omega
                | false =>
                  have hfw : f ≠ lk0 := by simpa using hbad
                  clear hbad
                  obtain ⟨M3, n3, k3⟩ := RS.out.noted
                  have HN3 := hid n3
                  have HK3 := hid k3
                  clear n3 k3
                  go_wp2_with fail
                  refine (repAdd_any M3 _ br _ 10 k HN3.out ?_).mono ?_
                  · simp only [List.length_append]
                    have h1 := HF1.out; have h2 := HFL.out
                    omega
                  rintro e w9 ⟨rfl, ⟨M4, n4, g4⟩, f4⟩
                  have S9 := hid (HK3.out w9 M4 _ n4 g4 f4)
                  clear n4 g4 f4
                  have S9' := hid (S4.out.told S9.out.1 S9.out.2)
                  go_wp2
                  go_roundw
                  case rel => exact ⟨k + 1, by omega, by go_num, X, _, _, by rw [fls_on HV.out, ← List.append_assoc]; exact S9'.out, HI.out.1⟩
                  case measure => simp [intOf]; omega
              · have hmf : mv = false := by cases mv <;> simp_all
                have hfw : f = lk0 := by by_cases e : f = lk0; exact e; exact absurd (.inr e) hbad
                subst hmf
                have HI := hid (I.out.fine (by rw [HKB.out]; exact HG.out) (by rw [HKB.out]; exact HMV.out) (by simp only [HLK0.out]; exact hfw))
                have HV : Hid (openAt (nsOf d) lab k = false) := by
                  show _ = _
                  cases h : openAt (nsOf d) lab k with
                  | false => rfl
                  | true => exact absurd (HOP.out.1 h) HI.out.2
                clear hbad
                go_wp2
                go_roundw
                case rel => exact ⟨k + 1, by omega, by go_num, X, _, _, by rw [fls_off HV.out]; exact S3.out, HI.out.1⟩
                case measure => simp [intOf]; omega
          · obtain rfl : k = d.nodes.length := by omega
            go_wp2
            go_end0
            obtain ⟨M', h1, h2, _⟩ := S.out.c.st.rep
            have e : FF ++ fls 10 (openAt (nsOf d) lab) d.nodes.length = clsF (nsOf d) d.roots lab := by
              unfold clsF
              rw [nsOf_length, HFF.out]
            rw [e] at h1
            exact ⟨rfl, ⟨M', h1, h2⟩, S.out.c.st.fr⟩
end Go.Proofs.YtgpliiepoimcbaaDoor
end
section
/- The walks of invariant's Look and Sound, and of the reference's Look. -/
namespace Go.Proofs.YtgpliiepoimcbaaDoor
open Go.RowKit
set_option maxRecDepth 100000

theorem RdE.take {α : Type} {enc : α → List Value} {M : Nat → Prop} {w : World} {a : Option Addr} {n c : Nat} {l : List α} (h : RdE enc M w (.slice a n c) l) (k : Nat) (hk : k ≤ l.length) : RdE enc M w (.slice a k c) (l.take k) := by
  rcases h with ⟨⟨a', c', e, hc⟩, rfl⟩ | ⟨b, off, cap, e, h1, h2, h3, h4⟩
  · simp only [Value.slice.injEq] at e
    obtain ⟨rfl, rfl, rfl⟩ := e
    simp only [List.length_nil] at hk
    obtain rfl : k = 0 := by omega
    exact .inl ⟨⟨_, _, rfl, hc⟩, by simp⟩
  · simp only [Value.slice.injEq] at e
    obtain ⟨rfl, rfl, rfl⟩ := e
    refine .inr ⟨b, off, _, by rw [List.length_take, Nat.min_eq_left hk], h1, h2, by rw [List.length_take]; omega, fun j u hj => h4 j u ?_⟩
    have hs : flatE enc l = flatE enc (l.take k) ++ flatE enc (l.drop k) := by
      rw [← flatE_append, List.take_append_drop]
    rw [hs, List.getElem?_append_left (List.getElem?_eq_some_iff.1 hj).1]
    exact hj
theorem formF_name {d : Dmp} (h : formF (nsOf d) = []) : ∀ x ∈ d.nodes, x.1.name.size ≤ 100000000 := by
  intro x hx
  obtain ⟨i, hi, rfl⟩ := List.getElem_of_mem hx
  unfold formF at h
  rw [List.append_eq_nil_iff, List.append_eq_nil_iff, nsOf_length] at h
  have hs := fls_nil h.1.1 i hi
  unfold malfAt at hs
  rw [nsOf_at hi] at hs
  simp only [Option.elim_some, malfS, Bool.or_eq_false_iff, Bool.not_eq_false'] at hs
  have hf := (formedS_iff.1 hs.1).2.2.2
  by_cases e : d.nodes[i].1.op = 1
  · rw [if_pos e] at hf
    have h9 := hf.2
    by_cases c : 16 < d.nodes[i].1.name.size
    · rw [nameS_len (.inr c)] at h9; cases h9
    · omega
  · rw [if_neg e] at hf
    have h9 := hf.1
    rw [List.isEmpty_iff] at h9
    have : d.nodes[i].1.name = ⟨#[]⟩ := toList_inj (by rw [h9, toList_data])
    rw [this]
    exact Nat.zero_le _
/-- The state of Look: what its report holds. -/
structure LookS (w : World) (sN sL sR : Value) (d : Dmp) (l : List Flw) (W : World) : Prop where
  fr : Fr NoB w W
  rd : RdD (fun q => w.heap.size ≤ q) W sN sL sR d
  box : W.heap[w.heap.size]? = some (.cells (dumpCells sN sL sR) 26 (0, 0))
  rep : ∃ M, RepAt M W (w.heap.size + 1) l ∧ ∀ q, M q → w.heap.size < q
theorem LookS.start {w : World} {sN sL sR : Value} {d : Dmp} (hd : RdD NoB w sN sL sR d) : LookS w sN sL sR d [] ((w.alloc (.cells (dumpCells sN sL sR) 26)).alloc (.cells #[.slice none 0 0] 45)) := by
  have f := ((Fr.refl NoB w).alloc (.cells (dumpCells sN sL sR) 26)).alloc (.cells #[.slice none 0 0] 45)
  have f1 := (Fr.refl NoB (w.alloc (.cells (dumpCells sN sL sR) 26))).alloc (.cells #[.slice none 0 0] 45)
  refine ⟨f, (hd.more.weaken (fun k _ h => .inr h)).step f, f1.at (fun h => h) (at_new w _), fun q => q = w.heap.size + 1, ⟨⟨_, at_new' (by simp), OwnE.nil _ _ _ _ _, fun b hb => by cases hb⟩, rfl, fun k hk => ?_⟩, fun q hq => ?_⟩
  · have : k = w.heap.size + 1 := hk
    simp only [World.size_alloc]; omega
  · have : q = w.heap.size + 1 := hq
    omega
/-- A call that may report. -/
theorem LookS.call {w : World} {sN sL sR : Value} {d : Dmp} {l : List Flw} {W : World} (h : LookS w sN sL sR d l W) : ∃ M, RepAt M W (w.heap.size + 1) l ∧ RdD M W sN sL sR d ∧ (∀ q, M q → w.heap.size < q) ∧
    ∀ W2 l2, (∃ M', RepAt M' W2 (w.heap.size + 1) l2 ∧ Gr M M' W) → Fr M W W2 → LookS w sN sL sR d l2 W2 := by
  obtain ⟨h1, h2, h3, M, h4, h5⟩ := h
  refine ⟨M, h4, h2.weaken (fun k _ hk => Nat.le_of_lt (h5 k hk)), h5, fun W2 l2 ⟨M', h6, h7⟩ hf => ⟨h1.trans' hf (fun k hk e => by have := h5 k e; omega), h2.fr hf (fun k _ hk => Nat.le_of_lt (h5 k hk)), hf.at (fun e => Nat.lt_irrefl _ (h5 _ e)) h3, M', h6, fun q hq => ?_⟩⟩
  rcases h7 q hq with h | h
  · exact h5 q h
  · have h9 := (Array.getElem?_eq_some_iff.1 h3).1
    omega

set_option maxHeartbeats 4000000 in
theorem look_any (sN sL sR : Value) (d : Dmp) (w : World) (hd : RdD NoB w sN sL sR d) (hlen : d.nodes.length ≤ 1000000) (hlk : d.links.length ≤ 1000000) (hlr : d.roots.length ≤ 1000000) (hla : ∀ x ∈ d.nodes, x.1.args.length ≤ 100000) (hok : ∀ x ∈ d.nodes, NodeOk x.1) (ht : Tab w) :
    Calls Tryd.prog 9 #[dumpV sN sL sR] w fun e w' => ∃ v, e = .returned v ∧ RdE flCells NoB w' v ((allF (nsOf d) d.links d.roots).take 64) ∧ Fr NoB w w' := by
  have S0 := hid (LookS.start hd)
  have HT := hid ht
  have HTL := hid ht.lt
  have HLA := hid hla
  have HOK := hid hok
  have HLA2 : Hid (∀ x ∈ d.nodes, x.1.args.length ≤ 1000000) := fun x hx => Nat.le_trans (hla x hx) (by omega)
  clear hd ht hla hok
  unfold dumpV
  go_enter Tryd.func9, Tryd.ntmps9
  obtain ⟨d0, d1, d2, df, dl⟩ := three_of S0.out.box
  go_wp2_with fail
  clear d0 d1 d2 df dl
  obtain ⟨M, hr, hd, hM, post⟩ := S0.out.call
  have POST := hid post
  refine (nodes_any M _ _ _ d _ _ [] hd hr hlen (by simp) HLA2.out).mono ?_
  rintro e w1 ⟨rfl, hx, hf⟩
  have S1 := hid (POST.out w1 _ hx hf)
  rw [List.nil_append] at S1
  clear hx hf post POST hr hd hM S0
  by_cases hnil : formF (nsOf d) = []
  rotate_left
  · have hq : decide (formF (nsOf d) = []) = false := by simpa using hnil
    have HLL0 : Hid (allF (nsOf d) d.links d.roots = formF (nsOf d)) := by show _ = _; unfold allF; rw [if_neg hnil]
    rw [hq]
    obtain ⟨LL, hLL⟩ : ∃ LL, formF (nsOf d) = LL := ⟨_, rfl⟩
    have hlle : LL.length ≤ 9000000 := by rw [← hLL]; exact Nat.le_trans (formF_le d) (by omega)
    rw [hLL] at S1 HLL0
    have HLL := hid HLL0.out
    clear hnil hq hLL HLL0
    obtain ⟨M, hr, hM⟩ := S1.out.rep
    obtain ⟨⟨v, hb, ho, hv⟩, _, _⟩ := hr
    obtain ⟨vp, vc, e⟩ := OwnE.form ho
    subst e
    have hcap : LL.length ≤ vc := by
      rcases OwnE.form' ho with ⟨e1, e2⟩ | ⟨g, cap, e1, _, _, e2⟩
      · rw [e2]; exact Nat.zero_le _
      · simp only [Value.slice.injEq] at e1
        rw [e1.2.2]; exact e2
    have c0 : w1.cell? ⟨w.heap.size + 1, 0, none⟩ = some (.slice vp LL.length vc) := by simp [World.cell?, hb]
    have c0l := lt_of_cell c0
    obtain ⟨K, hK⟩ : ∃ K : Nat, min LL.length 64 = K := ⟨_, rfl⟩
    have hmin : min (LL.length : Int) 64 = (K : Int) := by omega
    have hKl : K ≤ LL.length := by omega
    have hKc : K ≤ vc := by omega
    have OW := hid ho
    have HK := hid hK
    clear ho hb hv hM hK
    go_wp2
    refine region_txt (Fr NoB _) (by kernel_rfl) (by kernel_rfl) ((Fr.refl NoB _).drew) ?_
    repeat (first | (refine txt_off (by rfl) ?_; (try simp only [Act.put, List.setIfInBounds_toArray, List.set_cons_zero, List.set_cons_succ])) | (refine txt_read ?_ (by rfl) ?_ ?_; rotate_left; (focus (intro W hW; have hWc := Fr.cq hW; clear hW; go_simp; (try with_reducible rfl); done)); (try simp only [Act.put, List.setIfInBounds_toArray, List.set_cons_zero, List.set_cons_succ])))
    refine txt_nil ?_
    intro W hW
    go_wp2
    go_ret
    have hrd := ((OwnE.rd OW.out (M := NoB) (fun _ _ h => h)).take K hKl).fr hW (fun _ _ h => h)
    rw [show LL.take K = LL.take 64 by rw [← HK.out, ← List.take_take, List.take_of_length_le (by rw [List.length_take]; omega)]] at hrd
    exact ⟨_, rfl, by rw [HLL.out]; exact hrd, S1.out.fr.step hW⟩
  · have hq : decide (formF (nsOf d) = []) = true := by simpa using hnil
    have HORD := hid (formF_ord hnil)
    have HSM : Hid (∀ x ∈ d.nodes, NodeOk x.1 ∧ NodeSm x.1) := fun x hx => ⟨HOK.out x hx, HLA.out x hx, formF_name hnil x hx⟩
    have HNIL := hid hnil
    rw [hq]
    rw [hnil] at S1
    clear hnil hq
    have f1 := fls_le 4 (twiceAt (nsOf d)) d.nodes.length
    have f2 := lkPre_le (nsOf d) d.links 3
    have f3 := fls_le 8 (lkRless (nsOf d) d.links) d.links.length
    have f4 : (clsF (nsOf d) d.roots (lbAt d.nodes.length d.links d.links.length)).length ≤ 3000001 := by
      unfold clsF
      have g1 := fls_le 9 (fun i => d.roots.getD i 0 != (lbAt d.nodes.length d.links d.links.length).getD i 0) (min d.roots.length (nsOf d).length)
      have g2 := fls_le 10 (openAt (nsOf d) (lbAt d.nodes.length d.links d.links.length)) (nsOf d).length
      rw [nsOf_length] at g1 g2 ⊢
      rw [List.length_append, List.length_append]
      unfold rootsF
      split <;> simp only [List.length_nil, List.length_singleton] <;> omega
    have HLL0 : Hid (allF (nsOf d) d.links d.roots = fls 4 (twiceAt (nsOf d)) d.nodes.length ++ lkPre (nsOf d) d.links 3 ++ fls 8 (lkRless (nsOf d) d.links) d.links.length ++ clsF (nsOf d) d.roots (lbAt d.nodes.length d.links d.links.length)) := by
      show _ = _
      unfold allF clsF linksF
      rw [if_pos HNIL.out, nsOf_length]
      simp only [List.append_assoc]
    have HB := hid (And.intro f1 (And.intro f2 (And.intro f3 f4)))
    clear f1 f2 f3 f4
    obtain ⟨d0, d1, d2, df, dl⟩ := three_of S1.out.box
    go_wp2_with fail
    clear d0 d1 d2 df dl
    obtain ⟨M, hr, hd, hM, post⟩ := S1.out.call
    have POST := hid post
    refine (twice2_any M _ _ _ d _ _ [] hd hr hlen (by simp) (HT.out.fr S1.out.fr (fun h => h)) (fun h => absurd (hM _ h) (by have := HTL.out; omega)) HSM.out HORD.out).mono ?_
    rintro e w2 ⟨rfl, hx, hf⟩
    have S2 := hid (POST.out w2 _ hx hf)
    rw [List.nil_append] at S2
    clear hx hf post POST hr hd hM S1
    obtain ⟨d0, d1, d2, df, dl⟩ := three_of S2.out.box
    go_wp2_with fail
    clear d0 d1 d2 df dl
    obtain ⟨M, hr, hd, hM, post⟩ := S2.out.call
    have POST := hid post
    refine (links_any M _ _ _ d _ _ _ hd hr hlen hlk (by have := HB.out; omega)).mono ?_
    rintro e w3 ⟨rfl, hx, hf⟩
    have S3 := hid (POST.out w3 _ hx hf)
    clear hx hf post POST hr hd hM S2
    obtain ⟨d0, d1, d2, df, dl⟩ := three_of S3.out.box
    go_wp2_with fail
    clear d0 d1 d2 df dl
    obtain ⟨M, hr, hd, hM, post⟩ := S3.out.call
    have POST := hid post
    refine (reasons_any M _ _ _ d _ _ _ hd hr hlen hlk (by have := HB.out; rw [List.length_append]; omega) HLA2.out HORD.out).mono ?_
    rintro e w4 ⟨rfl, hx, hf⟩
    have S4 := hid (POST.out w4 _ hx hf)
    clear hx hf post POST hr hd hM S3
    obtain ⟨d0, d1, d2, df, dl⟩ := three_of S4.out.box
    go_wp2_with fail
    clear d0 d1 d2 df dl
    obtain ⟨M, hr, hd, hM, post⟩ := S4.out.call
    have POST := hid post
    refine (classes_any M _ _ _ d _ _ _ hd hr hlen hlk hlr (by have := HB.out; rw [List.length_append, List.length_append]; omega) (HT.out.fr S4.out.fr (fun h => h)) (fun h => absurd (hM _ h) (by have := HTL.out; omega)) HSM.out HORD.out).mono ?_
    rintro e w5 ⟨rfl, hx, hf⟩
    have S5 := hid (POST.out w5 _ hx hf)
    clear hx hf post POST hr hd hM S4
    obtain ⟨LL, hLL⟩ : ∃ LL, fls 4 (twiceAt (nsOf d)) d.nodes.length ++ lkPre (nsOf d) d.links 3 ++ fls 8 (lkRless (nsOf d) d.links) d.links.length ++ clsF (nsOf d) d.roots (lbAt d.nodes.length d.links d.links.length) = LL := ⟨_, rfl⟩
    have hlle : LL.length ≤ 9000000 := by
      have := HB.out
      rw [← hLL]
      simp only [List.length_append]
      omega
    rw [hLL] at S5 HLL0
    have HLL := hid HLL0.out
    clear hLL HLL0 HB
    obtain ⟨M, hr, hM⟩ := S5.out.rep
    obtain ⟨⟨v, hb, ho, hv⟩, _, _⟩ := hr
    obtain ⟨vp, vc, e⟩ := OwnE.form ho
    subst e
    have hcap : LL.length ≤ vc := by
      rcases OwnE.form' ho with ⟨e1, e2⟩ | ⟨g, cap, e1, _, _, e2⟩
      · rw [e2]; exact Nat.zero_le _
      · simp only [Value.slice.injEq] at e1
        rw [e1.2.2]; exact e2
    have c0 : w5.cell? ⟨w.heap.size + 1, 0, none⟩ = some (.slice vp LL.length vc) := by simp [World.cell?, hb]
    have c0l := lt_of_cell c0
    obtain ⟨K, hK⟩ : ∃ K : Nat, min LL.length 64 = K := ⟨_, rfl⟩
    have hmin : min (LL.length : Int) 64 = (K : Int) := by omega
    have hKl : K ≤ LL.length := by omega
    have hKc : K ≤ vc := by omega
    have OW := hid ho
    have HK := hid hK
    clear ho hb hv hM hK
    go_wp2
    refine region_txt (Fr NoB _) (by kernel_rfl) (by kernel_rfl) ((Fr.refl NoB _).drew) ?_
    repeat (first | (refine txt_off (by rfl) ?_; (try simp only [Act.put, List.setIfInBounds_toArray, List.set_cons_zero, List.set_cons_succ])) | (refine txt_read ?_ (by rfl) ?_ ?_; rotate_left; (focus (intro W hW; have hWc := Fr.cq hW; clear hW; go_simp; (try with_reducible rfl); done)); (try simp only [Act.put, List.setIfInBounds_toArray, List.set_cons_zero, List.set_cons_succ])))
    refine txt_nil ?_
    intro W hW
    go_wp2
    go_ret
    have hrd := ((OwnE.rd OW.out (M := NoB) (fun _ _ h => h)).take K hKl).fr hW (fun _ _ h => h)
    rw [show LL.take K = LL.take 64 by rw [← HK.out, ← List.take_take, List.take_of_length_le (by rw [List.length_take]; omega)]] at hrd
    exact ⟨_, rfl, by rw [HLL.out]; exact hrd, S5.out.fr.step hW⟩
end Go.Proofs.YtgpliiepoimcbaaDoor
end
section
/- The walks of Sound, the two Names, the reference's Look and SameInts, and light. (printed by gen_sho.py) -/
namespace Go.Proofs.YtgpliiepoimcbaaDoor
open Go.RowKit
set_option maxRecDepth 100000

theorem RdI.cellN {M : Nat → Prop} {w : World} {p : Option Addr} {n c : Nat} {l : List Int} (h : RdI M w (.slice p n c) l) {k : Nat} (hk : k < l.length) : ∃ b off, p = some ⟨b, off, none⟩ ∧ w.cell? ⟨b, off + k, none⟩ = some (.int .i64 l[k]) := by
  obtain ⟨b, off, h1, h2⟩ := h.cellK hk
  rw [List.getD_eq_getElem?_getD, List.getElem?_eq_getElem hk] at h2
  exact ⟨b, off, h1, h2⟩
def nmS (x : Int) : ByteArray := if x = 1 then ⟨#[109, 97, 108, 102, 111, 114, 109, 101, 100]⟩ else if x = 2 then ⟨#[111, 114, 100, 101, 114]⟩ else if x = 3 then ⟨#[119, 105, 100, 116, 104, 115]⟩ else if x = 4 then ⟨#[116, 119, 105, 99, 101]⟩ else if x = 5 then ⟨#[108, 105, 110, 107, 114, 97, 110, 103, 101]⟩ else if x = 6 then ⟨#[108, 105, 110, 107, 108, 111, 111, 112]⟩ else if x = 7 then ⟨#[108, 105, 110, 107, 119, 105, 100, 116, 104]⟩ else if x = 8 then ⟨#[108, 105, 110, 107, 114, 101, 97, 115, 111, 110]⟩ else if x = 9 then ⟨#[114, 111, 111, 116, 115]⟩ else if x = 10 then ⟨#[99, 108, 111, 115, 117, 114, 101]⟩ else ⟨#[]⟩
set_option maxHeartbeats 4000000 in
theorem invName_any (x : Int) (w : World)  : Calls Tryd.prog 16 #[.int .i64 x] w fun e w' => e = .returned (.string (nmS x)) ∧ Fr NoB w w' := by
  by_cases h1 : x = 1
  · subst h1
    go_enter Tryd.func16, Tryd.ntmps16
    go_wp2
    go_ret
    exact ⟨rfl, by first | exact Fr.refl _ _ | exact (Fr.refl NoB w).alloc _⟩
  by_cases h2 : x = 2
  · subst h2
    go_enter Tryd.func16, Tryd.ntmps16
    go_wp2
    go_ret
    exact ⟨rfl, by first | exact Fr.refl _ _ | exact (Fr.refl NoB w).alloc _⟩
  by_cases h3 : x = 3
  · subst h3
    go_enter Tryd.func16, Tryd.ntmps16
    go_wp2
    go_ret
    exact ⟨rfl, by first | exact Fr.refl _ _ | exact (Fr.refl NoB w).alloc _⟩
  by_cases h4 : x = 4
  · subst h4
    go_enter Tryd.func16, Tryd.ntmps16
    go_wp2
    go_ret
    exact ⟨rfl, by first | exact Fr.refl _ _ | exact (Fr.refl NoB w).alloc _⟩
  by_cases h5 : x = 5
  · subst h5
    go_enter Tryd.func16, Tryd.ntmps16
    go_wp2
    go_ret
    exact ⟨rfl, by first | exact Fr.refl _ _ | exact (Fr.refl NoB w).alloc _⟩
  by_cases h6 : x = 6
  · subst h6
    go_enter Tryd.func16, Tryd.ntmps16
    go_wp2
    go_ret
    exact ⟨rfl, by first | exact Fr.refl _ _ | exact (Fr.refl NoB w).alloc _⟩
  by_cases h7 : x = 7
  · subst h7
    go_enter Tryd.func16, Tryd.ntmps16
    go_wp2
    go_ret
    exact ⟨rfl, by first | exact Fr.refl _ _ | exact (Fr.refl NoB w).alloc _⟩
  by_cases h8 : x = 8
  · subst h8
    go_enter Tryd.func16, Tryd.ntmps16
    go_wp2
    go_ret
    exact ⟨rfl, by first | exact Fr.refl _ _ | exact (Fr.refl NoB w).alloc _⟩
  by_cases h9 : x = 9
  · subst h9
    go_enter Tryd.func16, Tryd.ntmps16
    go_wp2
    go_ret
    exact ⟨rfl, by first | exact Fr.refl _ _ | exact (Fr.refl NoB w).alloc _⟩
  by_cases h10 : x = 10
  · subst h10
    go_enter Tryd.func16, Tryd.ntmps16
    go_wp2
    go_ret
    exact ⟨rfl, by first | exact Fr.refl _ _ | exact (Fr.refl NoB w).alloc _⟩
  have hn : nmS x = ⟨#[]⟩ := by unfold nmS; simp only [h1, h2, h3, h4, h5, h6, h7, h8, h9, h10, if_false]
  go_enter Tryd.func16, Tryd.ntmps16
  go_wp2
  go_ret
  exact ⟨by first | (rw [hn]; rfl) | rfl, by first | exact Fr.refl _ _ | exact (Fr.refl NoB w).alloc _⟩
set_option maxHeartbeats 4000000 in
theorem refName21_any (x : Int) (w : World)  : Calls Tryd.prog 17 #[.int .i64 x] w fun e w' => e = .returned (.string (nmS x)) ∧ Fr NoB w w' := by
  by_cases h1 : x = 1
  · subst h1
    go_enter Tryd.func17, Tryd.ntmps17
    go_wp2
    go_ret
    exact ⟨rfl, by first | exact Fr.refl _ _ | exact (Fr.refl NoB w).alloc _⟩
  by_cases h2 : x = 2
  · subst h2
    go_enter Tryd.func17, Tryd.ntmps17
    go_wp2
    go_ret
    exact ⟨rfl, by first | exact Fr.refl _ _ | exact (Fr.refl NoB w).alloc _⟩
  by_cases h3 : x = 3
  · subst h3
    go_enter Tryd.func17, Tryd.ntmps17
    go_wp2
    go_ret
    exact ⟨rfl, by first | exact Fr.refl _ _ | exact (Fr.refl NoB w).alloc _⟩
  by_cases h4 : x = 4
  · subst h4
    go_enter Tryd.func17, Tryd.ntmps17
    go_wp2
    go_ret
    exact ⟨rfl, by first | exact Fr.refl _ _ | exact (Fr.refl NoB w).alloc _⟩
  by_cases h5 : x = 5
  · subst h5
    go_enter Tryd.func17, Tryd.ntmps17
    go_wp2
    go_ret
    exact ⟨rfl, by first | exact Fr.refl _ _ | exact (Fr.refl NoB w).alloc _⟩
  by_cases h6 : x = 6
  · subst h6
    go_enter Tryd.func17, Tryd.ntmps17
    go_wp2
    go_ret
    exact ⟨rfl, by first | exact Fr.refl _ _ | exact (Fr.refl NoB w).alloc _⟩
  by_cases h7 : x = 7
  · subst h7
    go_enter Tryd.func17, Tryd.ntmps17
    go_wp2
    go_ret
    exact ⟨rfl, by first | exact Fr.refl _ _ | exact (Fr.refl NoB w).alloc _⟩
  by_cases h8 : x = 8
  · subst h8
    go_enter Tryd.func17, Tryd.ntmps17
    go_wp2
    go_ret
    exact ⟨rfl, by first | exact Fr.refl _ _ | exact (Fr.refl NoB w).alloc _⟩
  by_cases h9 : x = 9
  · subst h9
    go_enter Tryd.func17, Tryd.ntmps17
    go_wp2
    go_ret
    exact ⟨rfl, by first | exact Fr.refl _ _ | exact (Fr.refl NoB w).alloc _⟩
  by_cases h10 : x = 10
  · subst h10
    go_enter Tryd.func17, Tryd.ntmps17
    go_wp2
    go_ret
    exact ⟨rfl, by first | exact Fr.refl _ _ | exact (Fr.refl NoB w).alloc _⟩
  have hn : nmS x = ⟨#[]⟩ := by unfold nmS; simp only [h1, h2, h3, h4, h5, h6, h7, h8, h9, h10, if_false]
  by_cases hl : x < 1
  · go_enter Tryd.func17, Tryd.ntmps17
    go_wp2
    go_ret
    exact ⟨by first | (rw [hn]; rfl) | rfl, by first | exact Fr.refl _ _ | exact (Fr.refl NoB w).alloc _⟩
  have hg : x > 10 := by omega
  go_enter Tryd.func17, Tryd.ntmps17
  go_wp2
  go_ret
  exact ⟨by first | (rw [hn]; rfl) | rfl, by first | exact Fr.refl _ _ | exact (Fr.refl NoB w).alloc _⟩

set_option maxHeartbeats 4000000 in
theorem sound_any (sN sL sR : Value) (d : Dmp) (w : World) (hd : RdD NoB w sN sL sR d) (hlen : d.nodes.length ≤ 1000000) (hlk : d.links.length ≤ 1000000) (hlr : d.roots.length ≤ 1000000) (hla : ∀ x ∈ d.nodes, x.1.args.length ≤ 100000) (hok : ∀ x ∈ d.nodes, NodeOk x.1) (ht : Tab w) :
    Calls Tryd.prog 14 #[dumpV sN sL sR] w fun e w' => e = .returned (.bool (decide (allF (nsOf d) d.links d.roots = []))) ∧ Fr NoB w w' := by
  have fa := (Fr.refl NoB w).alloc (.cells (dumpCells sN sL sR) 26)
  have HD := hid (hd.step fa)
  have HT := hid (ht.fr fa (fun h => h))
  have HOK := hid hok
  have HLA := hid hla
  clear hd ht hla hok fa
  unfold dumpV
  go_enter Tryd.func14, Tryd.ntmps14
  go_wp2_with fail
  refine (look_any _ _ _ d _ HD.out hlen hlk hlr HLA.out HOK.out HT.out).mono ?_
  rintro e w1 ⟨v, rfl, hr, hf⟩
  obtain ⟨pa, ca, hp⟩ := hr.formF
  subst hp
  have HF := hid (((Fr.refl NoB w).alloc (.cells (dumpCells sN sL sR) 26)).step hf)
  obtain ⟨LL, hLL⟩ : ∃ LL, allF (nsOf d) d.links d.roots = LL := ⟨_, rfl⟩
  have HLL := hid hLL
  rw [hLL] at hr ⊢
  clear hr hf hLL
  by_cases hn : LL = []
  · subst hn
    go_wp2
    go_ret
    exact ⟨by rw [HLL.out]; rfl, HF.out⟩
  · obtain ⟨K, hK⟩ : ∃ K, (LL.take 64).length = K := ⟨_, rfl⟩
    have hKp : ¬ (K : Int) = 0 := by
      have := List.length_pos_iff.2 hn
      rw [← hK, List.length_take]; omega
    rw [hK]
    have HN := hid hn
    clear hn hK
    go_wp2
    go_ret
    exact ⟨by rw [HLL.out, decide_eq_false HN.out]; exact ret_bool (by simpa using hKp), HF.out⟩

set_option maxHeartbeats 4000000 in
theorem refLook_any (sN sL sR : Value) (d : Dmp) (w : World) (hd : RdD NoB w sN sL sR d) (hlen : d.nodes.length ≤ 1000000) (hll : d.links.length ≤ 1000000) (hlr : d.roots.length ≤ 1000000) (hla : ∀ x ∈ d.nodes, x.1.args.length ≤ 1000000) (hok : ∀ x ∈ d.nodes, 0 ≤ x.1.val ∧ x.1.val < 18446744073709551616) :
    Calls Tryd.prog 10 #[dumpV sN sL sR] w fun e w' => ∃ v, e = .returned v ∧ RdE flCells NoB w' v ((allF (nsOf d) d.links d.roots).take 64) ∧ Fr NoB w w' := by
  have fa := (Fr.refl NoB w).alloc (.cells (dumpCells sN sL sR) 26)
  have HD := hid (hd.step fa)
  have HOK := hid hok
  have HLA := hid hla
  clear hd hla hok fa
  unfold dumpV
  go_enter Tryd.func10, Tryd.ntmps10
  go_wp2_with fail
  refine (all_any _ _ _ d _ HD.out hlen hll hlr HLA.out HOK.out).mono ?_
  rintro e w1 ⟨v, rfl, ho, hf⟩
  have HF := hid (((Fr.refl NoB w).alloc (.cells (dumpCells sN sL sR) 26)).step hf)
  obtain ⟨LL, hLL⟩ : ∃ LL, allF (nsOf d) d.links d.roots = LL := ⟨_, rfl⟩
  have HLL := hid hLL
  rw [hLL] at ho
  obtain ⟨vp, vc, e⟩ := OwnE.form ho
  subst e
  have hcap : LL.length ≤ vc := by
    rcases OwnE.form' ho with ⟨e1, e2⟩ | ⟨g, cap, e1, _, _, e2⟩
    · rw [e2]; exact Nat.zero_le _
    · simp only [Value.slice.injEq] at e1
      rw [e1.2.2]; exact e2
  have OR := hid (OwnE.rd ho (M := NoB) (fun _ _ h => h))
  clear ho hf hLL
  by_cases hc : (LL.length : Int) > 64
  · have hk : 64 ≤ LL.length := by omega
    have hk2 : 64 ≤ vc := by omega
    have HK := hid hk
    clear hk
    go_wp2
    go_ret
    exact ⟨_, rfl, by rw [HLL.out]; exact OR.out.take 64 HK.out, HF.out⟩
  · have hk : LL.length ≤ 64 := by omega
    have HK := hid hk
    clear hk
    go_wp2
    go_ret
    exact ⟨_, rfl, by rw [HLL.out, List.take_of_length_le HK.out]; exact OR.out, HF.out⟩

set_option maxHeartbeats 4000000 in
theorem sameInts_any (v u : Value) (l m : List Int) (w : World) (h : RdI NoB w v l) (h' : RdI NoB w u m) (hl : l.length ≤ 1000000000) :
    Calls Tryd.prog 12 #[v, u] w fun e w' => e = .returned (.bool (decide (l = m))) ∧ Fr NoB w w' := by
  obtain ⟨pa, ca, hp⟩ := h.form
  subst hp
  obtain ⟨pb, cb, hp⟩ := h'.form
  subst hp
  have HL := hid h
  have HM := hid h'
  clear h h'
  go_enter Tryd.func12, Tryd.ntmps12
  by_cases hne : l.length = m.length
  rotate_left
  · go_wp2
    all_goals (go_ret; refine ⟨ret_bool ?_, Fr.refl _ _⟩; exact (decide_eq_false (fun e => hne (by rw [e]))).symm)
  · have HNE := hid hne
    rw [← hne]
    have HM2 := HM.out
    rw [← hne] at HM2
    have HM' := hid HM2
    clear HM HM2 hne
    go_wp2
    go_loopw [5] (fun j wr => ∃ (k : Nat), k ≤ l.length ∧ j = .int .i64 k ∧ Fr NoB w wr ∧ l.take k = m.take k) (fun j _ => l.length - (intOf j).toNat)
    case atStart => exact ⟨0, Nat.zero_le _, rfl, Fr.refl _ _, rfl⟩
    case round =>
      obtain ⟨k, hk, rfl, hf, htk⟩ := hrel
      have F := hid hf
      have HT := hid htk
      by_cases hlt : k < l.length
      · have hltm : k < m.length := by rw [← HNE.out]; exact hlt
        obtain ⟨b, off, rfl, e0⟩ := (HL.out.fr hf (fun _ _ h => h)).cellN hlt
        obtain ⟨b', off', rfl, g0⟩ := (HM'.out.fr hf (fun _ _ h => h)).cellN hltm
        have HGL := hid (List.getElem?_eq_getElem hlt)
        have HGM := hid (List.getElem?_eq_getElem hltm)
        generalize l[k] = x at e0 HGL
        generalize m[k] = y at g0 HGM
        have db := lt_of_cell e0
        have db' := lt_of_cell g0
        clear hf htk hltm
        by_cases hxy : x = y
        · subst hxy
          go_wp2
          refine region_txt (Fr NoB _) (by kernel_rfl) (by kernel_rfl) ((Fr.refl NoB _).drew) ?_
          repeat (first | (refine txt_off (by rfl) ?_; (try simp only [Act.put, List.setIfInBounds_toArray, List.set_cons_zero, List.set_cons_succ])) | (refine txt_read ?_ (by rfl) ?_ ?_; rotate_left; (focus (intro W hW; have hWc := Fr.cq hW; clear hW; go_simp; (try with_reducible rfl); done)); (try simp only [Act.put, List.setIfInBounds_toArray, List.set_cons_zero, List.set_cons_succ])))
          refine txt_nil ?_
          intro W hW
          have F2 := hid (F.out.step hW)
          clear hW e0 g0 db db'
          go_wp2
          go_roundw
          case rel => exact ⟨k + 1, by omega, by go_num, F2.out, by rw [List.take_add_one, List.take_add_one, HT.out, HGL.out, HGM.out]⟩
          case measure => simp [intOf]; omega
        · have HXY := hid hxy
          go_wp2
          refine region_txt (Fr NoB _) (by kernel_rfl) (by kernel_rfl) ((Fr.refl NoB _).drew) ?_
          repeat (first | (refine txt_off (by rfl) ?_; (try simp only [Act.put, List.setIfInBounds_toArray, List.set_cons_zero, List.set_cons_succ])) | (refine txt_read ?_ (by rfl) ?_ ?_; rotate_left; (focus (intro W hW; have hWc := Fr.cq hW; clear hW; go_simp; (try with_reducible rfl); done)); (try simp only [Act.put, List.setIfInBounds_toArray, List.set_cons_zero, List.set_cons_succ])))
          refine txt_nil ?_
          intro W hW
          have F2 := hid (F.out.step hW)
          clear hW e0 g0 db db'
          go_wp2
          go_ret
          refine ⟨ret_bool ?_, F2.out⟩
          refine (decide_eq_false (fun e => HXY.out ?_)).symm
          have h1 := HGL.out
          rw [e, HGM.out] at h1
          exact (Option.some.inj h1).symm
      · obtain rfl : k = l.length := by omega
        go_wp2
        go_ret
        refine ⟨ret_bool ?_, F.out⟩
        have h9 := HT.out
        rw [List.take_length, List.take_of_length_le (by rw [HNE.out]; exact Nat.le_refl _)] at h9
        exact (decide_eq_true h9).symm
end Go.Proofs.YtgpliiepoimcbaaDoor
end
section
/- The walks of light and lives. -/
namespace Go.Proofs.YtgpliiepoimcbaaDoor
open Go.RowKit
set_option maxRecDepth 100000

abbrev nA : Node := { op := 1, width := 8, val := 0, name := ⟨#[97]⟩, args := [] }
abbrev nB : Node := { op := 3, width := 8, val := 0, name := ⟨#[]⟩, args := [0] }
theorem toList_lit0 : (⟨#[]⟩ : ByteArray).toList = [] := by rw [toList_data]
theorem toList_lit1 : (⟨#[97]⟩ : ByteArray).toList = [97] := by rw [toList_data]
theorem live1 : allF [nA, nB] [] [0, 0] = [⟨9, 1⟩] := by
  decide +kernel
theorem live2 : allF [nB] [] [] = [⟨2, 0⟩] := by
  decide +kernel
theorem live3 : allF [nA, nB] [] [0, 1] = [] := by
  decide +kernel

structure Light (d : Dmp) : Prop where
  nodes : d.nodes.length ≤ 80
  links : d.links.length ≤ 80
  roots : d.roots.length ≤ 200
  args : ∀ x ∈ d.nodes, x.1.args.length ≤ 8
def LightP (d : Dmp) (e : Ending) : Prop := ∃ b, e = .returned (.bool b) ∧ (b = true → Light d)
theorem light_no {d : Dmp} {e : Ending} (h : e = .returned (.bool false)) : LightP d e := ⟨false, h, fun h => (by cases h)⟩
set_option maxHeartbeats 4000000 in
theorem light_any (sN sL sR : Value) (d : Dmp) (w : World) (hd : RdD NoB w sN sL sR d) :
    Calls Tryd.prog 6 #[dumpV sN sL sR] w fun e w' => LightP d e ∧ Fr NoB w w' := by
  have D0 := hid (DbS.start hd)
  obtain ⟨p, c, hp⟩ := hd.nodes.form
  subst hp
  obtain ⟨pl, cl, hp⟩ := hd.links.form3
  subst hp
  obtain ⟨pr, cr, hp⟩ := hd.roots.form
  subst hp
  clear hd
  obtain ⟨d0, d1, d2, df, dl⟩ := three_of D0.out.box
  unfold dumpV
  go_enter Tryd.func6, Tryd.ntmps6
  by_cases c1 : (d.nodes.length : Int) > 80
  · go_wp2
    go_ret
    exact ⟨light_no rfl, D0.out.fr⟩
  by_cases c2 : (d.links.length : Int) > 80
  · go_wp2
    go_ret
    exact ⟨light_no rfl, D0.out.fr⟩
  by_cases c3 : (d.roots.length : Int) > 200
  · go_wp2
    go_ret
    exact ⟨light_no rfl, D0.out.fr⟩
  have C1 : Hid (d.nodes.length ≤ 80 ∧ d.links.length ≤ 80 ∧ d.roots.length ≤ 200) := by show _ ∧ _ ∧ _; omega
  go_wp2
  clear c1 c2 c3
  have hn := C1.out.1
  obtain ⟨w0, hw0⟩ : ∃ w0, w.alloc (.cells (dumpCells (.slice p d.nodes.length c) (.slice pl d.links.length cl) (.slice pr d.roots.length cr)) 26) = w0 := ⟨_, rfl⟩
  rw [hw0] at D0 d0 d1 d2 df dl ⊢
  clear hw0
  go_loopw [23] (fun j wr => ∃ (k : Nat), k ≤ d.nodes.length ∧ j = .int .i64 k ∧ wr = w0 ∧ ∀ i (hi : i < d.nodes.length), i < k → d.nodes[i].1.args.length ≤ 8) (fun j _ => d.nodes.length - (intOf j).toNat)
  case atStart => exact ⟨0, Nat.zero_le _, rfl, rfl, fun i hi h => by omega⟩
  case round =>
    obtain ⟨k, hk, rfl, rfl, hall⟩ := hrel
    have HALL := hid hall
    clear hall
    by_cases hlt : k < d.nodes.length
    · obtain ⟨b, off, rfl, e0, e1, e2, e3, e4, ha⟩ := D0.out.rd.nodes.nodeK hlt
      obtain ⟨xa, xc, hv⟩ := ha.form
      rw [hv] at e4
      obtain ⟨m, hm⟩ : ∃ m, d.nodes[k].1.args.length = m := ⟨_, rfl⟩
      rw [hm] at e4
      have HM := hid hm
      clear e0 e1 e2 e3 ha hv hm
      by_cases c4 : (m : Int) > 8
      · go_wp2
        go_ret
        exact ⟨light_no rfl, D0.out.fr⟩
      · go_wp2
        go_roundw
        case rel =>
          refine ⟨k + 1, by omega, by go_num, by first | rfl | trivial, fun i hi h => ?_⟩
          by_cases e : i = k
          · subst e; rw [HM.out]; omega
          · exact HALL.out i hi (by omega)
        case measure => simp [intOf]; omega
    · obtain rfl : k = d.nodes.length := by omega
      go_wp2
      go_ret
      refine ⟨⟨true, rfl, fun _ => ⟨C1.out.1, C1.out.2.1, C1.out.2.2, fun x hx => ?_⟩⟩, D0.out.fr⟩
      obtain ⟨i, hi, rfl⟩ := List.getElem_of_mem hx
      exact HALL.out i hi hi

theorem rdN_at {w : World} (b : Nat) (l : List (Node × Value)) (cs : Array Value) (e : TypeId) (f : Nat × Nat) (hb : w.heap[b]? = some (.cells cs e f)) (hcs : cs.toList = flatE nsCells l) (n : Nat) (hn : n = l.length) (ha : ∀ x ∈ l, RdI NoB w x.2 x.1.args) : RdN NoB w (.slice (some ⟨b, 0, none⟩) n n) l := by
  subst hn
  refine ⟨.inr ⟨b, 0, _, rfl, (Array.getElem?_eq_some_iff.1 hb).1, fun h => h, Nat.le_refl _, fun j u hj => ?_⟩, ha⟩
  rw [← hcs, Array.getElem?_toList] at hj
  unfold World.cell?
  simp only [hb, Nat.zero_add]
  simpa using hj
theorem rdI_at {w : World} (b : Nat) (l : List Int) (e : TypeId) (f : Nat × Nat) (cs : Array Value) (hcs : cs = (l.map (Value.int .i64)).toArray) (hb : w.heap[b]? = some (.cells cs e f)) (n : Nat) (hn : n = l.length) : RdI NoB w (.slice (some ⟨b, 0, none⟩) n n) l := by
  subst hn
  subst hcs
  refine .inr ⟨b, 0, _, rfl, (Array.getElem?_eq_some_iff.1 hb).1, fun h => h, Nat.le_refl _, fun j hj => ?_⟩
  unfold World.cell?
  simp only [hb, Nat.zero_add]
  simp [List.getD_eq_getElem?_getD, List.getElem?_eq_getElem hj]
theorem rdI_nil {M : Nat → Prop} (w : World) : RdI M w (.slice none 0 0) [] := .inl ⟨⟨none, 0, rfl, fun _ => rfl⟩, rfl⟩
theorem rdE_nil {α : Type} {enc : α → List Value} {M : Nat → Prop} (w : World) : RdE enc M w (.slice none 0 0) [] := .inl ⟨⟨none, 0, rfl, fun _ => rfl⟩, rfl⟩
set_option maxHeartbeats 4000000 in
theorem lives_any (w : World) (ht : Tab w) : Calls Tryd.prog 7 #[] w fun e w' => e = .returned (.bool true) ∧ Fr NoB w w' := by
  have HT := hid ht
  clear ht
  go_enter Tryd.func7, Tryd.ntmps7
  go_wp2_with fail
  obtain ⟨w5, hw5⟩ : ∃ w5, ((((w.alloc (.cells #[.int .i64 1, .int .i64 8, .int .u64 0, .string ⟨#[97]⟩, .slice none 0 0] 40)).alloc (.cells #[.int .i64 0] 3)).alloc (.cells #[.int .i64 3, .int .i64 8, .int .u64 0, .string ⟨#[]⟩, .slice (some ⟨w.heap.size + 1, 0, none⟩) 1 1] 40)).alloc (.cells #[.int .i64 1, .int .i64 8, .int .u64 0, .string ⟨#[97]⟩, .slice none 0 0, .int .i64 3, .int .i64 8, .int .u64 0, .string ⟨#[]⟩, .slice (some ⟨w.heap.size + 1, 0, none⟩) 1 1] 40)).alloc (.cells #[.int .i64 0, .int .i64 0] 3) = w5 := ⟨_, rfl⟩
  have F5 : Hid (Fr NoB w w5) := by
    show Fr _ _ _
    rw [← hw5]
    exact (((((Fr.refl NoB w).alloc _).alloc _).alloc _).alloc _).alloc _
  have B0 : Hid (w5.heap[w.heap.size]? = some (.cells #[.int .i64 1, .int .i64 8, .int .u64 0, .string ⟨#[97]⟩, .slice none 0 0] 40 (0, 0))) := by
    show _ = _
    rw [← hw5]
    exact at_old (at_old (at_old (at_old (at_new w _) _) _) _) _
  have B1 : Hid (w5.heap[w.heap.size + 1]? = some (.cells #[.int .i64 0] 3 (0, 0))) := by
    show _ = _
    rw [← hw5]
    exact at_old (at_old (at_old (at_new' (by simp)) _) _) _
  have B2 : Hid (w5.heap[w.heap.size + 1 + 1]? = some (.cells #[.int .i64 3, .int .i64 8, .int .u64 0, .string ⟨#[]⟩, .slice (some ⟨w.heap.size + 1, 0, none⟩) 1 1] 40 (0, 0))) := by
    show _ = _
    rw [← hw5]
    exact at_old (at_old (at_new' (by simp)) _) _
  have B3 : Hid (w5.heap[w.heap.size + 1 + 1 + 1]? = some (.cells #[.int .i64 1, .int .i64 8, .int .u64 0, .string ⟨#[97]⟩, .slice none 0 0, .int .i64 3, .int .i64 8, .int .u64 0, .string ⟨#[]⟩, .slice (some ⟨w.heap.size + 1, 0, none⟩) 1 1] 40 (0, 0))) := by
    show _ = _
    rw [← hw5]
    exact at_old (at_new' (by simp)) _
  have B4 : Hid (w5.heap[w.heap.size + 1 + 1 + 1 + 1]? = some (.cells #[.int .i64 0, .int .i64 0] 3 (0, 0))) := by
    show _ = _
    rw [← hw5]
    exact at_new' (by simp)
  rw [hw5]
  clear hw5
  have hokA : NodeOk nA := ⟨by decide, by decide, by decide, fun i hi => by simp at hi⟩
  have hokB : NodeOk nB := ⟨by decide, by decide, by decide, fun i hi => by
    obtain rfl : i = 0 := by simpa using hi
    decide⟩
  have OKA := hid hokA
  have OKB := hid hokB
  clear hokA hokB
  have ARG := hid (fun W (hf : Fr NoB w5 W) => rdI_at (w := W) (w.heap.size + 1) [0] _ _ _ rfl (hf.at (fun h => h) B1.out) 1 rfl)
  have hd1 : RdD NoB w5 (.slice (some ⟨w.heap.size + 1 + 1 + 1, 0, none⟩) 2 2) (.slice none 0 0) (.slice (some ⟨w.heap.size + 1 + 1 + 1 + 1, 0, none⟩) 2 2) ⟨[(nA, .slice none 0 0), (nB, .slice (some ⟨w.heap.size + 1, 0, none⟩) 1 1)], [], [0, 0]⟩ := by
    refine ⟨rdN_at _ _ _ _ _ B3.out rfl 2 rfl (fun x hx => ?_), rdE_nil _, rdI_at _ _ _ _ _ rfl B4.out 2 rfl⟩
    simp only [List.mem_cons, List.not_mem_nil, or_false] at hx
    rcases hx with rfl | rfl
    · exact rdI_nil _
    · exact ARG.out _ (Fr.refl _ _)
  refine (look_any _ _ _ _ w5 hd1 (by simp) (by simp) (by simp) (fun x hx => ?_) (fun x hx => ?_) (HT.out.fr F5.out (fun h => h))).mono ?_
  · simp only [List.mem_cons, List.not_mem_nil, or_false] at hx
    rcases hx with rfl | rfl <;> simp
  · simp only [List.mem_cons, List.not_mem_nil, or_false] at hx
    rcases hx with rfl | rfl
    · exact OKA.out
    · exact OKB.out
  clear hd1
  rintro e w6 ⟨v, rfl, hr, hf⟩
  have hr1 : RdE flCells NoB w6 v [⟨9, 1⟩] := by
    have h := hr
    rw [show allF (nsOf ⟨[(nA, .slice none 0 0), (nB, .slice (some ⟨w.heap.size + 1, 0, none⟩) 1 1)], [], [0, 0]⟩) [] [0, 0] = [⟨9, 1⟩] from live1] at h
    exact h
  clear hr
  obtain ⟨pa, ca, hp⟩ := hr1.formF
  subst hp
  have R1 := hid hr1
  have F6 := hid hf
  obtain ⟨x0, x1, x2, x3, x4, xf, xl⟩ := five_of (hf.at (fun h => h) B2.out)
  clear hr1 hf
  go_wp2_with fail
  clear x0 x1 x2 x3 x4 xf xl
  obtain ⟨w7, hw7⟩ : ∃ w7, w6.alloc (.cells #[.int .i64 3, .int .i64 8, .int .u64 0, .string ⟨#[]⟩, .slice (some ⟨w.heap.size + 1, 0, none⟩) 1 1] 40) = w7 := ⟨_, rfl⟩
  have F7 : Hid (Fr NoB w5 w7) := by
    show Fr _ _ _
    rw [← hw7]; exact F6.out.step ((Fr.refl NoB w6).alloc _)
  have B7 : Hid (w7.heap[w6.heap.size]? = some (.cells #[.int .i64 3, .int .i64 8, .int .u64 0, .string ⟨#[]⟩, .slice (some ⟨w.heap.size + 1, 0, none⟩) 1 1] 40 (0, 0))) := by
    show _ = _
    rw [← hw7]; exact at_new w6 _
  have R7 : Hid (RdE flCells NoB w7 (.slice pa 1 ca) [⟨9, 1⟩]) := by
    show RdE _ _ _ _ _
    rw [← hw7]; exact R1.out.fr ((Fr.refl NoB w6).alloc _) (fun _ _ h => h)
  rw [hw7]
  clear hw7 R1
  have hd2 : RdD NoB w7 (.slice (some ⟨w6.heap.size, 0, none⟩) 1 1) (.slice none 0 0) (.slice none 0 0) ⟨[(nB, .slice (some ⟨w.heap.size + 1, 0, none⟩) 1 1)], [], []⟩ := by
    refine ⟨rdN_at _ _ _ _ _ B7.out rfl 1 rfl (fun x hx => ?_), rdE_nil _, rdI_nil _⟩
    simp only [List.mem_cons, List.not_mem_nil, or_false] at hx
    subst hx
    exact ARG.out _ F7.out
  refine (look_any _ _ _ _ w7 hd2 (by simp) (by simp) (by simp) (fun x hx => ?_) (fun x hx => ?_) (HT.out.fr (F5.out.step F7.out) (fun h => h))).mono ?_
  · simp only [List.mem_cons, List.not_mem_nil, or_false] at hx
    subst hx; simp
  · simp only [List.mem_cons, List.not_mem_nil, or_false] at hx
    subst hx; exact OKB.out
  clear hd2
  rintro e w8 ⟨v, rfl, hr, hf⟩
  have hr2 : RdE flCells NoB w8 v [⟨2, 0⟩] := by
    have h := hr
    rw [show allF (nsOf ⟨[(nB, .slice (some ⟨w.heap.size + 1, 0, none⟩) 1 1)], [], []⟩) [] [] = [⟨2, 0⟩] from live2] at h
    exact h
  clear hr
  obtain ⟨pb, cb, hp⟩ := hr2.formF
  subst hp
  have F8 : Hid (Fr NoB w5 w8) := F7.out.step hf
  have hr1 := R7.out.fr hf (fun _ _ h => h)
  obtain ⟨ba, oa, rfl, g0, g1⟩ := hr1.flK (k := 0) (by simp)
  obtain ⟨bb, ob, rfl, k0, k1⟩ := hr2.flK (k := 0) (by simp)
  obtain ⟨x0, x1, x2, x3, x4, xf, xl⟩ := five_of (F8.out.at (fun h => h) B2.out)
  obtain ⟨y0, y1, y2, y3, y4, yf, yl⟩ := five_of (F8.out.at (fun h => h) B0.out)
  simp only [List.getElem_cons_zero, Nat.zero_mul, Nat.add_zero] at g0 g1 k0 k1
  clear hr1 hr2 hf R7 F7 B7
  go_wp2_with fail
  clear x0 x1 x2 x3 x4 xf xl y0 y1 y2 y3 y4 yf yl g0 g1 k0 k1
  obtain ⟨w9, hw9⟩ : ∃ w9, (w8.alloc (.cells #[.int .i64 1, .int .i64 8, .int .u64 0, .string ⟨#[97]⟩, .slice none 0 0, .int .i64 3, .int .i64 8, .int .u64 0, .string ⟨#[]⟩, .slice (some ⟨w.heap.size + 1, 0, none⟩) 1 1] 40)).alloc (.cells #[.int .i64 0, .int .i64 1] 3) = w9 := ⟨_, rfl⟩
  have F9 : Hid (Fr NoB w5 w9) := by
    show Fr _ _ _
    rw [← hw9]; exact F8.out.step (((Fr.refl NoB w8).alloc _).alloc _)
  have C3 : Hid (w9.heap[w8.heap.size]? = some (.cells #[.int .i64 1, .int .i64 8, .int .u64 0, .string ⟨#[97]⟩, .slice none 0 0, .int .i64 3, .int .i64 8, .int .u64 0, .string ⟨#[]⟩, .slice (some ⟨w.heap.size + 1, 0, none⟩) 1 1] 40 (0, 0))) := by
    show _ = _
    rw [← hw9]
    exact at_old (at_new w8 _) _
  have C4 : Hid (w9.heap[w8.heap.size + 1]? = some (.cells #[.int .i64 0, .int .i64 1] 3 (0, 0))) := by
    show _ = _
    rw [← hw9]
    exact at_new' (by simp)
  rw [hw9]
  clear hw9
  have hd3 : RdD NoB w9 (.slice (some ⟨w8.heap.size, 0, none⟩) 2 2) (.slice none 0 0) (.slice (some ⟨w8.heap.size + 1, 0, none⟩) 2 2) ⟨[(nA, .slice none 0 0), (nB, .slice (some ⟨w.heap.size + 1, 0, none⟩) 1 1)], [], [0, 1]⟩ := by
    refine ⟨rdN_at _ _ _ _ _ C3.out rfl 2 rfl (fun x hx => ?_), rdE_nil _, rdI_at _ _ _ _ _ rfl C4.out 2 rfl⟩
    simp only [List.mem_cons, List.not_mem_nil, or_false] at hx
    rcases hx with rfl | rfl
    · exact rdI_nil _
    · exact ARG.out _ F9.out
  refine (sound_any _ _ _ _ w9 hd3 (by simp) (by simp) (by simp) (fun x hx => ?_) (fun x hx => ?_) (HT.out.fr (F5.out.step F9.out) (fun h => h))).mono ?_
  · simp only [List.mem_cons, List.not_mem_nil, or_false] at hx
    rcases hx with rfl | rfl <;> simp
  · simp only [List.mem_cons, List.not_mem_nil, or_false] at hx
    rcases hx with rfl | rfl
    · exact OKA.out
    · exact OKB.out
  clear hd3
  rintro e w10 ⟨rfl, hf⟩
  rw [show allF (nsOf ⟨[(nA, .slice none 0 0), (nB, .slice (some ⟨w.heap.size + 1, 0, none⟩) 1 1)], [], [0, 1]⟩) [] [0, 1] = [] from live3]
  have F10 : Hid (Fr NoB w5 w10) := F9.out.step hf
  clear hf
  go_wp2
  go_ret
  exact ⟨rfl, F5.out.step F10.out⟩
end Go.Proofs.YtgpliiepoimcbaaDoor
end
