/- Slices of bytes that a call has made (OwnB), the laws of append for them, the table of powers of ten (Tab), at this program. -/
import Derived.Test.YtkifedleajacpaaDoorOwnI
import Derived.Test.YtkifedleajacpaaDoorShelf
import Derived.Deep.AppendLies
import Derived.Laws.IdiomStrings
import Derived.Lib.AppendStr
namespace Go.Proofs.YtkifedleajacpaaDoor
open Go.RowKit

def OwnB (B : Nat) (w : World) (v : Value) (l : List UInt8) : Prop := w.ownsRow B 5 1 v l.length (Lib.byteCells l)

theorem infoByte : (Tryd.prog.info? 5).map (fun i => (i.zero, i.size, i.bytes)) = some (some (.int .u8 0), 1, 1) := by kernel_rfl

/-- The table of powers of ten reads as the text lays it. -/
def Tab (w : World) : Prop := Lib.TabIs Tryd.prog w "internal/strconv.uint64pow10" .u64 Lib.pow10Tab
/-- The block of that table. -/
noncomputable def TB : Nat := (Tryd.prog.globalNamed "internal/strconv.uint64pow10").getD 0
theorem tb_at : Tryd.prog.globalNamed "internal/strconv.uint64pow10" = some TB := by kernel_rfl

theorem Tab.lt {w : World} (h : Tab w) : TB < w.heap.size := by
  unfold Tab Lib.TabIs World.var? at h
  rw [tb_at] at h
  simp only [Option.bind_some] at h
  rcases Nat.lt_or_ge TB w.heap.size with h1 | h1
  · exact h1
  · rw [Array.getElem?_eq_none h1] at h; simp at h
theorem Tab.fr {M : Nat → Prop} {w w' : World} (h : Tab w) (hf : Fr M w w') (hm : ¬ M TB) : Tab w' := by
  have hl := h.lt
  unfold Tab Lib.TabIs World.var? at h ⊢
  rw [tb_at] at h ⊢
  simp only [Option.bind_some] at h ⊢
  rw [hf.block TB hl hm]; exact h
theorem Tab.below {w : World} (h : Tab w) {B : Nat} (hB : TB < B) : Lib.TabBelow Tryd.prog B w "internal/strconv.uint64pow10" .u64 Lib.pow10Tab := fun w' hb => by
  have h1 : Tab w' := h.fr (M := fun k => B ≤ k) ⟨hb.os, hb.tape, hb.output, hb.size, fun k _ hk => hb.block k (by omega)⟩ (by omega)
  exact h1

theorem OwnB.row {B : Nat} {w : World} {v : Value} {l : List UInt8} (h : OwnB B w v l) : w.ownsRow B 5 1 v l.length (Lib.byteCells l) := h
theorem OwnB.drew {B : Nat} {w : World} {v : Value} {l : List UInt8} (h : OwnB B w v l) : OwnB B w.drew v l := h
theorem OwnB.form' {B : Nat} {w : World} {v : Value} {l : List UInt8} (h : OwnB B w v l) : (v = .slice none 0 0 ∧ l = []) ∨ ∃ g cap, v = .slice (some ⟨g, 0, none⟩) l.length cap ∧ B ≤ g ∧ g < w.heap.size ∧ l.length ≤ cap := by
  rcases h.2 with ⟨h, hl⟩ | ⟨g, cap, cur, h, hb, hg, hn, _⟩
  · exact .inl ⟨h, List.eq_nil_of_length_eq_zero hl⟩
  · exact .inr ⟨g, cap, h, hb, (Array.getElem?_eq_some_iff.1 hg).1, hn⟩
theorem OwnB.fr {B : Nat} {M : Nat → Prop} {w w' : World} {v : Value} {l : List UInt8} (h : OwnB B w v l) (hf : Fr M w w') (hm : ∀ k, v.ownBlock = some k → ¬ M k) : OwnB B w' v l := by
  refine ⟨h.1, ?_⟩
  rcases h.2 with h2 | ⟨g, cap, cur, h1, hb, hg, r⟩
  · exact .inl h2
  · refine .inr ⟨g, cap, cur, h1, hb, ?_, r⟩
    rw [hf.block g (Array.getElem?_eq_some_iff.1 hg).1 (hm g (by rw [h1]; rfl))]; exact hg

/-- What turns from base B on. -/
theorem Fr.own {B : Nat} {w w' : World} (h : Below B w w') : Fr (fun k => B ≤ k) w w' := ⟨h.os, h.tape, h.output, h.size, fun k _ hk => h.block k (by omega)⟩

theorem byte_step (w : World) {ops : Array Oper} {o : Oper} {a : Act} {K : Act → World → Prop} {Q : Exit → Act → World → Prop} {E : Prop} (hg : o.guard = none) (s x : Operand)
    (ho : o.op = .call { callee := .builtin .append, args := #[s, x], argTypes := #[59, 59] }) (base : Nat) (v : Value) (l : List UInt8) (hs : a.eval s = v) (hown : OwnB base w v l)
    (c : UInt8) (b n k : Nat) (hx : a.eval x = .slice (some ⟨b, 0, none⟩) n k) (hn : n = 1) (hc : w.cell? ⟨b, 0, none⟩ = some (.int .u8 (c.toNat : Int))) (hlen : l.length ≤ 140737488355000) (hbase : base ≤ w.heap.size)
    (h : ∀ v' w', OwnB base w' v' (l ++ [c]) → Fr (fun k => base ≤ k) w w' → K (a.put o.dst v') w') :
    if Region.wanted o (yielded ops a.tmps) = true then Oper.wp Tryd.prog o a w K Q else E := by
  subst hn
  obtain ⟨i0, hi, hz0, hz1, hz2⟩ := info_parts infoByte
  refine step_append_lies w hg s x 59 ho base 5 i0 (.int .u8 0) 1 1 Tryd.underlying59 hi hz0 hz1 hz2 rfl (by decide) v _ _ hs hown ⟨b, 0, none⟩ 1 k [.int .u8 (c.toNat : Int)] hx rfl (fun j u hu => ?_) (by simp [Value.oneCell']) (by decide) (by unfold maxLen; omega) (by omega) hbase w.heap.size rfl ?_
  · match j, hu with
    | 0, hu => simp at hu; subst hu; simpa [Addr.add] using hc
    | j + 1, hu => simp at hu
  · intro g cap w' h1 h2 h3 _
    have e : (l ++ [c]).length = l.length + 1 := by simp
    refine h _ w' ?_ ?_
    · unfold OwnB; rw [e, Lib.byteCells_append]; exact h1
    · exact (Fr.refl _ w).grown h2 (fun q hq _ => (World.ownsRow.lt hown q hq).1)

theorem byte_list (w : World) {ops : Array Oper} {rest : List Oper} {o : Oper} {a : Act} {Q : Exit → Act → World → Prop} (hg : o.guard = none) (s x : Operand)
    (ho : o.op = .call { callee := .builtin .append, args := #[s, x], argTypes := #[59, 59] }) (base : Nat) (v : Value) (l : List UInt8) (hs : a.eval s = v) (hown : OwnB base w v l)
    (c : UInt8) (b n k : Nat) (hx : a.eval x = .slice (some ⟨b, 0, none⟩) n k) (hn : n = 1) (hc : w.cell? ⟨b, 0, none⟩ = some (.int .u8 (c.toNat : Int))) (hlen : l.length ≤ 140737488355000) (hbase : base ≤ w.heap.size)
    (h : ∀ v' w', OwnB base w' v' (l ++ [c]) → Fr (fun k => base ≤ k) w w' → wpList Tryd.prog ops Q rest (a.put o.dst v') w') : wpList Tryd.prog ops Q (o :: rest) a w := by
  refine wpList_plain hg fun K hK => ?_
  have := byte_step (ops := ops) (E := True) (Q := Q) (K := K) w hg s x ho base v l hs hown c b n k hx hn hc hlen hbase (fun v' w' h1 h2 => hK _ _ (h v' w' h1 h2))
  have hw : Region.wanted o (yielded ops a.tmps) = true := by simp [Region.wanted, hg]
  rw [if_pos hw] at this
  exact this

theorem str_list (w : World) {ops : Array Oper} {rest : List Oper} {o : Oper} {a : Act} {Q : Exit → Act → World → Prop} (hg : o.guard = none) (s x : Operand)
    (ho : o.op = .call { callee := .builtin .append, args := #[s, x], argTypes := #[59, 9] }) (base : Nat) (v : Value) (l : List UInt8) (hs : a.eval s = v) (hown : OwnB base w v l)
    (t : ByteArray) (hx : a.eval x = .string t) (hlen : l.length + t.size ≤ 140737488355000) (hbase : base ≤ w.heap.size)
    (h : ∀ v' w', OwnB base w' v' (l ++ t.data.toList) → Fr (fun k => base ≤ k) w w' → wpList Tryd.prog ops Q rest (a.put o.dst v') w') : wpList Tryd.prog ops Q (o :: rest) a w := by
  obtain ⟨i0, hi, hz0, hz1, hz2⟩ := info_parts infoByte
  have ht : t.data.toList.length = t.size := by simp
  refine Lib.wpList_append_own_string w hg s x 59 9 ho base 5 i0 Tryd.underlying59 Tryd.underlying9 hi hz0 hz1 hz2 v _ _ hs hown t hx (by unfold maxLen; omega) (by omega) hbase ?_
  intro v' w' h1 h2 _
  refine h v' w' ?_ ((Fr.refl _ w).grown h2 (fun q hq _ => (World.ownsRow.lt hown q hq).1))
  unfold OwnB
  rw [List.length_append, ht, Lib.byteCells_append]; exact h1

/-- string(b) of bytes that a call owns. -/
theorem conv_own {B : Nat} {w : World} {v : Value} {l : List UInt8} (h : OwnB B w v l) : (convert 59 9 v).run Tryd.prog w = .ok (.string ⟨l.toArray⟩) w := by
  rcases h.form' with ⟨rfl, rfl⟩ | ⟨g, cap, rfl, _, hg, _⟩
  · exact run_convert_bytes_nil (P := Tryd.prog) (w := w) 59 5 Tryd.underlying59 Tryd.underlying5 0 0 9 Tryd.underlying9
  · refine run_convert_bytes_back w 59 9 5 ⟨g, 0, none⟩ cap l Tryd.underlying59 Tryd.underlying5 Tryd.underlying9 (fun j hj => ?_)
    refine World.ownsRow.cells h (g := g) rfl j _ ?_
    simp [Lib.byteCells, List.getElem?_eq_getElem hj]

end Go.Proofs.YtkifedleajacpaaDoor
