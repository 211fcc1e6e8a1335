/-
  NARROWER THAN 'FOR EVERY INPUT', by the rows' own cells (each row's printed sentence says how): HashconsKeys: laid · HashconsCanons: laid · HashconsCopies: laid · HashconsCompares: laid · HashconsOrders: laid · HashconsPlays: laid · HashconsOwns: laid · HashconsNil: laid.
  DERIVED. THE GIVEN ROWS OF THIS SEAT. 8 by the template 'for every input the law returns true; each argument reads behind the call as it read before'; 0 by the template 'total and deterministic' (their statements: YtkifedleajacpaaDoorTotals.lean).
  GIVEN WITH THE SEED: the statements are not yours to turn. If you find one false, say at which input.
  Laid BY PROGRAM, IN A SANDBOX (cutbox-rows.mjs): the forced cells as the released guide's own fill.sh prints them over the translation a9cd38d0d5d73399… (all of the seat's roots in one cut). By AI agents, Wed Nov 11 2026. No macro, syntax, notation, axiom, sorry.
-/
import Derived.Test.YtkifedleajacpaaDoorChecked
import GoSem.Claim
import GoSem.ClaimJoined
import GoSem.ClaimMapViews
import Derived.JoinedTies
import Derived.KernelRfl
namespace Go.Proofs.YtkifedleajacpaaDoor
/- THE CELL 'sum', in the pinned program and in every row, IS THE sha256 OF THE DUMP (.gsa) THAT YtkifedleajacpaaDoorProg.lean LOADS. Nothing in Lean hashes anything: it is a label: what it is worth is what the hold of that sum in a sandbox is worth. -/
noncomputable def Tryd.pinned : Pinned := { name := "ytkifedleajacpaadoor", sum := "a9cd38d0d5d73399b49bfc84c93eae186a1d6729d372cca33c04e134771b2c29", checked := Tryd.checked }
namespace Rows
def none {H : Type} : Left H := { results := [], args := [] }

/- WHAT THE LISTED PACKAGE-LEVEL VARIABLES READ AS WHEN THE CALL BEGINS. Each datum BY PROGRAM (the guide's laid-datum.mjs) off the statement by which the dump's own 'gosem.cut.vars' lays the variable. In a bare row this is a premise. The card (YtkifedleajacpaaDoorCards.lean) ties it to the program's text. -/
def laid_math_bits_deBruijn32tab {H : Type} : DataW H := .agg [.lit (.int .u8 0), .lit (.int .u8 1), .lit (.int .u8 28), .lit (.int .u8 2), .lit (.int .u8 29), .lit (.int .u8 14), .lit (.int .u8 24), .lit (.int .u8 3), .lit (.int .u8 30), .lit (.int .u8 22), .lit (.int .u8 20), .lit (.int .u8 15), .lit (.int .u8 25), .lit (.int .u8 17), .lit (.int .u8 4), .lit (.int .u8 8), .lit (.int .u8 31), .lit (.int .u8 27), .lit (.int .u8 13), .lit (.int .u8 23), .lit (.int .u8 21), .lit (.int .u8 19), .lit (.int .u8 16), .lit (.int .u8 7), .lit (.int .u8 26), .lit (.int .u8 12), .lit (.int .u8 18), .lit (.int .u8 6), .lit (.int .u8 11), .lit (.int .u8 5), .lit (.int .u8 10), .lit (.int .u8 9)]
def laid_math_bits_deBruijn64tab {H : Type} : DataW H := .agg [.lit (.int .u8 0), .lit (.int .u8 1), .lit (.int .u8 56), .lit (.int .u8 2), .lit (.int .u8 57), .lit (.int .u8 49), .lit (.int .u8 28), .lit (.int .u8 3), .lit (.int .u8 61), .lit (.int .u8 58), .lit (.int .u8 42), .lit (.int .u8 50), .lit (.int .u8 38), .lit (.int .u8 29), .lit (.int .u8 17), .lit (.int .u8 4), .lit (.int .u8 62), .lit (.int .u8 47), .lit (.int .u8 59), .lit (.int .u8 36), .lit (.int .u8 45), .lit (.int .u8 43), .lit (.int .u8 51), .lit (.int .u8 22), .lit (.int .u8 53), .lit (.int .u8 39), .lit (.int .u8 33), .lit (.int .u8 30), .lit (.int .u8 24), .lit (.int .u8 18), .lit (.int .u8 12), .lit (.int .u8 5), .lit (.int .u8 63), .lit (.int .u8 55), .lit (.int .u8 48), .lit (.int .u8 27), .lit (.int .u8 60), .lit (.int .u8 41), .lit (.int .u8 37), .lit (.int .u8 16), .lit (.int .u8 46), .lit (.int .u8 35), .lit (.int .u8 44), .lit (.int .u8 21), .lit (.int .u8 52), .lit (.int .u8 32), .lit (.int .u8 23), .lit (.int .u8 11), .lit (.int .u8 54), .lit (.int .u8 26), .lit (.int .u8 40), .lit (.int .u8 15), .lit (.int .u8 34), .lit (.int .u8 20), .lit (.int .u8 31), .lit (.int .u8 10), .lit (.int .u8 25), .lit (.int .u8 14), .lit (.int .u8 19), .lit (.int .u8 9), .lit (.int .u8 13), .lit (.int .u8 8), .lit (.int .u8 7), .lit (.int .u8 6)]
def laid_internal_strconv_uint64pow10 {H : Type} : DataW H := .agg [.lit (.int .u64 1), .lit (.int .u64 10), .lit (.int .u64 100), .lit (.int .u64 1000), .lit (.int .u64 10000), .lit (.int .u64 100000), .lit (.int .u64 1000000), .lit (.int .u64 10000000), .lit (.int .u64 100000000), .lit (.int .u64 1000000000), .lit (.int .u64 10000000000), .lit (.int .u64 100000000000), .lit (.int .u64 1000000000000), .lit (.int .u64 10000000000000), .lit (.int .u64 100000000000000), .lit (.int .u64 1000000000000000), .lit (.int .u64 10000000000000000), .lit (.int .u64 100000000000000000), .lit (.int .u64 1000000000000000000), .lit (.int .u64 10000000000000000000)]

/-- 'saturatelaw16.HashconsKeys': WHATEVER THE INPUT: true; the input reads as it did. -/
def hashconsKeysSpec : ChangeSpec := { name := "hashconsKeys", fn := fun _ => fun
  | [d1, d2] => { results := [.lit (.bool true)], args := [d1, d2] }
  | _ => none }
def hashconsKeysRow : OpenClaim := { program := "ytkifedleajacpaadoor", sum := "a9cd38d0d5d73399b49bfc84c93eae186a1d6729d372cca33c04e134771b2c29", func := "saturate/saturatelaw16.HashconsKeys", spec := "hashconsKeys", unfollowed := true, recurses := true, named := ["internal/strconv.uint64pow10", "math/bits.deBruijn32tab", "math/bits.deBruijn64tab"], apart := false, laid := [("math/bits.deBruijn32tab", laid_math_bits_deBruijn32tab), ("math/bits.deBruijn64tab", laid_math_bits_deBruijn64tab), ("internal/strconv.uint64pow10", laid_internal_strconv_uint64pow10)] }
def HashconsKeysSaid : Prop := hashconsKeysRow.holds Tryd.pinned (OpenSpec.ofChange hashconsKeysSpec)

/-- ITS FALSE NEIGHBOUR: 'it returns false'. Refute it at one input. -/
def hashconsKeysWrong : ChangeSpec := { name := "hashconsKeys", fn := fun _ => fun
  | [d1, d2] => { results := [.lit (.bool false)], args := [d1, d2] }
  | _ => none }
def HashconsKeysWrongFalsely : Prop := hashconsKeysRow.holds Tryd.pinned (OpenSpec.ofChange hashconsKeysWrong)

/-- 'saturatelaw16.HashconsCanons': WHATEVER THE INPUT: true; the input reads as it did. -/
def hashconsCanonsSpec : ChangeSpec := { name := "hashconsCanons", fn := fun _ => fun
  | [d1, d2] => { results := [.lit (.bool true)], args := [d1, d2] }
  | _ => none }
def hashconsCanonsRow : OpenClaim := { program := "ytkifedleajacpaadoor", sum := "a9cd38d0d5d73399b49bfc84c93eae186a1d6729d372cca33c04e134771b2c29", func := "saturate/saturatelaw16.HashconsCanons", spec := "hashconsCanons", unfollowed := true, recurses := true, named := ["internal/strconv.uint64pow10", "math/bits.deBruijn32tab", "math/bits.deBruijn64tab"], apart := false, laid := [("math/bits.deBruijn32tab", laid_math_bits_deBruijn32tab), ("math/bits.deBruijn64tab", laid_math_bits_deBruijn64tab), ("internal/strconv.uint64pow10", laid_internal_strconv_uint64pow10)] }
def HashconsCanonsSaid : Prop := hashconsCanonsRow.holds Tryd.pinned (OpenSpec.ofChange hashconsCanonsSpec)

/-- ITS FALSE NEIGHBOUR: 'it returns false'. Refute it at one input. -/
def hashconsCanonsWrong : ChangeSpec := { name := "hashconsCanons", fn := fun _ => fun
  | [d1, d2] => { results := [.lit (.bool false)], args := [d1, d2] }
  | _ => none }
def HashconsCanonsWrongFalsely : Prop := hashconsCanonsRow.holds Tryd.pinned (OpenSpec.ofChange hashconsCanonsWrong)

/-- 'saturatelaw16.HashconsCopies': WHATEVER THE INPUT: true; the input reads as it did. -/
def hashconsCopiesSpec : ChangeSpec := { name := "hashconsCopies", fn := fun _ => fun
  | [d1, d2] => { results := [.lit (.bool true)], args := [d1, d2] }
  | _ => none }
def hashconsCopiesRow : OpenClaim := { program := "ytkifedleajacpaadoor", sum := "a9cd38d0d5d73399b49bfc84c93eae186a1d6729d372cca33c04e134771b2c29", func := "saturate/saturatelaw16.HashconsCopies", spec := "hashconsCopies", unfollowed := true, recurses := true, named := ["internal/strconv.uint64pow10", "math/bits.deBruijn32tab", "math/bits.deBruijn64tab"], apart := false, laid := [("math/bits.deBruijn32tab", laid_math_bits_deBruijn32tab), ("math/bits.deBruijn64tab", laid_math_bits_deBruijn64tab), ("internal/strconv.uint64pow10", laid_internal_strconv_uint64pow10)] }
def HashconsCopiesSaid : Prop := hashconsCopiesRow.holds Tryd.pinned (OpenSpec.ofChange hashconsCopiesSpec)

/-- ITS FALSE NEIGHBOUR: 'it returns false'. Refute it at one input. -/
def hashconsCopiesWrong : ChangeSpec := { name := "hashconsCopies", fn := fun _ => fun
  | [d1, d2] => { results := [.lit (.bool false)], args := [d1, d2] }
  | _ => none }
def HashconsCopiesWrongFalsely : Prop := hashconsCopiesRow.holds Tryd.pinned (OpenSpec.ofChange hashconsCopiesWrong)

/-- 'saturatelaw16.HashconsCompares': WHATEVER THE INPUT: true; the input reads as it did. -/
def hashconsComparesSpec : ChangeSpec := { name := "hashconsCompares", fn := fun _ => fun
  | [d1, d2] => { results := [.lit (.bool true)], args := [d1, d2] }
  | _ => none }
def hashconsComparesRow : OpenClaim := { program := "ytkifedleajacpaadoor", sum := "a9cd38d0d5d73399b49bfc84c93eae186a1d6729d372cca33c04e134771b2c29", func := "saturate/saturatelaw16.HashconsCompares", spec := "hashconsCompares", unfollowed := true, recurses := true, named := ["internal/strconv.uint64pow10", "math/bits.deBruijn32tab", "math/bits.deBruijn64tab"], apart := false, laid := [("math/bits.deBruijn32tab", laid_math_bits_deBruijn32tab), ("math/bits.deBruijn64tab", laid_math_bits_deBruijn64tab), ("internal/strconv.uint64pow10", laid_internal_strconv_uint64pow10)] }
def HashconsComparesSaid : Prop := hashconsComparesRow.holds Tryd.pinned (OpenSpec.ofChange hashconsComparesSpec)

/-- ITS FALSE NEIGHBOUR: 'it returns false'. Refute it at one input. -/
def hashconsComparesWrong : ChangeSpec := { name := "hashconsCompares", fn := fun _ => fun
  | [d1, d2] => { results := [.lit (.bool false)], args := [d1, d2] }
  | _ => none }
def HashconsComparesWrongFalsely : Prop := hashconsComparesRow.holds Tryd.pinned (OpenSpec.ofChange hashconsComparesWrong)

/-- 'saturatelaw16.HashconsOrders': WHATEVER THE INPUT: true; the input reads as it did. -/
def hashconsOrdersSpec : ChangeSpec := { name := "hashconsOrders", fn := fun _ => fun
  | [d1, d2, d3] => { results := [.lit (.bool true)], args := [d1, d2, d3] }
  | _ => none }
def hashconsOrdersRow : OpenClaim := { program := "ytkifedleajacpaadoor", sum := "a9cd38d0d5d73399b49bfc84c93eae186a1d6729d372cca33c04e134771b2c29", func := "saturate/saturatelaw16.HashconsOrders", spec := "hashconsOrders", unfollowed := true, recurses := true, named := ["internal/strconv.uint64pow10", "math/bits.deBruijn32tab", "math/bits.deBruijn64tab"], apart := false, laid := [("math/bits.deBruijn32tab", laid_math_bits_deBruijn32tab), ("math/bits.deBruijn64tab", laid_math_bits_deBruijn64tab), ("internal/strconv.uint64pow10", laid_internal_strconv_uint64pow10)] }
def HashconsOrdersSaid : Prop := hashconsOrdersRow.holds Tryd.pinned (OpenSpec.ofChange hashconsOrdersSpec)

/-- ITS FALSE NEIGHBOUR: 'it returns false'. Refute it at one input. -/
def hashconsOrdersWrong : ChangeSpec := { name := "hashconsOrders", fn := fun _ => fun
  | [d1, d2, d3] => { results := [.lit (.bool false)], args := [d1, d2, d3] }
  | _ => none }
def HashconsOrdersWrongFalsely : Prop := hashconsOrdersRow.holds Tryd.pinned (OpenSpec.ofChange hashconsOrdersWrong)

/-- 'saturatelaw16.HashconsPlays': WHATEVER THE INPUT: true; the input reads as it did. -/
def hashconsPlaysSpec : ChangeSpec := { name := "hashconsPlays", fn := fun _ => fun
  | [d] => { results := [.lit (.bool true)], args := [d] }
  | _ => none }
def hashconsPlaysRow : OpenClaim := { program := "ytkifedleajacpaadoor", sum := "a9cd38d0d5d73399b49bfc84c93eae186a1d6729d372cca33c04e134771b2c29", func := "saturate/saturatelaw16.HashconsPlays", spec := "hashconsPlays", unfollowed := true, recurses := true, named := ["internal/strconv.uint64pow10", "math/bits.deBruijn32tab", "math/bits.deBruijn64tab"], apart := false, laid := [("math/bits.deBruijn32tab", laid_math_bits_deBruijn32tab), ("math/bits.deBruijn64tab", laid_math_bits_deBruijn64tab), ("internal/strconv.uint64pow10", laid_internal_strconv_uint64pow10)] }
def HashconsPlaysSaid : Prop := hashconsPlaysRow.holds Tryd.pinned (OpenSpec.ofChange hashconsPlaysSpec)

/-- ITS FALSE NEIGHBOUR: 'it returns false'. Refute it at one input. -/
def hashconsPlaysWrong : ChangeSpec := { name := "hashconsPlays", fn := fun _ => fun
  | [d] => { results := [.lit (.bool false)], args := [d] }
  | _ => none }
def HashconsPlaysWrongFalsely : Prop := hashconsPlaysRow.holds Tryd.pinned (OpenSpec.ofChange hashconsPlaysWrong)

/-- 'saturatelaw16.HashconsOwns': WHATEVER THE INPUT: true; the input reads as it did. -/
def hashconsOwnsSpec : ChangeSpec := { name := "hashconsOwns", fn := fun _ => fun
  | [d] => { results := [.lit (.bool true)], args := [d] }
  | _ => none }
def hashconsOwnsRow : OpenClaim := { program := "ytkifedleajacpaadoor", sum := "a9cd38d0d5d73399b49bfc84c93eae186a1d6729d372cca33c04e134771b2c29", func := "saturate/saturatelaw16.HashconsOwns", spec := "hashconsOwns", unfollowed := true, recurses := true, named := ["internal/strconv.uint64pow10", "math/bits.deBruijn32tab", "math/bits.deBruijn64tab"], apart := false, laid := [("math/bits.deBruijn32tab", laid_math_bits_deBruijn32tab), ("math/bits.deBruijn64tab", laid_math_bits_deBruijn64tab), ("internal/strconv.uint64pow10", laid_internal_strconv_uint64pow10)] }
def HashconsOwnsSaid : Prop := hashconsOwnsRow.holds Tryd.pinned (OpenSpec.ofChange hashconsOwnsSpec)

/-- ITS FALSE NEIGHBOUR: 'it returns false'. Refute it at one input. -/
def hashconsOwnsWrong : ChangeSpec := { name := "hashconsOwns", fn := fun _ => fun
  | [d] => { results := [.lit (.bool false)], args := [d] }
  | _ => none }
def HashconsOwnsWrongFalsely : Prop := hashconsOwnsRow.holds Tryd.pinned (OpenSpec.ofChange hashconsOwnsWrong)

/-- 'saturatelaw16.HashconsNil': WHATEVER THE INPUT: true; the input reads as it did. -/
def hashconsNilSpec : ChangeSpec := { name := "hashconsNil", fn := fun _ => fun
  | [d1, d2] => { results := [.lit (.bool true)], args := [d1, d2] }
  | _ => none }
def hashconsNilRow : OpenClaim := { program := "ytkifedleajacpaadoor", sum := "a9cd38d0d5d73399b49bfc84c93eae186a1d6729d372cca33c04e134771b2c29", func := "saturate/saturatelaw16.HashconsNil", spec := "hashconsNil", unfollowed := true, recurses := true, named := ["internal/strconv.uint64pow10", "math/bits.deBruijn32tab", "math/bits.deBruijn64tab"], apart := false, laid := [("math/bits.deBruijn32tab", laid_math_bits_deBruijn32tab), ("math/bits.deBruijn64tab", laid_math_bits_deBruijn64tab), ("internal/strconv.uint64pow10", laid_internal_strconv_uint64pow10)] }
def HashconsNilSaid : Prop := hashconsNilRow.holds Tryd.pinned (OpenSpec.ofChange hashconsNilSpec)

/-- ITS FALSE NEIGHBOUR: 'it returns false'. Refute it at one input. -/
def hashconsNilWrong : ChangeSpec := { name := "hashconsNil", fn := fun _ => fun
  | [d1, d2] => { results := [.lit (.bool false)], args := [d1, d2] }
  | _ => none }
def HashconsNilWrongFalsely : Prop := hashconsNilRow.holds Tryd.pinned (OpenSpec.ofChange hashconsNilWrong)

/- THE SECOND FORM. 'bulk': how many values and letters a reading holds, each counted each time it is reached (what is shared counts as often as it is met; a slice's spare places count too). A statement '..UptoSaid' is the law's where the arguments, and the package variables that the reading takes, are together of bulk at most 1048576: NARROWER than '..Said'. Prove '..Said' where nothing that the law and all that it calls make is longer than what came in: it says more and counts as full. Else prove '..UptoSaid'. A law counts once. -/
mutual
def uptoBulk {H : Type} : DataW H → Nat
  | .lit (.string bytes) => bytes.length + 1
  | .lit _ => 1
  | .nil => 1
  | .ptr d => uptoBulk d + 1
  | .slice elems spare => uptoBulkAll elems + uptoBulkAll spare + 1
  | .agg parts => uptoBulkAll parts + 1
  | .iface _ d => uptoBulk d + 1
  | .map entries => uptoBulkEntries entries + 1
  | .held _ => 1
def uptoBulkAll {H : Type} : List (DataW H) → Nat
  | [] => 0
  | d :: r => uptoBulk d + uptoBulkAll r
def uptoBulkEntries {H : Type} : List (Lit × DataW H) → Nat
  | [] => 0
  | x :: r => uptoBulkEntry x + uptoBulkEntries r
def uptoBulkEntry {H : Type} : Lit × DataW H → Nat
  | (.string bytes, d) => bytes.length + uptoBulk d + 1
  | (_, d) => uptoBulk d + 1
 end
def uptoSmall : (H : Type) → List (DataW H) → Bool := fun _ ds => decide (uptoBulkAll ds ≤ 1048576)
def OpenSpec.upto (s : _root_.Go.ChangeSpec) : _root_.Go.OpenSpec := { _root_.Go.OpenSpec.ofChange s with cond := some uptoSmall }

/-- 'saturatelaw16.HashconsKeys', WHERE WHAT IT READS IS OF BULK AT MOST 1048576: true; the input reads as it did. -/
def hashconsKeysUptoRow : OpenClaim := { program := "ytkifedleajacpaadoor", sum := "a9cd38d0d5d73399b49bfc84c93eae186a1d6729d372cca33c04e134771b2c29", func := "saturate/saturatelaw16.HashconsKeys", spec := "hashconsKeys", unfollowed := true, recurses := true, named := ["internal/strconv.uint64pow10", "math/bits.deBruijn32tab", "math/bits.deBruijn64tab"], apart := false, laid := [("math/bits.deBruijn32tab", laid_math_bits_deBruijn32tab), ("math/bits.deBruijn64tab", laid_math_bits_deBruijn64tab), ("internal/strconv.uint64pow10", laid_internal_strconv_uint64pow10)], narrowed := true }
def HashconsKeysUptoSaid : Prop := hashconsKeysUptoRow.holds Tryd.pinned (OpenSpec.upto hashconsKeysSpec)

/-- 'saturatelaw16.HashconsCanons', WHERE WHAT IT READS IS OF BULK AT MOST 1048576: true; the input reads as it did. -/
def hashconsCanonsUptoRow : OpenClaim := { program := "ytkifedleajacpaadoor", sum := "a9cd38d0d5d73399b49bfc84c93eae186a1d6729d372cca33c04e134771b2c29", func := "saturate/saturatelaw16.HashconsCanons", spec := "hashconsCanons", unfollowed := true, recurses := true, named := ["internal/strconv.uint64pow10", "math/bits.deBruijn32tab", "math/bits.deBruijn64tab"], apart := false, laid := [("math/bits.deBruijn32tab", laid_math_bits_deBruijn32tab), ("math/bits.deBruijn64tab", laid_math_bits_deBruijn64tab), ("internal/strconv.uint64pow10", laid_internal_strconv_uint64pow10)], narrowed := true }
def HashconsCanonsUptoSaid : Prop := hashconsCanonsUptoRow.holds Tryd.pinned (OpenSpec.upto hashconsCanonsSpec)

/-- 'saturatelaw16.HashconsCopies', WHERE WHAT IT READS IS OF BULK AT MOST 1048576: true; the input reads as it did. -/
def hashconsCopiesUptoRow : OpenClaim := { program := "ytkifedleajacpaadoor", sum := "a9cd38d0d5d73399b49bfc84c93eae186a1d6729d372cca33c04e134771b2c29", func := "saturate/saturatelaw16.HashconsCopies", spec := "hashconsCopies", unfollowed := true, recurses := true, named := ["internal/strconv.uint64pow10", "math/bits.deBruijn32tab", "math/bits.deBruijn64tab"], apart := false, laid := [("math/bits.deBruijn32tab", laid_math_bits_deBruijn32tab), ("math/bits.deBruijn64tab", laid_math_bits_deBruijn64tab), ("internal/strconv.uint64pow10", laid_internal_strconv_uint64pow10)], narrowed := true }
def HashconsCopiesUptoSaid : Prop := hashconsCopiesUptoRow.holds Tryd.pinned (OpenSpec.upto hashconsCopiesSpec)

/-- 'saturatelaw16.HashconsCompares', WHERE WHAT IT READS IS OF BULK AT MOST 1048576: true; the input reads as it did. -/
def hashconsComparesUptoRow : OpenClaim := { program := "ytkifedleajacpaadoor", sum := "a9cd38d0d5d73399b49bfc84c93eae186a1d6729d372cca33c04e134771b2c29", func := "saturate/saturatelaw16.HashconsCompares", spec := "hashconsCompares", unfollowed := true, recurses := true, named := ["internal/strconv.uint64pow10", "math/bits.deBruijn32tab", "math/bits.deBruijn64tab"], apart := false, laid := [("math/bits.deBruijn32tab", laid_math_bits_deBruijn32tab), ("math/bits.deBruijn64tab", laid_math_bits_deBruijn64tab), ("internal/strconv.uint64pow10", laid_internal_strconv_uint64pow10)], narrowed := true }
def HashconsComparesUptoSaid : Prop := hashconsComparesUptoRow.holds Tryd.pinned (OpenSpec.upto hashconsComparesSpec)

/-- 'saturatelaw16.HashconsOrders', WHERE WHAT IT READS IS OF BULK AT MOST 1048576: true; the input reads as it did. -/
def hashconsOrdersUptoRow : OpenClaim := { program := "ytkifedleajacpaadoor", sum := "a9cd38d0d5d73399b49bfc84c93eae186a1d6729d372cca33c04e134771b2c29", func := "saturate/saturatelaw16.HashconsOrders", spec := "hashconsOrders", unfollowed := true, recurses := true, named := ["internal/strconv.uint64pow10", "math/bits.deBruijn32tab", "math/bits.deBruijn64tab"], apart := false, laid := [("math/bits.deBruijn32tab", laid_math_bits_deBruijn32tab), ("math/bits.deBruijn64tab", laid_math_bits_deBruijn64tab), ("internal/strconv.uint64pow10", laid_internal_strconv_uint64pow10)], narrowed := true }
def HashconsOrdersUptoSaid : Prop := hashconsOrdersUptoRow.holds Tryd.pinned (OpenSpec.upto hashconsOrdersSpec)

/-- 'saturatelaw16.HashconsPlays', WHERE WHAT IT READS IS OF BULK AT MOST 1048576: true; the input reads as it did. -/
def hashconsPlaysUptoRow : OpenClaim := { program := "ytkifedleajacpaadoor", sum := "a9cd38d0d5d73399b49bfc84c93eae186a1d6729d372cca33c04e134771b2c29", func := "saturate/saturatelaw16.HashconsPlays", spec := "hashconsPlays", unfollowed := true, recurses := true, named := ["internal/strconv.uint64pow10", "math/bits.deBruijn32tab", "math/bits.deBruijn64tab"], apart := false, laid := [("math/bits.deBruijn32tab", laid_math_bits_deBruijn32tab), ("math/bits.deBruijn64tab", laid_math_bits_deBruijn64tab), ("internal/strconv.uint64pow10", laid_internal_strconv_uint64pow10)], narrowed := true }
def HashconsPlaysUptoSaid : Prop := hashconsPlaysUptoRow.holds Tryd.pinned (OpenSpec.upto hashconsPlaysSpec)

/-- 'saturatelaw16.HashconsOwns', WHERE WHAT IT READS IS OF BULK AT MOST 1048576: true; the input reads as it did. -/
def hashconsOwnsUptoRow : OpenClaim := { program := "ytkifedleajacpaadoor", sum := "a9cd38d0d5d73399b49bfc84c93eae186a1d6729d372cca33c04e134771b2c29", func := "saturate/saturatelaw16.HashconsOwns", spec := "hashconsOwns", unfollowed := true, recurses := true, named := ["internal/strconv.uint64pow10", "math/bits.deBruijn32tab", "math/bits.deBruijn64tab"], apart := false, laid := [("math/bits.deBruijn32tab", laid_math_bits_deBruijn32tab), ("math/bits.deBruijn64tab", laid_math_bits_deBruijn64tab), ("internal/strconv.uint64pow10", laid_internal_strconv_uint64pow10)], narrowed := true }
def HashconsOwnsUptoSaid : Prop := hashconsOwnsUptoRow.holds Tryd.pinned (OpenSpec.upto hashconsOwnsSpec)

/-- 'saturatelaw16.HashconsNil', WHERE WHAT IT READS IS OF BULK AT MOST 1048576: true; the input reads as it did. -/
def hashconsNilUptoRow : OpenClaim := { program := "ytkifedleajacpaadoor", sum := "a9cd38d0d5d73399b49bfc84c93eae186a1d6729d372cca33c04e134771b2c29", func := "saturate/saturatelaw16.HashconsNil", spec := "hashconsNil", unfollowed := true, recurses := true, named := ["internal/strconv.uint64pow10", "math/bits.deBruijn32tab", "math/bits.deBruijn64tab"], apart := false, laid := [("math/bits.deBruijn32tab", laid_math_bits_deBruijn32tab), ("math/bits.deBruijn64tab", laid_math_bits_deBruijn64tab), ("internal/strconv.uint64pow10", laid_internal_strconv_uint64pow10)], narrowed := true }
def HashconsNilUptoSaid : Prop := hashconsNilUptoRow.holds Tryd.pinned (OpenSpec.upto hashconsNilSpec)

end Rows
end Go.Proofs.YtkifedleajacpaaDoor
