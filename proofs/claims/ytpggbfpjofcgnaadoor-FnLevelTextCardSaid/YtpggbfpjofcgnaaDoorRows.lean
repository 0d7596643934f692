/-
  NARROWER THAN 'FOR EVERY INPUT', by the rows' own cells (each row's printed sentence says how): FnExactTermText: laid · FnExactTermFrom: laid · FnTermText: laid · FnExactLevelText: laid · FnTermFrom: laid · FnExactLevelFrom: laid · FnLevelText: laid · FnLevelFrom: laid.
  DERIVED. THE GIVEN ROWS OF THIS SEAT. 8 by the template 'for every input the law returns true; each argument reads behind the call as it read before'; 0 by the template 'total and deterministic' (their statements: YtpggbfpjofcgnaaDoorTotals.lean).
  GIVEN WITH THE SEED: the statements are not yours to turn. If you find one false, say at which input.
  Laid BY PROGRAM, IN A SANDBOX (cutbox-rows.mjs): the forced cells as the released guide's own fill.sh prints them over the translation fa3932e5155120fc… (all of the seat's roots in one cut). By AI agents, Wed Nov 11 2026. No macro, syntax, notation, axiom, sorry.
-/
import Derived.Test.YtpggbfpjofcgnaaDoorChecked
import GoSem.Claim
import GoSem.ClaimJoined
import GoSem.ClaimMapViews
import Derived.JoinedTies
import Derived.KernelRfl
namespace Go.Proofs.YtpggbfpjofcgnaaDoor
/- THE CELL 'sum', in the pinned program and in every row, IS THE sha256 OF THE DUMP (.gsa) THAT YtpggbfpjofcgnaaDoorProg.lean LOADS. Nothing in Lean hashes anything: it is a label: what it is worth is what the hold of that sum in a sandbox is worth. -/
noncomputable def Tryd.pinned : Pinned := { name := "ytpggbfpjofcgnaadoor", sum := "fa3932e5155120fc40fb78a2e65c50fd714982b2804b05bebf9be5a46d3ee02b", checked := Tryd.checked }
namespace Rows
def none {H : Type} : Left H := { results := [], args := [] }

/- WHAT THE LISTED PACKAGE-LEVEL VARIABLES READ AS WHEN THE CALL BEGINS. Each datum BY PROGRAM (the guide's laid-datum.mjs) off the statement by which the dump's own 'gosem.cut.vars' lays the variable. In a bare row this is a premise. The card (YtpggbfpjofcgnaaDoorCards.lean) ties it to the program's text. -/
def laid_math_bits_deBruijn32tab {H : Type} : DataW H := .agg [.lit (.int .u8 0), .lit (.int .u8 1), .lit (.int .u8 28), .lit (.int .u8 2), .lit (.int .u8 29), .lit (.int .u8 14), .lit (.int .u8 24), .lit (.int .u8 3), .lit (.int .u8 30), .lit (.int .u8 22), .lit (.int .u8 20), .lit (.int .u8 15), .lit (.int .u8 25), .lit (.int .u8 17), .lit (.int .u8 4), .lit (.int .u8 8), .lit (.int .u8 31), .lit (.int .u8 27), .lit (.int .u8 13), .lit (.int .u8 23), .lit (.int .u8 21), .lit (.int .u8 19), .lit (.int .u8 16), .lit (.int .u8 7), .lit (.int .u8 26), .lit (.int .u8 12), .lit (.int .u8 18), .lit (.int .u8 6), .lit (.int .u8 11), .lit (.int .u8 5), .lit (.int .u8 10), .lit (.int .u8 9)]
def laid_math_bits_deBruijn64tab {H : Type} : DataW H := .agg [.lit (.int .u8 0), .lit (.int .u8 1), .lit (.int .u8 56), .lit (.int .u8 2), .lit (.int .u8 57), .lit (.int .u8 49), .lit (.int .u8 28), .lit (.int .u8 3), .lit (.int .u8 61), .lit (.int .u8 58), .lit (.int .u8 42), .lit (.int .u8 50), .lit (.int .u8 38), .lit (.int .u8 29), .lit (.int .u8 17), .lit (.int .u8 4), .lit (.int .u8 62), .lit (.int .u8 47), .lit (.int .u8 59), .lit (.int .u8 36), .lit (.int .u8 45), .lit (.int .u8 43), .lit (.int .u8 51), .lit (.int .u8 22), .lit (.int .u8 53), .lit (.int .u8 39), .lit (.int .u8 33), .lit (.int .u8 30), .lit (.int .u8 24), .lit (.int .u8 18), .lit (.int .u8 12), .lit (.int .u8 5), .lit (.int .u8 63), .lit (.int .u8 55), .lit (.int .u8 48), .lit (.int .u8 27), .lit (.int .u8 60), .lit (.int .u8 41), .lit (.int .u8 37), .lit (.int .u8 16), .lit (.int .u8 46), .lit (.int .u8 35), .lit (.int .u8 44), .lit (.int .u8 21), .lit (.int .u8 52), .lit (.int .u8 32), .lit (.int .u8 23), .lit (.int .u8 11), .lit (.int .u8 54), .lit (.int .u8 26), .lit (.int .u8 40), .lit (.int .u8 15), .lit (.int .u8 34), .lit (.int .u8 20), .lit (.int .u8 31), .lit (.int .u8 10), .lit (.int .u8 25), .lit (.int .u8 14), .lit (.int .u8 19), .lit (.int .u8 9), .lit (.int .u8 13), .lit (.int .u8 8), .lit (.int .u8 7), .lit (.int .u8 6)]
def laid_internal_strconv_uint64pow10 {H : Type} : DataW H := .agg [.lit (.int .u64 1), .lit (.int .u64 10), .lit (.int .u64 100), .lit (.int .u64 1000), .lit (.int .u64 10000), .lit (.int .u64 100000), .lit (.int .u64 1000000), .lit (.int .u64 10000000), .lit (.int .u64 100000000), .lit (.int .u64 1000000000), .lit (.int .u64 10000000000), .lit (.int .u64 100000000000), .lit (.int .u64 1000000000000), .lit (.int .u64 10000000000000), .lit (.int .u64 100000000000000), .lit (.int .u64 1000000000000000), .lit (.int .u64 10000000000000000), .lit (.int .u64 100000000000000000), .lit (.int .u64 1000000000000000000), .lit (.int .u64 10000000000000000000)]

/-- 'laws.FnExactTermText': WHATEVER THE INPUT: true; the input reads as it did. -/
def fnExactTermTextSpec : ChangeSpec := { name := "fnExactTermText", fn := fun _ => fun
  | [d] => { results := [.lit (.bool true)], args := [d] }
  | _ => none }
def fnExactTermTextRow : OpenClaim := { program := "ytpggbfpjofcgnaadoor", sum := "fa3932e5155120fc40fb78a2e65c50fd714982b2804b05bebf9be5a46d3ee02b", func := "loop.example/atomicspectra/laws.FnExactTermText", spec := "fnExactTermText", recurses := true, named := ["internal/strconv.uint64pow10", "math/bits.deBruijn32tab", "math/bits.deBruijn64tab"], apart := false, laid := [("math/bits.deBruijn32tab", laid_math_bits_deBruijn32tab), ("math/bits.deBruijn64tab", laid_math_bits_deBruijn64tab), ("internal/strconv.uint64pow10", laid_internal_strconv_uint64pow10)] }
def FnExactTermTextSaid : Prop := fnExactTermTextRow.holds Tryd.pinned (OpenSpec.ofChange fnExactTermTextSpec)

/-- ITS FALSE NEIGHBOUR: 'it returns false'. Refute it at one input. -/
def fnExactTermTextWrong : ChangeSpec := { name := "fnExactTermText", fn := fun _ => fun
  | [d] => { results := [.lit (.bool false)], args := [d] }
  | _ => none }
def FnExactTermTextWrongFalsely : Prop := fnExactTermTextRow.holds Tryd.pinned (OpenSpec.ofChange fnExactTermTextWrong)

/-- 'laws.FnExactTermFrom': WHATEVER THE INPUT: true; the input reads as it did. -/
def fnExactTermFromSpec : ChangeSpec := { name := "fnExactTermFrom", fn := fun _ => fun
  | [d] => { results := [.lit (.bool true)], args := [d] }
  | _ => none }
def fnExactTermFromRow : OpenClaim := { program := "ytpggbfpjofcgnaadoor", sum := "fa3932e5155120fc40fb78a2e65c50fd714982b2804b05bebf9be5a46d3ee02b", func := "loop.example/atomicspectra/laws.FnExactTermFrom", spec := "fnExactTermFrom", inPlace := ["internal/bytealg.IndexByteString"], recurses := true, named := ["internal/strconv.uint64pow10", "math/bits.deBruijn32tab", "math/bits.deBruijn64tab"], apart := false, laid := [("math/bits.deBruijn32tab", laid_math_bits_deBruijn32tab), ("math/bits.deBruijn64tab", laid_math_bits_deBruijn64tab), ("internal/strconv.uint64pow10", laid_internal_strconv_uint64pow10)] }
def FnExactTermFromSaid : Prop := fnExactTermFromRow.holds Tryd.pinned (OpenSpec.ofChange fnExactTermFromSpec)

/-- ITS FALSE NEIGHBOUR: 'it returns false'. Refute it at one input. -/
def fnExactTermFromWrong : ChangeSpec := { name := "fnExactTermFrom", fn := fun _ => fun
  | [d] => { results := [.lit (.bool false)], args := [d] }
  | _ => none }
def FnExactTermFromWrongFalsely : Prop := fnExactTermFromRow.holds Tryd.pinned (OpenSpec.ofChange fnExactTermFromWrong)

/-- 'laws.FnTermText': WHATEVER THE INPUT: true; the input reads as it did. -/
def fnTermTextSpec : ChangeSpec := { name := "fnTermText", fn := fun _ => fun
  | [d] => { results := [.lit (.bool true)], args := [d] }
  | _ => none }
def fnTermTextRow : OpenClaim := { program := "ytpggbfpjofcgnaadoor", sum := "fa3932e5155120fc40fb78a2e65c50fd714982b2804b05bebf9be5a46d3ee02b", func := "loop.example/atomicspectra/laws.FnTermText", spec := "fnTermText", inPlace := ["internal/bytealg.IndexByteString"], recurses := true, named := ["internal/strconv.uint64pow10", "math/bits.deBruijn32tab", "math/bits.deBruijn64tab"], apart := false, laid := [("math/bits.deBruijn32tab", laid_math_bits_deBruijn32tab), ("math/bits.deBruijn64tab", laid_math_bits_deBruijn64tab), ("internal/strconv.uint64pow10", laid_internal_strconv_uint64pow10)] }
def FnTermTextSaid : Prop := fnTermTextRow.holds Tryd.pinned (OpenSpec.ofChange fnTermTextSpec)

/-- ITS FALSE NEIGHBOUR: 'it returns false'. Refute it at one input. -/
def fnTermTextWrong : ChangeSpec := { name := "fnTermText", fn := fun _ => fun
  | [d] => { results := [.lit (.bool false)], args := [d] }
  | _ => none }
def FnTermTextWrongFalsely : Prop := fnTermTextRow.holds Tryd.pinned (OpenSpec.ofChange fnTermTextWrong)

/-- 'laws.FnExactLevelText': WHATEVER THE INPUT: true; the input reads as it did. -/
def fnExactLevelTextSpec : ChangeSpec := { name := "fnExactLevelText", fn := fun _ => fun
  | [d] => { results := [.lit (.bool true)], args := [d] }
  | _ => none }
def fnExactLevelTextRow : OpenClaim := { program := "ytpggbfpjofcgnaadoor", sum := "fa3932e5155120fc40fb78a2e65c50fd714982b2804b05bebf9be5a46d3ee02b", func := "loop.example/atomicspectra/laws.FnExactLevelText", spec := "fnExactLevelText", recurses := true, named := ["internal/strconv.uint64pow10", "math/bits.deBruijn32tab", "math/bits.deBruijn64tab"], apart := false, laid := [("math/bits.deBruijn32tab", laid_math_bits_deBruijn32tab), ("math/bits.deBruijn64tab", laid_math_bits_deBruijn64tab), ("internal/strconv.uint64pow10", laid_internal_strconv_uint64pow10)] }
def FnExactLevelTextSaid : Prop := fnExactLevelTextRow.holds Tryd.pinned (OpenSpec.ofChange fnExactLevelTextSpec)

/-- ITS FALSE NEIGHBOUR: 'it returns false'. Refute it at one input. -/
def fnExactLevelTextWrong : ChangeSpec := { name := "fnExactLevelText", fn := fun _ => fun
  | [d] => { results := [.lit (.bool false)], args := [d] }
  | _ => none }
def FnExactLevelTextWrongFalsely : Prop := fnExactLevelTextRow.holds Tryd.pinned (OpenSpec.ofChange fnExactLevelTextWrong)

/-- 'laws.FnTermFrom': WHATEVER THE INPUT: true; the input reads as it did. -/
def fnTermFromSpec : ChangeSpec := { name := "fnTermFrom", fn := fun _ => fun
  | [d] => { results := [.lit (.bool true)], args := [d] }
  | _ => none }
def fnTermFromRow : OpenClaim := { program := "ytpggbfpjofcgnaadoor", sum := "fa3932e5155120fc40fb78a2e65c50fd714982b2804b05bebf9be5a46d3ee02b", func := "loop.example/atomicspectra/laws.FnTermFrom", spec := "fnTermFrom", inPlace := ["internal/bytealg.IndexByteString"], recurses := true, named := ["internal/strconv.uint64pow10", "math/bits.deBruijn32tab", "math/bits.deBruijn64tab"], apart := false, laid := [("math/bits.deBruijn32tab", laid_math_bits_deBruijn32tab), ("math/bits.deBruijn64tab", laid_math_bits_deBruijn64tab), ("internal/strconv.uint64pow10", laid_internal_strconv_uint64pow10)] }
def FnTermFromSaid : Prop := fnTermFromRow.holds Tryd.pinned (OpenSpec.ofChange fnTermFromSpec)

/-- ITS FALSE NEIGHBOUR: 'it returns false'. Refute it at one input. -/
def fnTermFromWrong : ChangeSpec := { name := "fnTermFrom", fn := fun _ => fun
  | [d] => { results := [.lit (.bool false)], args := [d] }
  | _ => none }
def FnTermFromWrongFalsely : Prop := fnTermFromRow.holds Tryd.pinned (OpenSpec.ofChange fnTermFromWrong)

/-- 'laws.FnExactLevelFrom': WHATEVER THE INPUT: true; the input reads as it did. -/
def fnExactLevelFromSpec : ChangeSpec := { name := "fnExactLevelFrom", fn := fun _ => fun
  | [d] => { results := [.lit (.bool true)], args := [d] }
  | _ => none }
def fnExactLevelFromRow : OpenClaim := { program := "ytpggbfpjofcgnaadoor", sum := "fa3932e5155120fc40fb78a2e65c50fd714982b2804b05bebf9be5a46d3ee02b", func := "loop.example/atomicspectra/laws.FnExactLevelFrom", spec := "fnExactLevelFrom", inPlace := ["internal/bytealg.IndexByteString"], recurses := true, named := ["internal/strconv.uint64pow10", "math/bits.deBruijn32tab", "math/bits.deBruijn64tab"], apart := false, laid := [("math/bits.deBruijn32tab", laid_math_bits_deBruijn32tab), ("math/bits.deBruijn64tab", laid_math_bits_deBruijn64tab), ("internal/strconv.uint64pow10", laid_internal_strconv_uint64pow10)] }
def FnExactLevelFromSaid : Prop := fnExactLevelFromRow.holds Tryd.pinned (OpenSpec.ofChange fnExactLevelFromSpec)

/-- ITS FALSE NEIGHBOUR: 'it returns false'. Refute it at one input. -/
def fnExactLevelFromWrong : ChangeSpec := { name := "fnExactLevelFrom", fn := fun _ => fun
  | [d] => { results := [.lit (.bool false)], args := [d] }
  | _ => none }
def FnExactLevelFromWrongFalsely : Prop := fnExactLevelFromRow.holds Tryd.pinned (OpenSpec.ofChange fnExactLevelFromWrong)

/-- 'laws.FnLevelText': WHATEVER THE INPUT: true; the input reads as it did. -/
def fnLevelTextSpec : ChangeSpec := { name := "fnLevelText", fn := fun _ => fun
  | [d] => { results := [.lit (.bool true)], args := [d] }
  | _ => none }
def fnLevelTextRow : OpenClaim := { program := "ytpggbfpjofcgnaadoor", sum := "fa3932e5155120fc40fb78a2e65c50fd714982b2804b05bebf9be5a46d3ee02b", func := "loop.example/atomicspectra/laws.FnLevelText", spec := "fnLevelText", inPlace := ["internal/bytealg.IndexByteString"], recurses := true, named := ["internal/strconv.uint64pow10", "math/bits.deBruijn32tab", "math/bits.deBruijn64tab"], apart := false, laid := [("math/bits.deBruijn32tab", laid_math_bits_deBruijn32tab), ("math/bits.deBruijn64tab", laid_math_bits_deBruijn64tab), ("internal/strconv.uint64pow10", laid_internal_strconv_uint64pow10)] }
def FnLevelTextSaid : Prop := fnLevelTextRow.holds Tryd.pinned (OpenSpec.ofChange fnLevelTextSpec)

/-- ITS FALSE NEIGHBOUR: 'it returns false'. Refute it at one input. -/
def fnLevelTextWrong : ChangeSpec := { name := "fnLevelText", fn := fun _ => fun
  | [d] => { results := [.lit (.bool false)], args := [d] }
  | _ => none }
def FnLevelTextWrongFalsely : Prop := fnLevelTextRow.holds Tryd.pinned (OpenSpec.ofChange fnLevelTextWrong)

/-- 'laws.FnLevelFrom': WHATEVER THE INPUT: true; the input reads as it did. -/
def fnLevelFromSpec : ChangeSpec := { name := "fnLevelFrom", fn := fun _ => fun
  | [d] => { results := [.lit (.bool true)], args := [d] }
  | _ => none }
def fnLevelFromRow : OpenClaim := { program := "ytpggbfpjofcgnaadoor", sum := "fa3932e5155120fc40fb78a2e65c50fd714982b2804b05bebf9be5a46d3ee02b", func := "loop.example/atomicspectra/laws.FnLevelFrom", spec := "fnLevelFrom", inPlace := ["internal/bytealg.IndexByteString"], recurses := true, named := ["internal/strconv.uint64pow10", "math/bits.deBruijn32tab", "math/bits.deBruijn64tab"], apart := false, laid := [("math/bits.deBruijn32tab", laid_math_bits_deBruijn32tab), ("math/bits.deBruijn64tab", laid_math_bits_deBruijn64tab), ("internal/strconv.uint64pow10", laid_internal_strconv_uint64pow10)] }
def FnLevelFromSaid : Prop := fnLevelFromRow.holds Tryd.pinned (OpenSpec.ofChange fnLevelFromSpec)

/-- ITS FALSE NEIGHBOUR: 'it returns false'. Refute it at one input. -/
def fnLevelFromWrong : ChangeSpec := { name := "fnLevelFrom", fn := fun _ => fun
  | [d] => { results := [.lit (.bool false)], args := [d] }
  | _ => none }
def FnLevelFromWrongFalsely : Prop := fnLevelFromRow.holds Tryd.pinned (OpenSpec.ofChange fnLevelFromWrong)

/- THE SECOND FORM. 'bulk': how many values and letters a reading holds, each counted each time it is reached (what is shared counts as often as it is met; a slice's spare places count too). A statement '..UptoSaid' is the law's where the arguments, and the package variables that the reading takes, are together of bulk at most 1048576: NARROWER than '..Said'. Prove '..Said' where nothing that the law and all that it calls make is longer than what came in: it says more and counts as full. Else prove '..UptoSaid'. A law counts once. -/
mutual
def uptoBulk {H : Type} : DataW H → Nat
  | .lit (.string bytes) => bytes.length + 1
  | .lit _ => 1
  | .nil => 1
  | .ptr d => uptoBulk d + 1
  | .slice elems spare => uptoBulkAll elems + uptoBulkAll spare + 1
  | .agg parts => uptoBulkAll parts + 1
  | .iface _ d => uptoBulk d + 1
  | .map entries => uptoBulkEntries entries + 1
  | .held _ => 1
def uptoBulkAll {H : Type} : List (DataW H) → Nat
  | [] => 0
  | d :: r => uptoBulk d + uptoBulkAll r
def uptoBulkEntries {H : Type} : List (Lit × DataW H) → Nat
  | [] => 0
  | x :: r => uptoBulkEntry x + uptoBulkEntries r
def uptoBulkEntry {H : Type} : Lit × DataW H → Nat
  | (.string bytes, d) => bytes.length + uptoBulk d + 1
  | (_, d) => uptoBulk d + 1
 end
def uptoSmall : (H : Type) → List (DataW H) → Bool := fun _ ds => decide (uptoBulkAll ds ≤ 1048576)
def OpenSpec.upto (s : _root_.Go.ChangeSpec) : _root_.Go.OpenSpec := { _root_.Go.OpenSpec.ofChange s with cond := some uptoSmall }

/-- 'laws.FnExactTermText', WHERE WHAT IT READS IS OF BULK AT MOST 1048576: true; the input reads as it did. -/
def fnExactTermTextUptoRow : OpenClaim := { program := "ytpggbfpjofcgnaadoor", sum := "fa3932e5155120fc40fb78a2e65c50fd714982b2804b05bebf9be5a46d3ee02b", func := "loop.example/atomicspectra/laws.FnExactTermText", spec := "fnExactTermText", recurses := true, named := ["internal/strconv.uint64pow10", "math/bits.deBruijn32tab", "math/bits.deBruijn64tab"], apart := false, laid := [("math/bits.deBruijn32tab", laid_math_bits_deBruijn32tab), ("math/bits.deBruijn64tab", laid_math_bits_deBruijn64tab), ("internal/strconv.uint64pow10", laid_internal_strconv_uint64pow10)], narrowed := true }
def FnExactTermTextUptoSaid : Prop := fnExactTermTextUptoRow.holds Tryd.pinned (OpenSpec.upto fnExactTermTextSpec)

/-- 'laws.FnExactTermFrom', WHERE WHAT IT READS IS OF BULK AT MOST 1048576: true; the input reads as it did. -/
def fnExactTermFromUptoRow : OpenClaim := { program := "ytpggbfpjofcgnaadoor", sum := "fa3932e5155120fc40fb78a2e65c50fd714982b2804b05bebf9be5a46d3ee02b", func := "loop.example/atomicspectra/laws.FnExactTermFrom", spec := "fnExactTermFrom", inPlace := ["internal/bytealg.IndexByteString"], recurses := true, named := ["internal/strconv.uint64pow10", "math/bits.deBruijn32tab", "math/bits.deBruijn64tab"], apart := false, laid := [("math/bits.deBruijn32tab", laid_math_bits_deBruijn32tab), ("math/bits.deBruijn64tab", laid_math_bits_deBruijn64tab), ("internal/strconv.uint64pow10", laid_internal_strconv_uint64pow10)], narrowed := true }
def FnExactTermFromUptoSaid : Prop := fnExactTermFromUptoRow.holds Tryd.pinned (OpenSpec.upto fnExactTermFromSpec)

/-- 'laws.FnTermText', WHERE WHAT IT READS IS OF BULK AT MOST 1048576: true; the input reads as it did. -/
def fnTermTextUptoRow : OpenClaim := { program := "ytpggbfpjofcgnaadoor", sum := "fa3932e5155120fc40fb78a2e65c50fd714982b2804b05bebf9be5a46d3ee02b", func := "loop.example/atomicspectra/laws.FnTermText", spec := "fnTermText", inPlace := ["internal/bytealg.IndexByteString"], recurses := true, named := ["internal/strconv.uint64pow10", "math/bits.deBruijn32tab", "math/bits.deBruijn64tab"], apart := false, laid := [("math/bits.deBruijn32tab", laid_math_bits_deBruijn32tab), ("math/bits.deBruijn64tab", laid_math_bits_deBruijn64tab), ("internal/strconv.uint64pow10", laid_internal_strconv_uint64pow10)], narrowed := true }
def FnTermTextUptoSaid : Prop := fnTermTextUptoRow.holds Tryd.pinned (OpenSpec.upto fnTermTextSpec)

/-- 'laws.FnExactLevelText', WHERE WHAT IT READS IS OF BULK AT MOST 1048576: true; the input reads as it did. -/
def fnExactLevelTextUptoRow : OpenClaim := { program := "ytpggbfpjofcgnaadoor", sum := "fa3932e5155120fc40fb78a2e65c50fd714982b2804b05bebf9be5a46d3ee02b", func := "loop.example/atomicspectra/laws.FnExactLevelText", spec := "fnExactLevelText", recurses := true, named := ["internal/strconv.uint64pow10", "math/bits.deBruijn32tab", "math/bits.deBruijn64tab"], apart := false, laid := [("math/bits.deBruijn32tab", laid_math_bits_deBruijn32tab), ("math/bits.deBruijn64tab", laid_math_bits_deBruijn64tab), ("internal/strconv.uint64pow10", laid_internal_strconv_uint64pow10)], narrowed := true }
def FnExactLevelTextUptoSaid : Prop := fnExactLevelTextUptoRow.holds Tryd.pinned (OpenSpec.upto fnExactLevelTextSpec)

/-- 'laws.FnTermFrom', WHERE WHAT IT READS IS OF BULK AT MOST 1048576: true; the input reads as it did. -/
def fnTermFromUptoRow : OpenClaim := { program := "ytpggbfpjofcgnaadoor", sum := "fa3932e5155120fc40fb78a2e65c50fd714982b2804b05bebf9be5a46d3ee02b", func := "loop.example/atomicspectra/laws.FnTermFrom", spec := "fnTermFrom", inPlace := ["internal/bytealg.IndexByteString"], recurses := true, named := ["internal/strconv.uint64pow10", "math/bits.deBruijn32tab", "math/bits.deBruijn64tab"], apart := false, laid := [("math/bits.deBruijn32tab", laid_math_bits_deBruijn32tab), ("math/bits.deBruijn64tab", laid_math_bits_deBruijn64tab), ("internal/strconv.uint64pow10", laid_internal_strconv_uint64pow10)], narrowed := true }
def FnTermFromUptoSaid : Prop := fnTermFromUptoRow.holds Tryd.pinned (OpenSpec.upto fnTermFromSpec)

/-- 'laws.FnExactLevelFrom', WHERE WHAT IT READS IS OF BULK AT MOST 1048576: true; the input reads as it did. -/
def fnExactLevelFromUptoRow : OpenClaim := { program := "ytpggbfpjofcgnaadoor", sum := "fa3932e5155120fc40fb78a2e65c50fd714982b2804b05bebf9be5a46d3ee02b", func := "loop.example/atomicspectra/laws.FnExactLevelFrom", spec := "fnExactLevelFrom", inPlace := ["internal/bytealg.IndexByteString"], recurses := true, named := ["internal/strconv.uint64pow10", "math/bits.deBruijn32tab", "math/bits.deBruijn64tab"], apart := false, laid := [("math/bits.deBruijn32tab", laid_math_bits_deBruijn32tab), ("math/bits.deBruijn64tab", laid_math_bits_deBruijn64tab), ("internal/strconv.uint64pow10", laid_internal_strconv_uint64pow10)], narrowed := true }
def FnExactLevelFromUptoSaid : Prop := fnExactLevelFromUptoRow.holds Tryd.pinned (OpenSpec.upto fnExactLevelFromSpec)

/-- 'laws.FnLevelText', WHERE WHAT IT READS IS OF BULK AT MOST 1048576: true; the input reads as it did. -/
def fnLevelTextUptoRow : OpenClaim := { program := "ytpggbfpjofcgnaadoor", sum := "fa3932e5155120fc40fb78a2e65c50fd714982b2804b05bebf9be5a46d3ee02b", func := "loop.example/atomicspectra/laws.FnLevelText", spec := "fnLevelText", inPlace := ["internal/bytealg.IndexByteString"], recurses := true, named := ["internal/strconv.uint64pow10", "math/bits.deBruijn32tab", "math/bits.deBruijn64tab"], apart := false, laid := [("math/bits.deBruijn32tab", laid_math_bits_deBruijn32tab), ("math/bits.deBruijn64tab", laid_math_bits_deBruijn64tab), ("internal/strconv.uint64pow10", laid_internal_strconv_uint64pow10)], narrowed := true }
def FnLevelTextUptoSaid : Prop := fnLevelTextUptoRow.holds Tryd.pinned (OpenSpec.upto fnLevelTextSpec)

/-- 'laws.FnLevelFrom', WHERE WHAT IT READS IS OF BULK AT MOST 1048576: true; the input reads as it did. -/
def fnLevelFromUptoRow : OpenClaim := { program := "ytpggbfpjofcgnaadoor", sum := "fa3932e5155120fc40fb78a2e65c50fd714982b2804b05bebf9be5a46d3ee02b", func := "loop.example/atomicspectra/laws.FnLevelFrom", spec := "fnLevelFrom", inPlace := ["internal/bytealg.IndexByteString"], recurses := true, named := ["internal/strconv.uint64pow10", "math/bits.deBruijn32tab", "math/bits.deBruijn64tab"], apart := false, laid := [("math/bits.deBruijn32tab", laid_math_bits_deBruijn32tab), ("math/bits.deBruijn64tab", laid_math_bits_deBruijn64tab), ("internal/strconv.uint64pow10", laid_internal_strconv_uint64pow10)], narrowed := true }
def FnLevelFromUptoSaid : Prop := fnLevelFromUptoRow.holds Tryd.pinned (OpenSpec.upto fnLevelFromSpec)

end Rows
end Go.Proofs.YtpggbfpjofcgnaaDoor
