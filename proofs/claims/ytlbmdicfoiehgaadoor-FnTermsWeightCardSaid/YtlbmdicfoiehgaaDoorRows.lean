/-
  NARROWER THAN 'FOR EVERY INPUT', by the rows' own cells (each row's printed sentence says how): FnTermCountNone: laid · FnTermCount: laid · FnExactTermsOf: laid · FnTermsHoles: laid · FnTermsParity: laid · FnTermsTwo: laid · FnTermsMicro: laid · FnTermsNumber: laid · FnTermsOf: laid · FnTermsWeight: laid.
  DERIVED. THE GIVEN ROWS OF THIS SEAT. 10 by the template 'for every input the law returns true; each argument reads behind the call as it read before'; 0 by the template 'total and deterministic' (their statements: YtlbmdicfoiehgaaDoorTotals.lean).
  GIVEN WITH THE SEED: the statements are not yours to turn. If you find one false, say at which input.
  Laid BY PROGRAM, IN A SANDBOX (cutbox-rows.mjs): the forced cells as the released guide's own fill.sh prints them over the translation 427c5e4041d564d4… (all of the seat's roots in one cut). By AI agents, Wed Nov 11 2026. No macro, syntax, notation, axiom, sorry.
-/
import Derived.Test.YtlbmdicfoiehgaaDoorChecked
import GoSem.Claim
import GoSem.ClaimJoined
import GoSem.ClaimMapViews
import Derived.JoinedTies
import Derived.KernelRfl
namespace Go.Proofs.YtlbmdicfoiehgaaDoor
/- THE CELL 'sum', in the pinned program and in every row, IS THE sha256 OF THE DUMP (.gsa) THAT YtlbmdicfoiehgaaDoorProg.lean LOADS. Nothing in Lean hashes anything: it is a label: what it is worth is what the hold of that sum in a sandbox is worth. -/
noncomputable def Tryd.pinned : Pinned := { name := "ytlbmdicfoiehgaadoor", sum := "427c5e4041d564d4e9360884c0be4d04092323f166c9d57b3bfa210f1203a2b2", checked := Tryd.checked }
namespace Rows
def none {H : Type} : Left H := { results := [], args := [] }

/- WHAT THE LISTED PACKAGE-LEVEL VARIABLES READ AS WHEN THE CALL BEGINS. Each datum BY PROGRAM (the guide's laid-datum.mjs) off the statement by which the dump's own 'gosem.cut.vars' lays the variable. In a bare row this is a premise. The card (YtlbmdicfoiehgaaDoorCards.lean) ties it to the program's text. -/
def laid_math_bits_deBruijn32tab {H : Type} : DataW H := .agg [.lit (.int .u8 0), .lit (.int .u8 1), .lit (.int .u8 28), .lit (.int .u8 2), .lit (.int .u8 29), .lit (.int .u8 14), .lit (.int .u8 24), .lit (.int .u8 3), .lit (.int .u8 30), .lit (.int .u8 22), .lit (.int .u8 20), .lit (.int .u8 15), .lit (.int .u8 25), .lit (.int .u8 17), .lit (.int .u8 4), .lit (.int .u8 8), .lit (.int .u8 31), .lit (.int .u8 27), .lit (.int .u8 13), .lit (.int .u8 23), .lit (.int .u8 21), .lit (.int .u8 19), .lit (.int .u8 16), .lit (.int .u8 7), .lit (.int .u8 26), .lit (.int .u8 12), .lit (.int .u8 18), .lit (.int .u8 6), .lit (.int .u8 11), .lit (.int .u8 5), .lit (.int .u8 10), .lit (.int .u8 9)]
def laid_math_bits_deBruijn64tab {H : Type} : DataW H := .agg [.lit (.int .u8 0), .lit (.int .u8 1), .lit (.int .u8 56), .lit (.int .u8 2), .lit (.int .u8 57), .lit (.int .u8 49), .lit (.int .u8 28), .lit (.int .u8 3), .lit (.int .u8 61), .lit (.int .u8 58), .lit (.int .u8 42), .lit (.int .u8 50), .lit (.int .u8 38), .lit (.int .u8 29), .lit (.int .u8 17), .lit (.int .u8 4), .lit (.int .u8 62), .lit (.int .u8 47), .lit (.int .u8 59), .lit (.int .u8 36), .lit (.int .u8 45), .lit (.int .u8 43), .lit (.int .u8 51), .lit (.int .u8 22), .lit (.int .u8 53), .lit (.int .u8 39), .lit (.int .u8 33), .lit (.int .u8 30), .lit (.int .u8 24), .lit (.int .u8 18), .lit (.int .u8 12), .lit (.int .u8 5), .lit (.int .u8 63), .lit (.int .u8 55), .lit (.int .u8 48), .lit (.int .u8 27), .lit (.int .u8 60), .lit (.int .u8 41), .lit (.int .u8 37), .lit (.int .u8 16), .lit (.int .u8 46), .lit (.int .u8 35), .lit (.int .u8 44), .lit (.int .u8 21), .lit (.int .u8 52), .lit (.int .u8 32), .lit (.int .u8 23), .lit (.int .u8 11), .lit (.int .u8 54), .lit (.int .u8 26), .lit (.int .u8 40), .lit (.int .u8 15), .lit (.int .u8 34), .lit (.int .u8 20), .lit (.int .u8 31), .lit (.int .u8 10), .lit (.int .u8 25), .lit (.int .u8 14), .lit (.int .u8 19), .lit (.int .u8 9), .lit (.int .u8 13), .lit (.int .u8 8), .lit (.int .u8 7), .lit (.int .u8 6)]

/-- 'laws.FnTermCountNone': WHATEVER THE INPUT: true; the input reads as it did. -/
def fnTermCountNoneSpec : ChangeSpec := { name := "fnTermCountNone", fn := fun _ => fun
  | [d] => { results := [.lit (.bool true)], args := [d] }
  | _ => none }
def fnTermCountNoneRow : OpenClaim := { program := "ytlbmdicfoiehgaadoor", sum := "427c5e4041d564d4e9360884c0be4d04092323f166c9d57b3bfa210f1203a2b2", func := "loop.example/atomicspectra/laws.FnTermCountNone", spec := "fnTermCountNone", recurses := true, named := ["math/bits.deBruijn32tab", "math/bits.deBruijn64tab"], plainKeys := false, apart := false, laid := [("math/bits.deBruijn32tab", laid_math_bits_deBruijn32tab), ("math/bits.deBruijn64tab", laid_math_bits_deBruijn64tab)] }
def FnTermCountNoneSaid : Prop := fnTermCountNoneRow.holds Tryd.pinned (OpenSpec.ofChange fnTermCountNoneSpec)

/-- ITS FALSE NEIGHBOUR: 'it returns false'. Refute it at one input. -/
def fnTermCountNoneWrong : ChangeSpec := { name := "fnTermCountNone", fn := fun _ => fun
  | [d] => { results := [.lit (.bool false)], args := [d] }
  | _ => none }
def FnTermCountNoneWrongFalsely : Prop := fnTermCountNoneRow.holds Tryd.pinned (OpenSpec.ofChange fnTermCountNoneWrong)

/-- 'laws.FnTermCount': WHATEVER THE INPUT: true; the input reads as it did. -/
def fnTermCountSpec : ChangeSpec := { name := "fnTermCount", fn := fun _ => fun
  | [d] => { results := [.lit (.bool true)], args := [d] }
  | _ => none }
def fnTermCountRow : OpenClaim := { program := "ytlbmdicfoiehgaadoor", sum := "427c5e4041d564d4e9360884c0be4d04092323f166c9d57b3bfa210f1203a2b2", func := "loop.example/atomicspectra/laws.FnTermCount", spec := "fnTermCount", recurses := true, named := ["math/bits.deBruijn32tab", "math/bits.deBruijn64tab"], plainKeys := false, apart := false, laid := [("math/bits.deBruijn32tab", laid_math_bits_deBruijn32tab), ("math/bits.deBruijn64tab", laid_math_bits_deBruijn64tab)] }
def FnTermCountSaid : Prop := fnTermCountRow.holds Tryd.pinned (OpenSpec.ofChange fnTermCountSpec)

/-- ITS FALSE NEIGHBOUR: 'it returns false'. Refute it at one input. -/
def fnTermCountWrong : ChangeSpec := { name := "fnTermCount", fn := fun _ => fun
  | [d] => { results := [.lit (.bool false)], args := [d] }
  | _ => none }
def FnTermCountWrongFalsely : Prop := fnTermCountRow.holds Tryd.pinned (OpenSpec.ofChange fnTermCountWrong)

/-- 'laws.FnExactTermsOf': WHATEVER THE INPUT: true; the input reads as it did. -/
def fnExactTermsOfSpec : ChangeSpec := { name := "fnExactTermsOf", fn := fun _ => fun
  | [d1, d2] => { results := [.lit (.bool true)], args := [d1, d2] }
  | _ => none }
def fnExactTermsOfRow : OpenClaim := { program := "ytlbmdicfoiehgaadoor", sum := "427c5e4041d564d4e9360884c0be4d04092323f166c9d57b3bfa210f1203a2b2", func := "loop.example/atomicspectra/laws.FnExactTermsOf", spec := "fnExactTermsOf", unfollowed := true, recurses := true, named := ["math/bits.deBruijn32tab", "math/bits.deBruijn64tab"], plainKeys := false, apart := false, laid := [("math/bits.deBruijn32tab", laid_math_bits_deBruijn32tab), ("math/bits.deBruijn64tab", laid_math_bits_deBruijn64tab)] }
def FnExactTermsOfSaid : Prop := fnExactTermsOfRow.holds Tryd.pinned (OpenSpec.ofChange fnExactTermsOfSpec)

/-- ITS FALSE NEIGHBOUR: 'it returns false'. Refute it at one input. -/
def fnExactTermsOfWrong : ChangeSpec := { name := "fnExactTermsOf", fn := fun _ => fun
  | [d1, d2] => { results := [.lit (.bool false)], args := [d1, d2] }
  | _ => none }
def FnExactTermsOfWrongFalsely : Prop := fnExactTermsOfRow.holds Tryd.pinned (OpenSpec.ofChange fnExactTermsOfWrong)

/-- 'laws.FnTermsHoles': WHATEVER THE INPUT: true; the input reads as it did. -/
def fnTermsHolesSpec : ChangeSpec := { name := "fnTermsHoles", fn := fun _ => fun
  | [d] => { results := [.lit (.bool true)], args := [d] }
  | _ => none }
def fnTermsHolesRow : OpenClaim := { program := "ytlbmdicfoiehgaadoor", sum := "427c5e4041d564d4e9360884c0be4d04092323f166c9d57b3bfa210f1203a2b2", func := "loop.example/atomicspectra/laws.FnTermsHoles", spec := "fnTermsHoles", unfollowed := true, recurses := true, named := ["math/bits.deBruijn32tab", "math/bits.deBruijn64tab"], plainKeys := false, apart := false, laid := [("math/bits.deBruijn32tab", laid_math_bits_deBruijn32tab), ("math/bits.deBruijn64tab", laid_math_bits_deBruijn64tab)] }
def FnTermsHolesSaid : Prop := fnTermsHolesRow.holds Tryd.pinned (OpenSpec.ofChange fnTermsHolesSpec)

/-- ITS FALSE NEIGHBOUR: 'it returns false'. Refute it at one input. -/
def fnTermsHolesWrong : ChangeSpec := { name := "fnTermsHoles", fn := fun _ => fun
  | [d] => { results := [.lit (.bool false)], args := [d] }
  | _ => none }
def FnTermsHolesWrongFalsely : Prop := fnTermsHolesRow.holds Tryd.pinned (OpenSpec.ofChange fnTermsHolesWrong)

/-- 'laws.FnTermsParity': WHATEVER THE INPUT: true; the input reads as it did. -/
def fnTermsParitySpec : ChangeSpec := { name := "fnTermsParity", fn := fun _ => fun
  | [d] => { results := [.lit (.bool true)], args := [d] }
  | _ => none }
def fnTermsParityRow : OpenClaim := { program := "ytlbmdicfoiehgaadoor", sum := "427c5e4041d564d4e9360884c0be4d04092323f166c9d57b3bfa210f1203a2b2", func := "loop.example/atomicspectra/laws.FnTermsParity", spec := "fnTermsParity", unfollowed := true, recurses := true, named := ["math/bits.deBruijn32tab", "math/bits.deBruijn64tab"], plainKeys := false, apart := false, laid := [("math/bits.deBruijn32tab", laid_math_bits_deBruijn32tab), ("math/bits.deBruijn64tab", laid_math_bits_deBruijn64tab)] }
def FnTermsParitySaid : Prop := fnTermsParityRow.holds Tryd.pinned (OpenSpec.ofChange fnTermsParitySpec)

/-- ITS FALSE NEIGHBOUR: 'it returns false'. Refute it at one input. -/
def fnTermsParityWrong : ChangeSpec := { name := "fnTermsParity", fn := fun _ => fun
  | [d] => { results := [.lit (.bool false)], args := [d] }
  | _ => none }
def FnTermsParityWrongFalsely : Prop := fnTermsParityRow.holds Tryd.pinned (OpenSpec.ofChange fnTermsParityWrong)

/-- 'laws.FnTermsTwo': WHATEVER THE INPUT: true; the input reads as it did. -/
def fnTermsTwoSpec : ChangeSpec := { name := "fnTermsTwo", fn := fun _ => fun
  | [d] => { results := [.lit (.bool true)], args := [d] }
  | _ => none }
def fnTermsTwoRow : OpenClaim := { program := "ytlbmdicfoiehgaadoor", sum := "427c5e4041d564d4e9360884c0be4d04092323f166c9d57b3bfa210f1203a2b2", func := "loop.example/atomicspectra/laws.FnTermsTwo", spec := "fnTermsTwo", unfollowed := true, recurses := true, named := ["math/bits.deBruijn32tab", "math/bits.deBruijn64tab"], plainKeys := false, apart := false, laid := [("math/bits.deBruijn32tab", laid_math_bits_deBruijn32tab), ("math/bits.deBruijn64tab", laid_math_bits_deBruijn64tab)] }
def FnTermsTwoSaid : Prop := fnTermsTwoRow.holds Tryd.pinned (OpenSpec.ofChange fnTermsTwoSpec)

/-- ITS FALSE NEIGHBOUR: 'it returns false'. Refute it at one input. -/
def fnTermsTwoWrong : ChangeSpec := { name := "fnTermsTwo", fn := fun _ => fun
  | [d] => { results := [.lit (.bool false)], args := [d] }
  | _ => none }
def FnTermsTwoWrongFalsely : Prop := fnTermsTwoRow.holds Tryd.pinned (OpenSpec.ofChange fnTermsTwoWrong)

/-- 'laws.FnTermsMicro': WHATEVER THE INPUT: true; the input reads as it did. -/
def fnTermsMicroSpec : ChangeSpec := { name := "fnTermsMicro", fn := fun _ => fun
  | [d1, d2] => { results := [.lit (.bool true)], args := [d1, d2] }
  | _ => none }
def fnTermsMicroRow : OpenClaim := { program := "ytlbmdicfoiehgaadoor", sum := "427c5e4041d564d4e9360884c0be4d04092323f166c9d57b3bfa210f1203a2b2", func := "loop.example/atomicspectra/laws.FnTermsMicro", spec := "fnTermsMicro", unfollowed := true, recurses := true, named := ["math/bits.deBruijn32tab", "math/bits.deBruijn64tab"], plainKeys := false, apart := false, laid := [("math/bits.deBruijn32tab", laid_math_bits_deBruijn32tab), ("math/bits.deBruijn64tab", laid_math_bits_deBruijn64tab)] }
def FnTermsMicroSaid : Prop := fnTermsMicroRow.holds Tryd.pinned (OpenSpec.ofChange fnTermsMicroSpec)

/-- ITS FALSE NEIGHBOUR: 'it returns false'. Refute it at one input. -/
def fnTermsMicroWrong : ChangeSpec := { name := "fnTermsMicro", fn := fun _ => fun
  | [d1, d2] => { results := [.lit (.bool false)], args := [d1, d2] }
  | _ => none }
def FnTermsMicroWrongFalsely : Prop := fnTermsMicroRow.holds Tryd.pinned (OpenSpec.ofChange fnTermsMicroWrong)

/-- 'laws.FnTermsNumber': WHATEVER THE INPUT: true; the input reads as it did. -/
def fnTermsNumberSpec : ChangeSpec := { name := "fnTermsNumber", fn := fun _ => fun
  | [d] => { results := [.lit (.bool true)], args := [d] }
  | _ => none }
def fnTermsNumberRow : OpenClaim := { program := "ytlbmdicfoiehgaadoor", sum := "427c5e4041d564d4e9360884c0be4d04092323f166c9d57b3bfa210f1203a2b2", func := "loop.example/atomicspectra/laws.FnTermsNumber", spec := "fnTermsNumber", unfollowed := true, recurses := true, named := ["math/bits.deBruijn32tab", "math/bits.deBruijn64tab"], plainKeys := false, apart := false, laid := [("math/bits.deBruijn32tab", laid_math_bits_deBruijn32tab), ("math/bits.deBruijn64tab", laid_math_bits_deBruijn64tab)] }
def FnTermsNumberSaid : Prop := fnTermsNumberRow.holds Tryd.pinned (OpenSpec.ofChange fnTermsNumberSpec)

/-- ITS FALSE NEIGHBOUR: 'it returns false'. Refute it at one input. -/
def fnTermsNumberWrong : ChangeSpec := { name := "fnTermsNumber", fn := fun _ => fun
  | [d] => { results := [.lit (.bool false)], args := [d] }
  | _ => none }
def FnTermsNumberWrongFalsely : Prop := fnTermsNumberRow.holds Tryd.pinned (OpenSpec.ofChange fnTermsNumberWrong)

/-- 'laws.FnTermsOf': WHATEVER THE INPUT: true; the input reads as it did. -/
def fnTermsOfSpec : ChangeSpec := { name := "fnTermsOf", fn := fun _ => fun
  | [d] => { results := [.lit (.bool true)], args := [d] }
  | _ => none }
def fnTermsOfRow : OpenClaim := { program := "ytlbmdicfoiehgaadoor", sum := "427c5e4041d564d4e9360884c0be4d04092323f166c9d57b3bfa210f1203a2b2", func := "loop.example/atomicspectra/laws.FnTermsOf", spec := "fnTermsOf", unfollowed := true, recurses := true, named := ["math/bits.deBruijn32tab", "math/bits.deBruijn64tab"], plainKeys := false, apart := false, laid := [("math/bits.deBruijn32tab", laid_math_bits_deBruijn32tab), ("math/bits.deBruijn64tab", laid_math_bits_deBruijn64tab)] }
def FnTermsOfSaid : Prop := fnTermsOfRow.holds Tryd.pinned (OpenSpec.ofChange fnTermsOfSpec)

/-- ITS FALSE NEIGHBOUR: 'it returns false'. Refute it at one input. -/
def fnTermsOfWrong : ChangeSpec := { name := "fnTermsOf", fn := fun _ => fun
  | [d] => { results := [.lit (.bool false)], args := [d] }
  | _ => none }
def FnTermsOfWrongFalsely : Prop := fnTermsOfRow.holds Tryd.pinned (OpenSpec.ofChange fnTermsOfWrong)

/-- 'laws.FnTermsWeight': WHATEVER THE INPUT: true; the input reads as it did. -/
def fnTermsWeightSpec : ChangeSpec := { name := "fnTermsWeight", fn := fun _ => fun
  | [d] => { results := [.lit (.bool true)], args := [d] }
  | _ => none }
def fnTermsWeightRow : OpenClaim := { program := "ytlbmdicfoiehgaadoor", sum := "427c5e4041d564d4e9360884c0be4d04092323f166c9d57b3bfa210f1203a2b2", func := "loop.example/atomicspectra/laws.FnTermsWeight", spec := "fnTermsWeight", unfollowed := true, recurses := true, named := ["math/bits.deBruijn32tab", "math/bits.deBruijn64tab"], plainKeys := false, apart := false, laid := [("math/bits.deBruijn32tab", laid_math_bits_deBruijn32tab), ("math/bits.deBruijn64tab", laid_math_bits_deBruijn64tab)] }
def FnTermsWeightSaid : Prop := fnTermsWeightRow.holds Tryd.pinned (OpenSpec.ofChange fnTermsWeightSpec)

/-- ITS FALSE NEIGHBOUR: 'it returns false'. Refute it at one input. -/
def fnTermsWeightWrong : ChangeSpec := { name := "fnTermsWeight", fn := fun _ => fun
  | [d] => { results := [.lit (.bool false)], args := [d] }
  | _ => none }
def FnTermsWeightWrongFalsely : Prop := fnTermsWeightRow.holds Tryd.pinned (OpenSpec.ofChange fnTermsWeightWrong)

/- THE SECOND FORM. 'bulk': how many values and letters a reading holds, each counted each time it is reached (what is shared counts as often as it is met; a slice's spare places count too). A statement '..UptoSaid' is the law's where the arguments, and the package variables that the reading takes, are together of bulk at most 1048576: NARROWER than '..Said'. Prove '..Said' where nothing that the law and all that it calls make is longer than what came in: it says more and counts as full. Else prove '..UptoSaid'. A law counts once. -/
mutual
def uptoBulk {H : Type} : DataW H → Nat
  | .lit (.string bytes) => bytes.length + 1
  | .lit _ => 1
  | .nil => 1
  | .ptr d => uptoBulk d + 1
  | .slice elems spare => uptoBulkAll elems + uptoBulkAll spare + 1
  | .agg parts => uptoBulkAll parts + 1
  | .iface _ d => uptoBulk d + 1
  | .map entries => uptoBulkEntries entries + 1
  | .held _ => 1
def uptoBulkAll {H : Type} : List (DataW H) → Nat
  | [] => 0
  | d :: r => uptoBulk d + uptoBulkAll r
def uptoBulkEntries {H : Type} : List (Lit × DataW H) → Nat
  | [] => 0
  | x :: r => uptoBulkEntry x + uptoBulkEntries r
def uptoBulkEntry {H : Type} : Lit × DataW H → Nat
  | (.string bytes, d) => bytes.length + uptoBulk d + 1
  | (_, d) => uptoBulk d + 1
 end
def uptoSmall : (H : Type) → List (DataW H) → Bool := fun _ ds => decide (uptoBulkAll ds ≤ 1048576)
def OpenSpec.upto (s : _root_.Go.ChangeSpec) : _root_.Go.OpenSpec := { _root_.Go.OpenSpec.ofChange s with cond := some uptoSmall }

/-- 'laws.FnTermCountNone', WHERE WHAT IT READS IS OF BULK AT MOST 1048576: true; the input reads as it did. -/
def fnTermCountNoneUptoRow : OpenClaim := { program := "ytlbmdicfoiehgaadoor", sum := "427c5e4041d564d4e9360884c0be4d04092323f166c9d57b3bfa210f1203a2b2", func := "loop.example/atomicspectra/laws.FnTermCountNone", spec := "fnTermCountNone", recurses := true, named := ["math/bits.deBruijn32tab", "math/bits.deBruijn64tab"], plainKeys := false, apart := false, laid := [("math/bits.deBruijn32tab", laid_math_bits_deBruijn32tab), ("math/bits.deBruijn64tab", laid_math_bits_deBruijn64tab)], narrowed := true }
def FnTermCountNoneUptoSaid : Prop := fnTermCountNoneUptoRow.holds Tryd.pinned (OpenSpec.upto fnTermCountNoneSpec)

/-- 'laws.FnTermCount', WHERE WHAT IT READS IS OF BULK AT MOST 1048576: true; the input reads as it did. -/
def fnTermCountUptoRow : OpenClaim := { program := "ytlbmdicfoiehgaadoor", sum := "427c5e4041d564d4e9360884c0be4d04092323f166c9d57b3bfa210f1203a2b2", func := "loop.example/atomicspectra/laws.FnTermCount", spec := "fnTermCount", recurses := true, named := ["math/bits.deBruijn32tab", "math/bits.deBruijn64tab"], plainKeys := false, apart := false, laid := [("math/bits.deBruijn32tab", laid_math_bits_deBruijn32tab), ("math/bits.deBruijn64tab", laid_math_bits_deBruijn64tab)], narrowed := true }
def FnTermCountUptoSaid : Prop := fnTermCountUptoRow.holds Tryd.pinned (OpenSpec.upto fnTermCountSpec)

/-- 'laws.FnExactTermsOf', WHERE WHAT IT READS IS OF BULK AT MOST 1048576: true; the input reads as it did. -/
def fnExactTermsOfUptoRow : OpenClaim := { program := "ytlbmdicfoiehgaadoor", sum := "427c5e4041d564d4e9360884c0be4d04092323f166c9d57b3bfa210f1203a2b2", func := "loop.example/atomicspectra/laws.FnExactTermsOf", spec := "fnExactTermsOf", unfollowed := true, recurses := true, named := ["math/bits.deBruijn32tab", "math/bits.deBruijn64tab"], plainKeys := false, apart := false, laid := [("math/bits.deBruijn32tab", laid_math_bits_deBruijn32tab), ("math/bits.deBruijn64tab", laid_math_bits_deBruijn64tab)], narrowed := true }
def FnExactTermsOfUptoSaid : Prop := fnExactTermsOfUptoRow.holds Tryd.pinned (OpenSpec.upto fnExactTermsOfSpec)

/-- 'laws.FnTermsHoles', WHERE WHAT IT READS IS OF BULK AT MOST 1048576: true; the input reads as it did. -/
def fnTermsHolesUptoRow : OpenClaim := { program := "ytlbmdicfoiehgaadoor", sum := "427c5e4041d564d4e9360884c0be4d04092323f166c9d57b3bfa210f1203a2b2", func := "loop.example/atomicspectra/laws.FnTermsHoles", spec := "fnTermsHoles", unfollowed := true, recurses := true, named := ["math/bits.deBruijn32tab", "math/bits.deBruijn64tab"], plainKeys := false, apart := false, laid := [("math/bits.deBruijn32tab", laid_math_bits_deBruijn32tab), ("math/bits.deBruijn64tab", laid_math_bits_deBruijn64tab)], narrowed := true }
def FnTermsHolesUptoSaid : Prop := fnTermsHolesUptoRow.holds Tryd.pinned (OpenSpec.upto fnTermsHolesSpec)

/-- 'laws.FnTermsParity', WHERE WHAT IT READS IS OF BULK AT MOST 1048576: true; the input reads as it did. -/
def fnTermsParityUptoRow : OpenClaim := { program := "ytlbmdicfoiehgaadoor", sum := "427c5e4041d564d4e9360884c0be4d04092323f166c9d57b3bfa210f1203a2b2", func := "loop.example/atomicspectra/laws.FnTermsParity", spec := "fnTermsParity", unfollowed := true, recurses := true, named := ["math/bits.deBruijn32tab", "math/bits.deBruijn64tab"], plainKeys := false, apart := false, laid := [("math/bits.deBruijn32tab", laid_math_bits_deBruijn32tab), ("math/bits.deBruijn64tab", laid_math_bits_deBruijn64tab)], narrowed := true }
def FnTermsParityUptoSaid : Prop := fnTermsParityUptoRow.holds Tryd.pinned (OpenSpec.upto fnTermsParitySpec)

/-- 'laws.FnTermsTwo', WHERE WHAT IT READS IS OF BULK AT MOST 1048576: true; the input reads as it did. -/
def fnTermsTwoUptoRow : OpenClaim := { program := "ytlbmdicfoiehgaadoor", sum := "427c5e4041d564d4e9360884c0be4d04092323f166c9d57b3bfa210f1203a2b2", func := "loop.example/atomicspectra/laws.FnTermsTwo", spec := "fnTermsTwo", unfollowed := true, recurses := true, named := ["math/bits.deBruijn32tab", "math/bits.deBruijn64tab"], plainKeys := false, apart := false, laid := [("math/bits.deBruijn32tab", laid_math_bits_deBruijn32tab), ("math/bits.deBruijn64tab", laid_math_bits_deBruijn64tab)], narrowed := true }
def FnTermsTwoUptoSaid : Prop := fnTermsTwoUptoRow.holds Tryd.pinned (OpenSpec.upto fnTermsTwoSpec)

/-- 'laws.FnTermsMicro', WHERE WHAT IT READS IS OF BULK AT MOST 1048576: true; the input reads as it did. -/
def fnTermsMicroUptoRow : OpenClaim := { program := "ytlbmdicfoiehgaadoor", sum := "427c5e4041d564d4e9360884c0be4d04092323f166c9d57b3bfa210f1203a2b2", func := "loop.example/atomicspectra/laws.FnTermsMicro", spec := "fnTermsMicro", unfollowed := true, recurses := true, named := ["math/bits.deBruijn32tab", "math/bits.deBruijn64tab"], plainKeys := false, apart := false, laid := [("math/bits.deBruijn32tab", laid_math_bits_deBruijn32tab), ("math/bits.deBruijn64tab", laid_math_bits_deBruijn64tab)], narrowed := true }
def FnTermsMicroUptoSaid : Prop := fnTermsMicroUptoRow.holds Tryd.pinned (OpenSpec.upto fnTermsMicroSpec)

/-- 'laws.FnTermsNumber', WHERE WHAT IT READS IS OF BULK AT MOST 1048576: true; the input reads as it did. -/
def fnTermsNumberUptoRow : OpenClaim := { program := "ytlbmdicfoiehgaadoor", sum := "427c5e4041d564d4e9360884c0be4d04092323f166c9d57b3bfa210f1203a2b2", func := "loop.example/atomicspectra/laws.FnTermsNumber", spec := "fnTermsNumber", unfollowed := true, recurses := true, named := ["math/bits.deBruijn32tab", "math/bits.deBruijn64tab"], plainKeys := false, apart := false, laid := [("math/bits.deBruijn32tab", laid_math_bits_deBruijn32tab), ("math/bits.deBruijn64tab", laid_math_bits_deBruijn64tab)], narrowed := true }
def FnTermsNumberUptoSaid : Prop := fnTermsNumberUptoRow.holds Tryd.pinned (OpenSpec.upto fnTermsNumberSpec)

/-- 'laws.FnTermsOf', WHERE WHAT IT READS IS OF BULK AT MOST 1048576: true; the input reads as it did. -/
def fnTermsOfUptoRow : OpenClaim := { program := "ytlbmdicfoiehgaadoor", sum := "427c5e4041d564d4e9360884c0be4d04092323f166c9d57b3bfa210f1203a2b2", func := "loop.example/atomicspectra/laws.FnTermsOf", spec := "fnTermsOf", unfollowed := true, recurses := true, named := ["math/bits.deBruijn32tab", "math/bits.deBruijn64tab"], plainKeys := false, apart := false, laid := [("math/bits.deBruijn32tab", laid_math_bits_deBruijn32tab), ("math/bits.deBruijn64tab", laid_math_bits_deBruijn64tab)], narrowed := true }
def FnTermsOfUptoSaid : Prop := fnTermsOfUptoRow.holds Tryd.pinned (OpenSpec.upto fnTermsOfSpec)

/-- 'laws.FnTermsWeight', WHERE WHAT IT READS IS OF BULK AT MOST 1048576: true; the input reads as it did. -/
def fnTermsWeightUptoRow : OpenClaim := { program := "ytlbmdicfoiehgaadoor", sum := "427c5e4041d564d4e9360884c0be4d04092323f166c9d57b3bfa210f1203a2b2", func := "loop.example/atomicspectra/laws.FnTermsWeight", spec := "fnTermsWeight", unfollowed := true, recurses := true, named := ["math/bits.deBruijn32tab", "math/bits.deBruijn64tab"], plainKeys := false, apart := false, laid := [("math/bits.deBruijn32tab", laid_math_bits_deBruijn32tab), ("math/bits.deBruijn64tab", laid_math_bits_deBruijn64tab)], narrowed := true }
def FnTermsWeightUptoSaid : Prop := fnTermsWeightUptoRow.holds Tryd.pinned (OpenSpec.upto fnTermsWeightSpec)

end Rows
end Go.Proofs.YtlbmdicfoiehgaaDoor
