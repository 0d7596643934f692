/-
  NARROWER THAN 'FOR EVERY INPUT', by the rows' own cells (each row's printed sentence says how): FnConfigTermsOpen: laid · FnConfigTerms: laid · FnExactTermsConfig: laid · FnConfigTermsHoles: laid · FnConfigTermsNumber: laid · FnConfigTermsOne: laid.
  DERIVED. THE GIVEN ROWS OF THIS SEAT. 6 by the template 'for every input the law returns true; each argument reads behind the call as it read before'; 0 by the template 'total and deterministic' (their statements: YtjopcpoodhamcaaDoorTotals.lean).
  GIVEN WITH THE SEED: the statements are not yours to turn. If you find one false, say at which input.
  Laid BY PROGRAM, IN A SANDBOX (cutbox-rows.mjs): the forced cells as the released guide's own fill.sh prints them over the translation a00f6b5612b85c30… (all of the seat's roots in one cut). By AI agents, Wed Nov 11 2026. No macro, syntax, notation, axiom, sorry.
-/
import Derived.Test.YtjopcpoodhamcaaDoorChecked
import GoSem.Claim
import GoSem.ClaimJoined
import GoSem.ClaimMapViews
import Derived.JoinedTies
import Derived.KernelRfl
namespace Go.Proofs.YtjopcpoodhamcaaDoor
/- THE CELL 'sum', in the pinned program and in every row, IS THE sha256 OF THE DUMP (.gsa) THAT YtjopcpoodhamcaaDoorProg.lean LOADS. Nothing in Lean hashes anything: it is a label: what it is worth is what the hold of that sum in a sandbox is worth. -/
noncomputable def Tryd.pinned : Pinned := { name := "ytjopcpoodhamcaadoor", sum := "a00f6b5612b85c3018cab8bc21db28931f40aa75ba503ae1acf2c216cc5044d0", checked := Tryd.checked }
namespace Rows
def none {H : Type} : Left H := { results := [], args := [] }

/- WHAT THE LISTED PACKAGE-LEVEL VARIABLES READ AS WHEN THE CALL BEGINS. Each datum BY PROGRAM (the guide's laid-datum.mjs) off the statement by which the dump's own 'gosem.cut.vars' lays the variable. In a bare row this is a premise. The card (YtjopcpoodhamcaaDoorCards.lean) ties it to the program's text. -/
def laid_math_bits_deBruijn32tab {H : Type} : DataW H := .agg [.lit (.int .u8 0), .lit (.int .u8 1), .lit (.int .u8 28), .lit (.int .u8 2), .lit (.int .u8 29), .lit (.int .u8 14), .lit (.int .u8 24), .lit (.int .u8 3), .lit (.int .u8 30), .lit (.int .u8 22), .lit (.int .u8 20), .lit (.int .u8 15), .lit (.int .u8 25), .lit (.int .u8 17), .lit (.int .u8 4), .lit (.int .u8 8), .lit (.int .u8 31), .lit (.int .u8 27), .lit (.int .u8 13), .lit (.int .u8 23), .lit (.int .u8 21), .lit (.int .u8 19), .lit (.int .u8 16), .lit (.int .u8 7), .lit (.int .u8 26), .lit (.int .u8 12), .lit (.int .u8 18), .lit (.int .u8 6), .lit (.int .u8 11), .lit (.int .u8 5), .lit (.int .u8 10), .lit (.int .u8 9)]
def laid_math_bits_deBruijn64tab {H : Type} : DataW H := .agg [.lit (.int .u8 0), .lit (.int .u8 1), .lit (.int .u8 56), .lit (.int .u8 2), .lit (.int .u8 57), .lit (.int .u8 49), .lit (.int .u8 28), .lit (.int .u8 3), .lit (.int .u8 61), .lit (.int .u8 58), .lit (.int .u8 42), .lit (.int .u8 50), .lit (.int .u8 38), .lit (.int .u8 29), .lit (.int .u8 17), .lit (.int .u8 4), .lit (.int .u8 62), .lit (.int .u8 47), .lit (.int .u8 59), .lit (.int .u8 36), .lit (.int .u8 45), .lit (.int .u8 43), .lit (.int .u8 51), .lit (.int .u8 22), .lit (.int .u8 53), .lit (.int .u8 39), .lit (.int .u8 33), .lit (.int .u8 30), .lit (.int .u8 24), .lit (.int .u8 18), .lit (.int .u8 12), .lit (.int .u8 5), .lit (.int .u8 63), .lit (.int .u8 55), .lit (.int .u8 48), .lit (.int .u8 27), .lit (.int .u8 60), .lit (.int .u8 41), .lit (.int .u8 37), .lit (.int .u8 16), .lit (.int .u8 46), .lit (.int .u8 35), .lit (.int .u8 44), .lit (.int .u8 21), .lit (.int .u8 52), .lit (.int .u8 32), .lit (.int .u8 23), .lit (.int .u8 11), .lit (.int .u8 54), .lit (.int .u8 26), .lit (.int .u8 40), .lit (.int .u8 15), .lit (.int .u8 34), .lit (.int .u8 20), .lit (.int .u8 31), .lit (.int .u8 10), .lit (.int .u8 25), .lit (.int .u8 14), .lit (.int .u8 19), .lit (.int .u8 9), .lit (.int .u8 13), .lit (.int .u8 8), .lit (.int .u8 7), .lit (.int .u8 6)]

/-- 'laws.FnConfigTermsOpen': WHATEVER THE INPUT: true; the input reads as it did. -/
def fnConfigTermsOpenSpec : ChangeSpec := { name := "fnConfigTermsOpen", fn := fun _ => fun
  | [d] => { results := [.lit (.bool true)], args := [d] }
  | _ => none }
def fnConfigTermsOpenRow : OpenClaim := { program := "ytjopcpoodhamcaadoor", sum := "a00f6b5612b85c3018cab8bc21db28931f40aa75ba503ae1acf2c216cc5044d0", func := "loop.example/atomicspectra/laws.FnConfigTermsOpen", spec := "fnConfigTermsOpen", unfollowed := true, recurses := true, named := ["math/bits.deBruijn32tab", "math/bits.deBruijn64tab"], plainKeys := false, apart := false, laid := [("math/bits.deBruijn32tab", laid_math_bits_deBruijn32tab), ("math/bits.deBruijn64tab", laid_math_bits_deBruijn64tab)] }
def FnConfigTermsOpenSaid : Prop := fnConfigTermsOpenRow.holds Tryd.pinned (OpenSpec.ofChange fnConfigTermsOpenSpec)

/-- ITS FALSE NEIGHBOUR: 'it returns false'. Refute it at one input. -/
def fnConfigTermsOpenWrong : ChangeSpec := { name := "fnConfigTermsOpen", fn := fun _ => fun
  | [d] => { results := [.lit (.bool false)], args := [d] }
  | _ => none }
def FnConfigTermsOpenWrongFalsely : Prop := fnConfigTermsOpenRow.holds Tryd.pinned (OpenSpec.ofChange fnConfigTermsOpenWrong)

/-- 'laws.FnConfigTerms': WHATEVER THE INPUT: true; the input reads as it did. -/
def fnConfigTermsSpec : ChangeSpec := { name := "fnConfigTerms", fn := fun _ => fun
  | [d] => { results := [.lit (.bool true)], args := [d] }
  | _ => none }
def fnConfigTermsRow : OpenClaim := { program := "ytjopcpoodhamcaadoor", sum := "a00f6b5612b85c3018cab8bc21db28931f40aa75ba503ae1acf2c216cc5044d0", func := "loop.example/atomicspectra/laws.FnConfigTerms", spec := "fnConfigTerms", unfollowed := true, recurses := true, named := ["math/bits.deBruijn32tab", "math/bits.deBruijn64tab"], plainKeys := false, apart := false, laid := [("math/bits.deBruijn32tab", laid_math_bits_deBruijn32tab), ("math/bits.deBruijn64tab", laid_math_bits_deBruijn64tab)] }
def FnConfigTermsSaid : Prop := fnConfigTermsRow.holds Tryd.pinned (OpenSpec.ofChange fnConfigTermsSpec)

/-- ITS FALSE NEIGHBOUR: 'it returns false'. Refute it at one input. -/
def fnConfigTermsWrong : ChangeSpec := { name := "fnConfigTerms", fn := fun _ => fun
  | [d] => { results := [.lit (.bool false)], args := [d] }
  | _ => none }
def FnConfigTermsWrongFalsely : Prop := fnConfigTermsRow.holds Tryd.pinned (OpenSpec.ofChange fnConfigTermsWrong)

/-- 'laws.FnExactTermsConfig': WHATEVER THE INPUT: true; the input reads as it did. -/
def fnExactTermsConfigSpec : ChangeSpec := { name := "fnExactTermsConfig", fn := fun _ => fun
  | [d] => { results := [.lit (.bool true)], args := [d] }
  | _ => none }
def fnExactTermsConfigRow : OpenClaim := { program := "ytjopcpoodhamcaadoor", sum := "a00f6b5612b85c3018cab8bc21db28931f40aa75ba503ae1acf2c216cc5044d0", func := "loop.example/atomicspectra/laws.FnExactTermsConfig", spec := "fnExactTermsConfig", unfollowed := true, recurses := true, named := ["math/bits.deBruijn32tab", "math/bits.deBruijn64tab"], plainKeys := false, apart := false, laid := [("math/bits.deBruijn32tab", laid_math_bits_deBruijn32tab), ("math/bits.deBruijn64tab", laid_math_bits_deBruijn64tab)] }
def FnExactTermsConfigSaid : Prop := fnExactTermsConfigRow.holds Tryd.pinned (OpenSpec.ofChange fnExactTermsConfigSpec)

/-- ITS FALSE NEIGHBOUR: 'it returns false'. Refute it at one input. -/
def fnExactTermsConfigWrong : ChangeSpec := { name := "fnExactTermsConfig", fn := fun _ => fun
  | [d] => { results := [.lit (.bool false)], args := [d] }
  | _ => none }
def FnExactTermsConfigWrongFalsely : Prop := fnExactTermsConfigRow.holds Tryd.pinned (OpenSpec.ofChange fnExactTermsConfigWrong)

/-- 'laws.FnConfigTermsHoles': WHATEVER THE INPUT: true; the input reads as it did. -/
def fnConfigTermsHolesSpec : ChangeSpec := { name := "fnConfigTermsHoles", fn := fun _ => fun
  | [d] => { results := [.lit (.bool true)], args := [d] }
  | _ => none }
def fnConfigTermsHolesRow : OpenClaim := { program := "ytjopcpoodhamcaadoor", sum := "a00f6b5612b85c3018cab8bc21db28931f40aa75ba503ae1acf2c216cc5044d0", func := "loop.example/atomicspectra/laws.FnConfigTermsHoles", spec := "fnConfigTermsHoles", unfollowed := true, recurses := true, named := ["math/bits.deBruijn32tab", "math/bits.deBruijn64tab"], plainKeys := false, apart := false, laid := [("math/bits.deBruijn32tab", laid_math_bits_deBruijn32tab), ("math/bits.deBruijn64tab", laid_math_bits_deBruijn64tab)] }
def FnConfigTermsHolesSaid : Prop := fnConfigTermsHolesRow.holds Tryd.pinned (OpenSpec.ofChange fnConfigTermsHolesSpec)

/-- ITS FALSE NEIGHBOUR: 'it returns false'. Refute it at one input. -/
def fnConfigTermsHolesWrong : ChangeSpec := { name := "fnConfigTermsHoles", fn := fun _ => fun
  | [d] => { results := [.lit (.bool false)], args := [d] }
  | _ => none }
def FnConfigTermsHolesWrongFalsely : Prop := fnConfigTermsHolesRow.holds Tryd.pinned (OpenSpec.ofChange fnConfigTermsHolesWrong)

/-- 'laws.FnConfigTermsNumber': WHATEVER THE INPUT: true; the input reads as it did. -/
def fnConfigTermsNumberSpec : ChangeSpec := { name := "fnConfigTermsNumber", fn := fun _ => fun
  | [d] => { results := [.lit (.bool true)], args := [d] }
  | _ => none }
def fnConfigTermsNumberRow : OpenClaim := { program := "ytjopcpoodhamcaadoor", sum := "a00f6b5612b85c3018cab8bc21db28931f40aa75ba503ae1acf2c216cc5044d0", func := "loop.example/atomicspectra/laws.FnConfigTermsNumber", spec := "fnConfigTermsNumber", unfollowed := true, recurses := true, named := ["math/bits.deBruijn32tab", "math/bits.deBruijn64tab"], plainKeys := false, apart := false, laid := [("math/bits.deBruijn32tab", laid_math_bits_deBruijn32tab), ("math/bits.deBruijn64tab", laid_math_bits_deBruijn64tab)] }
def FnConfigTermsNumberSaid : Prop := fnConfigTermsNumberRow.holds Tryd.pinned (OpenSpec.ofChange fnConfigTermsNumberSpec)

/-- ITS FALSE NEIGHBOUR: 'it returns false'. Refute it at one input. -/
def fnConfigTermsNumberWrong : ChangeSpec := { name := "fnConfigTermsNumber", fn := fun _ => fun
  | [d] => { results := [.lit (.bool false)], args := [d] }
  | _ => none }
def FnConfigTermsNumberWrongFalsely : Prop := fnConfigTermsNumberRow.holds Tryd.pinned (OpenSpec.ofChange fnConfigTermsNumberWrong)

/-- 'laws.FnConfigTermsOne': WHATEVER THE INPUT: true; the input reads as it did. -/
def fnConfigTermsOneSpec : ChangeSpec := { name := "fnConfigTermsOne", fn := fun _ => fun
  | [d] => { results := [.lit (.bool true)], args := [d] }
  | _ => none }
def fnConfigTermsOneRow : OpenClaim := { program := "ytjopcpoodhamcaadoor", sum := "a00f6b5612b85c3018cab8bc21db28931f40aa75ba503ae1acf2c216cc5044d0", func := "loop.example/atomicspectra/laws.FnConfigTermsOne", spec := "fnConfigTermsOne", unfollowed := true, recurses := true, named := ["math/bits.deBruijn32tab", "math/bits.deBruijn64tab"], plainKeys := false, apart := false, laid := [("math/bits.deBruijn32tab", laid_math_bits_deBruijn32tab), ("math/bits.deBruijn64tab", laid_math_bits_deBruijn64tab)] }
def FnConfigTermsOneSaid : Prop := fnConfigTermsOneRow.holds Tryd.pinned (OpenSpec.ofChange fnConfigTermsOneSpec)

/-- ITS FALSE NEIGHBOUR: 'it returns false'. Refute it at one input. -/
def fnConfigTermsOneWrong : ChangeSpec := { name := "fnConfigTermsOne", fn := fun _ => fun
  | [d] => { results := [.lit (.bool false)], args := [d] }
  | _ => none }
def FnConfigTermsOneWrongFalsely : Prop := fnConfigTermsOneRow.holds Tryd.pinned (OpenSpec.ofChange fnConfigTermsOneWrong)

/- THE SECOND FORM. 'bulk': how many values and letters a reading holds, each counted each time it is reached (what is shared counts as often as it is met; a slice's spare places count too). A statement '..UptoSaid' is the law's where the arguments, and the package variables that the reading takes, are together of bulk at most 1048576: NARROWER than '..Said'. Prove '..Said' where nothing that the law and all that it calls make is longer than what came in: it says more and counts as full. Else prove '..UptoSaid'. A law counts once. -/
mutual
def uptoBulk {H : Type} : DataW H → Nat
  | .lit (.string bytes) => bytes.length + 1
  | .lit _ => 1
  | .nil => 1
  | .ptr d => uptoBulk d + 1
  | .slice elems spare => uptoBulkAll elems + uptoBulkAll spare + 1
  | .agg parts => uptoBulkAll parts + 1
  | .iface _ d => uptoBulk d + 1
  | .map entries => uptoBulkEntries entries + 1
  | .held _ => 1
def uptoBulkAll {H : Type} : List (DataW H) → Nat
  | [] => 0
  | d :: r => uptoBulk d + uptoBulkAll r
def uptoBulkEntries {H : Type} : List (Lit × DataW H) → Nat
  | [] => 0
  | x :: r => uptoBulkEntry x + uptoBulkEntries r
def uptoBulkEntry {H : Type} : Lit × DataW H → Nat
  | (.string bytes, d) => bytes.length + uptoBulk d + 1
  | (_, d) => uptoBulk d + 1
 end
def uptoSmall : (H : Type) → List (DataW H) → Bool := fun _ ds => decide (uptoBulkAll ds ≤ 1048576)
def OpenSpec.upto (s : _root_.Go.ChangeSpec) : _root_.Go.OpenSpec := { _root_.Go.OpenSpec.ofChange s with cond := some uptoSmall }

/-- 'laws.FnConfigTermsOpen', WHERE WHAT IT READS IS OF BULK AT MOST 1048576: true; the input reads as it did. -/
def fnConfigTermsOpenUptoRow : OpenClaim := { program := "ytjopcpoodhamcaadoor", sum := "a00f6b5612b85c3018cab8bc21db28931f40aa75ba503ae1acf2c216cc5044d0", func := "loop.example/atomicspectra/laws.FnConfigTermsOpen", spec := "fnConfigTermsOpen", unfollowed := true, recurses := true, named := ["math/bits.deBruijn32tab", "math/bits.deBruijn64tab"], plainKeys := false, apart := false, laid := [("math/bits.deBruijn32tab", laid_math_bits_deBruijn32tab), ("math/bits.deBruijn64tab", laid_math_bits_deBruijn64tab)], narrowed := true }
def FnConfigTermsOpenUptoSaid : Prop := fnConfigTermsOpenUptoRow.holds Tryd.pinned (OpenSpec.upto fnConfigTermsOpenSpec)

/-- 'laws.FnConfigTerms', WHERE WHAT IT READS IS OF BULK AT MOST 1048576: true; the input reads as it did. -/
def fnConfigTermsUptoRow : OpenClaim := { program := "ytjopcpoodhamcaadoor", sum := "a00f6b5612b85c3018cab8bc21db28931f40aa75ba503ae1acf2c216cc5044d0", func := "loop.example/atomicspectra/laws.FnConfigTerms", spec := "fnConfigTerms", unfollowed := true, recurses := true, named := ["math/bits.deBruijn32tab", "math/bits.deBruijn64tab"], plainKeys := false, apart := false, laid := [("math/bits.deBruijn32tab", laid_math_bits_deBruijn32tab), ("math/bits.deBruijn64tab", laid_math_bits_deBruijn64tab)], narrowed := true }
def FnConfigTermsUptoSaid : Prop := fnConfigTermsUptoRow.holds Tryd.pinned (OpenSpec.upto fnConfigTermsSpec)

/-- 'laws.FnExactTermsConfig', WHERE WHAT IT READS IS OF BULK AT MOST 1048576: true; the input reads as it did. -/
def fnExactTermsConfigUptoRow : OpenClaim := { program := "ytjopcpoodhamcaadoor", sum := "a00f6b5612b85c3018cab8bc21db28931f40aa75ba503ae1acf2c216cc5044d0", func := "loop.example/atomicspectra/laws.FnExactTermsConfig", spec := "fnExactTermsConfig", unfollowed := true, recurses := true, named := ["math/bits.deBruijn32tab", "math/bits.deBruijn64tab"], plainKeys := false, apart := false, laid := [("math/bits.deBruijn32tab", laid_math_bits_deBruijn32tab), ("math/bits.deBruijn64tab", laid_math_bits_deBruijn64tab)], narrowed := true }
def FnExactTermsConfigUptoSaid : Prop := fnExactTermsConfigUptoRow.holds Tryd.pinned (OpenSpec.upto fnExactTermsConfigSpec)

/-- 'laws.FnConfigTermsHoles', WHERE WHAT IT READS IS OF BULK AT MOST 1048576: true; the input reads as it did. -/
def fnConfigTermsHolesUptoRow : OpenClaim := { program := "ytjopcpoodhamcaadoor", sum := "a00f6b5612b85c3018cab8bc21db28931f40aa75ba503ae1acf2c216cc5044d0", func := "loop.example/atomicspectra/laws.FnConfigTermsHoles", spec := "fnConfigTermsHoles", unfollowed := true, recurses := true, named := ["math/bits.deBruijn32tab", "math/bits.deBruijn64tab"], plainKeys := false, apart := false, laid := [("math/bits.deBruijn32tab", laid_math_bits_deBruijn32tab), ("math/bits.deBruijn64tab", laid_math_bits_deBruijn64tab)], narrowed := true }
def FnConfigTermsHolesUptoSaid : Prop := fnConfigTermsHolesUptoRow.holds Tryd.pinned (OpenSpec.upto fnConfigTermsHolesSpec)

/-- 'laws.FnConfigTermsNumber', WHERE WHAT IT READS IS OF BULK AT MOST 1048576: true; the input reads as it did. -/
def fnConfigTermsNumberUptoRow : OpenClaim := { program := "ytjopcpoodhamcaadoor", sum := "a00f6b5612b85c3018cab8bc21db28931f40aa75ba503ae1acf2c216cc5044d0", func := "loop.example/atomicspectra/laws.FnConfigTermsNumber", spec := "fnConfigTermsNumber", unfollowed := true, recurses := true, named := ["math/bits.deBruijn32tab", "math/bits.deBruijn64tab"], plainKeys := false, apart := false, laid := [("math/bits.deBruijn32tab", laid_math_bits_deBruijn32tab), ("math/bits.deBruijn64tab", laid_math_bits_deBruijn64tab)], narrowed := true }
def FnConfigTermsNumberUptoSaid : Prop := fnConfigTermsNumberUptoRow.holds Tryd.pinned (OpenSpec.upto fnConfigTermsNumberSpec)

/-- 'laws.FnConfigTermsOne', WHERE WHAT IT READS IS OF BULK AT MOST 1048576: true; the input reads as it did. -/
def fnConfigTermsOneUptoRow : OpenClaim := { program := "ytjopcpoodhamcaadoor", sum := "a00f6b5612b85c3018cab8bc21db28931f40aa75ba503ae1acf2c216cc5044d0", func := "loop.example/atomicspectra/laws.FnConfigTermsOne", spec := "fnConfigTermsOne", unfollowed := true, recurses := true, named := ["math/bits.deBruijn32tab", "math/bits.deBruijn64tab"], plainKeys := false, apart := false, laid := [("math/bits.deBruijn32tab", laid_math_bits_deBruijn32tab), ("math/bits.deBruijn64tab", laid_math_bits_deBruijn64tab)], narrowed := true }
def FnConfigTermsOneUptoSaid : Prop := fnConfigTermsOneUptoRow.holds Tryd.pinned (OpenSpec.upto fnConfigTermsOneSpec)

end Rows
end Go.Proofs.YtjopcpoodhamcaaDoor
