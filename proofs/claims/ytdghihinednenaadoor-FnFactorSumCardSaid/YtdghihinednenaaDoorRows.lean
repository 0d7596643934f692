/-
  NARROWER THAN 'FOR EVERY INPUT', by the rows' own cells (each row's printed sentence says how): FnExactFactorOf: ifaces, laid · FnFactorDoublet: ifaces, laid · FnFactorTop: ifaces, laid · FnFactorSpin: ifaces, laid · FnExactFactorMoment: ifaces, laid · FnFactorSwap: ifaces, laid · FnFactorMoment: ifaces, laid · FnFactorMomentRises: ifaces, laid · FnExactFactorSum: ifaces, laid · FnFactorSumLevels: ifaces, laid · FnFactorSum: ifaces, laid.
  DERIVED. THE GIVEN ROWS OF THIS SEAT. 11 by the template 'for every input the law returns true; each argument reads behind the call as it read before'; 0 by the template 'total and deterministic' (their statements: YtdghihinednenaaDoorTotals.lean).
  GIVEN WITH THE SEED: the statements are not yours to turn. If you find one false, say at which input.
  Laid BY PROGRAM, IN A SANDBOX (cutbox-rows.mjs): the forced cells as the released guide's own fill.sh prints them over the translation 2ea24f52826af7d6… (all of the seat's roots in one cut). By AI agents, Wed Nov 11 2026. No macro, syntax, notation, axiom, sorry.
-/
import Derived.Test.YtdghihinednenaaDoorChecked
import GoSem.Claim
import GoSem.ClaimJoined
import GoSem.ClaimMapViews
import Derived.JoinedTies
import Derived.KernelRfl
namespace Go.Proofs.YtdghihinednenaaDoor
/- THE CELL 'sum', in the pinned program and in every row, IS THE sha256 OF THE DUMP (.gsa) THAT YtdghihinednenaaDoorProg.lean LOADS. Nothing in Lean hashes anything: it is a label: what it is worth is what the hold of that sum in a sandbox is worth. -/
noncomputable def Tryd.pinned : Pinned := { name := "ytdghihinednenaadoor", sum := "2ea24f52826af7d64c67fc646e74530a93994a504560249a576fd7e3c5391fdc", checked := Tryd.checked }
namespace Rows
def none {H : Type} : Left H := { results := [], args := [] }

/- WHAT THE LISTED PACKAGE-LEVEL VARIABLES READ AS WHEN THE CALL BEGINS. Each datum BY PROGRAM (the guide's laid-datum.mjs) off the statement by which the dump's own 'gosem.cut.vars' lays the variable. In a bare row this is a premise. The card (YtdghihinednenaaDoorCards.lean) ties it to the program's text. -/
def laid_loop_example_atomicspectra_impl_errLevel {H : Type} : DataW H := .iface "*errors.errorString" (.ptr (.agg [.lit (.string [110, 111, 32, 108, 101, 118, 101, 108])]))
def laid_loop_example_atomicspectra_impl_errAtRest {H : Type} : DataW H := .iface "*errors.errorString" (.ptr (.agg [.lit (.string [110, 111, 32, 97, 110, 103, 117, 108, 97, 114, 32, 109, 111, 109, 101, 110, 116, 117, 109])]))

/-- 'laws.FnExactFactorOf': WHATEVER THE INPUT: true; the input reads as it did. -/
def fnExactFactorOfSpec : ChangeSpec := { name := "fnExactFactorOf", vars := ["loop.example/atomicspectra/impl.errLevel", "loop.example/atomicspectra/impl.errAtRest"], fn := fun _ => fun
  | [d, g1, g2] => { results := [.lit (.bool true)], args := [d], vars := [g1, g2] }
  | _ => none }
def fnExactFactorOfRow : OpenClaim := { program := "ytdghihinednenaadoor", sum := "2ea24f52826af7d64c67fc646e74530a93994a504560249a576fd7e3c5391fdc", func := "loop.example/atomicspectra/laws.FnExactFactorOf", spec := "fnExactFactorOf", named := ["loop.example/atomicspectra/impl.errLevel", "loop.example/atomicspectra/impl.errAtRest"], ifaces := true, apart := false, laid := [("loop.example/atomicspectra/impl.errLevel", laid_loop_example_atomicspectra_impl_errLevel), ("loop.example/atomicspectra/impl.errAtRest", laid_loop_example_atomicspectra_impl_errAtRest)] }
def FnExactFactorOfSaid : Prop := fnExactFactorOfRow.holds Tryd.pinned (OpenSpec.ofChange fnExactFactorOfSpec)

/-- ITS FALSE NEIGHBOUR: 'it returns false'. Refute it at one input. -/
def fnExactFactorOfWrong : ChangeSpec := { name := "fnExactFactorOf", vars := ["loop.example/atomicspectra/impl.errLevel", "loop.example/atomicspectra/impl.errAtRest"], fn := fun _ => fun
  | [d, g1, g2] => { results := [.lit (.bool false)], args := [d], vars := [g1, g2] }
  | _ => none }
def FnExactFactorOfWrongFalsely : Prop := fnExactFactorOfRow.holds Tryd.pinned (OpenSpec.ofChange fnExactFactorOfWrong)

/-- 'laws.FnFactorDoublet': WHATEVER THE INPUT: true; the input reads as it did. -/
def fnFactorDoubletSpec : ChangeSpec := { name := "fnFactorDoublet", vars := ["loop.example/atomicspectra/impl.errLevel", "loop.example/atomicspectra/impl.errAtRest"], fn := fun _ => fun
  | [d, g1, g2] => { results := [.lit (.bool true)], args := [d], vars := [g1, g2] }
  | _ => none }
def fnFactorDoubletRow : OpenClaim := { program := "ytdghihinednenaadoor", sum := "2ea24f52826af7d64c67fc646e74530a93994a504560249a576fd7e3c5391fdc", func := "loop.example/atomicspectra/laws.FnFactorDoublet", spec := "fnFactorDoublet", named := ["loop.example/atomicspectra/impl.errLevel", "loop.example/atomicspectra/impl.errAtRest"], ifaces := true, apart := false, laid := [("loop.example/atomicspectra/impl.errLevel", laid_loop_example_atomicspectra_impl_errLevel), ("loop.example/atomicspectra/impl.errAtRest", laid_loop_example_atomicspectra_impl_errAtRest)] }
def FnFactorDoubletSaid : Prop := fnFactorDoubletRow.holds Tryd.pinned (OpenSpec.ofChange fnFactorDoubletSpec)

/-- ITS FALSE NEIGHBOUR: 'it returns false'. Refute it at one input. -/
def fnFactorDoubletWrong : ChangeSpec := { name := "fnFactorDoublet", vars := ["loop.example/atomicspectra/impl.errLevel", "loop.example/atomicspectra/impl.errAtRest"], fn := fun _ => fun
  | [d, g1, g2] => { results := [.lit (.bool false)], args := [d], vars := [g1, g2] }
  | _ => none }
def FnFactorDoubletWrongFalsely : Prop := fnFactorDoubletRow.holds Tryd.pinned (OpenSpec.ofChange fnFactorDoubletWrong)

/-- 'laws.FnFactorTop': WHATEVER THE INPUT: true; the input reads as it did. -/
def fnFactorTopSpec : ChangeSpec := { name := "fnFactorTop", vars := ["loop.example/atomicspectra/impl.errLevel", "loop.example/atomicspectra/impl.errAtRest"], fn := fun _ => fun
  | [d, g1, g2] => { results := [.lit (.bool true)], args := [d], vars := [g1, g2] }
  | _ => none }
def fnFactorTopRow : OpenClaim := { program := "ytdghihinednenaadoor", sum := "2ea24f52826af7d64c67fc646e74530a93994a504560249a576fd7e3c5391fdc", func := "loop.example/atomicspectra/laws.FnFactorTop", spec := "fnFactorTop", named := ["loop.example/atomicspectra/impl.errLevel", "loop.example/atomicspectra/impl.errAtRest"], ifaces := true, apart := false, laid := [("loop.example/atomicspectra/impl.errLevel", laid_loop_example_atomicspectra_impl_errLevel), ("loop.example/atomicspectra/impl.errAtRest", laid_loop_example_atomicspectra_impl_errAtRest)] }
def FnFactorTopSaid : Prop := fnFactorTopRow.holds Tryd.pinned (OpenSpec.ofChange fnFactorTopSpec)

/-- ITS FALSE NEIGHBOUR: 'it returns false'. Refute it at one input. -/
def fnFactorTopWrong : ChangeSpec := { name := "fnFactorTop", vars := ["loop.example/atomicspectra/impl.errLevel", "loop.example/atomicspectra/impl.errAtRest"], fn := fun _ => fun
  | [d, g1, g2] => { results := [.lit (.bool false)], args := [d], vars := [g1, g2] }
  | _ => none }
def FnFactorTopWrongFalsely : Prop := fnFactorTopRow.holds Tryd.pinned (OpenSpec.ofChange fnFactorTopWrong)

/-- 'laws.FnFactorSpin': WHATEVER THE INPUT: true; the input reads as it did. -/
def fnFactorSpinSpec : ChangeSpec := { name := "fnFactorSpin", vars := ["loop.example/atomicspectra/impl.errLevel", "loop.example/atomicspectra/impl.errAtRest"], fn := fun _ => fun
  | [d, g1, g2] => { results := [.lit (.bool true)], args := [d], vars := [g1, g2] }
  | _ => none }
def fnFactorSpinRow : OpenClaim := { program := "ytdghihinednenaadoor", sum := "2ea24f52826af7d64c67fc646e74530a93994a504560249a576fd7e3c5391fdc", func := "loop.example/atomicspectra/laws.FnFactorSpin", spec := "fnFactorSpin", named := ["loop.example/atomicspectra/impl.errLevel", "loop.example/atomicspectra/impl.errAtRest"], ifaces := true, apart := false, laid := [("loop.example/atomicspectra/impl.errLevel", laid_loop_example_atomicspectra_impl_errLevel), ("loop.example/atomicspectra/impl.errAtRest", laid_loop_example_atomicspectra_impl_errAtRest)] }
def FnFactorSpinSaid : Prop := fnFactorSpinRow.holds Tryd.pinned (OpenSpec.ofChange fnFactorSpinSpec)

/-- ITS FALSE NEIGHBOUR: 'it returns false'. Refute it at one input. -/
def fnFactorSpinWrong : ChangeSpec := { name := "fnFactorSpin", vars := ["loop.example/atomicspectra/impl.errLevel", "loop.example/atomicspectra/impl.errAtRest"], fn := fun _ => fun
  | [d, g1, g2] => { results := [.lit (.bool false)], args := [d], vars := [g1, g2] }
  | _ => none }
def FnFactorSpinWrongFalsely : Prop := fnFactorSpinRow.holds Tryd.pinned (OpenSpec.ofChange fnFactorSpinWrong)

/-- 'laws.FnExactFactorMoment': WHATEVER THE INPUT: true; the input reads as it did. -/
def fnExactFactorMomentSpec : ChangeSpec := { name := "fnExactFactorMoment", vars := ["loop.example/atomicspectra/impl.errAtRest", "loop.example/atomicspectra/impl.errLevel"], fn := fun _ => fun
  | [d, g1, g2] => { results := [.lit (.bool true)], args := [d], vars := [g1, g2] }
  | _ => none }
def fnExactFactorMomentRow : OpenClaim := { program := "ytdghihinednenaadoor", sum := "2ea24f52826af7d64c67fc646e74530a93994a504560249a576fd7e3c5391fdc", func := "loop.example/atomicspectra/laws.FnExactFactorMoment", spec := "fnExactFactorMoment", inPlace := ["internal/reflectlite.TypeOf"], unfollowed := true, recurses := true, named := ["loop.example/atomicspectra/impl.errAtRest", "loop.example/atomicspectra/impl.errLevel"], ifaces := true, apart := false, laid := [("loop.example/atomicspectra/impl.errLevel", laid_loop_example_atomicspectra_impl_errLevel), ("loop.example/atomicspectra/impl.errAtRest", laid_loop_example_atomicspectra_impl_errAtRest)] }
def FnExactFactorMomentSaid : Prop := fnExactFactorMomentRow.holds Tryd.pinned (OpenSpec.ofChange fnExactFactorMomentSpec)

/-- ITS FALSE NEIGHBOUR: 'it returns false'. Refute it at one input. -/
def fnExactFactorMomentWrong : ChangeSpec := { name := "fnExactFactorMoment", vars := ["loop.example/atomicspectra/impl.errAtRest", "loop.example/atomicspectra/impl.errLevel"], fn := fun _ => fun
  | [d, g1, g2] => { results := [.lit (.bool false)], args := [d], vars := [g1, g2] }
  | _ => none }
def FnExactFactorMomentWrongFalsely : Prop := fnExactFactorMomentRow.holds Tryd.pinned (OpenSpec.ofChange fnExactFactorMomentWrong)

/-- 'laws.FnFactorSwap': WHATEVER THE INPUT: true; the input reads as it did. -/
def fnFactorSwapSpec : ChangeSpec := { name := "fnFactorSwap", vars := ["loop.example/atomicspectra/impl.errAtRest", "loop.example/atomicspectra/impl.errLevel"], fn := fun _ => fun
  | [d, g1, g2] => { results := [.lit (.bool true)], args := [d], vars := [g1, g2] }
  | _ => none }
def fnFactorSwapRow : OpenClaim := { program := "ytdghihinednenaadoor", sum := "2ea24f52826af7d64c67fc646e74530a93994a504560249a576fd7e3c5391fdc", func := "loop.example/atomicspectra/laws.FnFactorSwap", spec := "fnFactorSwap", inPlace := ["internal/reflectlite.TypeOf"], unfollowed := true, recurses := true, named := ["loop.example/atomicspectra/impl.errAtRest", "loop.example/atomicspectra/impl.errLevel"], ifaces := true, apart := false, laid := [("loop.example/atomicspectra/impl.errLevel", laid_loop_example_atomicspectra_impl_errLevel), ("loop.example/atomicspectra/impl.errAtRest", laid_loop_example_atomicspectra_impl_errAtRest)] }
def FnFactorSwapSaid : Prop := fnFactorSwapRow.holds Tryd.pinned (OpenSpec.ofChange fnFactorSwapSpec)

/-- ITS FALSE NEIGHBOUR: 'it returns false'. Refute it at one input. -/
def fnFactorSwapWrong : ChangeSpec := { name := "fnFactorSwap", vars := ["loop.example/atomicspectra/impl.errAtRest", "loop.example/atomicspectra/impl.errLevel"], fn := fun _ => fun
  | [d, g1, g2] => { results := [.lit (.bool false)], args := [d], vars := [g1, g2] }
  | _ => none }
def FnFactorSwapWrongFalsely : Prop := fnFactorSwapRow.holds Tryd.pinned (OpenSpec.ofChange fnFactorSwapWrong)

/-- 'laws.FnFactorMoment': WHATEVER THE INPUT: true; the input reads as it did. -/
def fnFactorMomentSpec : ChangeSpec := { name := "fnFactorMoment", vars := ["loop.example/atomicspectra/impl.errAtRest", "loop.example/atomicspectra/impl.errLevel"], fn := fun _ => fun
  | [d, g1, g2] => { results := [.lit (.bool true)], args := [d], vars := [g1, g2] }
  | _ => none }
def fnFactorMomentRow : OpenClaim := { program := "ytdghihinednenaadoor", sum := "2ea24f52826af7d64c67fc646e74530a93994a504560249a576fd7e3c5391fdc", func := "loop.example/atomicspectra/laws.FnFactorMoment", spec := "fnFactorMoment", inPlace := ["internal/reflectlite.TypeOf"], unfollowed := true, recurses := true, named := ["loop.example/atomicspectra/impl.errAtRest", "loop.example/atomicspectra/impl.errLevel"], ifaces := true, apart := false, laid := [("loop.example/atomicspectra/impl.errLevel", laid_loop_example_atomicspectra_impl_errLevel), ("loop.example/atomicspectra/impl.errAtRest", laid_loop_example_atomicspectra_impl_errAtRest)] }
def FnFactorMomentSaid : Prop := fnFactorMomentRow.holds Tryd.pinned (OpenSpec.ofChange fnFactorMomentSpec)

/-- ITS FALSE NEIGHBOUR: 'it returns false'. Refute it at one input. -/
def fnFactorMomentWrong : ChangeSpec := { name := "fnFactorMoment", vars := ["loop.example/atomicspectra/impl.errAtRest", "loop.example/atomicspectra/impl.errLevel"], fn := fun _ => fun
  | [d, g1, g2] => { results := [.lit (.bool false)], args := [d], vars := [g1, g2] }
  | _ => none }
def FnFactorMomentWrongFalsely : Prop := fnFactorMomentRow.holds Tryd.pinned (OpenSpec.ofChange fnFactorMomentWrong)

/-- 'laws.FnFactorMomentRises': WHATEVER THE INPUT: true; the input reads as it did. -/
def fnFactorMomentRisesSpec : ChangeSpec := { name := "fnFactorMomentRises", vars := ["loop.example/atomicspectra/impl.errAtRest", "loop.example/atomicspectra/impl.errLevel"], fn := fun _ => fun
  | [d, g1, g2] => { results := [.lit (.bool true)], args := [d], vars := [g1, g2] }
  | _ => none }
def fnFactorMomentRisesRow : OpenClaim := { program := "ytdghihinednenaadoor", sum := "2ea24f52826af7d64c67fc646e74530a93994a504560249a576fd7e3c5391fdc", func := "loop.example/atomicspectra/laws.FnFactorMomentRises", spec := "fnFactorMomentRises", inPlace := ["internal/reflectlite.TypeOf"], unfollowed := true, recurses := true, named := ["loop.example/atomicspectra/impl.errAtRest", "loop.example/atomicspectra/impl.errLevel"], ifaces := true, apart := false, laid := [("loop.example/atomicspectra/impl.errLevel", laid_loop_example_atomicspectra_impl_errLevel), ("loop.example/atomicspectra/impl.errAtRest", laid_loop_example_atomicspectra_impl_errAtRest)] }
def FnFactorMomentRisesSaid : Prop := fnFactorMomentRisesRow.holds Tryd.pinned (OpenSpec.ofChange fnFactorMomentRisesSpec)

/-- ITS FALSE NEIGHBOUR: 'it returns false'. Refute it at one input. -/
def fnFactorMomentRisesWrong : ChangeSpec := { name := "fnFactorMomentRises", vars := ["loop.example/atomicspectra/impl.errAtRest", "loop.example/atomicspectra/impl.errLevel"], fn := fun _ => fun
  | [d, g1, g2] => { results := [.lit (.bool false)], args := [d], vars := [g1, g2] }
  | _ => none }
def FnFactorMomentRisesWrongFalsely : Prop := fnFactorMomentRisesRow.holds Tryd.pinned (OpenSpec.ofChange fnFactorMomentRisesWrong)

/-- 'laws.FnExactFactorSum': WHATEVER THE INPUT: true; the input reads as it did. -/
def fnExactFactorSumSpec : ChangeSpec := { name := "fnExactFactorSum", vars := ["loop.example/atomicspectra/impl.errAtRest", "loop.example/atomicspectra/impl.errLevel"], fn := fun _ => fun
  | [d, g1, g2] => { results := [.lit (.bool true)], args := [d], vars := [g1, g2] }
  | _ => none }
def fnExactFactorSumRow : OpenClaim := { program := "ytdghihinednenaadoor", sum := "2ea24f52826af7d64c67fc646e74530a93994a504560249a576fd7e3c5391fdc", func := "loop.example/atomicspectra/laws.FnExactFactorSum", spec := "fnExactFactorSum", inPlace := ["internal/reflectlite.TypeOf"], unfollowed := true, recurses := true, named := ["loop.example/atomicspectra/impl.errAtRest", "loop.example/atomicspectra/impl.errLevel"], ifaces := true, apart := false, laid := [("loop.example/atomicspectra/impl.errLevel", laid_loop_example_atomicspectra_impl_errLevel), ("loop.example/atomicspectra/impl.errAtRest", laid_loop_example_atomicspectra_impl_errAtRest)] }
def FnExactFactorSumSaid : Prop := fnExactFactorSumRow.holds Tryd.pinned (OpenSpec.ofChange fnExactFactorSumSpec)

/-- ITS FALSE NEIGHBOUR: 'it returns false'. Refute it at one input. -/
def fnExactFactorSumWrong : ChangeSpec := { name := "fnExactFactorSum", vars := ["loop.example/atomicspectra/impl.errAtRest", "loop.example/atomicspectra/impl.errLevel"], fn := fun _ => fun
  | [d, g1, g2] => { results := [.lit (.bool false)], args := [d], vars := [g1, g2] }
  | _ => none }
def FnExactFactorSumWrongFalsely : Prop := fnExactFactorSumRow.holds Tryd.pinned (OpenSpec.ofChange fnExactFactorSumWrong)

/-- 'laws.FnFactorSumLevels': WHATEVER THE INPUT: true; the input reads as it did. -/
def fnFactorSumLevelsSpec : ChangeSpec := { name := "fnFactorSumLevels", vars := ["loop.example/atomicspectra/impl.errAtRest", "loop.example/atomicspectra/impl.errLevel"], fn := fun _ => fun
  | [d, g1, g2] => { results := [.lit (.bool true)], args := [d], vars := [g1, g2] }
  | _ => none }
def fnFactorSumLevelsRow : OpenClaim := { program := "ytdghihinednenaadoor", sum := "2ea24f52826af7d64c67fc646e74530a93994a504560249a576fd7e3c5391fdc", func := "loop.example/atomicspectra/laws.FnFactorSumLevels", spec := "fnFactorSumLevels", inPlace := ["internal/reflectlite.TypeOf"], unfollowed := true, recurses := true, named := ["loop.example/atomicspectra/impl.errAtRest", "loop.example/atomicspectra/impl.errLevel"], ifaces := true, apart := false, laid := [("loop.example/atomicspectra/impl.errLevel", laid_loop_example_atomicspectra_impl_errLevel), ("loop.example/atomicspectra/impl.errAtRest", laid_loop_example_atomicspectra_impl_errAtRest)] }
def FnFactorSumLevelsSaid : Prop := fnFactorSumLevelsRow.holds Tryd.pinned (OpenSpec.ofChange fnFactorSumLevelsSpec)

/-- ITS FALSE NEIGHBOUR: 'it returns false'. Refute it at one input. -/
def fnFactorSumLevelsWrong : ChangeSpec := { name := "fnFactorSumLevels", vars := ["loop.example/atomicspectra/impl.errAtRest", "loop.example/atomicspectra/impl.errLevel"], fn := fun _ => fun
  | [d, g1, g2] => { results := [.lit (.bool false)], args := [d], vars := [g1, g2] }
  | _ => none }
def FnFactorSumLevelsWrongFalsely : Prop := fnFactorSumLevelsRow.holds Tryd.pinned (OpenSpec.ofChange fnFactorSumLevelsWrong)

/-- 'laws.FnFactorSum': WHATEVER THE INPUT: true; the input reads as it did. -/
def fnFactorSumSpec : ChangeSpec := { name := "fnFactorSum", vars := ["loop.example/atomicspectra/impl.errAtRest", "loop.example/atomicspectra/impl.errLevel"], fn := fun _ => fun
  | [d, g1, g2] => { results := [.lit (.bool true)], args := [d], vars := [g1, g2] }
  | _ => none }
def fnFactorSumRow : OpenClaim := { program := "ytdghihinednenaadoor", sum := "2ea24f52826af7d64c67fc646e74530a93994a504560249a576fd7e3c5391fdc", func := "loop.example/atomicspectra/laws.FnFactorSum", spec := "fnFactorSum", inPlace := ["internal/reflectlite.TypeOf"], unfollowed := true, recurses := true, named := ["loop.example/atomicspectra/impl.errAtRest", "loop.example/atomicspectra/impl.errLevel"], ifaces := true, apart := false, laid := [("loop.example/atomicspectra/impl.errLevel", laid_loop_example_atomicspectra_impl_errLevel), ("loop.example/atomicspectra/impl.errAtRest", laid_loop_example_atomicspectra_impl_errAtRest)] }
def FnFactorSumSaid : Prop := fnFactorSumRow.holds Tryd.pinned (OpenSpec.ofChange fnFactorSumSpec)

/-- ITS FALSE NEIGHBOUR: 'it returns false'. Refute it at one input. -/
def fnFactorSumWrong : ChangeSpec := { name := "fnFactorSum", vars := ["loop.example/atomicspectra/impl.errAtRest", "loop.example/atomicspectra/impl.errLevel"], fn := fun _ => fun
  | [d, g1, g2] => { results := [.lit (.bool false)], args := [d], vars := [g1, g2] }
  | _ => none }
def FnFactorSumWrongFalsely : Prop := fnFactorSumRow.holds Tryd.pinned (OpenSpec.ofChange fnFactorSumWrong)

/- THE SECOND FORM. 'bulk': how many values and letters a reading holds, each counted each time it is reached (what is shared counts as often as it is met; a slice's spare places count too). A statement '..UptoSaid' is the law's where the arguments, and the package variables that the reading takes, are together of bulk at most 1048576: NARROWER than '..Said'. Prove '..Said' where nothing that the law and all that it calls make is longer than what came in: it says more and counts as full. Else prove '..UptoSaid'. A law counts once. -/
mutual
def uptoBulk {H : Type} : DataW H → Nat
  | .lit (.string bytes) => bytes.length + 1
  | .lit _ => 1
  | .nil => 1
  | .ptr d => uptoBulk d + 1
  | .slice elems spare => uptoBulkAll elems + uptoBulkAll spare + 1
  | .agg parts => uptoBulkAll parts + 1
  | .iface _ d => uptoBulk d + 1
  | .map entries => uptoBulkEntries entries + 1
  | .held _ => 1
def uptoBulkAll {H : Type} : List (DataW H) → Nat
  | [] => 0
  | d :: r => uptoBulk d + uptoBulkAll r
def uptoBulkEntries {H : Type} : List (Lit × DataW H) → Nat
  | [] => 0
  | x :: r => uptoBulkEntry x + uptoBulkEntries r
def uptoBulkEntry {H : Type} : Lit × DataW H → Nat
  | (.string bytes, d) => bytes.length + uptoBulk d + 1
  | (_, d) => uptoBulk d + 1
 end
def uptoSmall : (H : Type) → List (DataW H) → Bool := fun _ ds => decide (uptoBulkAll ds ≤ 1048576)
def OpenSpec.upto (s : _root_.Go.ChangeSpec) : _root_.Go.OpenSpec := { _root_.Go.OpenSpec.ofChange s with cond := some uptoSmall }

/-- 'laws.FnExactFactorOf', WHERE WHAT IT READS IS OF BULK AT MOST 1048576: true; the input reads as it did. -/
def fnExactFactorOfUptoRow : OpenClaim := { program := "ytdghihinednenaadoor", sum := "2ea24f52826af7d64c67fc646e74530a93994a504560249a576fd7e3c5391fdc", func := "loop.example/atomicspectra/laws.FnExactFactorOf", spec := "fnExactFactorOf", named := ["loop.example/atomicspectra/impl.errLevel", "loop.example/atomicspectra/impl.errAtRest"], ifaces := true, apart := false, laid := [("loop.example/atomicspectra/impl.errLevel", laid_loop_example_atomicspectra_impl_errLevel), ("loop.example/atomicspectra/impl.errAtRest", laid_loop_example_atomicspectra_impl_errAtRest)], narrowed := true }
def FnExactFactorOfUptoSaid : Prop := fnExactFactorOfUptoRow.holds Tryd.pinned (OpenSpec.upto fnExactFactorOfSpec)

/-- 'laws.FnFactorDoublet', WHERE WHAT IT READS IS OF BULK AT MOST 1048576: true; the input reads as it did. -/
def fnFactorDoubletUptoRow : OpenClaim := { program := "ytdghihinednenaadoor", sum := "2ea24f52826af7d64c67fc646e74530a93994a504560249a576fd7e3c5391fdc", func := "loop.example/atomicspectra/laws.FnFactorDoublet", spec := "fnFactorDoublet", named := ["loop.example/atomicspectra/impl.errLevel", "loop.example/atomicspectra/impl.errAtRest"], ifaces := true, apart := false, laid := [("loop.example/atomicspectra/impl.errLevel", laid_loop_example_atomicspectra_impl_errLevel), ("loop.example/atomicspectra/impl.errAtRest", laid_loop_example_atomicspectra_impl_errAtRest)], narrowed := true }
def FnFactorDoubletUptoSaid : Prop := fnFactorDoubletUptoRow.holds Tryd.pinned (OpenSpec.upto fnFactorDoubletSpec)

/-- 'laws.FnFactorTop', WHERE WHAT IT READS IS OF BULK AT MOST 1048576: true; the input reads as it did. -/
def fnFactorTopUptoRow : OpenClaim := { program := "ytdghihinednenaadoor", sum := "2ea24f52826af7d64c67fc646e74530a93994a504560249a576fd7e3c5391fdc", func := "loop.example/atomicspectra/laws.FnFactorTop", spec := "fnFactorTop", named := ["loop.example/atomicspectra/impl.errLevel", "loop.example/atomicspectra/impl.errAtRest"], ifaces := true, apart := false, laid := [("loop.example/atomicspectra/impl.errLevel", laid_loop_example_atomicspectra_impl_errLevel), ("loop.example/atomicspectra/impl.errAtRest", laid_loop_example_atomicspectra_impl_errAtRest)], narrowed := true }
def FnFactorTopUptoSaid : Prop := fnFactorTopUptoRow.holds Tryd.pinned (OpenSpec.upto fnFactorTopSpec)

/-- 'laws.FnFactorSpin', WHERE WHAT IT READS IS OF BULK AT MOST 1048576: true; the input reads as it did. -/
def fnFactorSpinUptoRow : OpenClaim := { program := "ytdghihinednenaadoor", sum := "2ea24f52826af7d64c67fc646e74530a93994a504560249a576fd7e3c5391fdc", func := "loop.example/atomicspectra/laws.FnFactorSpin", spec := "fnFactorSpin", named := ["loop.example/atomicspectra/impl.errLevel", "loop.example/atomicspectra/impl.errAtRest"], ifaces := true, apart := false, laid := [("loop.example/atomicspectra/impl.errLevel", laid_loop_example_atomicspectra_impl_errLevel), ("loop.example/atomicspectra/impl.errAtRest", laid_loop_example_atomicspectra_impl_errAtRest)], narrowed := true }
def FnFactorSpinUptoSaid : Prop := fnFactorSpinUptoRow.holds Tryd.pinned (OpenSpec.upto fnFactorSpinSpec)

/-- 'laws.FnExactFactorMoment', WHERE WHAT IT READS IS OF BULK AT MOST 1048576: true; the input reads as it did. -/
def fnExactFactorMomentUptoRow : OpenClaim := { program := "ytdghihinednenaadoor", sum := "2ea24f52826af7d64c67fc646e74530a93994a504560249a576fd7e3c5391fdc", func := "loop.example/atomicspectra/laws.FnExactFactorMoment", spec := "fnExactFactorMoment", inPlace := ["internal/reflectlite.TypeOf"], unfollowed := true, recurses := true, named := ["loop.example/atomicspectra/impl.errAtRest", "loop.example/atomicspectra/impl.errLevel"], ifaces := true, apart := false, laid := [("loop.example/atomicspectra/impl.errLevel", laid_loop_example_atomicspectra_impl_errLevel), ("loop.example/atomicspectra/impl.errAtRest", laid_loop_example_atomicspectra_impl_errAtRest)], narrowed := true }
def FnExactFactorMomentUptoSaid : Prop := fnExactFactorMomentUptoRow.holds Tryd.pinned (OpenSpec.upto fnExactFactorMomentSpec)

/-- 'laws.FnFactorSwap', WHERE WHAT IT READS IS OF BULK AT MOST 1048576: true; the input reads as it did. -/
def fnFactorSwapUptoRow : OpenClaim := { program := "ytdghihinednenaadoor", sum := "2ea24f52826af7d64c67fc646e74530a93994a504560249a576fd7e3c5391fdc", func := "loop.example/atomicspectra/laws.FnFactorSwap", spec := "fnFactorSwap", inPlace := ["internal/reflectlite.TypeOf"], unfollowed := true, recurses := true, named := ["loop.example/atomicspectra/impl.errAtRest", "loop.example/atomicspectra/impl.errLevel"], ifaces := true, apart := false, laid := [("loop.example/atomicspectra/impl.errLevel", laid_loop_example_atomicspectra_impl_errLevel), ("loop.example/atomicspectra/impl.errAtRest", laid_loop_example_atomicspectra_impl_errAtRest)], narrowed := true }
def FnFactorSwapUptoSaid : Prop := fnFactorSwapUptoRow.holds Tryd.pinned (OpenSpec.upto fnFactorSwapSpec)

/-- 'laws.FnFactorMoment', WHERE WHAT IT READS IS OF BULK AT MOST 1048576: true; the input reads as it did. -/
def fnFactorMomentUptoRow : OpenClaim := { program := "ytdghihinednenaadoor", sum := "2ea24f52826af7d64c67fc646e74530a93994a504560249a576fd7e3c5391fdc", func := "loop.example/atomicspectra/laws.FnFactorMoment", spec := "fnFactorMoment", inPlace := ["internal/reflectlite.TypeOf"], unfollowed := true, recurses := true, named := ["loop.example/atomicspectra/impl.errAtRest", "loop.example/atomicspectra/impl.errLevel"], ifaces := true, apart := false, laid := [("loop.example/atomicspectra/impl.errLevel", laid_loop_example_atomicspectra_impl_errLevel), ("loop.example/atomicspectra/impl.errAtRest", laid_loop_example_atomicspectra_impl_errAtRest)], narrowed := true }
def FnFactorMomentUptoSaid : Prop := fnFactorMomentUptoRow.holds Tryd.pinned (OpenSpec.upto fnFactorMomentSpec)

/-- 'laws.FnFactorMomentRises', WHERE WHAT IT READS IS OF BULK AT MOST 1048576: true; the input reads as it did. -/
def fnFactorMomentRisesUptoRow : OpenClaim := { program := "ytdghihinednenaadoor", sum := "2ea24f52826af7d64c67fc646e74530a93994a504560249a576fd7e3c5391fdc", func := "loop.example/atomicspectra/laws.FnFactorMomentRises", spec := "fnFactorMomentRises", inPlace := ["internal/reflectlite.TypeOf"], unfollowed := true, recurses := true, named := ["loop.example/atomicspectra/impl.errAtRest", "loop.example/atomicspectra/impl.errLevel"], ifaces := true, apart := false, laid := [("loop.example/atomicspectra/impl.errLevel", laid_loop_example_atomicspectra_impl_errLevel), ("loop.example/atomicspectra/impl.errAtRest", laid_loop_example_atomicspectra_impl_errAtRest)], narrowed := true }
def FnFactorMomentRisesUptoSaid : Prop := fnFactorMomentRisesUptoRow.holds Tryd.pinned (OpenSpec.upto fnFactorMomentRisesSpec)

/-- 'laws.FnExactFactorSum', WHERE WHAT IT READS IS OF BULK AT MOST 1048576: true; the input reads as it did. -/
def fnExactFactorSumUptoRow : OpenClaim := { program := "ytdghihinednenaadoor", sum := "2ea24f52826af7d64c67fc646e74530a93994a504560249a576fd7e3c5391fdc", func := "loop.example/atomicspectra/laws.FnExactFactorSum", spec := "fnExactFactorSum", inPlace := ["internal/reflectlite.TypeOf"], unfollowed := true, recurses := true, named := ["loop.example/atomicspectra/impl.errAtRest", "loop.example/atomicspectra/impl.errLevel"], ifaces := true, apart := false, laid := [("loop.example/atomicspectra/impl.errLevel", laid_loop_example_atomicspectra_impl_errLevel), ("loop.example/atomicspectra/impl.errAtRest", laid_loop_example_atomicspectra_impl_errAtRest)], narrowed := true }
def FnExactFactorSumUptoSaid : Prop := fnExactFactorSumUptoRow.holds Tryd.pinned (OpenSpec.upto fnExactFactorSumSpec)

/-- 'laws.FnFactorSumLevels', WHERE WHAT IT READS IS OF BULK AT MOST 1048576: true; the input reads as it did. -/
def fnFactorSumLevelsUptoRow : OpenClaim := { program := "ytdghihinednenaadoor", sum := "2ea24f52826af7d64c67fc646e74530a93994a504560249a576fd7e3c5391fdc", func := "loop.example/atomicspectra/laws.FnFactorSumLevels", spec := "fnFactorSumLevels", inPlace := ["internal/reflectlite.TypeOf"], unfollowed := true, recurses := true, named := ["loop.example/atomicspectra/impl.errAtRest", "loop.example/atomicspectra/impl.errLevel"], ifaces := true, apart := false, laid := [("loop.example/atomicspectra/impl.errLevel", laid_loop_example_atomicspectra_impl_errLevel), ("loop.example/atomicspectra/impl.errAtRest", laid_loop_example_atomicspectra_impl_errAtRest)], narrowed := true }
def FnFactorSumLevelsUptoSaid : Prop := fnFactorSumLevelsUptoRow.holds Tryd.pinned (OpenSpec.upto fnFactorSumLevelsSpec)

/-- 'laws.FnFactorSum', WHERE WHAT IT READS IS OF BULK AT MOST 1048576: true; the input reads as it did. -/
def fnFactorSumUptoRow : OpenClaim := { program := "ytdghihinednenaadoor", sum := "2ea24f52826af7d64c67fc646e74530a93994a504560249a576fd7e3c5391fdc", func := "loop.example/atomicspectra/laws.FnFactorSum", spec := "fnFactorSum", inPlace := ["internal/reflectlite.TypeOf"], unfollowed := true, recurses := true, named := ["loop.example/atomicspectra/impl.errAtRest", "loop.example/atomicspectra/impl.errLevel"], ifaces := true, apart := false, laid := [("loop.example/atomicspectra/impl.errLevel", laid_loop_example_atomicspectra_impl_errLevel), ("loop.example/atomicspectra/impl.errAtRest", laid_loop_example_atomicspectra_impl_errAtRest)], narrowed := true }
def FnFactorSumUptoSaid : Prop := fnFactorSumUptoRow.holds Tryd.pinned (OpenSpec.upto fnFactorSumSpec)

end Rows
end Go.Proofs.YtdghihinednenaaDoor
