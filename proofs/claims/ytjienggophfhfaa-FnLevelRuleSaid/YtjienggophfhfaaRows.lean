/-
  No cell of these rows narrows 'for every input' (looked for: loops, veiled, ifaces, maps, wideKeys, modest, calm, conditions, laid).
  DERIVED. THE GIVEN ROWS OF THIS SEAT. 9 by the template 'for every input the law returns true; each argument reads behind the call as it read before'; 0 by the template 'total and deterministic' (their statements: YtjienggophfhfaaTotals.lean).
  GIVEN WITH THE SEED: the statements are not yours to turn. If you find one false, say at which input.
  Laid BY PROGRAM, IN A SANDBOX (cutbox-rows.mjs): the forced cells as the released guide's own fill.sh prints them over the translation d37203eb252286d7… (all of the seat's roots in one cut). By AI agents, Wed Nov 11 2026. No macro, syntax, notation, axiom, sorry.
-/
import Derived.Test.YtjienggophfhfaaChecked
import GoSem.Claim
import GoSem.ClaimJoined
import GoSem.ClaimMapViews
import Derived.JoinedTies
import Derived.KernelRfl
namespace Go.Proofs.Ytjienggophfhfaa
/- THE CELL 'sum', in the pinned program and in every row, IS THE sha256 OF THE DUMP (.gsa) THAT YtjienggophfhfaaProg.lean LOADS. Nothing in Lean hashes anything: it is a label: what it is worth is what the hold of that sum in a sandbox is worth. -/
noncomputable def Try.pinned : Pinned := { name := "ytjienggophfhfaa", sum := "d37203eb252286d7a94b11239be9d4f849cb09c6e6891ae214fe6fcf2ac3d4a5", checked := Try.checked }
namespace Rows
def none {H : Type} : Left H := { results := [], args := [] }

/-- 'laws.FnLevelParity': WHATEVER THE INPUT: true; the input reads as it did. -/
def fnLevelParitySpec : ChangeSpec := { name := "fnLevelParity", fn := fun _ => fun
  | [d] => { results := [.lit (.bool true)], args := [d] }
  | _ => none }
def fnLevelParityRow : OpenClaim := { program := "ytjienggophfhfaa", sum := "d37203eb252286d7a94b11239be9d4f849cb09c6e6891ae214fe6fcf2ac3d4a5", func := "loop.example/atomicspectra/laws.FnLevelParity", spec := "fnLevelParity", apart := false }
def FnLevelParitySaid : Prop := fnLevelParityRow.holds Try.pinned (OpenSpec.ofChange fnLevelParitySpec)

/-- ITS FALSE NEIGHBOUR: 'it returns false'. Refute it at one input. -/
def fnLevelParityWrong : ChangeSpec := { name := "fnLevelParity", fn := fun _ => fun
  | [d] => { results := [.lit (.bool false)], args := [d] }
  | _ => none }
def FnLevelParityWrongFalsely : Prop := fnLevelParityRow.holds Try.pinned (OpenSpec.ofChange fnLevelParityWrong)

/-- 'laws.FnLevelsMany': WHATEVER THE INPUT: true; the input reads as it did. -/
def fnLevelsManySpec : ChangeSpec := { name := "fnLevelsMany", fn := fun _ => fun
  | [d] => { results := [.lit (.bool true)], args := [d] }
  | _ => none }
def fnLevelsManyRow : OpenClaim := { program := "ytjienggophfhfaa", sum := "d37203eb252286d7a94b11239be9d4f849cb09c6e6891ae214fe6fcf2ac3d4a5", func := "loop.example/atomicspectra/laws.FnLevelsMany", spec := "fnLevelsMany", apart := false }
def FnLevelsManySaid : Prop := fnLevelsManyRow.holds Try.pinned (OpenSpec.ofChange fnLevelsManySpec)

/-- ITS FALSE NEIGHBOUR: 'it returns false'. Refute it at one input. -/
def fnLevelsManyWrong : ChangeSpec := { name := "fnLevelsMany", fn := fun _ => fun
  | [d] => { results := [.lit (.bool false)], args := [d] }
  | _ => none }
def FnLevelsManyWrongFalsely : Prop := fnLevelsManyRow.holds Try.pinned (OpenSpec.ofChange fnLevelsManyWrong)

/-- 'laws.FnLevels': WHATEVER THE INPUT: true; the input reads as it did. -/
def fnLevelsSpec : ChangeSpec := { name := "fnLevels", fn := fun _ => fun
  | [d] => { results := [.lit (.bool true)], args := [d] }
  | _ => none }
def fnLevelsRow : OpenClaim := { program := "ytjienggophfhfaa", sum := "d37203eb252286d7a94b11239be9d4f849cb09c6e6891ae214fe6fcf2ac3d4a5", func := "loop.example/atomicspectra/laws.FnLevels", spec := "fnLevels", apart := false }
def FnLevelsSaid : Prop := fnLevelsRow.holds Try.pinned (OpenSpec.ofChange fnLevelsSpec)

/-- ITS FALSE NEIGHBOUR: 'it returns false'. Refute it at one input. -/
def fnLevelsWrong : ChangeSpec := { name := "fnLevels", fn := fun _ => fun
  | [d] => { results := [.lit (.bool false)], args := [d] }
  | _ => none }
def FnLevelsWrongFalsely : Prop := fnLevelsRow.holds Try.pinned (OpenSpec.ofChange fnLevelsWrong)

/-- 'laws.FnLevel': WHATEVER THE INPUT: true; the input reads as it did. -/
def fnLevelSpec : ChangeSpec := { name := "fnLevel", fn := fun _ => fun
  | [d] => { results := [.lit (.bool true)], args := [d] }
  | _ => none }
def fnLevelRow : OpenClaim := { program := "ytjienggophfhfaa", sum := "d37203eb252286d7a94b11239be9d4f849cb09c6e6891ae214fe6fcf2ac3d4a5", func := "loop.example/atomicspectra/laws.FnLevel", spec := "fnLevel", apart := false }
def FnLevelSaid : Prop := fnLevelRow.holds Try.pinned (OpenSpec.ofChange fnLevelSpec)

/-- ITS FALSE NEIGHBOUR: 'it returns false'. Refute it at one input. -/
def fnLevelWrong : ChangeSpec := { name := "fnLevel", fn := fun _ => fun
  | [d] => { results := [.lit (.bool false)], args := [d] }
  | _ => none }
def FnLevelWrongFalsely : Prop := fnLevelRow.holds Try.pinned (OpenSpec.ofChange fnLevelWrong)

/-- 'laws.FnExactLevelsOf': WHATEVER THE INPUT: true; the input reads as it did. -/
def fnExactLevelsOfSpec : ChangeSpec := { name := "fnExactLevelsOf", fn := fun _ => fun
  | [d] => { results := [.lit (.bool true)], args := [d] }
  | _ => none }
def fnExactLevelsOfRow : OpenClaim := { program := "ytjienggophfhfaa", sum := "d37203eb252286d7a94b11239be9d4f849cb09c6e6891ae214fe6fcf2ac3d4a5", func := "loop.example/atomicspectra/laws.FnExactLevelsOf", spec := "fnExactLevelsOf", apart := false }
def FnExactLevelsOfSaid : Prop := fnExactLevelsOfRow.holds Try.pinned (OpenSpec.ofChange fnExactLevelsOfSpec)

/-- ITS FALSE NEIGHBOUR: 'it returns false'. Refute it at one input. -/
def fnExactLevelsOfWrong : ChangeSpec := { name := "fnExactLevelsOf", fn := fun _ => fun
  | [d] => { results := [.lit (.bool false)], args := [d] }
  | _ => none }
def FnExactLevelsOfWrongFalsely : Prop := fnExactLevelsOfRow.holds Try.pinned (OpenSpec.ofChange fnExactLevelsOfWrong)

/-- 'laws.FnLevelMean': WHATEVER THE INPUT: true; the input reads as it did. -/
def fnLevelMeanSpec : ChangeSpec := { name := "fnLevelMean", fn := fun _ => fun
  | [d] => { results := [.lit (.bool true)], args := [d] }
  | _ => none }
def fnLevelMeanRow : OpenClaim := { program := "ytjienggophfhfaa", sum := "d37203eb252286d7a94b11239be9d4f849cb09c6e6891ae214fe6fcf2ac3d4a5", func := "loop.example/atomicspectra/laws.FnLevelMean", spec := "fnLevelMean", apart := false }
def FnLevelMeanSaid : Prop := fnLevelMeanRow.holds Try.pinned (OpenSpec.ofChange fnLevelMeanSpec)

/-- ITS FALSE NEIGHBOUR: 'it returns false'. Refute it at one input. -/
def fnLevelMeanWrong : ChangeSpec := { name := "fnLevelMean", fn := fun _ => fun
  | [d] => { results := [.lit (.bool false)], args := [d] }
  | _ => none }
def FnLevelMeanWrongFalsely : Prop := fnLevelMeanRow.holds Try.pinned (OpenSpec.ofChange fnLevelMeanWrong)

/-- 'laws.FnLevelTop': WHATEVER THE INPUT: true; the input reads as it did. -/
def fnLevelTopSpec : ChangeSpec := { name := "fnLevelTop", fn := fun _ => fun
  | [d] => { results := [.lit (.bool true)], args := [d] }
  | _ => none }
def fnLevelTopRow : OpenClaim := { program := "ytjienggophfhfaa", sum := "d37203eb252286d7a94b11239be9d4f849cb09c6e6891ae214fe6fcf2ac3d4a5", func := "loop.example/atomicspectra/laws.FnLevelTop", spec := "fnLevelTop", apart := false }
def FnLevelTopSaid : Prop := fnLevelTopRow.holds Try.pinned (OpenSpec.ofChange fnLevelTopSpec)

/-- ITS FALSE NEIGHBOUR: 'it returns false'. Refute it at one input. -/
def fnLevelTopWrong : ChangeSpec := { name := "fnLevelTop", fn := fun _ => fun
  | [d] => { results := [.lit (.bool false)], args := [d] }
  | _ => none }
def FnLevelTopWrongFalsely : Prop := fnLevelTopRow.holds Try.pinned (OpenSpec.ofChange fnLevelTopWrong)

/-- 'laws.FnLevelRule': WHATEVER THE INPUT: true; the input reads as it did. -/
def fnLevelRuleSpec : ChangeSpec := { name := "fnLevelRule", fn := fun _ => fun
  | [d] => { results := [.lit (.bool true)], args := [d] }
  | _ => none }
def fnLevelRuleRow : OpenClaim := { program := "ytjienggophfhfaa", sum := "d37203eb252286d7a94b11239be9d4f849cb09c6e6891ae214fe6fcf2ac3d4a5", func := "loop.example/atomicspectra/laws.FnLevelRule", spec := "fnLevelRule", apart := false }
def FnLevelRuleSaid : Prop := fnLevelRuleRow.holds Try.pinned (OpenSpec.ofChange fnLevelRuleSpec)

/-- ITS FALSE NEIGHBOUR: 'it returns false'. Refute it at one input. -/
def fnLevelRuleWrong : ChangeSpec := { name := "fnLevelRule", fn := fun _ => fun
  | [d] => { results := [.lit (.bool false)], args := [d] }
  | _ => none }
def FnLevelRuleWrongFalsely : Prop := fnLevelRuleRow.holds Try.pinned (OpenSpec.ofChange fnLevelRuleWrong)

/-- 'laws.FnLevelShift': WHATEVER THE INPUT: true; the input reads as it did. -/
def fnLevelShiftSpec : ChangeSpec := { name := "fnLevelShift", fn := fun _ => fun
  | [d] => { results := [.lit (.bool true)], args := [d] }
  | _ => none }
def fnLevelShiftRow : OpenClaim := { program := "ytjienggophfhfaa", sum := "d37203eb252286d7a94b11239be9d4f849cb09c6e6891ae214fe6fcf2ac3d4a5", func := "loop.example/atomicspectra/laws.FnLevelShift", spec := "fnLevelShift", apart := false }
def FnLevelShiftSaid : Prop := fnLevelShiftRow.holds Try.pinned (OpenSpec.ofChange fnLevelShiftSpec)

/-- ITS FALSE NEIGHBOUR: 'it returns false'. Refute it at one input. -/
def fnLevelShiftWrong : ChangeSpec := { name := "fnLevelShift", fn := fun _ => fun
  | [d] => { results := [.lit (.bool false)], args := [d] }
  | _ => none }
def FnLevelShiftWrongFalsely : Prop := fnLevelShiftRow.holds Try.pinned (OpenSpec.ofChange fnLevelShiftWrong)

/- THE SECOND FORM. 'bulk': how many values and letters a reading holds, each counted each time it is reached (what is shared counts as often as it is met; a slice's spare places count too). A statement '..UptoSaid' is the law's where the arguments, and the package variables that the reading takes, are together of bulk at most 1048576: NARROWER than '..Said'. Prove '..Said' where nothing that the law and all that it calls make is longer than what came in: it says more and counts as full. Else prove '..UptoSaid'. A law counts once. -/
mutual
def uptoBulk {H : Type} : DataW H → Nat
  | .lit (.string bytes) => bytes.length + 1
  | .lit _ => 1
  | .nil => 1
  | .ptr d => uptoBulk d + 1
  | .slice elems spare => uptoBulkAll elems + uptoBulkAll spare + 1
  | .agg parts => uptoBulkAll parts + 1
  | .iface _ d => uptoBulk d + 1
  | .map entries => uptoBulkEntries entries + 1
  | .held _ => 1
def uptoBulkAll {H : Type} : List (DataW H) → Nat
  | [] => 0
  | d :: r => uptoBulk d + uptoBulkAll r
def uptoBulkEntries {H : Type} : List (Lit × DataW H) → Nat
  | [] => 0
  | x :: r => uptoBulkEntry x + uptoBulkEntries r
def uptoBulkEntry {H : Type} : Lit × DataW H → Nat
  | (.string bytes, d) => bytes.length + uptoBulk d + 1
  | (_, d) => uptoBulk d + 1
 end
def uptoSmall : (H : Type) → List (DataW H) → Bool := fun _ ds => decide (uptoBulkAll ds ≤ 1048576)
def OpenSpec.upto (s : _root_.Go.ChangeSpec) : _root_.Go.OpenSpec := { _root_.Go.OpenSpec.ofChange s with cond := some uptoSmall }

/-- 'laws.FnLevelParity', WHERE WHAT IT READS IS OF BULK AT MOST 1048576: true; the input reads as it did. -/
def fnLevelParityUptoRow : OpenClaim := { program := "ytjienggophfhfaa", sum := "d37203eb252286d7a94b11239be9d4f849cb09c6e6891ae214fe6fcf2ac3d4a5", func := "loop.example/atomicspectra/laws.FnLevelParity", spec := "fnLevelParity", apart := false, narrowed := true }
def FnLevelParityUptoSaid : Prop := fnLevelParityUptoRow.holds Try.pinned (OpenSpec.upto fnLevelParitySpec)

/-- 'laws.FnLevelsMany', WHERE WHAT IT READS IS OF BULK AT MOST 1048576: true; the input reads as it did. -/
def fnLevelsManyUptoRow : OpenClaim := { program := "ytjienggophfhfaa", sum := "d37203eb252286d7a94b11239be9d4f849cb09c6e6891ae214fe6fcf2ac3d4a5", func := "loop.example/atomicspectra/laws.FnLevelsMany", spec := "fnLevelsMany", apart := false, narrowed := true }
def FnLevelsManyUptoSaid : Prop := fnLevelsManyUptoRow.holds Try.pinned (OpenSpec.upto fnLevelsManySpec)

/-- 'laws.FnLevels', WHERE WHAT IT READS IS OF BULK AT MOST 1048576: true; the input reads as it did. -/
def fnLevelsUptoRow : OpenClaim := { program := "ytjienggophfhfaa", sum := "d37203eb252286d7a94b11239be9d4f849cb09c6e6891ae214fe6fcf2ac3d4a5", func := "loop.example/atomicspectra/laws.FnLevels", spec := "fnLevels", apart := false, narrowed := true }
def FnLevelsUptoSaid : Prop := fnLevelsUptoRow.holds Try.pinned (OpenSpec.upto fnLevelsSpec)

/-- 'laws.FnLevel', WHERE WHAT IT READS IS OF BULK AT MOST 1048576: true; the input reads as it did. -/
def fnLevelUptoRow : OpenClaim := { program := "ytjienggophfhfaa", sum := "d37203eb252286d7a94b11239be9d4f849cb09c6e6891ae214fe6fcf2ac3d4a5", func := "loop.example/atomicspectra/laws.FnLevel", spec := "fnLevel", apart := false, narrowed := true }
def FnLevelUptoSaid : Prop := fnLevelUptoRow.holds Try.pinned (OpenSpec.upto fnLevelSpec)

/-- 'laws.FnExactLevelsOf', WHERE WHAT IT READS IS OF BULK AT MOST 1048576: true; the input reads as it did. -/
def fnExactLevelsOfUptoRow : OpenClaim := { program := "ytjienggophfhfaa", sum := "d37203eb252286d7a94b11239be9d4f849cb09c6e6891ae214fe6fcf2ac3d4a5", func := "loop.example/atomicspectra/laws.FnExactLevelsOf", spec := "fnExactLevelsOf", apart := false, narrowed := true }
def FnExactLevelsOfUptoSaid : Prop := fnExactLevelsOfUptoRow.holds Try.pinned (OpenSpec.upto fnExactLevelsOfSpec)

/-- 'laws.FnLevelMean', WHERE WHAT IT READS IS OF BULK AT MOST 1048576: true; the input reads as it did. -/
def fnLevelMeanUptoRow : OpenClaim := { program := "ytjienggophfhfaa", sum := "d37203eb252286d7a94b11239be9d4f849cb09c6e6891ae214fe6fcf2ac3d4a5", func := "loop.example/atomicspectra/laws.FnLevelMean", spec := "fnLevelMean", apart := false, narrowed := true }
def FnLevelMeanUptoSaid : Prop := fnLevelMeanUptoRow.holds Try.pinned (OpenSpec.upto fnLevelMeanSpec)

/-- 'laws.FnLevelTop', WHERE WHAT IT READS IS OF BULK AT MOST 1048576: true; the input reads as it did. -/
def fnLevelTopUptoRow : OpenClaim := { program := "ytjienggophfhfaa", sum := "d37203eb252286d7a94b11239be9d4f849cb09c6e6891ae214fe6fcf2ac3d4a5", func := "loop.example/atomicspectra/laws.FnLevelTop", spec := "fnLevelTop", apart := false, narrowed := true }
def FnLevelTopUptoSaid : Prop := fnLevelTopUptoRow.holds Try.pinned (OpenSpec.upto fnLevelTopSpec)

/-- 'laws.FnLevelRule', WHERE WHAT IT READS IS OF BULK AT MOST 1048576: true; the input reads as it did. -/
def fnLevelRuleUptoRow : OpenClaim := { program := "ytjienggophfhfaa", sum := "d37203eb252286d7a94b11239be9d4f849cb09c6e6891ae214fe6fcf2ac3d4a5", func := "loop.example/atomicspectra/laws.FnLevelRule", spec := "fnLevelRule", apart := false, narrowed := true }
def FnLevelRuleUptoSaid : Prop := fnLevelRuleUptoRow.holds Try.pinned (OpenSpec.upto fnLevelRuleSpec)

/-- 'laws.FnLevelShift', WHERE WHAT IT READS IS OF BULK AT MOST 1048576: true; the input reads as it did. -/
def fnLevelShiftUptoRow : OpenClaim := { program := "ytjienggophfhfaa", sum := "d37203eb252286d7a94b11239be9d4f849cb09c6e6891ae214fe6fcf2ac3d4a5", func := "loop.example/atomicspectra/laws.FnLevelShift", spec := "fnLevelShift", apart := false, narrowed := true }
def FnLevelShiftUptoSaid : Prop := fnLevelShiftUptoRow.holds Try.pinned (OpenSpec.upto fnLevelShiftSpec)

end Rows
end Go.Proofs.Ytjienggophfhfaa
