/-
  No cell of these rows narrows 'for every input' (looked for: loops, veiled, ifaces, maps, wideKeys, modest, calm, conditions, laid).
  DERIVED. THE GIVEN ROWS OF THIS SEAT. 4 by the template 'for every input the law returns true; each argument reads behind the call as it read before'; 0 by the template 'total and deterministic' (their statements: YtecbkneblcglaaaTotals.lean).
  GIVEN WITH THE SEED: the statements are not yours to turn. If you find one false, say at which input.
  Laid BY PROGRAM, IN A SANDBOX (cutbox-rows.mjs): the forced cells as the released guide's own fill.sh prints them over the translation 881054cc8deaebe3… (all of the seat's roots in one cut). By AI agents, Wed Nov 11 2026. No macro, syntax, notation, axiom, sorry.
-/
import Derived.Test.YtecbkneblcglaaaChecked
import GoSem.Claim
import GoSem.ClaimJoined
import GoSem.ClaimMapViews
import Derived.JoinedTies
import Derived.KernelRfl
namespace Go.Proofs.Ytecbkneblcglaaa
/- THE CELL 'sum', in the pinned program and in every row, IS THE sha256 OF THE DUMP (.gsa) THAT YtecbkneblcglaaaProg.lean LOADS. Nothing in Lean hashes anything: it is a label: what it is worth is what the hold of that sum in a sandbox is worth. -/
noncomputable def Try.pinned : Pinned := { name := "ytecbkneblcglaaa", sum := "881054cc8deaebe382e2185f1665487ad8bfc73f56177e622f638346494d0422", checked := Try.checked }
namespace Rows
def none {H : Type} : Left H := { results := [], args := [] }

/-- 'laws.FnExactLevelValid': WHATEVER THE INPUT: true; the input reads as it did. -/
def fnExactLevelValidSpec : ChangeSpec := { name := "fnExactLevelValid", fn := fun _ => fun
  | [d] => { results := [.lit (.bool true)], args := [d] }
  | _ => none }
def fnExactLevelValidRow : OpenClaim := { program := "ytecbkneblcglaaa", sum := "881054cc8deaebe382e2185f1665487ad8bfc73f56177e622f638346494d0422", func := "loop.example/atomicspectra/laws.FnExactLevelValid", spec := "fnExactLevelValid", apart := false }
def FnExactLevelValidSaid : Prop := fnExactLevelValidRow.holds Try.pinned (OpenSpec.ofChange fnExactLevelValidSpec)

/-- ITS FALSE NEIGHBOUR: 'it returns false'. Refute it at one input. -/
def fnExactLevelValidWrong : ChangeSpec := { name := "fnExactLevelValid", fn := fun _ => fun
  | [d] => { results := [.lit (.bool false)], args := [d] }
  | _ => none }
def FnExactLevelValidWrongFalsely : Prop := fnExactLevelValidRow.holds Try.pinned (OpenSpec.ofChange fnExactLevelValidWrong)

/-- 'laws.FnExactHyperShift': WHATEVER THE INPUT: true; the input reads as it did. -/
def fnExactHyperShiftSpec : ChangeSpec := { name := "fnExactHyperShift", fn := fun _ => fun
  | [d1, d2, d3] => { results := [.lit (.bool true)], args := [d1, d2, d3] }
  | _ => none }
def fnExactHyperShiftRow : OpenClaim := { program := "ytecbkneblcglaaa", sum := "881054cc8deaebe382e2185f1665487ad8bfc73f56177e622f638346494d0422", func := "loop.example/atomicspectra/laws.FnExactHyperShift", spec := "fnExactHyperShift", apart := false }
def FnExactHyperShiftSaid : Prop := fnExactHyperShiftRow.holds Try.pinned (OpenSpec.ofChange fnExactHyperShiftSpec)

/-- ITS FALSE NEIGHBOUR: 'it returns false'. Refute it at one input. -/
def fnExactHyperShiftWrong : ChangeSpec := { name := "fnExactHyperShift", fn := fun _ => fun
  | [d1, d2, d3] => { results := [.lit (.bool false)], args := [d1, d2, d3] }
  | _ => none }
def FnExactHyperShiftWrongFalsely : Prop := fnExactHyperShiftRow.holds Try.pinned (OpenSpec.ofChange fnExactHyperShiftWrong)

/-- 'laws.FnExactLevelShift': WHATEVER THE INPUT: true; the input reads as it did. -/
def fnExactLevelShiftSpec : ChangeSpec := { name := "fnExactLevelShift", fn := fun _ => fun
  | [d] => { results := [.lit (.bool true)], args := [d] }
  | _ => none }
def fnExactLevelShiftRow : OpenClaim := { program := "ytecbkneblcglaaa", sum := "881054cc8deaebe382e2185f1665487ad8bfc73f56177e622f638346494d0422", func := "loop.example/atomicspectra/laws.FnExactLevelShift", spec := "fnExactLevelShift", apart := false }
def FnExactLevelShiftSaid : Prop := fnExactLevelShiftRow.holds Try.pinned (OpenSpec.ofChange fnExactLevelShiftSpec)

/-- ITS FALSE NEIGHBOUR: 'it returns false'. Refute it at one input. -/
def fnExactLevelShiftWrong : ChangeSpec := { name := "fnExactLevelShift", fn := fun _ => fun
  | [d] => { results := [.lit (.bool false)], args := [d] }
  | _ => none }
def FnExactLevelShiftWrongFalsely : Prop := fnExactLevelShiftRow.holds Try.pinned (OpenSpec.ofChange fnExactLevelShiftWrong)

/-- 'laws.FnExactLevelInterval': WHATEVER THE INPUT: true; the input reads as it did. -/
def fnExactLevelIntervalSpec : ChangeSpec := { name := "fnExactLevelInterval", fn := fun _ => fun
  | [d] => { results := [.lit (.bool true)], args := [d] }
  | _ => none }
def fnExactLevelIntervalRow : OpenClaim := { program := "ytecbkneblcglaaa", sum := "881054cc8deaebe382e2185f1665487ad8bfc73f56177e622f638346494d0422", func := "loop.example/atomicspectra/laws.FnExactLevelInterval", spec := "fnExactLevelInterval", apart := false }
def FnExactLevelIntervalSaid : Prop := fnExactLevelIntervalRow.holds Try.pinned (OpenSpec.ofChange fnExactLevelIntervalSpec)

/-- ITS FALSE NEIGHBOUR: 'it returns false'. Refute it at one input. -/
def fnExactLevelIntervalWrong : ChangeSpec := { name := "fnExactLevelInterval", fn := fun _ => fun
  | [d] => { results := [.lit (.bool false)], args := [d] }
  | _ => none }
def FnExactLevelIntervalWrongFalsely : Prop := fnExactLevelIntervalRow.holds Try.pinned (OpenSpec.ofChange fnExactLevelIntervalWrong)

/- THE SECOND FORM. 'bulk': how many values and letters a reading holds, each counted each time it is reached (what is shared counts as often as it is met; a slice's spare places count too). A statement '..UptoSaid' is the law's where the arguments, and the package variables that the reading takes, are together of bulk at most 1048576: NARROWER than '..Said'. Prove '..Said' where nothing that the law and all that it calls make is longer than what came in: it says more and counts as full. Else prove '..UptoSaid'. A law counts once. -/
mutual
def uptoBulk {H : Type} : DataW H → Nat
  | .lit (.string bytes) => bytes.length + 1
  | .lit _ => 1
  | .nil => 1
  | .ptr d => uptoBulk d + 1
  | .slice elems spare => uptoBulkAll elems + uptoBulkAll spare + 1
  | .agg parts => uptoBulkAll parts + 1
  | .iface _ d => uptoBulk d + 1
  | .map entries => uptoBulkEntries entries + 1
  | .held _ => 1
def uptoBulkAll {H : Type} : List (DataW H) → Nat
  | [] => 0
  | d :: r => uptoBulk d + uptoBulkAll r
def uptoBulkEntries {H : Type} : List (Lit × DataW H) → Nat
  | [] => 0
  | x :: r => uptoBulkEntry x + uptoBulkEntries r
def uptoBulkEntry {H : Type} : Lit × DataW H → Nat
  | (.string bytes, d) => bytes.length + uptoBulk d + 1
  | (_, d) => uptoBulk d + 1
 end
def uptoSmall : (H : Type) → List (DataW H) → Bool := fun _ ds => decide (uptoBulkAll ds ≤ 1048576)
def OpenSpec.upto (s : _root_.Go.ChangeSpec) : _root_.Go.OpenSpec := { _root_.Go.OpenSpec.ofChange s with cond := some uptoSmall }

/-- 'laws.FnExactLevelValid', WHERE WHAT IT READS IS OF BULK AT MOST 1048576: true; the input reads as it did. -/
def fnExactLevelValidUptoRow : OpenClaim := { program := "ytecbkneblcglaaa", sum := "881054cc8deaebe382e2185f1665487ad8bfc73f56177e622f638346494d0422", func := "loop.example/atomicspectra/laws.FnExactLevelValid", spec := "fnExactLevelValid", apart := false, narrowed := true }
def FnExactLevelValidUptoSaid : Prop := fnExactLevelValidUptoRow.holds Try.pinned (OpenSpec.upto fnExactLevelValidSpec)

/-- 'laws.FnExactHyperShift', WHERE WHAT IT READS IS OF BULK AT MOST 1048576: true; the input reads as it did. -/
def fnExactHyperShiftUptoRow : OpenClaim := { program := "ytecbkneblcglaaa", sum := "881054cc8deaebe382e2185f1665487ad8bfc73f56177e622f638346494d0422", func := "loop.example/atomicspectra/laws.FnExactHyperShift", spec := "fnExactHyperShift", apart := false, narrowed := true }
def FnExactHyperShiftUptoSaid : Prop := fnExactHyperShiftUptoRow.holds Try.pinned (OpenSpec.upto fnExactHyperShiftSpec)

/-- 'laws.FnExactLevelShift', WHERE WHAT IT READS IS OF BULK AT MOST 1048576: true; the input reads as it did. -/
def fnExactLevelShiftUptoRow : OpenClaim := { program := "ytecbkneblcglaaa", sum := "881054cc8deaebe382e2185f1665487ad8bfc73f56177e622f638346494d0422", func := "loop.example/atomicspectra/laws.FnExactLevelShift", spec := "fnExactLevelShift", apart := false, narrowed := true }
def FnExactLevelShiftUptoSaid : Prop := fnExactLevelShiftUptoRow.holds Try.pinned (OpenSpec.upto fnExactLevelShiftSpec)

/-- 'laws.FnExactLevelInterval', WHERE WHAT IT READS IS OF BULK AT MOST 1048576: true; the input reads as it did. -/
def fnExactLevelIntervalUptoRow : OpenClaim := { program := "ytecbkneblcglaaa", sum := "881054cc8deaebe382e2185f1665487ad8bfc73f56177e622f638346494d0422", func := "loop.example/atomicspectra/laws.FnExactLevelInterval", spec := "fnExactLevelInterval", apart := false, narrowed := true }
def FnExactLevelIntervalUptoSaid : Prop := fnExactLevelIntervalUptoRow.holds Try.pinned (OpenSpec.upto fnExactLevelIntervalSpec)

end Rows
end Go.Proofs.Ytecbkneblcglaaa
