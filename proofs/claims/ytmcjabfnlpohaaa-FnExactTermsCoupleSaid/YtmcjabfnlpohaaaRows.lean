/-
  No cell of these rows narrows 'for every input' (looked for: loops, veiled, ifaces, maps, wideKeys, modest, calm, conditions, laid).
  DERIVED. THE GIVEN ROWS OF THIS SEAT. 12 by the template 'for every input the law returns true; each argument reads behind the call as it read before'; 0 by the template 'total and deterministic' (their statements: YtmcjabfnlpohaaaTotals.lean).
  GIVEN WITH THE SEED: the statements are not yours to turn. If you find one false, say at which input.
  Laid BY PROGRAM, IN A SANDBOX (cutbox-rows.mjs): the forced cells as the released guide's own fill.sh prints them over the translation 2d0792cd6d58fd8b… (all of the seat's roots in one cut). By AI agents, Wed Nov 11 2026. No macro, syntax, notation, axiom, sorry.
-/
import Derived.Test.YtmcjabfnlpohaaaChecked
import GoSem.Claim
import GoSem.ClaimJoined
import GoSem.ClaimMapViews
import Derived.JoinedTies
import Derived.KernelRfl
namespace Go.Proofs.Ytmcjabfnlpohaaa
/- THE CELL 'sum', in the pinned program and in every row, IS THE sha256 OF THE DUMP (.gsa) THAT YtmcjabfnlpohaaaProg.lean LOADS. Nothing in Lean hashes anything: it is a label: what it is worth is what the hold of that sum in a sandbox is worth. -/
noncomputable def Try.pinned : Pinned := { name := "ytmcjabfnlpohaaa", sum := "2d0792cd6d58fd8b8b8dbdc9d5adc5ae6d6ba23d2a7f7aaabbfe5f6ca53f53fe", checked := Try.checked }
namespace Rows
def none {H : Type} : Left H := { results := [], args := [] }

/-- 'laws.FnCoupleNone': WHATEVER THE INPUT: true; the input reads as it did. -/
def fnCoupleNoneSpec : ChangeSpec := { name := "fnCoupleNone", fn := fun _ => fun
  | [d] => { results := [.lit (.bool true)], args := [d] }
  | _ => none }
def fnCoupleNoneRow : OpenClaim := { program := "ytmcjabfnlpohaaa", sum := "2d0792cd6d58fd8b8b8dbdc9d5adc5ae6d6ba23d2a7f7aaabbfe5f6ca53f53fe", func := "loop.example/atomicspectra/laws.FnCoupleNone", spec := "fnCoupleNone", unfollowed := true, recurses := true, apart := false }
def FnCoupleNoneSaid : Prop := fnCoupleNoneRow.holds Try.pinned (OpenSpec.ofChange fnCoupleNoneSpec)

/-- ITS FALSE NEIGHBOUR: 'it returns false'. Refute it at one input. -/
def fnCoupleNoneWrong : ChangeSpec := { name := "fnCoupleNone", fn := fun _ => fun
  | [d] => { results := [.lit (.bool false)], args := [d] }
  | _ => none }
def FnCoupleNoneWrongFalsely : Prop := fnCoupleNoneRow.holds Try.pinned (OpenSpec.ofChange fnCoupleNoneWrong)

/-- 'laws.FnCoupleNumber': WHATEVER THE INPUT: true; the input reads as it did. -/
def fnCoupleNumberSpec : ChangeSpec := { name := "fnCoupleNumber", fn := fun _ => fun
  | [d] => { results := [.lit (.bool true)], args := [d] }
  | _ => none }
def fnCoupleNumberRow : OpenClaim := { program := "ytmcjabfnlpohaaa", sum := "2d0792cd6d58fd8b8b8dbdc9d5adc5ae6d6ba23d2a7f7aaabbfe5f6ca53f53fe", func := "loop.example/atomicspectra/laws.FnCoupleNumber", spec := "fnCoupleNumber", unfollowed := true, recurses := true, apart := false }
def FnCoupleNumberSaid : Prop := fnCoupleNumberRow.holds Try.pinned (OpenSpec.ofChange fnCoupleNumberSpec)

/-- ITS FALSE NEIGHBOUR: 'it returns false'. Refute it at one input. -/
def fnCoupleNumberWrong : ChangeSpec := { name := "fnCoupleNumber", fn := fun _ => fun
  | [d] => { results := [.lit (.bool false)], args := [d] }
  | _ => none }
def FnCoupleNumberWrongFalsely : Prop := fnCoupleNumberRow.holds Try.pinned (OpenSpec.ofChange fnCoupleNumberWrong)

/-- 'laws.FnExactTermsCouple': WHATEVER THE INPUT: true; the input reads as it did. -/
def fnExactTermsCoupleSpec : ChangeSpec := { name := "fnExactTermsCouple", fn := fun _ => fun
  | [d1, d2] => { results := [.lit (.bool true)], args := [d1, d2] }
  | _ => none }
def fnExactTermsCoupleRow : OpenClaim := { program := "ytmcjabfnlpohaaa", sum := "2d0792cd6d58fd8b8b8dbdc9d5adc5ae6d6ba23d2a7f7aaabbfe5f6ca53f53fe", func := "loop.example/atomicspectra/laws.FnExactTermsCouple", spec := "fnExactTermsCouple", unfollowed := true, recurses := true, apart := false }
def FnExactTermsCoupleSaid : Prop := fnExactTermsCoupleRow.holds Try.pinned (OpenSpec.ofChange fnExactTermsCoupleSpec)

/-- ITS FALSE NEIGHBOUR: 'it returns false'. Refute it at one input. -/
def fnExactTermsCoupleWrong : ChangeSpec := { name := "fnExactTermsCouple", fn := fun _ => fun
  | [d1, d2] => { results := [.lit (.bool false)], args := [d1, d2] }
  | _ => none }
def FnExactTermsCoupleWrongFalsely : Prop := fnExactTermsCoupleRow.holds Try.pinned (OpenSpec.ofChange fnExactTermsCoupleWrong)

/-- 'laws.FnCoupleEach': WHATEVER THE INPUT: true; the input reads as it did. -/
def fnCoupleEachSpec : ChangeSpec := { name := "fnCoupleEach", fn := fun _ => fun
  | [d] => { results := [.lit (.bool true)], args := [d] }
  | _ => none }
def fnCoupleEachRow : OpenClaim := { program := "ytmcjabfnlpohaaa", sum := "2d0792cd6d58fd8b8b8dbdc9d5adc5ae6d6ba23d2a7f7aaabbfe5f6ca53f53fe", func := "loop.example/atomicspectra/laws.FnCoupleEach", spec := "fnCoupleEach", unfollowed := true, recurses := true, apart := false }
def FnCoupleEachSaid : Prop := fnCoupleEachRow.holds Try.pinned (OpenSpec.ofChange fnCoupleEachSpec)

/-- ITS FALSE NEIGHBOUR: 'it returns false'. Refute it at one input. -/
def fnCoupleEachWrong : ChangeSpec := { name := "fnCoupleEach", fn := fun _ => fun
  | [d] => { results := [.lit (.bool false)], args := [d] }
  | _ => none }
def FnCoupleEachWrongFalsely : Prop := fnCoupleEachRow.holds Try.pinned (OpenSpec.ofChange fnCoupleEachWrong)

/-- 'laws.FnSortMoved': WHATEVER THE INPUT: true; the input reads as it did. -/
def fnSortMovedSpec : ChangeSpec := { name := "fnSortMoved", fn := fun _ => fun
  | [d1, d2] => { results := [.lit (.bool true)], args := [d1, d2] }
  | _ => none }
def fnSortMovedRow : OpenClaim := { program := "ytmcjabfnlpohaaa", sum := "2d0792cd6d58fd8b8b8dbdc9d5adc5ae6d6ba23d2a7f7aaabbfe5f6ca53f53fe", func := "loop.example/atomicspectra/laws.FnSortMoved", spec := "fnSortMoved", unfollowed := true, recurses := true, apart := false }
def FnSortMovedSaid : Prop := fnSortMovedRow.holds Try.pinned (OpenSpec.ofChange fnSortMovedSpec)

/-- ITS FALSE NEIGHBOUR: 'it returns false'. Refute it at one input. -/
def fnSortMovedWrong : ChangeSpec := { name := "fnSortMoved", fn := fun _ => fun
  | [d1, d2] => { results := [.lit (.bool false)], args := [d1, d2] }
  | _ => none }
def FnSortMovedWrongFalsely : Prop := fnSortMovedRow.holds Try.pinned (OpenSpec.ofChange fnSortMovedWrong)

/-- 'laws.FnCouple': WHATEVER THE INPUT: true; the input reads as it did. -/
def fnCoupleSpec : ChangeSpec := { name := "fnCouple", fn := fun _ => fun
  | [d] => { results := [.lit (.bool true)], args := [d] }
  | _ => none }
def fnCoupleRow : OpenClaim := { program := "ytmcjabfnlpohaaa", sum := "2d0792cd6d58fd8b8b8dbdc9d5adc5ae6d6ba23d2a7f7aaabbfe5f6ca53f53fe", func := "loop.example/atomicspectra/laws.FnCouple", spec := "fnCouple", unfollowed := true, recurses := true, apart := false }
def FnCoupleSaid : Prop := fnCoupleRow.holds Try.pinned (OpenSpec.ofChange fnCoupleSpec)

/-- ITS FALSE NEIGHBOUR: 'it returns false'. Refute it at one input. -/
def fnCoupleWrong : ChangeSpec := { name := "fnCouple", fn := fun _ => fun
  | [d] => { results := [.lit (.bool false)], args := [d] }
  | _ => none }
def FnCoupleWrongFalsely : Prop := fnCoupleRow.holds Try.pinned (OpenSpec.ofChange fnCoupleWrong)

/-- 'laws.FnExactTermsSort': WHATEVER THE INPUT: true; the input reads as it did. -/
def fnExactTermsSortSpec : ChangeSpec := { name := "fnExactTermsSort", fn := fun _ => fun
  | [d] => { results := [.lit (.bool true)], args := [d] }
  | _ => none }
def fnExactTermsSortRow : OpenClaim := { program := "ytmcjabfnlpohaaa", sum := "2d0792cd6d58fd8b8b8dbdc9d5adc5ae6d6ba23d2a7f7aaabbfe5f6ca53f53fe", func := "loop.example/atomicspectra/laws.FnExactTermsSort", spec := "fnExactTermsSort", unfollowed := true, recurses := true, apart := false }
def FnExactTermsSortSaid : Prop := fnExactTermsSortRow.holds Try.pinned (OpenSpec.ofChange fnExactTermsSortSpec)

/-- ITS FALSE NEIGHBOUR: 'it returns false'. Refute it at one input. -/
def fnExactTermsSortWrong : ChangeSpec := { name := "fnExactTermsSort", fn := fun _ => fun
  | [d] => { results := [.lit (.bool false)], args := [d] }
  | _ => none }
def FnExactTermsSortWrongFalsely : Prop := fnExactTermsSortRow.holds Try.pinned (OpenSpec.ofChange fnExactTermsSortWrong)

/-- 'laws.FnSort': WHATEVER THE INPUT: true; the input reads as it did. -/
def fnSortSpec : ChangeSpec := { name := "fnSort", fn := fun _ => fun
  | [d] => { results := [.lit (.bool true)], args := [d] }
  | _ => none }
def fnSortRow : OpenClaim := { program := "ytmcjabfnlpohaaa", sum := "2d0792cd6d58fd8b8b8dbdc9d5adc5ae6d6ba23d2a7f7aaabbfe5f6ca53f53fe", func := "loop.example/atomicspectra/laws.FnSort", spec := "fnSort", unfollowed := true, recurses := true, apart := false }
def FnSortSaid : Prop := fnSortRow.holds Try.pinned (OpenSpec.ofChange fnSortSpec)

/-- ITS FALSE NEIGHBOUR: 'it returns false'. Refute it at one input. -/
def fnSortWrong : ChangeSpec := { name := "fnSort", fn := fun _ => fun
  | [d] => { results := [.lit (.bool false)], args := [d] }
  | _ => none }
def FnSortWrongFalsely : Prop := fnSortRow.holds Try.pinned (OpenSpec.ofChange fnSortWrong)

/-- 'laws.FnJoinThree': WHATEVER THE INPUT: true; the input reads as it did. -/
def fnJoinThreeSpec : ChangeSpec := { name := "fnJoinThree", fn := fun _ => fun
  | [d] => { results := [.lit (.bool true)], args := [d] }
  | _ => none }
def fnJoinThreeRow : OpenClaim := { program := "ytmcjabfnlpohaaa", sum := "2d0792cd6d58fd8b8b8dbdc9d5adc5ae6d6ba23d2a7f7aaabbfe5f6ca53f53fe", func := "loop.example/atomicspectra/laws.FnJoinThree", spec := "fnJoinThree", unfollowed := true, recurses := true, apart := false }
def FnJoinThreeSaid : Prop := fnJoinThreeRow.holds Try.pinned (OpenSpec.ofChange fnJoinThreeSpec)

/-- ITS FALSE NEIGHBOUR: 'it returns false'. Refute it at one input. -/
def fnJoinThreeWrong : ChangeSpec := { name := "fnJoinThree", fn := fun _ => fun
  | [d] => { results := [.lit (.bool false)], args := [d] }
  | _ => none }
def FnJoinThreeWrongFalsely : Prop := fnJoinThreeRow.holds Try.pinned (OpenSpec.ofChange fnJoinThreeWrong)

/-- 'laws.FnJoinNone': WHATEVER THE INPUT: true; the input reads as it did. -/
def fnJoinNoneSpec : ChangeSpec := { name := "fnJoinNone", fn := fun _ => fun
  | [d] => { results := [.lit (.bool true)], args := [d] }
  | _ => none }
def fnJoinNoneRow : OpenClaim := { program := "ytmcjabfnlpohaaa", sum := "2d0792cd6d58fd8b8b8dbdc9d5adc5ae6d6ba23d2a7f7aaabbfe5f6ca53f53fe", func := "loop.example/atomicspectra/laws.FnJoinNone", spec := "fnJoinNone", unfollowed := true, recurses := true, apart := false }
def FnJoinNoneSaid : Prop := fnJoinNoneRow.holds Try.pinned (OpenSpec.ofChange fnJoinNoneSpec)

/-- ITS FALSE NEIGHBOUR: 'it returns false'. Refute it at one input. -/
def fnJoinNoneWrong : ChangeSpec := { name := "fnJoinNone", fn := fun _ => fun
  | [d] => { results := [.lit (.bool false)], args := [d] }
  | _ => none }
def FnJoinNoneWrongFalsely : Prop := fnJoinNoneRow.holds Try.pinned (OpenSpec.ofChange fnJoinNoneWrong)

/-- 'laws.FnJoinParts': WHATEVER THE INPUT: true; the input reads as it did. -/
def fnJoinPartsSpec : ChangeSpec := { name := "fnJoinParts", fn := fun _ => fun
  | [d1, d2] => { results := [.lit (.bool true)], args := [d1, d2] }
  | _ => none }
def fnJoinPartsRow : OpenClaim := { program := "ytmcjabfnlpohaaa", sum := "2d0792cd6d58fd8b8b8dbdc9d5adc5ae6d6ba23d2a7f7aaabbfe5f6ca53f53fe", func := "loop.example/atomicspectra/laws.FnJoinParts", spec := "fnJoinParts", unfollowed := true, recurses := true, apart := false }
def FnJoinPartsSaid : Prop := fnJoinPartsRow.holds Try.pinned (OpenSpec.ofChange fnJoinPartsSpec)

/-- ITS FALSE NEIGHBOUR: 'it returns false'. Refute it at one input. -/
def fnJoinPartsWrong : ChangeSpec := { name := "fnJoinParts", fn := fun _ => fun
  | [d1, d2] => { results := [.lit (.bool false)], args := [d1, d2] }
  | _ => none }
def FnJoinPartsWrongFalsely : Prop := fnJoinPartsRow.holds Try.pinned (OpenSpec.ofChange fnJoinPartsWrong)

/-- 'laws.FnJoin': WHATEVER THE INPUT: true; the input reads as it did. -/
def fnJoinSpec : ChangeSpec := { name := "fnJoin", fn := fun _ => fun
  | [d] => { results := [.lit (.bool true)], args := [d] }
  | _ => none }
def fnJoinRow : OpenClaim := { program := "ytmcjabfnlpohaaa", sum := "2d0792cd6d58fd8b8b8dbdc9d5adc5ae6d6ba23d2a7f7aaabbfe5f6ca53f53fe", func := "loop.example/atomicspectra/laws.FnJoin", spec := "fnJoin", unfollowed := true, recurses := true, apart := false }
def FnJoinSaid : Prop := fnJoinRow.holds Try.pinned (OpenSpec.ofChange fnJoinSpec)

/-- ITS FALSE NEIGHBOUR: 'it returns false'. Refute it at one input. -/
def fnJoinWrong : ChangeSpec := { name := "fnJoin", fn := fun _ => fun
  | [d] => { results := [.lit (.bool false)], args := [d] }
  | _ => none }
def FnJoinWrongFalsely : Prop := fnJoinRow.holds Try.pinned (OpenSpec.ofChange fnJoinWrong)

/- THE SECOND FORM. 'bulk': how many values and letters a reading holds, each counted each time it is reached (what is shared counts as often as it is met; a slice's spare places count too). A statement '..UptoSaid' is the law's where the arguments, and the package variables that the reading takes, are together of bulk at most 1048576: NARROWER than '..Said'. Prove '..Said' where nothing that the law and all that it calls make is longer than what came in: it says more and counts as full. Else prove '..UptoSaid'. A law counts once. -/
mutual
def uptoBulk {H : Type} : DataW H → Nat
  | .lit (.string bytes) => bytes.length + 1
  | .lit _ => 1
  | .nil => 1
  | .ptr d => uptoBulk d + 1
  | .slice elems spare => uptoBulkAll elems + uptoBulkAll spare + 1
  | .agg parts => uptoBulkAll parts + 1
  | .iface _ d => uptoBulk d + 1
  | .map entries => uptoBulkEntries entries + 1
  | .held _ => 1
def uptoBulkAll {H : Type} : List (DataW H) → Nat
  | [] => 0
  | d :: r => uptoBulk d + uptoBulkAll r
def uptoBulkEntries {H : Type} : List (Lit × DataW H) → Nat
  | [] => 0
  | x :: r => uptoBulkEntry x + uptoBulkEntries r
def uptoBulkEntry {H : Type} : Lit × DataW H → Nat
  | (.string bytes, d) => bytes.length + uptoBulk d + 1
  | (_, d) => uptoBulk d + 1
 end
def uptoSmall : (H : Type) → List (DataW H) → Bool := fun _ ds => decide (uptoBulkAll ds ≤ 1048576)
def OpenSpec.upto (s : _root_.Go.ChangeSpec) : _root_.Go.OpenSpec := { _root_.Go.OpenSpec.ofChange s with cond := some uptoSmall }

/-- 'laws.FnCoupleNone', WHERE WHAT IT READS IS OF BULK AT MOST 1048576: true; the input reads as it did. -/
def fnCoupleNoneUptoRow : OpenClaim := { program := "ytmcjabfnlpohaaa", sum := "2d0792cd6d58fd8b8b8dbdc9d5adc5ae6d6ba23d2a7f7aaabbfe5f6ca53f53fe", func := "loop.example/atomicspectra/laws.FnCoupleNone", spec := "fnCoupleNone", unfollowed := true, recurses := true, apart := false, narrowed := true }
def FnCoupleNoneUptoSaid : Prop := fnCoupleNoneUptoRow.holds Try.pinned (OpenSpec.upto fnCoupleNoneSpec)

/-- 'laws.FnCoupleNumber', WHERE WHAT IT READS IS OF BULK AT MOST 1048576: true; the input reads as it did. -/
def fnCoupleNumberUptoRow : OpenClaim := { program := "ytmcjabfnlpohaaa", sum := "2d0792cd6d58fd8b8b8dbdc9d5adc5ae6d6ba23d2a7f7aaabbfe5f6ca53f53fe", func := "loop.example/atomicspectra/laws.FnCoupleNumber", spec := "fnCoupleNumber", unfollowed := true, recurses := true, apart := false, narrowed := true }
def FnCoupleNumberUptoSaid : Prop := fnCoupleNumberUptoRow.holds Try.pinned (OpenSpec.upto fnCoupleNumberSpec)

/-- 'laws.FnExactTermsCouple', WHERE WHAT IT READS IS OF BULK AT MOST 1048576: true; the input reads as it did. -/
def fnExactTermsCoupleUptoRow : OpenClaim := { program := "ytmcjabfnlpohaaa", sum := "2d0792cd6d58fd8b8b8dbdc9d5adc5ae6d6ba23d2a7f7aaabbfe5f6ca53f53fe", func := "loop.example/atomicspectra/laws.FnExactTermsCouple", spec := "fnExactTermsCouple", unfollowed := true, recurses := true, apart := false, narrowed := true }
def FnExactTermsCoupleUptoSaid : Prop := fnExactTermsCoupleUptoRow.holds Try.pinned (OpenSpec.upto fnExactTermsCoupleSpec)

/-- 'laws.FnCoupleEach', WHERE WHAT IT READS IS OF BULK AT MOST 1048576: true; the input reads as it did. -/
def fnCoupleEachUptoRow : OpenClaim := { program := "ytmcjabfnlpohaaa", sum := "2d0792cd6d58fd8b8b8dbdc9d5adc5ae6d6ba23d2a7f7aaabbfe5f6ca53f53fe", func := "loop.example/atomicspectra/laws.FnCoupleEach", spec := "fnCoupleEach", unfollowed := true, recurses := true, apart := false, narrowed := true }
def FnCoupleEachUptoSaid : Prop := fnCoupleEachUptoRow.holds Try.pinned (OpenSpec.upto fnCoupleEachSpec)

/-- 'laws.FnSortMoved', WHERE WHAT IT READS IS OF BULK AT MOST 1048576: true; the input reads as it did. -/
def fnSortMovedUptoRow : OpenClaim := { program := "ytmcjabfnlpohaaa", sum := "2d0792cd6d58fd8b8b8dbdc9d5adc5ae6d6ba23d2a7f7aaabbfe5f6ca53f53fe", func := "loop.example/atomicspectra/laws.FnSortMoved", spec := "fnSortMoved", unfollowed := true, recurses := true, apart := false, narrowed := true }
def FnSortMovedUptoSaid : Prop := fnSortMovedUptoRow.holds Try.pinned (OpenSpec.upto fnSortMovedSpec)

/-- 'laws.FnCouple', WHERE WHAT IT READS IS OF BULK AT MOST 1048576: true; the input reads as it did. -/
def fnCoupleUptoRow : OpenClaim := { program := "ytmcjabfnlpohaaa", sum := "2d0792cd6d58fd8b8b8dbdc9d5adc5ae6d6ba23d2a7f7aaabbfe5f6ca53f53fe", func := "loop.example/atomicspectra/laws.FnCouple", spec := "fnCouple", unfollowed := true, recurses := true, apart := false, narrowed := true }
def FnCoupleUptoSaid : Prop := fnCoupleUptoRow.holds Try.pinned (OpenSpec.upto fnCoupleSpec)

/-- 'laws.FnExactTermsSort', WHERE WHAT IT READS IS OF BULK AT MOST 1048576: true; the input reads as it did. -/
def fnExactTermsSortUptoRow : OpenClaim := { program := "ytmcjabfnlpohaaa", sum := "2d0792cd6d58fd8b8b8dbdc9d5adc5ae6d6ba23d2a7f7aaabbfe5f6ca53f53fe", func := "loop.example/atomicspectra/laws.FnExactTermsSort", spec := "fnExactTermsSort", unfollowed := true, recurses := true, apart := false, narrowed := true }
def FnExactTermsSortUptoSaid : Prop := fnExactTermsSortUptoRow.holds Try.pinned (OpenSpec.upto fnExactTermsSortSpec)

/-- 'laws.FnSort', WHERE WHAT IT READS IS OF BULK AT MOST 1048576: true; the input reads as it did. -/
def fnSortUptoRow : OpenClaim := { program := "ytmcjabfnlpohaaa", sum := "2d0792cd6d58fd8b8b8dbdc9d5adc5ae6d6ba23d2a7f7aaabbfe5f6ca53f53fe", func := "loop.example/atomicspectra/laws.FnSort", spec := "fnSort", unfollowed := true, recurses := true, apart := false, narrowed := true }
def FnSortUptoSaid : Prop := fnSortUptoRow.holds Try.pinned (OpenSpec.upto fnSortSpec)

/-- 'laws.FnJoinThree', WHERE WHAT IT READS IS OF BULK AT MOST 1048576: true; the input reads as it did. -/
def fnJoinThreeUptoRow : OpenClaim := { program := "ytmcjabfnlpohaaa", sum := "2d0792cd6d58fd8b8b8dbdc9d5adc5ae6d6ba23d2a7f7aaabbfe5f6ca53f53fe", func := "loop.example/atomicspectra/laws.FnJoinThree", spec := "fnJoinThree", unfollowed := true, recurses := true, apart := false, narrowed := true }
def FnJoinThreeUptoSaid : Prop := fnJoinThreeUptoRow.holds Try.pinned (OpenSpec.upto fnJoinThreeSpec)

/-- 'laws.FnJoinNone', WHERE WHAT IT READS IS OF BULK AT MOST 1048576: true; the input reads as it did. -/
def fnJoinNoneUptoRow : OpenClaim := { program := "ytmcjabfnlpohaaa", sum := "2d0792cd6d58fd8b8b8dbdc9d5adc5ae6d6ba23d2a7f7aaabbfe5f6ca53f53fe", func := "loop.example/atomicspectra/laws.FnJoinNone", spec := "fnJoinNone", unfollowed := true, recurses := true, apart := false, narrowed := true }
def FnJoinNoneUptoSaid : Prop := fnJoinNoneUptoRow.holds Try.pinned (OpenSpec.upto fnJoinNoneSpec)

/-- 'laws.FnJoinParts', WHERE WHAT IT READS IS OF BULK AT MOST 1048576: true; the input reads as it did. -/
def fnJoinPartsUptoRow : OpenClaim := { program := "ytmcjabfnlpohaaa", sum := "2d0792cd6d58fd8b8b8dbdc9d5adc5ae6d6ba23d2a7f7aaabbfe5f6ca53f53fe", func := "loop.example/atomicspectra/laws.FnJoinParts", spec := "fnJoinParts", unfollowed := true, recurses := true, apart := false, narrowed := true }
def FnJoinPartsUptoSaid : Prop := fnJoinPartsUptoRow.holds Try.pinned (OpenSpec.upto fnJoinPartsSpec)

/-- 'laws.FnJoin', WHERE WHAT IT READS IS OF BULK AT MOST 1048576: true; the input reads as it did. -/
def fnJoinUptoRow : OpenClaim := { program := "ytmcjabfnlpohaaa", sum := "2d0792cd6d58fd8b8b8dbdc9d5adc5ae6d6ba23d2a7f7aaabbfe5f6ca53f53fe", func := "loop.example/atomicspectra/laws.FnJoin", spec := "fnJoin", unfollowed := true, recurses := true, apart := false, narrowed := true }
def FnJoinUptoSaid : Prop := fnJoinUptoRow.holds Try.pinned (OpenSpec.upto fnJoinSpec)

end Rows
end Go.Proofs.Ytmcjabfnlpohaaa
