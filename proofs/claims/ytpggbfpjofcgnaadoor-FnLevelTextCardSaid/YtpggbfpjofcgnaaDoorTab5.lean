/-
  The three tables of the library that the rows list: a world that meets the list. Conditions: none.
-/
import Derived.Test.YtpggbfpjofcgnaaDoorOpen
import Derived.Test.YtpggbfpjofcgnaaDoorCards
import Derived.Test.YtpggbfpjofcgnaaDoorTie
import Derived.ChangeSame
import Derived.LaidLaws
import Derived.LaidSub
import Derived.Lib.LaidTab
import Derived.Lib.TrailingZeros
import Derived.Deep.DeepHandedRow
namespace Go.Proofs.YtpggbfpjofcgnaaDoor
set_option linter.unusedSimpArgs false
set_option linter.unusedVariables false
open Go.ChangeShapes Go.WideShapes Go.ChangeAt Go.RowKit

abbrev n32 : String := "math/bits.deBruijn32tab"
abbrev n64 : String := "math/bits.deBruijn64tab"
abbrev n10 : String := "internal/strconv.uint64pow10"
abbrev LT : List (String × DataW Unit) := [(n32, Rows.laid_math_bits_deBruijn32tab), (n64, Rows.laid_math_bits_deBruijn64tab), (n10, Rows.laid_internal_strconv_uint64pow10)]
theorem metT (W : World) : laidMetH Tryd.prog LT W = laidMet Tryd.prog LT W := by
  have e : (LT.filter fun x => x.2.handleName?.isSome) = [] := by kernel_rfl
  unfold laidMetH
  rw [e]
def arr32 : Array Value := (Lib.deBruijn32tab.map fun n : Nat => Value.int .u8 (Int.ofNat n)).toArray
def arr64 : Array Value := ([0, 1, 56, 2, 57, 49, 28, 3, 61, 58, 42, 50, 38, 29, 17, 4, 62, 47, 59, 36, 45, 43, 51, 22, 53, 39, 33, 30, 24, 18, 12, 5, 63, 55, 48, 27, 60, 41, 37, 16, 46, 35, 44, 21, 52, 32, 23, 11, 54, 26, 40, 15, 34, 20, 31, 10, 25, 14, 19, 9, 13, 8, 7, 6].map fun n : Nat => Value.int .u8 (Int.ofNat n)).toArray
def arr10 : Array Value := ((List.range 20).map fun n : Nat => Value.int .u64 (Int.ofNat (10 ^ n))).toArray
noncomputable def laidWorld (os : Os) : World :=
  let w0 := World.holding Tryd.prog os ⟨#[], #[], []⟩
  { w0 with heap := ((w0.heap.modify 2 fun
      | .cells _ t frozen => .cells arr32 t frozen
      | o => o).modify 3 fun
      | .cells _ t frozen => .cells arr64 t frozen
      | o => o).modify 1 fun
      | .cells _ t frozen => .cells arr10 t frozen
      | o => o }
theorem laidWorld_met (os : Os) (args : Array Value) : laidMet Tryd.prog LT ((laidWorld os).forCall (fun _ _ => 0) ⟨#[], args, []⟩).memory :=
  laidMet_of_run' 8 (by kernel_rfl) (by kernel_rfl)
end Go.Proofs.YtpggbfpjofcgnaaDoor
