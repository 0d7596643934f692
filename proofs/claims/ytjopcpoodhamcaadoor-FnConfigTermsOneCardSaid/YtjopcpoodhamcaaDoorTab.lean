import Derived.Test.YtjopcpoodhamcaaDoorBits
import Derived.Test.YtjopcpoodhamcaaDoorGa
import Derived.Test.YtjopcpoodhamcaaDoorCards
import Derived.Test.YtjopcpoodhamcaaDoorTie
import Derived.ChangeSame
import Derived.LaidLaws
import Derived.LaidSub
import Derived.Lib.LaidTab
import Derived.Lib.TrailingZeros
import Derived.Deep.DeepHandedRow
/-
  What the rows' list gives of the library's table, and a world for the witness. Conditions: none.
-/
namespace Go.Proofs.YtjopcpoodhamcaaDoor
set_option linter.unusedSimpArgs false
set_option linter.unusedVariables false
open Go.ChangeShapes Go.WideShapes Go.ChangeAt Go.RowKit

abbrev n32 : String := "math/bits.deBruijn32tab"
abbrev n64 : String := "math/bits.deBruijn64tab"
abbrev LT : List (String × DataW Unit) := [(n32, Rows.laid_math_bits_deBruijn32tab), (n64, Rows.laid_math_bits_deBruijn64tab)]
theorem g64 : Tryd.prog.globalNamed n64 = some 1 := by kernel_rfl
theorem g64T : (Tryd.prog.globals[1]?).map (·.type) = some 99 := by kernel_rfl
theorem cells64 : Tryd.prog.cellsOf 99 = 64 := by kernel_rfl
theorem cellsU : Tryd.prog.cellsOf 5 = 1 := by kernel_rfl
theorem metT (W : World) : laidMetH Tryd.prog LT W = laidMet Tryd.prog LT W := by
  have e : (LT.filter fun x => x.2.handleName?.isSome) = [] := by kernel_rfl
  unfold laidMetH
  rw [e]
def zs64 : List Int := tab64.map Int.ofNat
theorem only64 : (LT.filter fun x => x.1 == n64) = [(n64, Lib.tabData .u8 zs64)] := by kernel_rfl
theorem tab_of_laid {W : World} (h : laidMetH Tryd.prog LT W) : Tab W := by
  rw [metT] at h
  have h2 := h.filter (fun x => x.1 == n64)
  rw [only64] at h2
  have t := Lib.tabIs_of_head g64 g64T Tryd.underlying99 Tryd.underlying5 cellsU cells64 h2
  intro i hi
  have hl : i < zs64.length := by simp [zs64, tab64]; exact hi
  rw [t.cell g64 i hl]
  simp [zs64, List.getD, List.getElem?_map]
  cases tab64[i]? <;> simp
def arr32 : Array Value := (Lib.deBruijn32tab.map fun n : Nat => Value.int .u8 (Int.ofNat n)).toArray
def arr64 : Array Value := (tab64.map fun n : Nat => Value.int .u8 (Int.ofNat n)).toArray
noncomputable def laidWorld (os : Os) : World :=
  let w0 := World.holding Tryd.prog os ⟨#[], #[], []⟩
  { w0 with heap := (w0.heap.modify 0 fun
      | .cells _ t frozen => .cells arr32 t frozen
      | o => o).modify 1 fun
      | .cells _ t frozen => .cells arr64 t frozen
      | o => o }
theorem laidWorld_met (os : Os) (args : Array Value) : laidMet Tryd.prog LT ((laidWorld os).forCall (fun _ _ => 0) ⟨#[], args, []⟩).memory :=
  laidMet_of_run' 8 (by kernel_rfl) (by kernel_rfl)
end Go.Proofs.YtjopcpoodhamcaaDoor
