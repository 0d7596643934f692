/-
  The walks of squares, shifts and intervals of levels (impl and spec). Conditions: none.
-/
import Derived.Test.YtdghihinednenaaDoorLevel
import Derived.Deep.QuietTactic
import Derived.BigQuiet
import Derived.Deep.RegionHeld3
namespace Go.Proofs.YtdghihinednenaaDoor
set_option linter.unusedSimpArgs false
set_option linter.unusedVariables false
open Go.RowKit

set_option maxHeartbeats 400000 in
theorem l15Square_any (j : Int) (w : World) (h0 : 0 ≤ j) (h1 : j ≤ 100) :
    Calls Tryd.prog 37 #[.int .i64 j] w fun e w' => e = .returned (.int .i64 (j * (j + 2))) ∧ w = w' := by
  have hm := sq_bd j h0 h1
  go_enter Tryd.func37, Tryd.ntmps37
  go_wp2
  go_ret
  exact ⟨rfl, rfl⟩
set_option maxHeartbeats 400000 in
theorem square_any (x y z : Int) (j : Int) (w : World) (h0 : 0 ≤ j) (h1 : j ≤ 100) :
    Calls Tryd.prog 55 #[.agg #[.int .i64 x, .int .i64 y, .int .i64 z], .int .i64 j] w fun e w' => e = .returned (.int .i64 (j * (j + 2))) ∧ Below w.heap.size w w' := by
  have hm := sq_bd j h0 h1
  go_enter Tryd.func55, Tryd.ntmps55
  go_wp2
  go_ret
  exact ⟨rfl, (Below.refl _ _).alloc (Nat.le_refl _) _⟩
end Go.Proofs.YtdghihinednenaaDoor
