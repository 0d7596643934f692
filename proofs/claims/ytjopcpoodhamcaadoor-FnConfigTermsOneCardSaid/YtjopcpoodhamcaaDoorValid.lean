/-
  The walks of the small functions on numbers: ranges, terms, triangles, levels. Conditions: none.
-/
import Derived.Test.YtjopcpoodhamcaaDoorRows
import Derived.Test.YtjopcpoodhamcaaDoorPlain
import Derived.WalkKit
import Derived.WalkSpells
import Derived.WalkLawsBesides
import Derived.Lib.Hide
namespace Go.Proofs.YtjopcpoodhamcaaDoor
set_option linter.unusedSimpArgs false
set_option linter.unusedVariables false
open Go.RowKit

set_option maxHeartbeats 400000 in
theorem l6In_any (n lo hi : Int) (w : World) :
    Calls Tryd.prog 64 #[.int .i64 n, .int .i64 lo, .int .i64 hi] w fun e w' => e = .returned (.bool (inB n lo hi)) ∧ w = w' := by
  by_cases h1 : lo ≤ n
  · by_cases h2 : n ≤ hi
    · have hb : inB n lo hi = true := by simp [inB, h1, h2]
      rw [hb]
      go_enter Tryd.func64, Tryd.ntmps64
      go_wp2
      go_ret
      exact ⟨rfl, rfl⟩
    · have hb : inB n lo hi = false := by simp [inB, h1, h2]
      rw [hb]
      go_enter Tryd.func64, Tryd.ntmps64
      go_wp2
      go_ret
      exact ⟨rfl, rfl⟩
  · have hb : inB n lo hi = false := by simp [inB, h1]
    rw [hb]
    go_enter Tryd.func64, Tryd.ntmps64
    go_wp2
    go_ret
    exact ⟨rfl, rfl⟩
set_option maxHeartbeats 400000 in
theorem iSpinValid_any (j : Int) (w : World) :
    Calls Tryd.prog 73 #[.int .i64 j] w fun e w' => e = .returned (.bool (spB j)) ∧ w = w' := by
  by_cases h1 : 0 ≤ j
  · by_cases h2 : j ≤ 24
    · have hb : spB j = true := by simp [spB, h1, h2]
      rw [hb]
      go_enter Tryd.func73, Tryd.ntmps73
      go_wp2
      go_ret
      exact ⟨rfl, rfl⟩
    · have hb : spB j = false := by simp [spB, h1, h2]
      rw [hb]
      go_enter Tryd.func73, Tryd.ntmps73
      go_wp2
      go_ret
      exact ⟨rfl, rfl⟩
  · have hb : spB j = false := by simp [spB, h1]
    rw [hb]
    go_enter Tryd.func73, Tryd.ntmps73
    go_wp2
    go_ret
    exact ⟨rfl, rfl⟩

end Go.Proofs.YtjopcpoodhamcaaDoor
