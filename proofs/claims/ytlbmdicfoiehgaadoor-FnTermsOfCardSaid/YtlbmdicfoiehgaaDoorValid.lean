/-
  The walks of the small functions on numbers: ranges, terms, triangles, levels. Conditions: none.
-/
import Derived.Test.YtlbmdicfoiehgaaDoorRows
import Derived.Test.YtlbmdicfoiehgaaDoorPlain
import Derived.WalkKit
import Derived.WalkSpells
import Derived.WalkLawsBesides
import Derived.Lib.Hide
namespace Go.Proofs.YtlbmdicfoiehgaaDoor
set_option linter.unusedSimpArgs false
set_option linter.unusedVariables false
open Go.RowKit

set_option maxHeartbeats 400000 in
theorem l6In_any (n lo hi : Int) (w : World) :
    Calls Tryd.prog 43 #[.int .i64 n, .int .i64 lo, .int .i64 hi] w fun e w' => e = .returned (.bool (inB n lo hi)) ∧ w = w' := by
  by_cases h1 : lo ≤ n
  · by_cases h2 : n ≤ hi
    · have hb : inB n lo hi = true := by simp [inB, h1, h2]
      rw [hb]
      go_enter Tryd.func43, Tryd.ntmps43
      go_wp2
      go_ret
      exact ⟨rfl, rfl⟩
    · have hb : inB n lo hi = false := by simp [inB, h1, h2]
      rw [hb]
      go_enter Tryd.func43, Tryd.ntmps43
      go_wp2
      go_ret
      exact ⟨rfl, rfl⟩
  · have hb : inB n lo hi = false := by simp [inB, h1]
    rw [hb]
    go_enter Tryd.func43, Tryd.ntmps43
    go_wp2
    go_ret
    exact ⟨rfl, rfl⟩

end Go.Proofs.YtlbmdicfoiehgaaDoor
