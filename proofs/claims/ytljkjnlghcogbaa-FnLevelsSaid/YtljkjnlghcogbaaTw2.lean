/-
  The walk of impl.TermWeight. Conditions: none.
-/
import Derived.Test.YtljkjnlghcogbaaDraw
import Derived.Test.YtljkjnlghcogbaaShift
namespace Go.Proofs.Ytljkjnlghcogbaa
set_option linter.unusedSimpArgs false
set_option linter.unusedVariables false
open Go.RowKit

set_option maxHeartbeats 400000 in
theorem iTermWeight_any (s l : Int) (w : World) (hv : tvB s l = true) :
    Calls Try.prog 9 #[.agg #[.int .i64 s, .int .i64 l]] w fun e w' => e = .returned (.int .i64 ((s + 1) * (2 * l + 1))) ∧ Below w.heap.size w w' := by
  have bt := tvB_true hv
  have hm : 0 ≤ (s + 1) * (2 * l + 1) ∧ (s + 1) * (2 * l + 1) ≤ 9 * 17 := by
    constructor
    · exact Int.mul_nonneg (by omega) (by omega)
    · exact Int.mul_le_mul (by omega) (by omega) (by omega) (by omega)
  have q1 : IntKind.i64.wrap ((s + 1) * (2 * l + 1)) = (s + 1) * (2 * l + 1) := IntWalk.i64_in _ (by omega)
  go_enter Try.func9, Try.ntmps9
  go_wp2_with (go_at_call 12; refine (iTermValid_any _ _ _).mono ?_; rintro e w1 ⟨rfl, hb1⟩; obtain ⟨hc1, hf1⟩ := bcell hb1; have hz1 := hb1.size; (try simp only [World.size_alloc, World.size_setCell, World.size_drew, size_drewN] at hz1 hc1 hf1); (have g1a : w.heap.size < w1.heap.size := by omega))
  go_ret
  exact ⟨rfl, by (repeat' first | (with_reducible exact Below.refl _ _) | (with_reducible assumption) | (with_reducible refine below_drewN ?_ _) | (with_reducible refine Below.drew ?_) | (with_reducible refine Below.alloc ?_ ?_ _) | (with_reducible refine Below.setCell ?_ ?_ _) | (with_reducible refine Below.trans ?_ (Below.mono (by assumption) ?_)) | first | omega | (simp only [World.size_alloc, World.size_setCell, World.size_drew, size_drewN]; omega) | (simp; done) | (simp; omega) | (simp only [World.size_alloc, World.size_setCell, World.size_drew, size_drewN] at *; omega) | (simp at *; omega))⟩
end Go.Proofs.Ytljkjnlghcogbaa
