import Derived.Test.YtjopcpoodhamcaaDoorTmj
import Derived.Test.YtjopcpoodhamcaaDoorGf
import Derived.Test.YtjopcpoodhamcaaDoorTlit
/-
  The contract of impl.TermsOf. Conditions: the table of the library.
-/
namespace Go.Proofs.YtjopcpoodhamcaaDoor
set_option linter.unusedSimpArgs false
set_option linter.unusedVariables false
open Go.RowKit

set_option maxHeartbeats 400000 in
theorem iTerms_any (l n : Int) (w : World) (hT : Tab w) (hsz : 1 < w.heap.size) :
    Calls Tryd.prog 26 #[.int .i64 l, .int .i64 n] w fun e w' => ∃ v, e = .returned v ∧ w'.ownsRow w.heap.size 31 2 v (termsP l n).length (vS (termsP l n)) ∧ Below w.heap.size w w' := by
  cases hv : eOk l n
  · rw [show termsP l n = [] by simp [termsP, hv]]
    go_enter Tryd.func26, Tryd.ntmps26
    go_wp2_with fail
    refine (eValid_any _ _ _).mono ?_
    rintro e w0 ⟨rfl, rfl⟩
    go_wp2
    go_ret
    exact ⟨_, rfl, World.ownsRow_nil _ _ _ _, Below.refl _ _⟩
  · have := iTerms_core l n w strike_ok hv hT hsz
    rw [tsI_is hv] at this
    exact this
theorem termsP_le (l n : Int) : (termsP l n).length ≤ 16 := by
  cases hv : eOk l n
  · simp [termsP, hv]
  · have := tchk hv
    simp only [chkTm, Bool.and_eq_true, decide_eq_true_eq] at this
    exact this.1.1.1.1.1.2
end Go.Proofs.YtjopcpoodhamcaaDoor
