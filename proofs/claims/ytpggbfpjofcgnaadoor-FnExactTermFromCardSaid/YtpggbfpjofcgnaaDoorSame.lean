/-
  The walks of the laws' comparison of lists of levels. Conditions: none.
-/
import Derived.Test.YtpggbfpjofcgnaaDoorLevels
import Derived.Deep.QuietTactic
import Derived.BigQuiet
namespace Go.Proofs.YtpggbfpjofcgnaaDoor
set_option linter.unusedSimpArgs false
set_option linter.unusedVariables false
open Go.RowKit

/-- Block g holds the levels of the term (s, l) with the angular momenta js. -/
def LvAt (w : World) (g : Nat) (s l : Int) (js : List Int) : Prop :=
  ∀ (k : Nat) (j : Int), js[k]? = some j → w.cell? ⟨g, k * 3, none⟩ = some (.int .i64 s) ∧ w.cell? ⟨g, k * 3 + 1, none⟩ = some (.int .i64 l) ∧ w.cell? ⟨g, k * 3 + 2, none⟩ = some (.int .i64 j)
theorem LvAt.keep {w w' : World} {g : Nat} {s l : Int} {js : List Int} (h : LvAt w g s l js) (hk : ∀ o, w'.cell? ⟨g, o, none⟩ = w.cell? ⟨g, o, none⟩) : LvAt w' g s l js :=
  fun k j hj => by obtain ⟨a, b, c⟩ := h k j hj; exact ⟨(hk _).trans a, (hk _).trans b, (hk _).trans c⟩
theorem lvJs_short (s l : Int) : (lvJs s l).length ≤ 25 := by
  cases h : tvB s l
  · simp [lvJs, h]
  · obtain ⟨q1, q2, q3, q4⟩ := lvJs_yes h
    have := cMany_bd q1 q2
    rw [q4, steps_length]; omega

end Go.Proofs.YtpggbfpjofcgnaaDoor
