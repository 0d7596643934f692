/-
  Plain laws on factors and moments: what the statements say. Conditions: none.
-/
import Derived.Test.YtdghihinednenaaDoorMomP
namespace Go.Proofs.YtdghihinednenaaDoor
set_option linter.unusedSimpArgs false
set_option linter.unusedVariables false
open Go.RowKit

theorem ret_true {b : Bool} (h : b = true) : Ending.returned (.bool b) = .returned (.bool true) := by rw [h]
theorem facF_true {s l j : Int} (h : (facF s l j).2.2 = true) : lvB s l j = true ∧ 0 < j := by
  unfold facF at h
  split at h
  · assumption
  · cases h
theorem facF_eq {s l j : Int} (h : (facF s l j).2.2 = true) : facF s l j = facR s l j := if_pos (facF_true h)
theorem facF_V {s l j : Int} (h : (facF s l j).2.2 = true) : ratV (facF s l j).1 (facF s l j).2.1 = true := by
  rw [facF_eq h]; exact facR_V (facF_true h).1 (facF_true h).2
theorem momF_true {s l j : Int} (h : (momF s l j).2.2 = true) : lvB s l j = true := by
  unfold momF at h
  split at h
  · assumption
  · cases h
theorem doublet_hi {l j : Int} (h : (facF 1 l j).2.2 = true) (hl : ¬ l = 0) (hj : 2 * l < j) : ratR (2 * l + 2) (2 * l + 1) = ((facF 1 l j).1, (facF 1 l j).2.1, true) := by
  have := allLevels_of (p := fun s l j => !(decide (s = 1) && decide (¬ l = 0) && decide (2 * l < j)) || decide (ratR (2 * l + 2) (2 * l + 1) = ((facF 1 l j).1, (facF 1 l j).2.1, true))) (by decide +kernel) (facF_true h).1
  simpa [hl, hj] using this
theorem doublet_lo {l j : Int} (h : (facF 1 l j).2.2 = true) (hl : ¬ l = 0) (hj : j ≤ 2 * l) : ratR (2 * l) (2 * l + 1) = ((facF 1 l j).1, (facF 1 l j).2.1, true) := by
  have := allLevels_of (p := fun s l j => !(decide (s = 1) && decide (¬ l = 0) && decide (j ≤ 2 * l) && decide (0 < j)) || decide (ratR (2 * l) (2 * l + 1) = ((facF 1 l j).1, (facF 1 l j).2.1, true))) (by decide +kernel) (facF_true h).1
  simpa [hl, hj, (facF_true h).2] using this
theorem top_eq {s l j : Int} (h : (facF s l j).2.2 = true) (hj : j = 2 * l + s) : ratR (j + s) j = ((facF s l j).1, (facF s l j).2.1, true) := by
  have := allLevels_of (p := fun s l j => !(decide (j = 2 * l + s) && decide (0 < j)) || decide (ratR (j + s) j = ((facF s l j).1, (facF s l j).2.1, true))) (by decide +kernel) (facF_true h).1
  simpa [← hj, (facF_true h).2] using this
theorem spin_two {s j : Int} (h : (facF s 0 j).2.2 = true) : facF s 0 j = (2, 1, true) := by
  have := allLevels_of (p := fun s l j => !(decide (l = 0) && decide (0 < j)) || decide (facF s l j = (2, 1, true))) (by decide +kernel) (facF_true h).1
  simpa [(facF_true h).2] using this
theorem spin_one {l j : Int} (h : (facF 0 l j).2.2 = true) : facF 0 l j = (1, 1, true) := by
  have := allLevels_of (p := fun s l j => !(decide (s = 0) && decide (0 < j)) || decide (facF s l j = (1, 1, true))) (by decide +kernel) (facF_true h).1
  simpa [(facF_true h).2] using this
theorem spin_not {j : Int} (h : (facF 0 0 j).2.2 = true) : False := by
  have := spin_two h
  rw [spin_one h] at this
  cases this
theorem swap_ok {s l j : Int} (h : (momF s l j).2.2 = true) (he : s % 2 = 0) (hl : 2 * l ≤ 8) : lvB (2 * l) (s / 2) j = true := by
  have := allLevels_of (p := fun s l j => !(decide (s % 2 = 0) && decide (2 * l ≤ 8)) || lvB (2 * l) (s / 2) j) (by decide +kernel) (momF_true h)
  simpa [he, hl] using this
theorem swap_sum {s l j : Int} (h : (momF s l j).2.2 = true) (he : s % 2 = 0) (hl : 2 * l ≤ 8) : ratR ((momF (2 * l) (s / 2) j).1 * (momF s l j).2.1 + (momF s l j).1 * (momF (2 * l) (s / 2) j).2.1) ((momF (2 * l) (s / 2) j).2.1 * (momF s l j).2.1) = (3 * j * (j + 2), 1, true) := by
  have := allLevels_of (p := fun s l j => !(decide (s % 2 = 0) && decide (2 * l ≤ 8)) || decide (ratR ((momF (2 * l) (s / 2) j).1 * (momF s l j).2.1 + (momF s l j).1 * (momF (2 * l) (s / 2) j).2.1) ((momF (2 * l) (s / 2) j).2.1 * (momF s l j).2.1) = (3 * j * (j + 2), 1, true))) (by decide +kernel) (momF_true h)
  simpa [he, hl] using this
theorem mom_of_fac {s l j : Int} (h : (momF s l j).2.2 = true) (hj : 0 < j) : ratR ((facF s l j).1 * (j * (j + 2))) ((facF s l j).2.1 * 1) = ((momF s l j).1, (momF s l j).2.1, true) := by
  have := allLevels_of (p := fun s l j => !(decide (0 < j)) || decide (ratR ((facF s l j).1 * (j * (j + 2))) ((facF s l j).2.1 * 1) = ((momF s l j).1, (momF s l j).2.1, true))) (by decide +kernel) (momF_true h)
  simpa [hj] using this
theorem fac_at {s l j : Int} (h : (momF s l j).2.2 = true) (hj : 0 < j) : (facF s l j).2.2 = true := by
  have hv := momF_true h
  rw [show facF s l j = facR s l j from if_pos ⟨hv, hj⟩]
  exact facR_ok hv hj
theorem mom_rise {s l j : Int} (h : (momF s l j).2.2 = true) (h2 : (momF s l (j - 2)).2.2 = true) : ratR ((momF s l j).1 * (momF s l (j - 2)).2.1 + -(momF s l (j - 2)).1 * (momF s l j).2.1) ((momF s l j).2.1 * (momF s l (j - 2)).2.1) = (6 * j, 1, true) := by
  have := allLevels_of (p := fun s l j => !((momF s l (j - 2)).2.2) || decide (ratR ((momF s l j).1 * (momF s l (j - 2)).2.1 + -(momF s l (j - 2)).1 * (momF s l j).2.1) ((momF s l j).2.1 * (momF s l (j - 2)).2.1) = (6 * j, 1, true))) (by decide +kernel) (momF_true h)
  simpa [h2] using this
theorem momF_none {s l j : Int} (h : (momF s l j).2.2 = false) : momF s l j = (0, 0, false) := by
  cases hv : lvB s l j
  · simp [momF, hv]
  · rw [(momF_V hv).2] at h; cases h
end Go.Proofs.YtdghihinednenaaDoor
