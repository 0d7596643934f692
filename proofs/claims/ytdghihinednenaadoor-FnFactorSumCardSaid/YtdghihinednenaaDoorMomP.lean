/-
  Plain laws on factors and moments over all valid levels. Conditions: none.
-/
import Derived.Test.YtdghihinednenaaDoorFact
namespace Go.Proofs.YtdghihinednenaaDoor
set_option linter.unusedSimpArgs false
set_option linter.unusedVariables false
open Go.RowKit

/-- FactorOf's answer. -/
def facF (s l j : Int) : Int × Int × Bool := if lvB s l j = true ∧ 0 < j then facR s l j else (0, 0, false)
/-- FactorMoment's answer at a valid level above 0. -/
def momR (s l j : Int) : Int × Int × Bool := ratR (twI s l j) 2
def momF (s l j : Int) : Int × Int × Bool := if lvB s l j = true then (if 0 < j then momR s l j else (0, 1, true)) else (0, 0, false)

/-- All levels in range, as numbers. -/
def allLevels (p : Int → Int → Int → Bool) : Bool := (List.range 9).all fun s => (List.range 9).all fun l => (List.range 25).all fun j => !lvB s l j || p s l j
theorem allLevels_of {p : Int → Int → Int → Bool} (h : allLevels p = true) {s l j : Int} (hv : lvB s l j = true) : p s l j = true := by
  have bd := lvB_bd hv
  obtain ⟨s, rfl⟩ := Int.eq_ofNat_of_zero_le bd.1
  obtain ⟨l, rfl⟩ := Int.eq_ofNat_of_zero_le bd.2.2.1
  obtain ⟨j, rfl⟩ := Int.eq_ofNat_of_zero_le bd.2.2.2.2.1
  unfold allLevels at h
  have h1 := List.all_eq_true.1 h s (List.mem_range.2 (by omega))
  have h2 := List.all_eq_true.1 h1 l (List.mem_range.2 (by omega))
  have h3 := List.all_eq_true.1 h2 j (List.mem_range.2 (by omega))
  simpa [hv] using h3

theorem facR_ok {s l j : Int} (hv : lvB s l j = true) (hj : 0 < j) : (facR s l j).2.2 = true := by
  have := allLevels_of (p := fun s l j => !decide (0 < j) || (facR s l j).2.2) (by decide +kernel) hv
  simpa [hj] using this
theorem facR_V {s l j : Int} (hv : lvB s l j = true) (hj : 0 < j) : ratV (facR s l j).1 (facR s l j).2.1 = true := by
  have := allLevels_of (p := fun s l j => !decide (0 < j) || ratV (facR s l j).1 (facR s l j).2.1) (by decide +kernel) hv
  simpa [hj] using this
theorem momR_of {s l j : Int} (hv : lvB s l j = true) (hj : 0 < j) : ratR ((facR s l j).1 * (j * (j + 2))) ((facR s l j).2.1 * 1) = momR s l j := by
  have := allLevels_of (p := fun s l j => !decide (0 < j) || decide (ratR ((facR s l j).1 * (j * (j + 2))) ((facR s l j).2.1 * 1) = momR s l j)) (by decide +kernel) hv
  simpa [hj] using this
theorem momF_V {s l j : Int} (hv : lvB s l j = true) : ratV (momF s l j).1 (momF s l j).2.1 = true ∧ (momF s l j).2.2 = true := by
  have := allLevels_of (p := fun s l j => ratV (momF s l j).1 (momF s l j).2.1 && (momF s l j).2.2) (by decide +kernel) hv
  simpa using this
theorem momF_zero {s l : Int} (hv : lvB s l 0 = true) : momF s l 0 = (0, 1, true) := by simp [momF, hv]
theorem ratV_int (n : Int) (h0 : -1000000000 ≤ n) (h1 : n ≤ 1000000000) : ratV n 1 = true := by simp [ratV, h0, h1]
theorem ratV_neg {a b : Int} (h : ratV a b = true) : ratV (-a) b = true := by
  have := ratV_true h
  simp [ratV, Int.neg_gcd]; omega
end Go.Proofs.YtdghihinednenaaDoor
