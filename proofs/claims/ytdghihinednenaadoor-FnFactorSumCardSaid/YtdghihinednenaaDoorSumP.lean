/-
  Plain laws on the sums of moments over the levels of a term. Conditions: none.
-/
import Derived.Test.YtdghihinednenaaDoorMomQ
namespace Go.Proofs.YtdghihinednenaaDoor
set_option linter.unusedSimpArgs false
set_option linter.unusedVariables false
open Go.RowKit

def jAt (s l : Int) (k : Nat) : Int := absd (2 * l) s + 2 * (k : Int)
/-- The number of levels. -/
def nLv (s l : Int) : Nat := cMany (2 * l) s
/-- A level's share of the sum. -/
def partR (s l j : Int) : Int × Int × Bool := ratR ((momF s l j).1 * (j + 1)) ((momF s l j).2.1 * 1)
def ratStep (a p : Int × Int × Bool) : Int × Int × Bool := ratR (a.1 * p.2.1 + p.1 * a.2.1) (a.2.1 * p.2.1)
def accR (s l : Int) : Nat → Int × Int × Bool
  | 0 => (0, 1, true)
  | k + 1 => ratStep (accR s l k) (partR s l (jAt s l k))
def sumI (s l : Int) : Nat → Int
  | 0 => 0
  | k + 1 => if 0 < jAt s l k then sumI s l k + (jAt s l k + 1) * twI s l (jAt s l k) else sumI s l k
def sumR (s l : Int) : Int × Int × Bool := if tvB s l = true then ratR (sumI s l (nLv s l)) 2 else (0, 0, false)
def wgt (s l : Int) : Int := (s + 1) * (2 * l + 1)

theorem fin_terms (P : Int → Int → Bool) (h : ((List.range 9).all fun a => (List.range 9).all fun b => P (a : Int) (b : Int)) = true) {s l : Int} (hv : tvB s l = true) : P s l = true := by
  have b := tvB_true hv
  obtain ⟨s, rfl⟩ := Int.eq_ofNat_of_zero_le b.1
  obtain ⟨l, rfl⟩ := Int.eq_ofNat_of_zero_le b.2.2.1
  have h1 := List.all_eq_true.1 h s (List.mem_range.2 (by omega))
  exact List.all_eq_true.1 h1 l (List.mem_range.2 (by omega))
theorem fin_lv (P : Int → Int → Nat → Bool) (h : ((List.range 9).all fun a => (List.range 9).all fun b => (List.range (nLv a b + 1)).all fun k => P (a : Int) (b : Int) k) = true) {s l : Int} (hv : tvB s l = true) {k : Nat} (hk : k ≤ nLv s l) : P s l k = true := by
  have h1 := fin_terms (fun a b => (List.range (nLv a b + 1)).all fun k => P a b k) h hv
  exact List.all_eq_true.1 h1 k (List.mem_range.2 (by omega))
theorem nLv_bd {s l : Int} (hv : tvB s l = true) : 1 ≤ nLv s l ∧ nLv s l ≤ 25 ∧ (lvJs s l).length = nLv s l := by
  obtain ⟨h1, h2, h3, h4⟩ := lvJs_yes hv
  obtain ⟨m1, m2, m3, m4⟩ := cMany_bd h1 h2
  exact ⟨m1, m2, by rw [h4, steps_length]; rfl⟩
theorem jAt_get {s l : Int} (hv : tvB s l = true) {k : Nat} (hk : k < nLv s l) : (lvJs s l)[k]? = some (jAt s l k) := by
  obtain ⟨h1, h2, h3, h4⟩ := lvJs_yes hv
  rw [h4]
  unfold nLv at hk
  simp [steps, jAt, hk]
theorem jAt_lv {s l : Int} (hv : tvB s l = true) {k : Nat} (hk : k < nLv s l) : lvB s l (jAt s l k) = true := (lvJs_get (jAt_get hv hk)).2.2.2.2.1
theorem part_ok {s l : Int} (hv : tvB s l = true) {k : Nat} (hk : k < nLv s l) : (partR s l (jAt s l k)).2.2 = true ∧ ratV (partR s l (jAt s l k)).1 (partR s l (jAt s l k)).2.1 = true := by
  have := fin_lv (fun s l k => !decide (k < nLv s l) || ((partR s l (jAt s l k)).2.2 && ratV (partR s l (jAt s l k)).1 (partR s l (jAt s l k)).2.1)) (by decide +kernel) hv (Nat.le_of_lt hk)
  simpa [hk] using this
theorem acc_ok {s l : Int} (hv : tvB s l = true) {k : Nat} (hk : k ≤ nLv s l) : (accR s l k).2.2 = true ∧ ratV (accR s l k).1 (accR s l k).2.1 = true := by
  have := fin_lv (fun s l k => ((accR s l k).2.2 && ratV (accR s l k).1 (accR s l k).2.1)) (by decide +kernel) hv hk
  simpa using this
theorem acc_sum {s l : Int} (hv : tvB s l = true) : accR s l (nLv s l) = sumR s l := by
  have := fin_terms (fun s l => !tvB s l || decide (accR s l (nLv s l) = sumR s l)) (by decide +kernel) hv
  simpa [hv] using this
theorem sum_is {s l : Int} (hv : tvB s l = true) : sumR s l = (wgt s l * 2 * l * (2 * l + 2) + wgt s l * 2 * s * (s + 2), 1, true) := by
  have := fin_terms (fun s l => !tvB s l || decide (sumR s l = (wgt s l * 2 * l * (2 * l + 2) + wgt s l * 2 * s * (s + 2), 1, true))) (by decide +kernel) hv
  simpa [hv] using this
theorem sumI_bd {s l : Int} (hv : tvB s l = true) {k : Nat} (hk : k ≤ nLv s l) : -1000000000 ≤ sumI s l k ∧ sumI s l k ≤ 1000000000 := by
  have := fin_lv (fun s l k => decide (-1000000000 ≤ sumI s l k ∧ sumI s l k ≤ 1000000000)) (by decide +kernel) hv hk
  simpa using this
theorem sumI_pos {s l : Int} {k : Nat} (h : 0 < jAt s l k) : sumI s l (k + 1) = sumI s l k + (jAt s l k + 1) * twI s l (jAt s l k) := by
  show (if 0 < jAt s l k then _ else _) = _
  rw [if_pos h]
theorem sumI_zero {s l : Int} {k : Nat} (h : ¬ 0 < jAt s l k) : sumI s l (k + 1) = sumI s l k := by
  show (if 0 < jAt s l k then _ else _) = _
  rw [if_neg h]
theorem sumR_no {s l : Int} (h : tvB s l = false) : sumR s l = (0, 0, false) := by simp [sumR, h]
theorem sumR_yes {s l : Int} (h : tvB s l = true) : sumR s l = ratR (sumI s l (nLv s l)) 2 := by simp [sumR, h]
theorem sumR_true {s l : Int} (h : (sumR s l).2.2 = true) : tvB s l = true := by
  cases hv : tvB s l
  · rw [sumR_no hv] at h; cases h
  · rfl
/-- The cells of the list of shares. -/
def vR (s l : Int) (k : Nat) : List Value := (List.range k).flatMap fun i => [.int .i64 (partR s l (jAt s l i)).1, .int .i64 (partR s l (jAt s l i)).2.1]
theorem vR_succ (s l : Int) (k : Nat) : vR s l (k + 1) = vR s l k ++ [.int .i64 (partR s l (jAt s l k)).1, .int .i64 (partR s l (jAt s l k)).2.1] := by simp [vR, List.range_succ]
theorem vR_length (s l : Int) : ∀ k, (vR s l k).length = k * 2
  | 0 => rfl
  | k + 1 => by rw [vR_succ, List.length_append, vR_length s l k]; simp; omega
theorem vR_get (s l : Int) (i : Nat) : ∀ k, i < k → (vR s l k)[i * 2]? = some (.int .i64 (partR s l (jAt s l i)).1) ∧ (vR s l k)[i * 2 + 1]? = some (.int .i64 (partR s l (jAt s l i)).2.1)
  | 0, h => by omega
  | k + 1, h => by
    rw [vR_succ]
    have hl := vR_length s l k
    by_cases hi : i = k
    · subst hi
      rw [List.getElem?_append_right (by omega), List.getElem?_append_right (by omega), hl]
      simp
    · have := vR_get s l i k (by omega)
      rw [List.getElem?_append_left (by omega), List.getElem?_append_left (by omega)]
      exact this
end Go.Proofs.YtdghihinednenaaDoor
