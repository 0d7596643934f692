/-
  Plain laws on microstates. Conditions: none.
-/
import Derived.Test.YtlbmdicfoiehgaaDoorBits
import Derived.Test.YtlbmdicfoiehgaaDoorPlain
namespace Go.Proofs.YtlbmdicfoiehgaaDoor
set_option linter.unusedSimpArgs false
set_option linter.unusedVariables false
open Go.RowKit

/-- The last one struck. -/
def clr (n : Nat) : Nat := n &&& (n - 1)
def orbF (l : Int) : Nat → Nat → Int
  | 0, _ => 0
  | f + 1, r => if r = 0 then 0 else ((tz r : Int) / 2 - l) + orbF l f (clr r)
def spnF : Nat → Nat → Int
  | 0, _ => 0
  | f + 1, r => if r = 0 then 0 else ((tz r : Int) % 2 * 2 - 1) + spnF f (clr r)
def orb (l : Int) (r : Nat) : Int := orbF l 10 r
def spn (r : Nat) : Int := spnF 10 r
theorem clr_is {n : Nat} (hn : n < 1024) (h0 : 0 < n) : bits .and .u64 (n : Int) ((n : Int) - 1) = (clr n : Int) ∧ clr n < n := by
  have := small_all (fun n => !decide (0 < n) || decide (bits .and .u64 (n : Int) ((n : Int) - 1) = (clr n : Int) ∧ clr n < n)) (by decide +kernel) hn
  simpa [h0] using this
theorem three {p : Int → Prop} {l : Int} (h0 : 0 ≤ l) (h2 : l ≤ 2) (a : p 0) (b : p 1) (c : p 2) : p l := by
  have : l = 0 ∨ l = 1 ∨ l = 2 := by omega
  rcases this with rfl | rfl | rfl <;> assumption
theorem orb_step {l : Int} (h0 : 0 ≤ l) (h2 : l ≤ 2) {r : Nat} (hr : r < 1024) (hp : 0 < r) : orb l r = ((tz r : Int) / 2 - l) + orb l (clr r) := by
  refine three (p := fun l => orb l r = ((tz r : Int) / 2 - l) + orb l (clr r)) h0 h2 ?_ ?_ ?_
  · have := small_all (fun r => !decide (0 < r) || decide (orb 0 r = ((tz r : Int) / 2 - 0) + orb 0 (clr r))) (by decide +kernel) hr
    simpa [hp] using this
  · have := small_all (fun r => !decide (0 < r) || decide (orb 1 r = ((tz r : Int) / 2 - 1) + orb 1 (clr r))) (by decide +kernel) hr
    simpa [hp] using this
  · have := small_all (fun r => !decide (0 < r) || decide (orb 2 r = ((tz r : Int) / 2 - 2) + orb 2 (clr r))) (by decide +kernel) hr
    simpa [hp] using this
theorem spn_step {r : Nat} (hr : r < 1024) (hp : 0 < r) : spn r = ((tz r : Int) % 2 * 2 - 1) + spn (clr r) := by
  have := small_all (fun r => !decide (0 < r) || decide (spn r = ((tz r : Int) % 2 * 2 - 1) + spn (clr r))) (by decide +kernel) hr
  simpa [hp] using this
theorem orb_bd {l : Int} (h0 : 0 ≤ l) (h2 : l ≤ 2) {r : Nat} (hr : r < 1024) : -100 ≤ orb l r ∧ orb l r ≤ 100 := by
  refine three (p := fun l => -100 ≤ orb l r ∧ orb l r ≤ 100) h0 h2 ?_ ?_ ?_
  · have := small_all (fun r => decide (-100 ≤ orb 0 r ∧ orb 0 r ≤ 100)) (by decide +kernel) hr
    simpa using this
  · have := small_all (fun r => decide (-100 ≤ orb 1 r ∧ orb 1 r ≤ 100)) (by decide +kernel) hr
    simpa using this
  · have := small_all (fun r => decide (-100 ≤ orb 2 r ∧ orb 2 r ≤ 100)) (by decide +kernel) hr
    simpa using this
theorem spn_bd {r : Nat} (hr : r < 1024) : -10 ≤ spn r ∧ spn r ≤ 10 := by
  have := small_all (fun r => decide (-10 ≤ spn r ∧ spn r ≤ 10)) (by decide +kernel) hr
  simpa using this
theorem orb_zero (l : Int) : orb l 0 = 0 := rfl
theorem spn_zero : spn 0 = 0 := rfl
/-- The sums of the states below k. -/
def micL (l n : Int) (k : Nat) : List (Int × Int) := ((List.range k).filter fun st => decide ((pop st : Int) = n)).map fun st => (orb l st, spn st)
theorem micL_yes {l n : Int} {k : Nat} (h : (pop k : Int) = n) : micL l n (k + 1) = micL l n k ++ [(orb l k, spn k)] := by simp [micL, List.range_succ, h]
theorem micL_no {l n : Int} {k : Nat} (h : ¬ (pop k : Int) = n) : micL l n (k + 1) = micL l n k := by simp [micL, List.range_succ, h]
theorem micL_len (l n : Int) (k : Nat) : (micL l n k).length ≤ k := by
  unfold micL
  rw [List.length_map]
  exact Nat.le_trans (List.length_filter_le _ _) (by simp)
def vS (xs : List (Int × Int)) : List Value := xs.flatMap fun p => [.int .i64 p.1, .int .i64 p.2]
theorem vS_append (xs ys : List (Int × Int)) : vS (xs ++ ys) = vS xs ++ vS ys := by simp [vS]
theorem vS_length : ∀ xs : List (Int × Int), (vS xs).length = xs.length * 2
  | [] => rfl
  | x :: r => by have := vS_length r; simp only [vS, List.flatMap_cons, List.length_append, List.length_cons, List.length_nil] at *; omega
theorem vS_get : ∀ (xs : List (Int × Int)) (k : Nat) (p : Int × Int), xs[k]? = some p → (vS xs)[k * 2]? = some (.int .i64 p.1) ∧ (vS xs)[k * 2 + 1]? = some (.int .i64 p.2)
  | [], k, p, h => by simp at h
  | x :: r, 0, p, h => by simp at h; subst h; exact ⟨rfl, rfl⟩
  | x :: r, k + 1, p, h => by
    have := vS_get r k p (by simpa using h)
    have e : (k + 1) * 2 = k * 2 + 1 + 1 := by omega
    rw [e]
    simpa [vS] using this
/-- The number of states. -/
def cap (l : Int) : Nat := if l = 0 then 4 else if l = 1 then 64 else 1024
end Go.Proofs.YtlbmdicfoiehgaaDoor
