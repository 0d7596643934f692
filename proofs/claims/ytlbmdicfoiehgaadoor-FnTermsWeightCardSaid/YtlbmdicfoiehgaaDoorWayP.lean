/-
  The plain law: both ways of counting give the same. Conditions: none.
-/
import Derived.Test.YtlbmdicfoiehgaaDoorCnt
import Derived.Test.YtlbmdicfoiehgaaDoorWays
namespace Go.Proofs.YtlbmdicfoiehgaaDoor
set_option linter.unusedSimpArgs false
set_option linter.unusedVariables false
open Go.RowKit

/-- All choices for the projections from m on: how many, orbit, spin. -/
def conf : Nat → Int → List (Int × Int × Int)
  | 0, _ => [(0, 0, 0)]
  | k + 1, m => (conf k (m + 1)).flatMap fun x => [x, (x.1 + 1, x.2.1 + m, x.2.2 - 1), (x.1 + 1, x.2.1 + m, x.2.2 + 1), (x.1 + 2, x.2.1 + 2 * m, x.2.2)]
theorem conf_succ (k : Nat) (m : Int) : conf (k + 1) m = (conf k (m + 1)).flatMap fun x => [x, (x.1 + 1, x.2.1 + m, x.2.2 - 1), (x.1 + 1, x.2.1 + m, x.2.2 + 1), (x.1 + 2, x.2.1 + 2 * m, x.2.2)] := rfl
def cn (L : List (Int × Int × Int)) (n o s : Int) : Nat := L.countP fun x => decide (x.1 = n ∧ x.2.1 = o ∧ x.2.2 = s)
theorem cn_flat (m n o s : Int) : ∀ L : List (Int × Int × Int), cn (L.flatMap fun x => [x, (x.1 + 1, x.2.1 + m, x.2.2 - 1), (x.1 + 1, x.2.1 + m, x.2.2 + 1), (x.1 + 2, x.2.1 + 2 * m, x.2.2)]) n o s = cn L n o s + cn L (n - 1) (o - m) (s + 1) + cn L (n - 1) (o - m) (s - 1) + cn L (n - 2) (o - 2 * m) s
  | [] => rfl
  | x :: r => by
    have h := cn_flat m n o s r
    unfold cn at h ⊢
    rw [List.flatMap_cons, List.countP_append, h]
    simp only [List.countP_cons, List.countP_nil]
    have e1 : (x.1 + 1 = n ∧ x.2.1 + m = o ∧ x.2.2 - 1 = s) = (x.1 = n - 1 ∧ x.2.1 = o - m ∧ x.2.2 = s + 1) := propext (by omega)
    have e2 : (x.1 + 1 = n ∧ x.2.1 + m = o ∧ x.2.2 + 1 = s) = (x.1 = n - 1 ∧ x.2.1 = o - m ∧ x.2.2 = s - 1) := propext (by omega)
    have e3 : (x.1 + 2 = n ∧ x.2.1 + 2 * m = o ∧ x.2.2 = s) = (x.1 = n - 2 ∧ x.2.1 = o - 2 * m ∧ x.2.2 = s) := propext (by omega)
    simp only [e1, e2, e3]
    omega
theorem conf_bd : ∀ (k : Nat) (m : Int) (x : Int × Int × Int), x ∈ conf k m → 0 ≤ x.1 ∧ x.1 ≤ 2 * (k : Int)
  | 0, m, x, h => by simp [conf] at h; subst h; simp
  | k + 1, m, x, h => by
    unfold conf at h
    obtain ⟨y, hy, hx⟩ := List.mem_flatMap.1 h
    have b := conf_bd k (m + 1) y hy
    simp at hx
    rcases hx with rfl | rfl | rfl | rfl <;> simp <;> omega
theorem cn_zero (k : Nat) (m n o s : Int) (h : n < 0 ∨ 2 * (k : Int) < n) : cn (conf k m) n o s = 0 := by
  unfold cn
  rw [List.countP_eq_zero]
  intro x hx
  have b := conf_bd k m x hx
  simp
  intro e
  omega
theorem ways_is : ∀ (k : Nat) (m n o s : Int), ways k m n o s = (cn (conf k m) n o s : Int)
  | 0, m, n, o, s => by
    unfold ways conf cn
    by_cases h : n = 0 ∧ o = 0 ∧ s = 0
    · obtain ⟨rfl, rfl, rfl⟩ := h
      simp
    · rw [if_neg h]
      have h' : ¬ ((0 : Int) = n ∧ (0 : Int) = o ∧ (0 : Int) = s) := fun e => h ⟨e.1.symm, e.2.1.symm, e.2.2.symm⟩
      simp [h']
  | k + 1, m, n, o, s => by
    by_cases h : n < 0 ∨ 2 * ((k : Int) + 1) < n
    · rw [cn_zero (k + 1) m n o s (by omega)]
      unfold ways
      rw [if_pos h]; rfl
    · unfold ways
      rw [if_neg h, ways_is k, ways_is k, ways_is k, ways_is k]
      rw [conf_succ, cn_flat]
      omega
def trip (l : Int) (st : Nat) : Int × Int × Int := ((pop st : Int), orb l st, spn st)
theorem conf_is {l : Int} (h0 : 0 ≤ l) (h2 : l ≤ 2) : (List.range (cap l)).map (trip l) = conf (2 * l + 1).toNat (-l) := by
  refine three (p := fun l => (List.range (cap l)).map (trip l) = conf (2 * l + 1).toNat (-l)) h0 h2 ?_ ?_ ?_ <;> decide +kernel
theorem ways_cnt {l n : Int} (hv : eOk l n = true) (o s : Int) : ways (2 * l + 1).toNat (-l) n o s = cntM l n o s := by
  have b := eOk_true hv
  rw [ways_is, ← conf_is b.1 b.2.1]
  unfold cntM cntK cn mics micL
  rw [List.take_length, List.countP_map, List.countP_map, List.countP_filter]
  congr 1
  congr 1
  funext st
  simp only [Function.comp, trip]
  by_cases a : (pop st : Int) = n <;> simp [a]
end Go.Proofs.YtlbmdicfoiehgaaDoor
