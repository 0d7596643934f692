/-
  The terms of a shell as a list. Conditions: none.
-/
import Derived.Test.YtlbmdicfoiehgaaDoorWayP
namespace Go.Proofs.YtlbmdicfoiehgaaDoor
set_option linter.unusedSimpArgs false
set_option linter.unusedVariables false
open Go.RowKit

def trm (l n s k : Int) : List (Int × Int) := List.replicate (tcF l n s k).toNat (s, k)
def rowT (l n s : Int) : Nat → List (Int × Int)
  | 0 => []
  | j + 1 => rowT l n s j ++ trm l n s (6 - (j : Int))
def tsL (l n : Int) : Nat → List (Int × Int)
  | 0 => []
  | i + 1 => tsL l n i ++ rowT l n (5 - (i : Int)) 7
/-- TermsOf's list: the doubled spin and the orbital number of each. -/
def termsP (l n : Int) : List (Int × Int) := if eOk l n = true then tsL l n 6 else []
theorem tcF_bd (l n s k : Int) : tcF l n s k ≤ 504 := by
  unfold tcF
  split
  · rename_i h
    have b1 := cntM_bd h.2 k s
    have b2 := cntM_bd h.2 (k + 1) s
    have b3 := cntM_bd h.2 k (s + 2)
    have b4 := cntM_bd h.2 (k + 1) (s + 2)
    unfold tcI
    omega
  · omega
theorem trm_len (l n s k : Int) : (trm l n s k).length ≤ 504 := by
  have := tcF_bd l n s k
  simp [trm]; omega
theorem rowT_len (l n s : Int) : ∀ j, (rowT l n s j).length ≤ 504 * j
  | 0 => by simp [rowT]
  | j + 1 => by
    have := rowT_len l n s j
    have := trm_len l n s (6 - (j : Int))
    simp only [rowT, List.length_append]; omega
theorem tsL_len (l n : Int) : ∀ i, (tsL l n i).length ≤ 3528 * i
  | 0 => by simp [tsL]
  | i + 1 => by
    have := tsL_len l n i
    have := rowT_len l n (5 - (i : Int)) 7
    simp only [tsL, List.length_append]; omega
theorem rep_succ (c : Nat) (p : Int × Int) : List.replicate (c + 1) p = List.replicate c p ++ [p] := by
  rw [List.replicate_succ']
def midT (l n : Int) (i j : Nat) : List (Int × Int) := tsL l n i ++ rowT l n (5 - (i : Int)) j
def innT (l n : Int) (i j c : Nat) : List (Int × Int) := midT l n i j ++ List.replicate c (5 - (i : Int), 6 - (j : Int))
theorem midT_zero (l n : Int) (i : Nat) : midT l n i 0 = tsL l n i := by simp [midT, rowT]
theorem midT_last (l n : Int) (i : Nat) : midT l n i 7 = tsL l n (i + 1) := rfl
theorem innT_zero (l n : Int) (i j : Nat) : innT l n i j 0 = midT l n i j := by simp [innT]
theorem innT_succ (l n : Int) (i j c : Nat) : innT l n i j (c + 1) = innT l n i j c ++ [(5 - (i : Int), 6 - (j : Int))] := by simp [innT, rep_succ]
theorem innT_last (l n : Int) (i j : Nat) : innT l n i j (tcF l n (5 - (i : Int)) (6 - (j : Int))).toNat = midT l n i (j + 1) := by simp [innT, midT, rowT, trm]
theorem midT_len (l n : Int) (i j : Nat) (hi : i ≤ 6) (hj : j ≤ 7) : (midT l n i j).length ≤ 29000 := by
  have a := tsL_len l n i
  have b := rowT_len l n (5 - (i : Int)) j
  simp only [midT, List.length_append]; omega
theorem innT_len (l n : Int) (i j c : Nat) (hi : i ≤ 6) (hj : j ≤ 7) (hc : c ≤ 504) : (innT l n i j c).length ≤ 30000 := by
  have a := midT_len l n i j hi hj
  simp only [innT, List.length_append, List.length_replicate]; omega
end Go.Proofs.YtlbmdicfoiehgaaDoor
