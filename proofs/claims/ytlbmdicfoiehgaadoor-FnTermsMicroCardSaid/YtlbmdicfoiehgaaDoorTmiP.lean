/-
  The list that impl.TermsOf makes is the one of the terms. Conditions: none.
-/
import Derived.Test.YtlbmdicfoiehgaaDoorStrP
namespace Go.Proofs.YtlbmdicfoiehgaaDoor
set_option linter.unusedSimpArgs false
set_option linter.unusedVariables false
open Go.RowKit

def rowI (l n u : Int) : Nat → List (Int × Int)
  | 0 => []
  | j + 1 => rowI l n u j ++ trm l n u (8 - (j : Int))
def tsI (l n : Int) : Nat → List (Int × Int)
  | 0 => []
  | i + 1 => tsI l n i ++ rowI l n (8 - (i : Int)) 9
theorem mics_top {l n : Int} (hv : eOk l n = true) : (mics l n).all (fun p => decide (p.1 ≤ 6 ∧ p.2 ≤ 5)) = true := by
  have := fin_ln (fun l n => (mics l n).all (fun p => decide (p.1 ≤ 6 ∧ p.2 ≤ 5))) (by decide +kernel) hv
  exact this
theorem cntM_top {l n o s : Int} (hv : eOk l n = true) (h : 7 ≤ o ∨ 6 ≤ s) : cntM l n o s = 0 := by
  unfold cntM cntK
  rw [List.take_length]
  have : (mics l n).countP (fun p => decide (p.1 = o ∧ p.2 = s)) = 0 := by
    rw [List.countP_eq_zero]
    intro p hp
    have b := List.all_eq_true.1 (mics_top hv) p hp
    have b' : p.1 ≤ 6 ∧ p.2 ≤ 5 := by simpa using b
    simp
    omega
  rw [this]; rfl
theorem trm_top {l n s k : Int} (hv : eOk l n = true) (h : 7 ≤ k ∨ 6 ≤ s) : trm l n s k = [] := by
  have z1 := cntM_top hv (o := k) (s := s) h
  have z2 := cntM_top hv (o := k + 1) (s := s) (by omega)
  have z3 := cntM_top hv (o := k) (s := s + 2) (by omega)
  have z4 := cntM_top hv (o := k + 1) (s := s + 2) (by omega)
  have : tcF l n s k ≤ 0 := by
    unfold tcF tcI
    split <;> omega
  have e : (tcF l n s k).toNat = 0 := by omega
  unfold trm
  rw [e]; rfl
theorem rowI_is {l n u : Int} (hv : eOk l n = true) : rowI l n u 9 = rowT l n u 7 := by
  have a := trm_top hv (s := u) (k := 8) (Or.inl (by omega))
  have b := trm_top hv (s := u) (k := 7) (Or.inl (by omega))
  simp [rowI, rowT, a, b]
theorem rowT_top {l n u : Int} (hv : eOk l n = true) (h : 6 ≤ u) : ∀ j, rowT l n u j = []
  | 0 => rfl
  | j + 1 => by
    unfold rowT
    rw [rowT_top hv h j, trm_top hv (Or.inr h)]; rfl
theorem tsI_is {l n : Int} (hv : eOk l n = true) : tsI l n 9 = termsP l n := by
  have a := rowT_top hv (u := 8) (by omega) 7
  have b := rowT_top hv (u := 7) (by omega) 7
  have c := rowT_top hv (u := 6) (by omega) 7
  rw [show termsP l n = tsL l n 6 by simp [termsP, hv]]
  simp [tsI, tsL, rowI_is hv, a, b, c]
theorem rowI_len (l n s : Int) : ∀ j, (rowI l n s j).length ≤ 504 * j
  | 0 => by simp [rowI]
  | j + 1 => by
    have := rowI_len l n s j
    have := trm_len l n s (8 - (j : Int))
    simp only [rowI, List.length_append]; omega
theorem tsI_len (l n : Int) : ∀ i, (tsI l n i).length ≤ 4536 * i
  | 0 => by simp [tsI]
  | i + 1 => by
    have := tsI_len l n i
    have := rowI_len l n (8 - (i : Int)) 9
    simp only [tsI, List.length_append]; omega
def midI (l n : Int) (i j : Nat) : List (Int × Int) := tsI l n i ++ rowI l n (8 - (i : Int)) j
def innI (l n : Int) (i j c : Nat) : List (Int × Int) := midI l n i j ++ List.replicate c (8 - (i : Int), 8 - (j : Int))
theorem midI_zero (l n : Int) (i : Nat) : midI l n i 0 = tsI l n i := by simp [midI, rowI]
theorem midI_last (l n : Int) (i : Nat) : midI l n i 9 = tsI l n (i + 1) := rfl
theorem innI_zero (l n : Int) (i j : Nat) : innI l n i j 0 = midI l n i j := by simp [innI]
theorem innI_succ (l n : Int) (i j c : Nat) : innI l n i j (c + 1) = innI l n i j c ++ [(8 - (i : Int), 8 - (j : Int))] := by simp [innI, rep_succ]
theorem innI_last (l n : Int) (i j : Nat) : innI l n i j (tcF l n (8 - (i : Int)) (8 - (j : Int))).toNat = midI l n i (j + 1) := by simp [innI, midI, rowI, trm]
theorem innI_len (l n : Int) (i j c : Nat) (hi : i ≤ 9) (hj : j ≤ 9) (hc : c ≤ 504) : (innI l n i j c).length ≤ 60000 := by
  have a := tsI_len l n i
  have b := rowI_len l n (8 - (i : Int)) j
  simp only [innI, midI, List.length_append, List.length_replicate]; omega
end Go.Proofs.YtlbmdicfoiehgaaDoor
