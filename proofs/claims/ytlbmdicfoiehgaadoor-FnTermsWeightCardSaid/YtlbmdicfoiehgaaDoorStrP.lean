/-
  Plain laws on striking terms out of the table. Conditions: none.
-/
import Derived.Test.YtlbmdicfoiehgaaDoorMicL
import Derived.Test.YtlbmdicfoiehgaaDoorLawsT2
namespace Go.Proofs.YtlbmdicfoiehgaaDoor
set_option linter.unusedSimpArgs false
set_option linter.unusedVariables false
open Go.RowKit

def cov (s k o m : Int) : Prop := -k ≤ o ∧ o ≤ k ∧ -s ≤ m ∧ m ≤ s ∧ (m - s) % 2 = 0
instance (s k o m : Int) : Decidable (cov s k o m) := by unfold cov; infer_instance
/-- c strikes of the term (s, k). -/
def strN (F : Int → Int → Int) (s k c : Int) : Int → Int → Int := fun o m => if cov s k o m then F o m - c else F o m
/-- The least number above u with the parity of s. -/
def nx (u s : Int) : Int := if (u + 1 - s) % 2 = 0 then u + 1 else u + 2
def mxI (a b : Int) : Int := if a ≤ b then b else a
/-- What the table holds at spin u, j orbits done. -/
def InvF (l n u : Int) (j : Int) (F : Int → Int → Int) : Prop := ∀ o s, 0 ≤ o → o ≤ 9 → 0 ≤ s → s ≤ u →
  F o s = cntM l n o s - cntM l n o (nx u s) - (if (s - u) % 2 = 0 then cntM l n (mxI o (9 - j)) u - cntM l n (mxI o (9 - j)) (u + 2) else 0)
theorem InvF_start {l n : Int} (hv : eOk l n = true) : InvF l n 8 0 (cntM l n) := by
  intro o s o0 o1 s0 s1
  have z1 := cntM_zero hv (o := o) (s := nx 8 s) (Or.inr (by unfold nx; split <;> omega))
  have hm : mxI o (9 - 0) = 9 := by unfold mxI; split <;> omega
  have z2 := cntM_zero hv (o := 9) (s := 8) (Or.inl (by omega))
  have z3 := cntM_zero hv (o := 9) (s := 8 + 2) (Or.inl (by omega))
  rw [z1, hm, z2, z3]
  split <;> omega
theorem InvF_at {l n u j : Int} {F : Int → Int → Int} (h : InvF l n u j F) (hv : eOk l n = true) (j0 : 0 ≤ j) (j1 : j ≤ 8) (u0 : 0 ≤ u) : F (8 - j) u = tcI l n u (8 - j) := by
  rw [h (8 - j) u (by omega) (by omega) u0 (by omega)]
  have e1 : nx u u = u + 2 := by unfold nx; split <;> omega
  have e2 : mxI (8 - j) (9 - j) = 9 - j := by unfold mxI; split <;> omega
  have e3 : 8 - j + 1 = 9 - j := by omega
  have e4 : (u - u) % 2 = 0 := by omega
  rw [e1, e2, if_pos e4]
  unfold tcI
  rw [e3]
  omega
theorem InvF_step {l n u j : Int} {F : Int → Int → Int} (h : InvF l n u j F) (j0 : 0 ≤ j) (j1 : j ≤ 8) (u0 : 0 ≤ u) : InvF l n u (j + 1) (strN F u (8 - j) (tcI l n u (8 - j))) := by
  intro o s o0 o1 s0 s1
  have hb := h o s o0 o1 s0 s1
  unfold strN
  have e3 : 8 - j + 1 = 9 - j := by omega
  by_cases hp : (s - u) % 2 = 0
  · rw [if_pos hp] at hb ⊢
    by_cases ho : o ≤ 8 - j
    · rw [if_pos (show cov u (8 - j) o s from ⟨by omega, ho, by omega, by omega, hp⟩), hb]
      have m1 : mxI o (9 - j) = 9 - j := by unfold mxI; split <;> omega
      have m2 : mxI o (9 - (j + 1)) = 8 - j := by unfold mxI; split <;> omega
      rw [m1, m2]
      unfold tcI
      rw [e3]
      omega
    · rw [if_neg (fun hc : cov u (8 - j) o s => ho hc.2.1), hb]
      have m1 : mxI o (9 - j) = o := by unfold mxI; split <;> omega
      have m2 : mxI o (9 - (j + 1)) = o := by unfold mxI; split <;> omega
      rw [m1, m2]
  · rw [if_neg hp] at hb ⊢
    rw [if_neg (fun hc : cov u (8 - j) o s => hp hc.2.2.2.2), hb]
theorem InvF_next {l n u : Int} {F : Int → Int → Int} (h : InvF l n u 9 F) (hv : eOk l n = true) (u0 : 0 ≤ u) : InvF l n (u - 1) 0 F := by
  intro o s o0 o1 s0 s1
  rw [h o s o0 o1 s0 (by omega)]
  have m1 : mxI o (9 - 9) = o := by unfold mxI; split <;> omega
  have m2 : mxI o (9 - 0) = 9 := by unfold mxI; split <;> omega
  have z2 := cntM_zero hv (o := 9) (s := u - 1) (Or.inl (by omega))
  have z3 := cntM_zero hv (o := 9) (s := u - 1 + 2) (Or.inl (by omega))
  rw [m1, m2, z2, z3]
  by_cases hp : (s - u) % 2 = 0
  · rw [if_pos hp]
    have e1 : nx u s = u + 2 := by unfold nx; split <;> omega
    have e2 : nx (u - 1) s = u := by unfold nx; split <;> omega
    rw [e1, e2]
    split <;> omega
  · rw [if_neg hp]
    have e1 : nx u s = u + 1 := by unfold nx; split <;> omega
    have e2 : nx (u - 1) s = u + 1 := by unfold nx; split <;> omega
    rw [e1, e2]
    split <;> omega
theorem strN_zero (F : Int → Int → Int) (s k : Int) : strN F s k 0 = F := by
  funext o m
  unfold strN
  split <;> omega
theorem strN_succ (F : Int → Int → Int) (s k c : Int) : strN (strN F s k c) s k 1 = strN F s k (c + 1) := by
  funext o m
  unfold strN
  split <;> omega
theorem strN_own (F : Int → Int → Int) {s k : Int} (c : Int) (s0 : 0 ≤ s) (k0 : 0 ≤ k) : strN F s k c k s = F k s - c := by
  unfold strN
  rw [if_pos ⟨by omega, by omega, by omega, by omega, by omega⟩]
end Go.Proofs.YtlbmdicfoiehgaaDoor
