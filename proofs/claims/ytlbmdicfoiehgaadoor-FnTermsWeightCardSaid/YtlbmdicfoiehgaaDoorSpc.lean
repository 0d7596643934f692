/-
  The walks of spec.l12Ok, MicroCount. Conditions: none.
-/
import Derived.Test.YtlbmdicfoiehgaaDoorWays
import Derived.Test.YtlbmdicfoiehgaaDoorLevel
namespace Go.Proofs.YtlbmdicfoiehgaaDoor
set_option linter.unusedSimpArgs false
set_option linter.unusedVariables false
open Go.RowKit

def okS (l n : Int) : Bool := decide (0 ≤ l ∧ l ≤ 2 ∧ 0 ≤ n ∧ n ≤ 4 * l + 2)
set_option maxHeartbeats 1000000 in
theorem l12Ok_any (l n : Int) (w : World) :
    Calls Tryd.prog 36 #[.int .i64 l, .int .i64 n] w fun e w' => e = .returned (.bool (okS l n)) ∧ w = w' := by
  by_cases h : 0 ≤ l ∧ l ≤ 2
  · have e1 : inB l 0 2 = true := by simp [inB]; omega
    cases h2 : inB n 0 (4 * l + 2)
    · rw [show okS l n = false by simp [okS]; simp [inB] at h2; omega]
      go_enter Tryd.func36, Tryd.ntmps36
      go_wp2_with (go_at_call 43; refine (l6In_any _ _ _ _).mono ?_; rintro e w' ⟨rfl, rfl⟩)
      go_ret
      exact ⟨rfl, rfl⟩
    · rw [show okS l n = true by simp [okS]; simp [inB] at h2; omega]
      go_enter Tryd.func36, Tryd.ntmps36
      go_wp2_with (go_at_call 43; refine (l6In_any _ _ _ _).mono ?_; rintro e w' ⟨rfl, rfl⟩)
      go_ret
      exact ⟨rfl, rfl⟩
  · have e1 : inB l 0 2 = false := by simp [inB]; omega
    rw [show okS l n = false by simp [okS]; omega]
    go_enter Tryd.func36, Tryd.ntmps36
    go_wp2_with (go_at_call 43; refine (l6In_any _ _ _ _).mono ?_; rintro e w' ⟨rfl, rfl⟩)
    go_ret
    exact ⟨rfl, rfl⟩
theorem okS_true {l n : Int} (h : okS l n = true) : 0 ≤ l ∧ l ≤ 2 ∧ 0 ≤ n ∧ n ≤ 4 * l + 2 := by simpa [okS] using h
set_option maxHeartbeats 1000000 in
theorem sMicro_any (l n o s : Int) (w : World) (hv : okS l n = true) (o0 : -20 ≤ o) (o1 : o ≤ 20) (s0 : -20 ≤ s) (s1 : s ≤ 20) :
    Calls Tryd.prog 37 #[.int .i64 l, .int .i64 n, .int .i64 o, .int .i64 s] w fun e w' => e = .returned (.int .i64 (ways (2 * l + 1).toNat (-l) n o s)) ∧ w = w' := by
  have b := okS_true hv
  have e1 : inB o (-20) 20 = true := by simp [inB]; omega
  have e2 : inB s (-20) 20 = true := by simp [inB]; omega
  have hk : (((2 * l + 1).toNat : Nat) : Int) = 2 * l + 1 := by omega
  go_enter Tryd.func37, Tryd.ntmps37
  go_wp2_with (first | (go_at_call 43; refine (l6In_any _ _ _ _).mono ?_; rintro e w' ⟨rfl, rfl⟩) | (go_at_call 36; refine (l12Ok_any _ _ _).mono ?_; rintro e w' ⟨rfl, rfl⟩) | (go_at_call 44; refine (ways_any (2 * l + 1).toNat l (-l) n o s _ (by omega) (by omega) (by omega) (by omega) (by omega) (by omega) (by omega) (by omega) (by omega) (by omega)).mono ?_; rintro e w' ⟨rfl, rfl⟩))
  go_ret
  exact ⟨rfl, rfl⟩
end Go.Proofs.YtlbmdicfoiehgaaDoor
