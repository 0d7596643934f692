/-
  The walks of the functions on terms, triangles and levels (impl and spec). Conditions: none.
-/
import Derived.Test.YtjopcpoodhamcaaValid
namespace Go.Proofs.Ytjopcpoodhamcaa
set_option linter.unusedSimpArgs false
set_option linter.unusedVariables false
open Go.RowKit

set_option maxHeartbeats 400000 in
theorem sTermValid_any (s l : Int) (w : World) :
    Calls Try.prog 20 #[.agg #[.int .i64 s, .int .i64 l]] w fun e w' => e = .returned (.bool (tvB s l)) ∧ Below w.heap.size w w' := by
  rw [tvB_in]
  cases h1 : inB s 0 8
  · rw [Bool.false_and]
    go_enter Try.func20, Try.ntmps20
    go_wp2_with (go_at_call 29; refine (l6In_any _ _ _ _).mono ?_; rintro e w' ⟨rfl, rfl⟩)
    go_ret
    exact ⟨rfl, (Below.refl _ _).alloc (Nat.le_refl _) _⟩
  · rw [Bool.true_and]
    go_enter Try.func20, Try.ntmps20
    go_wp2_with (go_at_call 29; refine (l6In_any _ _ _ _).mono ?_; rintro e w' ⟨rfl, rfl⟩)
    go_ret
    exact ⟨rfl, (Below.refl _ _).alloc (Nat.le_refl _) _⟩
set_option maxHeartbeats 400000 in
theorem iTermValid_any (s l : Int) (w : World) :
    Calls Try.prog 24 #[.agg #[.int .i64 s, .int .i64 l]] w fun e w' => e = .returned (.bool (tvB s l)) ∧ Below w.heap.size w w' := by
  by_cases a1 : 0 ≤ s
  · by_cases a2 : s ≤ 8
    · by_cases a3 : 0 ≤ l
      · by_cases a4 : l ≤ 8
        · have hb : tvB s l = true := by simp [tvB]; omega
          rw [hb]
          (go_enter Try.func24, Try.ntmps24; go_wp2; go_ret; exact ⟨rfl, (Below.refl _ _).alloc (Nat.le_refl _) _⟩)
        · have hb : tvB s l = false := by simp [tvB]; omega
          rw [hb]
          (go_enter Try.func24, Try.ntmps24; go_wp2; go_ret; exact ⟨rfl, (Below.refl _ _).alloc (Nat.le_refl _) _⟩)
      · have hb : tvB s l = false := by simp [tvB]; omega
        rw [hb]
        (go_enter Try.func24, Try.ntmps24; go_wp2; go_ret; exact ⟨rfl, (Below.refl _ _).alloc (Nat.le_refl _) _⟩)
    · have hb : tvB s l = false := by simp [tvB]; omega
      rw [hb]
      (go_enter Try.func24, Try.ntmps24; go_wp2; go_ret; exact ⟨rfl, (Below.refl _ _).alloc (Nat.le_refl _) _⟩)
  · have hb : tvB s l = false := by simp [tvB]; omega
    rw [hb]
    (go_enter Try.func24, Try.ntmps24; go_wp2; go_ret; exact ⟨rfl, (Below.refl _ _).alloc (Nat.le_refl _) _⟩)

end Go.Proofs.Ytjopcpoodhamcaa
