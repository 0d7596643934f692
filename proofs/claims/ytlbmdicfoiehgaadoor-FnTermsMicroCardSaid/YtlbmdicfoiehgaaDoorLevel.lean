/-
  The walks of the functions on terms, triangles and levels (impl and spec). Conditions: none.
-/
import Derived.Test.YtlbmdicfoiehgaaDoorValid
namespace Go.Proofs.YtlbmdicfoiehgaaDoor
set_option linter.unusedSimpArgs false
set_option linter.unusedVariables false
open Go.RowKit

set_option maxHeartbeats 400000 in
theorem sTermValid_any (s l : Int) (w : World) :
    Calls Tryd.prog 35 #[.agg #[.int .i64 s, .int .i64 l]] w fun e w' => e = .returned (.bool (tvB s l)) ∧ Below w.heap.size w w' := by
  rw [tvB_in]
  cases h1 : inB s 0 8
  · rw [Bool.false_and]
    go_enter Tryd.func35, Tryd.ntmps35
    go_wp2_with (go_at_call 43; refine (l6In_any _ _ _ _).mono ?_; rintro e w' ⟨rfl, rfl⟩)
    go_ret
    exact ⟨rfl, (Below.refl _ _).alloc (Nat.le_refl _) _⟩
  · rw [Bool.true_and]
    go_enter Tryd.func35, Tryd.ntmps35
    go_wp2_with (go_at_call 43; refine (l6In_any _ _ _ _).mono ?_; rintro e w' ⟨rfl, rfl⟩)
    go_ret
    exact ⟨rfl, (Below.refl _ _).alloc (Nat.le_refl _) _⟩
set_option maxHeartbeats 400000 in
theorem iTermValid_any (s l : Int) (w : World) :
    Calls Tryd.prog 25 #[.agg #[.int .i64 s, .int .i64 l]] w fun e w' => e = .returned (.bool (tvB s l)) ∧ Below w.heap.size w w' := by
  by_cases a1 : 0 ≤ s
  · by_cases a2 : s ≤ 8
    · by_cases a3 : 0 ≤ l
      · by_cases a4 : l ≤ 8
        · have hb : tvB s l = true := by simp [tvB]; omega
          rw [hb]
          (go_enter Tryd.func25, Tryd.ntmps25; go_wp2; go_ret; exact ⟨rfl, (Below.refl _ _).alloc (Nat.le_refl _) _⟩)
        · have hb : tvB s l = false := by simp [tvB]; omega
          rw [hb]
          (go_enter Tryd.func25, Tryd.ntmps25; go_wp2; go_ret; exact ⟨rfl, (Below.refl _ _).alloc (Nat.le_refl _) _⟩)
      · have hb : tvB s l = false := by simp [tvB]; omega
        rw [hb]
        (go_enter Tryd.func25, Tryd.ntmps25; go_wp2; go_ret; exact ⟨rfl, (Below.refl _ _).alloc (Nat.le_refl _) _⟩)
    · have hb : tvB s l = false := by simp [tvB]; omega
      rw [hb]
      (go_enter Tryd.func25, Tryd.ntmps25; go_wp2; go_ret; exact ⟨rfl, (Below.refl _ _).alloc (Nat.le_refl _) _⟩)
  · have hb : tvB s l = false := by simp [tvB]; omega
    rw [hb]
    (go_enter Tryd.func25, Tryd.ntmps25; go_wp2; go_ret; exact ⟨rfl, (Below.refl _ _).alloc (Nat.le_refl _) _⟩)

end Go.Proofs.YtlbmdicfoiehgaaDoor
