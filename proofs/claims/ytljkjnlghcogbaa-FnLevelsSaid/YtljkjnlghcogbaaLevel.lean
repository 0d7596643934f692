/-
  The walks of the functions on terms, triangles and levels (impl and spec). Conditions: none.
-/
import Derived.Test.YtljkjnlghcogbaaValid
namespace Go.Proofs.Ytljkjnlghcogbaa
set_option linter.unusedSimpArgs false
set_option linter.unusedVariables false
open Go.RowKit

set_option maxHeartbeats 400000 in
theorem sTermValid_any (s l : Int) (w : World) :
    Calls Try.prog 14 #[.agg #[.int .i64 s, .int .i64 l]] w fun e w' => e = .returned (.bool (tvB s l)) ∧ Below w.heap.size w w' := by
  rw [tvB_in]
  cases h1 : inB s 0 8
  · rw [Bool.false_and]
    go_enter Try.func14, Try.ntmps14
    go_wp2_with (go_at_call 20; refine (l6In_any _ _ _ _).mono ?_; rintro e w' ⟨rfl, rfl⟩)
    go_ret
    exact ⟨rfl, (Below.refl _ _).alloc (Nat.le_refl _) _⟩
  · rw [Bool.true_and]
    go_enter Try.func14, Try.ntmps14
    go_wp2_with (go_at_call 20; refine (l6In_any _ _ _ _).mono ?_; rintro e w' ⟨rfl, rfl⟩)
    go_ret
    exact ⟨rfl, (Below.refl _ _).alloc (Nat.le_refl _) _⟩
set_option maxHeartbeats 400000 in
theorem iTermValid_any (s l : Int) (w : World) :
    Calls Try.prog 12 #[.agg #[.int .i64 s, .int .i64 l]] w fun e w' => e = .returned (.bool (tvB s l)) ∧ Below w.heap.size w w' := by
  by_cases a1 : 0 ≤ s
  · by_cases a2 : s ≤ 8
    · by_cases a3 : 0 ≤ l
      · by_cases a4 : l ≤ 8
        · have hb : tvB s l = true := by simp [tvB]; omega
          rw [hb]
          (go_enter Try.func12, Try.ntmps12; go_wp2; go_ret; exact ⟨rfl, (Below.refl _ _).alloc (Nat.le_refl _) _⟩)
        · have hb : tvB s l = false := by simp [tvB]; omega
          rw [hb]
          (go_enter Try.func12, Try.ntmps12; go_wp2; go_ret; exact ⟨rfl, (Below.refl _ _).alloc (Nat.le_refl _) _⟩)
      · have hb : tvB s l = false := by simp [tvB]; omega
        rw [hb]
        (go_enter Try.func12, Try.ntmps12; go_wp2; go_ret; exact ⟨rfl, (Below.refl _ _).alloc (Nat.le_refl _) _⟩)
    · have hb : tvB s l = false := by simp [tvB]; omega
      rw [hb]
      (go_enter Try.func12, Try.ntmps12; go_wp2; go_ret; exact ⟨rfl, (Below.refl _ _).alloc (Nat.le_refl _) _⟩)
  · have hb : tvB s l = false := by simp [tvB]; omega
    rw [hb]
    (go_enter Try.func12, Try.ntmps12; go_wp2; go_ret; exact ⟨rfl, (Below.refl _ _).alloc (Nat.le_refl _) _⟩)
set_option maxHeartbeats 1000000 in
theorem iTri_any (a b c : Int) (w : World) :
    Calls Try.prog 16 #[.int .i64 a, .int .i64 b, .int .i64 c] w fun e w' => e = .returned (.bool (triB a b c)) ∧ w = w' := by
  cases h1 : spB a
  · rw [triB_no (by have := spB_false h1; omega)]
    (go_enter Try.func16, Try.ntmps16; go_wp2_with (go_at_call 18; refine (iSpinValid_any _ _).mono ?_; rintro e w' ⟨rfl, rfl⟩); go_ret; exact ⟨by first | rfl | (simp; omega), rfl⟩)
  cases h2 : spB b
  · rw [triB_no (by have := spB_false h2; omega)]
    (go_enter Try.func16, Try.ntmps16; go_wp2_with (go_at_call 18; refine (iSpinValid_any _ _).mono ?_; rintro e w' ⟨rfl, rfl⟩); go_ret; exact ⟨by first | rfl | (simp; omega), rfl⟩)
  cases h3 : spB c
  · rw [triB_no (by have := spB_false h3; omega)]
    (go_enter Try.func16, Try.ntmps16; go_wp2_with (go_at_call 18; refine (iSpinValid_any _ _).mono ?_; rintro e w' ⟨rfl, rfl⟩); go_ret; exact ⟨by first | rfl | (simp; omega), rfl⟩)
  have ⟨a1, a2⟩ := spB_true h1
  have ⟨b1, b2⟩ := spB_true h2
  have ⟨c1, c2⟩ := spB_true h3
  by_cases hp : (a + b + c) % 2 = 0
  · by_cases i1 : a ≤ b + c
    · by_cases i2 : b ≤ a + c
      · by_cases i3 : c ≤ a + b
        · rw [triB_of (by omega)]
          (go_enter Try.func16, Try.ntmps16; go_wp2_with (go_at_call 18; refine (iSpinValid_any _ _).mono ?_; rintro e w' ⟨rfl, rfl⟩); go_ret; exact ⟨by first | rfl | (simp; omega), rfl⟩)
        · rw [triB_no (by omega)]
          (go_enter Try.func16, Try.ntmps16; go_wp2_with (go_at_call 18; refine (iSpinValid_any _ _).mono ?_; rintro e w' ⟨rfl, rfl⟩); go_ret; exact ⟨by first | rfl | (simp; omega), rfl⟩)
      · rw [triB_no (by omega)]
        (go_enter Try.func16, Try.ntmps16; go_wp2_with (go_at_call 18; refine (iSpinValid_any _ _).mono ?_; rintro e w' ⟨rfl, rfl⟩); go_ret; exact ⟨by first | rfl | (simp; omega), rfl⟩)
    · rw [triB_no (by omega)]
      (go_enter Try.func16, Try.ntmps16; go_wp2_with (go_at_call 18; refine (iSpinValid_any _ _).mono ?_; rintro e w' ⟨rfl, rfl⟩); go_ret; exact ⟨by first | rfl | (simp; omega), rfl⟩)
  · rw [triB_no (by omega)]
    (go_enter Try.func16, Try.ntmps16; go_wp2_with (go_at_call 18; refine (iSpinValid_any _ _).mono ?_; rintro e w' ⟨rfl, rfl⟩); go_ret; exact ⟨by first | rfl | (simp; omega), rfl⟩)
set_option maxHeartbeats 400000 in
theorem iLevelValid_any (s l j : Int) (w : World) :
    Calls Try.prog 8 #[.agg #[.int .i64 s, .int .i64 l, .int .i64 j]] w fun e w' => e = .returned (.bool (lvB s l j)) ∧ Below w.heap.size w w' := by
  unfold lvB
  cases h1 : tvB s l
  · rw [Bool.false_and]
    go_enter Try.func8, Try.ntmps8
    go_wp2_with (first | (go_at_call 12; refine (iTermValid_any _ _ _).mono ?_; rintro e w1 ⟨rfl, hb1⟩; obtain ⟨hc1, hf1⟩ := bcell hb1; have hz1 := hb1.size; (try simp only [World.size_alloc, World.size_setCell, World.size_drew, size_drewN] at hz1 hc1 hf1)) | (go_at_call 16; refine (iTri_any _ _ _ _).mono ?_; rintro e w' ⟨rfl, rfl⟩))
    go_ret
    exact ⟨rfl, by (repeat' first | (with_reducible exact Below.refl _ _) | (with_reducible assumption) | (with_reducible refine below_drewN ?_ _) | (with_reducible refine Below.drew ?_) | (with_reducible refine Below.alloc ?_ ?_ _) | (with_reducible refine Below.setCell ?_ ?_ _) | (with_reducible refine Below.trans ?_ (Below.mono (by assumption) ?_)) | first | omega | (simp only [World.size_alloc, World.size_setCell, World.size_drew, size_drewN]; omega) | (simp; done) | (simp; omega) | (simp only [World.size_alloc, World.size_setCell, World.size_drew, size_drewN] at *; omega) | (simp at *; omega))⟩
  · rw [Bool.true_and]
    have ⟨a1, a2, a3, a4⟩ := tvB_true h1
    go_enter Try.func8, Try.ntmps8
    go_wp2_with (first | (go_at_call 12; refine (iTermValid_any _ _ _).mono ?_; rintro e w1 ⟨rfl, hb1⟩; obtain ⟨hc1, hf1⟩ := bcell hb1; have hz1 := hb1.size; (try simp only [World.size_alloc, World.size_setCell, World.size_drew, size_drewN] at hz1 hc1 hf1)) | (go_at_call 16; refine (iTri_any _ _ _ _).mono ?_; rintro e w' ⟨rfl, rfl⟩))
    go_ret
    exact ⟨rfl, by (repeat' first | (with_reducible exact Below.refl _ _) | (with_reducible assumption) | (with_reducible refine below_drewN ?_ _) | (with_reducible refine Below.drew ?_) | (with_reducible refine Below.alloc ?_ ?_ _) | (with_reducible refine Below.setCell ?_ ?_ _) | (with_reducible refine Below.trans ?_ (Below.mono (by assumption) ?_)) | first | omega | (simp only [World.size_alloc, World.size_setCell, World.size_drew, size_drewN]; omega) | (simp; done) | (simp; omega) | (simp only [World.size_alloc, World.size_setCell, World.size_drew, size_drewN] at *; omega) | (simp at *; omega))⟩

end Go.Proofs.Ytljkjnlghcogbaa
