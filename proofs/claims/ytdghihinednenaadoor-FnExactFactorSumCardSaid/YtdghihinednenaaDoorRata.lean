/-
  The walks of products, sums, differences of rationals. Conditions: none.
-/
import Derived.Test.YtdghihinednenaaDoorRat
import Derived.Test.YtdghihinednenaaDoorShift
namespace Go.Proofs.YtdghihinednenaaDoor
set_option linter.unusedSimpArgs false
set_option linter.unusedVariables false
open Go.RowKit

theorem ratMul_bd {a b c d : Int} (h1 : ratV a b = true) (h2 : ratV c d = true) : (-1000000000000000000 ≤ a * c ∧ a * c ≤ 1000000000000000000) ∧ 0 < b * d ∧ b * d ≤ 1000000000000000000 := by
  have u := ratV_true h1
  have v := ratV_true h2
  exact ⟨mul_bd (A := 1000000000) (B := 1000000000) (by omega) (by omega) (by omega) (by omega), mul_pos' (A := 1000000000) (B := 1000000000) (by omega) (by omega) (by omega) (by omega)⟩
theorem ratAdd_bd {a b c d : Int} (h1 : ratV a b = true) (h2 : ratV c d = true) : (-1000000000000000000 ≤ a * d ∧ a * d ≤ 1000000000000000000) ∧ (-1000000000000000000 ≤ c * b ∧ c * b ≤ 1000000000000000000) := by
  have u := ratV_true h1
  have v := ratV_true h2
  exact ⟨mul_bd (A := 1000000000) (B := 1000000000) (by omega) (by omega) (by omega) (by omega), mul_bd (A := 1000000000) (B := 1000000000) (by omega) (by omega) (by omega) (by omega)⟩
theorem iRatOf_t (n d : Int) (w : World) (h0 : -4000000000000000000 ≤ n) (h1 : n ≤ 4000000000000000000) (h2 : 0 < d) (h3 : d ≤ 4000000000000000000) :
    Calls Tryd.prog 20 #[.int .i64 n, .int .i64 d] w fun e w' => e = .returned (.tuple #[.agg #[.int .i64 (ratR n d).1, .int .i64 (ratR n d).2.1], .bool (ratR n d).2.2]) ∧ Below w.heap.size w w' := iRatOf_any n d w h0 h1 h2 h3
theorem l1Make_t (n d : Int) (w : World) (h0 : -4000000000000000000 ≤ n) (h1 : n ≤ 4000000000000000000) (h2 : 0 < d) (h3 : d ≤ 4000000000000000000) :
    Calls Tryd.prog 53 #[.int .i64 n, .int .i64 d] w fun e w' => e = .returned (.tuple #[.agg #[.int .i64 (ratR n d).1, .int .i64 (ratR n d).2.1], .bool (ratR n d).2.2]) ∧ Below w.heap.size w w' := l1Make_any n d w h0 h1 h2 h3
set_option maxHeartbeats 1000000 in
theorem sRatOf_any (n d : Int) (w : World) (h0 : -4000000000000000000 ≤ n) (h1 : n ≤ 4000000000000000000) (h2 : 0 < d) (h3 : d ≤ 4000000000000000000) :
    Calls Tryd.prog 35 #[.int .i64 n, .int .i64 d] w fun e w' => e = .returned (.tuple #[.agg #[.int .i64 (ratR n d).1, .int .i64 (ratR n d).2.1], .bool (ratR n d).2.2]) ∧ Below w.heap.size w w' := by
  have t1 : (d == 0) = false := by simp; omega
  have t2 : inB n (-4000000000000000000) 4000000000000000000 = true := by simp [inB]; omega
  have t3 : inB d (-4000000000000000000) 4000000000000000000 = true := by simp [inB]; omega
  go_enter Tryd.func35, Tryd.ntmps35
  go_wp2_with (first | (go_at_call 52; refine (l6In_any _ _ _ _).mono ?_; rintro e w' ⟨rfl, rfl⟩) | (go_at_call 53; refine (l1Make_t _ _ _ (by omega) (by omega) (by omega) (by omega)).mono ?_; rintro e w1 ⟨rfl, hb1⟩; obtain ⟨hc1, hf1⟩ := bcell hb1; have hz1 := hb1.size; (try simp only [World.size_alloc, World.size_setCell, World.size_drew, size_drewN] at hz1 hc1 hf1); (have g1a : w.heap.size < w1.heap.size := by omega)))
  refine bodyPost_ret (v := .tuple #[.agg #[.int .i64 (ratR n d).1, .int .i64 (ratR n d).2.1], .bool (ratR n d).2.2]) (by simp (disch := first | omega | (simp; done) | (simp; omega)) [results, Tryd.results35, go_sem, cell_set, *]) rfl ?_
  exact ⟨rfl, by (repeat' first | (with_reducible exact Below.refl _ _) | (with_reducible assumption) | (with_reducible refine below_drewN ?_ _) | (with_reducible refine Below.drew ?_) | (with_reducible refine Below.alloc ?_ ?_ _) | (with_reducible refine Below.setCell ?_ ?_ _) | (with_reducible refine Below.trans ?_ (Below.mono (by assumption) ?_)) | first | omega | (simp only [World.size_alloc, World.size_setCell, World.size_drew, size_drewN]; omega) | (simp; done) | (simp; omega) | (simp only [World.size_alloc, World.size_setCell, World.size_drew, size_drewN] at *; omega) | (simp at *; omega))⟩
set_option maxHeartbeats 400000 in
theorem iWhole_any (n : Int) (w : World) :
    Calls Tryd.prog 42 #[.int .i64 n] w fun e w' => e = .returned (.agg #[.int .i64 n, .int .i64 1]) ∧ Below w.heap.size w w' := by
  go_enter Tryd.func42, Tryd.ntmps42
  go_wp2
  refine bodyPost_ret (v := .agg #[.int .i64 n, .int .i64 1]) (by simp (disch := first | omega | (simp; done) | (simp; omega)) [results, Tryd.results42, go_sem, cell_set, *]) rfl ?_
  exact ⟨rfl, by (repeat' first | (with_reducible exact Below.refl _ _) | (with_reducible assumption) | (with_reducible refine below_drewN ?_ _) | (with_reducible refine Below.drew ?_) | (with_reducible refine Below.alloc ?_ ?_ _) | (with_reducible refine Below.setCell ?_ ?_ _) | (with_reducible refine Below.trans ?_ (Below.mono (by assumption) ?_)) | first | omega | (simp only [World.size_alloc, World.size_setCell, World.size_drew, size_drewN]; omega) | (simp; done) | (simp; omega) | (simp only [World.size_alloc, World.size_setCell, World.size_drew, size_drewN] at *; omega) | (simp at *; omega))⟩
set_option maxHeartbeats 400000 in
theorem whole_any (n : Int) (w : World) :
    Calls Tryd.prog 21 #[.int .i64 n] w fun e w' => e = .returned (.agg #[.int .i64 n, .int .i64 1]) ∧ Below w.heap.size w w' := by
  go_enter Tryd.func21, Tryd.ntmps21
  go_wp2
  refine bodyPost_ret (v := .agg #[.int .i64 n, .int .i64 1]) (by simp (disch := first | omega | (simp; done) | (simp; omega)) [results, Tryd.results21, go_sem, cell_set, *]) rfl ?_
  exact ⟨rfl, by (repeat' first | (with_reducible exact Below.refl _ _) | (with_reducible assumption) | (with_reducible refine below_drewN ?_ _) | (with_reducible refine Below.drew ?_) | (with_reducible refine Below.alloc ?_ ?_ _) | (with_reducible refine Below.setCell ?_ ?_ _) | (with_reducible refine Below.trans ?_ (Below.mono (by assumption) ?_)) | first | omega | (simp only [World.size_alloc, World.size_setCell, World.size_drew, size_drewN]; omega) | (simp; done) | (simp; omega) | (simp only [World.size_alloc, World.size_setCell, World.size_drew, size_drewN] at *; omega) | (simp at *; omega))⟩
set_option maxHeartbeats 400000 in
theorem negative_any (n d : Int) (w : World) (h0 : -4000000000000000000 ≤ n) (h1 : n ≤ 4000000000000000000) :
    Calls Tryd.prog 44 #[.agg #[.int .i64 n, .int .i64 d]] w fun e w' => e = .returned (.agg #[.int .i64 (-n), .int .i64 d]) ∧ Below w.heap.size w w' := by
  go_enter Tryd.func44, Tryd.ntmps44
  go_wp2
  refine bodyPost_ret (v := .agg #[.int .i64 (-n), .int .i64 d]) (by simp (disch := first | omega | (simp; done) | (simp; omega)) [results, Tryd.results44, go_sem, cell_set, *]) rfl ?_
  exact ⟨rfl, by (repeat' first | (with_reducible exact Below.refl _ _) | (with_reducible assumption) | (with_reducible refine below_drewN ?_ _) | (with_reducible refine Below.drew ?_) | (with_reducible refine Below.alloc ?_ ?_ _) | (with_reducible refine Below.setCell ?_ ?_ _) | (with_reducible refine Below.trans ?_ (Below.mono (by assumption) ?_)) | first | omega | (simp only [World.size_alloc, World.size_setCell, World.size_drew, size_drewN]; omega) | (simp; done) | (simp; omega) | (simp only [World.size_alloc, World.size_setCell, World.size_drew, size_drewN] at *; omega) | (simp at *; omega))⟩
set_option maxHeartbeats 1000000 in
theorem ratMul_any (a b c d : Int) (w : World) (h1 : ratV a b = true) (h2 : ratV c d = true) :
    Calls Tryd.prog 26 #[.agg #[.int .i64 a, .int .i64 b], .agg #[.int .i64 c, .int .i64 d]] w fun e w' => e = .returned (.tuple #[.agg #[.int .i64 (ratR (a * c) (b * d)).1, .int .i64 (ratR (a * c) (b * d)).2.1], .bool (ratR (a * c) (b * d)).2.2]) ∧ Below w.heap.size w w' := by
  have u1 := ratV_true h1
  have u2 := ratV_true h2
  obtain ⟨m1, m2, m3⟩ := ratMul_bd h1 h2
  go_enter Tryd.func26, Tryd.ntmps26
  go_wp2_with fail
  refine (iRatValid_any a b _ (by omega) (by omega) (by omega) (by omega)).mono ?_
  rintro e w1 ⟨rfl, hb1⟩
  obtain ⟨hc1, hf1⟩ := bcell hb1; have hz1 := hb1.size; (try simp only [World.size_alloc, World.size_setCell, World.size_drew, size_drewN] at hz1 hc1 hf1); (have g1a : w.heap.size < w1.heap.size := by omega); (have g1b : w.heap.size + 1 < w1.heap.size := by omega); (have g1c : w.heap.size + 1 + 1 < w1.heap.size := by omega)
  go_wp2_with fail
  refine (iRatValid_any c d _ (by omega) (by omega) (by omega) (by omega)).mono ?_
  rintro e w2 ⟨rfl, hb2⟩
  obtain ⟨hc2, hf2⟩ := bcell hb2; have hz2 := hb2.size; (try simp only [World.size_alloc, World.size_setCell, World.size_drew, size_drewN] at hz2 hc2 hf2); (have g2a : w.heap.size < w2.heap.size := by omega); (have g2b : w.heap.size + 1 < w2.heap.size := by omega); (have g2c : w.heap.size + 1 + 1 < w2.heap.size := by omega)
  go_wp2_with fail
  refine (iRatOf_t (a * c) (b * d) _ (by omega) (by omega) (by omega) (by omega)).mono ?_
  rintro e w3 ⟨rfl, hb3⟩
  obtain ⟨hc3, hf3⟩ := bcell hb3; have hz3 := hb3.size; (try simp only [World.size_alloc, World.size_setCell, World.size_drew, size_drewN] at hz3 hc3 hf3); (have g3a : w.heap.size < w3.heap.size := by omega); (have g3b : w.heap.size + 1 < w3.heap.size := by omega); (have g3c : w.heap.size + 1 + 1 < w3.heap.size := by omega)
  go_wp2
  refine bodyPost_ret (v := .tuple #[.agg #[.int .i64 (ratR (a * c) (b * d)).1, .int .i64 (ratR (a * c) (b * d)).2.1], .bool (ratR (a * c) (b * d)).2.2]) (by simp (disch := first | omega | (simp; done) | (simp; omega)) [results, Tryd.results26, go_sem, cell_set, *]) rfl ?_
  exact ⟨rfl, by (repeat' first | (with_reducible exact Below.refl _ _) | (with_reducible assumption) | (with_reducible refine below_drewN ?_ _) | (with_reducible refine Below.drew ?_) | (with_reducible refine Below.alloc ?_ ?_ _) | (with_reducible refine Below.setCell ?_ ?_ _) | (with_reducible refine Below.trans ?_ (Below.mono (by assumption) ?_)) | first | omega | (simp only [World.size_alloc, World.size_setCell, World.size_drew, size_drewN]; omega) | (simp; done) | (simp; omega) | (simp only [World.size_alloc, World.size_setCell, World.size_drew, size_drewN] at *; omega) | (simp at *; omega))⟩
set_option maxHeartbeats 1000000 in
theorem ratAdd_any (a b c d : Int) (w : World) (h1 : ratV a b = true) (h2 : ratV c d = true) :
    Calls Tryd.prog 25 #[.agg #[.int .i64 a, .int .i64 b], .agg #[.int .i64 c, .int .i64 d]] w fun e w' => e = .returned (.tuple #[.agg #[.int .i64 (ratR (a * d + c * b) (b * d)).1, .int .i64 (ratR (a * d + c * b) (b * d)).2.1], .bool (ratR (a * d + c * b) (b * d)).2.2]) ∧ Below w.heap.size w w' := by
  have u1 := ratV_true h1
  have u2 := ratV_true h2
  obtain ⟨m1, m2, m3⟩ := ratMul_bd h1 h2
  obtain ⟨m4, m5⟩ := ratAdd_bd h1 h2
  clear m1
  go_enter Tryd.func25, Tryd.ntmps25
  go_wp2_with fail
  refine (iRatValid_any a b _ (by omega) (by omega) (by omega) (by omega)).mono ?_
  rintro e w1 ⟨rfl, hb1⟩
  obtain ⟨hc1, hf1⟩ := bcell hb1; have hz1 := hb1.size; (try simp only [World.size_alloc, World.size_setCell, World.size_drew, size_drewN] at hz1 hc1 hf1); (have g1a : w.heap.size < w1.heap.size := by omega); (have g1b : w.heap.size + 1 < w1.heap.size := by omega); (have g1c : w.heap.size + 1 + 1 < w1.heap.size := by omega)
  go_wp2_with fail
  refine (iRatValid_any c d _ (by omega) (by omega) (by omega) (by omega)).mono ?_
  rintro e w2 ⟨rfl, hb2⟩
  obtain ⟨hc2, hf2⟩ := bcell hb2; have hz2 := hb2.size; (try simp only [World.size_alloc, World.size_setCell, World.size_drew, size_drewN] at hz2 hc2 hf2); (have g2a : w.heap.size < w2.heap.size := by omega); (have g2b : w.heap.size + 1 < w2.heap.size := by omega); (have g2c : w.heap.size + 1 + 1 < w2.heap.size := by omega)
  go_wp2_with fail
  refine (iRatOf_t (a * d + c * b) (b * d) _ (by omega) (by omega) (by omega) (by omega)).mono ?_
  rintro e w3 ⟨rfl, hb3⟩
  obtain ⟨hc3, hf3⟩ := bcell hb3; have hz3 := hb3.size; (try simp only [World.size_alloc, World.size_setCell, World.size_drew, size_drewN] at hz3 hc3 hf3); (have g3a : w.heap.size < w3.heap.size := by omega); (have g3b : w.heap.size + 1 < w3.heap.size := by omega); (have g3c : w.heap.size + 1 + 1 < w3.heap.size := by omega)
  go_wp2
  refine bodyPost_ret (v := .tuple #[.agg #[.int .i64 (ratR (a * d + c * b) (b * d)).1, .int .i64 (ratR (a * d + c * b) (b * d)).2.1], .bool (ratR (a * d + c * b) (b * d)).2.2]) (by simp (disch := first | omega | (simp; done) | (simp; omega)) [results, Tryd.results25, go_sem, cell_set, *]) rfl ?_
  exact ⟨rfl, by (repeat' first | (with_reducible exact Below.refl _ _) | (with_reducible assumption) | (with_reducible refine below_drewN ?_ _) | (with_reducible refine Below.drew ?_) | (with_reducible refine Below.alloc ?_ ?_ _) | (with_reducible refine Below.setCell ?_ ?_ _) | (with_reducible refine Below.trans ?_ (Below.mono (by assumption) ?_)) | first | omega | (simp only [World.size_alloc, World.size_setCell, World.size_drew, size_drewN]; omega) | (simp; done) | (simp; omega) | (simp only [World.size_alloc, World.size_setCell, World.size_drew, size_drewN] at *; omega) | (simp at *; omega))⟩
set_option maxHeartbeats 1000000 in
theorem twice_any (s l j : Int) (w : World) (h1 : lvB s l j = true) :
    Calls Tryd.prog 36 #[.agg #[.int .i64 s, .int .i64 l, .int .i64 j]] w fun e w' => e = .returned (.int .i64 (2 * (j * (j + 2)) + j * (j + 2) + s * (s + 2) - 2 * l * (2 * l + 2))) ∧ Below w.heap.size w w' := by
  obtain ⟨s0, s1, l0, l1, j0, j1⟩ := lvB_bd h1
  have m1 := sq_bd j j0 (by omega)
  have m2 := sq_bd (2 * l) (by omega) (by omega)
  have m3 := sq_bd s s0 (by omega)
  go_enter Tryd.func36, Tryd.ntmps36
  go_wp2_with (go_at_call 37; refine (l15Square_any _ _ (by omega) (by omega)).mono ?_; rintro e w' ⟨rfl, rfl⟩)
  try go_quiet ((go_at_call 37; exact Calls.quiet_of_same ((l15Square_any _ _ (by omega) (by omega)).mono fun _ _ h => ⟨h.1, h.2.symm⟩)))
  try go_wp2
  go_ret
  exact ⟨rfl, by (repeat' first | (with_reducible exact Below.refl _ _) | (with_reducible assumption) | (with_reducible refine below_drewN ?_ _) | (with_reducible refine Below.drew ?_) | (with_reducible refine Below.alloc ?_ ?_ _) | (with_reducible refine Below.setCell ?_ ?_ _) | (with_reducible refine Below.trans ?_ (Below.mono (by assumption) ?_)) | first | omega | (simp only [World.size_alloc, World.size_setCell, World.size_drew, size_drewN]; omega) | (simp; done) | (simp; omega) | (simp only [World.size_alloc, World.size_setCell, World.size_drew, size_drewN] at *; omega) | (simp at *; omega))⟩
end Go.Proofs.YtdghihinednenaaDoor
