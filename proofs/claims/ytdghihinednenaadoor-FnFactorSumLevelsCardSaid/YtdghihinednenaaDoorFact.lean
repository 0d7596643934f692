/-
  The walks of factors (impl and spec). Conditions: the cells of the two package-level errors.
-/
import Derived.Test.YtdghihinednenaaDoorRata
namespace Go.Proofs.YtdghihinednenaaDoor
set_option linter.unusedSimpArgs false
set_option linter.unusedVariables false
open Go.RowKit

def twI (s l j : Int) : Int := 2 * (j * (j + 2)) + j * (j + 2) + s * (s + 2) - 2 * l * (2 * l + 2)
/-- The factor of a valid level. -/
def facR (s l j : Int) : Int × Int × Bool := ratR (twI s l j) (2 * (j * (j + 2)))
theorem twI_bd {s l j : Int} (h : lvB s l j = true) : -50000 ≤ twI s l j ∧ twI s l j ≤ 50000 := by
  obtain ⟨s0, s1, l0, l1, j0, j1⟩ := lvB_bd h
  have m1 := sq_bd j j0 (by omega)
  have m2 := sq_bd (2 * l) (by omega) (by omega)
  have m3 := sq_bd s s0 (by omega)
  unfold twI; omega
theorem sq_pos {j : Int} (h0 : 0 < j) (h1 : j ≤ 100) : 0 < j * (j + 2) ∧ j * (j + 2) ≤ 10200 :=
  ⟨Int.mul_pos h0 (by omega), (sq_bd j (by omega) h1).2⟩
set_option maxHeartbeats 1000000 in
theorem sFactor_no (s l j : Int) (w : World) (h : lvB s l j = false) :
    Calls Tryd.prog 14 #[.agg #[.int .i64 s, .int .i64 l, .int .i64 j]] w fun e w' => e = .returned (.tuple #[.agg #[.int .i64 0, .int .i64 0], .bool false]) ∧ Below w.heap.size w w' := by
  go_enter Tryd.func14, Tryd.ntmps14
  go_wp2_with (go_at_call 34; refine (sLevelValid_any _ _ _ _).mono ?_; rintro e w1 ⟨rfl, hb1⟩; obtain ⟨hc1, hf1⟩ := bcell hb1; have hz1 := hb1.size; (try simp only [World.size_alloc, World.size_setCell, World.size_drew, size_drewN] at hz1 hc1 hf1); (have g1a : w.heap.size < w1.heap.size := by omega); (have g1b : w.heap.size + 1 < w1.heap.size := by omega))
  refine bodyPost_ret (v := .tuple #[.agg #[.int .i64 0, .int .i64 0], .bool false]) (by simp (disch := first | omega | (simp; done) | (simp; omega)) [results, Tryd.results14, go_sem, cell_set, *]) rfl ?_
  exact ⟨rfl, by (repeat' first | (with_reducible exact Below.refl _ _) | (with_reducible assumption) | (with_reducible refine below_drewN ?_ _) | (with_reducible refine Below.drew ?_) | (with_reducible refine Below.alloc ?_ ?_ _) | (with_reducible refine Below.setCell ?_ ?_ _) | (with_reducible refine Below.trans ?_ (Below.mono (by assumption) ?_)) | first | omega | (simp only [World.size_alloc, World.size_setCell, World.size_drew, size_drewN]; omega) | (simp; done) | (simp; omega) | (simp only [World.size_alloc, World.size_setCell, World.size_drew, size_drewN] at *; omega) | (simp at *; omega))⟩
set_option maxHeartbeats 1000000 in
theorem sFactor_rest (s l : Int) (w : World) (h : lvB s l 0 = true) :
    Calls Tryd.prog 14 #[.agg #[.int .i64 s, .int .i64 l, .int .i64 0]] w fun e w' => e = .returned (.tuple #[.agg #[.int .i64 0, .int .i64 0], .bool false]) ∧ Below w.heap.size w w' := by
  go_enter Tryd.func14, Tryd.ntmps14
  go_wp2_with (go_at_call 34; refine (sLevelValid_any _ _ _ _).mono ?_; rintro e w1 ⟨rfl, hb1⟩; obtain ⟨hc1, hf1⟩ := bcell hb1; have hz1 := hb1.size; (try simp only [World.size_alloc, World.size_setCell, World.size_drew, size_drewN] at hz1 hc1 hf1); (have g1a : w.heap.size < w1.heap.size := by omega); (have g1b : w.heap.size + 1 < w1.heap.size := by omega))
  refine bodyPost_ret (v := .tuple #[.agg #[.int .i64 0, .int .i64 0], .bool false]) (by simp (disch := first | omega | (simp; done) | (simp; omega)) [results, Tryd.results14, go_sem, cell_set, *]) rfl ?_
  exact ⟨rfl, by (repeat' first | (with_reducible exact Below.refl _ _) | (with_reducible assumption) | (with_reducible refine below_drewN ?_ _) | (with_reducible refine Below.drew ?_) | (with_reducible refine Below.alloc ?_ ?_ _) | (with_reducible refine Below.setCell ?_ ?_ _) | (with_reducible refine Below.trans ?_ (Below.mono (by assumption) ?_)) | first | omega | (simp only [World.size_alloc, World.size_setCell, World.size_drew, size_drewN]; omega) | (simp; done) | (simp; omega) | (simp only [World.size_alloc, World.size_setCell, World.size_drew, size_drewN] at *; omega) | (simp at *; omega))⟩
set_option maxHeartbeats 1000000 in
theorem sFactor_yes (s l j : Int) (w : World) (h : lvB s l j = true) (hj : 0 < j) :
    Calls Tryd.prog 14 #[.agg #[.int .i64 s, .int .i64 l, .int .i64 j]] w fun e w' => e = .returned (.tuple #[.agg #[.int .i64 (facR s l j).1, .int .i64 (facR s l j).2.1], .bool (facR s l j).2.2]) ∧ Below w.heap.size w w' := by
  have bd := lvB_bd h
  have bt := twI_bd h
  have bj := sq_pos hj (by omega)
  have t1 : (j == 0) = false := by simp; omega
  go_enter Tryd.func14, Tryd.ntmps14
  go_wp2_with fail
  refine (sLevelValid_any _ _ _ _).mono ?_
  rintro e w1 ⟨rfl, hb1⟩
  obtain ⟨hc1, hf1⟩ := bcell hb1; have hz1 := hb1.size; (try simp only [World.size_alloc, World.size_setCell, World.size_drew, size_drewN] at hz1 hc1 hf1); (have g1a : w.heap.size < w1.heap.size := by omega); (have g1b : w.heap.size + 1 < w1.heap.size := by omega)
  go_wp2_with fail
  have q1 : IntKind.i64.wrap (2 * (j * (j + 2))) = 2 * (j * (j + 2)) := IntWalk.i64_in _ (by omega)
  go_region_with (first | (go_at_call 36; refine (twice_any _ _ _ _ h).mono ?_; rintro e w2 ⟨rfl, hb2⟩; obtain ⟨hc2, hf2⟩ := bcell hb2; have hz2 := hb2.size; (try simp only [World.size_alloc, World.size_setCell, World.size_drew, size_drewN] at hz2 hc2 hf2); (have g2a : w.heap.size < w2.heap.size := by omega); (have g2b : w.heap.size + 1 < w2.heap.size := by omega); rw [show 2 * (j * (j + 2)) + j * (j + 2) + s * (s + 2) - 2 * l * (2 * l + 2) = twI s l j from rfl]) | (go_at_call 37; refine (l15Square_any _ _ (by omega) (by omega)).mono ?_; rintro e w' ⟨rfl, rfl⟩) | (go_at_call 35; refine (sRatOf_any (twI s l j) (2 * (j * (j + 2))) _ (by omega) (by omega) (by omega) (by omega)).mono ?_; rintro e w3 ⟨rfl, hb3⟩; obtain ⟨hc3, hf3⟩ := bcell hb3; have hz3 := hb3.size; (try simp only [World.size_alloc, World.size_setCell, World.size_drew, size_drewN] at hz3 hc3 hf3); (have g3a : w.heap.size < w3.heap.size := by omega); (have g3b : w.heap.size + 1 < w3.heap.size := by omega); rw [show ratR (twI s l j) (2 * (j * (j + 2))) = facR s l j from rfl]))
  all_goals go_wp2
  all_goals refine bodyPost_ret (v := .tuple #[.agg #[.int .i64 (facR s l j).1, .int .i64 (facR s l j).2.1], .bool (facR s l j).2.2]) (by simp (disch := first | omega | (simp; done) | (simp; omega)) [results, Tryd.results14, go_sem, cell_set, *]) rfl ?_
  all_goals exact ⟨rfl, by (repeat' first | (with_reducible exact Below.refl _ _) | (with_reducible assumption) | (with_reducible refine below_drewN ?_ _) | (with_reducible refine Below.drew ?_) | (with_reducible refine Below.alloc ?_ ?_ _) | (with_reducible refine Below.setCell ?_ ?_ _) | (with_reducible refine Below.trans ?_ (Below.mono (by assumption) ?_)) | first | omega | (simp only [World.size_alloc, World.size_setCell, World.size_drew, size_drewN]; omega) | (simp; done) | (simp; omega) | (simp only [World.size_alloc, World.size_setCell, World.size_drew, size_drewN] at *; omega) | (simp at *; omega))⟩
end Go.Proofs.YtdghihinednenaaDoor
