/-
  The walks of factors (impl and spec). Conditions: the cells of the two package-level errors.
-/
import Derived.Test.YtdghihinednenaaDoorFact
namespace Go.Proofs.YtdghihinednenaaDoor
set_option linter.unusedSimpArgs false
set_option linter.unusedVariables false
open Go.RowKit

set_option maxHeartbeats 1000000 in
theorem iFac_no (s l j : Int) (eL : Value) (w : World) (h : lvB s l j = false) (h2 : 2 ≤ w.heap.size) (hL : w.cell? ⟨1, 0, none⟩ = some eL) :
    Calls Tryd.prog 38 #[.agg #[.int .i64 s, .int .i64 l, .int .i64 j]] w fun e w' => e = .returned (.tuple #[.agg #[.int .i64 0, .int .i64 0], eL]) ∧ Below w.heap.size w w' := by
  have n1 : ¬ w.heap.size = 0 := by omega
  have n2 : ¬ (1 : Nat) = w.heap.size + 1 := by omega
  have n3 : ¬ w.heap.size + 1 = 1 := by omega
  go_enter Tryd.func38, Tryd.ntmps38
  go_wp2_with (go_at_call 54; refine (iLevelValid_any _ _ _ _).mono ?_; rintro e w1 ⟨rfl, hb1⟩; obtain ⟨hc1, hf1⟩ := bcell hb1; have hz1 := hb1.size; (try simp only [World.size_alloc, World.size_setCell, World.size_drew, size_drewN] at hz1 hc1 hf1); (have g1a : w.heap.size < w1.heap.size := by omega); (have g1b : w.heap.size + 1 < w1.heap.size := by omega); (have hL1 : w1.cell? ⟨1, 0, none⟩ = some eL := by (simp (disch := first | omega | (simp; done) | (simp; omega)) [go_sem, *]; done)); (have k0 : w1.cell? ⟨w.heap.size, 0, none⟩ = some (.int .i64 s) := by (simp (disch := first | omega | (simp; done) | (simp; omega)) [go_sem, *]; done)); (have k1 : w1.cell? ⟨w.heap.size, 1, none⟩ = some (.int .i64 l) := by (simp (disch := first | omega | (simp; done) | (simp; omega)) [go_sem, *]; done)); (have k2 : w1.cell? ⟨w.heap.size, 2, none⟩ = some (.int .i64 j) := by (simp (disch := first | omega | (simp; done) | (simp; omega)) [go_sem, *]; done)); (have m0 : w1.cell? ⟨w.heap.size + 1, 0, none⟩ = some (.int .i64 0) := by (simp (disch := first | omega | (simp; done) | (simp; omega)) [go_sem, *]; done)); (have m1 : w1.cell? ⟨w.heap.size + 1, 1, none⟩ = some (.int .i64 0) := by (simp (disch := first | omega | (simp; done) | (simp; omega)) [go_sem, *]; done)); (have n0 : w1.frozen? ⟨w.heap.size + 1, 0, none⟩ = false := by (simp (disch := first | omega | (simp; done) | (simp; omega)) [go_sem, *]; done)); (have n1 : w1.frozen? ⟨w.heap.size + 1, 1, none⟩ = false := by (simp (disch := first | omega | (simp; done) | (simp; omega)) [go_sem, *]; done)); clear hc1 hf1)
  go_region
  go_wp2
  refine bodyPost_ret (v := .tuple #[.agg #[.int .i64 0, .int .i64 0], eL]) (by simp (disch := first | omega | (simp; done) | (simp; omega)) [results, Tryd.results38, go_sem, cell_set, *]) rfl ?_
  exact ⟨rfl, by (repeat' first | (with_reducible exact Below.refl _ _) | (with_reducible assumption) | (with_reducible refine below_drewN ?_ _) | (with_reducible refine Below.drew ?_) | (with_reducible refine Below.alloc ?_ ?_ _) | (with_reducible refine Below.setCell ?_ ?_ _) | (with_reducible refine Below.trans ?_ (Below.mono (by assumption) ?_)) | first | omega | (simp only [World.size_alloc, World.size_setCell, World.size_drew, size_drewN]; omega) | (simp; done) | (simp; omega) | (simp only [World.size_alloc, World.size_setCell, World.size_drew, size_drewN] at *; omega) | (simp at *; omega))⟩
set_option maxHeartbeats 1000000 in
theorem iFac_rest (s l : Int) (eR : Value) (w : World) (h : lvB s l 0 = true) (h2 : 2 ≤ w.heap.size) (hR : w.cell? ⟨0, 0, none⟩ = some eR) :
    Calls Tryd.prog 38 #[.agg #[.int .i64 s, .int .i64 l, .int .i64 0]] w fun e w' => e = .returned (.tuple #[.agg #[.int .i64 0, .int .i64 0], eR]) ∧ Below w.heap.size w w' := by
  have n1 : ¬ w.heap.size = 0 := by omega
  have n2 : ¬ (1 : Nat) = w.heap.size + 1 := by omega
  have n3 : ¬ w.heap.size + 1 = 1 := by omega
  go_enter Tryd.func38, Tryd.ntmps38
  go_wp2_with (go_at_call 54; refine (iLevelValid_any _ _ _ _).mono ?_; rintro e w1 ⟨rfl, hb1⟩; obtain ⟨hc1, hf1⟩ := bcell hb1; have hz1 := hb1.size; (try simp only [World.size_alloc, World.size_setCell, World.size_drew, size_drewN] at hz1 hc1 hf1); (have g1a : w.heap.size < w1.heap.size := by omega); (have g1b : w.heap.size + 1 < w1.heap.size := by omega); (have hR1 : w1.cell? ⟨0, 0, none⟩ = some eR := by (simp (disch := first | omega | (simp; done) | (simp; omega)) [go_sem, *]; done)); (have k0 : w1.cell? ⟨w.heap.size, 0, none⟩ = some (.int .i64 s) := by (simp (disch := first | omega | (simp; done) | (simp; omega)) [go_sem, *]; done)); (have k1 : w1.cell? ⟨w.heap.size, 1, none⟩ = some (.int .i64 l) := by (simp (disch := first | omega | (simp; done) | (simp; omega)) [go_sem, *]; done)); (have k2 : w1.cell? ⟨w.heap.size, 2, none⟩ = some (.int .i64 0) := by (simp (disch := first | omega | (simp; done) | (simp; omega)) [go_sem, *]; done)); (have m0 : w1.cell? ⟨w.heap.size + 1, 0, none⟩ = some (.int .i64 0) := by (simp (disch := first | omega | (simp; done) | (simp; omega)) [go_sem, *]; done)); (have m1 : w1.cell? ⟨w.heap.size + 1, 1, none⟩ = some (.int .i64 0) := by (simp (disch := first | omega | (simp; done) | (simp; omega)) [go_sem, *]; done)); (have n0 : w1.frozen? ⟨w.heap.size + 1, 0, none⟩ = false := by (simp (disch := first | omega | (simp; done) | (simp; omega)) [go_sem, *]; done)); (have n1 : w1.frozen? ⟨w.heap.size + 1, 1, none⟩ = false := by (simp (disch := first | omega | (simp; done) | (simp; omega)) [go_sem, *]; done)); clear hc1 hf1)
  go_region
  go_wp2
  refine bodyPost_ret (v := .tuple #[.agg #[.int .i64 0, .int .i64 0], eR]) (by simp (disch := first | omega | (simp; done) | (simp; omega)) [results, Tryd.results38, go_sem, cell_set, *]) rfl ?_
  exact ⟨rfl, by (repeat' first | (with_reducible exact Below.refl _ _) | (with_reducible assumption) | (with_reducible refine below_drewN ?_ _) | (with_reducible refine Below.drew ?_) | (with_reducible refine Below.alloc ?_ ?_ _) | (with_reducible refine Below.setCell ?_ ?_ _) | (with_reducible refine Below.trans ?_ (Below.mono (by assumption) ?_)) | first | omega | (simp only [World.size_alloc, World.size_setCell, World.size_drew, size_drewN]; omega) | (simp; done) | (simp; omega) | (simp only [World.size_alloc, World.size_setCell, World.size_drew, size_drewN] at *; omega) | (simp at *; omega))⟩
end Go.Proofs.YtdghihinednenaaDoor
