/-
  The walk of impl.factorOf at a valid level that is not at rest. Conditions: none.
-/
import Derived.Test.YtdghihinednenaaDoorFactb
namespace Go.Proofs.YtdghihinednenaaDoor
set_option linter.unusedSimpArgs false
set_option linter.unusedVariables false
open Go.RowKit

set_option maxHeartbeats 2000000 in
theorem iFac_yes (s l j : Int) (w : World) (h : lvB s l j = true) (hj : 0 < j) (hk : (facR s l j).2.2 = true) :
    Calls Tryd.prog 38 #[.agg #[.int .i64 s, .int .i64 l, .int .i64 j]] w fun e w' => e = .returned (.tuple #[.agg #[.int .i64 (facR s l j).1, .int .i64 (facR s l j).2.1], .nilIface]) ∧ Below w.heap.size w w' := by
  have bd := lvB_bd h
  have bt := twI_bd h
  have bj := sq_pos hj (by omega)
  have m2 := sq_bd (2 * l) (by omega) (by omega)
  have m3 := sq_bd s (by omega) (by omega)
  have t1 : (j == 0) = false := by simp; omega
  go_enter Tryd.func38, Tryd.ntmps38
  go_wp2_with (go_at_call 54; refine (iLevelValid_any _ _ _ _).mono ?_; rintro e w1 ⟨rfl, hb1⟩; obtain ⟨hc1, hf1⟩ := bcell hb1; have hz1 := hb1.size; (try simp only [World.size_alloc, World.size_setCell, World.size_drew, size_drewN] at hz1 hc1 hf1); (have g1a : w.heap.size < w1.heap.size := by omega); (have g1b : w.heap.size + 1 < w1.heap.size := by omega); (have k0 : w1.cell? ⟨w.heap.size, 0, none⟩ = some (.int .i64 s) := by (simp (disch := first | omega | (simp; done) | (simp; omega)) [go_sem, *]; done)); (have k1 : w1.cell? ⟨w.heap.size, 1, none⟩ = some (.int .i64 l) := by (simp (disch := first | omega | (simp; done) | (simp; omega)) [go_sem, *]; done)); (have k2 : w1.cell? ⟨w.heap.size, 2, none⟩ = some (.int .i64 j) := by (simp (disch := first | omega | (simp; done) | (simp; omega)) [go_sem, *]; done)); (have m0 : w1.cell? ⟨w.heap.size + 1, 0, none⟩ = some (.int .i64 0) := by (simp (disch := first | omega | (simp; done) | (simp; omega)) [go_sem, *]; done)); (have m1 : w1.cell? ⟨w.heap.size + 1, 1, none⟩ = some (.int .i64 0) := by (simp (disch := first | omega | (simp; done) | (simp; omega)) [go_sem, *]; done)); (have n0 : w1.frozen? ⟨w.heap.size + 1, 0, none⟩ = false := by (simp (disch := first | omega | (simp; done) | (simp; omega)) [go_sem, *]; done)); (have n1 : w1.frozen? ⟨w.heap.size + 1, 1, none⟩ = false := by (simp (disch := first | omega | (simp; done) | (simp; omega)) [go_sem, *]; done)); clear hc1 hf1)
  refine (square_any _ _ _ _ _ (by omega) (by omega)).mono ?_
  rintro e w2 ⟨rfl, hb2⟩
  obtain ⟨hc2, hf2⟩ := bcell hb2; have hz2 := hb2.size; (try simp only [World.size_alloc, World.size_setCell, World.size_drew, size_drewN] at hz2 hc2 hf2); (have g2a : w.heap.size < w2.heap.size := by omega); (have g2b : w.heap.size + 1 < w2.heap.size := by omega)
  have hzz : w1.heap.size < w2.heap.size := by omega
  (have p0 : w2.cell? ⟨w1.heap.size, 0, none⟩ = some (.int .i64 s) := by (simp (disch := first | omega | (simp; done) | (simp; omega)) [go_sem, *]; done)); (have p1 : w2.cell? ⟨w1.heap.size, 1, none⟩ = some (.int .i64 l) := by (simp (disch := first | omega | (simp; done) | (simp; omega)) [go_sem, *]; done)); (have p2 : w2.cell? ⟨w1.heap.size, 2, none⟩ = some (.int .i64 j) := by (simp (disch := first | omega | (simp; done) | (simp; omega)) [go_sem, *]; done))
  (have q0 : w2.cell? ⟨w.heap.size + 1, 0, none⟩ = some (.int .i64 0) := by (simp (disch := first | omega | (simp; done) | (simp; omega)) [go_sem, *]; done)); (have q1 : w2.cell? ⟨w.heap.size + 1, 1, none⟩ = some (.int .i64 0) := by (simp (disch := first | omega | (simp; done) | (simp; omega)) [go_sem, *]; done))
  (have r0 : w2.frozen? ⟨w.heap.size + 1, 0, none⟩ = false := by (simp (disch := first | omega | (simp; done) | (simp; omega)) [go_sem, *]; done)); (have r1 : w2.frozen? ⟨w.heap.size + 1, 1, none⟩ = false := by (simp (disch := first | omega | (simp; done) | (simp; omega)) [go_sem, *]; done))
  have hB : Below w.heap.size w w2 := by (repeat' first | (with_reducible exact Below.refl _ _) | (with_reducible assumption) | (with_reducible refine below_drewN ?_ _) | (with_reducible refine Below.drew ?_) | (with_reducible refine Below.alloc ?_ ?_ _) | (with_reducible refine Below.setCell ?_ ?_ _) | (with_reducible refine Below.trans ?_ (Below.mono (by assumption) ?_)) | first | omega | (simp only [World.size_alloc, World.size_setCell, World.size_drew, size_drewN]; omega) | (simp; done) | (simp; omega) | (simp only [World.size_alloc, World.size_setCell, World.size_drew, size_drewN] at *; omega) | (simp at *; omega))
  clear hc2 hf2 k0 k1 k2 m0 m1 n0 n1
  have z1 : IntKind.i64.wrap (2 * l) = 2 * l := IntWalk.i64_in _ (by omega)
  have z2 : IntKind.i64.wrap (2 * (j * (j + 2)) + j * (j + 2)) = 2 * (j * (j + 2)) + j * (j + 2) := IntWalk.i64_in _ (by omega)
  have z3 : IntKind.i64.wrap (2 * (j * (j + 2)) + j * (j + 2) + s * (s + 2)) = 2 * (j * (j + 2)) + j * (j + 2) + s * (s + 2) := IntWalk.i64_in _ (by omega)
  have z4 : IntKind.i64.wrap (2 * (j * (j + 2)) + j * (j + 2) + s * (s + 2) - 2 * l * (2 * l + 2)) = 2 * (j * (j + 2)) + j * (j + 2) + s * (s + 2) - 2 * l * (2 * l + 2) := IntWalk.i64_in _ (by omega)
  go_wp2_with fail
  have gy2 : w.heap.size < w2.heap.size := by omega
  have gz2 : ¬ w.heap.size + 1 = w2.heap.size := by omega
  have e0 := World.new_ne w2 _ p0
  have e1 := World.new_ne w2 _ p1
  have e2 := World.new_ne w2 _ p2
  have e3 := World.new_ne w2 _ q0
  have e4 := World.new_ne w2 _ q1
  go_region_held3 (fun w' => w'.cell? ⟨w1.heap.size, 0, none⟩ = some (.int .i64 s) ∧ w'.cell? ⟨w1.heap.size, 1, none⟩ = some (.int .i64 l) ∧ w'.cell? ⟨w1.heap.size, 2, none⟩ = some (.int .i64 j) ∧ w2.heap.size ≤ w'.heap.size ∧ Below w2.heap.size w2 w')
    (first | (simp (disch := first | omega | (simp; done) | (simp; omega)) [go_sem, *]; done) | ((repeat' first | (with_reducible exact Below.refl _ _) | (with_reducible assumption) | (with_reducible refine below_drewN ?_ _) | (with_reducible refine Below.drew ?_) | (with_reducible refine Below.alloc ?_ ?_ _) | (with_reducible refine Below.setCell ?_ ?_ _) | (with_reducible refine Below.trans ?_ (Below.mono (by assumption) ?_)) | first | omega | (simp only [World.size_alloc, World.size_setCell, World.size_drew, size_drewN]; omega) | (simp; done) | (simp; omega) | (simp only [World.size_alloc, World.size_setCell, World.size_drew, size_drewN] at *; omega) | (simp at *; omega)); done) | ((try go_split_ands); (refine ⟨?_, ?_, ?_, ?_, ?_⟩ <;> first | (first | omega | (simp only [World.size_alloc, World.size_setCell, World.size_drew, size_drewN]; omega) | (simp (disch := first | omega | (simp; done) | (simp; omega)) [go_sem, *]; done) | ((repeat' first | (with_reducible exact Below.refl _ _) | (with_reducible assumption) | (with_reducible refine below_drewN ?_ _) | (with_reducible refine Below.drew ?_) | (with_reducible refine Below.alloc ?_ ?_ _) | (with_reducible refine Below.setCell ?_ ?_ _) | (with_reducible refine Below.trans ?_ (Below.mono (by assumption) ?_)) | first | omega | (simp only [World.size_alloc, World.size_setCell, World.size_drew, size_drewN]; omega) | (simp; done) | (simp; omega) | (simp only [World.size_alloc, World.size_setCell, World.size_drew, size_drewN] at *; omega) | (simp at *; omega)); done)) | (go_keep; done))))
    (first | (go_at_call 55; refine (square_any _ _ _ _ _ (by omega) (by omega)).mono ?_; rintro e w3 ⟨rfl, hb3⟩; obtain ⟨hc3, hf3⟩ := bcell hb3; have hz3 := hb3.size; (try simp only [World.size_alloc, World.size_setCell, World.size_drew, size_drewN] at hz3 hc3 hf3); (have gx3 : w.heap.size + 1 < w3.heap.size := by omega); (have gy3 : w.heap.size < w3.heap.size := by omega); (have gz3 : ¬ w.heap.size + 1 = w3.heap.size := by omega); (first | (have gg := Nat.lt_of_succ_le hz3) | (have gg := Nat.lt_of_lt_of_le gg hz3) | skip)) | (go_at_call 20; refine (iRatOf_t (twI s l j) (2 * (j * (j + 2))) _ (by omega) (by omega) (by omega) (by omega)).mono ?_; rintro e w4 ⟨rfl, hb4⟩; obtain ⟨hc4, hf4⟩ := bcell hb4; have hz4 := hb4.size; (try simp only [World.size_alloc, World.size_setCell, World.size_drew, size_drewN] at hz4 hc4 hf4); (have gx4 : w.heap.size + 1 < w4.heap.size := by omega); (have gy4 : w.heap.size < w4.heap.size := by omega); (have gz4 : ¬ w.heap.size + 1 = w4.heap.size := by omega); (first | (have gg := Nat.lt_of_succ_le hz4) | (have gg := Nat.lt_of_lt_of_le gg hz4) | skip); rw [show ratR (twI s l j) (2 * (j * (j + 2))) = facR s l j from rfl]))
  all_goals go_wp2
  all_goals refine bodyPost_ret (v := .tuple #[.agg #[.int .i64 (facR s l j).1, .int .i64 (facR s l j).2.1], .nilIface]) (by simp (disch := first | omega | (simp; done) | (simp; omega)) [results, Tryd.results38, go_sem, cell_set, *]) rfl ?_
  all_goals exact ⟨rfl, by (repeat' first | (with_reducible exact Below.refl _ _) | (with_reducible assumption) | (with_reducible refine below_drewN ?_ _) | (with_reducible refine Below.drew ?_) | (with_reducible refine Below.alloc ?_ ?_ _) | (with_reducible refine Below.setCell ?_ ?_ _) | (with_reducible refine Below.trans ?_ (Below.mono (by assumption) ?_)) | first | omega | (simp only [World.size_alloc, World.size_setCell, World.size_drew, size_drewN]; omega) | (simp; done) | (simp; omega) | (simp only [World.size_alloc, World.size_setCell, World.size_drew, size_drewN] at *; omega) | (simp at *; omega))⟩
end Go.Proofs.YtdghihinednenaaDoor
