/-
  The walks of DrawLevelInterval and DrawLevelValid, and of the laws FnLevelRule and FnLevel. Conditions: none.
-/
import Derived.Test.YtjienggophfhfaaDraw
import Derived.Test.YtjienggophfhfaaSame
import Derived.Test.YtjienggophfhfaaShift
import Derived.Test.YtjienggophfhfaaSums
namespace Go.Proofs.Ytjienggophfhfaa
set_option linter.unusedSimpArgs false
set_option linter.unusedVariables false
open Go.RowKit

theorem lvJs_two {s l : Int} (s0 : 1 ≤ s) (s1 : s < 5) (l0 : 1 ≤ l) (l1 : l < 5) : 2 ≤ (lvJs s l).length := by
  have h1 : tvB s l = true := by simp [tvB]; omega
  obtain ⟨q1, q2, q3, q4⟩ := lvJs_yes h1
  rw [q4, steps_length]
  unfold cMany
  split <;> omega
set_option maxHeartbeats 1000000 in
theorem dLevelInterval_any (a : Option Addr) (len cap : Nat) (w : World) (hb : BytesAt w a len cap) :
    Calls Try.prog 25 #[.slice a len cap] w fun e w' => ∃ s l j : Int, e = .returned (.agg #[.int .i64 s, .int .i64 l, .int .i64 j]) ∧ -100 ≤ s ∧ s ≤ 100 ∧ -100 ≤ l ∧ l ≤ 100 ∧ -100 ≤ j ∧ j ≤ 100 ∧ Below w.heap.size w w' := by
  go_enter Try.func25, Try.ntmps25
  go_wp2_with fail
  refine (l6Open_any a len cap _ (bytesAt_alloc hb _)).mono ?_
  rintro e w1 ⟨rb, m, c, rfl, hr, hrb, hb1⟩
  obtain ⟨hc1, hf1⟩ := bcell hb1; have hz1 := hb1.size; (try simp only [World.size_alloc, World.size_setCell, World.size_drew, size_drewN] at hz1 hc1 hf1); (have g1a : w.heap.size < w1.heap.size := by omega)
  simp only [World.size_alloc] at hrb
  go_wp2_with fail
  refine (l92Level_any rb a m c 0 _ hr (by omega) (by omega)).mono ?_
  rintro e w2 ⟨s, l, j, p', rfl, hs0, hs1, hl0, hl1, hj0, hj1, hp0, hp1, hg2, hr2⟩
  obtain ⟨hc2, hf2⟩ := ncell hg2; have hz2 := hg2.size; (try simp only [World.size_alloc, World.size_setCell, World.size_drew, size_drewN] at hz2 hc2 hf2); (have g2a : w.heap.size < w2.heap.size := by omega)
  have hrl := hr2.lt
  have hB2 : But w.heap.size rb w w2 := by (repeat' first | (with_reducible exact But.refl _ _ _) | (with_reducible assumption) | (with_reducible refine But.drew ?_) | (with_reducible refine But.alloc ?_ ?_ _) | (with_reducible refine But.setCell ?_ ?_ _) | (with_reducible refine But.grown ?_ (by assumption) ?_) | (with_reducible refine But.below ?_ (by assumption) ?_) | first | omega | (simp only [World.size_alloc, World.size_setCell, World.size_drew, size_drewN]; omega) | (simp; done) | (simp; omega) | (simp only [World.size_alloc, World.size_setCell, World.size_drew, size_drewN] at *; omega) | (simp at *; omega))
  go_wp2_with fail
  refine (pick_any rb a m c p' _ _ (hr2.alloc _) (by omega) (by omega) (by omega)).mono ?_
  rintro e w3 ⟨x3, rfl, a0, a1, -, hg3, hr3⟩
  obtain ⟨hc3, hf3⟩ := ncell hg3; have hz3 := hg3.size; (try simp only [World.size_alloc, World.size_setCell, World.size_drew, size_drewN] at hz3 hc3 hf3); (have g3a : w.heap.size < w3.heap.size := by omega)
  (have k0 : w3.cell? ⟨w.heap.size, 0, none⟩ = some (.int .i64 0) := by (simp (disch := first | omega | (simp; done) | (simp; omega)) [go_sem, *]; done)); (have k1 : w3.cell? ⟨w.heap.size, 1, none⟩ = some (.int .i64 0) := by (simp (disch := first | omega | (simp; done) | (simp; omega)) [go_sem, *]; done)); (have k2 : w3.cell? ⟨w.heap.size, 2, none⟩ = some (.int .i64 0) := by (simp (disch := first | omega | (simp; done) | (simp; omega)) [go_sem, *]; done))
  (have x0 : w3.cell? ⟨w2.heap.size, 0, none⟩ = some (.int .i64 s) := by (simp (disch := first | omega | (simp; done) | (simp; omega)) [go_sem, *]; done)); (have x1 : w3.cell? ⟨w2.heap.size, 1, none⟩ = some (.int .i64 l) := by (simp (disch := first | omega | (simp; done) | (simp; omega)) [go_sem, *]; done)); (have x2 : w3.cell? ⟨w2.heap.size, 2, none⟩ = some (.int .i64 j) := by (simp (disch := first | omega | (simp; done) | (simp; omega)) [go_sem, *]; done))
  (have n0 : w3.frozen? ⟨w.heap.size, 0, none⟩ = false := by (simp (disch := first | omega | (simp; done) | (simp; omega)) [go_sem, *]; done)); (have n1 : w3.frozen? ⟨w.heap.size, 1, none⟩ = false := by (simp (disch := first | omega | (simp; done) | (simp; omega)) [go_sem, *]; done)); (have n2 : w3.frozen? ⟨w.heap.size, 2, none⟩ = false := by (simp (disch := first | omega | (simp; done) | (simp; omega)) [go_sem, *]; done))
  have hB3 : But w.heap.size rb w w3 := by (repeat' first | (with_reducible exact But.refl _ _ _) | (with_reducible assumption) | (with_reducible refine But.drew ?_) | (with_reducible refine But.alloc ?_ ?_ _) | (with_reducible refine But.setCell ?_ ?_ _) | (with_reducible refine But.grown ?_ (by assumption) ?_) | (with_reducible refine But.below ?_ (by assumption) ?_) | first | omega | (simp only [World.size_alloc, World.size_setCell, World.size_drew, size_drewN]; omega) | (simp; done) | (simp; omega) | (simp only [World.size_alloc, World.size_setCell, World.size_drew, size_drewN] at *; omega) | (simp at *; omega))
  clear hc1 hf1 hc2 hf2 hc3 hf3 hb1 hg2 hg3 hB2
  go_wp2_with fail
  · refine (pick_any rb a m c (p' + 1) _ _ hr3 (by omega) (by omega) (by omega)).mono ?_
    rintro e w4 ⟨x4, rfl, b0, b1, -, hg4, hr4⟩
    obtain ⟨hc4, hf4⟩ := ncell hg4; have hz4 := hg4.size; (try simp only [World.size_alloc, World.size_setCell, World.size_drew, size_drewN] at hz4 hc4 hf4); (have g4a : w.heap.size < w4.heap.size := by omega)
    have hB4 : But w.heap.size rb w w4 := by (repeat' first | (with_reducible exact But.refl _ _ _) | (with_reducible assumption) | (with_reducible refine But.drew ?_) | (with_reducible refine But.alloc ?_ ?_ _) | (with_reducible refine But.setCell ?_ ?_ _) | (with_reducible refine But.grown ?_ (by assumption) ?_) | (with_reducible refine But.below ?_ (by assumption) ?_) | first | omega | (simp only [World.size_alloc, World.size_setCell, World.size_drew, size_drewN]; omega) | (simp; done) | (simp; omega) | (simp only [World.size_alloc, World.size_setCell, World.size_drew, size_drewN] at *; omega) | (simp at *; omega))
    go_wp2_with fail
    refine (pick_any rb a m c (p' + 1 + 1) _ _ hr4 (by omega) (by omega) (by omega)).mono ?_
    rintro e w5 ⟨x5, rfl, c0, c1, -, hg5, hr5⟩
    obtain ⟨hc5, hf5⟩ := ncell hg5; have hz5 := hg5.size; (try simp only [World.size_alloc, World.size_setCell, World.size_drew, size_drewN] at hz5 hc5 hf5); (have g5a : w.heap.size < w5.heap.size := by omega)
    have hB5 : But w.heap.size rb w w5 := by (repeat' first | (with_reducible exact But.refl _ _ _) | (with_reducible assumption) | (with_reducible refine But.drew ?_) | (with_reducible refine But.alloc ?_ ?_ _) | (with_reducible refine But.setCell ?_ ?_ _) | (with_reducible refine But.grown ?_ (by assumption) ?_) | (with_reducible refine But.below ?_ (by assumption) ?_) | first | omega | (simp only [World.size_alloc, World.size_setCell, World.size_drew, size_drewN]; omega) | (simp; done) | (simp; omega) | (simp only [World.size_alloc, World.size_setCell, World.size_drew, size_drewN] at *; omega) | (simp at *; omega))
    have b1' := b1 (by omega)
    have c1' := c1 (by omega)
    clear a1 b1 c1
    obtain ⟨hv, nz0, nz1, hjb⟩ := lvJs_bd (s := 1 + x4) (l := 1 + x5) (by omega) (by omega) (by omega) (by omega)
    have nz2 := lvJs_two (s := 1 + x4) (l := 1 + x5) (by omega) (by omega) (by omega) (by omega)
    go_wp2_with fail
    refine (sLevels_some _ _ _ nz0).mono ?_
    rintro e w6 ⟨g, c6, rfl, hcell, -, -, hg, hg', hb6⟩
    obtain ⟨hc6, hf6⟩ := bcell hb6; have hz6 := hb6.size; (try simp only [World.size_alloc, World.size_setCell, World.size_drew, size_drewN] at hz6 hc6 hf6); (have g6a : w.heap.size < w6.heap.size := by omega)
    have hr6 : Rd w6 rb a m c (p' + 1 + 1 + 1) := (hr5.alloc _).below hb6
    have hB6 : But w.heap.size rb w w6 := by (repeat' first | (with_reducible exact But.refl _ _ _) | (with_reducible assumption) | (with_reducible refine But.drew ?_) | (with_reducible refine But.alloc ?_ ?_ _) | (with_reducible refine But.setCell ?_ ?_ _) | (with_reducible refine But.grown ?_ (by assumption) ?_) | (with_reducible refine But.below ?_ (by assumption) ?_) | first | omega | (simp only [World.size_alloc, World.size_setCell, World.size_drew, size_drewN]; omega) | (simp; done) | (simp; omega) | (simp only [World.size_alloc, World.size_setCell, World.size_drew, size_drewN] at *; omega) | (simp at *; omega))
    (have kk0 : w6.cell? ⟨w.heap.size, 0, none⟩ = some (.int .i64 0) := by (simp (disch := first | omega | (simp; done) | (simp; omega)) [go_sem, *]; done)); (have kk1 : w6.cell? ⟨w.heap.size, 1, none⟩ = some (.int .i64 0) := by (simp (disch := first | omega | (simp; done) | (simp; omega)) [go_sem, *]; done)); (have kk2 : w6.cell? ⟨w.heap.size, 2, none⟩ = some (.int .i64 0) := by (simp (disch := first | omega | (simp; done) | (simp; omega)) [go_sem, *]; done))
    (have nn0 : w6.frozen? ⟨w.heap.size, 0, none⟩ = false := by (simp (disch := first | omega | (simp; done) | (simp; omega)) [go_sem, *]; done)); (have nn1 : w6.frozen? ⟨w.heap.size, 1, none⟩ = false := by (simp (disch := first | omega | (simp; done) | (simp; omega)) [go_sem, *]; done)); (have nn2 : w6.frozen? ⟨w.heap.size, 2, none⟩ = false := by (simp (disch := first | omega | (simp; done) | (simp; omega)) [go_sem, *]; done))
    clear hc4 hf4 hc5 hf5 hc6 hf6 k0 k1 k2 n0 n1 n2 hg4 hg5 hb6 hB3 hB4 hB5
    have q0 : 1 ≤ ((lvJs (1 + x4) (1 + x5)).length : Int) - 1 := by omega
    go_wp2_with fail
    refine (pick_any rb a m c (p' + 1 + 1 + 1) _ _ hr6 (by omega) (by omega) (by omega)).mono ?_
    rintro e w7 ⟨x7, rfl, d0, d1, -, hg7, hr7⟩
    obtain ⟨hc7, hf7⟩ := ncell hg7; have hz7 := hg7.size; (try simp only [World.size_alloc, World.size_setCell, World.size_drew, size_drewN] at hz7 hc7 hf7); (have g7a : w.heap.size < w7.heap.size := by omega)
    have d1' := d1 q0
    clear d1
    have d2 : 1 + x7 < ((lvJs (1 + x4) (1 + x5)).length : Int) := by omega
    have d3 : 0 ≤ 1 + x7 := by omega
    obtain ⟨j0, hj0'⟩ : ∃ j0, (lvJs (1 + x4) (1 + x5))[(1 + x7).toNat]? = some j0 := ⟨_, List.getElem?_eq_getElem (by omega)⟩
    obtain ⟨e0, e1, e2⟩ := hcell _ _ hj0'
    have hjb2 := hjb _ _ hj0'
    have hrg : g ≠ rb := by have := hr5.lt; simp only [World.size_alloc] at hg; omega
    have y0 : w7.cell? ⟨g, (1 + x7).toNat * 3, none⟩ = some (.int .i64 (1 + x4)) := (hc7 _ _ hg' hrg).trans e0
    have y1 : w7.cell? ⟨g, (1 + x7).toNat * 3 + 1, none⟩ = some (.int .i64 (1 + x5)) := (hc7 _ _ hg' hrg).trans e1
    have y2 : w7.cell? ⟨g, (1 + x7).toNat * 3 + 2, none⟩ = some (.int .i64 j0) := (hc7 _ _ hg' hrg).trans e2
    (have r0 : w7.cell? ⟨w.heap.size, 0, none⟩ = some (.int .i64 0) := by (simp (disch := first | omega | (simp; done) | (simp; omega)) [go_sem, *]; done)); (have r1 : w7.cell? ⟨w.heap.size, 1, none⟩ = some (.int .i64 0) := by (simp (disch := first | omega | (simp; done) | (simp; omega)) [go_sem, *]; done)); (have r2 : w7.cell? ⟨w.heap.size, 2, none⟩ = some (.int .i64 0) := by (simp (disch := first | omega | (simp; done) | (simp; omega)) [go_sem, *]; done))
    (have u0 : w7.frozen? ⟨w.heap.size, 0, none⟩ = false := by (simp (disch := first | omega | (simp; done) | (simp; omega)) [go_sem, *]; done)); (have u1 : w7.frozen? ⟨w.heap.size, 1, none⟩ = false := by (simp (disch := first | omega | (simp; done) | (simp; omega)) [go_sem, *]; done)); (have u2 : w7.frozen? ⟨w.heap.size, 2, none⟩ = false := by (simp (disch := first | omega | (simp; done) | (simp; omega)) [go_sem, *]; done))
    have hB7 : Below w.heap.size w w7 := ((show But w.heap.size rb w w7 by (repeat' first | (with_reducible exact But.refl _ _ _) | (with_reducible assumption) | (with_reducible refine But.drew ?_) | (with_reducible refine But.alloc ?_ ?_ _) | (with_reducible refine But.setCell ?_ ?_ _) | (with_reducible refine But.grown ?_ (by assumption) ?_) | (with_reducible refine But.below ?_ (by assumption) ?_) | first | omega | (simp only [World.size_alloc, World.size_setCell, World.size_drew, size_drewN]; omega) | (simp; done) | (simp; omega) | (simp only [World.size_alloc, World.size_setCell, World.size_drew, size_drewN] at *; omega) | (simp at *; omega)))).out (by omega)
    clear hcell hjb hj0' e0 e1 e2 hc7 hf7 kk0 kk1 kk2 nn0 nn1 nn2 hg7 hB6
    go_wp2
    refine bodyPost_ret (v := .agg #[.int .i64 (1 + x4), .int .i64 (1 + x5), .int .i64 j0]) (by simp (disch := first | omega | (simp; done) | (simp; omega)) [results, Try.results25, go_sem, cell_set, *]) rfl ?_
    exact ⟨_, _, _, rfl, by omega, by omega, by omega, by omega, by omega, by omega, by (repeat' first | (with_reducible exact Below.refl _ _) | (with_reducible assumption) | (with_reducible refine below_drewN ?_ _) | (with_reducible refine Below.drew ?_) | (with_reducible refine Below.alloc ?_ ?_ _) | (with_reducible refine Below.setCell ?_ ?_ _) | (with_reducible refine Below.trans ?_ (Below.mono (by assumption) ?_)) | first | omega | (simp only [World.size_alloc, World.size_setCell, World.size_drew, size_drewN]; omega) | (simp; done) | (simp; omega) | (simp only [World.size_alloc, World.size_setCell, World.size_drew, size_drewN] at *; omega) | (simp at *; omega))⟩
  · have hB := hB3.out (show w.heap.size ≤ rb by omega)
    refine bodyPost_ret (v := .agg #[.int .i64 s, .int .i64 l, .int .i64 j]) (by simp (disch := first | omega | (simp; done) | (simp; omega)) [results, Try.results25, go_sem, cell_set, *]) rfl ?_
    exact ⟨s, l, j, rfl, by omega, by omega, by omega, by omega, by omega, by omega, by (repeat' first | (with_reducible exact Below.refl _ _) | (with_reducible assumption) | (with_reducible refine below_drewN ?_ _) | (with_reducible refine Below.drew ?_) | (with_reducible refine Below.alloc ?_ ?_ _) | (with_reducible refine Below.setCell ?_ ?_ _) | (with_reducible refine Below.trans ?_ (Below.mono (by assumption) ?_)) | first | omega | (simp only [World.size_alloc, World.size_setCell, World.size_drew, size_drewN]; omega) | (simp; done) | (simp; omega) | (simp only [World.size_alloc, World.size_setCell, World.size_drew, size_drewN] at *; omega) | (simp at *; omega))⟩
set_option maxHeartbeats 1000000 in
theorem dLevelValid_any (a : Option Addr) (len cap : Nat) (w : World) (hb : BytesAt w a len cap) :
    Calls Try.prog 18 #[.slice a len cap] w fun e w' => ∃ s l j : Int, e = .returned (.agg #[.int .i64 s, .int .i64 l, .int .i64 j]) ∧ -100 ≤ s ∧ s ≤ 100 ∧ -100 ≤ l ∧ l ≤ 100 ∧ -100 ≤ j ∧ j ≤ 100 ∧ Below w.heap.size w w' := by
  go_enter Try.func18, Try.ntmps18
  go_wp2_with fail
  refine (l6Open_any a len cap _ (bytesAt_alloc hb _)).mono ?_
  rintro e w1 ⟨rb, m, c, rfl, hr, hrb, hb1⟩
  obtain ⟨hc1, hf1⟩ := bcell hb1; have hz1 := hb1.size; (try simp only [World.size_alloc, World.size_setCell, World.size_drew, size_drewN] at hz1 hc1 hf1); (have g1a : w.heap.size < w1.heap.size := by omega)
  simp only [World.size_alloc] at hrb
  go_wp2_with fail
  refine (l92Level_any rb a m c 0 _ hr (by omega) (by omega)).mono ?_
  rintro e w2 ⟨s, l, j, p', rfl, hs0, hs1, hl0, hl1, hj0, hj1, hp0, hp1, hg2, hr2⟩
  obtain ⟨hc2, hf2⟩ := ncell hg2; have hz2 := hg2.size; (try simp only [World.size_alloc, World.size_setCell, World.size_drew, size_drewN] at hz2 hc2 hf2); (have g2a : w.heap.size < w2.heap.size := by omega)
  have hrl := hr2.lt
  have hB2 : But w.heap.size rb w w2 := by (repeat' first | (with_reducible exact But.refl _ _ _) | (with_reducible assumption) | (with_reducible refine But.drew ?_) | (with_reducible refine But.alloc ?_ ?_ _) | (with_reducible refine But.setCell ?_ ?_ _) | (with_reducible refine But.grown ?_ (by assumption) ?_) | (with_reducible refine But.below ?_ (by assumption) ?_) | first | omega | (simp only [World.size_alloc, World.size_setCell, World.size_drew, size_drewN]; omega) | (simp; done) | (simp; omega) | (simp only [World.size_alloc, World.size_setCell, World.size_drew, size_drewN] at *; omega) | (simp at *; omega))
  go_wp2_with fail
  refine (pick_any rb a m c p' _ _ (hr2.alloc _) (by omega) (by omega) (by omega)).mono ?_
  rintro e w3 ⟨x3, rfl, a0, a1, -, hg3, hr3⟩
  obtain ⟨hc3, hf3⟩ := ncell hg3; have hz3 := hg3.size; (try simp only [World.size_alloc, World.size_setCell, World.size_drew, size_drewN] at hz3 hc3 hf3); (have g3a : w.heap.size < w3.heap.size := by omega)
  (have k0 : w3.cell? ⟨w.heap.size, 0, none⟩ = some (.int .i64 0) := by (simp (disch := first | omega | (simp; done) | (simp; omega)) [go_sem, *]; done)); (have k1 : w3.cell? ⟨w.heap.size, 1, none⟩ = some (.int .i64 0) := by (simp (disch := first | omega | (simp; done) | (simp; omega)) [go_sem, *]; done)); (have k2 : w3.cell? ⟨w.heap.size, 2, none⟩ = some (.int .i64 0) := by (simp (disch := first | omega | (simp; done) | (simp; omega)) [go_sem, *]; done))
  (have x0 : w3.cell? ⟨w2.heap.size, 0, none⟩ = some (.int .i64 s) := by (simp (disch := first | omega | (simp; done) | (simp; omega)) [go_sem, *]; done)); (have x1 : w3.cell? ⟨w2.heap.size, 1, none⟩ = some (.int .i64 l) := by (simp (disch := first | omega | (simp; done) | (simp; omega)) [go_sem, *]; done)); (have x2 : w3.cell? ⟨w2.heap.size, 2, none⟩ = some (.int .i64 j) := by (simp (disch := first | omega | (simp; done) | (simp; omega)) [go_sem, *]; done))
  (have n0 : w3.frozen? ⟨w.heap.size, 0, none⟩ = false := by (simp (disch := first | omega | (simp; done) | (simp; omega)) [go_sem, *]; done)); (have n1 : w3.frozen? ⟨w.heap.size, 1, none⟩ = false := by (simp (disch := first | omega | (simp; done) | (simp; omega)) [go_sem, *]; done)); (have n2 : w3.frozen? ⟨w.heap.size, 2, none⟩ = false := by (simp (disch := first | omega | (simp; done) | (simp; omega)) [go_sem, *]; done))
  (have o0 : w3.frozen? ⟨w2.heap.size, 0, none⟩ = false := by (simp (disch := first | omega | (simp; done) | (simp; omega)) [go_sem, *]; done)); (have o1 : w3.frozen? ⟨w2.heap.size, 1, none⟩ = false := by (simp (disch := first | omega | (simp; done) | (simp; omega)) [go_sem, *]; done)); (have o2 : w3.frozen? ⟨w2.heap.size, 2, none⟩ = false := by (simp (disch := first | omega | (simp; done) | (simp; omega)) [go_sem, *]; done))
  have hB3 : But w.heap.size rb w w3 := by (repeat' first | (with_reducible exact But.refl _ _ _) | (with_reducible assumption) | (with_reducible refine But.drew ?_) | (with_reducible refine But.alloc ?_ ?_ _) | (with_reducible refine But.setCell ?_ ?_ _) | (with_reducible refine But.grown ?_ (by assumption) ?_) | (with_reducible refine But.below ?_ (by assumption) ?_) | first | omega | (simp only [World.size_alloc, World.size_setCell, World.size_drew, size_drewN]; omega) | (simp; done) | (simp; omega) | (simp only [World.size_alloc, World.size_setCell, World.size_drew, size_drewN] at *; omega) | (simp at *; omega))
  have g3b : w2.heap.size < w3.heap.size := by omega
  clear hc1 hf1 hc2 hf2 hc3 hf3 hb1 hg2 hg3 hB2
  go_wp2_with fail
  · refine (pick_any rb a m c (p' + 1) _ _ hr3 (by omega) (by omega) (by omega)).mono ?_
    rintro e w4 ⟨x4, rfl, b0, b1, -, hg4, hr4⟩
    obtain ⟨hc4, hf4⟩ := ncell hg4; have hz4 := hg4.size; (try simp only [World.size_alloc, World.size_setCell, World.size_drew, size_drewN] at hz4 hc4 hf4); (have g4a : w.heap.size < w4.heap.size := by omega)
    have b1' := b1 (by omega)
    clear b1 a1
    (have kk0 : w4.cell? ⟨w.heap.size, 0, none⟩ = some (.int .i64 0) := by (simp (disch := first | omega | (simp; done) | (simp; omega)) [go_sem, *]; done)); (have kk1 : w4.cell? ⟨w.heap.size, 1, none⟩ = some (.int .i64 0) := by (simp (disch := first | omega | (simp; done) | (simp; omega)) [go_sem, *]; done)); (have kk2 : w4.cell? ⟨w.heap.size, 2, none⟩ = some (.int .i64 0) := by (simp (disch := first | omega | (simp; done) | (simp; omega)) [go_sem, *]; done))
    (have y0 : w4.cell? ⟨w2.heap.size, 0, none⟩ = some (.int .i64 s) := by (simp (disch := first | omega | (simp; done) | (simp; omega)) [go_sem, *]; done)); (have y1 : w4.cell? ⟨w2.heap.size, 1, none⟩ = some (.int .i64 l) := by (simp (disch := first | omega | (simp; done) | (simp; omega)) [go_sem, *]; done)); (have y2 : w4.cell? ⟨w2.heap.size, 2, none⟩ = some (.int .i64 j) := by (simp (disch := first | omega | (simp; done) | (simp; omega)) [go_sem, *]; done))
    (have nn0 : w4.frozen? ⟨w.heap.size, 0, none⟩ = false := by (simp (disch := first | omega | (simp; done) | (simp; omega)) [go_sem, *]; done)); (have nn1 : w4.frozen? ⟨w.heap.size, 1, none⟩ = false := by (simp (disch := first | omega | (simp; done) | (simp; omega)) [go_sem, *]; done)); (have nn2 : w4.frozen? ⟨w.heap.size, 2, none⟩ = false := by (simp (disch := first | omega | (simp; done) | (simp; omega)) [go_sem, *]; done))
    (have oo0 : w4.frozen? ⟨w2.heap.size, 0, none⟩ = false := by (simp (disch := first | omega | (simp; done) | (simp; omega)) [go_sem, *]; done)); (have oo1 : w4.frozen? ⟨w2.heap.size, 1, none⟩ = false := by (simp (disch := first | omega | (simp; done) | (simp; omega)) [go_sem, *]; done)); (have oo2 : w4.frozen? ⟨w2.heap.size, 2, none⟩ = false := by (simp (disch := first | omega | (simp; done) | (simp; omega)) [go_sem, *]; done))
    have hB4 : Below w.heap.size w w4 := ((show But w.heap.size rb w w4 by (repeat' first | (with_reducible exact But.refl _ _ _) | (with_reducible assumption) | (with_reducible refine But.drew ?_) | (with_reducible refine But.alloc ?_ ?_ _) | (with_reducible refine But.setCell ?_ ?_ _) | (with_reducible refine But.grown ?_ (by assumption) ?_) | (with_reducible refine But.below ?_ (by assumption) ?_) | first | omega | (simp only [World.size_alloc, World.size_setCell, World.size_drew, size_drewN]; omega) | (simp; done) | (simp; omega) | (simp only [World.size_alloc, World.size_setCell, World.size_drew, size_drewN] at *; omega) | (simp at *; omega)))).out (by omega)
    clear hc4 hf4 k0 k1 k2 x0 x1 x2 n0 n1 n2 o0 o1 o2 hg4 hB3
    go_wp2
    refine bodyPost_ret (v := .agg #[.int .i64 s, .int .i64 l, .int .i64 x4]) (by simp (disch := first | omega | (simp; done) | (simp; omega)) [results, Try.results18, go_sem, cell_set, *]) rfl ?_
    exact ⟨_, _, _, rfl, by omega, by omega, by omega, by omega, by omega, by omega, by (repeat' first | (with_reducible exact Below.refl _ _) | (with_reducible assumption) | (with_reducible refine below_drewN ?_ _) | (with_reducible refine Below.drew ?_) | (with_reducible refine Below.alloc ?_ ?_ _) | (with_reducible refine Below.setCell ?_ ?_ _) | (with_reducible refine Below.trans ?_ (Below.mono (by assumption) ?_)) | first | omega | (simp only [World.size_alloc, World.size_setCell, World.size_drew, size_drewN]; omega) | (simp; done) | (simp; omega) | (simp only [World.size_alloc, World.size_setCell, World.size_drew, size_drewN] at *; omega) | (simp at *; omega))⟩
  · have hB := hB3.out (show w.heap.size ≤ rb by omega)
    refine bodyPost_ret (v := .agg #[.int .i64 s, .int .i64 l, .int .i64 j]) (by simp (disch := first | omega | (simp; done) | (simp; omega)) [results, Try.results18, go_sem, cell_set, *]) rfl ?_
    exact ⟨s, l, j, rfl, by omega, by omega, by omega, by omega, by omega, by omega, by (repeat' first | (with_reducible exact Below.refl _ _) | (with_reducible assumption) | (with_reducible refine below_drewN ?_ _) | (with_reducible refine Below.drew ?_) | (with_reducible refine Below.alloc ?_ ?_ _) | (with_reducible refine Below.setCell ?_ ?_ _) | (with_reducible refine Below.trans ?_ (Below.mono (by assumption) ?_)) | first | omega | (simp only [World.size_alloc, World.size_setCell, World.size_drew, size_drewN]; omega) | (simp; done) | (simp; omega) | (simp only [World.size_alloc, World.size_setCell, World.size_drew, size_drewN] at *; omega) | (simp at *; omega))⟩
set_option maxHeartbeats 1000000 in
theorem walk_FnLevelRule (a : Option Addr) (len cap : Nat) (w : World) (hb : BytesAt w a len cap) :
    Calls Try.prog 10 #[.slice a len cap] w fun e w' => e = .returned (.bool true) ∧ Below w.heap.size w w' := by
  by_cases hlen : 1048576 < len
  · clear hb
    go_enter Try.func10, Try.ntmps10
    go_wp2
    go_ret
    exact ⟨rfl, Below.refl _ _⟩
  · have hlen' : len ≤ 1048576 := by omega
    clear hlen
    have HB := Lib.hid hb
    clear hb
    go_enter Try.func10, Try.ntmps10
    go_wp2_with fail
    refine (dLevelInterval_any a len cap _ HB.out).mono ?_
    rintro e w1 ⟨s, l, j, rfl, hs0, hs1, hl0, hl1, hj0, hj1, hb1⟩
    have hz1 := hb1.size
    have bI := intervalI_bd s l j
    by_cases hs : intervalI s l j = 0
    · have hs' : (intervalI s l j == 0) = true := by rw [hs]; rfl
      clear hs
      go_wp2_with (first
        | (go_at_call 26; refine (iInterval_any _ _ _ _).mono ?_; rintro e w2 ⟨rfl, hb2⟩; obtain ⟨hc2, hf2⟩ := bcell hb2; have hz2 := hb2.size; (try simp only [World.size_alloc, World.size_setCell, World.size_drew, size_drewN] at hz2 hc2 hf2); (have g2a : w1.heap.size < w2.heap.size := by omega))
        | (go_at_call 27; refine (sInterval_any _ _ _ _).mono ?_; rintro e w2 ⟨rfl, hb2⟩; obtain ⟨hc2, hf2⟩ := bcell hb2; have hz2 := hb2.size; (try simp only [World.size_alloc, World.size_setCell, World.size_drew, size_drewN] at hz2 hc2 hf2); (have g2a : w1.heap.size < w2.heap.size := by omega)))
      go_ret
      exact ⟨rfl, by (repeat' first | (with_reducible exact Below.refl _ _) | (with_reducible assumption) | (with_reducible refine below_drewN ?_ _) | (with_reducible refine Below.drew ?_) | (with_reducible refine Below.alloc ?_ ?_ _) | (with_reducible refine Below.setCell ?_ ?_ _) | (with_reducible refine Below.trans ?_ (Below.mono (by assumption) ?_)) | first | omega | (simp only [World.size_alloc, World.size_setCell, World.size_drew, size_drewN]; omega) | (simp; done) | (simp; omega) | (simp only [World.size_alloc, World.size_setCell, World.size_drew, size_drewN] at *; omega) | (simp at *; omega))⟩
    · have hs' : (intervalI s l j == 0) = false := by rw [beq_eq_false_iff_ne]; exact hs
      have hr := Lib.hid (interval_rule hs)
      clear hs
      go_wp2_with (first
        | (go_at_call 26; refine (iInterval_any _ _ _ _).mono ?_; rintro e w2 ⟨rfl, hb2⟩; obtain ⟨hc2, hf2⟩ := bcell hb2; have hz2 := hb2.size; (try simp only [World.size_alloc, World.size_setCell, World.size_drew, size_drewN] at hz2 hc2 hf2); (have g2a : w1.heap.size < w2.heap.size := by omega))
        | (go_at_call 27; refine (sInterval_any _ _ _ _).mono ?_; rintro e w2 ⟨rfl, hb2⟩; obtain ⟨hc2, hf2⟩ := bcell hb2; have hz2 := hb2.size; (try simp only [World.size_alloc, World.size_setCell, World.size_drew, size_drewN] at hz2 hc2 hf2); (have g2a : w1.heap.size < w2.heap.size := by omega)))
      go_ret
      exact ⟨ret_bool (by rw [hr.out]; simp), by (repeat' first | (with_reducible exact Below.refl _ _) | (with_reducible assumption) | (with_reducible refine below_drewN ?_ _) | (with_reducible refine Below.drew ?_) | (with_reducible refine Below.alloc ?_ ?_ _) | (with_reducible refine Below.setCell ?_ ?_ _) | (with_reducible refine Below.trans ?_ (Below.mono (by assumption) ?_)) | first | omega | (simp only [World.size_alloc, World.size_setCell, World.size_drew, size_drewN]; omega) | (simp; done) | (simp; omega) | (simp only [World.size_alloc, World.size_setCell, World.size_drew, size_drewN] at *; omega) | (simp at *; omega))⟩
set_option maxHeartbeats 1000000 in
theorem walk_FnLevel (a : Option Addr) (len cap : Nat) (w : World) (hb : BytesAt w a len cap) :
    Calls Try.prog 6 #[.slice a len cap] w fun e w' => e = .returned (.bool true) ∧ Below w.heap.size w w' := by
  by_cases hlen : 1048576 < len
  · clear hb
    go_enter Try.func6, Try.ntmps6
    go_wp2
    go_ret
    exact ⟨rfl, Below.refl _ _⟩
  · have hlen' : len ≤ 1048576 := by omega
    clear hlen
    have HB := Lib.hid hb
    clear hb
    go_enter Try.func6, Try.ntmps6
    go_wp2_with fail
    refine (dLevelValid_any a len cap _ HB.out).mono ?_
    rintro e w1 ⟨s, l, j, rfl, hs0, hs1, hl0, hl1, hj0, hj1, hb1⟩
    have hz1 := hb1.size
    cases hv : lvB s l j
    · go_wp2_with (first
        | (go_at_call 16; refine (iLevelValid_any _ _ _ _).mono ?_; rintro e w2 ⟨rfl, hb2⟩; obtain ⟨hc2, hf2⟩ := bcell hb2; have hz2 := hb2.size; (try simp only [World.size_alloc, World.size_setCell, World.size_drew, size_drewN] at hz2 hc2 hf2); (have g2a : w1.heap.size < w2.heap.size := by omega))
        | (go_at_call 19; refine (sLevelValid_any _ _ _ _).mono ?_; rintro e w2 ⟨rfl, hb2⟩; obtain ⟨hc2, hf2⟩ := bcell hb2; have hz2 := hb2.size; (try simp only [World.size_alloc, World.size_setCell, World.size_drew, size_drewN] at hz2 hc2 hf2); (have g2a : w1.heap.size < w2.heap.size := by omega)))
      go_ret
      exact ⟨rfl, by (repeat' first | (with_reducible exact Below.refl _ _) | (with_reducible assumption) | (with_reducible refine below_drewN ?_ _) | (with_reducible refine Below.drew ?_) | (with_reducible refine Below.alloc ?_ ?_ _) | (with_reducible refine Below.setCell ?_ ?_ _) | (with_reducible refine Below.trans ?_ (Below.mono (by assumption) ?_)) | first | omega | (simp only [World.size_alloc, World.size_setCell, World.size_drew, size_drewN]; omega) | (simp; done) | (simp; omega) | (simp only [World.size_alloc, World.size_setCell, World.size_drew, size_drewN] at *; omega) | (simp at *; omega))⟩
    · obtain ⟨ht, k0, hk0, hjk⟩ := lv_at hv
      obtain ⟨o1, o2⟩ := lvB_odd hv
      have hn0 : 0 < (lvJs s l).length := by omega
      have hsh := lvJs_short s l
      have HJ := Lib.hid hjk
      have hjk1 : j ≤ absd (2 * l) s + 2 * (k0 : Int) := by omega
      have hjk2 : absd (2 * l) s + 2 * (k0 : Int) ≤ j := by omega
      obtain ⟨-, -, bj0, bj1, -, -⟩ := lvJs_get (lv_of hk0)
      clear hjk ht
      go_wp2_with fail
      refine (iLevelValid_any _ _ _ _).mono ?_
      rintro e w2 ⟨rfl, hb2⟩
      obtain ⟨hc2, hf2⟩ := bcell hb2; have hz2 := hb2.size; (try simp only [World.size_alloc, World.size_setCell, World.size_drew, size_drewN] at hz2 hc2 hf2); (have g2a : w1.heap.size < w2.heap.size := by omega)
      go_wp2_with fail
      refine (sLevelValid_any _ _ _ _).mono ?_
      rintro e w3 ⟨rfl, hb3⟩
      obtain ⟨hc3, hf3⟩ := bcell hb3; have hz3 := hb3.size; (try simp only [World.size_alloc, World.size_setCell, World.size_drew, size_drewN] at hz3 hc3 hf3); (have g3a : w1.heap.size < w3.heap.size := by omega)
      go_wp2_with fail
      refine (iLevels_some _ _ _ hn0).mono ?_
      rintro e w4 ⟨g, c, rfl, L, -, -, hg, hg', hb4⟩
      obtain ⟨hc4, hf4⟩ := bcell hb4; have hz4 := hb4.size; (try simp only [World.size_alloc, World.size_setCell, World.size_drew, size_drewN] at hz4 hc4 hf4); (have g4a : w1.heap.size < w4.heap.size := by omega)
      (have t0 : w4.cell? ⟨w1.heap.size, 0, none⟩ = some (.int .i64 s) := by (simp (disch := first | omega | (simp; done) | (simp; omega)) [go_sem, *]; done)); (have t1 : w4.cell? ⟨w1.heap.size, 1, none⟩ = some (.int .i64 l) := by (simp (disch := first | omega | (simp; done) | (simp; omega)) [go_sem, *]; done)); (have t2 : w4.cell? ⟨w1.heap.size, 2, none⟩ = some (.int .i64 j) := by (simp (disch := first | omega | (simp; done) | (simp; omega)) [go_sem, *]; done))
      have LL := Lib.hid (show LvAt w4 g s l (lvJs s l) from L)
      have hB : Below w.heap.size w w4 := by (repeat' first | (with_reducible exact Below.refl _ _) | (with_reducible assumption) | (with_reducible refine below_drewN ?_ _) | (with_reducible refine Below.drew ?_) | (with_reducible refine Below.alloc ?_ ?_ _) | (with_reducible refine Below.setCell ?_ ?_ _) | (with_reducible refine Below.trans ?_ (Below.mono (by assumption) ?_)) | first | omega | (simp only [World.size_alloc, World.size_setCell, World.size_drew, size_drewN]; omega) | (simp; done) | (simp; omega) | (simp only [World.size_alloc, World.size_setCell, World.size_drew, size_drewN] at *; omega) | (simp at *; omega))
      clear L hc2 hf2 hc3 hf3 hc4 hf4 hb1 hb2 hb3 hb4 hv
      go_wp2_with fail
      go_loopw [7, 8] (fun fd i wr => ∃ k : Nat, k ≤ (lvJs s l).length ∧ i = .int .i64 k ∧ fd = .bool (decide (k0 < k)) ∧ ∃ m, wr = w4.drewN m) (fun _ i _ => (lvJs s l).length - (intOf i).toNat)
      case atStart => exact ⟨0, Nat.zero_le _, rfl, by simp, 0, rfl⟩
      case round =>
        obtain ⟨k, hk, rfl, rfl, m, rfl⟩ := hrel
        have i0 : (0 : Int) ≤ (k : Int) := Int.natCast_nonneg _
        by_cases hlt : k < (lvJs s l).length
        · have e := LL.out k _ (lv_of hlt)
          have r0 := e.1
          have r1 := e.2.1
          have r2 := e.2.2
          have i1 : (k : Int) < ((lvJs s l).length : Int) := by omega
          clear e
          by_cases hf : k0 < k
          · have hd : decide (k0 < k) = true := by simp [hf]
            have hd' := Lib.hid (show decide (k0 < k + 1) = true by simp; omega)
            rw [hd]
            go_wp2
            go_quiet (fail)
            go_wp2
            exact ⟨⟨k + 1, by omega, by go_num, by rw [hd'.out], _, rfl⟩, by simp [intOf]; omega⟩
          · have hd : decide (k0 < k) = false := by simp; omega
            rw [hd]
            by_cases hk1 : k = k0
            · have hq : (absd (2 * l) s + 2 * (k : Int) == j) = true := by rw [beq_iff_eq]; omega
              have hd' := Lib.hid (show decide (k0 < k + 1) = true by simp; omega)
              clear hk1
              go_wp2
              go_quiet (fail)
              go_wp2
              exact ⟨⟨k + 1, by omega, by go_num, by rw [hd'.out], _, rfl⟩, by simp [intOf]; omega⟩
            · have hq : (absd (2 * l) s + 2 * (k : Int) == j) = false := by rw [beq_eq_false_iff_ne]; omega
              have hd' := Lib.hid (show decide (k0 < k + 1) = false by simp; omega)
              clear hk1
              go_wp2
              go_quiet (fail)
              go_wp2
              exact ⟨⟨k + 1, by omega, by go_num, by rw [hd'.out], _, rfl⟩, by simp [intOf]; omega⟩
        · obtain rfl : k = (lvJs s l).length := by omega
          have hd : decide (k0 < (lvJs s l).length) = true := by simp; omega
          rw [hd]
          go_wp2_with (go_at_call 16; refine (iLevelValid_any _ _ _ _).mono ?_; rintro e w5 ⟨rfl, hb5⟩; obtain ⟨hc5, hf5⟩ := bcell hb5; have hz5 := hb5.size; (try simp only [World.size_alloc, World.size_setCell, World.size_drew, size_drewN] at hz5 hc5 hf5); (have g5a : w1.heap.size < w5.heap.size := by omega))
          go_ret
          exact ⟨rfl, by (repeat' first | (with_reducible exact Below.refl _ _) | (with_reducible assumption) | (with_reducible refine below_drewN ?_ _) | (with_reducible refine Below.drew ?_) | (with_reducible refine Below.alloc ?_ ?_ _) | (with_reducible refine Below.setCell ?_ ?_ _) | (with_reducible refine Below.trans ?_ (Below.mono (by assumption) ?_)) | first | omega | (simp only [World.size_alloc, World.size_setCell, World.size_drew, size_drewN]; omega) | (simp; done) | (simp; omega) | (simp only [World.size_alloc, World.size_setCell, World.size_drew, size_drewN] at *; omega) | (simp at *; omega))⟩
end Go.Proofs.Ytjienggophfhfaa
