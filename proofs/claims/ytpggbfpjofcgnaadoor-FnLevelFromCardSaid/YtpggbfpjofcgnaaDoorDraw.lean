/-
  The walks of the functions that draw terms and levels. Conditions: none.
-/
import Derived.Test.YtpggbfpjofcgnaaDoorRead
import Derived.Test.YtpggbfpjofcgnaaDoorLevels
namespace Go.Proofs.YtpggbfpjofcgnaaDoor
set_option linter.unusedSimpArgs false
set_option linter.unusedVariables false
open Go.RowKit

def lit3 (x : Int) : Int := if x = 0 then -1 else if x = 1 then 9 else 8
theorem lit3_bd (x : Int) : -1 ≤ lit3 x ∧ lit3 x ≤ 9 := by unfold lit3; split <;> (try split) <;> omega
set_option maxHeartbeats 1000000 in
theorem l92Term_any (rb : Nat) (a : Option Addr) (len cap : Nat) (p : Int) (w : World) (hr : Rd w rb a len cap p) (p0 : 0 ≤ p) (p1 : p ≤ 900000) :
    Calls Tryd.prog 33 #[.pointer (some ⟨rb, 0, none⟩)] w fun e w' => ∃ s l p' : Int, e = .returned (.agg #[.int .i64 s, .int .i64 l]) ∧ -1 ≤ s ∧ s ≤ 9 ∧ -1 ≤ l ∧ l ≤ 9 ∧ p ≤ p' ∧ p' ≤ p + 10 ∧ w.grownBy w' (some rb) ∧ Rd w' rb a len cap p' := by
  have hlt := hr.lt
  have hlt1 : rb < w.heap.size + 1 := by omega
  have hlt2 : rb < w.heap.size + 1 + 1 := by omega
  go_enter Tryd.func33, Tryd.ntmps33
  go_wp2_with fail
  refine (pick_any rb a len cap p _ _ (hr.alloc _) (by omega) (by omega) (by omega)).mono ?_
  rintro e w1 ⟨x1, rfl, a0, a1, -, hg1, hr1⟩
  obtain ⟨hc1, hf1⟩ := gcell hg1; have hz1 := hg1.size; (try simp only [World.size_alloc, World.size_setCell, World.size_drew, size_drewN] at hz1 hc1 hf1); (have g1a : w.heap.size < w1.heap.size := by omega)
  go_wp2_with fail
  refine (pick_any rb a len cap (p + 1) _ _ hr1 (by omega) (by omega) (by omega)).mono ?_
  rintro e w2 ⟨x2, rfl, b0, b1, -, hg2, hr2⟩
  obtain ⟨hc2, hf2⟩ := gcell hg2; have hz2 := hg2.size; (try simp only [World.size_alloc, World.size_setCell, World.size_drew, size_drewN] at hz2 hc2 hf2); (have g2a : w.heap.size < w2.heap.size := by omega)
  go_wp2_with fail
  refine (pick_any rb a len cap (p + 1 + 1) _ _ (hr2.alloc _) (by omega) (by omega) (by omega)).mono ?_
  rintro e w3 ⟨x3, rfl, c0, c1, -, hg3, hr3⟩
  obtain ⟨hc3, hf3⟩ := gcell hg3; have hz3 := hg3.size; (try simp only [World.size_alloc, World.size_setCell, World.size_drew, size_drewN] at hz3 hc3 hf3); (have g3a : w.heap.size < w3.heap.size := by omega)
  have hlt3 : rb < w2.heap.size := by omega
  have a1' := a1 (by omega)
  have b1' := b1 (by omega)
  clear a1 b1 c1
  have hB : But w.heap.size rb w w3 := by (repeat' first | (with_reducible exact But.refl _ _ _) | (with_reducible assumption) | (with_reducible refine But.drew ?_) | (with_reducible refine But.alloc ?_ ?_ _) | (with_reducible refine But.setCell ?_ ?_ _) | (with_reducible refine But.grown ?_ (by assumption) ?_) | (with_reducible refine But.below ?_ (by assumption) ?_) | first | omega | (simp only [World.size_alloc, World.size_setCell, World.size_drew, size_drewN]; omega) | (simp; done) | (simp; omega) | (simp only [World.size_alloc, World.size_setCell, World.size_drew, size_drewN] at *; omega) | (simp at *; omega))
  go_wp2_with fail
  · refine (pick_any rb a len cap (p + 1 + 1 + 1) _ _ (hr3.alloc _) (by omega) (by omega) (by omega)).mono ?_
    rintro e w4 ⟨x4, rfl, d0, d1, -, hg4, hr4⟩
    obtain ⟨hc4, hf4⟩ := gcell hg4; have hz4 := hg4.size; (try simp only [World.size_alloc, World.size_setCell, World.size_drew, size_drewN] at hz4 hc4 hf4); (have g4a : w.heap.size < w4.heap.size := by omega)
    have d1' := d1 (by omega)
    clear d1
    have g4b : w2.heap.size < w4.heap.size := by omega
    have g4c : w3.heap.size < w4.heap.size := by omega
    have hlit := lit3_bd x4
    have hx : w4.cell? ⟨w3.heap.size, x4.toNat, none⟩ = some (.int .i64 (lit3 x4)) := by rcases (show x4 = 0 ∨ x4 = 1 ∨ x4 = 2 by omega) with rfl | rfl | rfl <;> (simp [lit3]; (simp (disch := first | omega | (simp; done) | (simp; omega)) [go_sem, *]; done))
    (have k0 : w4.cell? ⟨w.heap.size, 0, none⟩ = some (.int .i64 0) := by (simp (disch := first | omega | (simp; done) | (simp; omega)) [go_sem, *]; done)); (have k1 : w4.cell? ⟨w.heap.size, 1, none⟩ = some (.int .i64 0) := by (simp (disch := first | omega | (simp; done) | (simp; omega)) [go_sem, *]; done))
    (have m0 : w4.cell? ⟨w2.heap.size, 0, none⟩ = some (.int .i64 x1) := by (simp (disch := first | omega | (simp; done) | (simp; omega)) [go_sem, *]; done)); (have m1 : w4.cell? ⟨w2.heap.size, 1, none⟩ = some (.int .i64 x2) := by (simp (disch := first | omega | (simp; done) | (simp; omega)) [go_sem, *]; done))
    (have n0 : w4.frozen? ⟨w.heap.size, 0, none⟩ = false := by (simp (disch := first | omega | (simp; done) | (simp; omega)) [go_sem, *]; done)); (have n1 : w4.frozen? ⟨w.heap.size, 1, none⟩ = false := by (simp (disch := first | omega | (simp; done) | (simp; omega)) [go_sem, *]; done))
    (have o0 : w4.frozen? ⟨w2.heap.size, 0, none⟩ = false := by (simp (disch := first | omega | (simp; done) | (simp; omega)) [go_sem, *]; done)); (have o1 : w4.frozen? ⟨w2.heap.size, 1, none⟩ = false := by (simp (disch := first | omega | (simp; done) | (simp; omega)) [go_sem, *]; done))
    have hB4 : But w.heap.size rb w w4 := by (repeat' first | (with_reducible exact But.refl _ _ _) | (with_reducible assumption) | (with_reducible refine But.drew ?_) | (with_reducible refine But.alloc ?_ ?_ _) | (with_reducible refine But.setCell ?_ ?_ _) | (with_reducible refine But.grown ?_ (by assumption) ?_) | (with_reducible refine But.below ?_ (by assumption) ?_) | first | omega | (simp only [World.size_alloc, World.size_setCell, World.size_drew, size_drewN]; omega) | (simp; done) | (simp; omega) | (simp only [World.size_alloc, World.size_setCell, World.size_drew, size_drewN] at *; omega) | (simp at *; omega))
    clear hc1 hf1 hc2 hf2 hc3 hf3 hc4 hf4 hg1 hg2 hg3 hg4
    go_wp2
    refine bodyPost_ret (v := .agg #[.int .i64 (lit3 x4), .int .i64 (x2)]) (by simp (disch := first | omega | (simp; done) | (simp; omega)) [results, Tryd.results33, go_sem, cell_set, *]) rfl ?_
    exact ⟨_, _, p + 1 + 1 + 1 + 1, rfl, by omega, by omega, by omega, by omega, by omega, by omega, (show But w.heap.size rb w _ by (repeat' first | (with_reducible exact But.refl _ _ _) | (with_reducible assumption) | (with_reducible refine But.drew ?_) | (with_reducible refine But.alloc ?_ ?_ _) | (with_reducible refine But.setCell ?_ ?_ _) | (with_reducible refine But.grown ?_ (by assumption) ?_) | (with_reducible refine But.below ?_ (by assumption) ?_) | first | omega | (simp only [World.size_alloc, World.size_setCell, World.size_drew, size_drewN]; omega) | (simp; done) | (simp; omega) | (simp only [World.size_alloc, World.size_setCell, World.size_drew, size_drewN] at *; omega) | (simp at *; omega))).isGrown, by (repeat' first | assumption | (with_reducible refine Rd.alloc ?_ _) | (with_reducible refine Rd.drew ?_) | (with_reducible refine Rd.below ?_ (by assumption)) | (with_reducible refine Rd.set hr ?_ ?_) | first | omega | (simp only [World.size_alloc, World.size_setCell, World.size_drew, size_drewN]; omega) | (simp; done) | (simp; omega) | (simp only [World.size_alloc, World.size_setCell, World.size_drew, size_drewN] at *; omega) | (simp at *; omega))⟩
  · refine (pick_any rb a len cap (p + 1 + 1 + 1) _ _ (hr3.alloc _) (by omega) (by omega) (by omega)).mono ?_
    rintro e w4 ⟨x4, rfl, d0, d1, -, hg4, hr4⟩
    obtain ⟨hc4, hf4⟩ := gcell hg4; have hz4 := hg4.size; (try simp only [World.size_alloc, World.size_setCell, World.size_drew, size_drewN] at hz4 hc4 hf4); (have g4a : w.heap.size < w4.heap.size := by omega)
    have d1' := d1 (by omega)
    clear d1
    have g4b : w2.heap.size < w4.heap.size := by omega
    have g4c : w3.heap.size < w4.heap.size := by omega
    have hlit := lit3_bd x4
    have hx : w4.cell? ⟨w3.heap.size, x4.toNat, none⟩ = some (.int .i64 (lit3 x4)) := by rcases (show x4 = 0 ∨ x4 = 1 ∨ x4 = 2 by omega) with rfl | rfl | rfl <;> (simp [lit3]; (simp (disch := first | omega | (simp; done) | (simp; omega)) [go_sem, *]; done))
    (have k0 : w4.cell? ⟨w.heap.size, 0, none⟩ = some (.int .i64 0) := by (simp (disch := first | omega | (simp; done) | (simp; omega)) [go_sem, *]; done)); (have k1 : w4.cell? ⟨w.heap.size, 1, none⟩ = some (.int .i64 0) := by (simp (disch := first | omega | (simp; done) | (simp; omega)) [go_sem, *]; done))
    (have m0 : w4.cell? ⟨w2.heap.size, 0, none⟩ = some (.int .i64 x1) := by (simp (disch := first | omega | (simp; done) | (simp; omega)) [go_sem, *]; done)); (have m1 : w4.cell? ⟨w2.heap.size, 1, none⟩ = some (.int .i64 x2) := by (simp (disch := first | omega | (simp; done) | (simp; omega)) [go_sem, *]; done))
    (have n0 : w4.frozen? ⟨w.heap.size, 0, none⟩ = false := by (simp (disch := first | omega | (simp; done) | (simp; omega)) [go_sem, *]; done)); (have n1 : w4.frozen? ⟨w.heap.size, 1, none⟩ = false := by (simp (disch := first | omega | (simp; done) | (simp; omega)) [go_sem, *]; done))
    (have o0 : w4.frozen? ⟨w2.heap.size, 0, none⟩ = false := by (simp (disch := first | omega | (simp; done) | (simp; omega)) [go_sem, *]; done)); (have o1 : w4.frozen? ⟨w2.heap.size, 1, none⟩ = false := by (simp (disch := first | omega | (simp; done) | (simp; omega)) [go_sem, *]; done))
    have hB4 : But w.heap.size rb w w4 := by (repeat' first | (with_reducible exact But.refl _ _ _) | (with_reducible assumption) | (with_reducible refine But.drew ?_) | (with_reducible refine But.alloc ?_ ?_ _) | (with_reducible refine But.setCell ?_ ?_ _) | (with_reducible refine But.grown ?_ (by assumption) ?_) | (with_reducible refine But.below ?_ (by assumption) ?_) | first | omega | (simp only [World.size_alloc, World.size_setCell, World.size_drew, size_drewN]; omega) | (simp; done) | (simp; omega) | (simp only [World.size_alloc, World.size_setCell, World.size_drew, size_drewN] at *; omega) | (simp at *; omega))
    clear hc1 hf1 hc2 hf2 hc3 hf3 hc4 hf4 hg1 hg2 hg3 hg4
    go_wp2
    refine bodyPost_ret (v := .agg #[.int .i64 (x1), .int .i64 (lit3 x4)]) (by simp (disch := first | omega | (simp; done) | (simp; omega)) [results, Tryd.results33, go_sem, cell_set, *]) rfl ?_
    exact ⟨_, _, p + 1 + 1 + 1 + 1, rfl, by omega, by omega, by omega, by omega, by omega, by omega, (show But w.heap.size rb w _ by (repeat' first | (with_reducible exact But.refl _ _ _) | (with_reducible assumption) | (with_reducible refine But.drew ?_) | (with_reducible refine But.alloc ?_ ?_ _) | (with_reducible refine But.setCell ?_ ?_ _) | (with_reducible refine But.grown ?_ (by assumption) ?_) | (with_reducible refine But.below ?_ (by assumption) ?_) | first | omega | (simp only [World.size_alloc, World.size_setCell, World.size_drew, size_drewN]; omega) | (simp; done) | (simp; omega) | (simp only [World.size_alloc, World.size_setCell, World.size_drew, size_drewN] at *; omega) | (simp at *; omega))).isGrown, by (repeat' first | assumption | (with_reducible refine Rd.alloc ?_ _) | (with_reducible refine Rd.drew ?_) | (with_reducible refine Rd.below ?_ (by assumption)) | (with_reducible refine Rd.set hr ?_ ?_) | first | omega | (simp only [World.size_alloc, World.size_setCell, World.size_drew, size_drewN]; omega) | (simp; done) | (simp; omega) | (simp only [World.size_alloc, World.size_setCell, World.size_drew, size_drewN] at *; omega) | (simp at *; omega))⟩
  · (have k0 : w3.cell? ⟨w.heap.size, 0, none⟩ = some (.int .i64 0) := by (simp (disch := first | omega | (simp; done) | (simp; omega)) [go_sem, *]; done)); (have k1 : w3.cell? ⟨w.heap.size, 1, none⟩ = some (.int .i64 0) := by (simp (disch := first | omega | (simp; done) | (simp; omega)) [go_sem, *]; done))
    (have m0 : w3.cell? ⟨w2.heap.size, 0, none⟩ = some (.int .i64 x1) := by (simp (disch := first | omega | (simp; done) | (simp; omega)) [go_sem, *]; done)); (have m1 : w3.cell? ⟨w2.heap.size, 1, none⟩ = some (.int .i64 x2) := by (simp (disch := first | omega | (simp; done) | (simp; omega)) [go_sem, *]; done))
    (have n0 : w3.frozen? ⟨w.heap.size, 0, none⟩ = false := by (simp (disch := first | omega | (simp; done) | (simp; omega)) [go_sem, *]; done)); (have n1 : w3.frozen? ⟨w.heap.size, 1, none⟩ = false := by (simp (disch := first | omega | (simp; done) | (simp; omega)) [go_sem, *]; done))
    clear hc1 hf1 hc2 hf2 hc3 hf3 hg1 hg2 hg3
    go_wp2
    refine bodyPost_ret (v := .agg #[.int .i64 x1, .int .i64 x2]) (by simp (disch := first | omega | (simp; done) | (simp; omega)) [results, Tryd.results33, go_sem, cell_set, *]) rfl ?_
    exact ⟨_, _, p + 1 + 1 + 1, rfl, by omega, by omega, by omega, by omega, by omega, by omega, (show But w.heap.size rb w _ by (repeat' first | (with_reducible exact But.refl _ _ _) | (with_reducible assumption) | (with_reducible refine But.drew ?_) | (with_reducible refine But.alloc ?_ ?_ _) | (with_reducible refine But.setCell ?_ ?_ _) | (with_reducible refine But.grown ?_ (by assumption) ?_) | (with_reducible refine But.below ?_ (by assumption) ?_) | first | omega | (simp only [World.size_alloc, World.size_setCell, World.size_drew, size_drewN]; omega) | (simp; done) | (simp; omega) | (simp only [World.size_alloc, World.size_setCell, World.size_drew, size_drewN] at *; omega) | (simp at *; omega))).isGrown, by (repeat' first | assumption | (with_reducible refine Rd.alloc ?_ _) | (with_reducible refine Rd.drew ?_) | (with_reducible refine Rd.below ?_ (by assumption)) | (with_reducible refine Rd.set hr ?_ ?_) | first | omega | (simp only [World.size_alloc, World.size_setCell, World.size_drew, size_drewN]; omega) | (simp; done) | (simp; omega) | (simp only [World.size_alloc, World.size_setCell, World.size_drew, size_drewN] at *; omega) | (simp at *; omega))⟩
def lit2 (x : Int) : Int := if x = 0 then -2 else 30
theorem lit2_bd (x : Int) : -2 ≤ lit2 x ∧ lit2 x ≤ 30 := by unfold lit2; split <;> omega
theorem lvJs_bd {s l : Int} (s0 : 0 ≤ s) (s1 : s < 5) (l0 : 0 ≤ l) (l1 : l < 5) : tvB s l = true ∧ 0 < (lvJs s l).length ∧ (lvJs s l).length ≤ 25 ∧ ∀ (k : Nat) (j : Int), (lvJs s l)[k]? = some j → 0 ≤ j ∧ j ≤ 24 := by
  have h : tvB s l = true := by simp [tvB]; omega
  obtain ⟨q1, q2, q3, q4⟩ := lvJs_yes h
  obtain ⟨m1, m2, m3, m4⟩ := cMany_bd q1 q2
  rw [q4, steps_length]
  refine ⟨h, by omega, m2, fun k j hj => ?_⟩
  simp [steps] at hj
  obtain ⟨i, hi, rfl⟩ := hj
  obtain ⟨h1, h2⟩ := List.getElem?_eq_some_iff.1 hi
  simp at h1 h2
  omega
set_option maxHeartbeats 1000000 in
theorem l92Level_any (rb : Nat) (a : Option Addr) (len cap : Nat) (p : Int) (w : World) (hr : Rd w rb a len cap p) (p0 : 0 ≤ p) (p1 : p ≤ 900000) :
    Calls Tryd.prog 42 #[.pointer (some ⟨rb, 0, none⟩)] w fun e w' => ∃ s l j p' : Int, e = .returned (.agg #[.int .i64 s, .int .i64 l, .int .i64 j]) ∧ -100 ≤ s ∧ s ≤ 100 ∧ -100 ≤ l ∧ l ≤ 100 ∧ -100 ≤ j ∧ j ≤ 100 ∧ p ≤ p' ∧ p' ≤ p + 10 ∧ w.grownBy w' (some rb) ∧ Rd w' rb a len cap p' := by
  have hlt := hr.lt
  have hlt1 : rb < w.heap.size + 1 := by omega
  have hlt2 : rb < w.heap.size + 1 + 1 := by omega
  go_enter Tryd.func42, Tryd.ntmps42
  go_wp2_with fail
  refine (pick_any rb a len cap p _ _ (hr.alloc _) (by omega) (by omega) (by omega)).mono ?_
  rintro e w1 ⟨x1, rfl, a0, a1, -, hg1, hr1⟩
  obtain ⟨hc1, hf1⟩ := gcell hg1; have hz1 := hg1.size; (try simp only [World.size_alloc, World.size_setCell, World.size_drew, size_drewN] at hz1 hc1 hf1); (have g1a : w.heap.size < w1.heap.size := by omega)
  go_wp2_with fail
  refine (pick_any rb a len cap (p + 1) _ _ hr1 (by omega) (by omega) (by omega)).mono ?_
  rintro e w2 ⟨x2, rfl, b0, b1, -, hg2, hr2⟩
  obtain ⟨hc2, hf2⟩ := gcell hg2; have hz2 := hg2.size; (try simp only [World.size_alloc, World.size_setCell, World.size_drew, size_drewN] at hz2 hc2 hf2); (have g2a : w.heap.size < w2.heap.size := by omega)
  have a1' := a1 (by omega)
  have b1' := b1 (by omega)
  clear a1 b1
  obtain ⟨hv, nz0, nz1, hj⟩ := lvJs_bd a0 a1' b0 b1'
  go_wp2_with fail
  refine (sLevels_some _ _ _ nz0).mono ?_
  rintro e w3 ⟨g, c3, rfl, hcell, -, -, hg, hg', hb3⟩
  obtain ⟨hc3, hf3⟩ := bcell hb3; have hz3 := hb3.size; (try simp only [World.size_alloc, World.size_setCell, World.size_drew, size_drewN] at hz3 hc3 hf3); (have g3a : w.heap.size < w3.heap.size := by omega)
  have hr3 : Rd w3 rb a len cap (p + 1 + 1) := (hr2.alloc _).below hb3
  go_wp2_with fail
  refine (pick_any rb a len cap (p + 1 + 1) _ _ hr3 (by omega) (by omega) (by omega)).mono ?_
  rintro e w4 ⟨x4, rfl, c0, c1, -, hg4, hr4⟩
  obtain ⟨hc4, hf4⟩ := gcell hg4; have hz4 := hg4.size; (try simp only [World.size_alloc, World.size_setCell, World.size_drew, size_drewN] at hz4 hc4 hf4); (have g4a : w.heap.size < w4.heap.size := by omega)
  have c1' := c1 (by omega)
  have c1a : x4 < ((lvJs x1 x2).length : Int) := c1'
  clear c1
  obtain ⟨j0, hj0⟩ : ∃ j0, (lvJs x1 x2)[x4.toNat]? = some j0 := ⟨_, List.getElem?_eq_getElem (by omega)⟩
  obtain ⟨e0, e1, e2⟩ := hcell _ _ hj0
  have hjb := hj _ _ hj0
  have hrg : rb < g := by have := hr2.lt; simp at hg; omega
  have e0' : w4.cell? ⟨g, x4.toNat * 3, none⟩ = some (.int .i64 x1) := (hc4 _ _ hg' hrg).trans e0
  have e1' : w4.cell? ⟨g, x4.toNat * 3 + 1, none⟩ = some (.int .i64 x2) := (hc4 _ _ hg' hrg).trans e1
  have e2' : w4.cell? ⟨g, x4.toNat * 3 + 2, none⟩ = some (.int .i64 j0) := (hc4 _ _ hg' hrg).trans e2
  have hB4 : But w.heap.size rb w w4 := by (repeat' first | (with_reducible exact But.refl _ _ _) | (with_reducible assumption) | (with_reducible refine But.drew ?_) | (with_reducible refine But.alloc ?_ ?_ _) | (with_reducible refine But.setCell ?_ ?_ _) | (with_reducible refine But.grown ?_ (by assumption) ?_) | (with_reducible refine But.below ?_ (by assumption) ?_) | first | omega | (simp only [World.size_alloc, World.size_setCell, World.size_drew, size_drewN]; omega) | (simp; done) | (simp; omega) | (simp only [World.size_alloc, World.size_setCell, World.size_drew, size_drewN] at *; omega) | (simp at *; omega))
  (have k0 : w4.cell? ⟨w.heap.size, 0, none⟩ = some (.int .i64 0) := by (simp (disch := first | omega | (simp; done) | (simp; omega)) [go_sem, *]; done)); (have k1 : w4.cell? ⟨w.heap.size, 1, none⟩ = some (.int .i64 0) := by (simp (disch := first | omega | (simp; done) | (simp; omega)) [go_sem, *]; done)); (have k2 : w4.cell? ⟨w.heap.size, 2, none⟩ = some (.int .i64 0) := by (simp (disch := first | omega | (simp; done) | (simp; omega)) [go_sem, *]; done))
  (have n0 : w4.frozen? ⟨w.heap.size, 0, none⟩ = false := by (simp (disch := first | omega | (simp; done) | (simp; omega)) [go_sem, *]; done)); (have n1 : w4.frozen? ⟨w.heap.size, 1, none⟩ = false := by (simp (disch := first | omega | (simp; done) | (simp; omega)) [go_sem, *]; done)); (have n2 : w4.frozen? ⟨w.heap.size, 2, none⟩ = false := by (simp (disch := first | omega | (simp; done) | (simp; omega)) [go_sem, *]; done))
  clear hcell hj hj0 e0 e1 e2 hc1 hf1 hc2 hf2 hc3 hf3 hc4 hf4 hg1 hg2 hb3 hg4
  go_wp2_with fail
  refine (pick_any rb a len cap (p + 1 + 1 + 1) _ _ (hr4.alloc _) (by omega) (by omega) (by omega)).mono ?_
  rintro e w5 ⟨x5, rfl, d0, d1, -, hg5, hr5⟩
  obtain ⟨hc5, hf5⟩ := gcell hg5; have hz5 := hg5.size; (try simp only [World.size_alloc, World.size_setCell, World.size_drew, size_drewN] at hz5 hc5 hf5); (have g5a : w.heap.size < w5.heap.size := by omega)
  clear d1
  have g5b : w4.heap.size < w5.heap.size := by omega
  have hlt4 : rb < w4.heap.size := by omega
  (have kk0 : w5.cell? ⟨w.heap.size, 0, none⟩ = some (.int .i64 0) := by (simp (disch := first | omega | (simp; done) | (simp; omega)) [go_sem, *]; done)); (have kk1 : w5.cell? ⟨w.heap.size, 1, none⟩ = some (.int .i64 0) := by (simp (disch := first | omega | (simp; done) | (simp; omega)) [go_sem, *]; done)); (have kk2 : w5.cell? ⟨w.heap.size, 2, none⟩ = some (.int .i64 0) := by (simp (disch := first | omega | (simp; done) | (simp; omega)) [go_sem, *]; done))
  (have m0 : w5.cell? ⟨w4.heap.size, 0, none⟩ = some (.int .i64 x1) := by (simp (disch := first | omega | (simp; done) | (simp; omega)) [go_sem, *]; done)); (have m1 : w5.cell? ⟨w4.heap.size, 1, none⟩ = some (.int .i64 x2) := by (simp (disch := first | omega | (simp; done) | (simp; omega)) [go_sem, *]; done)); (have m2 : w5.cell? ⟨w4.heap.size, 2, none⟩ = some (.int .i64 j0) := by (simp (disch := first | omega | (simp; done) | (simp; omega)) [go_sem, *]; done))
  (have nn0 : w5.frozen? ⟨w.heap.size, 0, none⟩ = false := by (simp (disch := first | omega | (simp; done) | (simp; omega)) [go_sem, *]; done)); (have nn1 : w5.frozen? ⟨w.heap.size, 1, none⟩ = false := by (simp (disch := first | omega | (simp; done) | (simp; omega)) [go_sem, *]; done)); (have nn2 : w5.frozen? ⟨w.heap.size, 2, none⟩ = false := by (simp (disch := first | omega | (simp; done) | (simp; omega)) [go_sem, *]; done))
  (have o0 : w5.frozen? ⟨w4.heap.size, 0, none⟩ = false := by (simp (disch := first | omega | (simp; done) | (simp; omega)) [go_sem, *]; done)); (have o1 : w5.frozen? ⟨w4.heap.size, 1, none⟩ = false := by (simp (disch := first | omega | (simp; done) | (simp; omega)) [go_sem, *]; done)); (have o2 : w5.frozen? ⟨w4.heap.size, 2, none⟩ = false := by (simp (disch := first | omega | (simp; done) | (simp; omega)) [go_sem, *]; done))
  have hB5 : But w.heap.size rb w w5 := by (repeat' first | (with_reducible exact But.refl _ _ _) | (with_reducible assumption) | (with_reducible refine But.drew ?_) | (with_reducible refine But.alloc ?_ ?_ _) | (with_reducible refine But.setCell ?_ ?_ _) | (with_reducible refine But.grown ?_ (by assumption) ?_) | (with_reducible refine But.below ?_ (by assumption) ?_) | first | omega | (simp only [World.size_alloc, World.size_setCell, World.size_drew, size_drewN]; omega) | (simp; done) | (simp; omega) | (simp only [World.size_alloc, World.size_setCell, World.size_drew, size_drewN] at *; omega) | (simp at *; omega))
  clear hc5 hf5 k0 k1 k2 n0 n1 n2 hg5 e0' e1' e2' hB4
  go_wp2_with fail
  · refine bodyPost_ret (v := .agg #[.int .i64 (x1), .int .i64 (x2), .int .i64 (j0 + 1)]) (by simp (disch := first | omega | (simp; done) | (simp; omega)) [results, Tryd.results42, go_sem, cell_set, *]) rfl ?_
    exact ⟨_, _, _, p + 1 + 1 + 1 + 1, rfl, by omega, by omega, by omega, by omega, by omega, by omega, by omega, by omega, (show But w.heap.size rb w _ by (repeat' first | (with_reducible exact But.refl _ _ _) | (with_reducible assumption) | (with_reducible refine But.drew ?_) | (with_reducible refine But.alloc ?_ ?_ _) | (with_reducible refine But.setCell ?_ ?_ _) | (with_reducible refine But.grown ?_ (by assumption) ?_) | (with_reducible refine But.below ?_ (by assumption) ?_) | first | omega | (simp only [World.size_alloc, World.size_setCell, World.size_drew, size_drewN]; omega) | (simp; done) | (simp; omega) | (simp only [World.size_alloc, World.size_setCell, World.size_drew, size_drewN] at *; omega) | (simp at *; omega))).isGrown, by (repeat' first | assumption | (with_reducible refine Rd.alloc ?_ _) | (with_reducible refine Rd.drew ?_) | (with_reducible refine Rd.below ?_ (by assumption)) | (with_reducible refine Rd.set hr ?_ ?_) | first | omega | (simp only [World.size_alloc, World.size_setCell, World.size_drew, size_drewN]; omega) | (simp; done) | (simp; omega) | (simp only [World.size_alloc, World.size_setCell, World.size_drew, size_drewN] at *; omega) | (simp at *; omega))⟩
  · refine (pick_any rb a len cap (p + 1 + 1 + 1 + 1) _ _ (hr5.alloc _) (by omega) (by omega) (by omega)).mono ?_
    rintro e w6 ⟨x6, rfl, f0, f1, -, hg6, hr6⟩
    obtain ⟨hc6, hf6⟩ := gcell hg6; have hz6 := hg6.size; (try simp only [World.size_alloc, World.size_setCell, World.size_drew, size_drewN] at hz6 hc6 hf6); (have g6a : w.heap.size < w6.heap.size := by omega)
    have f1' := f1 (by omega)
    clear f1
    have g6b : w4.heap.size < w6.heap.size := by omega
    have g6c : w5.heap.size < w6.heap.size := by omega
    have hlt5 : rb < w5.heap.size := by omega
    have hlit := lit2_bd x6
    have hx : w6.cell? ⟨w5.heap.size, x6.toNat, none⟩ = some (.int .i64 (lit2 x6)) := by rcases (show x6 = 0 ∨ x6 = 1 by omega) with rfl | rfl <;> (simp [lit2]; (simp (disch := first | omega | (simp; done) | (simp; omega)) [go_sem, *]; done))
    (have q0 : w6.cell? ⟨w.heap.size, 0, none⟩ = some (.int .i64 0) := by (simp (disch := first | omega | (simp; done) | (simp; omega)) [go_sem, *]; done)); (have q1 : w6.cell? ⟨w.heap.size, 1, none⟩ = some (.int .i64 0) := by (simp (disch := first | omega | (simp; done) | (simp; omega)) [go_sem, *]; done)); (have q2 : w6.cell? ⟨w.heap.size, 2, none⟩ = some (.int .i64 0) := by (simp (disch := first | omega | (simp; done) | (simp; omega)) [go_sem, *]; done))
    (have r0 : w6.cell? ⟨w4.heap.size, 0, none⟩ = some (.int .i64 x1) := by (simp (disch := first | omega | (simp; done) | (simp; omega)) [go_sem, *]; done)); (have r1 : w6.cell? ⟨w4.heap.size, 1, none⟩ = some (.int .i64 x2) := by (simp (disch := first | omega | (simp; done) | (simp; omega)) [go_sem, *]; done)); (have r2 : w6.cell? ⟨w4.heap.size, 2, none⟩ = some (.int .i64 j0) := by (simp (disch := first | omega | (simp; done) | (simp; omega)) [go_sem, *]; done))
    (have u0 : w6.frozen? ⟨w.heap.size, 0, none⟩ = false := by (simp (disch := first | omega | (simp; done) | (simp; omega)) [go_sem, *]; done)); (have u1 : w6.frozen? ⟨w.heap.size, 1, none⟩ = false := by (simp (disch := first | omega | (simp; done) | (simp; omega)) [go_sem, *]; done)); (have u2 : w6.frozen? ⟨w.heap.size, 2, none⟩ = false := by (simp (disch := first | omega | (simp; done) | (simp; omega)) [go_sem, *]; done))
    (have v0 : w6.frozen? ⟨w4.heap.size, 0, none⟩ = false := by (simp (disch := first | omega | (simp; done) | (simp; omega)) [go_sem, *]; done)); (have v1 : w6.frozen? ⟨w4.heap.size, 1, none⟩ = false := by (simp (disch := first | omega | (simp; done) | (simp; omega)) [go_sem, *]; done)); (have v2 : w6.frozen? ⟨w4.heap.size, 2, none⟩ = false := by (simp (disch := first | omega | (simp; done) | (simp; omega)) [go_sem, *]; done))
    have hB6 : But w.heap.size rb w w6 := by (repeat' first | (with_reducible exact But.refl _ _ _) | (with_reducible assumption) | (with_reducible refine But.drew ?_) | (with_reducible refine But.alloc ?_ ?_ _) | (with_reducible refine But.setCell ?_ ?_ _) | (with_reducible refine But.grown ?_ (by assumption) ?_) | (with_reducible refine But.below ?_ (by assumption) ?_) | first | omega | (simp only [World.size_alloc, World.size_setCell, World.size_drew, size_drewN]; omega) | (simp; done) | (simp; omega) | (simp only [World.size_alloc, World.size_setCell, World.size_drew, size_drewN] at *; omega) | (simp at *; omega))
    clear hc6 hf6 hg6 kk0 kk1 kk2 m0 m1 m2 nn0 nn1 nn2 o0 o1 o2 hB5
    go_wp2
    refine bodyPost_ret (v := .agg #[.int .i64 (x1), .int .i64 (x2), .int .i64 (lit2 x6)]) (by simp (disch := first | omega | (simp; done) | (simp; omega)) [results, Tryd.results42, go_sem, cell_set, *]) rfl ?_
    exact ⟨_, _, _, p + 1 + 1 + 1 + 1 + 1, rfl, by omega, by omega, by omega, by omega, by omega, by omega, by omega, by omega, (show But w.heap.size rb w _ by (repeat' first | (with_reducible exact But.refl _ _ _) | (with_reducible assumption) | (with_reducible refine But.drew ?_) | (with_reducible refine But.alloc ?_ ?_ _) | (with_reducible refine But.setCell ?_ ?_ _) | (with_reducible refine But.grown ?_ (by assumption) ?_) | (with_reducible refine But.below ?_ (by assumption) ?_) | first | omega | (simp only [World.size_alloc, World.size_setCell, World.size_drew, size_drewN]; omega) | (simp; done) | (simp; omega) | (simp only [World.size_alloc, World.size_setCell, World.size_drew, size_drewN] at *; omega) | (simp at *; omega))).isGrown, by (repeat' first | assumption | (with_reducible refine Rd.alloc ?_ _) | (with_reducible refine Rd.drew ?_) | (with_reducible refine Rd.below ?_ (by assumption)) | (with_reducible refine Rd.set hr ?_ ?_) | first | omega | (simp only [World.size_alloc, World.size_setCell, World.size_drew, size_drewN]; omega) | (simp; done) | (simp; omega) | (simp only [World.size_alloc, World.size_setCell, World.size_drew, size_drewN] at *; omega) | (simp at *; omega))⟩
  · refine bodyPost_ret (v := .agg #[.int .i64 (9), .int .i64 (x2), .int .i64 (j0)]) (by simp (disch := first | omega | (simp; done) | (simp; omega)) [results, Tryd.results42, go_sem, cell_set, *]) rfl ?_
    exact ⟨_, _, _, p + 1 + 1 + 1 + 1, rfl, by omega, by omega, by omega, by omega, by omega, by omega, by omega, by omega, (show But w.heap.size rb w _ by (repeat' first | (with_reducible exact But.refl _ _ _) | (with_reducible assumption) | (with_reducible refine But.drew ?_) | (with_reducible refine But.alloc ?_ ?_ _) | (with_reducible refine But.setCell ?_ ?_ _) | (with_reducible refine But.grown ?_ (by assumption) ?_) | (with_reducible refine But.below ?_ (by assumption) ?_) | first | omega | (simp only [World.size_alloc, World.size_setCell, World.size_drew, size_drewN]; omega) | (simp; done) | (simp; omega) | (simp only [World.size_alloc, World.size_setCell, World.size_drew, size_drewN] at *; omega) | (simp at *; omega))).isGrown, by (repeat' first | assumption | (with_reducible refine Rd.alloc ?_ _) | (with_reducible refine Rd.drew ?_) | (with_reducible refine Rd.below ?_ (by assumption)) | (with_reducible refine Rd.set hr ?_ ?_) | first | omega | (simp only [World.size_alloc, World.size_setCell, World.size_drew, size_drewN]; omega) | (simp; done) | (simp; omega) | (simp only [World.size_alloc, World.size_setCell, World.size_drew, size_drewN] at *; omega) | (simp at *; omega))⟩
  · refine bodyPost_ret (v := .agg #[.int .i64 (x1), .int .i64 (x2), .int .i64 (j0)]) (by simp (disch := first | omega | (simp; done) | (simp; omega)) [results, Tryd.results42, go_sem, cell_set, *]) rfl ?_
    exact ⟨_, _, _, p + 1 + 1 + 1 + 1, rfl, by omega, by omega, by omega, by omega, by omega, by omega, by omega, by omega, (show But w.heap.size rb w _ by (repeat' first | (with_reducible exact But.refl _ _ _) | (with_reducible assumption) | (with_reducible refine But.drew ?_) | (with_reducible refine But.alloc ?_ ?_ _) | (with_reducible refine But.setCell ?_ ?_ _) | (with_reducible refine But.grown ?_ (by assumption) ?_) | (with_reducible refine But.below ?_ (by assumption) ?_) | first | omega | (simp only [World.size_alloc, World.size_setCell, World.size_drew, size_drewN]; omega) | (simp; done) | (simp; omega) | (simp only [World.size_alloc, World.size_setCell, World.size_drew, size_drewN] at *; omega) | (simp at *; omega))).isGrown, by (repeat' first | assumption | (with_reducible refine Rd.alloc ?_ _) | (with_reducible refine Rd.drew ?_) | (with_reducible refine Rd.below ?_ (by assumption)) | (with_reducible refine Rd.set hr ?_ ?_) | first | omega | (simp only [World.size_alloc, World.size_setCell, World.size_drew, size_drewN]; omega) | (simp; done) | (simp; omega) | (simp only [World.size_alloc, World.size_setCell, World.size_drew, size_drewN] at *; omega) | (simp at *; omega))⟩
theorem bytesAt_alloc {w : World} {a : Option Addr} {len cap : Nat} (h : BytesAt w a len cap) (o : Obj) : BytesAt (w.alloc o) a len cap := by
  refine ⟨h.1, h.2.1, h.2.2.1, fun x e i hi => ?_⟩
  obtain ⟨c, c0, c1, hc⟩ := h.2.2.2 x e i hi
  exact ⟨c, c0, c1, (((Below.refl w.heap.size w).alloc (Nat.le_refl _) o).cell (World.block_lt_of_cell? w _ hc)).trans hc⟩
end Go.Proofs.YtpggbfpjofcgnaaDoor
