/-
  The walks of the draws of levels and terms for the factor laws. Conditions: none.
-/
import Derived.Test.YtdghihinednenaaDoorDraw
namespace Go.Proofs.YtdghihinednenaaDoor
set_option linter.unusedSimpArgs false
set_option linter.unusedVariables false
open Go.RowKit

set_option maxHeartbeats 1000000 in
theorem dFactorOf_any (a : Option Addr) (len cap : Nat) (w : World) (hb : BytesAt w a len cap) :
    Calls Tryd.prog 18 #[.slice a len cap] w fun e w' => ∃ s l j : Int, e = .returned (.agg #[.int .i64 s, .int .i64 l, .int .i64 j]) ∧ -100 ≤ s ∧ s ≤ 100 ∧ -100 ≤ l ∧ l ≤ 100 ∧ -100 ≤ j ∧ j ≤ 100 ∧ Below w.heap.size w w' := by
  go_enter Tryd.func18, Tryd.ntmps18
  go_wp2_with fail
  refine (l6Open_any a len cap _ (bytesAt_alloc hb _)).mono ?_
  rintro e w1 ⟨rb, m, c, rfl, hr, hrb, hb1⟩
  obtain ⟨hc1, hf1⟩ := bcell hb1; have hz1 := hb1.size; (try simp only [World.size_alloc, World.size_setCell, World.size_drew, size_drewN] at hz1 hc1 hf1); (have g1a : w.heap.size < w1.heap.size := by omega)
  simp only [World.size_alloc] at hrb
  go_wp2_with fail
  refine (l92Level_any rb a m c 0 _ hr (by omega) (by omega)).mono ?_
  rintro e w2 ⟨s, l, j, p', rfl, hs0, hs1, hl0, hl1, hj0, hj1, hp0, hp1, hg2, hr2⟩
  obtain ⟨hc2, hf2⟩ := ncell hg2; have hz2 := hg2.size; (try simp only [World.size_alloc, World.size_setCell, World.size_drew, size_drewN] at hz2 hc2 hf2); (have g2a : w.heap.size < w2.heap.size := by omega)
  (have k0 : w2.cell? ⟨w.heap.size, 0, none⟩ = some (.int .i64 0) := by (simp (disch := first | omega | (simp; done) | (simp; omega)) [go_sem, *]; done)); (have k1 : w2.cell? ⟨w.heap.size, 1, none⟩ = some (.int .i64 0) := by (simp (disch := first | omega | (simp; done) | (simp; omega)) [go_sem, *]; done)); (have k2 : w2.cell? ⟨w.heap.size, 2, none⟩ = some (.int .i64 0) := by (simp (disch := first | omega | (simp; done) | (simp; omega)) [go_sem, *]; done))
  (have n0 : w2.frozen? ⟨w.heap.size, 0, none⟩ = false := by (simp (disch := first | omega | (simp; done) | (simp; omega)) [go_sem, *]; done)); (have n1 : w2.frozen? ⟨w.heap.size, 1, none⟩ = false := by (simp (disch := first | omega | (simp; done) | (simp; omega)) [go_sem, *]; done)); (have n2 : w2.frozen? ⟨w.heap.size, 2, none⟩ = false := by (simp (disch := first | omega | (simp; done) | (simp; omega)) [go_sem, *]; done))
  have hB : Below w.heap.size w w2 := ((show But w.heap.size rb w w2 by (repeat' first | (with_reducible exact But.refl _ _ _) | (with_reducible assumption) | (with_reducible refine But.drew ?_) | (with_reducible refine But.alloc ?_ ?_ _) | (with_reducible refine But.setCell ?_ ?_ _) | (with_reducible refine But.grown ?_ (by assumption) ?_) | (with_reducible refine But.below ?_ (by assumption) ?_) | first | omega | (simp only [World.size_alloc, World.size_setCell, World.size_drew, size_drewN]; omega) | (simp; done) | (simp; omega) | (simp only [World.size_alloc, World.size_setCell, World.size_drew, size_drewN] at *; omega) | (simp at *; omega)))).out (by omega)
  clear hc1 hf1 hc2 hf2 hb1 hg2
  go_wp2
  refine bodyPost_ret (v := .agg #[.int .i64 s, .int .i64 l, .int .i64 j]) (by simp (disch := first | omega | (simp; done) | (simp; omega)) [results, Tryd.results18, go_sem, cell_set, *]) rfl ?_
  exact ⟨s, l, j, rfl, by omega, by omega, by omega, by omega, by omega, by omega, by (repeat' first | (with_reducible exact Below.refl _ _) | (with_reducible assumption) | (with_reducible refine below_drewN ?_ _) | (with_reducible refine Below.drew ?_) | (with_reducible refine Below.alloc ?_ ?_ _) | (with_reducible refine Below.setCell ?_ ?_ _) | (with_reducible refine Below.trans ?_ (Below.mono (by assumption) ?_)) | first | omega | (simp only [World.size_alloc, World.size_setCell, World.size_drew, size_drewN]; omega) | (simp; done) | (simp; omega) | (simp only [World.size_alloc, World.size_setCell, World.size_drew, size_drewN] at *; omega) | (simp at *; omega))⟩
set_option maxHeartbeats 1000000 in
theorem dFactorMoment_any (a : Option Addr) (len cap : Nat) (w : World) (hb : BytesAt w a len cap) :
    Calls Tryd.prog 24 #[.slice a len cap] w fun e w' => ∃ s l j : Int, e = .returned (.agg #[.int .i64 s, .int .i64 l, .int .i64 j]) ∧ -100 ≤ s ∧ s ≤ 100 ∧ -100 ≤ l ∧ l ≤ 100 ∧ -100 ≤ j ∧ j ≤ 100 ∧ Below w.heap.size w w' := by
  go_enter Tryd.func24, Tryd.ntmps24
  go_wp2_with fail
  refine (l6Open_any a len cap _ (bytesAt_alloc hb _)).mono ?_
  rintro e w1 ⟨rb, m, c, rfl, hr, hrb, hb1⟩
  obtain ⟨hc1, hf1⟩ := bcell hb1; have hz1 := hb1.size; (try simp only [World.size_alloc, World.size_setCell, World.size_drew, size_drewN] at hz1 hc1 hf1); (have g1a : w.heap.size < w1.heap.size := by omega)
  simp only [World.size_alloc] at hrb
  go_wp2_with fail
  refine (l92Level_any rb a m c 0 _ hr (by omega) (by omega)).mono ?_
  rintro e w2 ⟨s, l, j, p', rfl, hs0, hs1, hl0, hl1, hj0, hj1, hp0, hp1, hg2, hr2⟩
  obtain ⟨hc2, hf2⟩ := ncell hg2; have hz2 := hg2.size; (try simp only [World.size_alloc, World.size_setCell, World.size_drew, size_drewN] at hz2 hc2 hf2); (have g2a : w.heap.size < w2.heap.size := by omega)
  (have k0 : w2.cell? ⟨w.heap.size, 0, none⟩ = some (.int .i64 0) := by (simp (disch := first | omega | (simp; done) | (simp; omega)) [go_sem, *]; done)); (have k1 : w2.cell? ⟨w.heap.size, 1, none⟩ = some (.int .i64 0) := by (simp (disch := first | omega | (simp; done) | (simp; omega)) [go_sem, *]; done)); (have k2 : w2.cell? ⟨w.heap.size, 2, none⟩ = some (.int .i64 0) := by (simp (disch := first | omega | (simp; done) | (simp; omega)) [go_sem, *]; done))
  (have n0 : w2.frozen? ⟨w.heap.size, 0, none⟩ = false := by (simp (disch := first | omega | (simp; done) | (simp; omega)) [go_sem, *]; done)); (have n1 : w2.frozen? ⟨w.heap.size, 1, none⟩ = false := by (simp (disch := first | omega | (simp; done) | (simp; omega)) [go_sem, *]; done)); (have n2 : w2.frozen? ⟨w.heap.size, 2, none⟩ = false := by (simp (disch := first | omega | (simp; done) | (simp; omega)) [go_sem, *]; done))
  have hB : Below w.heap.size w w2 := ((show But w.heap.size rb w w2 by (repeat' first | (with_reducible exact But.refl _ _ _) | (with_reducible assumption) | (with_reducible refine But.drew ?_) | (with_reducible refine But.alloc ?_ ?_ _) | (with_reducible refine But.setCell ?_ ?_ _) | (with_reducible refine But.grown ?_ (by assumption) ?_) | (with_reducible refine But.below ?_ (by assumption) ?_) | first | omega | (simp only [World.size_alloc, World.size_setCell, World.size_drew, size_drewN]; omega) | (simp; done) | (simp; omega) | (simp only [World.size_alloc, World.size_setCell, World.size_drew, size_drewN] at *; omega) | (simp at *; omega)))).out (by omega)
  clear hc1 hf1 hc2 hf2 hb1 hg2
  go_wp2
  refine bodyPost_ret (v := .agg #[.int .i64 s, .int .i64 l, .int .i64 j]) (by simp (disch := first | omega | (simp; done) | (simp; omega)) [results, Tryd.results24, go_sem, cell_set, *]) rfl ?_
  exact ⟨s, l, j, rfl, by omega, by omega, by omega, by omega, by omega, by omega, by (repeat' first | (with_reducible exact Below.refl _ _) | (with_reducible assumption) | (with_reducible refine below_drewN ?_ _) | (with_reducible refine Below.drew ?_) | (with_reducible refine Below.alloc ?_ ?_ _) | (with_reducible refine Below.setCell ?_ ?_ _) | (with_reducible refine Below.trans ?_ (Below.mono (by assumption) ?_)) | first | omega | (simp only [World.size_alloc, World.size_setCell, World.size_drew, size_drewN]; omega) | (simp; done) | (simp; omega) | (simp only [World.size_alloc, World.size_setCell, World.size_drew, size_drewN] at *; omega) | (simp at *; omega))⟩
set_option maxHeartbeats 1000000 in
theorem dFactorSum_any (a : Option Addr) (len cap : Nat) (w : World) (hb : BytesAt w a len cap) :
    Calls Tryd.prog 31 #[.slice a len cap] w fun e w' => ∃ s l : Int, e = .returned (.agg #[.int .i64 s, .int .i64 l]) ∧ -100 ≤ s ∧ s ≤ 100 ∧ -100 ≤ l ∧ l ≤ 100 ∧ Below w.heap.size w w' := by
  go_enter Tryd.func31, Tryd.ntmps31
  go_wp2_with fail
  refine (l6Open_any a len cap _ (bytesAt_alloc hb _)).mono ?_
  rintro e w1 ⟨rb, m, c, rfl, hr, hrb, hb1⟩
  obtain ⟨hc1, hf1⟩ := bcell hb1; have hz1 := hb1.size; (try simp only [World.size_alloc, World.size_setCell, World.size_drew, size_drewN] at hz1 hc1 hf1); (have g1a : w.heap.size < w1.heap.size := by omega)
  simp only [World.size_alloc] at hrb
  go_wp2_with fail
  refine (l92Term_any rb a m c 0 _ hr (by omega) (by omega)).mono ?_
  rintro e w2 ⟨s, l, p', rfl, hs0, hs1, hl0, hl1, hp0, hp1, hg2, hr2⟩
  obtain ⟨hc2, hf2⟩ := ncell hg2; have hz2 := hg2.size; (try simp only [World.size_alloc, World.size_setCell, World.size_drew, size_drewN] at hz2 hc2 hf2); (have g2a : w.heap.size < w2.heap.size := by omega)
  (have k0 : w2.cell? ⟨w.heap.size, 0, none⟩ = some (.int .i64 0) := by (simp (disch := first | omega | (simp; done) | (simp; omega)) [go_sem, *]; done)); (have k1 : w2.cell? ⟨w.heap.size, 1, none⟩ = some (.int .i64 0) := by (simp (disch := first | omega | (simp; done) | (simp; omega)) [go_sem, *]; done))
  (have n0 : w2.frozen? ⟨w.heap.size, 0, none⟩ = false := by (simp (disch := first | omega | (simp; done) | (simp; omega)) [go_sem, *]; done)); (have n1 : w2.frozen? ⟨w.heap.size, 1, none⟩ = false := by (simp (disch := first | omega | (simp; done) | (simp; omega)) [go_sem, *]; done))
  have hB : Below w.heap.size w w2 := ((show But w.heap.size rb w w2 by (repeat' first | (with_reducible exact But.refl _ _ _) | (with_reducible assumption) | (with_reducible refine But.drew ?_) | (with_reducible refine But.alloc ?_ ?_ _) | (with_reducible refine But.setCell ?_ ?_ _) | (with_reducible refine But.grown ?_ (by assumption) ?_) | (with_reducible refine But.below ?_ (by assumption) ?_) | first | omega | (simp only [World.size_alloc, World.size_setCell, World.size_drew, size_drewN]; omega) | (simp; done) | (simp; omega) | (simp only [World.size_alloc, World.size_setCell, World.size_drew, size_drewN] at *; omega) | (simp at *; omega)))).out (by omega)
  clear hc1 hf1 hc2 hf2 hb1 hg2
  go_wp2
  refine bodyPost_ret (v := .agg #[.int .i64 s, .int .i64 l]) (by simp (disch := first | omega | (simp; done) | (simp; omega)) [results, Tryd.results31, go_sem, cell_set, *]) rfl ?_
  exact ⟨s, l, rfl, by omega, by omega, by omega, by omega, by (repeat' first | (with_reducible exact Below.refl _ _) | (with_reducible assumption) | (with_reducible refine below_drewN ?_ _) | (with_reducible refine Below.drew ?_) | (with_reducible refine Below.alloc ?_ ?_ _) | (with_reducible refine Below.setCell ?_ ?_ _) | (with_reducible refine Below.trans ?_ (Below.mono (by assumption) ?_)) | first | omega | (simp only [World.size_alloc, World.size_setCell, World.size_drew, size_drewN]; omega) | (simp; done) | (simp; omega) | (simp only [World.size_alloc, World.size_setCell, World.size_drew, size_drewN] at *; omega) | (simp at *; omega))⟩
end Go.Proofs.YtdghihinednenaaDoor
