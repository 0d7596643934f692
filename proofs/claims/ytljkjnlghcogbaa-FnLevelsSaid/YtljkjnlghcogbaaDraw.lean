/-
  The walks of the functions that draw terms and levels. Conditions: none.
-/
import Derived.Test.YtljkjnlghcogbaaRead
import Derived.Test.YtljkjnlghcogbaaLevels
namespace Go.Proofs.Ytljkjnlghcogbaa
set_option linter.unusedSimpArgs false
set_option linter.unusedVariables false
open Go.RowKit

def lit3 (x : Int) : Int := if x = 0 then -1 else if x = 1 then 9 else 8
theorem lit3_bd (x : Int) : -1 ≤ lit3 x ∧ lit3 x ≤ 9 := by unfold lit3; split <;> (try split) <;> omega
set_option maxHeartbeats 1000000 in
theorem l92Term_any (rb : Nat) (a : Option Addr) (len cap : Nat) (p : Int) (w : World) (hr : Rd w rb a len cap p) (p0 : 0 ≤ p) (p1 : p ≤ 900000) :
    Calls Try.prog 10 #[.pointer (some ⟨rb, 0, none⟩)] w fun e w' => ∃ s l p' : Int, e = .returned (.agg #[.int .i64 s, .int .i64 l]) ∧ -1 ≤ s ∧ s ≤ 9 ∧ -1 ≤ l ∧ l ≤ 9 ∧ p ≤ p' ∧ p' ≤ p + 10 ∧ w.grownBy w' (some rb) ∧ Rd w' rb a len cap p' := by
  have hlt := hr.lt
  have hlt1 : rb < w.heap.size + 1 := by omega
  have hlt2 : rb < w.heap.size + 1 + 1 := by omega
  go_enter Try.func10, Try.ntmps10
  go_wp2_with fail
  refine (pick_any rb a len cap p _ _ (hr.alloc _) (by omega) (by omega) (by omega)).mono ?_
  rintro e w1 ⟨x1, rfl, a0, a1, -, hg1, hr1⟩
  obtain ⟨hc1, hf1⟩ := gcell hg1; have hz1 := hg1.size; (try simp only [World.size_alloc, World.size_setCell, World.size_drew, size_drewN] at hz1 hc1 hf1); (have g1a : w.heap.size < w1.heap.size := by omega)
  go_wp2_with fail
  refine (pick_any rb a len cap (p + 1) _ _ hr1 (by omega) (by omega) (by omega)).mono ?_
  rintro e w2 ⟨x2, rfl, b0, b1, -, hg2, hr2⟩
  obtain ⟨hc2, hf2⟩ := gcell hg2; have hz2 := hg2.size; (try simp only [World.size_alloc, World.size_setCell, World.size_drew, size_drewN] at hz2 hc2 hf2); (have g2a : w.heap.size < w2.heap.size := by omega)
  go_wp2_with fail
  refine (pick_any rb a len cap (p + 1 + 1) _ _ (hr2.alloc _) (by omega) (by omega) (by omega)).mono ?_
  rintro e w3 ⟨x3, rfl, c0, c1, -, hg3, hr3⟩
  obtain ⟨hc3, hf3⟩ := gcell hg3; have hz3 := hg3.size; (try simp only [World.size_alloc, World.size_setCell, World.size_drew, size_drewN] at hz3 hc3 hf3); (have g3a : w.heap.size < w3.heap.size := by omega)
  have hlt3 : rb < w2.heap.size := by omega
  have a1' := a1 (by omega)
  have b1' := b1 (by omega)
  clear a1 b1 c1
  have hB : But w.heap.size rb w w3 := by (repeat' first | (with_reducible exact But.refl _ _ _) | (with_reducible assumption) | (with_reducible refine But.drew ?_) | (with_reducible refine But.alloc ?_ ?_ _) | (with_reducible refine But.setCell ?_ ?_ _) | (with_reducible refine But.grown ?_ (by assumption) ?_) | (with_reducible refine But.below ?_ (by assumption) ?_) | first | omega | (simp only [World.size_alloc, World.size_setCell, World.size_drew, size_drewN]; omega) | (simp; done) | (simp; omega) | (simp only [World.size_alloc, World.size_setCell, World.size_drew, size_drewN] at *; omega) | (simp at *; omega))
  go_wp2_with fail
  · refine (pick_any rb a len cap (p + 1 + 1 + 1) _ _ (hr3.alloc _) (by omega) (by omega) (by omega)).mono ?_
    rintro e w4 ⟨x4, rfl, d0, d1, -, hg4, hr4⟩
    obtain ⟨hc4, hf4⟩ := gcell hg4; have hz4 := hg4.size; (try simp only [World.size_alloc, World.size_setCell, World.size_drew, size_drewN] at hz4 hc4 hf4); (have g4a : w.heap.size < w4.heap.size := by omega)
    have d1' := d1 (by omega)
    clear d1
    have g4b : w2.heap.size < w4.heap.size := by omega
    have g4c : w3.heap.size < w4.heap.size := by omega
    have hlit := lit3_bd x4
    have hx : w4.cell? ⟨w3.heap.size, x4.toNat, none⟩ = some (.int .i64 (lit3 x4)) := by rcases (show x4 = 0 ∨ x4 = 1 ∨ x4 = 2 by omega) with rfl | rfl | rfl <;> (simp [lit3]; (simp (disch := first | omega | (simp; done) | (simp; omega)) [go_sem, *]; done))
    (have k0 : w4.cell? ⟨w.heap.size, 0, none⟩ = some (.int .i64 0) := by (simp (disch := first | omega | (simp; done) | (simp; omega)) [go_sem, *]; done)); (have k1 : w4.cell? ⟨w.heap.size, 1, none⟩ = some (.int .i64 0) := by (simp (disch := first | omega | (simp; done) | (simp; omega)) [go_sem, *]; done))
    (have m0 : w4.cell? ⟨w2.heap.size, 0, none⟩ = some (.int .i64 x1) := by (simp (disch := first | omega | (simp; done) | (simp; omega)) [go_sem, *]; done)); (have m1 : w4.cell? ⟨w2.heap.size, 1, none⟩ = some (.int .i64 x2) := by (simp (disch := first | omega | (simp; done) | (simp; omega)) [go_sem, *]; done))
    (have n0 : w4.frozen? ⟨w.heap.size, 0, none⟩ = false := by (simp (disch := first | omega | (simp; done) | (simp; omega)) [go_sem, *]; done)); (have n1 : w4.frozen? ⟨w.heap.size, 1, none⟩ = false := by (simp (disch := first | omega | (simp; done) | (simp; omega)) [go_sem, *]; done))
    (have o0 : w4.frozen? ⟨w2.heap.size, 0, none⟩ = false := by (simp (disch := first | omega | (simp; done) | (simp; omega)) [go_sem, *]; done)); (have o1 : w4.frozen? ⟨w2.heap.size, 1, none⟩ = false := by (simp (disch := first | omega | (simp; done) | (simp; omega)) [go_sem, *]; done))
    have hB4 : But w.heap.size rb w w4 := by (repeat' first | (with_reducible exact But.refl _ _ _) | (with_reducible assumption) | (with_reducible refine But.drew ?_) | (with_reducible refine But.alloc ?_ ?_ _) | (with_reducible refine But.setCell ?_ ?_ _) | (with_reducible refine But.grown ?_ (by assumption) ?_) | (with_reducible refine But.below ?_ (by assumption) ?_) | first | omega | (simp only [World.size_alloc, World.size_setCell, World.size_drew, size_drewN]; omega) | (simp; done) | (simp; omega) | (simp only [World.size_alloc, World.size_setCell, World.size_drew, size_drewN] at *; omega) | (simp at *; omega))
    clear hc1 hf1 hc2 hf2 hc3 hf3 hc4 hf4 hg1 hg2 hg3 hg4
    go_wp2
    refine bodyPost_ret (v := .agg #[.int .i64 (lit3 x4), .int .i64 (x2)]) (by simp (disch := first | omega | (simp; done) | (simp; omega)) [results, Try.results10, go_sem, cell_set, *]) rfl ?_
    exact ⟨_, _, p + 1 + 1 + 1 + 1, rfl, by omega, by omega, by omega, by omega, by omega, by omega, (show But w.heap.size rb w _ by (repeat' first | (with_reducible exact But.refl _ _ _) | (with_reducible assumption) | (with_reducible refine But.drew ?_) | (with_reducible refine But.alloc ?_ ?_ _) | (with_reducible refine But.setCell ?_ ?_ _) | (with_reducible refine But.grown ?_ (by assumption) ?_) | (with_reducible refine But.below ?_ (by assumption) ?_) | first | omega | (simp only [World.size_alloc, World.size_setCell, World.size_drew, size_drewN]; omega) | (simp; done) | (simp; omega) | (simp only [World.size_alloc, World.size_setCell, World.size_drew, size_drewN] at *; omega) | (simp at *; omega))).isGrown, by (repeat' first | assumption | (with_reducible refine Rd.alloc ?_ _) | (with_reducible refine Rd.drew ?_) | (with_reducible refine Rd.below ?_ (by assumption)) | (with_reducible refine Rd.set hr ?_ ?_) | first | omega | (simp only [World.size_alloc, World.size_setCell, World.size_drew, size_drewN]; omega) | (simp; done) | (simp; omega) | (simp only [World.size_alloc, World.size_setCell, World.size_drew, size_drewN] at *; omega) | (simp at *; omega))⟩
  · refine (pick_any rb a len cap (p + 1 + 1 + 1) _ _ (hr3.alloc _) (by omega) (by omega) (by omega)).mono ?_
    rintro e w4 ⟨x4, rfl, d0, d1, -, hg4, hr4⟩
    obtain ⟨hc4, hf4⟩ := gcell hg4; have hz4 := hg4.size; (try simp only [World.size_alloc, World.size_setCell, World.size_drew, size_drewN] at hz4 hc4 hf4); (have g4a : w.heap.size < w4.heap.size := by omega)
    have d1' := d1 (by omega)
    clear d1
    have g4b : w2.heap.size < w4.heap.size := by omega
    have g4c : w3.heap.size < w4.heap.size := by omega
    have hlit := lit3_bd x4
    have hx : w4.cell? ⟨w3.heap.size, x4.toNat, none⟩ = some (.int .i64 (lit3 x4)) := by rcases (show x4 = 0 ∨ x4 = 1 ∨ x4 = 2 by omega) with rfl | rfl | rfl <;> (simp [lit3]; (simp (disch := first | omega | (simp; done) | (simp; omega)) [go_sem, *]; done))
    (have k0 : w4.cell? ⟨w.heap.size, 0, none⟩ = some (.int .i64 0) := by (simp (disch := first | omega | (simp; done) | (simp; omega)) [go_sem, *]; done)); (have k1 : w4.cell? ⟨w.heap.size, 1, none⟩ = some (.int .i64 0) := by (simp (disch := first | omega | (simp; done) | (simp; omega)) [go_sem, *]; done))
    (have m0 : w4.cell? ⟨w2.heap.size, 0, none⟩ = some (.int .i64 x1) := by (simp (disch := first | omega | (simp; done) | (simp; omega)) [go_sem, *]; done)); (have m1 : w4.cell? ⟨w2.heap.size, 1, none⟩ = some (.int .i64 x2) := by (simp (disch := first | omega | (simp; done) | (simp; omega)) [go_sem, *]; done))
    (have n0 : w4.frozen? ⟨w.heap.size, 0, none⟩ = false := by (simp (disch := first | omega | (simp; done) | (simp; omega)) [go_sem, *]; done)); (have n1 : w4.frozen? ⟨w.heap.size, 1, none⟩ = false := by (simp (disch := first | omega | (simp; done) | (simp; omega)) [go_sem, *]; done))
    (have o0 : w4.frozen? ⟨w2.heap.size, 0, none⟩ = false := by (simp (disch := first | omega | (simp; done) | (simp; omega)) [go_sem, *]; done)); (have o1 : w4.frozen? ⟨w2.heap.size, 1, none⟩ = false := by (simp (disch := first | omega | (simp; done) | (simp; omega)) [go_sem, *]; done))
    have hB4 : But w.heap.size rb w w4 := by (repeat' first | (with_reducible exact But.refl _ _ _) | (with_reducible assumption) | (with_reducible refine But.drew ?_) | (with_reducible refine But.alloc ?_ ?_ _) | (with_reducible refine But.setCell ?_ ?_ _) | (with_reducible refine But.grown ?_ (by assumption) ?_) | (with_reducible refine But.below ?_ (by assumption) ?_) | first | omega | (simp only [World.size_alloc, World.size_setCell, World.size_drew, size_drewN]; omega) | (simp; done) | (simp; omega) | (simp only [World.size_alloc, World.size_setCell, World.size_drew, size_drewN] at *; omega) | (simp at *; omega))
    clear hc1 hf1 hc2 hf2 hc3 hf3 hc4 hf4 hg1 hg2 hg3 hg4
    go_wp2
    refine bodyPost_ret (v := .agg #[.int .i64 (x1), .int .i64 (lit3 x4)]) (by simp (disch := first | omega | (simp; done) | (simp; omega)) [results, Try.results10, go_sem, cell_set, *]) rfl ?_
    exact ⟨_, _, p + 1 + 1 + 1 + 1, rfl, by omega, by omega, by omega, by omega, by omega, by omega, (show But w.heap.size rb w _ by (repeat' first | (with_reducible exact But.refl _ _ _) | (with_reducible assumption) | (with_reducible refine But.drew ?_) | (with_reducible refine But.alloc ?_ ?_ _) | (with_reducible refine But.setCell ?_ ?_ _) | (with_reducible refine But.grown ?_ (by assumption) ?_) | (with_reducible refine But.below ?_ (by assumption) ?_) | first | omega | (simp only [World.size_alloc, World.size_setCell, World.size_drew, size_drewN]; omega) | (simp; done) | (simp; omega) | (simp only [World.size_alloc, World.size_setCell, World.size_drew, size_drewN] at *; omega) | (simp at *; omega))).isGrown, by (repeat' first | assumption | (with_reducible refine Rd.alloc ?_ _) | (with_reducible refine Rd.drew ?_) | (with_reducible refine Rd.below ?_ (by assumption)) | (with_reducible refine Rd.set hr ?_ ?_) | first | omega | (simp only [World.size_alloc, World.size_setCell, World.size_drew, size_drewN]; omega) | (simp; done) | (simp; omega) | (simp only [World.size_alloc, World.size_setCell, World.size_drew, size_drewN] at *; omega) | (simp at *; omega))⟩
  · (have k0 : w3.cell? ⟨w.heap.size, 0, none⟩ = some (.int .i64 0) := by (simp (disch := first | omega | (simp; done) | (simp; omega)) [go_sem, *]; done)); (have k1 : w3.cell? ⟨w.heap.size, 1, none⟩ = some (.int .i64 0) := by (simp (disch := first | omega | (simp; done) | (simp; omega)) [go_sem, *]; done))
    (have m0 : w3.cell? ⟨w2.heap.size, 0, none⟩ = some (.int .i64 x1) := by (simp (disch := first | omega | (simp; done) | (simp; omega)) [go_sem, *]; done)); (have m1 : w3.cell? ⟨w2.heap.size, 1, none⟩ = some (.int .i64 x2) := by (simp (disch := first | omega | (simp; done) | (simp; omega)) [go_sem, *]; done))
    (have n0 : w3.frozen? ⟨w.heap.size, 0, none⟩ = false := by (simp (disch := first | omega | (simp; done) | (simp; omega)) [go_sem, *]; done)); (have n1 : w3.frozen? ⟨w.heap.size, 1, none⟩ = false := by (simp (disch := first | omega | (simp; done) | (simp; omega)) [go_sem, *]; done))
    clear hc1 hf1 hc2 hf2 hc3 hf3 hg1 hg2 hg3
    go_wp2
    refine bodyPost_ret (v := .agg #[.int .i64 x1, .int .i64 x2]) (by simp (disch := first | omega | (simp; done) | (simp; omega)) [results, Try.results10, go_sem, cell_set, *]) rfl ?_
    exact ⟨_, _, p + 1 + 1 + 1, rfl, by omega, by omega, by omega, by omega, by omega, by omega, (show But w.heap.size rb w _ by (repeat' first | (with_reducible exact But.refl _ _ _) | (with_reducible assumption) | (with_reducible refine But.drew ?_) | (with_reducible refine But.alloc ?_ ?_ _) | (with_reducible refine But.setCell ?_ ?_ _) | (with_reducible refine But.grown ?_ (by assumption) ?_) | (with_reducible refine But.below ?_ (by assumption) ?_) | first | omega | (simp only [World.size_alloc, World.size_setCell, World.size_drew, size_drewN]; omega) | (simp; done) | (simp; omega) | (simp only [World.size_alloc, World.size_setCell, World.size_drew, size_drewN] at *; omega) | (simp at *; omega))).isGrown, by (repeat' first | assumption | (with_reducible refine Rd.alloc ?_ _) | (with_reducible refine Rd.drew ?_) | (with_reducible refine Rd.below ?_ (by assumption)) | (with_reducible refine Rd.set hr ?_ ?_) | first | omega | (simp only [World.size_alloc, World.size_setCell, World.size_drew, size_drewN]; omega) | (simp; done) | (simp; omega) | (simp only [World.size_alloc, World.size_setCell, World.size_drew, size_drewN] at *; omega) | (simp at *; omega))⟩
theorem bytesAt_alloc {w : World} {a : Option Addr} {len cap : Nat} (h : BytesAt w a len cap) (o : Obj) : BytesAt (w.alloc o) a len cap := by
  refine ⟨h.1, h.2.1, h.2.2.1, fun x e i hi => ?_⟩
  obtain ⟨c, c0, c1, hc⟩ := h.2.2.2 x e i hi
  exact ⟨c, c0, c1, (((Below.refl w.heap.size w).alloc (Nat.le_refl _) o).cell (World.block_lt_of_cell? w _ hc)).trans hc⟩
set_option maxHeartbeats 1000000 in
theorem dLevelsOf_any (a : Option Addr) (len cap : Nat) (w : World) (hb : BytesAt w a len cap) :
    Calls Try.prog 4 #[.slice a len cap] w fun e w' => ∃ s l : Int, e = .returned (.agg #[.int .i64 s, .int .i64 l]) ∧ -100 ≤ s ∧ s ≤ 100 ∧ -100 ≤ l ∧ l ≤ 100 ∧ Below w.heap.size w w' := by
  go_enter Try.func4, Try.ntmps4
  go_wp2_with fail
  refine (l6Open_any a len cap _ (bytesAt_alloc hb _)).mono ?_
  rintro e w1 ⟨rb, m, c, rfl, hr, hrb, hb1⟩
  obtain ⟨hc1, hf1⟩ := bcell hb1; have hz1 := hb1.size; (try simp only [World.size_alloc, World.size_setCell, World.size_drew, size_drewN] at hz1 hc1 hf1); (have g1a : w.heap.size < w1.heap.size := by omega)
  simp only [World.size_alloc] at hrb
  go_wp2_with fail
  refine (l92Term_any rb a m c 0 _ hr (by omega) (by omega)).mono ?_
  rintro e w2 ⟨s, l, p', rfl, hs0, hs1, hl0, hl1, hp0, hp1, hg2, hr2⟩
  obtain ⟨hc2, hf2⟩ := ncell hg2; have hz2 := hg2.size; (try simp only [World.size_alloc, World.size_setCell, World.size_drew, size_drewN] at hz2 hc2 hf2); (have g2a : w.heap.size < w2.heap.size := by omega)
  (have k0 : w2.cell? ⟨w.heap.size, 0, none⟩ = some (.int .i64 0) := by (simp (disch := first | omega | (simp; done) | (simp; omega)) [go_sem, *]; done)); (have k1 : w2.cell? ⟨w.heap.size, 1, none⟩ = some (.int .i64 0) := by (simp (disch := first | omega | (simp; done) | (simp; omega)) [go_sem, *]; done))
  (have n0 : w2.frozen? ⟨w.heap.size, 0, none⟩ = false := by (simp (disch := first | omega | (simp; done) | (simp; omega)) [go_sem, *]; done)); (have n1 : w2.frozen? ⟨w.heap.size, 1, none⟩ = false := by (simp (disch := first | omega | (simp; done) | (simp; omega)) [go_sem, *]; done))
  have hB : Below w.heap.size w w2 := ((show But w.heap.size rb w w2 by (repeat' first | (with_reducible exact But.refl _ _ _) | (with_reducible assumption) | (with_reducible refine But.drew ?_) | (with_reducible refine But.alloc ?_ ?_ _) | (with_reducible refine But.setCell ?_ ?_ _) | (with_reducible refine But.grown ?_ (by assumption) ?_) | (with_reducible refine But.below ?_ (by assumption) ?_) | first | omega | (simp only [World.size_alloc, World.size_setCell, World.size_drew, size_drewN]; omega) | (simp; done) | (simp; omega) | (simp only [World.size_alloc, World.size_setCell, World.size_drew, size_drewN] at *; omega) | (simp at *; omega)))).out (by omega)
  clear hc1 hf1 hc2 hf2 hb1 hg2
  go_wp2
  refine bodyPost_ret (v := .agg #[.int .i64 s, .int .i64 l]) (by simp (disch := first | omega | (simp; done) | (simp; omega)) [results, Try.results4, go_sem, cell_set, *]) rfl ?_
  exact ⟨s, l, rfl, by omega, by omega, by omega, by omega, by (repeat' first | (with_reducible exact Below.refl _ _) | (with_reducible assumption) | (with_reducible refine below_drewN ?_ _) | (with_reducible refine Below.drew ?_) | (with_reducible refine Below.alloc ?_ ?_ _) | (with_reducible refine Below.setCell ?_ ?_ _) | (with_reducible refine Below.trans ?_ (Below.mono (by assumption) ?_)) | first | omega | (simp only [World.size_alloc, World.size_setCell, World.size_drew, size_drewN]; omega) | (simp; done) | (simp; omega) | (simp only [World.size_alloc, World.size_setCell, World.size_drew, size_drewN] at *; omega) | (simp at *; omega))⟩
end Go.Proofs.Ytljkjnlghcogbaa
