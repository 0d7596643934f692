/-
  The walks of addUp and of spec.FactorSum. Conditions: none.
-/
import Derived.Test.YtdghihinednenaaDoorMomb
import Derived.Test.YtdghihinednenaaDoorSumP
import Derived.Test.YtdghihinednenaaDoorLevels
import Derived.Deep.RegionHeld3
namespace Go.Proofs.YtdghihinednenaaDoor
set_option linter.unusedSimpArgs false
set_option linter.unusedVariables false
open Go.RowKit

/-- The row holds the shares. -/
def PtAt (w : World) (g : Nat) (s l : Int) (n : Nat) : Prop := ∀ k, k < n → w.cell? ⟨g, k * 2, none⟩ = some (.int .i64 (partR s l (jAt s l k)).1) ∧ w.cell? ⟨g, k * 2 + 1, none⟩ = some (.int .i64 (partR s l (jAt s l k)).2.1)
set_option maxRecDepth 20000 in
set_option maxHeartbeats 2000000 in
theorem addUp_any (s l : Int) (g cap : Nat) (w : World) (hv : tvB s l = true) (hg : g < w.heap.size) (hp : PtAt w g s l (nLv s l)) :
    Calls Tryd.prog 48 #[.slice (some ⟨g, 0, none⟩) (nLv s l) cap] w fun e w' => e = .returned (.tuple #[.agg #[.int .i64 (accR s l (nLv s l)).1, .int .i64 (accR s l (nLv s l)).2.1], .bool true]) ∧ Below w.heap.size w w' := by
  obtain ⟨n1, n2, -⟩ := nLv_bd hv
  have HP := Lib.hid hp
  have HV := Lib.hid hv
  clear hp hv
  go_enter Tryd.func48, Tryd.ntmps48
  go_wp2_with fail
  refine (iWhole_any _ _).mono ?_
  rintro e w1 ⟨rfl, hb1⟩
  obtain ⟨hc1, hf1⟩ := bcell hb1; have hz1 := hb1.size; (try simp only [World.size_alloc, World.size_setCell, World.size_drew, size_drewN] at hz1 hc1 hf1); (have g1a : w.heap.size < w1.heap.size := by omega)
  (have m0 : w1.cell? ⟨w.heap.size, 0, none⟩ = some (.int .i64 0) := by (simp (disch := first | omega | (simp; done) | (simp; omega)) [go_sem, *]; done)); (have m1 : w1.cell? ⟨w.heap.size, 1, none⟩ = some (.int .i64 0) := by (simp (disch := first | omega | (simp; done) | (simp; omega)) [go_sem, *]; done))
  (have n0 : w1.frozen? ⟨w.heap.size, 0, none⟩ = false := by (simp (disch := first | omega | (simp; done) | (simp; omega)) [go_sem, *]; done)); (have n1 : w1.frozen? ⟨w.heap.size, 1, none⟩ = false := by (simp (disch := first | omega | (simp; done) | (simp; omega)) [go_sem, *]; done))
  have hB1 : Below w.heap.size w w1 := by (repeat' first | (with_reducible exact Below.refl _ _) | (with_reducible assumption) | (with_reducible refine below_drewN ?_ _) | (with_reducible refine Below.drew ?_) | (with_reducible refine Below.alloc ?_ ?_ _) | (with_reducible refine Below.setCell ?_ ?_ _) | (with_reducible refine Below.trans ?_ (Below.mono (by assumption) ?_)) | first | omega | (simp only [World.size_alloc, World.size_setCell, World.size_drew, size_drewN]; omega) | (simp; done) | (simp; omega) | (simp only [World.size_alloc, World.size_setCell, World.size_drew, size_drewN] at *; omega) | (simp at *; omega))
  have ng : ¬ w.heap.size = w1.heap.size := by omega
  clear hc1 hf1 hb1
  go_wp2_with fail
  go_loopw [11] (fun i wr => ∃ k : Nat, k ≤ nLv s l ∧ i = .int .i64 k ∧ wr.cell? ⟨w1.heap.size, 0, none⟩ = some (.int .i64 (accR s l k).1) ∧ wr.cell? ⟨w1.heap.size, 1, none⟩ = some (.int .i64 (accR s l k).2.1) ∧ wr.frozen? ⟨w1.heap.size, 0, none⟩ = false ∧ wr.frozen? ⟨w1.heap.size, 1, none⟩ = false ∧ w1.heap.size < wr.heap.size ∧ Below w1.heap.size w1 wr)
    (fun i _ => nLv s l - (intOf i).toNat)
  case atStart => exact ⟨0, Nat.zero_le _, rfl, by simp [accR], by simp [accR], by simp, by simp, by simp, by (repeat' first | (with_reducible exact Below.refl _ _) | (with_reducible assumption) | (with_reducible refine below_drewN ?_ _) | (with_reducible refine Below.drew ?_) | (with_reducible refine Below.alloc ?_ ?_ _) | (with_reducible refine Below.setCell ?_ ?_ _) | (with_reducible refine Below.trans ?_ (Below.mono (by assumption) ?_)) | first | omega | (simp only [World.size_alloc, World.size_setCell, World.size_drew, size_drewN]; omega) | (simp; done) | (simp; omega) | (simp only [World.size_alloc, World.size_setCell, World.size_drew, size_drewN] at *; omega) | (simp at *; omega))⟩
  case round =>
    obtain ⟨k, hk, rfl, c0, c1, f0, f1, hs, hbel⟩ := hrel
    have hbz := hbel.size
    have r0 := (hbel.cell (p := ⟨w.heap.size, 0, none⟩) g1a).trans m0
    have r1 := (hbel.cell (p := ⟨w.heap.size, 1, none⟩) g1a).trans m1
    have z0 := (hbel.frozen (p := ⟨w.heap.size, 0, none⟩) g1a).trans n0
    have z1 := (hbel.frozen (p := ⟨w.heap.size, 1, none⟩) g1a).trans n1
    by_cases hlt : k < nLv s l
    · have hgz : g < w1.heap.size := by omega
      have e0 := (hbel.cell (p := ⟨g, k * 2, none⟩) hgz).trans ((hB1.cell (p := ⟨g, k * 2, none⟩) hg).trans (HP.out k hlt).1)
      have e1 := (hbel.cell (p := ⟨g, k * 2 + 1, none⟩) hgz).trans ((hB1.cell (p := ⟨g, k * 2 + 1, none⟩) hg).trans (HP.out k hlt).2)
      have v1 := (acc_ok HV.out hk).2
      have v2 := (part_ok HV.out hlt).2
      have v3 := (acc_ok HV.out hlt).1
      have i0 : (0 : Int) ≤ (k : Int) := Int.natCast_nonneg _
      have i1 : (k : Int) < (nLv s l : Int) := by omega
      go_wp2_with fail
      refine (ratAdd_any _ _ _ _ _ v1 v2).mono ?_
      rintro e w2 ⟨rfl, hb2⟩
      rw [show ratR ((accR s l k).1 * (partR s l (jAt s l k)).2.1 + (partR s l (jAt s l k)).1 * (accR s l k).2.1) ((accR s l k).2.1 * (partR s l (jAt s l k)).2.1) = accR s l (k + 1) from rfl, v3]
      obtain ⟨hc2, hf2⟩ := bcell hb2; have hz2 := hb2.size; (try simp only [World.size_alloc, World.size_setCell, World.size_drew, size_drewN] at hz2 hc2 hf2)
      have y1 : w1.heap.size < w2.heap.size := by omega
      have y2 : w1.heap.size < wr.heap.size + 1 := by omega
      have y3 : ¬ w1.heap.size = wr.heap.size := by omega
      (have t0 : w2.cell? ⟨w1.heap.size, 0, none⟩ = some (.int .i64 (accR s l k).1) := by (simp (disch := first | omega | (simp; done) | (simp; omega)) [go_sem, *]; done)); (have t1 : w2.cell? ⟨w1.heap.size, 1, none⟩ = some (.int .i64 (accR s l k).2.1) := by (simp (disch := first | omega | (simp; done) | (simp; omega)) [go_sem, *]; done))
      (have u0 : w2.frozen? ⟨w1.heap.size, 0, none⟩ = false := by (simp (disch := first | omega | (simp; done) | (simp; omega)) [go_sem, *]; done)); (have u1 : w2.frozen? ⟨w1.heap.size, 1, none⟩ = false := by (simp (disch := first | omega | (simp; done) | (simp; omega)) [go_sem, *]; done))
      have hB2 : Below w1.heap.size w1 w2 := by (repeat' first | (with_reducible exact Below.refl _ _) | (with_reducible assumption) | (with_reducible refine below_drewN ?_ _) | (with_reducible refine Below.drew ?_) | (with_reducible refine Below.alloc ?_ ?_ _) | (with_reducible refine Below.setCell ?_ ?_ _) | (with_reducible refine Below.trans ?_ (Below.mono (by assumption) ?_)) | first | omega | (simp only [World.size_alloc, World.size_setCell, World.size_drew, size_drewN]; omega) | (simp; done) | (simp; omega) | (simp only [World.size_alloc, World.size_setCell, World.size_drew, size_drewN] at *; omega) | (simp at *; omega))
      clear hc2 hf2 hb2 hbel c0 c1 f0 f1 r0 r1 z0 z1 e0 e1 v1 v2 v3
      go_wp2
      go_roundw
      case rel => exact ⟨k + 1, hlt, by go_num, by (simp (disch := first | omega | (simp; done) | (simp; omega)) [go_sem, cell_set, *]; done), by (simp (disch := first | omega | (simp; done) | (simp; omega)) [go_sem, cell_set, *]; done), by (simp (disch := first | omega | (simp; done) | (simp; omega)) [go_sem, cell_set, *]; done), by (simp (disch := first | omega | (simp; done) | (simp; omega)) [go_sem, cell_set, *]; done), by (repeat' first | (with_reducible exact Below.refl _ _) | (with_reducible assumption) | (with_reducible refine below_drewN ?_ _) | (with_reducible refine Below.drew ?_) | (with_reducible refine Below.alloc ?_ ?_ _) | (with_reducible refine Below.setCell ?_ ?_ _) | (with_reducible refine Below.trans ?_ (Below.mono (by assumption) ?_)) | first | omega | (simp only [World.size_alloc, World.size_setCell, World.size_drew, size_drewN]; omega) | (simp; done) | (simp; omega) | (simp only [World.size_alloc, World.size_setCell, World.size_drew, size_drewN] at *; omega) | (simp at *; omega)), by (repeat' first | (with_reducible exact Below.refl _ _) | (with_reducible assumption) | (with_reducible refine below_drewN ?_ _) | (with_reducible refine Below.drew ?_) | (with_reducible refine Below.alloc ?_ ?_ _) | (with_reducible refine Below.setCell ?_ ?_ _) | (with_reducible refine Below.trans ?_ (Below.mono (by assumption) ?_)) | first | omega | (simp only [World.size_alloc, World.size_setCell, World.size_drew, size_drewN]; omega) | (simp; done) | (simp; omega) | (simp only [World.size_alloc, World.size_setCell, World.size_drew, size_drewN] at *; omega) | (simp at *; omega))⟩
      case measure => simp [intOf]; omega
    · obtain rfl : k = nLv s l := by omega
      go_wp2
      refine bodyPost_ret (v := .tuple #[.agg #[.int .i64 (accR s l (nLv s l)).1, .int .i64 (accR s l (nLv s l)).2.1], .bool true]) (by simp (disch := first | omega | (simp; done) | (simp; omega)) [results, Tryd.results48, go_sem, cell_set, *]) rfl ?_
      exact ⟨rfl, by (repeat' first | (with_reducible exact Below.refl _ _) | (with_reducible assumption) | (with_reducible refine below_drewN ?_ _) | (with_reducible refine Below.drew ?_) | (with_reducible refine Below.alloc ?_ ?_ _) | (with_reducible refine Below.setCell ?_ ?_ _) | (with_reducible refine Below.trans ?_ (Below.mono (by assumption) ?_)) | first | omega | (simp only [World.size_alloc, World.size_setCell, World.size_drew, size_drewN]; omega) | (simp; done) | (simp; omega) | (simp only [World.size_alloc, World.size_setCell, World.size_drew, size_drewN] at *; omega) | (simp at *; omega))⟩
end Go.Proofs.YtdghihinednenaaDoor
