/-
  The walk of spec.FactorSum. Conditions: none.
-/
import Derived.Test.YtdghihinednenaaDoorSumF
namespace Go.Proofs.YtdghihinednenaaDoor
set_option linter.unusedSimpArgs false
set_option linter.unusedVariables false
open Go.RowKit

/-- The row holds the levels of a term. -/
def LvRow (w : World) (g : Nat) (s l : Int) : Prop := ∀ k j, (lvJs s l)[k]? = some j → w.cell? ⟨g, k * 3, none⟩ = some (.int .i64 s) ∧ w.cell? ⟨g, k * 3 + 1, none⟩ = some (.int .i64 l) ∧ w.cell? ⟨g, k * 3 + 2, none⟩ = some (.int .i64 j)
set_option maxRecDepth 20000 in
set_option maxHeartbeats 2000000 in
theorem sSum_any (s l : Int) (w : World) :
    Calls Tryd.prog 28 #[.agg #[.int .i64 s, .int .i64 l]] w fun e w' => e = .returned (.tuple #[.agg #[.int .i64 (sumR s l).1, .int .i64 (sumR s l).2.1], .bool (sumR s l).2.2]) ∧ Below w.heap.size w w' := by
  cases hv : tvB s l
  · rw [sumR_no hv]
    go_enter Tryd.func28, Tryd.ntmps28
    go_wp2_with (go_at_call 45; refine (sTermValid_any _ _ _).mono ?_; rintro e w1 ⟨rfl, hb1⟩; obtain ⟨hc1, hf1⟩ := bcell hb1; have hz1 := hb1.size; (try simp only [World.size_alloc, World.size_setCell, World.size_drew, size_drewN] at hz1 hc1 hf1); (have g1a : w.heap.size < w1.heap.size := by omega); (have g1b : w.heap.size + 1 < w1.heap.size := by omega))
    refine bodyPost_ret (v := .tuple #[.agg #[.int .i64 0, .int .i64 0], .bool false]) (by simp (disch := first | omega | (simp; done) | (simp; omega)) [results, Tryd.results28, go_sem, cell_set, *]) rfl ?_
    exact ⟨rfl, by (repeat' first | (with_reducible exact Below.refl _ _) | (with_reducible assumption) | (with_reducible refine below_drewN ?_ _) | (with_reducible refine Below.drew ?_) | (with_reducible refine Below.alloc ?_ ?_ _) | (with_reducible refine Below.setCell ?_ ?_ _) | (with_reducible refine Below.trans ?_ (Below.mono (by assumption) ?_)) | first | omega | (simp only [World.size_alloc, World.size_setCell, World.size_drew, size_drewN]; omega) | (simp; done) | (simp; omega) | (simp only [World.size_alloc, World.size_setCell, World.size_drew, size_drewN] at *; omega) | (simp at *; omega))⟩
  · rw [sumR_yes hv]
    obtain ⟨n1, n2, n3⟩ := nLv_bd hv
    have bt := tvB_true hv
    have hb0 := sumI_bd hv (Nat.le_refl _)
    go_enter Tryd.func28, Tryd.ntmps28
    go_wp2_with fail
    refine (sTermValid_any _ _ _).mono ?_
    rintro e w1 ⟨rfl, hb1⟩
    obtain ⟨hc1, hf1⟩ := bcell hb1; have hz1 := hb1.size; (try simp only [World.size_alloc, World.size_setCell, World.size_drew, size_drewN] at hz1 hc1 hf1); (have g1a : w.heap.size < w1.heap.size := by omega); (have g1b : w.heap.size + 1 < w1.heap.size := by omega)
    go_wp2_with fail
    refine (sLevels_some _ _ _ (by omega)).mono ?_
    rintro e w2 ⟨g, cap, rfl, L, -, -, hg1, hg2, hb2⟩
    obtain ⟨hc2, hf2⟩ := bcell hb2; have hz2 := hb2.size; (try simp only [World.size_alloc, World.size_setCell, World.size_drew, size_drewN] at hz2 hc2 hf2); (have g2a : w.heap.size < w2.heap.size := by omega); (have g2b : w.heap.size + 1 < w2.heap.size := by omega)
    have LL := Lib.hid (show LvRow w2 g s l from L)
    (have t0 : w2.cell? ⟨w.heap.size + 1, 0, none⟩ = some (.int .i64 0) := by (simp (disch := first | omega | (simp; done) | (simp; omega)) [go_sem, *]; done)); (have t1 : w2.cell? ⟨w.heap.size + 1, 1, none⟩ = some (.int .i64 0) := by (simp (disch := first | omega | (simp; done) | (simp; omega)) [go_sem, *]; done))
    (have u0 : w2.frozen? ⟨w.heap.size + 1, 0, none⟩ = false := by (simp (disch := first | omega | (simp; done) | (simp; omega)) [go_sem, *]; done)); (have u1 : w2.frozen? ⟨w.heap.size + 1, 1, none⟩ = false := by (simp (disch := first | omega | (simp; done) | (simp; omega)) [go_sem, *]; done))
    have hB2 : Below w.heap.size w w2 := by (repeat' first | (with_reducible exact Below.refl _ _) | (with_reducible assumption) | (with_reducible refine below_drewN ?_ _) | (with_reducible refine Below.drew ?_) | (with_reducible refine Below.alloc ?_ ?_ _) | (with_reducible refine Below.setCell ?_ ?_ _) | (with_reducible refine Below.trans ?_ (Below.mono (by assumption) ?_)) | first | omega | (simp only [World.size_alloc, World.size_setCell, World.size_drew, size_drewN]; omega) | (simp; done) | (simp; omega) | (simp only [World.size_alloc, World.size_setCell, World.size_drew, size_drewN] at *; omega) | (simp at *; omega))
    have HV := Lib.hid hv
    rw [n3]
    clear L hc1 hf1 hc2 hf2 hb1 hb2 hv n3
    go_wp2_with fail
    go_loopw [5, 6] (fun sm i wr => ∃ k : Nat, k ≤ nLv s l ∧ i = .int .i64 k ∧ sm = .int .i64 (sumI s l k) ∧ Below w2.heap.size w2 wr) (fun _ i _ => nLv s l - (intOf i).toNat)
    case atStart => exact ⟨0, Nat.zero_le _, rfl, rfl, Below.refl _ _⟩
    case round =>
      obtain ⟨k, hk, rfl, rfl, hbel⟩ := hrel
      have hbz := hbel.size
      by_cases hlt : k < nLv s l
      · obtain ⟨e0, e1, e2⟩ := LL.out k _ (jAt_get HV.out hlt)
        have r0 := (hbel.cell (p := ⟨g, k * 3, none⟩) hg2).trans e0
        have r1 := (hbel.cell (p := ⟨g, k * 3 + 1, none⟩) hg2).trans e1
        have r2 := (hbel.cell (p := ⟨g, k * 3 + 2, none⟩) hg2).trans e2
        have hlv := jAt_lv HV.out hlt
        have bj := lvB_bd hlv
        have bw := twI_bd hlv
        have i0 : (0 : Int) ≤ (k : Int) := Int.natCast_nonneg _
        have i1 : (k : Int) < (nLv s l : Int) := by omega
        clear e0 e1 e2
        by_cases hj : 0 < jAt s l k
        · have b1 := sumI_bd HV.out hk
          have b2 := sumI_bd (k := k + 1) HV.out hlt
          have hst := sumI_pos hj
          have q1 : IntKind.i64.wrap (jAt s l k + 1) = jAt s l k + 1 := IntWalk.i64_in _ (by omega)
          have q2 : IntKind.i64.wrap ((jAt s l k + 1) * twI s l (jAt s l k)) = (jAt s l k + 1) * twI s l (jAt s l k) := IntWalk.i64_in _ (by omega)
          have q3 : IntKind.i64.wrap (sumI s l k + (jAt s l k + 1) * twI s l (jAt s l k)) = sumI s l k + (jAt s l k + 1) * twI s l (jAt s l k) := IntWalk.i64_in _ (by omega)
          have hst' := Lib.hid hst
          clear hst b1 b2
          go_wp2
          go_region_held3 (fun w' => w'.cell? ⟨g, k * 3, none⟩ = some (.int .i64 s) ∧ w'.cell? ⟨g, k * 3 + 1, none⟩ = some (.int .i64 l) ∧ w'.cell? ⟨g, k * 3 + 2, none⟩ = some (.int .i64 (jAt s l k)) ∧ wr.heap.size ≤ w'.heap.size ∧ Below wr.heap.size wr w')
            (first | (simp (disch := first | omega | (simp; done) | (simp; omega)) [go_sem, *]; done) | ((repeat' first | (with_reducible exact Below.refl _ _) | (with_reducible assumption) | (with_reducible refine below_drewN ?_ _) | (with_reducible refine Below.drew ?_) | (with_reducible refine Below.alloc ?_ ?_ _) | (with_reducible refine Below.setCell ?_ ?_ _) | (with_reducible refine Below.trans ?_ (Below.mono (by assumption) ?_)) | first | omega | (simp only [World.size_alloc, World.size_setCell, World.size_drew, size_drewN]; omega) | (simp; done) | (simp; omega) | (simp only [World.size_alloc, World.size_setCell, World.size_drew, size_drewN] at *; omega) | (simp at *; omega)); done) | ((try go_split_ands); (refine ⟨?_, ?_, ?_, ?_, ?_⟩ <;> first | omega | (simp only [World.size_alloc, World.size_setCell, World.size_drew, size_drewN]; omega) | (simp (disch := first | omega | (simp; done) | (simp; omega)) [go_sem, *]; done) | ((repeat' first | (with_reducible exact Below.refl _ _) | (with_reducible assumption) | (with_reducible refine below_drewN ?_ _) | (with_reducible refine Below.drew ?_) | (with_reducible refine Below.alloc ?_ ?_ _) | (with_reducible refine Below.setCell ?_ ?_ _) | (with_reducible refine Below.trans ?_ (Below.mono (by assumption) ?_)) | first | omega | (simp only [World.size_alloc, World.size_setCell, World.size_drew, size_drewN]; omega) | (simp; done) | (simp; omega) | (simp only [World.size_alloc, World.size_setCell, World.size_drew, size_drewN] at *; omega) | (simp at *; omega)); done))))
            (first | (go_at_call 36; refine (twice_any _ _ _ _ hlv).mono ?_; rintro e w5 ⟨rfl, hb5⟩; obtain ⟨hc5, hf5⟩ := bcell hb5; have hz5 := hb5.size; (try simp only [World.size_alloc, World.size_setCell, World.size_drew, size_drewN] at hz5 hc5 hf5); rw [show 2 * (jAt s l k * (jAt s l k + 2)) + jAt s l k * (jAt s l k + 2) + s * (s + 2) - 2 * l * (2 * l + 2) = twI s l (jAt s l k) from rfl]))
          have hB5 : Below w2.heap.size w2 w5 := by (repeat' first | (with_reducible exact Below.refl _ _) | (with_reducible assumption) | (with_reducible refine below_drewN ?_ _) | (with_reducible refine Below.drew ?_) | (with_reducible refine Below.alloc ?_ ?_ _) | (with_reducible refine Below.setCell ?_ ?_ _) | (with_reducible refine Below.trans ?_ (Below.mono (by assumption) ?_)) | first | omega | (simp only [World.size_alloc, World.size_setCell, World.size_drew, size_drewN]; omega) | (simp; done) | (simp; omega) | (simp only [World.size_alloc, World.size_setCell, World.size_drew, size_drewN] at *; omega) | (simp at *; omega))
          clear q1 q2 q3 hbel hb5 r0 r1 r2
          go_wp2
          go_roundw
          case rel => exact ⟨k + 1, hlt, by go_num, by rw [hst'.out], hB5⟩
          case measure => simp [intOf]; omega
        · have hst := sumI_zero hj
          have hst' := Lib.hid hst
          clear hst
          go_wp2
          go_roundw
          case rel => exact ⟨k + 1, hlt, by go_num, by rw [hst'.out], by (repeat' first | (with_reducible exact Below.refl _ _) | (with_reducible assumption) | (with_reducible refine below_drewN ?_ _) | (with_reducible refine Below.drew ?_) | (with_reducible refine Below.alloc ?_ ?_ _) | (with_reducible refine Below.setCell ?_ ?_ _) | (with_reducible refine Below.trans ?_ (Below.mono (by assumption) ?_)) | first | omega | (simp only [World.size_alloc, World.size_setCell, World.size_drew, size_drewN]; omega) | (simp; done) | (simp; omega) | (simp only [World.size_alloc, World.size_setCell, World.size_drew, size_drewN] at *; omega) | (simp at *; omega))⟩
          case measure => simp [intOf]; omega
      · obtain rfl : k = nLv s l := by omega
        go_wp2_with fail
        refine (sRatOf_any (sumI s l (nLv s l)) 2 _ (by omega) (by omega) (by omega) (by omega)).mono ?_
        rintro e w5 ⟨rfl, hb5⟩
        obtain ⟨hc5, hf5⟩ := bcell hb5; have hz5 := hb5.size; (try simp only [World.size_alloc, World.size_setCell, World.size_drew, size_drewN] at hz5 hc5 hf5)
        have y1 : w.heap.size + 1 < wr.heap.size := by omega
        have y2 : w.heap.size + 1 < w5.heap.size := by omega
        have t0' := (hbel.cell (p := ⟨w.heap.size + 1, 0, none⟩) g2b).trans t0
        have t1' := (hbel.cell (p := ⟨w.heap.size + 1, 1, none⟩) g2b).trans t1
        have u0' := (hbel.frozen (p := ⟨w.heap.size + 1, 0, none⟩) g2b).trans u0
        have u1' := (hbel.frozen (p := ⟨w.heap.size + 1, 1, none⟩) g2b).trans u1
        go_wp2
        refine bodyPost_ret (v := .tuple #[.agg #[.int .i64 (ratR (sumI s l (nLv s l)) 2).1, .int .i64 (ratR (sumI s l (nLv s l)) 2).2.1], .bool (ratR (sumI s l (nLv s l)) 2).2.2]) (by simp (disch := first | omega | (simp; done) | (simp; omega)) [results, Tryd.results28, go_sem, cell_set, *]) rfl ?_
        exact ⟨rfl, by (repeat' first | (with_reducible exact Below.refl _ _) | (with_reducible assumption) | (with_reducible refine below_drewN ?_ _) | (with_reducible refine Below.drew ?_) | (with_reducible refine Below.alloc ?_ ?_ _) | (with_reducible refine Below.setCell ?_ ?_ _) | (with_reducible refine Below.trans ?_ (Below.mono (by assumption) ?_)) | first | omega | (simp only [World.size_alloc, World.size_setCell, World.size_drew, size_drewN]; omega) | (simp; done) | (simp; omega) | (simp only [World.size_alloc, World.size_setCell, World.size_drew, size_drewN] at *; omega) | (simp at *; omega))⟩
end Go.Proofs.YtdghihinednenaaDoor
