/-
  The walk of the law FnFactorSum. Conditions: where the two package-level errors lie.
-/
import Derived.Test.YtdghihinednenaaDoorSumH
import Derived.Test.YtdghihinednenaaDoorDrawF
import Derived.Test.YtdghihinednenaaDoorTo
import Derived.Test.YtdghihinednenaaDoorMomQ
import Derived.Deep.RegionHeld3
namespace Go.Proofs.YtdghihinednenaaDoor
set_option linter.unusedSimpArgs false
set_option linter.unusedVariables false
open Go.RowKit

theorem wgt_bd {s l : Int} (hv : tvB s l = true) : 0 ≤ wgt s l ∧ wgt s l ≤ 1000 ∧ 0 ≤ wgt s l * 2 * l ∧ wgt s l * 2 * l ≤ 100000 ∧ 0 ≤ wgt s l * 2 * l * (2 * l + 2) ∧ wgt s l * 2 * l * (2 * l + 2) ≤ 100000 ∧ 0 ≤ wgt s l * 2 * s ∧ wgt s l * 2 * s ≤ 100000 ∧ 0 ≤ wgt s l * 2 * s * (s + 2) ∧ wgt s l * 2 * s * (s + 2) ≤ 100000 := by
  have := fin_terms (fun s l => decide (0 ≤ wgt s l ∧ wgt s l ≤ 1000 ∧ 0 ≤ wgt s l * 2 * l ∧ wgt s l * 2 * l ≤ 100000 ∧ 0 ≤ wgt s l * 2 * l * (2 * l + 2) ∧ wgt s l * 2 * l * (2 * l + 2) ≤ 100000 ∧ 0 ≤ wgt s l * 2 * s ∧ wgt s l * 2 * s ≤ 100000 ∧ 0 ≤ wgt s l * 2 * s * (s + 2) ∧ wgt s l * 2 * s * (s + 2) ≤ 100000)) (by decide +kernel) hv
  simpa using this
set_option maxHeartbeats 1000000 in
theorem iTermWeight_any (s l : Int) (w : World) (hv : tvB s l = true) :
    Calls Tryd.prog 33 #[.agg #[.int .i64 s, .int .i64 l]] w fun e w' => e = .returned (.int .i64 (wgt s l)) ∧ Below w.heap.size w w' := by
  have b := tvB_true hv
  have m := mul_bd (a := s + 1) (b := 2 * l + 1) (A := 9) (B := 17) (by omega) (by omega) (by omega) (by omega)
  go_enter Tryd.func33, Tryd.ntmps33
  go_wp2_with (go_at_call 47; refine (iTermValid_any _ _ _).mono ?_; rintro e w1 ⟨rfl, hb1⟩; obtain ⟨hc1, hf1⟩ := bcell hb1; have hz1 := hb1.size; (try simp only [World.size_alloc, World.size_setCell, World.size_drew, size_drewN] at hz1 hc1 hf1); (have g1a : w.heap.size < w1.heap.size := by omega))
  go_ret
  exact ⟨rfl, by (repeat' first | (with_reducible exact Below.refl _ _) | (with_reducible assumption) | (with_reducible refine below_drewN ?_ _) | (with_reducible refine Below.drew ?_) | (with_reducible refine Below.alloc ?_ ?_ _) | (with_reducible refine Below.setCell ?_ ?_ _) | (with_reducible refine Below.trans ?_ (Below.mono (by assumption) ?_)) | first | omega | (simp only [World.size_alloc, World.size_setCell, World.size_drew, size_drewN]; omega) | (simp; done) | (simp; omega) | (simp only [World.size_alloc, World.size_setCell, World.size_drew, size_drewN] at *; omega) | (simp at *; omega))⟩
set_option maxRecDepth 20000 in
set_option maxHeartbeats 2000000 in
theorem walk_FnFactorSum (a : Option Addr) (len cap : Nat) (w : World) (aR aL : Addr) (hE : ErrW aR aL w) (hb : BytesAt w a len cap) :
    Calls Tryd.prog 13 #[.slice a len cap] w fun e w' => e = .returned (.bool true) ∧ Below w.heap.size w w' := by
  by_cases hlen : 1048576 < len
  · clear hb
    go_enter Tryd.func13, Tryd.ntmps13
    go_wp2
    go_ret
    exact ⟨rfl, Below.refl _ _⟩
  · have hlen' : len ≤ 1048576 := by omega
    clear hlen
    have HB := Lib.hid hb
    clear hb
    go_enter Tryd.func13, Tryd.ntmps13
    go_wp2_with fail
    refine (dFactorSum_any a len cap _ HB.out).mono ?_
    rintro e w1 ⟨s, l, rfl, hs0, hs1, hl0, hl1, hb1⟩
    have hz1 := hb1.size
    go_wp2_with fail
    refine (iSum_any _ _ aR aL _ (hE.below (by (repeat' first | (with_reducible exact Below.refl _ _) | (with_reducible assumption) | (with_reducible refine below_drewN ?_ _) | (with_reducible refine Below.drew ?_) | (with_reducible refine Below.alloc ?_ ?_ _) | (with_reducible refine Below.setCell ?_ ?_ _) | (with_reducible refine Below.trans ?_ (Below.mono (by assumption) ?_)) | first | omega | (simp only [World.size_alloc, World.size_setCell, World.size_drew, size_drewN]; omega) | (simp; done) | (simp; omega) | (simp only [World.size_alloc, World.size_setCell, World.size_drew, size_drewN] at *; omega) | (simp at *; omega))) (Nat.le_refl _))).mono ?_
    rintro e w2 ⟨rfl, hb2⟩
    obtain ⟨hc2, hf2⟩ := bcell hb2; have hz2 := hb2.size; (try simp only [World.size_alloc, World.size_setCell, World.size_drew, size_drewN] at hz2 hc2 hf2); (have g2a : w1.heap.size < w2.heap.size := by omega)
    go_wp2_with fail
    refine (sSum_any _ _ _).mono ?_
    rintro e w3 ⟨rfl, hb3⟩
    obtain ⟨hc3, hf3⟩ := bcell hb3; have hz3 := hb3.size; (try simp only [World.size_alloc, World.size_setCell, World.size_drew, size_drewN] at hz3 hc3 hf3); (have g3a : w1.heap.size < w3.heap.size := by omega)
    have gx3 : w2.heap.size < w3.heap.size := by omega
    (have k0 : w3.cell? ⟨w1.heap.size, 0, none⟩ = some (.int .i64 s) := by (simp (disch := first | omega | (simp; done) | (simp; omega)) [go_sem, *]; done)); (have k1 : w3.cell? ⟨w1.heap.size, 1, none⟩ = some (.int .i64 l) := by (simp (disch := first | omega | (simp; done) | (simp; omega)) [go_sem, *]; done))
    (have m0 : w3.cell? ⟨w2.heap.size, 0, none⟩ = some (.int .i64 (sumR s l).1) := by (simp (disch := first | omega | (simp; done) | (simp; omega)) [go_sem, *]; done)); (have m1 : w3.cell? ⟨w2.heap.size, 1, none⟩ = some (.int .i64 (sumR s l).2.1) := by (simp (disch := first | omega | (simp; done) | (simp; omega)) [go_sem, *]; done))
    have hB : Below w.heap.size w w3 := by (repeat' first | (with_reducible exact Below.refl _ _) | (with_reducible assumption) | (with_reducible refine below_drewN ?_ _) | (with_reducible refine Below.drew ?_) | (with_reducible refine Below.alloc ?_ ?_ _) | (with_reducible refine Below.setCell ?_ ?_ _) | (with_reducible refine Below.trans ?_ (Below.mono (by assumption) ?_)) | first | omega | (simp only [World.size_alloc, World.size_setCell, World.size_drew, size_drewN]; omega) | (simp; done) | (simp; omega) | (simp only [World.size_alloc, World.size_setCell, World.size_drew, size_drewN] at *; omega) | (simp at *; omega))
    have hE3 : ErrW aR aL w3 := hE.below hB (Nat.le_refl _)
    clear hc2 hf2 hc3 hf3 hb1 hb2 hb3 hE HB
    cases hk : (sumR s l).2.2
    · go_wp2
      go_ret
      exact ⟨rfl, by (repeat' first | (with_reducible exact Below.refl _ _) | (with_reducible assumption) | (with_reducible refine below_drewN ?_ _) | (with_reducible refine Below.drew ?_) | (with_reducible refine Below.alloc ?_ ?_ _) | (with_reducible refine Below.setCell ?_ ?_ _) | (with_reducible refine Below.trans ?_ (Below.mono (by assumption) ?_)) | first | omega | (simp only [World.size_alloc, World.size_setCell, World.size_drew, size_drewN]; omega) | (simp; done) | (simp; omega) | (simp only [World.size_alloc, World.size_setCell, World.size_drew, size_drewN] at *; omega) | (simp at *; omega))⟩
    · have hv := sumR_true hk
      have bt := tvB_true hv
      have bw := wgt_bd hv
      have e0 := sum_is hv
      go_wp2_with fail
      refine (iTermWeight_any _ _ _ hv).mono ?_
      rintro e w4 ⟨rfl, hb4⟩
      obtain ⟨hc4, hf4⟩ := bcell hb4; have hz4 := hb4.size; (try simp only [World.size_alloc, World.size_setCell, World.size_drew, size_drewN] at hz4 hc4 hf4); (have g4a : w1.heap.size < w4.heap.size := by omega)
      have gx4 : w2.heap.size < w4.heap.size := by omega
      have gz4 : ¬ w2.heap.size = w3.heap.size := by omega
      (have u0 : w4.cell? ⟨w1.heap.size, 0, none⟩ = some (.int .i64 s) := by (simp (disch := first | omega | (simp; done) | (simp; omega)) [go_sem, *]; done)); (have u1 : w4.cell? ⟨w1.heap.size, 1, none⟩ = some (.int .i64 l) := by (simp (disch := first | omega | (simp; done) | (simp; omega)) [go_sem, *]; done))
      (have v0 : w4.cell? ⟨w2.heap.size, 0, none⟩ = some (.int .i64 (wgt s l * 2 * l * (2 * l + 2) + wgt s l * 2 * s * (s + 2))) := by (simp (disch := first | omega | (simp; done) | (simp; omega)) [go_sem, *]; done)); (have v1 : w4.cell? ⟨w2.heap.size, 1, none⟩ = some (.int .i64 1) := by (simp (disch := first | omega | (simp; done) | (simp; omega)) [go_sem, *]; done))
      have hB4 : Below w.heap.size w w4 := by (repeat' first | (with_reducible exact Below.refl _ _) | (with_reducible assumption) | (with_reducible refine below_drewN ?_ _) | (with_reducible refine Below.drew ?_) | (with_reducible refine Below.alloc ?_ ?_ _) | (with_reducible refine Below.setCell ?_ ?_ _) | (with_reducible refine Below.trans ?_ (Below.mono (by assumption) ?_)) | first | omega | (simp only [World.size_alloc, World.size_setCell, World.size_drew, size_drewN]; omega) | (simp; done) | (simp; omega) | (simp only [World.size_alloc, World.size_setCell, World.size_drew, size_drewN] at *; omega) | (simp at *; omega))
      have q1 : IntKind.i64.wrap (wgt s l * 2) = wgt s l * 2 := IntWalk.i64_in _ (by omega)
      have q2 : IntKind.i64.wrap (wgt s l * 2 * l) = wgt s l * 2 * l := IntWalk.i64_in _ (by omega)
      have q3 : IntKind.i64.wrap (2 * l) = 2 * l := IntWalk.i64_in _ (by omega)
      have q4 : IntKind.i64.wrap (2 * l + 2) = 2 * l + 2 := IntWalk.i64_in _ (by omega)
      have q5 : IntKind.i64.wrap (wgt s l * 2 * l * (2 * l + 2)) = wgt s l * 2 * l * (2 * l + 2) := IntWalk.i64_in _ (by omega)
      have q6 : IntKind.i64.wrap (wgt s l * 2 * s) = wgt s l * 2 * s := IntWalk.i64_in _ (by omega)
      have q7 : IntKind.i64.wrap (s + 2) = s + 2 := IntWalk.i64_in _ (by omega)
      have q8 : IntKind.i64.wrap (wgt s l * 2 * s * (s + 2)) = wgt s l * 2 * s * (s + 2) := IntWalk.i64_in _ (by omega)
      have q9 : IntKind.i64.wrap (wgt s l * 2 * l * (2 * l + 2) + wgt s l * 2 * s * (s + 2)) = (wgt s l * 2 * l * (2 * l + 2) + wgt s l * 2 * s * (s + 2)) := IntWalk.i64_in _ (by omega)
      clear e0 m0 m1 k0 k1 hc4 hf4 hb4 hB hk hv bw bt hs0 hs1 hl0 hl1 hE3
      go_wp2_with fail
      go_region_held3 (fun w' => w'.cell? ⟨w1.heap.size, 0, none⟩ = some (.int .i64 s) ∧ w'.cell? ⟨w1.heap.size, 1, none⟩ = some (.int .i64 l) ∧ w'.cell? ⟨w2.heap.size, 0, none⟩ = some (.int .i64 (wgt s l * 2 * l * (2 * l + 2) + wgt s l * 2 * s * (s + 2))) ∧ w'.cell? ⟨w2.heap.size, 1, none⟩ = some (.int .i64 1) ∧ w4.heap.size ≤ w'.heap.size ∧ Below w4.heap.size w4 w')
        (first | (simp (disch := first | omega | (simp; done) | (simp; omega)) [go_sem, *]; done) | ((repeat' first | (with_reducible exact Below.refl _ _) | (with_reducible assumption) | (with_reducible refine below_drewN ?_ _) | (with_reducible refine Below.drew ?_) | (with_reducible refine Below.alloc ?_ ?_ _) | (with_reducible refine Below.setCell ?_ ?_ _) | (with_reducible refine Below.trans ?_ (Below.mono (by assumption) ?_)) | first | omega | (simp only [World.size_alloc, World.size_setCell, World.size_drew, size_drewN]; omega) | (simp; done) | (simp; omega) | (simp only [World.size_alloc, World.size_setCell, World.size_drew, size_drewN] at *; omega) | (simp at *; omega)); done) | ((try go_split_ands); (refine ⟨?_, ?_, ?_, ?_, ?_, ?_⟩ <;> first | (first | omega | (simp only [World.size_alloc, World.size_setCell, World.size_drew, size_drewN]; omega) | (simp (disch := first | omega | (simp; done) | (simp; omega)) [go_sem, *]; done) | ((repeat' first | (with_reducible exact Below.refl _ _) | (with_reducible assumption) | (with_reducible refine below_drewN ?_ _) | (with_reducible refine Below.drew ?_) | (with_reducible refine Below.alloc ?_ ?_ _) | (with_reducible refine Below.setCell ?_ ?_ _) | (with_reducible refine Below.trans ?_ (Below.mono (by assumption) ?_)) | first | omega | (simp only [World.size_alloc, World.size_setCell, World.size_drew, size_drewN]; omega) | (simp; done) | (simp; omega) | (simp only [World.size_alloc, World.size_setCell, World.size_drew, size_drewN] at *; omega) | (simp at *; omega)); done)) | (go_keep; done))))
        (first | (go_at_call 21; refine (whole_any _ _).mono ?_; rintro e w5 ⟨rfl, hb5⟩; obtain ⟨hc5, hf5⟩ := bcell hb5; have hz5 := hb5.size; (try simp only [World.size_alloc, World.size_setCell, World.size_drew, size_drewN] at hz5 hc5 hf5)))
      all_goals go_wp2
      all_goals go_ret
      all_goals exact ⟨rfl, by (repeat' first | (with_reducible exact Below.refl _ _) | (with_reducible assumption) | (with_reducible refine below_drewN ?_ _) | (with_reducible refine Below.drew ?_) | (with_reducible refine Below.alloc ?_ ?_ _) | (with_reducible refine Below.setCell ?_ ?_ _) | (with_reducible refine Below.trans ?_ (Below.mono (by assumption) ?_)) | first | omega | (simp only [World.size_alloc, World.size_setCell, World.size_drew, size_drewN]; omega) | (simp; done) | (simp; omega) | (simp only [World.size_alloc, World.size_setCell, World.size_drew, size_drewN] at *; omega) | (simp at *; omega))⟩
end Go.Proofs.YtdghihinednenaaDoor
