/-
  The walks of the laws' own small functions: toTerm, toLevel, and HyperShift. Conditions: none.
-/
import Derived.Test.YtecbkneblcglaaaShift
import Derived.Handy
namespace Go.Proofs.Ytecbkneblcglaaa
set_option linter.unusedSimpArgs false
set_option linter.unusedVariables false
open Go.RowKit

set_option maxHeartbeats 400000 in
theorem toTerm_any (s l : Int) (w : World) :
    Calls Try.prog 18 #[.agg #[.int .i64 s, .int .i64 l]] w fun e w' => e = .returned (.agg #[.int .i64 s, .int .i64 l]) ∧ Below w.heap.size w w' := by
  go_enter Try.func18, Try.ntmps18
  go_wp2
  go_returns
  exact ⟨rfl, by (repeat' first | (with_reducible exact Below.refl _ _) | (with_reducible assumption) | (with_reducible refine below_drewN ?_ _) | (with_reducible refine Below.drew ?_) | (with_reducible refine Below.alloc ?_ ?_ _) | (with_reducible refine Below.setCell ?_ ?_ _) | (with_reducible refine Below.trans ?_ (Below.mono (by assumption) ?_)) | first | omega | (simp only [World.size_alloc, World.size_setCell, World.size_drew, size_drewN]; omega) | (simp; done) | (simp; omega) | (simp only [World.size_alloc, World.size_setCell, World.size_drew, size_drewN] at *; omega) | (simp at *; omega))⟩
set_option maxHeartbeats 400000 in
theorem toLevel_any (s l j : Int) (w : World) :
    Calls Try.prog 8 #[.agg #[.int .i64 s, .int .i64 l, .int .i64 j]] w fun e w' => e = .returned (.agg #[.int .i64 s, .int .i64 l, .int .i64 j]) ∧ Below w.heap.size w w' := by
  go_enter Try.func8, Try.ntmps8
  go_wp2_with (go_at_call 18; refine (toTerm_any _ _ _).mono ?_; rintro e w1 ⟨rfl, hb1⟩; obtain ⟨hc1, hf1⟩ := bcell hb1; have hz1 := hb1.size; (try simp only [World.size_alloc, World.size_setCell, World.size_drew, size_drewN] at hz1 hc1 hf1); (have k0 : w1.cell? ⟨w.heap.size + 1, 0, none⟩ = some (.int .i64 0) := by (simp (disch := first | omega | (simp; done) | (simp; omega)) [go_sem, *]; done)); (have k1 : w1.cell? ⟨w.heap.size + 1, 1, none⟩ = some (.int .i64 0) := by (simp (disch := first | omega | (simp; done) | (simp; omega)) [go_sem, *]; done)); (have k2 : w1.cell? ⟨w.heap.size + 1, 2, none⟩ = some (.int .i64 0) := by (simp (disch := first | omega | (simp; done) | (simp; omega)) [go_sem, *]; done)); (have m0 : w1.cell? ⟨w.heap.size + 1 + 1, 0, none⟩ = some (.int .i64 0) := by (simp (disch := first | omega | (simp; done) | (simp; omega)) [go_sem, *]; done)); (have m1 : w1.cell? ⟨w.heap.size + 1 + 1, 1, none⟩ = some (.int .i64 0) := by (simp (disch := first | omega | (simp; done) | (simp; omega)) [go_sem, *]; done)); (have m2 : w1.cell? ⟨w.heap.size + 1 + 1, 2, none⟩ = some (.int .i64 0) := by (simp (disch := first | omega | (simp; done) | (simp; omega)) [go_sem, *]; done)))
  clear hc1 hf1
  refine bodyPost_ret (v := .agg #[.int .i64 s, .int .i64 l, .int .i64 j]) (by simp (disch := first | omega | (simp; done) | (simp; omega)) [results, Try.results8, go_sem, cell_set, *]) rfl ?_
  exact ⟨rfl, by (repeat' first | (with_reducible exact Below.refl _ _) | (with_reducible assumption) | (with_reducible refine below_drewN ?_ _) | (with_reducible refine Below.drew ?_) | (with_reducible refine Below.alloc ?_ ?_ _) | (with_reducible refine Below.setCell ?_ ?_ _) | (with_reducible refine Below.trans ?_ (Below.mono (by assumption) ?_)) | first | omega | (simp only [World.size_alloc, World.size_setCell, World.size_drew, size_drewN]; omega) | (simp; done) | (simp; omega) | (simp only [World.size_alloc, World.size_setCell, World.size_drew, size_drewN] at *; omega) | (simp at *; omega))⟩
set_option maxHeartbeats 400000 in
theorem hyperValid_any (j : Int) (w : World) :
    Calls Try.prog 29 #[.int .i64 j] w fun e w' => e = .returned (.bool (inB j 0 12)) ∧ w = w' := by
  by_cases a1 : 0 ≤ j
  · by_cases a2 : j ≤ 12
    · rw [show inB j 0 12 = true by simp [inB]; omega]
      go_enter Try.func29, Try.ntmps29
      go_wp2
      go_ret
      exact ⟨rfl, rfl⟩
    · rw [show inB j 0 12 = false by simp [inB]; omega]
      go_enter Try.func29, Try.ntmps29
      go_wp2
      go_ret
      exact ⟨rfl, rfl⟩
  · rw [show inB j 0 12 = false by simp [inB]; omega]
    go_enter Try.func29, Try.ntmps29
    go_wp2
    go_ret
    exact ⟨rfl, rfl⟩
def hyB (f j i : Int) : Bool := inB j 0 12 && inB i 0 12 && triB f j i
def hyI (f j i : Int) : Int := if hyB f j i = true then f * (f + 2) - j * (j + 2) - i * (i + 2) else 0
theorem tri_turn (f j i : Int) : triB j i f = triB f j i := by rw [Bool.eq_iff_iff]; simp [triB]; omega
theorem hyB_bd {f j i : Int} (h : hyB f j i = true) : 0 ≤ f ∧ f ≤ 24 ∧ 0 ≤ j ∧ j ≤ 12 ∧ 0 ≤ i ∧ i ≤ 12 := by
  simp only [hyB, Bool.and_eq_true] at h
  have a := inB_true h.1.1
  have b := inB_true h.1.2
  have c := triB_true h.2
  omega
set_option maxHeartbeats 400000 in
theorem hvalid_any (f j i : Int) (w : World) :
    Calls Try.prog 23 #[.agg #[.int .i64 f, .int .i64 j, .int .i64 i]] w fun e w' => e = .returned (.bool (hyB f j i)) ∧ Below w.heap.size w w' := by
  have ht := tri_turn f j i
  unfold hyB
  cases h1 : inB j 0 12
  · go_enter Try.func23, Try.ntmps23
    go_wp2_with (first | (go_at_call 29; refine (hyperValid_any _ _).mono ?_; rintro e w' ⟨rfl, rfl⟩) | (go_at_call 20; refine (iTri_any _ _ _ _).mono ?_; rintro e w' ⟨rfl, rfl⟩))
    go_ret
    exact ⟨by first | rfl | simp, by (repeat' first | (with_reducible exact Below.refl _ _) | (with_reducible assumption) | (with_reducible refine below_drewN ?_ _) | (with_reducible refine Below.drew ?_) | (with_reducible refine Below.alloc ?_ ?_ _) | (with_reducible refine Below.setCell ?_ ?_ _) | (with_reducible refine Below.trans ?_ (Below.mono (by assumption) ?_)) | first | omega | (simp only [World.size_alloc, World.size_setCell, World.size_drew, size_drewN]; omega) | (simp; done) | (simp; omega) | (simp only [World.size_alloc, World.size_setCell, World.size_drew, size_drewN] at *; omega) | (simp at *; omega))⟩
  cases h2 : inB i 0 12
  · go_enter Try.func23, Try.ntmps23
    go_wp2_with (first | (go_at_call 29; refine (hyperValid_any _ _).mono ?_; rintro e w' ⟨rfl, rfl⟩) | (go_at_call 20; refine (iTri_any _ _ _ _).mono ?_; rintro e w' ⟨rfl, rfl⟩))
    go_ret
    exact ⟨by first | rfl | simp, by (repeat' first | (with_reducible exact Below.refl _ _) | (with_reducible assumption) | (with_reducible refine below_drewN ?_ _) | (with_reducible refine Below.drew ?_) | (with_reducible refine Below.alloc ?_ ?_ _) | (with_reducible refine Below.setCell ?_ ?_ _) | (with_reducible refine Below.trans ?_ (Below.mono (by assumption) ?_)) | first | omega | (simp only [World.size_alloc, World.size_setCell, World.size_drew, size_drewN]; omega) | (simp; done) | (simp; omega) | (simp only [World.size_alloc, World.size_setCell, World.size_drew, size_drewN] at *; omega) | (simp at *; omega))⟩
  · go_enter Try.func23, Try.ntmps23
    go_wp2_with (first | (go_at_call 29; refine (hyperValid_any _ _).mono ?_; rintro e w' ⟨rfl, rfl⟩) | (go_at_call 20; refine (iTri_any _ _ _ _).mono ?_; rintro e w' ⟨rfl, rfl⟩))
    go_ret
    exact ⟨by first | rfl | simp, by (repeat' first | (with_reducible exact Below.refl _ _) | (with_reducible assumption) | (with_reducible refine below_drewN ?_ _) | (with_reducible refine Below.drew ?_) | (with_reducible refine Below.alloc ?_ ?_ _) | (with_reducible refine Below.setCell ?_ ?_ _) | (with_reducible refine Below.trans ?_ (Below.mono (by assumption) ?_)) | first | omega | (simp only [World.size_alloc, World.size_setCell, World.size_drew, size_drewN]; omega) | (simp; done) | (simp; omega) | (simp only [World.size_alloc, World.size_setCell, World.size_drew, size_drewN] at *; omega) | (simp at *; omega))⟩
set_option maxHeartbeats 400000 in
theorem l17Ok_any (f j i : Int) (w : World) :
    Calls Try.prog 21 #[.int .i64 f, .int .i64 j, .int .i64 i] w fun e w' => e = .returned (.bool (hyB f j i)) ∧ w = w' := by
  unfold hyB
  cases h1 : inB j 0 12
  · go_enter Try.func21, Try.ntmps21
    go_wp2_with (first | (go_at_call 26; refine (l6In_any _ _ _ _).mono ?_; rintro e w' ⟨rfl, rfl⟩) | (go_at_call 17; refine (sTri_any _ _ _ _).mono ?_; rintro e w' ⟨rfl, rfl⟩))
    go_ret
    exact ⟨by first | rfl | simp, rfl⟩
  cases h2 : inB i 0 12
  · go_enter Try.func21, Try.ntmps21
    go_wp2_with (first | (go_at_call 26; refine (l6In_any _ _ _ _).mono ?_; rintro e w' ⟨rfl, rfl⟩) | (go_at_call 17; refine (sTri_any _ _ _ _).mono ?_; rintro e w' ⟨rfl, rfl⟩))
    go_ret
    exact ⟨by first | rfl | simp, rfl⟩
  · go_enter Try.func21, Try.ntmps21
    go_wp2_with (first | (go_at_call 26; refine (l6In_any _ _ _ _).mono ?_; rintro e w' ⟨rfl, rfl⟩) | (go_at_call 17; refine (sTri_any _ _ _ _).mono ?_; rintro e w' ⟨rfl, rfl⟩))
    go_ret
    exact ⟨by first | rfl | simp, rfl⟩
set_option maxHeartbeats 400000 in
theorem hshift_any (f j i : Int) (w : World) (f0 : 0 ≤ f) (f1 : f ≤ 24) (j0 : 0 ≤ j) (j1 : j ≤ 24) (i0 : 0 ≤ i) (i1 : i ≤ 24) :
    Calls Try.prog 24 #[.agg #[.int .i64 f, .int .i64 j, .int .i64 i]] w fun e w' => e = .returned (.int .i64 (f * (f + 2) - j * (j + 2) - i * (i + 2))) ∧ Below w.heap.size w w' := by
  have m1 := sq_bd f f0 (by omega)
  have m2 := sq_bd j j0 (by omega)
  have m3 := sq_bd i i0 (by omega)
  go_enter Try.func24, Try.ntmps24
  go_wp2
  go_ret
  exact ⟨rfl, by (repeat' first | (with_reducible exact Below.refl _ _) | (with_reducible assumption) | (with_reducible refine below_drewN ?_ _) | (with_reducible refine Below.drew ?_) | (with_reducible refine Below.alloc ?_ ?_ _) | (with_reducible refine Below.setCell ?_ ?_ _) | (with_reducible refine Below.trans ?_ (Below.mono (by assumption) ?_)) | first | omega | (simp only [World.size_alloc, World.size_setCell, World.size_drew, size_drewN]; omega) | (simp; done) | (simp; omega) | (simp only [World.size_alloc, World.size_setCell, World.size_drew, size_drewN] at *; omega) | (simp at *; omega))⟩
set_option maxHeartbeats 400000 in
theorem iHyper_any (f j i : Int) (w : World) :
    Calls Try.prog 11 #[.int .i64 f, .int .i64 j, .int .i64 i] w fun e w' => e = .returned (.int .i64 (hyI f j i)) ∧ Below w.heap.size w w' := by
  cases h1 : hyB f j i
  · rw [show hyI f j i = 0 by simp [hyI, h1]]
    go_enter Try.func11, Try.ntmps11
    go_wp2_with (go_at_call 23; refine (hvalid_any _ _ _ _).mono ?_; rintro e w1 ⟨rfl, hb1⟩; obtain ⟨hc1, hf1⟩ := bcell hb1; have hz1 := hb1.size; (try simp only [World.size_alloc, World.size_setCell, World.size_drew, size_drewN] at hz1 hc1 hf1))
    go_ret
    exact ⟨rfl, by (repeat' first | (with_reducible exact Below.refl _ _) | (with_reducible assumption) | (with_reducible refine below_drewN ?_ _) | (with_reducible refine Below.drew ?_) | (with_reducible refine Below.alloc ?_ ?_ _) | (with_reducible refine Below.setCell ?_ ?_ _) | (with_reducible refine Below.trans ?_ (Below.mono (by assumption) ?_)) | first | omega | (simp only [World.size_alloc, World.size_setCell, World.size_drew, size_drewN]; omega) | (simp; done) | (simp; omega) | (simp only [World.size_alloc, World.size_setCell, World.size_drew, size_drewN] at *; omega) | (simp at *; omega))⟩
  · rw [show hyI f j i = f * (f + 2) - j * (j + 2) - i * (i + 2) by simp [hyI, h1]]
    obtain ⟨f0, f1, j0, j1, i0, i1⟩ := hyB_bd h1
    go_enter Try.func11, Try.ntmps11
    go_wp2_with (first | (go_at_call 23; refine (hvalid_any _ _ _ _).mono ?_; rintro e w1 ⟨rfl, hb1⟩; obtain ⟨hc1, hf1⟩ := bcell hb1; have hz1 := hb1.size; (try simp only [World.size_alloc, World.size_setCell, World.size_drew, size_drewN] at hz1 hc1 hf1)) | (go_at_call 24; refine (hshift_any _ _ _ _ (by omega) (by omega) (by omega) (by omega) (by omega) (by omega)).mono ?_; rintro e w2 ⟨rfl, hb2⟩; obtain ⟨hc2, hf2⟩ := bcell hb2; have hz2 := hb2.size; (try simp only [World.size_alloc, World.size_setCell, World.size_drew, size_drewN] at hz2 hc2 hf2)))
    go_ret
    exact ⟨rfl, by (repeat' first | (with_reducible exact Below.refl _ _) | (with_reducible assumption) | (with_reducible refine below_drewN ?_ _) | (with_reducible refine Below.drew ?_) | (with_reducible refine Below.alloc ?_ ?_ _) | (with_reducible refine Below.setCell ?_ ?_ _) | (with_reducible refine Below.trans ?_ (Below.mono (by assumption) ?_)) | first | omega | (simp only [World.size_alloc, World.size_setCell, World.size_drew, size_drewN]; omega) | (simp; done) | (simp; omega) | (simp only [World.size_alloc, World.size_setCell, World.size_drew, size_drewN] at *; omega) | (simp at *; omega))⟩
set_option maxHeartbeats 400000 in
theorem sHyper_any (f j i : Int) (w : World) :
    Calls Try.prog 10 #[.int .i64 f, .int .i64 j, .int .i64 i] w fun e w' => e = .returned (.int .i64 (hyI f j i)) ∧ w = w' := by
  cases h1 : hyB f j i
  · rw [show hyI f j i = 0 by simp [hyI, h1]]
    go_enter Try.func10, Try.ntmps10
    go_wp2_with (go_at_call 21; refine (l17Ok_any _ _ _ _).mono ?_; rintro e w' ⟨rfl, rfl⟩)
    go_ret
    exact ⟨rfl, rfl⟩
  · rw [show hyI f j i = f * (f + 2) - j * (j + 2) - i * (i + 2) by simp [hyI, h1]]
    obtain ⟨f0, f1, j0, j1, i0, i1⟩ := hyB_bd h1
    have m1 := sq_bd f f0 (by omega)
    have m2 := sq_bd j j0 (by omega)
    have m3 := sq_bd i i0 (by omega)
    go_enter Try.func10, Try.ntmps10
    go_wp2_with (first | (go_at_call 21; refine (l17Ok_any _ _ _ _).mono ?_; rintro e w' ⟨rfl, rfl⟩) | (go_at_call 22; refine (l15Square_any _ _ (by omega) (by omega)).mono ?_; rintro e w' ⟨rfl, rfl⟩))
    go_ret
    exact ⟨rfl, rfl⟩
end Go.Proofs.Ytecbkneblcglaaa
