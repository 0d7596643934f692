/-
  The walks of the laws on factors: FnFactorMoment. Conditions: where the two package-level errors lie.
-/
import Derived.Test.YtdghihinednenaaDoorMomb
import Derived.Test.YtdghihinednenaaDoorDrawF
import Derived.Test.YtdghihinednenaaDoorMomQ
import Derived.Deep.QuietTactic
import Derived.BigQuiet
import Derived.Deep.RegionHeld3
namespace Go.Proofs.YtdghihinednenaaDoor
set_option linter.unusedSimpArgs false
set_option linter.unusedVariables false
open Go.RowKit

set_option maxRecDepth 20000 in
set_option maxHeartbeats 2000000 in
theorem walk_FnFactorMoment (a : Option Addr) (len cap : Nat) (w : World) (aR aL : Addr) (hE : ErrW aR aL w) (hb : BytesAt w a len cap) :
    Calls Tryd.prog 9 #[.slice a len cap] w fun e w' => e = .returned (.bool true) ∧ Below w.heap.size w w' := by
  by_cases hlen : 1048576 < len
  · clear hb
    go_enter Tryd.func9, Tryd.ntmps9
    go_wp2
    go_ret
    exact ⟨rfl, Below.refl _ _⟩
  · have hlen' : len ≤ 1048576 := by omega
    clear hlen
    have HB := Lib.hid hb
    clear hb
    go_enter Tryd.func9, Tryd.ntmps9
    go_wp2_with fail
    refine (dFactorMoment_any a len cap _ HB.out).mono ?_
    rintro e w1 ⟨s, l, j, rfl, hs0, hs1, hl0, hl1, hj0, hj1, hb1⟩
    have hz1 := hb1.size
    go_wp2_with fail
    refine (iMoment_any _ _ _ aR aL _ (hE.below (by (repeat' first | (with_reducible exact Below.refl _ _) | (with_reducible assumption) | (with_reducible refine below_drewN ?_ _) | (with_reducible refine Below.drew ?_) | (with_reducible refine Below.alloc ?_ ?_ _) | (with_reducible refine Below.setCell ?_ ?_ _) | (with_reducible refine Below.trans ?_ (Below.mono (by assumption) ?_)) | first | omega | (simp only [World.size_alloc, World.size_setCell, World.size_drew, size_drewN]; omega) | (simp; done) | (simp; omega) | (simp only [World.size_alloc, World.size_setCell, World.size_drew, size_drewN] at *; omega) | (simp at *; omega))) (Nat.le_refl _))).mono ?_
    rintro e w2 ⟨rfl, hb2⟩
    obtain ⟨hc2, hf2⟩ := bcell hb2; have hz2 := hb2.size; (try simp only [World.size_alloc, World.size_setCell, World.size_drew, size_drewN] at hz2 hc2 hf2); (have g2a : w1.heap.size < w2.heap.size := by omega)
    go_wp2_with fail
    refine (sMoment_any _ _ _ _).mono ?_
    rintro e w3 ⟨rfl, hb3⟩
    obtain ⟨hc3, hf3⟩ := bcell hb3; have hz3 := hb3.size; (try simp only [World.size_alloc, World.size_setCell, World.size_drew, size_drewN] at hz3 hc3 hf3); (have g3a : w1.heap.size < w3.heap.size := by omega)
    have gx3 : w2.heap.size < w3.heap.size := by omega
    (have k0 : w3.cell? ⟨w1.heap.size, 0, none⟩ = some (.int .i64 s) := by (simp (disch := first | omega | (simp; done) | (simp; omega)) [go_sem, *]; done)); (have k1 : w3.cell? ⟨w1.heap.size, 1, none⟩ = some (.int .i64 l) := by (simp (disch := first | omega | (simp; done) | (simp; omega)) [go_sem, *]; done)); (have k2 : w3.cell? ⟨w1.heap.size, 2, none⟩ = some (.int .i64 j) := by (simp (disch := first | omega | (simp; done) | (simp; omega)) [go_sem, *]; done))
    (have m0 : w3.cell? ⟨w2.heap.size, 0, none⟩ = some (.int .i64 (momF s l j).1) := by (simp (disch := first | omega | (simp; done) | (simp; omega)) [go_sem, *]; done)); (have m1 : w3.cell? ⟨w2.heap.size, 1, none⟩ = some (.int .i64 (momF s l j).2.1) := by (simp (disch := first | omega | (simp; done) | (simp; omega)) [go_sem, *]; done))
    have hB : Below w.heap.size w w3 := by (repeat' first | (with_reducible exact Below.refl _ _) | (with_reducible assumption) | (with_reducible refine below_drewN ?_ _) | (with_reducible refine Below.drew ?_) | (with_reducible refine Below.alloc ?_ ?_ _) | (with_reducible refine Below.setCell ?_ ?_ _) | (with_reducible refine Below.trans ?_ (Below.mono (by assumption) ?_)) | first | omega | (simp only [World.size_alloc, World.size_setCell, World.size_drew, size_drewN]; omega) | (simp; done) | (simp; omega) | (simp only [World.size_alloc, World.size_setCell, World.size_drew, size_drewN] at *; omega) | (simp at *; omega))
    have hE3 : ErrW aR aL w3 := hE.below hB (Nat.le_refl _)
    clear hc2 hf2 hc3 hf3 hb1 hb2 hb3 hE HB
    cases hk : (momF s l j).2.2
    · go_wp2
      go_ret
      exact ⟨rfl, by (repeat' first | (with_reducible exact Below.refl _ _) | (with_reducible assumption) | (with_reducible refine below_drewN ?_ _) | (with_reducible refine Below.drew ?_) | (with_reducible refine Below.alloc ?_ ?_ _) | (with_reducible refine Below.setCell ?_ ?_ _) | (with_reducible refine Below.trans ?_ (Below.mono (by assumption) ?_)) | first | omega | (simp only [World.size_alloc, World.size_setCell, World.size_drew, size_drewN]; omega) | (simp; done) | (simp; omega) | (simp only [World.size_alloc, World.size_setCell, World.size_drew, size_drewN] at *; omega) | (simp at *; omega))⟩
    · have hv := momF_true hk
      have bd := lvB_bd hv
      by_cases hj : j = 0
      · subst hj
        have e0 := momF_zero hv
        go_wp2_with fail
        go_region_with (go_at_call 21; refine (whole_any _ _).mono ?_; rintro e w5 ⟨rfl, hb5⟩; obtain ⟨hc5, hf5⟩ := bcell hb5; have hz5 := hb5.size; (try simp only [World.size_alloc, World.size_setCell, World.size_drew, size_drewN] at hz5 hc5 hf5); (have g5a : w1.heap.size < w5.heap.size := by omega); (have gx5 : w2.heap.size < w5.heap.size := by omega))
        all_goals go_wp2
        all_goals go_ret
        all_goals exact ⟨rfl, by (repeat' first | (with_reducible exact Below.refl _ _) | (with_reducible assumption) | (with_reducible refine below_drewN ?_ _) | (with_reducible refine Below.drew ?_) | (with_reducible refine Below.alloc ?_ ?_ _) | (with_reducible refine Below.setCell ?_ ?_ _) | (with_reducible refine Below.trans ?_ (Below.mono (by assumption) ?_)) | first | omega | (simp only [World.size_alloc, World.size_setCell, World.size_drew, size_drewN]; omega) | (simp; done) | (simp; omega) | (simp only [World.size_alloc, World.size_setCell, World.size_drew, size_drewN] at *; omega) | (simp at *; omega))⟩
      · have hj' : (j == 0) = false := by rw [beq_eq_false_iff_ne]; exact hj
        have hp : 0 < j := by omega
        have bj := sq_pos hp (by omega)
        have q1 : IntKind.i64.wrap (j + 2) = j + 2 := IntWalk.i64_in _ (by omega)
        have q2 : IntKind.i64.wrap (j * (j + 2)) = j * (j + 2) := IntWalk.i64_in _ (by omega)
        have hf := fac_at hk hp
        have v1 := facF_V hf
        have v2 : ratV (j * (j + 2)) 1 = true := ratV_int _ (by omega) (by omega)
        have e1 := mom_of_fac hk hp
        go_wp2_with fail
        refine (iFactorOf_any _ _ _ aR aL _ (hE3.below (by (repeat' first | (with_reducible exact Below.refl _ _) | (with_reducible assumption) | (with_reducible refine below_drewN ?_ _) | (with_reducible refine Below.drew ?_) | (with_reducible refine Below.alloc ?_ ?_ _) | (with_reducible refine Below.setCell ?_ ?_ _) | (with_reducible refine Below.trans ?_ (Below.mono (by assumption) ?_)) | first | omega | (simp only [World.size_alloc, World.size_setCell, World.size_drew, size_drewN]; omega) | (simp; done) | (simp; omega) | (simp only [World.size_alloc, World.size_setCell, World.size_drew, size_drewN] at *; omega) | (simp at *; omega))) (Nat.le_refl _))).mono ?_
        rintro e w4 ⟨rfl, hb4⟩
        rw [hf]
        obtain ⟨hc4, hf4⟩ := bcell hb4; have hz4 := hb4.size; (try simp only [World.size_alloc, World.size_setCell, World.size_drew, size_drewN] at hz4 hc4 hf4); (have g4a : w1.heap.size < w4.heap.size := by omega)
        have gx4 : w2.heap.size < w4.heap.size := by omega
        (have u0 : w4.cell? ⟨w1.heap.size, 0, none⟩ = some (.int .i64 s) := by (simp (disch := first | omega | (simp; done) | (simp; omega)) [go_sem, *]; done)); (have u1 : w4.cell? ⟨w1.heap.size, 1, none⟩ = some (.int .i64 l) := by (simp (disch := first | omega | (simp; done) | (simp; omega)) [go_sem, *]; done)); (have u2 : w4.cell? ⟨w1.heap.size, 2, none⟩ = some (.int .i64 j) := by (simp (disch := first | omega | (simp; done) | (simp; omega)) [go_sem, *]; done))
        (have cc0 : w4.cell? ⟨w2.heap.size, 0, none⟩ = some (.int .i64 (momF s l j).1) := by (simp (disch := first | omega | (simp; done) | (simp; omega)) [go_sem, *]; done)); (have cc1 : w4.cell? ⟨w2.heap.size, 1, none⟩ = some (.int .i64 (momF s l j).2.1) := by (simp (disch := first | omega | (simp; done) | (simp; omega)) [go_sem, *]; done))
        have hB4 : Below w.heap.size w w4 := by (repeat' first | (with_reducible exact Below.refl _ _) | (with_reducible assumption) | (with_reducible refine below_drewN ?_ _) | (with_reducible refine Below.drew ?_) | (with_reducible refine Below.alloc ?_ ?_ _) | (with_reducible refine Below.setCell ?_ ?_ _) | (with_reducible refine Below.trans ?_ (Below.mono (by assumption) ?_)) | first | omega | (simp only [World.size_alloc, World.size_setCell, World.size_drew, size_drewN]; omega) | (simp; done) | (simp; omega) | (simp only [World.size_alloc, World.size_setCell, World.size_drew, size_drewN] at *; omega) | (simp at *; omega))
        clear u0 u1 hc4 hf4 k0 k1 k2 m0 m1 hb4 hB hs0 hs1 hl0 hl1 hj0 hj1 hE3 hk hf hv bd bj hj hp
        go_wp2_with fail
        obtain ⟨W, hW⟩ : ∃ W, W = w4.alloc (.cells #[.int .i64 (facF s l j).1, .int .i64 (facF s l j).2.1] 27) := ⟨_, rfl⟩
        have f0 : W.cell? ⟨w4.heap.size, 0, none⟩ = some (.int .i64 (facF s l j).1) := by subst hW; (simp (disch := first | omega | (simp; done) | (simp; omega)) [go_sem, *]; done)
        have f1 : W.cell? ⟨w4.heap.size, 1, none⟩ = some (.int .i64 (facF s l j).2.1) := by subst hW; (simp (disch := first | omega | (simp; done) | (simp; omega)) [go_sem, *]; done)
        have f2 : W.cell? ⟨w1.heap.size, 2, none⟩ = some (.int .i64 j) := by subst hW; (simp (disch := first | omega | (simp; done) | (simp; omega)) [go_sem, *]; done)
        have d0 : W.cell? ⟨w2.heap.size, 0, none⟩ = some (.int .i64 (momF s l j).1) := by subst hW; (simp (disch := first | omega | (simp; done) | (simp; omega)) [go_sem, *]; done)
        have d1 : W.cell? ⟨w2.heap.size, 1, none⟩ = some (.int .i64 (momF s l j).2.1) := by subst hW; (simp (disch := first | omega | (simp; done) | (simp; omega)) [go_sem, *]; done)
        have hBW : Below w.heap.size w W := by subst hW; (repeat' first | (with_reducible exact Below.refl _ _) | (with_reducible assumption) | (with_reducible refine below_drewN ?_ _) | (with_reducible refine Below.drew ?_) | (with_reducible refine Below.alloc ?_ ?_ _) | (with_reducible refine Below.setCell ?_ ?_ _) | (with_reducible refine Below.trans ?_ (Below.mono (by assumption) ?_)) | first | omega | (simp only [World.size_alloc, World.size_setCell, World.size_drew, size_drewN]; omega) | (simp; done) | (simp; omega) | (simp only [World.size_alloc, World.size_setCell, World.size_drew, size_drewN] at *; omega) | (simp at *; omega))
        have hzW : w4.heap.size + 1 ≤ W.heap.size := by subst hW; simp
        have gW : w2.heap.size < W.heap.size := by omega
        rw [← hW]
        clear hW hB4 u2 cc0 cc1
        have e2 := World.new_ne W _ f0
        have e3 := World.new_ne W _ f1
        have e4 := World.new_ne W _ f2
        have e5 : ¬ w2.heap.size = W.heap.size := by omega
        go_region_held3 (fun w' => w'.cell? ⟨w4.heap.size, 0, none⟩ = some (.int .i64 (facF s l j).1) ∧ w'.cell? ⟨w4.heap.size, 1, none⟩ = some (.int .i64 (facF s l j).2.1) ∧ w'.cell? ⟨w1.heap.size, 2, none⟩ = some (.int .i64 j) ∧ W.heap.size ≤ w'.heap.size ∧ Below W.heap.size W w')
          (first | (simp (disch := first | omega | (simp; done) | (simp; omega)) [go_sem, *]; done) | ((repeat' first | (with_reducible exact Below.refl _ _) | (with_reducible assumption) | (with_reducible refine below_drewN ?_ _) | (with_reducible refine Below.drew ?_) | (with_reducible refine Below.alloc ?_ ?_ _) | (with_reducible refine Below.setCell ?_ ?_ _) | (with_reducible refine Below.trans ?_ (Below.mono (by assumption) ?_)) | first | omega | (simp only [World.size_alloc, World.size_setCell, World.size_drew, size_drewN]; omega) | (simp; done) | (simp; omega) | (simp only [World.size_alloc, World.size_setCell, World.size_drew, size_drewN] at *; omega) | (simp at *; omega)); done) | ((try go_split_ands); (refine ⟨?_, ?_, ?_, ?_, ?_⟩ <;> first | (first | omega | (simp only [World.size_alloc, World.size_setCell, World.size_drew, size_drewN]; omega) | (simp (disch := first | omega | (simp; done) | (simp; omega)) [go_sem, *]; done) | ((repeat' first | (with_reducible exact Below.refl _ _) | (with_reducible assumption) | (with_reducible refine below_drewN ?_ _) | (with_reducible refine Below.drew ?_) | (with_reducible refine Below.alloc ?_ ?_ _) | (with_reducible refine Below.setCell ?_ ?_ _) | (with_reducible refine Below.trans ?_ (Below.mono (by assumption) ?_)) | first | omega | (simp only [World.size_alloc, World.size_setCell, World.size_drew, size_drewN]; omega) | (simp; done) | (simp; omega) | (simp only [World.size_alloc, World.size_setCell, World.size_drew, size_drewN] at *; omega) | (simp at *; omega)); done)) | (go_keep; done))))
          (first | (go_at_call 21; refine (whole_any _ _).mono ?_; rintro e w5 ⟨rfl, hb5⟩; obtain ⟨hc5, hf5⟩ := bcell hb5; have hz5 := hb5.size; (try simp only [World.size_alloc, World.size_setCell, World.size_drew, size_drewN] at hz5 hc5 hf5); (have gx5 : w2.heap.size < w5.heap.size := by omega); (have gz5 : ¬ w2.heap.size = w5.heap.size := by omega); (first | (have gg := Nat.lt_of_succ_le hz5) | skip)) | (go_at_call 26; refine (ratMul_any _ _ _ _ _ v1 v2).mono ?_; rintro e w6 ⟨rfl, hb6⟩; obtain ⟨hc6, hf6⟩ := bcell hb6; have hz6 := hb6.size; (try simp only [World.size_alloc, World.size_setCell, World.size_drew, size_drewN] at hz6 hc6 hf6); (have gx6 : w2.heap.size < w6.heap.size := by omega); (have gz6 : ¬ w2.heap.size = w6.heap.size := by omega); (first | (have gg6 := Nat.lt_of_succ_le hz6) | (have gg6 := Nat.lt_of_lt_of_le gg hz6) | skip); rw [e1]))
        all_goals go_wp2
        all_goals go_ret
        all_goals exact ⟨rfl, by (repeat' first | (with_reducible exact Below.refl _ _) | (with_reducible assumption) | (with_reducible refine below_drewN ?_ _) | (with_reducible refine Below.drew ?_) | (with_reducible refine Below.alloc ?_ ?_ _) | (with_reducible refine Below.setCell ?_ ?_ _) | (with_reducible refine Below.trans ?_ (Below.mono (by assumption) ?_)) | first | omega | (simp only [World.size_alloc, World.size_setCell, World.size_drew, size_drewN]; omega) | (simp; done) | (simp; omega) | (simp only [World.size_alloc, World.size_setCell, World.size_drew, size_drewN] at *; omega) | (simp at *; omega))⟩
end Go.Proofs.YtdghihinednenaaDoor
