/-
  The walks of the laws on factors: FnFactorMomentRises. Conditions: where the two package-level errors lie.
-/
import Derived.Test.YtdghihinednenaaDoorMomb
import Derived.Test.YtdghihinednenaaDoorDrawF
import Derived.Test.YtdghihinednenaaDoorMomQ
import Derived.Deep.QuietTactic
import Derived.BigQuiet
namespace Go.Proofs.YtdghihinednenaaDoor
set_option linter.unusedSimpArgs false
set_option linter.unusedVariables false
open Go.RowKit

set_option maxRecDepth 20000 in
set_option maxHeartbeats 2000000 in
theorem walk_FnFactorMomentRises (a : Option Addr) (len cap : Nat) (w : World) (aR aL : Addr) (hE : ErrW aR aL w) (hb : BytesAt w a len cap) :
    Calls Tryd.prog 10 #[.slice a len cap] w fun e w' => e = .returned (.bool true) ∧ Below w.heap.size w w' := by
  by_cases hlen : 1048576 < len
  · clear hb
    go_enter Tryd.func10, Tryd.ntmps10
    go_wp2
    go_ret
    exact ⟨rfl, Below.refl _ _⟩
  · have hlen' : len ≤ 1048576 := by omega
    clear hlen
    have HB := Lib.hid hb
    clear hb
    go_enter Tryd.func10, Tryd.ntmps10
    go_wp2_with fail
    refine (dFactorMoment_any a len cap _ HB.out).mono ?_
    rintro e w1 ⟨s, l, j, rfl, hs0, hs1, hl0, hl1, hj0, hj1, hb1⟩
    have hz1 := hb1.size
    go_wp2_with fail
    refine (iMoment_any _ _ _ aR aL _ (hE.below (by (repeat' first | (with_reducible exact Below.refl _ _) | (with_reducible assumption) | (with_reducible refine below_drewN ?_ _) | (with_reducible refine Below.drew ?_) | (with_reducible refine Below.alloc ?_ ?_ _) | (with_reducible refine Below.setCell ?_ ?_ _) | (with_reducible refine Below.trans ?_ (Below.mono (by assumption) ?_)) | first | omega | (simp only [World.size_alloc, World.size_setCell, World.size_drew, size_drewN]; omega) | (simp; done) | (simp; omega) | (simp only [World.size_alloc, World.size_setCell, World.size_drew, size_drewN] at *; omega) | (simp at *; omega))) (Nat.le_refl _))).mono ?_
    rintro e w2 ⟨rfl, hb2⟩
    obtain ⟨hc2, hf2⟩ := bcell hb2; have hz2 := hb2.size; (try simp only [World.size_alloc, World.size_setCell, World.size_drew, size_drewN] at hz2 hc2 hf2); (have g2a : w1.heap.size < w2.heap.size := by omega)
    go_wp2_with fail
    refine (sMoment_any _ _ _ _).mono ?_
    rintro e w3 ⟨rfl, hb3⟩
    obtain ⟨hc3, hf3⟩ := bcell hb3; have hz3 := hb3.size; (try simp only [World.size_alloc, World.size_setCell, World.size_drew, size_drewN] at hz3 hc3 hf3); (have g3a : w1.heap.size < w3.heap.size := by omega)
    have gx3 : w2.heap.size < w3.heap.size := by omega
    (have k0 : w3.cell? ⟨w1.heap.size, 0, none⟩ = some (.int .i64 s) := by (simp (disch := first | omega | (simp; done) | (simp; omega)) [go_sem, *]; done)); (have k1 : w3.cell? ⟨w1.heap.size, 1, none⟩ = some (.int .i64 l) := by (simp (disch := first | omega | (simp; done) | (simp; omega)) [go_sem, *]; done)); (have k2 : w3.cell? ⟨w1.heap.size, 2, none⟩ = some (.int .i64 j) := by (simp (disch := first | omega | (simp; done) | (simp; omega)) [go_sem, *]; done))
    (have m0 : w3.cell? ⟨w2.heap.size, 0, none⟩ = some (.int .i64 (momF s l j).1) := by (simp (disch := first | omega | (simp; done) | (simp; omega)) [go_sem, *]; done)); (have m1 : w3.cell? ⟨w2.heap.size, 1, none⟩ = some (.int .i64 (momF s l j).2.1) := by (simp (disch := first | omega | (simp; done) | (simp; omega)) [go_sem, *]; done))
    have hB : Below w.heap.size w w3 := by (repeat' first | (with_reducible exact Below.refl _ _) | (with_reducible assumption) | (with_reducible refine below_drewN ?_ _) | (with_reducible refine Below.drew ?_) | (with_reducible refine Below.alloc ?_ ?_ _) | (with_reducible refine Below.setCell ?_ ?_ _) | (with_reducible refine Below.trans ?_ (Below.mono (by assumption) ?_)) | first | omega | (simp only [World.size_alloc, World.size_setCell, World.size_drew, size_drewN]; omega) | (simp; done) | (simp; omega) | (simp only [World.size_alloc, World.size_setCell, World.size_drew, size_drewN] at *; omega) | (simp at *; omega))
    have hE3 : ErrW aR aL w3 := hE.below hB (Nat.le_refl _)
    clear hc2 hf2 hc3 hf3 hb1 hb2 hb3 hE HB
    cases hk : (momF s l j).2.2
    · go_wp2
      go_ret
      exact ⟨rfl, by (repeat' first | (with_reducible exact Below.refl _ _) | (with_reducible assumption) | (with_reducible refine below_drewN ?_ _) | (with_reducible refine Below.drew ?_) | (with_reducible refine Below.alloc ?_ ?_ _) | (with_reducible refine Below.setCell ?_ ?_ _) | (with_reducible refine Below.trans ?_ (Below.mono (by assumption) ?_)) | first | omega | (simp only [World.size_alloc, World.size_setCell, World.size_drew, size_drewN]; omega) | (simp; done) | (simp; omega) | (simp only [World.size_alloc, World.size_setCell, World.size_drew, size_drewN] at *; omega) | (simp at *; omega))⟩
    · have hv := momF_true hk
      have bd := lvB_bd hv
      have rv := (momF_V hv).1
      have q1 : IntKind.i64.wrap (j - 2) = j - 2 := IntWalk.i64_in _ (by omega)
      have q2 : IntKind.i64.wrap (6 * j) = 6 * j := IntWalk.i64_in _ (by omega)
      go_wp2_with fail
      refine (iMoment_any s l (j - 2) aR aL _ (hE3.below (by (repeat' first | (with_reducible exact Below.refl _ _) | (with_reducible assumption) | (with_reducible refine below_drewN ?_ _) | (with_reducible refine Below.drew ?_) | (with_reducible refine Below.alloc ?_ ?_ _) | (with_reducible refine Below.setCell ?_ ?_ _) | (with_reducible refine Below.trans ?_ (Below.mono (by assumption) ?_)) | first | omega | (simp only [World.size_alloc, World.size_setCell, World.size_drew, size_drewN]; omega) | (simp; done) | (simp; omega) | (simp only [World.size_alloc, World.size_setCell, World.size_drew, size_drewN] at *; omega) | (simp at *; omega))) (Nat.le_refl _))).mono ?_
      rintro e w4 ⟨rfl, hb4⟩
      obtain ⟨hc4, hf4⟩ := bcell hb4; have hz4 := hb4.size; (try simp only [World.size_alloc, World.size_setCell, World.size_drew, size_drewN] at hz4 hc4 hf4); (have g4a : w1.heap.size < w4.heap.size := by omega)
      have gx4 : w2.heap.size < w4.heap.size := by omega
      have h2x : True := trivial
      cases h2 : (momF s l (j - 2)).2.2
      · rw [momF_none h2]
        go_wp2_with fail
        refine (ratSub_bad _ _ _ rv).mono ?_
        rintro e w6 ⟨rfl, hb6⟩
        obtain ⟨hc6, hf6⟩ := bcell hb6; have hz6 := hb6.size; (try simp only [World.size_alloc, World.size_setCell, World.size_drew, size_drewN] at hz6 hc6 hf6); (have g6a : w1.heap.size < w6.heap.size := by omega)
        have gx6 : w2.heap.size < w6.heap.size := by omega
        have gy6 : w4.heap.size < w6.heap.size := by omega
        go_wp2_with fail
        go_quiet (fail)
        all_goals go_wp2
        all_goals go_ret
        all_goals exact ⟨rfl, by (repeat' first | (with_reducible exact Below.refl _ _) | (with_reducible assumption) | (with_reducible refine below_drewN ?_ _) | (with_reducible refine Below.drew ?_) | (with_reducible refine Below.alloc ?_ ?_ _) | (with_reducible refine Below.setCell ?_ ?_ _) | (with_reducible refine Below.trans ?_ (Below.mono (by assumption) ?_)) | first | omega | (simp only [World.size_alloc, World.size_setCell, World.size_drew, size_drewN]; omega) | (simp; done) | (simp; omega) | (simp only [World.size_alloc, World.size_setCell, World.size_drew, size_drewN] at *; omega) | (simp at *; omega))⟩
      · have e1 := mom_rise hk h2
        have rv2 := (momF_V (momF_true h2)).1
        go_wp2_with fail
        refine (ratSub_any _ _ _ _ _ rv rv2).mono ?_
        rintro e w6 ⟨rfl, hb6⟩
        obtain ⟨hc6, hf6⟩ := bcell hb6; have hz6 := hb6.size; (try simp only [World.size_alloc, World.size_setCell, World.size_drew, size_drewN] at hz6 hc6 hf6); (have g6a : w1.heap.size < w6.heap.size := by omega)
        have gx6 : w2.heap.size < w6.heap.size := by omega
        have gy6 : w4.heap.size < w6.heap.size := by omega
        rw [e1]
        go_wp2_with fail
        go_region_with (go_at_call 21; refine (whole_any _ _).mono ?_; rintro e w5 ⟨rfl, hb5⟩; obtain ⟨hc5, hf5⟩ := bcell hb5; have hz5 := hb5.size; (try simp only [World.size_alloc, World.size_setCell, World.size_drew, size_drewN] at hz5 hc5 hf5); (have g5a : w1.heap.size < w5.heap.size := by omega); (have gx5 : w2.heap.size < w5.heap.size := by omega); (have gy5 : w6.heap.size < w5.heap.size := by omega))
        all_goals go_wp2
        all_goals go_ret
        all_goals exact ⟨rfl, by (repeat' first | (with_reducible exact Below.refl _ _) | (with_reducible assumption) | (with_reducible refine below_drewN ?_ _) | (with_reducible refine Below.drew ?_) | (with_reducible refine Below.alloc ?_ ?_ _) | (with_reducible refine Below.setCell ?_ ?_ _) | (with_reducible refine Below.trans ?_ (Below.mono (by assumption) ?_)) | first | omega | (simp only [World.size_alloc, World.size_setCell, World.size_drew, size_drewN]; omega) | (simp; done) | (simp; omega) | (simp only [World.size_alloc, World.size_setCell, World.size_drew, size_drewN] at *; omega) | (simp at *; omega))⟩
end Go.Proofs.YtdghihinednenaaDoor
