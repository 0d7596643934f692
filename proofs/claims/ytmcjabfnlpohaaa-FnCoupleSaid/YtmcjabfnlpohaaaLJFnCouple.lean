/-
  The walk of the law FnCouple. Conditions: none.
-/
import Derived.Test.YtmcjabfnlpohaaaHlp
import Derived.Test.YtmcjabfnlpohaaaDrs
import Derived.Test.YtmcjabfnlpohaaaJoinQ
namespace Go.Proofs.Ytmcjabfnlpohaaa
set_option linter.unusedSimpArgs false
set_option linter.unusedVariables false
open Go.RowKit


set_option maxRecDepth 20000 in
set_option maxHeartbeats 4000000 in
theorem walk_FnCouple (a : Option Addr) (len cap : Nat) (w : World) (hb : BytesAt w a len cap) :
    Calls Try.prog 8 #[.slice a len cap] w fun e w' => e = .returned (.bool true) ∧ Below w.heap.size w w' := by
  by_cases hlen : 1048576 < len
  · clear hb
    go_enter Try.func8, Try.ntmps8
    go_wp2
    go_ret
    exact ⟨rfl, Below.refl _ _⟩
  have hlen' : len ≤ 1048576 := by omega
  clear hlen
  have HB := Lib.hid hb
  clear hb
  have HB0 : Hid (Below w.heap.size w w) := Lib.hid (Below.refl _ _)
  go_enter Try.func8, Try.ntmps8
  go_wp2_with fail
  refine (dCouple_any a len cap _ HB.out).mono ?_
  rintro e w1 ⟨s, t, rfl, hb1⟩
  have hk1 : Below w.heap.size w w1 := by (repeat' first | (with_reducible exact Below.refl _ _) | (with_reducible assumption) | (with_reducible refine below_drewN ?_ _) | (with_reducible refine Below.drew ?_) | (with_reducible refine Below.alloc ?_ ?_ _) | (with_reducible refine Below.setCell ?_ ?_ _) | (with_reducible refine Below.trans ?_ (Below.mono (by assumption) ?_)) | first | omega | (simp only [World.size_alloc, World.size_setCell, World.size_drew, size_drewN]; omega) | (simp; done) | (simp; omega) | (simp only [World.size_alloc, World.size_setCell, World.size_drew, size_drewN] at *; omega) | (simp at *; omega))
  have hz1 := hk1.size
  have HB1 : Hid (Below w.heap.size w w1) := Lib.hid (HB0.out.trans (hk1.mono (by omega)))
  clear hb1 hk1
  go_wp2_with fail
  refine (iCouple_all s t _).mono ?_
  rintro e w2 ⟨v2, rfl, hr2, hb2⟩
  obtain ⟨hc2, hf2⟩ := bcell hb2; have hz2 := hb2.size; (try simp only [World.size_alloc, World.size_setCell, World.size_drew, size_drewN] at hz2 hc2 hf2); (have g2a : w1.heap.size < w2.heap.size := by omega); (have g2b : w1.heap.size + 1 < w2.heap.size := by omega)
  (have x0 : w2.cell? ⟨w1.heap.size, 0, none⟩ = some (.int .i64 s.1) := by (simp (disch := first | omega | (simp; done) | (simp; omega)) [go_sem, *]; done)); (have x1 : w2.cell? ⟨w1.heap.size, 1, none⟩ = some (.int .i64 s.2) := by (simp (disch := first | omega | (simp; done) | (simp; omega)) [go_sem, *]; done))
  (have y0 : w2.cell? ⟨w1.heap.size + 1, 0, none⟩ = some (.int .i64 t.1) := by (simp (disch := first | omega | (simp; done) | (simp; omega)) [go_sem, *]; done)); (have y1 : w2.cell? ⟨w1.heap.size + 1, 1, none⟩ = some (.int .i64 t.2) := by (simp (disch := first | omega | (simp; done) | (simp; omega)) [go_sem, *]; done))
  have hk2 : Below w1.heap.size w1 w2 := by (repeat' first | (with_reducible exact Below.refl _ _) | (with_reducible assumption) | (with_reducible refine below_drewN ?_ _) | (with_reducible refine Below.drew ?_) | (with_reducible refine Below.alloc ?_ ?_ _) | (with_reducible refine Below.setCell ?_ ?_ _) | (with_reducible refine Below.trans ?_ (Below.mono (by assumption) ?_)) | first | omega | (simp only [World.size_alloc, World.size_setCell, World.size_drew, size_drewN]; omega) | (simp; done) | (simp; omega) | (simp only [World.size_alloc, World.size_setCell, World.size_drew, size_drewN] at *; omega) | (simp at *; omega))
  have HB2 : Hid (Below w.heap.size w w2) := Lib.hid (HB1.out.trans (hk2.mono (by omega)))
  have HI2_2 : Hid (RowI w2 v2 (cplP s t)) := Lib.hid hr2.inp
  have x0_2 := x0
  have x1_2 := x1
  have y0_2 := y0
  have y1_2 := y1
  clear hb2 hk2 hc2 hf2 hr2 x0 x1 y0 y1
  go_wp2_with fail
  refine (sCouple_all s t _).mono ?_
  rintro e w3 ⟨v3, rfl, hr3, hb3⟩
  have hk3 : Below w2.heap.size w2 w3 := by (repeat' first | (with_reducible exact Below.refl _ _) | (with_reducible assumption) | (with_reducible refine below_drewN ?_ _) | (with_reducible refine Below.drew ?_) | (with_reducible refine Below.alloc ?_ ?_ _) | (with_reducible refine Below.setCell ?_ ?_ _) | (with_reducible refine Below.trans ?_ (Below.mono (by assumption) ?_)) | first | omega | (simp only [World.size_alloc, World.size_setCell, World.size_drew, size_drewN]; omega) | (simp; done) | (simp; omega) | (simp only [World.size_alloc, World.size_setCell, World.size_drew, size_drewN] at *; omega) | (simp at *; omega))
  have hz3 := hk3.size
  have HB3 : Hid (Below w.heap.size w w3) := Lib.hid (HB2.out.trans (hk3.mono (by omega)))
  have HI2_3 : Hid (RowI w3 v2 (cplP s t)) := Lib.hid (HI2_2.out.below hk3)
  have x0_3 := (hk3.cell (p := ⟨w1.heap.size, 0, none⟩) (by show w1.heap.size < _; omega)).trans x0_2
  have x1_3 := (hk3.cell (p := ⟨w1.heap.size, 1, none⟩) (by show w1.heap.size < _; omega)).trans x1_2
  have y0_3 := (hk3.cell (p := ⟨w1.heap.size + 1, 0, none⟩) (by show w1.heap.size + 1 < _; omega)).trans y0_2
  have y1_3 := (hk3.cell (p := ⟨w1.heap.size + 1, 1, none⟩) (by show w1.heap.size + 1 < _; omega)).trans y1_2
  have HI3_3 : Hid (RowI w3 v3 (cplP s t)) := Lib.hid (hr3.inp)
  clear hb3 hk3 HI2_2 x0_2 x1_2 y0_2 y1_2 hr3
  have hln := cplP_len_le s t
  cases hc : cplB s t
  · clear hc
    go_wp2_with fail
    refine (same_b v2 v3 _ _ (by omega) HI2_3.out HI3_3.out).mono ?_
    rintro e w4 ⟨rfl, hb4⟩
    have hk4 : Below w3.heap.size w3 w4 := by (repeat' first | (with_reducible exact Below.refl _ _) | (with_reducible assumption) | (with_reducible refine below_drewN ?_ _) | (with_reducible refine Below.drew ?_) | (with_reducible refine Below.alloc ?_ ?_ _) | (with_reducible refine Below.setCell ?_ ?_ _) | (with_reducible refine Below.trans ?_ (Below.mono (by assumption) ?_)) | first | omega | (simp only [World.size_alloc, World.size_setCell, World.size_drew, size_drewN]; omega) | (simp; done) | (simp; omega) | (simp only [World.size_alloc, World.size_setCell, World.size_drew, size_drewN] at *; omega) | (simp at *; omega))
    have hz4 := hk4.size
    have HB4 : Hid (Below w.heap.size w w4) := Lib.hid (HB3.out.trans (hk4.mono (by omega)))
    have HI2_4 : Hid (RowI w4 v2 (cplP s t)) := Lib.hid (HI2_3.out.below hk4)
    have HI3_4 : Hid (RowI w4 v3 (cplP s t)) := Lib.hid (HI3_3.out.below hk4)
    have x0_4 := (hk4.cell (p := ⟨w1.heap.size, 0, none⟩) (by show w1.heap.size < _; omega)).trans x0_3
    have x1_4 := (hk4.cell (p := ⟨w1.heap.size, 1, none⟩) (by show w1.heap.size < _; omega)).trans x1_3
    have y0_4 := (hk4.cell (p := ⟨w1.heap.size + 1, 0, none⟩) (by show w1.heap.size + 1 < _; omega)).trans y0_3
    have y1_4 := (hk4.cell (p := ⟨w1.heap.size + 1, 1, none⟩) (by show w1.heap.size + 1 < _; omega)).trans y1_3
    clear hb4 hk4 HI2_3 HI3_3 x0_3 x1_3 y0_3 y1_3
    go_wp2_with fail
    refine (same_b v2 v3 _ _ (by omega) HI2_4.out HI3_4.out).mono ?_
    rintro e w5 ⟨rfl, hb5⟩
    have hk5 : Below w4.heap.size w4 w5 := by (repeat' first | (with_reducible exact Below.refl _ _) | (with_reducible assumption) | (with_reducible refine below_drewN ?_ _) | (with_reducible refine Below.drew ?_) | (with_reducible refine Below.alloc ?_ ?_ _) | (with_reducible refine Below.setCell ?_ ?_ _) | (with_reducible refine Below.trans ?_ (Below.mono (by assumption) ?_)) | first | omega | (simp only [World.size_alloc, World.size_setCell, World.size_drew, size_drewN]; omega) | (simp; done) | (simp; omega) | (simp only [World.size_alloc, World.size_setCell, World.size_drew, size_drewN] at *; omega) | (simp at *; omega))
    have hz5 := hk5.size
    have HB5 : Hid (Below w.heap.size w w5) := Lib.hid (HB4.out.trans (hk5.mono (by omega)))
    have HI2_5 : Hid (RowI w5 v2 (cplP s t)) := Lib.hid (HI2_4.out.below hk5)
    have HI3_5 : Hid (RowI w5 v3 (cplP s t)) := Lib.hid (HI3_4.out.below hk5)
    have x0_5 := (hk5.cell (p := ⟨w1.heap.size, 0, none⟩) (by show w1.heap.size < _; omega)).trans x0_4
    have x1_5 := (hk5.cell (p := ⟨w1.heap.size, 1, none⟩) (by show w1.heap.size < _; omega)).trans x1_4
    have y0_5 := (hk5.cell (p := ⟨w1.heap.size + 1, 0, none⟩) (by show w1.heap.size + 1 < _; omega)).trans y0_4
    have y1_5 := (hk5.cell (p := ⟨w1.heap.size + 1, 1, none⟩) (by show w1.heap.size + 1 < _; omega)).trans y1_4
    clear hb5 hk5 HI2_4 HI3_4 x0_4 x1_4 y0_4 y1_4
    go_wp2
    go_ret
    exact ⟨rfl, HB5.out⟩
  have HC := Lib.hid hc
  clear hc
  go_wp2_with fail
  refine (same_b v2 v3 _ _ (by omega) HI2_3.out HI3_3.out).mono ?_
  rintro e w4 ⟨rfl, hb4⟩
  have hk4 : Below w3.heap.size w3 w4 := by (repeat' first | (with_reducible exact Below.refl _ _) | (with_reducible assumption) | (with_reducible refine below_drewN ?_ _) | (with_reducible refine Below.drew ?_) | (with_reducible refine Below.alloc ?_ ?_ _) | (with_reducible refine Below.setCell ?_ ?_ _) | (with_reducible refine Below.trans ?_ (Below.mono (by assumption) ?_)) | first | omega | (simp only [World.size_alloc, World.size_setCell, World.size_drew, size_drewN]; omega) | (simp; done) | (simp; omega) | (simp only [World.size_alloc, World.size_setCell, World.size_drew, size_drewN] at *; omega) | (simp at *; omega))
  have hz4 := hk4.size
  have HB4 : Hid (Below w.heap.size w w4) := Lib.hid (HB3.out.trans (hk4.mono (by omega)))
  have HI2_4 : Hid (RowI w4 v2 (cplP s t)) := Lib.hid (HI2_3.out.below hk4)
  have HI3_4 : Hid (RowI w4 v3 (cplP s t)) := Lib.hid (HI3_3.out.below hk4)
  have x0_4 := (hk4.cell (p := ⟨w1.heap.size, 0, none⟩) (by show w1.heap.size < _; omega)).trans x0_3
  have x1_4 := (hk4.cell (p := ⟨w1.heap.size, 1, none⟩) (by show w1.heap.size < _; omega)).trans x1_3
  have y0_4 := (hk4.cell (p := ⟨w1.heap.size + 1, 0, none⟩) (by show w1.heap.size + 1 < _; omega)).trans y0_3
  have y1_4 := (hk4.cell (p := ⟨w1.heap.size + 1, 1, none⟩) (by show w1.heap.size + 1 < _; omega)).trans y1_3
  clear hb4 hk4 HI2_3 HI3_3 x0_3 x1_3 y0_3 y1_3
  go_wp2_with fail
  refine (iCouple_all t s _).mono ?_
  rintro e w5 ⟨v5, rfl, hr5, hb5⟩
  have hk5 : Below w4.heap.size w4 w5 := by (repeat' first | (with_reducible exact Below.refl _ _) | (with_reducible assumption) | (with_reducible refine below_drewN ?_ _) | (with_reducible refine Below.drew ?_) | (with_reducible refine Below.alloc ?_ ?_ _) | (with_reducible refine Below.setCell ?_ ?_ _) | (with_reducible refine Below.trans ?_ (Below.mono (by assumption) ?_)) | first | omega | (simp only [World.size_alloc, World.size_setCell, World.size_drew, size_drewN]; omega) | (simp; done) | (simp; omega) | (simp only [World.size_alloc, World.size_setCell, World.size_drew, size_drewN] at *; omega) | (simp at *; omega))
  have hz5 := hk5.size
  have HB5 : Hid (Below w.heap.size w w5) := Lib.hid (HB4.out.trans (hk5.mono (by omega)))
  have HI2_5 : Hid (RowI w5 v2 (cplP s t)) := Lib.hid (HI2_4.out.below hk5)
  have HI3_5 : Hid (RowI w5 v3 (cplP s t)) := Lib.hid (HI3_4.out.below hk5)
  have x0_5 := (hk5.cell (p := ⟨w1.heap.size, 0, none⟩) (by show w1.heap.size < _; omega)).trans x0_4
  have x1_5 := (hk5.cell (p := ⟨w1.heap.size, 1, none⟩) (by show w1.heap.size < _; omega)).trans x1_4
  have y0_5 := (hk5.cell (p := ⟨w1.heap.size + 1, 0, none⟩) (by show w1.heap.size + 1 < _; omega)).trans y0_4
  have y1_5 := (hk5.cell (p := ⟨w1.heap.size + 1, 1, none⟩) (by show w1.heap.size + 1 < _; omega)).trans y1_4
  have HI5_5 : Hid (RowI w5 v5 (cplP s t)) := Lib.hid ((by have := hr5.inp; rwa [cplP_comm t s] at this))
  clear hb5 hk5 HI2_4 HI3_4 x0_4 x1_4 y0_4 y1_4
  rw [cplB_comm t s, HC.out]
  have HWG := Lib.hid (wgt_cpl HC.out)
  have HWM := Lib.hid (show wgtM (cplP s t) = wgt (cplP s t) by unfold wgtM; rw [cpl_allV]; rfl)
  obtain ⟨t1, t2, t3, t4⟩ := cplB_and HC.out
  have HT1 := Lib.hid t1
  have HT2 := Lib.hid t2
  obtain ⟨P, hP⟩ : ∃ P, P = (s.1 + 1) * (2 * s.2 + 1) := ⟨_, rfl⟩
  obtain ⟨Q, hQ⟩ : ∃ Q, Q = (t.1 + 1) * (2 * t.2 + 1) := ⟨_, rfl⟩
  have hPb : 0 ≤ P ∧ P ≤ 153 := by
    obtain ⟨a1, a2', a3, a4⟩ := tvB_true t1
    rw [hP]
    exact ⟨Int.mul_nonneg (by omega) (by omega), Int.le_trans (Int.mul_le_mul (show s.1 + 1 ≤ 9 by omega) (show 2 * s.2 + 1 ≤ 17 by omega) (by omega) (by omega)) (by decide)⟩
  have hQb : 0 ≤ Q ∧ Q ≤ 153 := by
    obtain ⟨a1, a2', a3, a4⟩ := tvB_true t2
    rw [hQ]
    exact ⟨Int.mul_nonneg (by omega) (by omega), Int.le_trans (Int.mul_le_mul (show t.1 + 1 ≤ 9 by omega) (show 2 * t.2 + 1 ≤ 17 by omega) (by omega) (by omega)) (by decide)⟩
  have hPQ : 0 ≤ P * Q ∧ P * Q ≤ 153 * 153 := ⟨Int.mul_nonneg hPb.1 hQb.1, Int.mul_le_mul hPb.2 hQb.2 hQb.1 (by decide)⟩
  have qPQ : IntKind.i64.wrap (P * Q) = P * Q := IntWalk.i64_in _ (by omega)
  have qEq : (P * Q == P * Q) = true := by simp
  have kS : ∀ W, Below w5.heap.size w5 W → Calls Try.prog 18 #[v5, v2] W fun e w' => e = .returned (.bool true) ∧ Below W.heap.size W w' := fun W h => same_b v5 v2 _ W (by omega) (HI5_5.out.below h) (HI2_5.out.below h)
  have kO : ∀ W, Below w5.heap.size w5 W → Calls Try.prog 28 #[v2] W fun e w' => e = .returned (.bool true) ∧ Below W.heap.size W w' := fun W h => order_any v2 _ W (by omega) (HI2_5.out.below h) (cpl_ord s t)
  have kW : ∀ W, Below w5.heap.size w5 W → Calls Try.prog 29 #[v2] W fun e w' => e = .returned (.int .i64 (P * Q)) ∧ Below W.heap.size W w' := fun W h => by
    have := iWeight_any v2 _ W (by omega) (HI2_5.out.below h)
    rw [HWM.out, HWG.out, ← hP, ← hQ] at this
    exact this
  have HPe := Lib.hid hP
  have HQe := Lib.hid hQ
  have KS := Lib.hid kS
  have KO := Lib.hid kO
  have KW := Lib.hid kW
  clear kS kO kW hP hQ t1 t2 t3 t4 HWG HWM hln
  have hs0 : w5.heap.size ≤ w5.heap.size := Nat.le_refl _
  go_wp2
  go_region_held3 (fun w' => w'.cell? ⟨w1.heap.size, 0, none⟩ = some (.int .i64 s.1) ∧ w'.cell? ⟨w1.heap.size, 1, none⟩ = some (.int .i64 s.2) ∧
      w'.cell? ⟨w1.heap.size + 1, 0, none⟩ = some (.int .i64 t.1) ∧ w'.cell? ⟨w1.heap.size + 1, 1, none⟩ = some (.int .i64 t.2) ∧ w5.heap.size ≤ w'.heap.size ∧ Below w5.heap.size w5 w')
    (first | (simp (disch := first | omega | (simp; done) | (simp; omega)) [go_sem, *]; done) | ((repeat' first | (with_reducible exact Below.refl _ _) | (with_reducible assumption) | (with_reducible refine below_drewN ?_ _) | (with_reducible refine Below.drew ?_) | (with_reducible refine Below.alloc ?_ ?_ _) | (with_reducible refine Below.setCell ?_ ?_ _) | (with_reducible refine Below.trans ?_ (Below.mono (by assumption) ?_)) | first | omega | (simp only [World.size_alloc, World.size_setCell, World.size_drew, size_drewN]; omega) | (simp; done) | (simp; omega) | (simp only [World.size_alloc, World.size_setCell, World.size_drew, size_drewN] at *; omega) | (simp at *; omega)); done) | ((try go_split_ands); (refine ⟨?_, ?_, ?_, ?_, ?_, ?_⟩ <;> first | omega | (simp only [World.size_alloc, World.size_setCell, World.size_drew, size_drewN]; omega) | (simp (disch := first | omega | (simp; done) | (simp; omega)) [go_sem, *]; done) | ((repeat' first | (with_reducible exact Below.refl _ _) | (with_reducible assumption) | (with_reducible refine below_drewN ?_ _) | (with_reducible refine Below.drew ?_) | (with_reducible refine Below.alloc ?_ ?_ _) | (with_reducible refine Below.setCell ?_ ?_ _) | (with_reducible refine Below.trans ?_ (Below.mono (by assumption) ?_)) | first | omega | (simp only [World.size_alloc, World.size_setCell, World.size_drew, size_drewN]; omega) | (simp; done) | (simp; omega) | (simp only [World.size_alloc, World.size_setCell, World.size_drew, size_drewN] at *; omega) | (simp at *; omega)); done))))
    (first
      | (go_at_call 18; refine (KS.out _ (by (repeat' first | (with_reducible exact Below.refl _ _) | (with_reducible assumption) | (with_reducible refine below_drewN ?_ _) | (with_reducible refine Below.drew ?_) | (with_reducible refine Below.alloc ?_ ?_ _) | (with_reducible refine Below.setCell ?_ ?_ _) | (with_reducible refine Below.trans ?_ (Below.mono (by assumption) ?_)) | first | omega | (simp only [World.size_alloc, World.size_setCell, World.size_drew, size_drewN]; omega) | (simp; done) | (simp; omega) | (simp only [World.size_alloc, World.size_setCell, World.size_drew, size_drewN] at *; omega) | (simp at *; omega)))).mono ?_; rintro e w6 ⟨rfl, hb6⟩; obtain ⟨hc6, hf6⟩ := bcell hb6; have hz6 := hb6.size; (try simp only [World.size_alloc, World.size_setCell, World.size_drew, size_drewN] at hz6 hc6 hf6))
      | (go_at_call 28; refine (KO.out _ (by (repeat' first | (with_reducible exact Below.refl _ _) | (with_reducible assumption) | (with_reducible refine below_drewN ?_ _) | (with_reducible refine Below.drew ?_) | (with_reducible refine Below.alloc ?_ ?_ _) | (with_reducible refine Below.setCell ?_ ?_ _) | (with_reducible refine Below.trans ?_ (Below.mono (by assumption) ?_)) | first | omega | (simp only [World.size_alloc, World.size_setCell, World.size_drew, size_drewN]; omega) | (simp; done) | (simp; omega) | (simp only [World.size_alloc, World.size_setCell, World.size_drew, size_drewN] at *; omega) | (simp at *; omega)))).mono ?_; rintro e w7 ⟨rfl, hb7⟩; obtain ⟨hc7, hf7⟩ := bcell hb7; have hz7 := hb7.size; (try simp only [World.size_alloc, World.size_setCell, World.size_drew, size_drewN] at hz7 hc7 hf7))
      | (go_at_call 29; refine (KW.out _ (by (repeat' first | (with_reducible exact Below.refl _ _) | (with_reducible assumption) | (with_reducible refine below_drewN ?_ _) | (with_reducible refine Below.drew ?_) | (with_reducible refine Below.alloc ?_ ?_ _) | (with_reducible refine Below.setCell ?_ ?_ _) | (with_reducible refine Below.trans ?_ (Below.mono (by assumption) ?_)) | first | omega | (simp only [World.size_alloc, World.size_setCell, World.size_drew, size_drewN]; omega) | (simp; done) | (simp; omega) | (simp only [World.size_alloc, World.size_setCell, World.size_drew, size_drewN] at *; omega) | (simp at *; omega)))).mono ?_; rintro e w8 ⟨rfl, hb8⟩; obtain ⟨hc8, hf8⟩ := bcell hb8; have hz8 := hb8.size; (try simp only [World.size_alloc, World.size_setCell, World.size_drew, size_drewN] at hz8 hc8 hf8))
      | (go_at_call 30; refine (iTermWeight_any _ _ _ (by first | exact HT1.out | exact HT2.out)).mono ?_; rintro e w9 ⟨rfl, hb9⟩; obtain ⟨hc9, hf9⟩ := bcell hb9; have hz9 := hb9.size; (try simp only [World.size_alloc, World.size_setCell, World.size_drew, size_drewN] at hz9 hc9 hf9); (first | rw [← HPe.out] | rw [← HQe.out])))
  all_goals go_wp2
  all_goals go_ret
  all_goals exact ⟨rfl, HB5.out.trans ((show Below w5.heap.size w5 _ by (repeat' first | (with_reducible exact Below.refl _ _) | (with_reducible assumption) | (with_reducible refine below_drewN ?_ _) | (with_reducible refine Below.drew ?_) | (with_reducible refine Below.alloc ?_ ?_ _) | (with_reducible refine Below.setCell ?_ ?_ _) | (with_reducible refine Below.trans ?_ (Below.mono (by assumption) ?_)) | first | omega | (simp only [World.size_alloc, World.size_setCell, World.size_drew, size_drewN]; omega) | (simp; done) | (simp; omega) | (simp only [World.size_alloc, World.size_setCell, World.size_drew, size_drewN] at *; omega) | (simp at *; omega))).mono (by omega))⟩
end Go.Proofs.Ytmcjabfnlpohaaa
