/-
  The walks of the laws FnLevelText and FnLevelFrom. Conditions: none.
-/
import Derived.Test.YtpggbfpjofcgnaaDoorLawsX4
namespace Go.Proofs.YtpggbfpjofcgnaaDoor
set_option linter.unusedSimpArgs false
set_option linter.unusedVariables false
open Go.RowKit

set_option maxRecDepth 20000 in
set_option maxHeartbeats 4000000 in
theorem walk_FnLevelText (a : Option Addr) (len cap : Nat) (w : World) (hb : BytesAt w a len cap) :
    Calls Tryd.prog 9 #[.slice a len cap] w fun e w' => e = .returned (.bool true) ∧ Below w.heap.size w w' := by
  by_cases hlen : 1048576 < len
  · clear hb
    go_enter Tryd.func9, Tryd.ntmps9
    go_wp2
    go_ret
    exact ⟨rfl, Below.refl _ _⟩
  · have hlen' : len ≤ 1048576 := by omega
    clear hlen
    have HB := Lib.hid hb
    clear hb
    go_enter Tryd.func9, Tryd.ntmps9
    go_wp2_with fail
    refine (dLevelText_any a len cap _ HB.out).mono ?_
    rintro e w1 ⟨s, l, j, rfl, hs0, hs1, hl0, hl1, hj0, hj1, hb1⟩
    have hz1 := hb1.size
    cases hv : lvB s l j
    · have hX : ∀ W, Calls Tryd.prog 20 #[.agg #[.int .i64 s, .int .i64 l, .int .i64 j]] W fun e w' => e = .returned (.string ⟨#[]⟩) ∧ Below W.heap.size W w' := fun W => by
        have := iLevelText_any s l j W
        rw [if_neg (by rw [hv]; decide)] at this
        exact this
      have hY : ∀ W, Calls Tryd.prog 18 #[.agg #[.int .i64 s, .int .i64 l, .int .i64 j]] W fun e w' => e = .returned (.string ⟨#[]⟩) ∧ Below W.heap.size W w' := fun W => by
        have := sLevelText_any s l j W
        rw [if_neg (by rw [hv]; decide)] at this
        exact this
      have HX := Lib.hid hX
      have HY := Lib.hid hY
      clear hX hY hv
      go_wp2_with fail
      refine (HX.out _).mono ?_
      rintro e w2 ⟨rfl, hb2⟩
      obtain ⟨hc2, hf2⟩ := bcell hb2; have hz2 := hb2.size; (try simp only [World.size_alloc, World.size_setCell, World.size_drew, size_drewN] at hz2 hc2 hf2); (have g2a : w1.heap.size < w2.heap.size := by omega)
      (have k0 : w2.cell? ⟨w1.heap.size, 0, none⟩ = some (.int .i64 s) := by (simp (disch := first | omega | (simp; done) | (simp; omega)) [go_sem, *]; done)); (have k1 : w2.cell? ⟨w1.heap.size, 1, none⟩ = some (.int .i64 l) := by (simp (disch := first | omega | (simp; done) | (simp; omega)) [go_sem, *]; done)); (have k2 : w2.cell? ⟨w1.heap.size, 2, none⟩ = some (.int .i64 j) := by (simp (disch := first | omega | (simp; done) | (simp; omega)) [go_sem, *]; done))
      have hB2 : Below w.heap.size w w2 := by (repeat' first | (with_reducible exact Below.refl _ _) | (with_reducible assumption) | (with_reducible refine below_drewN ?_ _) | (with_reducible refine Below.drew ?_) | (with_reducible refine Below.alloc ?_ ?_ _) | (with_reducible refine Below.setCell ?_ ?_ _) | (with_reducible refine Below.trans ?_ (Below.mono (by assumption) ?_)) | first | omega | (simp only [World.size_alloc, World.size_setCell, World.size_drew, size_drewN]; omega) | (simp; done) | (simp; omega) | (simp only [World.size_alloc, World.size_setCell, World.size_drew, size_drewN] at *; omega) | (simp at *; omega))
      clear hc2 hf2 hb2 hb1
      go_wp2_with fail
      refine (HY.out _).mono ?_
      rintro e w3 ⟨rfl, hb3⟩
      go_wp2
      go_ret
      exact ⟨rfl, hB2.trans (hb3.mono (by omega))⟩
    · have hX := fun W => iLevelText_ok s l j W hv
      have hY := fun W => sLevelText_ok s l j W hv
      have hF := textL_back hv
      obtain ⟨ht, j0, j1⟩ := lv_bd hv
      have hzT := txT_size ht
      have hzJ := txJ_size j0 j1
      have hpJ := txJ_pos j0 j1
      have hzX : (txL s l j).size = 2 + (txJ j).size := by unfold txL; rw [ByteArray.size_append, hzT]
      have hpre : (txL s l j).extract 0 2 = txT s l := pre_app hzT
      have kT := fun W => iTermText_ok s l W ht
      obtain ⟨X, hXX⟩ : ∃ X, X = txL s l j := ⟨_, rfl⟩
      obtain ⟨T, hTT⟩ : ∃ T, T = txT s l := ⟨_, rfl⟩
      rw [← hXX] at hF hzX hpre
      rw [← hTT] at hpre
      simp only [← hXX] at hX hY
      simp only [← hTT] at kT
      have HX := Lib.hid hX
      have HY := Lib.hid hY
      have HF := Lib.hid hF
      have HT := Lib.hid kT
      have hzi : (2 : Int) ≤ (X.size : Int) := by omega
      have hzi2 : X.size ≤ 8000000 := by omega
      have hne := ba_some (a := X) (by omega)
      have hne2 : (X.toList == ([] : List UInt8)) = false := by
        rw [beq_eq_false_iff_ne]; intro e; rw [e] at hne; exact absurd hne (by decide)
      have hne3 : (X.toList == (⟨#[]⟩ : ByteArray).toList) = false := ba_ne (by rintro rfl; exact absurd hzi (by decide))
      clear hX hY hv hF hXX hTT kT ht hzT hzJ hpJ hzX
      go_wp2_with fail
      refine (HX.out _).mono ?_
      rintro e w2 ⟨rfl, hb2⟩
      obtain ⟨hc2, hf2⟩ := bcell hb2; have hz2 := hb2.size; (try simp only [World.size_alloc, World.size_setCell, World.size_drew, size_drewN] at hz2 hc2 hf2); (have g2a : w1.heap.size < w2.heap.size := by omega)
      (have k0 : w2.cell? ⟨w1.heap.size, 0, none⟩ = some (.int .i64 s) := by (simp (disch := first | omega | (simp; done) | (simp; omega)) [go_sem, *]; done)); (have k1 : w2.cell? ⟨w1.heap.size, 1, none⟩ = some (.int .i64 l) := by (simp (disch := first | omega | (simp; done) | (simp; omega)) [go_sem, *]; done)); (have k2 : w2.cell? ⟨w1.heap.size, 2, none⟩ = some (.int .i64 j) := by (simp (disch := first | omega | (simp; done) | (simp; omega)) [go_sem, *]; done))
      have hB2 : Below w.heap.size w w2 := by (repeat' first | (with_reducible exact Below.refl _ _) | (with_reducible assumption) | (with_reducible refine below_drewN ?_ _) | (with_reducible refine Below.drew ?_) | (with_reducible refine Below.alloc ?_ ?_ _) | (with_reducible refine Below.setCell ?_ ?_ _) | (with_reducible refine Below.trans ?_ (Below.mono (by assumption) ?_)) | first | omega | (simp only [World.size_alloc, World.size_setCell, World.size_drew, size_drewN]; omega) | (simp; done) | (simp; omega) | (simp only [World.size_alloc, World.size_setCell, World.size_drew, size_drewN] at *; omega) | (simp at *; omega))
      clear hc2 hf2 hb2 hb1
      go_wp2_with fail
      refine (HY.out _).mono ?_
      rintro e w3 ⟨rfl, hb3⟩
      obtain ⟨hc3, hf3⟩ := bcell hb3; have hz3 := hb3.size; (try simp only [World.size_alloc, World.size_setCell, World.size_drew, size_drewN] at hz3 hc3 hf3)
      have g3a : w1.heap.size < w3.heap.size := by omega
      have g3b : w1.heap.size < w2.heap.size := by omega
      (have q0 : w3.cell? ⟨w1.heap.size, 0, none⟩ = some (.int .i64 s) := by (simp (disch := first | omega | (simp; done) | (simp; omega)) [go_sem, *]; done)); (have q1 : w3.cell? ⟨w1.heap.size, 1, none⟩ = some (.int .i64 l) := by (simp (disch := first | omega | (simp; done) | (simp; omega)) [go_sem, *]; done)); (have q2 : w3.cell? ⟨w1.heap.size, 2, none⟩ = some (.int .i64 j) := by (simp (disch := first | omega | (simp; done) | (simp; omega)) [go_sem, *]; done))
      have hB3 : Below w.heap.size w w3 := by (repeat' first | (with_reducible exact Below.refl _ _) | (with_reducible assumption) | (with_reducible refine below_drewN ?_ _) | (with_reducible refine Below.drew ?_) | (with_reducible refine Below.alloc ?_ ?_ _) | (with_reducible refine Below.setCell ?_ ?_ _) | (with_reducible refine Below.trans ?_ (Below.mono (by assumption) ?_)) | first | omega | (simp only [World.size_alloc, World.size_setCell, World.size_drew, size_drewN]; omega) | (simp; done) | (simp; omega) | (simp only [World.size_alloc, World.size_setCell, World.size_drew, size_drewN] at *; omega) | (simp at *; omega))
      clear hc3 hf3 hb3 hB2 k0 k1 k2
      go_wp2_with fail
      refine (iLevelFrom_any X _ hzi2).mono ?_
      rintro e w4 ⟨rfl, hb4⟩
      rw [HF.out]
      unfold valL
      obtain ⟨hc4, hf4⟩ := bcell hb4; have hz4 := hb4.size; (try simp only [World.size_alloc, World.size_setCell, World.size_drew, size_drewN] at hz4 hc4 hf4)
      have g4a : w1.heap.size < w4.heap.size := by omega
      (have u0 : w4.cell? ⟨w1.heap.size, 0, none⟩ = some (.int .i64 s) := by (simp (disch := first | omega | (simp; done) | (simp; omega)) [go_sem, *]; done)); (have u1 : w4.cell? ⟨w1.heap.size, 1, none⟩ = some (.int .i64 l) := by (simp (disch := first | omega | (simp; done) | (simp; omega)) [go_sem, *]; done)); (have u2 : w4.cell? ⟨w1.heap.size, 2, none⟩ = some (.int .i64 j) := by (simp (disch := first | omega | (simp; done) | (simp; omega)) [go_sem, *]; done))
      have hB4 : Below w.heap.size w w4 := by (repeat' first | (with_reducible exact Below.refl _ _) | (with_reducible assumption) | (with_reducible refine below_drewN ?_ _) | (with_reducible refine Below.drew ?_) | (with_reducible refine Below.alloc ?_ ?_ _) | (with_reducible refine Below.setCell ?_ ?_ _) | (with_reducible refine Below.trans ?_ (Below.mono (by assumption) ?_)) | first | omega | (simp only [World.size_alloc, World.size_setCell, World.size_drew, size_drewN]; omega) | (simp; done) | (simp; omega) | (simp only [World.size_alloc, World.size_setCell, World.size_drew, size_drewN] at *; omega) | (simp at *; omega))
      clear hc4 hf4 hb4 hB3 q0 q1 q2
      go_wp2
      go_region_held3 (fun w' => w'.cell? ⟨w1.heap.size, 0, none⟩ = some (.int .i64 s) ∧ w'.cell? ⟨w1.heap.size, 1, none⟩ = some (.int .i64 l) ∧ w'.cell? ⟨w1.heap.size, 2, none⟩ = some (.int .i64 j) ∧
          w'.cell? ⟨w4.heap.size, 0, none⟩ = some (.int .i64 s) ∧ w'.cell? ⟨w4.heap.size, 1, none⟩ = some (.int .i64 l) ∧ w'.cell? ⟨w4.heap.size, 2, none⟩ = some (.int .i64 j) ∧ w4.heap.size + 1 ≤ w'.heap.size ∧ Below w4.heap.size w4 w')
        (first | (simp (disch := first | omega | (simp; done) | (simp; omega)) [go_sem, *]; done) | ((repeat' first | (with_reducible exact Below.refl _ _) | (with_reducible assumption) | (with_reducible refine below_drewN ?_ _) | (with_reducible refine Below.drew ?_) | (with_reducible refine Below.alloc ?_ ?_ _) | (with_reducible refine Below.setCell ?_ ?_ _) | (with_reducible refine Below.trans ?_ (Below.mono (by assumption) ?_)) | first | omega | (simp only [World.size_alloc, World.size_setCell, World.size_drew, size_drewN]; omega) | (simp; done) | (simp; omega) | (simp only [World.size_alloc, World.size_setCell, World.size_drew, size_drewN] at *; omega) | (simp at *; omega)); done) | ((try go_split_ands); (refine ⟨?_, ?_, ?_, ?_, ?_, ?_, ?_, ?_⟩ <;> first | omega | (simp only [World.size_alloc, World.size_setCell, World.size_drew, size_drewN]; omega) | (simp (disch := first | omega | (simp; done) | (simp; omega)) [go_sem, *]; done) | ((repeat' first | (with_reducible exact Below.refl _ _) | (with_reducible assumption) | (with_reducible refine below_drewN ?_ _) | (with_reducible refine Below.drew ?_) | (with_reducible refine Below.alloc ?_ ?_ _) | (with_reducible refine Below.setCell ?_ ?_ _) | (with_reducible refine Below.trans ?_ (Below.mono (by assumption) ?_)) | first | omega | (simp only [World.size_alloc, World.size_setCell, World.size_drew, size_drewN]; omega) | (simp; done) | (simp; omega) | (simp only [World.size_alloc, World.size_setCell, World.size_drew, size_drewN] at *; omega) | (simp at *; omega)); done))))
        (first | (go_at_call 13; refine (HT.out _).mono ?_; rintro e w5 ⟨rfl, hb5⟩; obtain ⟨hc5, hf5⟩ := bcell hb5; have hz5 := hb5.size; (try simp only [World.size_alloc, World.size_setCell, World.size_drew, size_drewN] at hz5 hc5 hf5); (have g5a : w4.heap.size < w5.heap.size := by omega)))
      go_wp2
      go_ret
      exact ⟨rfl, hB4.trans ((show Below w4.heap.size w4 _ by (repeat' first | (with_reducible exact Below.refl _ _) | (with_reducible assumption) | (with_reducible refine below_drewN ?_ _) | (with_reducible refine Below.drew ?_) | (with_reducible refine Below.alloc ?_ ?_ _) | (with_reducible refine Below.setCell ?_ ?_ _) | (with_reducible refine Below.trans ?_ (Below.mono (by assumption) ?_)) | first | omega | (simp only [World.size_alloc, World.size_setCell, World.size_drew, size_drewN]; omega) | (simp; done) | (simp; omega) | (simp only [World.size_alloc, World.size_setCell, World.size_drew, size_drewN] at *; omega) | (simp at *; omega))).mono (by have := hB4.size; omega))⟩
set_option maxRecDepth 20000 in
set_option maxHeartbeats 4000000 in
theorem walk_FnLevelFrom (a : Option Addr) (len cap : Nat) (w : World) (hb : BytesAt w a len cap) :
    Calls Tryd.prog 10 #[.slice a len cap] w fun e w' => e = .returned (.bool true) ∧ Below w.heap.size w w' := by
  by_cases hlen : 1048576 < len
  · clear hb
    go_enter Tryd.func10, Tryd.ntmps10
    go_wp2
    go_ret
    exact ⟨rfl, Below.refl _ _⟩
  · have hlen' : len ≤ 1048576 := by omega
    clear hlen
    have HB := Lib.hid hb
    clear hb
    go_enter Tryd.func10, Tryd.ntmps10
    go_wp2_with fail
    refine (dLevelFrom_any a len cap _ HB.out).mono ?_
    rintro e w1 ⟨bs, rfl, hz, hb1⟩
    have hz1 := hb1.size
    have HB1 := Lib.hid hb1
    clear hb1
    rcases frL_cases bs with hF | ⟨S, K, j, hF, hv, hT, hF1⟩
    · have HF := Lib.hid hF
      clear hF
      go_wp2_with fail
      refine (iLevelFrom_any bs _ (by omega)).mono ?_
      rintro e w2 ⟨rfl, hb2⟩
      rw [HF.out]
      unfold valL
      obtain ⟨hc2, hf2⟩ := bcell hb2; have hz2 := hb2.size; (try simp only [World.size_alloc, World.size_setCell, World.size_drew, size_drewN] at hz2 hc2 hf2)
      go_wp2_with fail
      refine (sLevelFrom_any bs _ (by omega)).mono ?_
      rintro e w3 ⟨rfl, hb3⟩
      rw [HF.out]
      unfold valL
      obtain ⟨hc3, hf3⟩ := bcell hb3; have hz3 := hb3.size; (try simp only [World.size_alloc, World.size_setCell, World.size_drew, size_drewN] at hz3 hc3 hf3); (have g3a : w2.heap.size < w3.heap.size := by omega)
      go_wp2
      go_ret
      exact ⟨rfl, HB1.out.trans ((show Below w1.heap.size w1 _ by (repeat' first | (with_reducible exact Below.refl _ _) | (with_reducible assumption) | (with_reducible refine below_drewN ?_ _) | (with_reducible refine Below.drew ?_) | (with_reducible refine Below.alloc ?_ ?_ _) | (with_reducible refine Below.setCell ?_ ?_ _) | (with_reducible refine Below.trans ?_ (Below.mono (by assumption) ?_)) | first | omega | (simp only [World.size_alloc, World.size_setCell, World.size_drew, size_drewN]; omega) | (simp; done) | (simp; omega) | (simp only [World.size_alloc, World.size_setCell, World.size_drew, size_drewN] at *; omega) | (simp at *; omega))).mono hz1)⟩
    · have kT : ∀ W, Calls Tryd.prog 20 #[.agg #[.int .i64 S, .int .i64 K, .int .i64 j]] W fun e w' => e = .returned (.string bs) ∧ Below W.heap.size W w' := fun W => by
        have := iLevelText_ok S K j W hv
        rw [hT] at this
        exact this
      have kV : ∀ W, Calls Tryd.prog 28 #[.agg #[.int .i64 S, .int .i64 K, .int .i64 j]] W fun e w' => e = .returned (.bool true) ∧ Below W.heap.size W w' := fun W => by
        have := iLevelValid_any S K j W
        rw [hv] at this
        exact this
      obtain ⟨bt, hbt⟩ : ∃ bt, bt = bs ++ (⟨#[111]⟩ : ByteArray) := ⟨_, rfl⟩
      have hbz : bt.size = bs.size + 1 := by rw [hbt, ByteArray.size_append]; rfl
      have hadd : ∀ W, (Op.stringOp .add bs ⟨#[111]⟩).run Tryd.prog W = .ok (.string bt) W := fun W => by
        rw [hbt]
        exact run_string_add_sum W bs ⟨#[111]⟩ (by show bs.size + 1 ≤ _; omega)
      rw [← hbt] at hF1
      have hbt2 : bs ++ (⟨#[111]⟩ : ByteArray) = bt := hbt.symm
      have hone : ((⟨#[111]⟩ : ByteArray)).size = 1 := rfl
      have HF := Lib.hid hF
      have HF1 := Lib.hid hF1
      have HT := Lib.hid kT
      have HV := Lib.hid kV
      clear hF hF1 hT kT kV hbt hv
      go_wp2_with fail
      refine (iLevelFrom_any bs _ (by omega)).mono ?_
      rintro e w2 ⟨rfl, hb2⟩
      rw [HF.out]
      unfold valL
      obtain ⟨hc2, hf2⟩ := bcell hb2; have hz2 := hb2.size; (try simp only [World.size_alloc, World.size_setCell, World.size_drew, size_drewN] at hz2 hc2 hf2)
      go_wp2_with fail
      refine (sLevelFrom_any bs _ (by omega)).mono ?_
      rintro e w3 ⟨rfl, hb3⟩
      rw [HF.out]
      unfold valL
      obtain ⟨hc3, hf3⟩ := bcell hb3; have hz3 := hb3.size; (try simp only [World.size_alloc, World.size_setCell, World.size_drew, size_drewN] at hz3 hc3 hf3); (have g3a : w2.heap.size < w3.heap.size := by omega)
      (have k0 : w3.cell? ⟨w2.heap.size, 0, none⟩ = some (.int .i64 S) := by (simp (disch := first | omega | (simp; done) | (simp; omega)) [go_sem, *]; done)); (have k1 : w3.cell? ⟨w2.heap.size, 1, none⟩ = some (.int .i64 K) := by (simp (disch := first | omega | (simp; done) | (simp; omega)) [go_sem, *]; done)); (have k2 : w3.cell? ⟨w2.heap.size, 2, none⟩ = some (.int .i64 j) := by (simp (disch := first | omega | (simp; done) | (simp; omega)) [go_sem, *]; done))
      have hB3 : Below w1.heap.size w1 w3 := by (repeat' first | (with_reducible exact Below.refl _ _) | (with_reducible assumption) | (with_reducible refine below_drewN ?_ _) | (with_reducible refine Below.drew ?_) | (with_reducible refine Below.alloc ?_ ?_ _) | (with_reducible refine Below.setCell ?_ ?_ _) | (with_reducible refine Below.trans ?_ (Below.mono (by assumption) ?_)) | first | omega | (simp only [World.size_alloc, World.size_setCell, World.size_drew, size_drewN]; omega) | (simp; done) | (simp; omega) | (simp only [World.size_alloc, World.size_setCell, World.size_drew, size_drewN] at *; omega) | (simp at *; omega))
      clear hc2 hf2 hc3 hf3 hb2 hb3
      go_wp2_with fail
      first | rw [hbt2] | (show Calls Tryd.prog _ #[.string bt] _ _)
      refine (iLevelFrom_any bt _ (by omega)).mono ?_
      rintro e w4 ⟨rfl, hb4⟩
      rw [HF1.out]
      unfold valL
      obtain ⟨hc4, hf4⟩ := bcell hb4; have hz4 := hb4.size; (try simp only [World.size_alloc, World.size_setCell, World.size_drew, size_drewN] at hz4 hc4 hf4)
      have g4a : w2.heap.size < w4.heap.size := by omega
      (have q0 : w4.cell? ⟨w2.heap.size, 0, none⟩ = some (.int .i64 S) := by (simp (disch := first | omega | (simp; done) | (simp; omega)) [go_sem, *]; done)); (have q1 : w4.cell? ⟨w2.heap.size, 1, none⟩ = some (.int .i64 K) := by (simp (disch := first | omega | (simp; done) | (simp; omega)) [go_sem, *]; done)); (have q2 : w4.cell? ⟨w2.heap.size, 2, none⟩ = some (.int .i64 j) := by (simp (disch := first | omega | (simp; done) | (simp; omega)) [go_sem, *]; done))
      have hB4 : Below w1.heap.size w1 w4 := by (repeat' first | (with_reducible exact Below.refl _ _) | (with_reducible assumption) | (with_reducible refine below_drewN ?_ _) | (with_reducible refine Below.drew ?_) | (with_reducible refine Below.alloc ?_ ?_ _) | (with_reducible refine Below.setCell ?_ ?_ _) | (with_reducible refine Below.trans ?_ (Below.mono (by assumption) ?_)) | first | omega | (simp only [World.size_alloc, World.size_setCell, World.size_drew, size_drewN]; omega) | (simp; done) | (simp; omega) | (simp only [World.size_alloc, World.size_setCell, World.size_drew, size_drewN] at *; omega) | (simp at *; omega))
      clear hc4 hf4 hb4 hB3 k0 k1 k2
      go_wp2_with fail
      refine (HV.out _).mono ?_
      rintro e w5 ⟨rfl, hb5⟩
      obtain ⟨hc5, hf5⟩ := bcell hb5; have hz5 := hb5.size; (try simp only [World.size_alloc, World.size_setCell, World.size_drew, size_drewN] at hz5 hc5 hf5)
      have g5a : w2.heap.size < w5.heap.size := by omega
      (have u0 : w5.cell? ⟨w2.heap.size, 0, none⟩ = some (.int .i64 S) := by (simp (disch := first | omega | (simp; done) | (simp; omega)) [go_sem, *]; done)); (have u1 : w5.cell? ⟨w2.heap.size, 1, none⟩ = some (.int .i64 K) := by (simp (disch := first | omega | (simp; done) | (simp; omega)) [go_sem, *]; done)); (have u2 : w5.cell? ⟨w2.heap.size, 2, none⟩ = some (.int .i64 j) := by (simp (disch := first | omega | (simp; done) | (simp; omega)) [go_sem, *]; done))
      have hB5 : Below w1.heap.size w1 w5 := by (repeat' first | (with_reducible exact Below.refl _ _) | (with_reducible assumption) | (with_reducible refine below_drewN ?_ _) | (with_reducible refine Below.drew ?_) | (with_reducible refine Below.alloc ?_ ?_ _) | (with_reducible refine Below.setCell ?_ ?_ _) | (with_reducible refine Below.trans ?_ (Below.mono (by assumption) ?_)) | first | omega | (simp only [World.size_alloc, World.size_setCell, World.size_drew, size_drewN]; omega) | (simp; done) | (simp; omega) | (simp only [World.size_alloc, World.size_setCell, World.size_drew, size_drewN] at *; omega) | (simp at *; omega))
      clear hc5 hf5 hb5 hB4 q0 q1 q2
      go_wp2_with fail
      refine (HT.out _).mono ?_
      rintro e w6 ⟨rfl, hb6⟩
      obtain ⟨hc6, hf6⟩ := bcell hb6; have hz6 := hb6.size; (try simp only [World.size_alloc, World.size_setCell, World.size_drew, size_drewN] at hz6 hc6 hf6)
      have hB6 : Below w1.heap.size w1 w6 := by (repeat' first | (with_reducible exact Below.refl _ _) | (with_reducible assumption) | (with_reducible refine below_drewN ?_ _) | (with_reducible refine Below.drew ?_) | (with_reducible refine Below.alloc ?_ ?_ _) | (with_reducible refine Below.setCell ?_ ?_ _) | (with_reducible refine Below.trans ?_ (Below.mono (by assumption) ?_)) | first | omega | (simp only [World.size_alloc, World.size_setCell, World.size_drew, size_drewN]; omega) | (simp; done) | (simp; omega) | (simp only [World.size_alloc, World.size_setCell, World.size_drew, size_drewN] at *; omega) | (simp at *; omega))
      go_wp2
      go_ret
      exact ⟨rfl, HB1.out.trans (hB6.mono hz1)⟩
end Go.Proofs.YtpggbfpjofcgnaaDoor
