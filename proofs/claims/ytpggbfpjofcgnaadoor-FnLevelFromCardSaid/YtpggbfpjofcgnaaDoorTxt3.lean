/-
  The walks that write spins and levels. Conditions: none.
-/
import Derived.Test.YtpggbfpjofcgnaaDoorTxt2
namespace Go.Proofs.YtpggbfpjofcgnaaDoor
set_option linter.unusedSimpArgs false
set_option linter.unusedVariables false
open Go.RowKit

theorem dec_size2 {i : Nat} (h : i < 100) : (dec i).size ≤ 2 := by
  by_cases h1 : i < 10
  · rw [dec_size h1]; omega
  · unfold dec
    rw [Lib.decDigits_two h1 h]
    exact Nat.le_refl 2
theorem half_size : ((⟨#[47, 50]⟩ : ByteArray)).size = 2 := rfl
theorem txJ_even {m n : Nat} (h : m = 2 * n) : txJ (m : Int) = dec n := by
  unfold txJ
  rw [if_pos (by omega), show ((m : Int) / 2).toNat = n by omega]
theorem txJ_odd {m : Nat} (h : m % 2 = 1) : txJ (m : Int) = dec m ++ ⟨#[47, 50]⟩ := by
  unfold txJ
  rw [if_neg (by omega), show ((m : Int)).toNat = m by omega]
theorem txJ_size {j : Int} (h0 : 0 ≤ j) (h1 : j ≤ 24) : (txJ j).size ≤ 4 := by
  obtain ⟨m, hm⟩ := Int.eq_ofNat_of_zero_le h0
  have hm' : j = (m : Int) := hm
  subst hm'
  rcases Nat.mod_two_eq_zero_or_one m with h | h
  · rw [show txJ ((m : Nat) : Int) = dec (m / 2) from txJ_even (m := m) (n := m / 2) (by omega)]
    have := dec_size2 (i := m / 2) (by omega); omega
  · rw [show txJ ((m : Nat) : Int) = dec m ++ ⟨#[47, 50]⟩ from txJ_odd h, ByteArray.size_append]
    have := dec_size2 (i := m) (by omega)
    have := half_size
    omega
set_option maxHeartbeats 2000000 in
theorem iSpinText_ok (j : Int) (w : World) (h0 : 0 ≤ j) (h1 : j ≤ 24) :
    Calls Tryd.prog 37 #[.int .i64 j] w fun e w' => e = .returned (.string (txJ j)) ∧ w' = w := by
  obtain ⟨m, hm⟩ := Int.eq_ofNat_of_zero_le h0
  have hm' : j = (m : Int) := hm
  subst hm'
  have hs : spB (m : Int) = true := by simp [spB]; omega
  have hwm : IntKind.i64.wrap (m : Int) = (m : Int) := IntWalk.i64_in _ (by omega)
  rcases Nat.mod_two_eq_zero_or_one m with h | h
  · obtain ⟨n, hn⟩ : ∃ n, m = 2 * n := ⟨m / 2, by omega⟩
    have HT := Lib.hid (txJ_even hn)
    have e1 : (m : Int) % 2 = 0 := by omega
    have e2 : (m : Int) / 2 = (n : Int) := by omega
    have e3 : (m : Int).tdiv 2 = (n : Int) := by rw [Int.tdiv_eq_ediv_of_nonneg h0]; omega
    have hwn : IntKind.i64.wrap (n : Int) = (n : Int) := IntWalk.i64_in _ (by omega)
    have hn100 : n < 100 := by omega
    clear hn h
    go_enter Tryd.func37, Tryd.ntmps37
    go_wp2_with (first
      | (go_at_call 49; refine (iSpinValid_any _ _).mono ?_; rintro e w' ⟨rfl, rfl⟩; rw [hs])
      | (go_at_call 31; refine (itoa_any n hn100 _).mono ?_; rintro e w' ⟨rfl, rfl⟩))
    go_ret
    exact ⟨by rw [HT.out]; rfl, rfl⟩
  · have HT := Lib.hid (txJ_odd h)
    have e1 : (m : Int) % 2 = 1 := by omega
    have z1 := dec_size2 (i := m) (by omega)
    have z2 := half_size
    have hm100 : m < 100 := by omega
    clear h
    go_enter Tryd.func37, Tryd.ntmps37
    go_wp2_with (first
      | (go_at_call 49; refine (iSpinValid_any _ _).mono ?_; rintro e w' ⟨rfl, rfl⟩; rw [hs])
      | (go_at_call 31; refine (itoa_any m hm100 _).mono ?_; rintro e w' ⟨rfl, rfl⟩))
    go_ret
    exact ⟨by rw [HT.out]; rfl, rfl⟩
set_option maxHeartbeats 2000000 in
theorem sSpinText_ok (j : Int) (w : World) (h0 : 0 ≤ j) (h1 : j ≤ 24) :
    Calls Tryd.prog 36 #[.int .i64 j] w fun e w' => e = .returned (.string (txJ j)) ∧ Below w.heap.size w w' := by
  obtain ⟨m, hm⟩ := Int.eq_ofNat_of_zero_le h0
  have hm' : j = (m : Int) := hm
  subst hm'
  have hs : spB (m : Int) = true := by simp [spB]; omega
  have hwm : IntKind.i64.wrap (m : Int) = (m : Int) := IntWalk.i64_in _ (by omega)
  rcases Nat.mod_two_eq_zero_or_one m with h | h
  · obtain ⟨n, hn⟩ : ∃ n, m = 2 * n := ⟨m / 2, by omega⟩
    have HT := Lib.hid (txJ_even hn)
    have e1 : (m : Int) % 2 = 0 := by omega
    have e2 : (m : Int) / 2 = (n : Int) := by omega
    have e3 : (m : Int).tdiv 2 = (n : Int) := by rw [Int.tdiv_eq_ediv_of_nonneg h0]; omega
    have hwn : IntKind.i64.wrap (n : Int) = (n : Int) := IntWalk.i64_in _ (by omega)
    have hn100 : n < 100 := by omega
    clear hn h
    go_enter Tryd.func36, Tryd.ntmps36
    go_wp2_with (first
      | (go_at_call 48; refine (sSpinValid_any _ _).mono ?_; rintro e w' ⟨rfl, rfl⟩; rw [hs])
      | (go_at_call 30; refine (l6Dec_any n hn100 _).mono ?_; rintro e w2 ⟨rfl, hb2⟩; obtain ⟨hc2, hf2⟩ := bcell hb2; have hz2 := hb2.size; (try simp only [World.size_alloc, World.size_setCell, World.size_drew, size_drewN] at hz2 hc2 hf2)))
    go_ret
    exact ⟨by rw [HT.out]; rfl, by (repeat' first | (with_reducible exact Below.refl _ _) | (with_reducible assumption) | (with_reducible refine below_drewN ?_ _) | (with_reducible refine Below.drew ?_) | (with_reducible refine Below.alloc ?_ ?_ _) | (with_reducible refine Below.setCell ?_ ?_ _) | (with_reducible refine Below.trans ?_ (Below.mono (by assumption) ?_)) | first | omega | (simp only [World.size_alloc, World.size_setCell, World.size_drew, size_drewN]; omega) | (simp; done) | (simp; omega) | (simp only [World.size_alloc, World.size_setCell, World.size_drew, size_drewN] at *; omega) | (simp at *; omega))⟩
  · have HT := Lib.hid (txJ_odd h)
    have e1 : (m : Int) % 2 = 1 := by omega
    have z1 := dec_size2 (i := m) (by omega)
    have z2 := half_size
    have hm100 : m < 100 := by omega
    clear h
    go_enter Tryd.func36, Tryd.ntmps36
    go_wp2_with (first
      | (go_at_call 48; refine (sSpinValid_any _ _).mono ?_; rintro e w' ⟨rfl, rfl⟩; rw [hs])
      | (go_at_call 30; refine (l6Dec_any m hm100 _).mono ?_; rintro e w2 ⟨rfl, hb2⟩; obtain ⟨hc2, hf2⟩ := bcell hb2; have hz2 := hb2.size; (try simp only [World.size_alloc, World.size_setCell, World.size_drew, size_drewN] at hz2 hc2 hf2)))
    go_ret
    exact ⟨by rw [HT.out]; rfl, by (repeat' first | (with_reducible exact Below.refl _ _) | (with_reducible assumption) | (with_reducible refine below_drewN ?_ _) | (with_reducible refine Below.drew ?_) | (with_reducible refine Below.alloc ?_ ?_ _) | (with_reducible refine Below.setCell ?_ ?_ _) | (with_reducible refine Below.trans ?_ (Below.mono (by assumption) ?_)) | first | omega | (simp only [World.size_alloc, World.size_setCell, World.size_drew, size_drewN]; omega) | (simp; done) | (simp; omega) | (simp only [World.size_alloc, World.size_setCell, World.size_drew, size_drewN] at *; omega) | (simp at *; omega))⟩
theorem txT_size {s l : Int} (h : tvB s l = true) : (txT s l).size = 2 := by
  have b := tvB_true h
  unfold txT
  rw [ByteArray.size_append, dec_size (by omega), ltr_size b.2.2.1 b.2.2.2]
theorem lv_bd {s l j : Int} (h : lvB s l j = true) : tvB s l = true ∧ 0 ≤ j ∧ j ≤ 24 := by
  simp only [lvB, Bool.and_eq_true] at h
  refine ⟨h.1, ?_⟩
  have h2 := h.2
  simp [triB] at h2
  omega
theorem iTermText_ok (s l : Int) (w : World) (hv : tvB s l = true) :
    Calls Tryd.prog 13 #[.agg #[.int .i64 s, .int .i64 l]] w fun e w' => e = .returned (.string (txT s l)) ∧ Below w.heap.size w w' := by
  have := iTermText_any s l w
  rw [if_pos hv] at this
  exact this
theorem sTermText_ok (s l : Int) (w : World) (hv : tvB s l = true) :
    Calls Tryd.prog 11 #[.agg #[.int .i64 s, .int .i64 l]] w fun e w' => e = .returned (.string (txT s l)) ∧ Below w.heap.size w w' := by
  have := sTermText_any s l w
  rw [if_pos hv] at this
  exact this
set_option maxHeartbeats 2000000 in
theorem iLevelText_any (s l j : Int) (w : World) :
    Calls Tryd.prog 20 #[.agg #[.int .i64 s, .int .i64 l, .int .i64 j]] w fun e w' => e = .returned (.string (if lvB s l j = true then txL s l j else ⟨#[]⟩)) ∧ Below w.heap.size w w' := by
  cases hv : lvB s l j
  · go_enter Tryd.func20, Tryd.ntmps20
    go_wp2_with (go_at_call 28; refine (iLevelValid_any _ _ _ _).mono ?_; rintro e w1 ⟨rfl, hb1⟩; obtain ⟨hc1, hf1⟩ := bcell hb1; have hz1 := hb1.size; (try simp only [World.size_alloc, World.size_setCell, World.size_drew, size_drewN] at hz1 hc1 hf1); (have g1a : w.heap.size < w1.heap.size := by omega); rw [hv])
    go_ret
    exact ⟨rfl, by (repeat' first | (with_reducible exact Below.refl _ _) | (with_reducible assumption) | (with_reducible refine below_drewN ?_ _) | (with_reducible refine Below.drew ?_) | (with_reducible refine Below.alloc ?_ ?_ _) | (with_reducible refine Below.setCell ?_ ?_ _) | (with_reducible refine Below.trans ?_ (Below.mono (by assumption) ?_)) | first | omega | (simp only [World.size_alloc, World.size_setCell, World.size_drew, size_drewN]; omega) | (simp; done) | (simp; omega) | (simp only [World.size_alloc, World.size_setCell, World.size_drew, size_drewN] at *; omega) | (simp at *; omega))⟩
  · obtain ⟨ht, j0, j1⟩ := lv_bd hv
    have z1 := txT_size ht
    have z2 := txJ_size j0 j1
    have z3 : ¬ ((txT s l).size + (txJ j).size > 9223372036854775807) := by omega
    have z4 : ¬ (9223372036854775807 < (txT s l).size + (txJ j).size) := by omega
    clear z1 z2
    go_enter Tryd.func20, Tryd.ntmps20
    go_wp2_with (go_at_call 28; refine (iLevelValid_any _ _ _ _).mono ?_; rintro e w1 ⟨rfl, hb1⟩; obtain ⟨hc1, hf1⟩ := bcell hb1; have hz1 := hb1.size; (try simp only [World.size_alloc, World.size_setCell, World.size_drew, size_drewN] at hz1 hc1 hf1); (have g1a : w.heap.size < w1.heap.size := by omega); rw [hv])
    go_region_held3 (fun w' => w'.cell? ⟨w.heap.size, 0, none⟩ = some (.int .i64 s) ∧ w'.cell? ⟨w.heap.size, 1, none⟩ = some (.int .i64 l) ∧ w'.cell? ⟨w.heap.size, 2, none⟩ = some (.int .i64 j) ∧ w.heap.size + 1 ≤ w'.heap.size ∧ Below w.heap.size w w')
      (first | (simp (disch := first | omega | (simp; done) | (simp; omega)) [go_sem, *]; done) | ((repeat' first | (with_reducible exact Below.refl _ _) | (with_reducible assumption) | (with_reducible refine below_drewN ?_ _) | (with_reducible refine Below.drew ?_) | (with_reducible refine Below.alloc ?_ ?_ _) | (with_reducible refine Below.setCell ?_ ?_ _) | (with_reducible refine Below.trans ?_ (Below.mono (by assumption) ?_)) | first | omega | (simp only [World.size_alloc, World.size_setCell, World.size_drew, size_drewN]; omega) | (simp; done) | (simp; omega) | (simp only [World.size_alloc, World.size_setCell, World.size_drew, size_drewN] at *; omega) | (simp at *; omega)); done) | ((try go_split_ands); (refine ⟨?_, ?_, ?_, ?_, ?_⟩ <;> first | omega | (simp only [World.size_alloc, World.size_setCell, World.size_drew, size_drewN]; omega) | (simp (disch := first | omega | (simp; done) | (simp; omega)) [go_sem, *]; done) | ((repeat' first | (with_reducible exact Below.refl _ _) | (with_reducible assumption) | (with_reducible refine below_drewN ?_ _) | (with_reducible refine Below.drew ?_) | (with_reducible refine Below.alloc ?_ ?_ _) | (with_reducible refine Below.setCell ?_ ?_ _) | (with_reducible refine Below.trans ?_ (Below.mono (by assumption) ?_)) | first | omega | (simp only [World.size_alloc, World.size_setCell, World.size_drew, size_drewN]; omega) | (simp; done) | (simp; omega) | (simp only [World.size_alloc, World.size_setCell, World.size_drew, size_drewN] at *; omega) | (simp at *; omega)); done))))
      (first
        | (go_at_call 13; refine (iTermText_ok _ _ _ ht).mono ?_; rintro e w2 ⟨rfl, hb2⟩; obtain ⟨hc2, hf2⟩ := bcell hb2; have hz2 := hb2.size; (try simp only [World.size_alloc, World.size_setCell, World.size_drew, size_drewN] at hz2 hc2 hf2); (have g2a : w.heap.size < w2.heap.size := by omega))
        | (go_at_call 37; refine (iSpinText_ok _ _ j0 j1).mono ?_; rintro e w' ⟨rfl, rfl⟩))
    go_wp2
    go_ret
    exact ⟨rfl, by (repeat' first | (with_reducible exact Below.refl _ _) | (with_reducible assumption) | (with_reducible refine below_drewN ?_ _) | (with_reducible refine Below.drew ?_) | (with_reducible refine Below.alloc ?_ ?_ _) | (with_reducible refine Below.setCell ?_ ?_ _) | (with_reducible refine Below.trans ?_ (Below.mono (by assumption) ?_)) | first | omega | (simp only [World.size_alloc, World.size_setCell, World.size_drew, size_drewN]; omega) | (simp; done) | (simp; omega) | (simp only [World.size_alloc, World.size_setCell, World.size_drew, size_drewN] at *; omega) | (simp at *; omega))⟩
set_option maxHeartbeats 2000000 in
theorem sLevelText_any (s l j : Int) (w : World) :
    Calls Tryd.prog 18 #[.agg #[.int .i64 s, .int .i64 l, .int .i64 j]] w fun e w' => e = .returned (.string (if lvB s l j = true then txL s l j else ⟨#[]⟩)) ∧ Below w.heap.size w w' := by
  cases hv : lvB s l j
  · go_enter Tryd.func18, Tryd.ntmps18
    go_wp2_with (go_at_call 35; refine (sLevelValid_any _ _ _ _).mono ?_; rintro e w1 ⟨rfl, hb1⟩; obtain ⟨hc1, hf1⟩ := bcell hb1; have hz1 := hb1.size; (try simp only [World.size_alloc, World.size_setCell, World.size_drew, size_drewN] at hz1 hc1 hf1); (have g1a : w.heap.size < w1.heap.size := by omega); rw [hv])
    go_ret
    exact ⟨rfl, by (repeat' first | (with_reducible exact Below.refl _ _) | (with_reducible assumption) | (with_reducible refine below_drewN ?_ _) | (with_reducible refine Below.drew ?_) | (with_reducible refine Below.alloc ?_ ?_ _) | (with_reducible refine Below.setCell ?_ ?_ _) | (with_reducible refine Below.trans ?_ (Below.mono (by assumption) ?_)) | first | omega | (simp only [World.size_alloc, World.size_setCell, World.size_drew, size_drewN]; omega) | (simp; done) | (simp; omega) | (simp only [World.size_alloc, World.size_setCell, World.size_drew, size_drewN] at *; omega) | (simp at *; omega))⟩
  · obtain ⟨ht, j0, j1⟩ := lv_bd hv
    have z1 := txT_size ht
    have z2 := txJ_size j0 j1
    have z3 : ¬ ((txT s l).size + (txJ j).size > 9223372036854775807) := by omega
    have z4 : ¬ (9223372036854775807 < (txT s l).size + (txJ j).size) := by omega
    clear z1 z2
    go_enter Tryd.func18, Tryd.ntmps18
    go_wp2_with (go_at_call 35; refine (sLevelValid_any _ _ _ _).mono ?_; rintro e w1 ⟨rfl, hb1⟩; obtain ⟨hc1, hf1⟩ := bcell hb1; have hz1 := hb1.size; (try simp only [World.size_alloc, World.size_setCell, World.size_drew, size_drewN] at hz1 hc1 hf1); (have g1a : w.heap.size < w1.heap.size := by omega); rw [hv])
    go_region_held3 (fun w' => w'.cell? ⟨w.heap.size, 0, none⟩ = some (.int .i64 s) ∧ w'.cell? ⟨w.heap.size, 1, none⟩ = some (.int .i64 l) ∧ w'.cell? ⟨w.heap.size, 2, none⟩ = some (.int .i64 j) ∧ w.heap.size + 1 ≤ w'.heap.size ∧ Below w.heap.size w w')
      (first | (simp (disch := first | omega | (simp; done) | (simp; omega)) [go_sem, *]; done) | ((repeat' first | (with_reducible exact Below.refl _ _) | (with_reducible assumption) | (with_reducible refine below_drewN ?_ _) | (with_reducible refine Below.drew ?_) | (with_reducible refine Below.alloc ?_ ?_ _) | (with_reducible refine Below.setCell ?_ ?_ _) | (with_reducible refine Below.trans ?_ (Below.mono (by assumption) ?_)) | first | omega | (simp only [World.size_alloc, World.size_setCell, World.size_drew, size_drewN]; omega) | (simp; done) | (simp; omega) | (simp only [World.size_alloc, World.size_setCell, World.size_drew, size_drewN] at *; omega) | (simp at *; omega)); done) | ((try go_split_ands); (refine ⟨?_, ?_, ?_, ?_, ?_⟩ <;> first | omega | (simp only [World.size_alloc, World.size_setCell, World.size_drew, size_drewN]; omega) | (simp (disch := first | omega | (simp; done) | (simp; omega)) [go_sem, *]; done) | ((repeat' first | (with_reducible exact Below.refl _ _) | (with_reducible assumption) | (with_reducible refine below_drewN ?_ _) | (with_reducible refine Below.drew ?_) | (with_reducible refine Below.alloc ?_ ?_ _) | (with_reducible refine Below.setCell ?_ ?_ _) | (with_reducible refine Below.trans ?_ (Below.mono (by assumption) ?_)) | first | omega | (simp only [World.size_alloc, World.size_setCell, World.size_drew, size_drewN]; omega) | (simp; done) | (simp; omega) | (simp only [World.size_alloc, World.size_setCell, World.size_drew, size_drewN] at *; omega) | (simp at *; omega)); done))))
      (first
        | (go_at_call 11; refine (sTermText_ok _ _ _ ht).mono ?_; rintro e w2 ⟨rfl, hb2⟩; obtain ⟨hc2, hf2⟩ := bcell hb2; have hz2 := hb2.size; (try simp only [World.size_alloc, World.size_setCell, World.size_drew, size_drewN] at hz2 hc2 hf2); (have g2a : w.heap.size < w2.heap.size := by omega))
        | (go_at_call 36; refine (sSpinText_ok _ _ j0 j1).mono ?_; rintro e w3 ⟨rfl, hb3⟩; obtain ⟨hc3, hf3⟩ := bcell hb3; have hz3 := hb3.size; (try simp only [World.size_alloc, World.size_setCell, World.size_drew, size_drewN] at hz3 hc3 hf3); (have g3a : w.heap.size < w3.heap.size := by omega)))
    go_wp2
    go_ret
    exact ⟨rfl, by (repeat' first | (with_reducible exact Below.refl _ _) | (with_reducible assumption) | (with_reducible refine below_drewN ?_ _) | (with_reducible refine Below.drew ?_) | (with_reducible refine Below.alloc ?_ ?_ _) | (with_reducible refine Below.setCell ?_ ?_ _) | (with_reducible refine Below.trans ?_ (Below.mono (by assumption) ?_)) | first | omega | (simp only [World.size_alloc, World.size_setCell, World.size_drew, size_drewN]; omega) | (simp; done) | (simp; omega) | (simp only [World.size_alloc, World.size_setCell, World.size_drew, size_drewN] at *; omega) | (simp at *; omega))⟩
end Go.Proofs.YtpggbfpjofcgnaaDoor
