/-
  The walk of the law FnExactTermsSort. Conditions: none.
-/
import Derived.Test.YtmcjabfnlpohaaaHrb
import Derived.Test.YtmcjabfnlpohaaaSjo
namespace Go.Proofs.Ytmcjabfnlpohaaa
set_option linter.unusedSimpArgs false
set_option linter.unusedVariables false
open Go.RowKit


set_option maxRecDepth 20000 in
set_option maxHeartbeats 4000000 in
theorem walk_FnExactTermsSort (a : Option Addr) (len cap : Nat) (xs : List Tm) (w : World) (hA : ArgT w a len xs) (hm : len ≤ maxLen) :
    Calls Try.prog 9 #[.slice a len cap] w fun e w' => e = .returned (.bool true) ∧ Below w.heap.size w w' := by
  have HSZ := Lib.hid (szTermS_any a len cap 1048576 w (by omega) (by omega) hm)
  by_cases hlen : (1048576 : Int) < (len : Int)
  · have h2 := HSZ.out
    rw [if_pos hlen] at h2
    have HS2 := Lib.hid h2
    clear hA h2
    go_enter Try.func9, Try.ntmps9
    go_wp2_with (go_at_call 31; refine (HS2.out).mono ?_; rintro e w' ⟨rfl, rfl⟩)
    go_ret
    exact ⟨rfl, Below.refl _ _⟩
  have h2 := HSZ.out
  rw [if_neg hlen] at h2
  have HS2 := Lib.hid h2
  have hl : len ≤ 1048576 := by omega
  have hxl : xs.length ≤ 1048576 := by rw [hA.1]; exact hl
  have hpl : (sortP xs).length ≤ 1048576 := Nat.le_trans (sortP_len xs) hxl
  have HA := Lib.hid hA
  have HB0 : Hid (Below w.heap.size w w) := Lib.hid (Below.refl _ _)
  have d1 : decide ((1048576 : Int) - (len : Int) < 0) = false := by simp; omega
  have d2 : ¬ (1048576 : Int) - (len : Int) < 0 := by omega
  clear hA h2 HSZ hlen
  go_enter Try.func9, Try.ntmps9
  go_wp2_with fail
  refine (HS2.out).mono ?_
  rintro e w' ⟨rfl, rfl⟩
  go_wp2_with fail
  refine (toTermS_any a len cap xs _ (HA.out) (by omega)).mono ?_
  rintro e w1 ⟨v1, rfl, hr1, hb1⟩
  have hk1 : Below w.heap.size w w1 := by (repeat' first | (with_reducible exact Below.refl _ _) | (with_reducible assumption) | (with_reducible refine below_drewN ?_ _) | (with_reducible refine Below.drew ?_) | (with_reducible refine Below.alloc ?_ ?_ _) | (with_reducible refine Below.setCell ?_ ?_ _) | (with_reducible refine Below.trans ?_ (Below.mono (by assumption) ?_)) | first | omega | (simp only [World.size_alloc, World.size_setCell, World.size_drew, size_drewN]; omega) | (simp; done) | (simp; omega) | (simp only [World.size_alloc, World.size_setCell, World.size_drew, size_drewN] at *; omega) | (simp at *; omega))
  have hz1 := hk1.size
  have HB1 : Hid (Below w.heap.size w w1) := Lib.hid (HB0.out.trans (hk1.mono HB0.out.size))
  have HR1_1 : Hid (RowB w1 w.heap.size w1.heap.size v1 xs) := Lib.hid (RowL.bnd hr1)
  clear hb1 hk1
  go_wp2_with fail
  refine (sTSort_any v1 xs _ (by omega) HR1_1.out.inp).mono ?_
  rintro e w2 ⟨v2, rfl, hr2, hb2⟩
  have hk2 : Below w1.heap.size w1 w2 := by (repeat' first | (with_reducible exact Below.refl _ _) | (with_reducible assumption) | (with_reducible refine below_drewN ?_ _) | (with_reducible refine Below.drew ?_) | (with_reducible refine Below.alloc ?_ ?_ _) | (with_reducible refine Below.setCell ?_ ?_ _) | (with_reducible refine Below.trans ?_ (Below.mono (by assumption) ?_)) | first | omega | (simp only [World.size_alloc, World.size_setCell, World.size_drew, size_drewN]; omega) | (simp; done) | (simp; omega) | (simp only [World.size_alloc, World.size_setCell, World.size_drew, size_drewN] at *; omega) | (simp at *; omega))
  have hz2 := hk2.size
  have HB2 : Hid (Below w.heap.size w w2) := Lib.hid (HB1.out.trans (hk2.mono HB1.out.size))
  have HR1_2 : Hid (RowB w2 w.heap.size w1.heap.size v1 xs) := Lib.hid (HR1_1.out.below hk2)
  have HR2_2 : Hid (RowB w2 w1.heap.size w2.heap.size v2 (sortP xs)) := Lib.hid (RowR.bnd hr2)
  clear hb2 hk2 HR1_1
  go_wp2_with fail
  refine (toTermS_any a len cap xs _ (HA.out.below HB2.out) (by omega)).mono ?_
  rintro e w3 ⟨v3, rfl, hr3, hb3⟩
  have hk3 : Below w2.heap.size w2 w3 := by (repeat' first | (with_reducible exact Below.refl _ _) | (with_reducible assumption) | (with_reducible refine below_drewN ?_ _) | (with_reducible refine Below.drew ?_) | (with_reducible refine Below.alloc ?_ ?_ _) | (with_reducible refine Below.setCell ?_ ?_ _) | (with_reducible refine Below.trans ?_ (Below.mono (by assumption) ?_)) | first | omega | (simp only [World.size_alloc, World.size_setCell, World.size_drew, size_drewN]; omega) | (simp; done) | (simp; omega) | (simp only [World.size_alloc, World.size_setCell, World.size_drew, size_drewN] at *; omega) | (simp at *; omega))
  have hz3 := hk3.size
  have HB3 : Hid (Below w.heap.size w w3) := Lib.hid (HB2.out.trans (hk3.mono HB2.out.size))
  have HR1_3 : Hid (RowB w3 w.heap.size w1.heap.size v1 xs) := Lib.hid (HR1_2.out.below hk3)
  have HR2_3 : Hid (RowB w3 w1.heap.size w2.heap.size v2 (sortP xs)) := Lib.hid (HR2_2.out.below hk3)
  have HR3_3 : Hid (RowB w3 w2.heap.size w3.heap.size v3 xs) := Lib.hid (RowL.bnd hr3)
  clear hb3 hk3 HR1_2 HR2_2
  go_wp2_with fail
  refine (iSort_any v3 xs _ (by omega) HR3_3.out.inp).mono ?_
  rintro e w4 ⟨v4, rfl, hr4, hb4⟩
  have hk4 : Below w3.heap.size w3 w4 := by (repeat' first | (with_reducible exact Below.refl _ _) | (with_reducible assumption) | (with_reducible refine below_drewN ?_ _) | (with_reducible refine Below.drew ?_) | (with_reducible refine Below.alloc ?_ ?_ _) | (with_reducible refine Below.setCell ?_ ?_ _) | (with_reducible refine Below.trans ?_ (Below.mono (by assumption) ?_)) | first | omega | (simp only [World.size_alloc, World.size_setCell, World.size_drew, size_drewN]; omega) | (simp; done) | (simp; omega) | (simp only [World.size_alloc, World.size_setCell, World.size_drew, size_drewN] at *; omega) | (simp at *; omega))
  have hz4 := hk4.size
  have HB4 : Hid (Below w.heap.size w w4) := Lib.hid (HB3.out.trans (hk4.mono HB3.out.size))
  have HR1_4 : Hid (RowB w4 w.heap.size w1.heap.size v1 xs) := Lib.hid (HR1_3.out.below hk4)
  have HR2_4 : Hid (RowB w4 w1.heap.size w2.heap.size v2 (sortP xs)) := Lib.hid (HR2_3.out.below hk4)
  have HR3_4 : Hid (RowB w4 w2.heap.size w3.heap.size v3 xs) := Lib.hid (HR3_3.out.below hk4)
  have HR4_4 : Hid (RowB w4 w3.heap.size w4.heap.size v4 (sortP xs)) := Lib.hid (RowR.bnd hr4)
  clear hb4 hk4 HR1_3 HR2_3 HR3_3
  go_wp2_with fail
  refine (eqS_any v4 v2 _ _ (by omega) HR4_4.out.inp HR2_4.out.inp).mono ?_
  rintro e w5 ⟨rfl, hb5⟩
  have hk5 : Below w4.heap.size w4 w5 := by (repeat' first | (with_reducible exact Below.refl _ _) | (with_reducible assumption) | (with_reducible refine below_drewN ?_ _) | (with_reducible refine Below.drew ?_) | (with_reducible refine Below.alloc ?_ ?_ _) | (with_reducible refine Below.setCell ?_ ?_ _) | (with_reducible refine Below.trans ?_ (Below.mono (by assumption) ?_)) | first | omega | (simp only [World.size_alloc, World.size_setCell, World.size_drew, size_drewN]; omega) | (simp; done) | (simp; omega) | (simp only [World.size_alloc, World.size_setCell, World.size_drew, size_drewN] at *; omega) | (simp at *; omega))
  have hz5 := hk5.size
  have HB5 : Hid (Below w.heap.size w w5) := Lib.hid (HB4.out.trans (hk5.mono HB4.out.size))
  have HR1_5 : Hid (RowB w5 w.heap.size w1.heap.size v1 xs) := Lib.hid (HR1_4.out.below hk5)
  have HR2_5 : Hid (RowB w5 w1.heap.size w2.heap.size v2 (sortP xs)) := Lib.hid (HR2_4.out.below hk5)
  have HR3_5 : Hid (RowB w5 w2.heap.size w3.heap.size v3 xs) := Lib.hid (HR3_4.out.below hk5)
  have HR4_5 : Hid (RowB w5 w3.heap.size w4.heap.size v4 (sortP xs)) := Lib.hid (HR4_4.out.below hk5)
  clear hb5 hk5 HR1_4 HR2_4 HR3_4 HR4_4
  go_wp2_with fail
  refine (toTermS_any a len cap xs _ (HA.out.below HB5.out) (by omega)).mono ?_
  rintro e w6 ⟨v6, rfl, hr6, hb6⟩
  have hk6 : Below w5.heap.size w5 w6 := by (repeat' first | (with_reducible exact Below.refl _ _) | (with_reducible assumption) | (with_reducible refine below_drewN ?_ _) | (with_reducible refine Below.drew ?_) | (with_reducible refine Below.alloc ?_ ?_ _) | (with_reducible refine Below.setCell ?_ ?_ _) | (with_reducible refine Below.trans ?_ (Below.mono (by assumption) ?_)) | first | omega | (simp only [World.size_alloc, World.size_setCell, World.size_drew, size_drewN]; omega) | (simp; done) | (simp; omega) | (simp only [World.size_alloc, World.size_setCell, World.size_drew, size_drewN] at *; omega) | (simp at *; omega))
  have hz6 := hk6.size
  have HB6 : Hid (Below w.heap.size w w6) := Lib.hid (HB5.out.trans (hk6.mono HB5.out.size))
  have HR1_6 : Hid (RowB w6 w.heap.size w1.heap.size v1 xs) := Lib.hid (HR1_5.out.below hk6)
  have HR2_6 : Hid (RowB w6 w1.heap.size w2.heap.size v2 (sortP xs)) := Lib.hid (HR2_5.out.below hk6)
  have HR3_6 : Hid (RowB w6 w2.heap.size w3.heap.size v3 xs) := Lib.hid (HR3_5.out.below hk6)
  have HR4_6 : Hid (RowB w6 w3.heap.size w4.heap.size v4 (sortP xs)) := Lib.hid (HR4_5.out.below hk6)
  have HR6_6 : Hid (RowB w6 w5.heap.size w6.heap.size v6 xs) := Lib.hid (RowL.bnd hr6)
  clear hb6 hk6 HR1_5 HR2_5 HR3_5 HR4_5
  go_wp2_with fail
  refine (eqS_any v3 v6 _ _ (by omega) HR3_6.out.inp HR6_6.out.inp).mono ?_
  rintro e w7 ⟨rfl, hb7⟩
  have hk7 : Below w6.heap.size w6 w7 := by (repeat' first | (with_reducible exact Below.refl _ _) | (with_reducible assumption) | (with_reducible refine below_drewN ?_ _) | (with_reducible refine Below.drew ?_) | (with_reducible refine Below.alloc ?_ ?_ _) | (with_reducible refine Below.setCell ?_ ?_ _) | (with_reducible refine Below.trans ?_ (Below.mono (by assumption) ?_)) | first | omega | (simp only [World.size_alloc, World.size_setCell, World.size_drew, size_drewN]; omega) | (simp; done) | (simp; omega) | (simp only [World.size_alloc, World.size_setCell, World.size_drew, size_drewN] at *; omega) | (simp at *; omega))
  have hz7 := hk7.size
  have HB7 : Hid (Below w.heap.size w w7) := Lib.hid (HB6.out.trans (hk7.mono HB6.out.size))
  have HR1_7 : Hid (RowB w7 w.heap.size w1.heap.size v1 xs) := Lib.hid (HR1_6.out.below hk7)
  have HR2_7 : Hid (RowB w7 w1.heap.size w2.heap.size v2 (sortP xs)) := Lib.hid (HR2_6.out.below hk7)
  have HR3_7 : Hid (RowB w7 w2.heap.size w3.heap.size v3 xs) := Lib.hid (HR3_6.out.below hk7)
  have HR4_7 : Hid (RowB w7 w3.heap.size w4.heap.size v4 (sortP xs)) := Lib.hid (HR4_6.out.below hk7)
  have HR6_7 : Hid (RowB w7 w5.heap.size w6.heap.size v6 xs) := Lib.hid (HR6_6.out.below hk7)
  clear hb7 hk7 HR1_6 HR2_6 HR3_6 HR4_6 HR6_6
  go_wp2_with fail
  refine (mark_any v3 w2.heap.size xs _ (by omega) HR3_7.out.row).mono ?_
  rintro e w8 ⟨rfl, hh8, hz8, hbl8, g8, hg8, ho8⟩
  have HB8 : Hid (Below w.heap.size w w8) := Lib.hid (HB7.out.trans (hbl8 _ (by omega) HB7.out.size))
  have HR1_8 : Hid (RowB w8 w.heap.size w1.heap.size v1 xs) := Lib.hid (HR1_7.out.mark HR3_7.out (by omega) hg8 ho8)
  have HR2_8 : Hid (RowB w8 w1.heap.size w2.heap.size v2 (sortP xs)) := Lib.hid (HR2_7.out.mark HR3_7.out (by omega) hg8 ho8)
  have HR4_8 : Hid (RowB w8 w3.heap.size w4.heap.size v4 (sortP xs)) := Lib.hid (HR4_7.out.mark HR3_7.out (by omega) hg8 ho8)
  have HR6_8 : Hid (RowB w8 w5.heap.size w6.heap.size v6 xs) := Lib.hid (HR6_7.out.mark HR3_7.out (by omega) hg8 ho8)
  have HH3_8 : Hid (Heldr w8 w2.heap.size v3 xs.length) := Lib.hid hh8
  clear hh8 hbl8 hg8 ho8 HR1_7 HR2_7 HR3_7 HR4_7 HR6_7
  have dk : decide (1 + 2 * (xs.length : Int) < 0) = false := by simp; omega
  have dk2 : ¬ 1 + 2 * (xs.length : Int) < 0 := by omega
  go_wp2_with fail
  refine (eqS_any v4 v2 _ _ (by omega) HR4_8.out.inp HR2_8.out.inp).mono ?_
  rintro e w9 ⟨rfl, hb9⟩
  have hk9 : Below w8.heap.size w8 w9 := by (repeat' first | (with_reducible exact Below.refl _ _) | (with_reducible assumption) | (with_reducible refine below_drewN ?_ _) | (with_reducible refine Below.drew ?_) | (with_reducible refine Below.alloc ?_ ?_ _) | (with_reducible refine Below.setCell ?_ ?_ _) | (with_reducible refine Below.trans ?_ (Below.mono (by assumption) ?_)) | first | omega | (simp only [World.size_alloc, World.size_setCell, World.size_drew, size_drewN]; omega) | (simp; done) | (simp; omega) | (simp only [World.size_alloc, World.size_setCell, World.size_drew, size_drewN] at *; omega) | (simp at *; omega))
  have hz9 := hk9.size
  have HB9 : Hid (Below w.heap.size w w9) := Lib.hid (HB8.out.trans (hk9.mono HB8.out.size))
  have HR1_9 : Hid (RowB w9 w.heap.size w1.heap.size v1 xs) := Lib.hid (HR1_8.out.below hk9)
  have HR2_9 : Hid (RowB w9 w1.heap.size w2.heap.size v2 (sortP xs)) := Lib.hid (HR2_8.out.below hk9)
  have HR4_9 : Hid (RowB w9 w3.heap.size w4.heap.size v4 (sortP xs)) := Lib.hid (HR4_8.out.below hk9)
  have HR6_9 : Hid (RowB w9 w5.heap.size w6.heap.size v6 xs) := Lib.hid (HR6_8.out.below hk9)
  clear hb9 hk9 HR1_8 HR2_8 HR4_8 HR6_8
  go_wp2_with fail
  refine (mark_any v4 w3.heap.size (sortP xs) _ (by omega) HR4_9.out.row).mono ?_
  rintro e w10 ⟨rfl, hh10, hz10, hbl10, g10, hg10, ho10⟩
  have HB10 : Hid (Below w.heap.size w w10) := Lib.hid (HB9.out.trans (hbl10 _ (by omega) HB9.out.size))
  have HR1_10 : Hid (RowB w10 w.heap.size w1.heap.size v1 xs) := Lib.hid (HR1_9.out.mark HR4_9.out (by omega) hg10 ho10)
  have HR2_10 : Hid (RowB w10 w1.heap.size w2.heap.size v2 (sortP xs)) := Lib.hid (HR2_9.out.mark HR4_9.out (by omega) hg10 ho10)
  have HR6_10 : Hid (RowB w10 w5.heap.size w6.heap.size v6 xs) := Lib.hid (HR6_9.out.mark HR4_9.out (by omega) hg10 ho10)
  have HH4_10 : Hid (Heldr w10 w3.heap.size v4 (sortP xs).length) := Lib.hid hh10
  clear hh10 hbl10 hg10 ho10 HR1_9 HR2_9 HR4_9 HR6_9
  have dq : decide (1 + 2 * ((sortP xs).length : Int) < 0) = false := by simp; omega
  have dq2 : ¬ 1 + 2 * ((sortP xs).length : Int) < 0 := by omega
  go_wp2_with fail
  refine (held_any v4 _ _ _ (by omega) HH4_10.out).mono ?_
  rintro e w11 ⟨rfl, hb11⟩
  have hk11 : Below w10.heap.size w10 w11 := by (repeat' first | (with_reducible exact Below.refl _ _) | (with_reducible assumption) | (with_reducible refine below_drewN ?_ _) | (with_reducible refine Below.drew ?_) | (with_reducible refine Below.alloc ?_ ?_ _) | (with_reducible refine Below.setCell ?_ ?_ _) | (with_reducible refine Below.trans ?_ (Below.mono (by assumption) ?_)) | first | omega | (simp only [World.size_alloc, World.size_setCell, World.size_drew, size_drewN]; omega) | (simp; done) | (simp; omega) | (simp only [World.size_alloc, World.size_setCell, World.size_drew, size_drewN] at *; omega) | (simp at *; omega))
  have hz11 := hk11.size
  have HB11 : Hid (Below w.heap.size w w11) := Lib.hid (HB10.out.trans (hk11.mono HB10.out.size))
  have HR1_11 : Hid (RowB w11 w.heap.size w1.heap.size v1 xs) := Lib.hid (HR1_10.out.below hk11)
  have HR2_11 : Hid (RowB w11 w1.heap.size w2.heap.size v2 (sortP xs)) := Lib.hid (HR2_10.out.below hk11)
  have HR6_11 : Hid (RowB w11 w5.heap.size w6.heap.size v6 xs) := Lib.hid (HR6_10.out.below hk11)
  have HH4_11 : Hid (Heldr w11 w3.heap.size v4 (sortP xs).length) := Lib.hid (HH4_10.out.below hk11)
  clear hb11 hk11 HR1_10 HR2_10 HR6_10 HH4_10
  go_wp2_with fail
  refine (toTermS_any a len cap xs _ (HA.out.below HB11.out) (by omega)).mono ?_
  rintro e w12 ⟨v12, rfl, hr12, hb12⟩
  have hk12 : Below w11.heap.size w11 w12 := by (repeat' first | (with_reducible exact Below.refl _ _) | (with_reducible assumption) | (with_reducible refine below_drewN ?_ _) | (with_reducible refine Below.drew ?_) | (with_reducible refine Below.alloc ?_ ?_ _) | (with_reducible refine Below.setCell ?_ ?_ _) | (with_reducible refine Below.trans ?_ (Below.mono (by assumption) ?_)) | first | omega | (simp only [World.size_alloc, World.size_setCell, World.size_drew, size_drewN]; omega) | (simp; done) | (simp; omega) | (simp only [World.size_alloc, World.size_setCell, World.size_drew, size_drewN] at *; omega) | (simp at *; omega))
  have hz12 := hk12.size
  have HB12 : Hid (Below w.heap.size w w12) := Lib.hid (HB11.out.trans (hk12.mono HB11.out.size))
  have HR1_12 : Hid (RowB w12 w.heap.size w1.heap.size v1 xs) := Lib.hid (HR1_11.out.below hk12)
  have HR2_12 : Hid (RowB w12 w1.heap.size w2.heap.size v2 (sortP xs)) := Lib.hid (HR2_11.out.below hk12)
  have HR6_12 : Hid (RowB w12 w5.heap.size w6.heap.size v6 xs) := Lib.hid (HR6_11.out.below hk12)
  have HH4_12 : Hid (Heldr w12 w3.heap.size v4 (sortP xs).length) := Lib.hid (HH4_11.out.below hk12)
  have HR12_12 : Hid (RowB w12 w11.heap.size w12.heap.size v12 xs) := Lib.hid (RowL.bnd hr12)
  clear hb12 hk12 HR1_11 HR2_11 HR6_11 HH4_11
  go_wp2_with fail
  refine (iSort_any v12 xs _ (by omega) HR12_12.out.inp).mono ?_
  rintro e w13 ⟨v13, rfl, hr13, hb13⟩
  have hk13 : Below w12.heap.size w12 w13 := by (repeat' first | (with_reducible exact Below.refl _ _) | (with_reducible assumption) | (with_reducible refine below_drewN ?_ _) | (with_reducible refine Below.drew ?_) | (with_reducible refine Below.alloc ?_ ?_ _) | (with_reducible refine Below.setCell ?_ ?_ _) | (with_reducible refine Below.trans ?_ (Below.mono (by assumption) ?_)) | first | omega | (simp only [World.size_alloc, World.size_setCell, World.size_drew, size_drewN]; omega) | (simp; done) | (simp; omega) | (simp only [World.size_alloc, World.size_setCell, World.size_drew, size_drewN] at *; omega) | (simp at *; omega))
  have hz13 := hk13.size
  have HB13 : Hid (Below w.heap.size w w13) := Lib.hid (HB12.out.trans (hk13.mono HB12.out.size))
  have HR1_13 : Hid (RowB w13 w.heap.size w1.heap.size v1 xs) := Lib.hid (HR1_12.out.below hk13)
  have HR2_13 : Hid (RowB w13 w1.heap.size w2.heap.size v2 (sortP xs)) := Lib.hid (HR2_12.out.below hk13)
  have HR6_13 : Hid (RowB w13 w5.heap.size w6.heap.size v6 xs) := Lib.hid (HR6_12.out.below hk13)
  have HR12_13 : Hid (RowB w13 w11.heap.size w12.heap.size v12 xs) := Lib.hid (HR12_12.out.below hk13)
  have HH4_13 : Hid (Heldr w13 w3.heap.size v4 (sortP xs).length) := Lib.hid (HH4_12.out.below hk13)
  have HR13_13 : Hid (RowB w13 w12.heap.size w13.heap.size v13 (sortP xs)) := Lib.hid (RowR.bnd hr13)
  clear hb13 hk13 HR1_12 HR2_12 HR6_12 HR12_12 HH4_12
  go_wp2_with fail
  refine (eqS_any v13 v2 _ _ (by omega) HR13_13.out.inp HR2_13.out.inp).mono ?_
  rintro e w14 ⟨rfl, hb14⟩
  have hk14 : Below w13.heap.size w13 w14 := by (repeat' first | (with_reducible exact Below.refl _ _) | (with_reducible assumption) | (with_reducible refine below_drewN ?_ _) | (with_reducible refine Below.drew ?_) | (with_reducible refine Below.alloc ?_ ?_ _) | (with_reducible refine Below.setCell ?_ ?_ _) | (with_reducible refine Below.trans ?_ (Below.mono (by assumption) ?_)) | first | omega | (simp only [World.size_alloc, World.size_setCell, World.size_drew, size_drewN]; omega) | (simp; done) | (simp; omega) | (simp only [World.size_alloc, World.size_setCell, World.size_drew, size_drewN] at *; omega) | (simp at *; omega))
  have hz14 := hk14.size
  have HB14 : Hid (Below w.heap.size w w14) := Lib.hid (HB13.out.trans (hk14.mono HB13.out.size))
  have HR1_14 : Hid (RowB w14 w.heap.size w1.heap.size v1 xs) := Lib.hid (HR1_13.out.below hk14)
  have HR2_14 : Hid (RowB w14 w1.heap.size w2.heap.size v2 (sortP xs)) := Lib.hid (HR2_13.out.below hk14)
  have HR6_14 : Hid (RowB w14 w5.heap.size w6.heap.size v6 xs) := Lib.hid (HR6_13.out.below hk14)
  have HR12_14 : Hid (RowB w14 w11.heap.size w12.heap.size v12 xs) := Lib.hid (HR12_13.out.below hk14)
  have HR13_14 : Hid (RowB w14 w12.heap.size w13.heap.size v13 (sortP xs)) := Lib.hid (HR13_13.out.below hk14)
  have HH4_14 : Hid (Heldr w14 w3.heap.size v4 (sortP xs).length) := Lib.hid (HH4_13.out.below hk14)
  clear hb14 hk14 HR1_13 HR2_13 HR6_13 HR12_13 HR13_13 HH4_13
  go_wp2_with fail
  refine (held_any v4 _ _ _ (by omega) HH4_14.out).mono ?_
  rintro e w15 ⟨rfl, hb15⟩
  have hk15 : Below w14.heap.size w14 w15 := by (repeat' first | (with_reducible exact Below.refl _ _) | (with_reducible assumption) | (with_reducible refine below_drewN ?_ _) | (with_reducible refine Below.drew ?_) | (with_reducible refine Below.alloc ?_ ?_ _) | (with_reducible refine Below.setCell ?_ ?_ _) | (with_reducible refine Below.trans ?_ (Below.mono (by assumption) ?_)) | first | omega | (simp only [World.size_alloc, World.size_setCell, World.size_drew, size_drewN]; omega) | (simp; done) | (simp; omega) | (simp only [World.size_alloc, World.size_setCell, World.size_drew, size_drewN] at *; omega) | (simp at *; omega))
  have hz15 := hk15.size
  have HB15 : Hid (Below w.heap.size w w15) := Lib.hid (HB14.out.trans (hk15.mono HB14.out.size))
  have HR1_15 : Hid (RowB w15 w.heap.size w1.heap.size v1 xs) := Lib.hid (HR1_14.out.below hk15)
  have HR2_15 : Hid (RowB w15 w1.heap.size w2.heap.size v2 (sortP xs)) := Lib.hid (HR2_14.out.below hk15)
  have HR6_15 : Hid (RowB w15 w5.heap.size w6.heap.size v6 xs) := Lib.hid (HR6_14.out.below hk15)
  have HR12_15 : Hid (RowB w15 w11.heap.size w12.heap.size v12 xs) := Lib.hid (HR12_14.out.below hk15)
  have HR13_15 : Hid (RowB w15 w12.heap.size w13.heap.size v13 (sortP xs)) := Lib.hid (HR13_14.out.below hk15)
  have HH4_15 : Hid (Heldr w15 w3.heap.size v4 (sortP xs).length) := Lib.hid (HH4_14.out.below hk15)
  clear hb15 hk15 HR1_14 HR2_14 HR6_14 HR12_14 HR13_14 HH4_14
  go_wp2
  go_ret
  exact ⟨rfl, HB15.out⟩
end Go.Proofs.Ytmcjabfnlpohaaa
