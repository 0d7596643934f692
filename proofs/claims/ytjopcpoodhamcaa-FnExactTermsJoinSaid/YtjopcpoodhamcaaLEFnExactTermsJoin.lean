/-
  The walk of the law FnExactTermsJoin. Conditions: none.
-/
import Derived.Test.YtjopcpoodhamcaaHrb
import Derived.Test.YtjopcpoodhamcaaSjo
import Derived.Test.YtjopcpoodhamcaaHmj
namespace Go.Proofs.Ytjopcpoodhamcaa
set_option linter.unusedSimpArgs false
set_option linter.unusedVariables false
open Go.RowKit


set_option maxRecDepth 20000 in
set_option maxHeartbeats 4000000 in
theorem walk_FnExactTermsJoin (a : Option Addr) (len cap : Nat) (xs : List Tm) (a2 : Option Addr) (len2 cap2 : Nat) (ys : List Tm) (w : World) (hA : ArgT w a len xs) (hm : len ≤ maxLen) (hA2 : ArgT w a2 len2 ys) (hm2 : len2 ≤ maxLen) :
    Calls Try.prog 3 #[.slice a len cap, .slice a2 len2 cap2] w fun e w' => e = .returned (.bool true) ∧ Below w.heap.size w w' := by
  have HSZ := Lib.hid (szTermS_any a len cap 1048576 w (by omega) (by omega) hm)
  by_cases hlen : (1048576 : Int) < (len : Int)
  · have h2 := HSZ.out
    rw [if_pos hlen] at h2
    have HS2 := Lib.hid h2
    clear hA h2 hA2
    go_enter Try.func3, Try.ntmps3
    go_wp2_with (go_at_call 4; refine (HS2.out).mono ?_; rintro e w' ⟨rfl, rfl⟩)
    go_ret
    exact ⟨rfl, Below.refl _ _⟩
  have h2 := HSZ.out
  rw [if_neg hlen] at h2
  have HS2 := Lib.hid h2
  have hl : len ≤ 1048576 := by omega
  have d1 : decide ((1048576 : Int) - (len : Int) < 0) = false := by simp; omega
  have d2 : ¬ (1048576 : Int) - (len : Int) < 0 := by omega
  obtain ⟨L, hL⟩ : ∃ L, L = (1048576 : Int) - (len : Int) := ⟨_, rfl⟩
  rw [← hL] at HS2 d1 d2
  have hL0 : 0 ≤ L := by omega
  have hL1 : L ≤ 1048576 := by omega
  have HSZ2 := Lib.hid (szTermS_any a2 len2 cap2 L w hL0 hL1 hm2)
  clear h2 HSZ hlen
  by_cases hlen2 : L < (len2 : Int)
  · have h3 := HSZ2.out
    rw [if_pos hlen2] at h3
    have HS3 := Lib.hid h3
    clear hA hA2 h3 hL
    go_enter Try.func3, Try.ntmps3
    go_wp2_with fail
    refine (HS2.out).mono ?_
    rintro e w' ⟨rfl, rfl⟩
    go_wp2_with fail
    refine (HS3.out).mono ?_
    rintro e w' ⟨rfl, rfl⟩
    go_wp2
    go_ret
    exact ⟨rfl, Below.refl _ _⟩
  have h3 := HSZ2.out
  rw [if_neg hlen2] at h3
  have HS3 := Lib.hid h3
  have hl2 : len2 ≤ 1048576 := by omega
  have d3 : decide (L - (len2 : Int) < 0) = false := by simp; omega
  have d4 : ¬ L - (len2 : Int) < 0 := by omega
  have hxl : xs.length ≤ 1048576 := by rw [hA.1]; exact hl
  have hyl : ys.length ≤ 1048576 := by rw [hA2.1]; exact hl2
  have hpl := joinP_len xs ys
  have HA := Lib.hid hA
  have HA2 := Lib.hid hA2
  have HB0 : Hid (Below w.heap.size w w) := Lib.hid (Below.refl _ _)
  clear hA hA2 h3 hL HSZ2 hlen2
  go_enter Try.func3, Try.ntmps3
  go_wp2_with fail
  refine (HS2.out).mono ?_
  rintro e w' ⟨rfl, rfl⟩
  go_wp2_with fail
  refine (HS3.out).mono ?_
  rintro e w' ⟨rfl, rfl⟩
  go_wp2_with fail
  refine (toTermS_any a len cap xs _ (HA.out) (by omega)).mono ?_
  rintro e w1 ⟨va, rfl, hva, hb1⟩
  have hk1 : Below w.heap.size w w1 := by (repeat' first | (with_reducible exact Below.refl _ _) | (with_reducible assumption) | (with_reducible refine below_drewN ?_ _) | (with_reducible refine Below.drew ?_) | (with_reducible refine Below.alloc ?_ ?_ _) | (with_reducible refine Below.setCell ?_ ?_ _) | (with_reducible refine Below.trans ?_ (Below.mono (by assumption) ?_)) | first | omega | (simp only [World.size_alloc, World.size_setCell, World.size_drew, size_drewN]; omega) | (simp; done) | (simp; omega) | (simp only [World.size_alloc, World.size_setCell, World.size_drew, size_drewN] at *; omega) | (simp at *; omega))
  have hz1 := hk1.size
  have HB1 : Hid (Below w.heap.size w w1) := Lib.hid (HB0.out.trans (hk1.mono HB0.out.size))
  have HRva_1 : Hid (RowB w1 w.heap.size w1.heap.size va xs) := Lib.hid (RowL.bnd hva)
  clear hb1 hk1
  go_wp2_with fail
  refine (toTermS_any a2 len2 cap2 ys _ (HA2.out.below HB1.out) (by omega)).mono ?_
  rintro e w2 ⟨vb, rfl, hvb, hb2⟩
  have hk2 : Below w1.heap.size w1 w2 := by (repeat' first | (with_reducible exact Below.refl _ _) | (with_reducible assumption) | (with_reducible refine below_drewN ?_ _) | (with_reducible refine Below.drew ?_) | (with_reducible refine Below.alloc ?_ ?_ _) | (with_reducible refine Below.setCell ?_ ?_ _) | (with_reducible refine Below.trans ?_ (Below.mono (by assumption) ?_)) | first | omega | (simp only [World.size_alloc, World.size_setCell, World.size_drew, size_drewN]; omega) | (simp; done) | (simp; omega) | (simp only [World.size_alloc, World.size_setCell, World.size_drew, size_drewN] at *; omega) | (simp at *; omega))
  have hz2 := hk2.size
  have HB2 : Hid (Below w.heap.size w w2) := Lib.hid (HB1.out.trans (hk2.mono HB1.out.size))
  have HRva_2 : Hid (RowB w2 w.heap.size w1.heap.size va xs) := Lib.hid (HRva_1.out.below hk2)
  have HRvb_2 : Hid (RowB w2 w1.heap.size w2.heap.size vb ys) := Lib.hid (RowL.bnd hvb)
  clear hb2 hk2 HRva_1
  go_wp2_with fail
  refine (sJoin_any va vb xs ys _ (by omega) (by omega) HRva_2.out.inp HRvb_2.out.inp).mono ?_
  rintro e w3 ⟨vw, rfl, hvw, hb3⟩
  have hk3 : Below w2.heap.size w2 w3 := by (repeat' first | (with_reducible exact Below.refl _ _) | (with_reducible assumption) | (with_reducible refine below_drewN ?_ _) | (with_reducible refine Below.drew ?_) | (with_reducible refine Below.alloc ?_ ?_ _) | (with_reducible refine Below.setCell ?_ ?_ _) | (with_reducible refine Below.trans ?_ (Below.mono (by assumption) ?_)) | first | omega | (simp only [World.size_alloc, World.size_setCell, World.size_drew, size_drewN]; omega) | (simp; done) | (simp; omega) | (simp only [World.size_alloc, World.size_setCell, World.size_drew, size_drewN] at *; omega) | (simp at *; omega))
  have hz3 := hk3.size
  have HB3 : Hid (Below w.heap.size w w3) := Lib.hid (HB2.out.trans (hk3.mono HB2.out.size))
  have HRva_3 : Hid (RowB w3 w.heap.size w1.heap.size va xs) := Lib.hid (HRva_2.out.below hk3)
  have HRvb_3 : Hid (RowB w3 w1.heap.size w2.heap.size vb ys) := Lib.hid (HRvb_2.out.below hk3)
  have HRvw_3 : Hid (RowB w3 w2.heap.size w3.heap.size vw (joinP xs ys)) := Lib.hid (RowR.bnd hvw)
  clear hb3 hk3 HRva_2 HRvb_2
  go_wp2_with fail
  refine (toTermS_any a len cap xs _ (HA.out.below HB3.out) (by omega)).mono ?_
  rintro e w4 ⟨x0, rfl, hx0, hb4⟩
  have hk4 : Below w3.heap.size w3 w4 := by (repeat' first | (with_reducible exact Below.refl _ _) | (with_reducible assumption) | (with_reducible refine below_drewN ?_ _) | (with_reducible refine Below.drew ?_) | (with_reducible refine Below.alloc ?_ ?_ _) | (with_reducible refine Below.setCell ?_ ?_ _) | (with_reducible refine Below.trans ?_ (Below.mono (by assumption) ?_)) | first | omega | (simp only [World.size_alloc, World.size_setCell, World.size_drew, size_drewN]; omega) | (simp; done) | (simp; omega) | (simp only [World.size_alloc, World.size_setCell, World.size_drew, size_drewN] at *; omega) | (simp at *; omega))
  have hz4 := hk4.size
  have HB4 : Hid (Below w.heap.size w w4) := Lib.hid (HB3.out.trans (hk4.mono HB3.out.size))
  have HRva_4 : Hid (RowB w4 w.heap.size w1.heap.size va xs) := Lib.hid (HRva_3.out.below hk4)
  have HRvb_4 : Hid (RowB w4 w1.heap.size w2.heap.size vb ys) := Lib.hid (HRvb_3.out.below hk4)
  have HRvw_4 : Hid (RowB w4 w2.heap.size w3.heap.size vw (joinP xs ys)) := Lib.hid (HRvw_3.out.below hk4)
  have HRx0_4 : Hid (RowB w4 w3.heap.size w4.heap.size x0 xs) := Lib.hid (RowL.bnd hx0)
  clear hb4 hk4 HRva_3 HRvb_3 HRvw_3
  go_wp2_with fail
  refine (toTermS_any a2 len2 cap2 ys _ (HA2.out.below HB4.out) (by omega)).mono ?_
  rintro e w5 ⟨x1, rfl, hx1, hb5⟩
  have hk5 : Below w4.heap.size w4 w5 := by (repeat' first | (with_reducible exact Below.refl _ _) | (with_reducible assumption) | (with_reducible refine below_drewN ?_ _) | (with_reducible refine Below.drew ?_) | (with_reducible refine Below.alloc ?_ ?_ _) | (with_reducible refine Below.setCell ?_ ?_ _) | (with_reducible refine Below.trans ?_ (Below.mono (by assumption) ?_)) | first | omega | (simp only [World.size_alloc, World.size_setCell, World.size_drew, size_drewN]; omega) | (simp; done) | (simp; omega) | (simp only [World.size_alloc, World.size_setCell, World.size_drew, size_drewN] at *; omega) | (simp at *; omega))
  have hz5 := hk5.size
  have HB5 : Hid (Below w.heap.size w w5) := Lib.hid (HB4.out.trans (hk5.mono HB4.out.size))
  have HRva_5 : Hid (RowB w5 w.heap.size w1.heap.size va xs) := Lib.hid (HRva_4.out.below hk5)
  have HRvb_5 : Hid (RowB w5 w1.heap.size w2.heap.size vb ys) := Lib.hid (HRvb_4.out.below hk5)
  have HRvw_5 : Hid (RowB w5 w2.heap.size w3.heap.size vw (joinP xs ys)) := Lib.hid (HRvw_4.out.below hk5)
  have HRx0_5 : Hid (RowB w5 w3.heap.size w4.heap.size x0 xs) := Lib.hid (HRx0_4.out.below hk5)
  have HRx1_5 : Hid (RowB w5 w4.heap.size w5.heap.size x1 ys) := Lib.hid (RowL.bnd hx1)
  clear hb5 hk5 HRva_4 HRvb_4 HRvw_4 HRx0_4
  go_wp2_with fail
  refine (iJoin_any x0 x1 xs ys _ (by omega) (by omega) HRx0_5.out.inp HRx1_5.out.inp).mono ?_
  rintro e w6 ⟨vg, rfl, hvg, hb6⟩
  have hk6 : Below w5.heap.size w5 w6 := by (repeat' first | (with_reducible exact Below.refl _ _) | (with_reducible assumption) | (with_reducible refine below_drewN ?_ _) | (with_reducible refine Below.drew ?_) | (with_reducible refine Below.alloc ?_ ?_ _) | (with_reducible refine Below.setCell ?_ ?_ _) | (with_reducible refine Below.trans ?_ (Below.mono (by assumption) ?_)) | first | omega | (simp only [World.size_alloc, World.size_setCell, World.size_drew, size_drewN]; omega) | (simp; done) | (simp; omega) | (simp only [World.size_alloc, World.size_setCell, World.size_drew, size_drewN] at *; omega) | (simp at *; omega))
  have hz6 := hk6.size
  have HB6 : Hid (Below w.heap.size w w6) := Lib.hid (HB5.out.trans (hk6.mono HB5.out.size))
  have HRva_6 : Hid (RowB w6 w.heap.size w1.heap.size va xs) := Lib.hid (HRva_5.out.below hk6)
  have HRvb_6 : Hid (RowB w6 w1.heap.size w2.heap.size vb ys) := Lib.hid (HRvb_5.out.below hk6)
  have HRvw_6 : Hid (RowB w6 w2.heap.size w3.heap.size vw (joinP xs ys)) := Lib.hid (HRvw_5.out.below hk6)
  have HRx0_6 : Hid (RowB w6 w3.heap.size w4.heap.size x0 xs) := Lib.hid (HRx0_5.out.below hk6)
  have HRx1_6 : Hid (RowB w6 w4.heap.size w5.heap.size x1 ys) := Lib.hid (HRx1_5.out.below hk6)
  have HRvg_6 : Hid (RowB w6 w5.heap.size w6.heap.size vg (joinP xs ys)) := Lib.hid (RowR.bnd hvg)
  clear hb6 hk6 HRva_5 HRvb_5 HRvw_5 HRx0_5 HRx1_5
  go_wp2_with fail
  refine (eqS_any vg vw _ _ (by omega) HRvg_6.out.inp HRvw_6.out.inp).mono ?_
  rintro e w7 ⟨rfl, hb7⟩
  have hk7 : Below w6.heap.size w6 w7 := by (repeat' first | (with_reducible exact Below.refl _ _) | (with_reducible assumption) | (with_reducible refine below_drewN ?_ _) | (with_reducible refine Below.drew ?_) | (with_reducible refine Below.alloc ?_ ?_ _) | (with_reducible refine Below.setCell ?_ ?_ _) | (with_reducible refine Below.trans ?_ (Below.mono (by assumption) ?_)) | first | omega | (simp only [World.size_alloc, World.size_setCell, World.size_drew, size_drewN]; omega) | (simp; done) | (simp; omega) | (simp only [World.size_alloc, World.size_setCell, World.size_drew, size_drewN] at *; omega) | (simp at *; omega))
  have hz7 := hk7.size
  have HB7 : Hid (Below w.heap.size w w7) := Lib.hid (HB6.out.trans (hk7.mono HB6.out.size))
  have HRva_7 : Hid (RowB w7 w.heap.size w1.heap.size va xs) := Lib.hid (HRva_6.out.below hk7)
  have HRvb_7 : Hid (RowB w7 w1.heap.size w2.heap.size vb ys) := Lib.hid (HRvb_6.out.below hk7)
  have HRvw_7 : Hid (RowB w7 w2.heap.size w3.heap.size vw (joinP xs ys)) := Lib.hid (HRvw_6.out.below hk7)
  have HRx0_7 : Hid (RowB w7 w3.heap.size w4.heap.size x0 xs) := Lib.hid (HRx0_6.out.below hk7)
  have HRx1_7 : Hid (RowB w7 w4.heap.size w5.heap.size x1 ys) := Lib.hid (HRx1_6.out.below hk7)
  have HRvg_7 : Hid (RowB w7 w5.heap.size w6.heap.size vg (joinP xs ys)) := Lib.hid (HRvg_6.out.below hk7)
  clear hb7 hk7 HRva_6 HRvb_6 HRvw_6 HRx0_6 HRx1_6 HRvg_6
  go_wp2_with fail
  refine (toTermS_any a len cap xs _ (HA.out.below HB7.out) (by omega)).mono ?_
  rintro e w8 ⟨y0, rfl, hy0, hb8⟩
  have hk8 : Below w7.heap.size w7 w8 := by (repeat' first | (with_reducible exact Below.refl _ _) | (with_reducible assumption) | (with_reducible refine below_drewN ?_ _) | (with_reducible refine Below.drew ?_) | (with_reducible refine Below.alloc ?_ ?_ _) | (with_reducible refine Below.setCell ?_ ?_ _) | (with_reducible refine Below.trans ?_ (Below.mono (by assumption) ?_)) | first | omega | (simp only [World.size_alloc, World.size_setCell, World.size_drew, size_drewN]; omega) | (simp; done) | (simp; omega) | (simp only [World.size_alloc, World.size_setCell, World.size_drew, size_drewN] at *; omega) | (simp at *; omega))
  have hz8 := hk8.size
  have HB8 : Hid (Below w.heap.size w w8) := Lib.hid (HB7.out.trans (hk8.mono HB7.out.size))
  have HRva_8 : Hid (RowB w8 w.heap.size w1.heap.size va xs) := Lib.hid (HRva_7.out.below hk8)
  have HRvb_8 : Hid (RowB w8 w1.heap.size w2.heap.size vb ys) := Lib.hid (HRvb_7.out.below hk8)
  have HRvw_8 : Hid (RowB w8 w2.heap.size w3.heap.size vw (joinP xs ys)) := Lib.hid (HRvw_7.out.below hk8)
  have HRx0_8 : Hid (RowB w8 w3.heap.size w4.heap.size x0 xs) := Lib.hid (HRx0_7.out.below hk8)
  have HRx1_8 : Hid (RowB w8 w4.heap.size w5.heap.size x1 ys) := Lib.hid (HRx1_7.out.below hk8)
  have HRvg_8 : Hid (RowB w8 w5.heap.size w6.heap.size vg (joinP xs ys)) := Lib.hid (HRvg_7.out.below hk8)
  have HRy0_8 : Hid (RowB w8 w7.heap.size w8.heap.size y0 xs) := Lib.hid (RowL.bnd hy0)
  clear hb8 hk8 HRva_7 HRvb_7 HRvw_7 HRx0_7 HRx1_7 HRvg_7
  go_wp2_with fail
  refine (eqS_any x0 y0 _ _ (by omega) HRx0_8.out.inp HRy0_8.out.inp).mono ?_
  rintro e w9 ⟨rfl, hb9⟩
  have hk9 : Below w8.heap.size w8 w9 := by (repeat' first | (with_reducible exact Below.refl _ _) | (with_reducible assumption) | (with_reducible refine below_drewN ?_ _) | (with_reducible refine Below.drew ?_) | (with_reducible refine Below.alloc ?_ ?_ _) | (with_reducible refine Below.setCell ?_ ?_ _) | (with_reducible refine Below.trans ?_ (Below.mono (by assumption) ?_)) | first | omega | (simp only [World.size_alloc, World.size_setCell, World.size_drew, size_drewN]; omega) | (simp; done) | (simp; omega) | (simp only [World.size_alloc, World.size_setCell, World.size_drew, size_drewN] at *; omega) | (simp at *; omega))
  have hz9 := hk9.size
  have HB9 : Hid (Below w.heap.size w w9) := Lib.hid (HB8.out.trans (hk9.mono HB8.out.size))
  have HRva_9 : Hid (RowB w9 w.heap.size w1.heap.size va xs) := Lib.hid (HRva_8.out.below hk9)
  have HRvb_9 : Hid (RowB w9 w1.heap.size w2.heap.size vb ys) := Lib.hid (HRvb_8.out.below hk9)
  have HRvw_9 : Hid (RowB w9 w2.heap.size w3.heap.size vw (joinP xs ys)) := Lib.hid (HRvw_8.out.below hk9)
  have HRx0_9 : Hid (RowB w9 w3.heap.size w4.heap.size x0 xs) := Lib.hid (HRx0_8.out.below hk9)
  have HRx1_9 : Hid (RowB w9 w4.heap.size w5.heap.size x1 ys) := Lib.hid (HRx1_8.out.below hk9)
  have HRvg_9 : Hid (RowB w9 w5.heap.size w6.heap.size vg (joinP xs ys)) := Lib.hid (HRvg_8.out.below hk9)
  have HRy0_9 : Hid (RowB w9 w7.heap.size w8.heap.size y0 xs) := Lib.hid (HRy0_8.out.below hk9)
  clear hb9 hk9 HRva_8 HRvb_8 HRvw_8 HRx0_8 HRx1_8 HRvg_8 HRy0_8
  go_wp2_with fail
  refine (toTermS_any a2 len2 cap2 ys _ (HA2.out.below HB9.out) (by omega)).mono ?_
  rintro e w10 ⟨y1, rfl, hy1, hb10⟩
  have hk10 : Below w9.heap.size w9 w10 := by (repeat' first | (with_reducible exact Below.refl _ _) | (with_reducible assumption) | (with_reducible refine below_drewN ?_ _) | (with_reducible refine Below.drew ?_) | (with_reducible refine Below.alloc ?_ ?_ _) | (with_reducible refine Below.setCell ?_ ?_ _) | (with_reducible refine Below.trans ?_ (Below.mono (by assumption) ?_)) | first | omega | (simp only [World.size_alloc, World.size_setCell, World.size_drew, size_drewN]; omega) | (simp; done) | (simp; omega) | (simp only [World.size_alloc, World.size_setCell, World.size_drew, size_drewN] at *; omega) | (simp at *; omega))
  have hz10 := hk10.size
  have HB10 : Hid (Below w.heap.size w w10) := Lib.hid (HB9.out.trans (hk10.mono HB9.out.size))
  have HRva_10 : Hid (RowB w10 w.heap.size w1.heap.size va xs) := Lib.hid (HRva_9.out.below hk10)
  have HRvb_10 : Hid (RowB w10 w1.heap.size w2.heap.size vb ys) := Lib.hid (HRvb_9.out.below hk10)
  have HRvw_10 : Hid (RowB w10 w2.heap.size w3.heap.size vw (joinP xs ys)) := Lib.hid (HRvw_9.out.below hk10)
  have HRx0_10 : Hid (RowB w10 w3.heap.size w4.heap.size x0 xs) := Lib.hid (HRx0_9.out.below hk10)
  have HRx1_10 : Hid (RowB w10 w4.heap.size w5.heap.size x1 ys) := Lib.hid (HRx1_9.out.below hk10)
  have HRvg_10 : Hid (RowB w10 w5.heap.size w6.heap.size vg (joinP xs ys)) := Lib.hid (HRvg_9.out.below hk10)
  have HRy0_10 : Hid (RowB w10 w7.heap.size w8.heap.size y0 xs) := Lib.hid (HRy0_9.out.below hk10)
  have HRy1_10 : Hid (RowB w10 w9.heap.size w10.heap.size y1 ys) := Lib.hid (RowL.bnd hy1)
  clear hb10 hk10 HRva_9 HRvb_9 HRvw_9 HRx0_9 HRx1_9 HRvg_9 HRy0_9
  go_wp2_with fail
  refine (eqS_any x1 y1 _ _ (by omega) HRx1_10.out.inp HRy1_10.out.inp).mono ?_
  rintro e w11 ⟨rfl, hb11⟩
  have hk11 : Below w10.heap.size w10 w11 := by (repeat' first | (with_reducible exact Below.refl _ _) | (with_reducible assumption) | (with_reducible refine below_drewN ?_ _) | (with_reducible refine Below.drew ?_) | (with_reducible refine Below.alloc ?_ ?_ _) | (with_reducible refine Below.setCell ?_ ?_ _) | (with_reducible refine Below.trans ?_ (Below.mono (by assumption) ?_)) | first | omega | (simp only [World.size_alloc, World.size_setCell, World.size_drew, size_drewN]; omega) | (simp; done) | (simp; omega) | (simp only [World.size_alloc, World.size_setCell, World.size_drew, size_drewN] at *; omega) | (simp at *; omega))
  have hz11 := hk11.size
  have HB11 : Hid (Below w.heap.size w w11) := Lib.hid (HB10.out.trans (hk11.mono HB10.out.size))
  have HRva_11 : Hid (RowB w11 w.heap.size w1.heap.size va xs) := Lib.hid (HRva_10.out.below hk11)
  have HRvb_11 : Hid (RowB w11 w1.heap.size w2.heap.size vb ys) := Lib.hid (HRvb_10.out.below hk11)
  have HRvw_11 : Hid (RowB w11 w2.heap.size w3.heap.size vw (joinP xs ys)) := Lib.hid (HRvw_10.out.below hk11)
  have HRx0_11 : Hid (RowB w11 w3.heap.size w4.heap.size x0 xs) := Lib.hid (HRx0_10.out.below hk11)
  have HRx1_11 : Hid (RowB w11 w4.heap.size w5.heap.size x1 ys) := Lib.hid (HRx1_10.out.below hk11)
  have HRvg_11 : Hid (RowB w11 w5.heap.size w6.heap.size vg (joinP xs ys)) := Lib.hid (HRvg_10.out.below hk11)
  have HRy0_11 : Hid (RowB w11 w7.heap.size w8.heap.size y0 xs) := Lib.hid (HRy0_10.out.below hk11)
  have HRy1_11 : Hid (RowB w11 w9.heap.size w10.heap.size y1 ys) := Lib.hid (HRy1_10.out.below hk11)
  clear hb11 hk11 HRva_10 HRvb_10 HRvw_10 HRx0_10 HRx1_10 HRvg_10 HRy0_10 HRy1_10
  go_wp2_with fail
  refine (mark_any x0 w3.heap.size xs _ (by omega) HRx0_11.out.row).mono ?_
  rintro e w12 ⟨rfl, hh12, hz12, hbl12, g12, hg12, ho12⟩
  have HB12 : Hid (Below w.heap.size w w12) := Lib.hid (HB11.out.trans (hbl12 _ (by omega) HB11.out.size))
  have HRva_12 : Hid (RowB w12 w.heap.size w1.heap.size va xs) := Lib.hid (HRva_11.out.mark HRx0_11.out (by omega) hg12 ho12)
  have HRvb_12 : Hid (RowB w12 w1.heap.size w2.heap.size vb ys) := Lib.hid (HRvb_11.out.mark HRx0_11.out (by omega) hg12 ho12)
  have HRvw_12 : Hid (RowB w12 w2.heap.size w3.heap.size vw (joinP xs ys)) := Lib.hid (HRvw_11.out.mark HRx0_11.out (by omega) hg12 ho12)
  have HRx1_12 : Hid (RowB w12 w4.heap.size w5.heap.size x1 ys) := Lib.hid (HRx1_11.out.mark HRx0_11.out (by omega) hg12 ho12)
  have HRvg_12 : Hid (RowB w12 w5.heap.size w6.heap.size vg (joinP xs ys)) := Lib.hid (HRvg_11.out.mark HRx0_11.out (by omega) hg12 ho12)
  have HRy0_12 : Hid (RowB w12 w7.heap.size w8.heap.size y0 xs) := Lib.hid (HRy0_11.out.mark HRx0_11.out (by omega) hg12 ho12)
  have HRy1_12 : Hid (RowB w12 w9.heap.size w10.heap.size y1 ys) := Lib.hid (HRy1_11.out.mark HRx0_11.out (by omega) hg12 ho12)
  have HHx0_12 : Hid (Heldr w12 w3.heap.size x0 xs.length) := Lib.hid hh12
  clear hh12 hbl12 hg12 ho12 HRva_11 HRvb_11 HRvw_11 HRx0_11 HRx1_11 HRvg_11 HRy0_11 HRy1_11
  go_wp2_with fail
  refine (markQ_any x1 w4.heap.size w5.heap.size ys _ _ (by omega) (by omega) (by omega) HRx1_12.out).mono ?_
  rintro e w13 ⟨rfl, hz13, hbl13, g13, hg13, ho13⟩
  have HB13 : Hid (Below w.heap.size w w13) := Lib.hid (HB12.out.trans (hbl13 _ (by omega) HB12.out.size))
  have HRva_13 : Hid (RowB w13 w.heap.size w1.heap.size va xs) := Lib.hid (HRva_12.out.mark HRx1_12.out (by omega) hg13 ho13)
  have HRvb_13 : Hid (RowB w13 w1.heap.size w2.heap.size vb ys) := Lib.hid (HRvb_12.out.mark HRx1_12.out (by omega) hg13 ho13)
  have HRvw_13 : Hid (RowB w13 w2.heap.size w3.heap.size vw (joinP xs ys)) := Lib.hid (HRvw_12.out.mark HRx1_12.out (by omega) hg13 ho13)
  have HRvg_13 : Hid (RowB w13 w5.heap.size w6.heap.size vg (joinP xs ys)) := Lib.hid (HRvg_12.out.mark HRx1_12.out (by omega) hg13 ho13)
  have HRy0_13 : Hid (RowB w13 w7.heap.size w8.heap.size y0 xs) := Lib.hid (HRy0_12.out.mark HRx1_12.out (by omega) hg13 ho13)
  have HRy1_13 : Hid (RowB w13 w9.heap.size w10.heap.size y1 ys) := Lib.hid (HRy1_12.out.mark HRx1_12.out (by omega) hg13 ho13)
  clear hbl13 hg13 ho13 HRva_12 HRvb_12 HRvw_12 HRx1_12 HRvg_12 HRy0_12 HRy1_12
  have dk : decide (1 + 2 * (xs.length : Int) + 2 * (ys.length : Int) < 0) = false := by simp; omega
  have dk2 : ¬ 1 + 2 * (xs.length : Int) + 2 * (ys.length : Int) < 0 := by omega
  go_wp2_with fail
  refine (eqS_any vg vw _ _ (by omega) HRvg_13.out.inp HRvw_13.out.inp).mono ?_
  rintro e w14 ⟨rfl, hb14⟩
  have hk14 : Below w13.heap.size w13 w14 := by (repeat' first | (with_reducible exact Below.refl _ _) | (with_reducible assumption) | (with_reducible refine below_drewN ?_ _) | (with_reducible refine Below.drew ?_) | (with_reducible refine Below.alloc ?_ ?_ _) | (with_reducible refine Below.setCell ?_ ?_ _) | (with_reducible refine Below.trans ?_ (Below.mono (by assumption) ?_)) | first | omega | (simp only [World.size_alloc, World.size_setCell, World.size_drew, size_drewN]; omega) | (simp; done) | (simp; omega) | (simp only [World.size_alloc, World.size_setCell, World.size_drew, size_drewN] at *; omega) | (simp at *; omega))
  have hz14 := hk14.size
  have HB14 : Hid (Below w.heap.size w w14) := Lib.hid (HB13.out.trans (hk14.mono HB13.out.size))
  have HRva_14 : Hid (RowB w14 w.heap.size w1.heap.size va xs) := Lib.hid (HRva_13.out.below hk14)
  have HRvb_14 : Hid (RowB w14 w1.heap.size w2.heap.size vb ys) := Lib.hid (HRvb_13.out.below hk14)
  have HRvw_14 : Hid (RowB w14 w2.heap.size w3.heap.size vw (joinP xs ys)) := Lib.hid (HRvw_13.out.below hk14)
  have HRvg_14 : Hid (RowB w14 w5.heap.size w6.heap.size vg (joinP xs ys)) := Lib.hid (HRvg_13.out.below hk14)
  have HRy0_14 : Hid (RowB w14 w7.heap.size w8.heap.size y0 xs) := Lib.hid (HRy0_13.out.below hk14)
  have HRy1_14 : Hid (RowB w14 w9.heap.size w10.heap.size y1 ys) := Lib.hid (HRy1_13.out.below hk14)
  clear hb14 hk14 HRva_13 HRvb_13 HRvw_13 HRvg_13 HRy0_13 HRy1_13
  go_wp2_with fail
  refine (mark_any vg w5.heap.size (joinP xs ys) _ (by omega) HRvg_14.out.row).mono ?_
  rintro e w15 ⟨rfl, hh15, hz15, hbl15, g15, hg15, ho15⟩
  have HB15 : Hid (Below w.heap.size w w15) := Lib.hid (HB14.out.trans (hbl15 _ (by omega) HB14.out.size))
  have HRva_15 : Hid (RowB w15 w.heap.size w1.heap.size va xs) := Lib.hid (HRva_14.out.mark HRvg_14.out (by omega) hg15 ho15)
  have HRvb_15 : Hid (RowB w15 w1.heap.size w2.heap.size vb ys) := Lib.hid (HRvb_14.out.mark HRvg_14.out (by omega) hg15 ho15)
  have HRvw_15 : Hid (RowB w15 w2.heap.size w3.heap.size vw (joinP xs ys)) := Lib.hid (HRvw_14.out.mark HRvg_14.out (by omega) hg15 ho15)
  have HRy0_15 : Hid (RowB w15 w7.heap.size w8.heap.size y0 xs) := Lib.hid (HRy0_14.out.mark HRvg_14.out (by omega) hg15 ho15)
  have HRy1_15 : Hid (RowB w15 w9.heap.size w10.heap.size y1 ys) := Lib.hid (HRy1_14.out.mark HRvg_14.out (by omega) hg15 ho15)
  have HHvg_15 : Hid (Heldr w15 w5.heap.size vg (joinP xs ys).length) := Lib.hid hh15
  clear hh15 hbl15 hg15 ho15 HRva_14 HRvb_14 HRvw_14 HRvg_14 HRy0_14 HRy1_14
  have dq : decide (1 + 2 * ((joinP xs ys).length : Int) < 0) = false := by simp; omega
  have dq2 : ¬ 1 + 2 * ((joinP xs ys).length : Int) < 0 := by omega
  go_wp2_with fail
  refine (held_any vg _ _ _ (by omega) HHvg_15.out).mono ?_
  rintro e w16 ⟨rfl, hb16⟩
  have hk16 : Below w15.heap.size w15 w16 := by (repeat' first | (with_reducible exact Below.refl _ _) | (with_reducible assumption) | (with_reducible refine below_drewN ?_ _) | (with_reducible refine Below.drew ?_) | (with_reducible refine Below.alloc ?_ ?_ _) | (with_reducible refine Below.setCell ?_ ?_ _) | (with_reducible refine Below.trans ?_ (Below.mono (by assumption) ?_)) | first | omega | (simp only [World.size_alloc, World.size_setCell, World.size_drew, size_drewN]; omega) | (simp; done) | (simp; omega) | (simp only [World.size_alloc, World.size_setCell, World.size_drew, size_drewN] at *; omega) | (simp at *; omega))
  have hz16 := hk16.size
  have HB16 : Hid (Below w.heap.size w w16) := Lib.hid (HB15.out.trans (hk16.mono HB15.out.size))
  have HRva_16 : Hid (RowB w16 w.heap.size w1.heap.size va xs) := Lib.hid (HRva_15.out.below hk16)
  have HRvb_16 : Hid (RowB w16 w1.heap.size w2.heap.size vb ys) := Lib.hid (HRvb_15.out.below hk16)
  have HRvw_16 : Hid (RowB w16 w2.heap.size w3.heap.size vw (joinP xs ys)) := Lib.hid (HRvw_15.out.below hk16)
  have HRy0_16 : Hid (RowB w16 w7.heap.size w8.heap.size y0 xs) := Lib.hid (HRy0_15.out.below hk16)
  have HRy1_16 : Hid (RowB w16 w9.heap.size w10.heap.size y1 ys) := Lib.hid (HRy1_15.out.below hk16)
  have HHvg_16 : Hid (Heldr w16 w5.heap.size vg (joinP xs ys).length) := Lib.hid (HHvg_15.out.below hk16)
  clear hb16 hk16 HRva_15 HRvb_15 HRvw_15 HRy0_15 HRy1_15 HHvg_15
  go_wp2_with fail
  refine (toTermS_any a len cap xs _ (HA.out.below HB16.out) (by omega)).mono ?_
  rintro e w17 ⟨z0, rfl, hz0, hb17⟩
  have hk17 : Below w16.heap.size w16 w17 := by (repeat' first | (with_reducible exact Below.refl _ _) | (with_reducible assumption) | (with_reducible refine below_drewN ?_ _) | (with_reducible refine Below.drew ?_) | (with_reducible refine Below.alloc ?_ ?_ _) | (with_reducible refine Below.setCell ?_ ?_ _) | (with_reducible refine Below.trans ?_ (Below.mono (by assumption) ?_)) | first | omega | (simp only [World.size_alloc, World.size_setCell, World.size_drew, size_drewN]; omega) | (simp; done) | (simp; omega) | (simp only [World.size_alloc, World.size_setCell, World.size_drew, size_drewN] at *; omega) | (simp at *; omega))
  have hz17 := hk17.size
  have HB17 : Hid (Below w.heap.size w w17) := Lib.hid (HB16.out.trans (hk17.mono HB16.out.size))
  have HRva_17 : Hid (RowB w17 w.heap.size w1.heap.size va xs) := Lib.hid (HRva_16.out.below hk17)
  have HRvb_17 : Hid (RowB w17 w1.heap.size w2.heap.size vb ys) := Lib.hid (HRvb_16.out.below hk17)
  have HRvw_17 : Hid (RowB w17 w2.heap.size w3.heap.size vw (joinP xs ys)) := Lib.hid (HRvw_16.out.below hk17)
  have HRy0_17 : Hid (RowB w17 w7.heap.size w8.heap.size y0 xs) := Lib.hid (HRy0_16.out.below hk17)
  have HRy1_17 : Hid (RowB w17 w9.heap.size w10.heap.size y1 ys) := Lib.hid (HRy1_16.out.below hk17)
  have HHvg_17 : Hid (Heldr w17 w5.heap.size vg (joinP xs ys).length) := Lib.hid (HHvg_16.out.below hk17)
  have HRz0_17 : Hid (RowB w17 w16.heap.size w17.heap.size z0 xs) := Lib.hid (RowL.bnd hz0)
  clear hb17 hk17 HRva_16 HRvb_16 HRvw_16 HRy0_16 HRy1_16 HHvg_16
  go_wp2_with fail
  refine (toTermS_any a2 len2 cap2 ys _ (HA2.out.below HB17.out) (by omega)).mono ?_
  rintro e w18 ⟨z1, rfl, hz1, hb18⟩
  have hk18 : Below w17.heap.size w17 w18 := by (repeat' first | (with_reducible exact Below.refl _ _) | (with_reducible assumption) | (with_reducible refine below_drewN ?_ _) | (with_reducible refine Below.drew ?_) | (with_reducible refine Below.alloc ?_ ?_ _) | (with_reducible refine Below.setCell ?_ ?_ _) | (with_reducible refine Below.trans ?_ (Below.mono (by assumption) ?_)) | first | omega | (simp only [World.size_alloc, World.size_setCell, World.size_drew, size_drewN]; omega) | (simp; done) | (simp; omega) | (simp only [World.size_alloc, World.size_setCell, World.size_drew, size_drewN] at *; omega) | (simp at *; omega))
  have hz18 := hk18.size
  have HB18 : Hid (Below w.heap.size w w18) := Lib.hid (HB17.out.trans (hk18.mono HB17.out.size))
  have HRva_18 : Hid (RowB w18 w.heap.size w1.heap.size va xs) := Lib.hid (HRva_17.out.below hk18)
  have HRvb_18 : Hid (RowB w18 w1.heap.size w2.heap.size vb ys) := Lib.hid (HRvb_17.out.below hk18)
  have HRvw_18 : Hid (RowB w18 w2.heap.size w3.heap.size vw (joinP xs ys)) := Lib.hid (HRvw_17.out.below hk18)
  have HRy0_18 : Hid (RowB w18 w7.heap.size w8.heap.size y0 xs) := Lib.hid (HRy0_17.out.below hk18)
  have HRy1_18 : Hid (RowB w18 w9.heap.size w10.heap.size y1 ys) := Lib.hid (HRy1_17.out.below hk18)
  have HRz0_18 : Hid (RowB w18 w16.heap.size w17.heap.size z0 xs) := Lib.hid (HRz0_17.out.below hk18)
  have HHvg_18 : Hid (Heldr w18 w5.heap.size vg (joinP xs ys).length) := Lib.hid (HHvg_17.out.below hk18)
  have HRz1_18 : Hid (RowB w18 w17.heap.size w18.heap.size z1 ys) := Lib.hid (RowL.bnd hz1)
  clear hb18 hk18 HRva_17 HRvb_17 HRvw_17 HRy0_17 HRy1_17 HRz0_17 HHvg_17
  go_wp2_with fail
  refine (iJoin_any z0 z1 xs ys _ (by omega) (by omega) HRz0_18.out.inp HRz1_18.out.inp).mono ?_
  rintro e w19 ⟨vh, rfl, hvh, hb19⟩
  have hk19 : Below w18.heap.size w18 w19 := by (repeat' first | (with_reducible exact Below.refl _ _) | (with_reducible assumption) | (with_reducible refine below_drewN ?_ _) | (with_reducible refine Below.drew ?_) | (with_reducible refine Below.alloc ?_ ?_ _) | (with_reducible refine Below.setCell ?_ ?_ _) | (with_reducible refine Below.trans ?_ (Below.mono (by assumption) ?_)) | first | omega | (simp only [World.size_alloc, World.size_setCell, World.size_drew, size_drewN]; omega) | (simp; done) | (simp; omega) | (simp only [World.size_alloc, World.size_setCell, World.size_drew, size_drewN] at *; omega) | (simp at *; omega))
  have hz19 := hk19.size
  have HB19 : Hid (Below w.heap.size w w19) := Lib.hid (HB18.out.trans (hk19.mono HB18.out.size))
  have HRva_19 : Hid (RowB w19 w.heap.size w1.heap.size va xs) := Lib.hid (HRva_18.out.below hk19)
  have HRvb_19 : Hid (RowB w19 w1.heap.size w2.heap.size vb ys) := Lib.hid (HRvb_18.out.below hk19)
  have HRvw_19 : Hid (RowB w19 w2.heap.size w3.heap.size vw (joinP xs ys)) := Lib.hid (HRvw_18.out.below hk19)
  have HRy0_19 : Hid (RowB w19 w7.heap.size w8.heap.size y0 xs) := Lib.hid (HRy0_18.out.below hk19)
  have HRy1_19 : Hid (RowB w19 w9.heap.size w10.heap.size y1 ys) := Lib.hid (HRy1_18.out.below hk19)
  have HRz0_19 : Hid (RowB w19 w16.heap.size w17.heap.size z0 xs) := Lib.hid (HRz0_18.out.below hk19)
  have HRz1_19 : Hid (RowB w19 w17.heap.size w18.heap.size z1 ys) := Lib.hid (HRz1_18.out.below hk19)
  have HHvg_19 : Hid (Heldr w19 w5.heap.size vg (joinP xs ys).length) := Lib.hid (HHvg_18.out.below hk19)
  have HRvh_19 : Hid (RowB w19 w18.heap.size w19.heap.size vh (joinP xs ys)) := Lib.hid (RowR.bnd hvh)
  clear hb19 hk19 HRva_18 HRvb_18 HRvw_18 HRy0_18 HRy1_18 HRz0_18 HRz1_18 HHvg_18
  go_wp2_with fail
  refine (eqS_any vh vw _ _ (by omega) HRvh_19.out.inp HRvw_19.out.inp).mono ?_
  rintro e w20 ⟨rfl, hb20⟩
  have hk20 : Below w19.heap.size w19 w20 := by (repeat' first | (with_reducible exact Below.refl _ _) | (with_reducible assumption) | (with_reducible refine below_drewN ?_ _) | (with_reducible refine Below.drew ?_) | (with_reducible refine Below.alloc ?_ ?_ _) | (with_reducible refine Below.setCell ?_ ?_ _) | (with_reducible refine Below.trans ?_ (Below.mono (by assumption) ?_)) | first | omega | (simp only [World.size_alloc, World.size_setCell, World.size_drew, size_drewN]; omega) | (simp; done) | (simp; omega) | (simp only [World.size_alloc, World.size_setCell, World.size_drew, size_drewN] at *; omega) | (simp at *; omega))
  have hz20 := hk20.size
  have HB20 : Hid (Below w.heap.size w w20) := Lib.hid (HB19.out.trans (hk20.mono HB19.out.size))
  have HRva_20 : Hid (RowB w20 w.heap.size w1.heap.size va xs) := Lib.hid (HRva_19.out.below hk20)
  have HRvb_20 : Hid (RowB w20 w1.heap.size w2.heap.size vb ys) := Lib.hid (HRvb_19.out.below hk20)
  have HRvw_20 : Hid (RowB w20 w2.heap.size w3.heap.size vw (joinP xs ys)) := Lib.hid (HRvw_19.out.below hk20)
  have HRy0_20 : Hid (RowB w20 w7.heap.size w8.heap.size y0 xs) := Lib.hid (HRy0_19.out.below hk20)
  have HRy1_20 : Hid (RowB w20 w9.heap.size w10.heap.size y1 ys) := Lib.hid (HRy1_19.out.below hk20)
  have HRz0_20 : Hid (RowB w20 w16.heap.size w17.heap.size z0 xs) := Lib.hid (HRz0_19.out.below hk20)
  have HRz1_20 : Hid (RowB w20 w17.heap.size w18.heap.size z1 ys) := Lib.hid (HRz1_19.out.below hk20)
  have HRvh_20 : Hid (RowB w20 w18.heap.size w19.heap.size vh (joinP xs ys)) := Lib.hid (HRvh_19.out.below hk20)
  have HHvg_20 : Hid (Heldr w20 w5.heap.size vg (joinP xs ys).length) := Lib.hid (HHvg_19.out.below hk20)
  clear hb20 hk20 HRva_19 HRvb_19 HRvw_19 HRy0_19 HRy1_19 HRz0_19 HRz1_19 HRvh_19 HHvg_19
  go_wp2_with fail
  refine (held_any vg _ _ _ (by omega) HHvg_20.out).mono ?_
  rintro e w21 ⟨rfl, hb21⟩
  have hk21 : Below w20.heap.size w20 w21 := by (repeat' first | (with_reducible exact Below.refl _ _) | (with_reducible assumption) | (with_reducible refine below_drewN ?_ _) | (with_reducible refine Below.drew ?_) | (with_reducible refine Below.alloc ?_ ?_ _) | (with_reducible refine Below.setCell ?_ ?_ _) | (with_reducible refine Below.trans ?_ (Below.mono (by assumption) ?_)) | first | omega | (simp only [World.size_alloc, World.size_setCell, World.size_drew, size_drewN]; omega) | (simp; done) | (simp; omega) | (simp only [World.size_alloc, World.size_setCell, World.size_drew, size_drewN] at *; omega) | (simp at *; omega))
  have hz21 := hk21.size
  have HB21 : Hid (Below w.heap.size w w21) := Lib.hid (HB20.out.trans (hk21.mono HB20.out.size))
  have HRva_21 : Hid (RowB w21 w.heap.size w1.heap.size va xs) := Lib.hid (HRva_20.out.below hk21)
  have HRvb_21 : Hid (RowB w21 w1.heap.size w2.heap.size vb ys) := Lib.hid (HRvb_20.out.below hk21)
  have HRvw_21 : Hid (RowB w21 w2.heap.size w3.heap.size vw (joinP xs ys)) := Lib.hid (HRvw_20.out.below hk21)
  have HRy0_21 : Hid (RowB w21 w7.heap.size w8.heap.size y0 xs) := Lib.hid (HRy0_20.out.below hk21)
  have HRy1_21 : Hid (RowB w21 w9.heap.size w10.heap.size y1 ys) := Lib.hid (HRy1_20.out.below hk21)
  have HRz0_21 : Hid (RowB w21 w16.heap.size w17.heap.size z0 xs) := Lib.hid (HRz0_20.out.below hk21)
  have HRz1_21 : Hid (RowB w21 w17.heap.size w18.heap.size z1 ys) := Lib.hid (HRz1_20.out.below hk21)
  have HRvh_21 : Hid (RowB w21 w18.heap.size w19.heap.size vh (joinP xs ys)) := Lib.hid (HRvh_20.out.below hk21)
  have HHvg_21 : Hid (Heldr w21 w5.heap.size vg (joinP xs ys).length) := Lib.hid (HHvg_20.out.below hk21)
  clear hb21 hk21 HRva_20 HRvb_20 HRvw_20 HRy0_20 HRy1_20 HRz0_20 HRz1_20 HRvh_20 HHvg_20
  go_wp2
  go_ret
  exact ⟨rfl, HB21.out⟩
end Go.Proofs.Ytjopcpoodhamcaa
