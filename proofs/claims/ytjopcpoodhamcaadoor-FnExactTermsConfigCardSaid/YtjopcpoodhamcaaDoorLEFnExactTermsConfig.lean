import Derived.Test.YtjopcpoodhamcaaDoorGm
import Derived.Test.YtjopcpoodhamcaaDoorSjo
import Derived.Test.YtjopcpoodhamcaaDoorHmh
import Derived.Test.YtjopcpoodhamcaaDoorTcf
/-
  The walk of the law FnExactTermsConfig. Conditions: none.
-/
namespace Go.Proofs.YtjopcpoodhamcaaDoor
set_option linter.unusedSimpArgs false
set_option linter.unusedVariables false
open Go.RowKit


set_option maxRecDepth 20000 in
set_option maxHeartbeats 4000000 in
theorem walk_FnExactTermsConfig (a : Option Addr) (len cap : Nat) (cs : List Sh) (w : World) (hT : Tab w) (hsz : 1 < w.heap.size) (hA : ArgH w a len cs) (hm : len ≤ maxLen) :
    Calls Tryd.prog 5 #[.slice a len cap] w fun e w' => e = .returned (.bool true) ∧ Below w.heap.size w w' := by
  have HTB := Lib.hid hT
  have HSZ := Lib.hid (szShellS_any a len cap 1048576 w (by omega) (by omega) hm)
  clear hT
  by_cases hlen : (1048576 : Int) < (len : Int)
  · have h2 := HSZ.out
    rw [if_pos hlen] at h2
    have HS2 := Lib.hid h2
    clear hA h2
    go_enter Tryd.func5, Tryd.ntmps5
    go_wp2_with (go_at_call 17; refine (HS2.out).mono ?_; rintro e w' ⟨rfl, rfl⟩)
    go_ret
    exact ⟨rfl, Below.refl _ _⟩
  have h2 := HSZ.out
  rw [if_neg hlen] at h2
  have HS2 := Lib.hid h2
  have hl : len ≤ 1048576 := by omega
  have hxl : cs.length ≤ 1048576 := by rw [hA.1]; exact hl
  have hpl := resT_400 cs
  have HA := Lib.hid hA
  have HB0 : Hid (Below w.heap.size w w) := Lib.hid (Below.refl _ _)
  have d1 : decide ((1048576 : Int) - (len : Int) < 0) = false := by simp; omega
  have d2 : ¬ (1048576 : Int) - (len : Int) < 0 := by omega
  have KI : Hid (∀ W v, Below w.heap.size w W → RwI W v cs → Calls Tryd.prog 10 #[v] W fun e w' => ∃ v', e = .returned (.tuple #[v', .bool (cfgT cs).isSome]) ∧ RowR w' W.heap.size v' (resT cs) ∧ Below W.heap.size W w') := Lib.hid (fun W v hb h => iTcf_any v cs W (HTB.out.of fun j => hb.cell (p := ⟨1, j, none⟩) hsz) (Nat.lt_of_lt_of_le hsz hb.size) (by omega) h)
  have KS : Hid (∀ W v, RwI W v cs → Calls Tryd.prog 11 #[v] W fun e w' => ∃ v', e = .returned (.tuple #[v', .bool (cfgT cs).isSome]) ∧ RowR w' W.heap.size v' (resT cs) ∧ Below W.heap.size W w') := Lib.hid (fun W v h => sTcf_any v cs W (by omega) h)
  obtain ⟨b, hb⟩ : ∃ b, b = (cfgT cs).isSome := ⟨_, rfl⟩
  rw [← hb] at KI KS
  obtain ⟨T, hTT⟩ : ∃ T, T = resT cs := ⟨_, rfl⟩
  rw [← hTT] at KI KS hpl
  clear hA h2 HSZ hlen hb hTT
  go_enter Tryd.func5, Tryd.ntmps5
  go_wp2_with fail
  refine (HS2.out).mono ?_
  rintro e w' ⟨rfl, rfl⟩
  go_wp2_with fail
  refine (toShellS_any a len cap cs _ (HA.out) (by omega)).mono ?_
  rintro e w1 ⟨va, rfl, hva, hb1⟩
  have hk1 : Below w.heap.size w w1 := by (repeat' first | (with_reducible exact Below.refl _ _) | (with_reducible assumption) | (with_reducible refine below_drewN ?_ _) | (with_reducible refine Below.drew ?_) | (with_reducible refine Below.alloc ?_ ?_ _) | (with_reducible refine Below.setCell ?_ ?_ _) | (with_reducible refine Below.trans ?_ (Below.mono (by assumption) ?_)) | first | omega | (simp only [World.size_alloc, World.size_setCell, World.size_drew, size_drewN]; omega) | (simp; done) | (simp; omega) | (simp only [World.size_alloc, World.size_setCell, World.size_drew, size_drewN] at *; omega) | (simp at *; omega))
  have hz1 := hk1.size
  have HB1 : Hid (Below w.heap.size w w1) := Lib.hid (HB0.out.trans (hk1.mono HB0.out.size))
  clear hb1 hk1
  have HQva_1 : Hid (RwB w1 w.heap.size w1.heap.size va cs) := Lib.hid hva
  clear hva
  go_wp2_with fail
  refine (KS.out _ _ HQva_1.out.inp).mono ?_
  rintro e w2 ⟨vw, rfl, hvw, hb2⟩
  have hk2 : Below w1.heap.size w1 w2 := by (repeat' first | (with_reducible exact Below.refl _ _) | (with_reducible assumption) | (with_reducible refine below_drewN ?_ _) | (with_reducible refine Below.drew ?_) | (with_reducible refine Below.alloc ?_ ?_ _) | (with_reducible refine Below.setCell ?_ ?_ _) | (with_reducible refine Below.trans ?_ (Below.mono (by assumption) ?_)) | first | omega | (simp only [World.size_alloc, World.size_setCell, World.size_drew, size_drewN]; omega) | (simp; done) | (simp; omega) | (simp only [World.size_alloc, World.size_setCell, World.size_drew, size_drewN] at *; omega) | (simp at *; omega))
  have HQva_2 : Hid (RwB w2 w.heap.size w1.heap.size va cs) := Lib.hid (HQva_1.out.below hk2)
  clear HQva_1
  have hz2 := hk2.size
  have HB2 : Hid (Below w.heap.size w w2) := Lib.hid (HB1.out.trans (hk2.mono HB1.out.size))
  have HRvw_2 : Hid (RowB w2 w1.heap.size w2.heap.size vw T) := Lib.hid (RowR.bnd hvw)
  clear hb2 hk2
  go_wp2_with fail
  refine (toShellS_any a len cap cs _ (HA.out.below HB2.out) (by omega)).mono ?_
  rintro e w3 ⟨x0, rfl, hx0, hb3⟩
  have hk3 : Below w2.heap.size w2 w3 := by (repeat' first | (with_reducible exact Below.refl _ _) | (with_reducible assumption) | (with_reducible refine below_drewN ?_ _) | (with_reducible refine Below.drew ?_) | (with_reducible refine Below.alloc ?_ ?_ _) | (with_reducible refine Below.setCell ?_ ?_ _) | (with_reducible refine Below.trans ?_ (Below.mono (by assumption) ?_)) | first | omega | (simp only [World.size_alloc, World.size_setCell, World.size_drew, size_drewN]; omega) | (simp; done) | (simp; omega) | (simp only [World.size_alloc, World.size_setCell, World.size_drew, size_drewN] at *; omega) | (simp at *; omega))
  have HQva_3 : Hid (RwB w3 w.heap.size w1.heap.size va cs) := Lib.hid (HQva_2.out.below hk3)
  clear HQva_2
  have hz3 := hk3.size
  have HB3 : Hid (Below w.heap.size w w3) := Lib.hid (HB2.out.trans (hk3.mono HB2.out.size))
  have HRvw_3 : Hid (RowB w3 w1.heap.size w2.heap.size vw T) := Lib.hid (HRvw_2.out.below hk3)
  clear hb3 hk3 HRvw_2
  have HQx0_3 : Hid (RwB w3 w2.heap.size w3.heap.size x0 cs) := Lib.hid hx0
  clear hx0
  go_wp2_with fail
  refine (KI.out _ _ HB3.out HQx0_3.out.inp).mono ?_
  rintro e w4 ⟨vg, rfl, hvg, hb4⟩
  have hk4 : Below w3.heap.size w3 w4 := by (repeat' first | (with_reducible exact Below.refl _ _) | (with_reducible assumption) | (with_reducible refine below_drewN ?_ _) | (with_reducible refine Below.drew ?_) | (with_reducible refine Below.alloc ?_ ?_ _) | (with_reducible refine Below.setCell ?_ ?_ _) | (with_reducible refine Below.trans ?_ (Below.mono (by assumption) ?_)) | first | omega | (simp only [World.size_alloc, World.size_setCell, World.size_drew, size_drewN]; omega) | (simp; done) | (simp; omega) | (simp only [World.size_alloc, World.size_setCell, World.size_drew, size_drewN] at *; omega) | (simp at *; omega))
  have HQva_4 : Hid (RwB w4 w.heap.size w1.heap.size va cs) := Lib.hid (HQva_3.out.below hk4)
  have HQx0_4 : Hid (RwB w4 w2.heap.size w3.heap.size x0 cs) := Lib.hid (HQx0_3.out.below hk4)
  clear HQva_3 HQx0_3
  have hz4 := hk4.size
  have HB4 : Hid (Below w.heap.size w w4) := Lib.hid (HB3.out.trans (hk4.mono HB3.out.size))
  have HRvw_4 : Hid (RowB w4 w1.heap.size w2.heap.size vw T) := Lib.hid (HRvw_3.out.below hk4)
  have HRvg_4 : Hid (RowB w4 w3.heap.size w4.heap.size vg T) := Lib.hid (RowR.bnd hvg)
  clear hb4 hk4 HRvw_3
  go_wp2_with fail
  refine (eqS_any vg vw _ _ (by omega) HRvg_4.out.inp HRvw_4.out.inp).mono ?_
  rintro e w5 ⟨rfl, hb5⟩
  have hk5 : Below w4.heap.size w4 w5 := by (repeat' first | (with_reducible exact Below.refl _ _) | (with_reducible assumption) | (with_reducible refine below_drewN ?_ _) | (with_reducible refine Below.drew ?_) | (with_reducible refine Below.alloc ?_ ?_ _) | (with_reducible refine Below.setCell ?_ ?_ _) | (with_reducible refine Below.trans ?_ (Below.mono (by assumption) ?_)) | first | omega | (simp only [World.size_alloc, World.size_setCell, World.size_drew, size_drewN]; omega) | (simp; done) | (simp; omega) | (simp only [World.size_alloc, World.size_setCell, World.size_drew, size_drewN] at *; omega) | (simp at *; omega))
  have HQva_5 : Hid (RwB w5 w.heap.size w1.heap.size va cs) := Lib.hid (HQva_4.out.below hk5)
  have HQx0_5 : Hid (RwB w5 w2.heap.size w3.heap.size x0 cs) := Lib.hid (HQx0_4.out.below hk5)
  clear HQva_4 HQx0_4
  have hz5 := hk5.size
  have HB5 : Hid (Below w.heap.size w w5) := Lib.hid (HB4.out.trans (hk5.mono HB4.out.size))
  have HRvw_5 : Hid (RowB w5 w1.heap.size w2.heap.size vw T) := Lib.hid (HRvw_4.out.below hk5)
  have HRvg_5 : Hid (RowB w5 w3.heap.size w4.heap.size vg T) := Lib.hid (HRvg_4.out.below hk5)
  clear hb5 hk5 HRvw_4 HRvg_4
  go_wp2_with fail
  refine (toShellS_any a len cap cs _ (HA.out.below HB5.out) (by omega)).mono ?_
  rintro e w6 ⟨y0, rfl, hy0, hb6⟩
  have hk6 : Below w5.heap.size w5 w6 := by (repeat' first | (with_reducible exact Below.refl _ _) | (with_reducible assumption) | (with_reducible refine below_drewN ?_ _) | (with_reducible refine Below.drew ?_) | (with_reducible refine Below.alloc ?_ ?_ _) | (with_reducible refine Below.setCell ?_ ?_ _) | (with_reducible refine Below.trans ?_ (Below.mono (by assumption) ?_)) | first | omega | (simp only [World.size_alloc, World.size_setCell, World.size_drew, size_drewN]; omega) | (simp; done) | (simp; omega) | (simp only [World.size_alloc, World.size_setCell, World.size_drew, size_drewN] at *; omega) | (simp at *; omega))
  have HQva_6 : Hid (RwB w6 w.heap.size w1.heap.size va cs) := Lib.hid (HQva_5.out.below hk6)
  have HQx0_6 : Hid (RwB w6 w2.heap.size w3.heap.size x0 cs) := Lib.hid (HQx0_5.out.below hk6)
  clear HQva_5 HQx0_5
  have hz6 := hk6.size
  have HB6 : Hid (Below w.heap.size w w6) := Lib.hid (HB5.out.trans (hk6.mono HB5.out.size))
  have HRvw_6 : Hid (RowB w6 w1.heap.size w2.heap.size vw T) := Lib.hid (HRvw_5.out.below hk6)
  have HRvg_6 : Hid (RowB w6 w3.heap.size w4.heap.size vg T) := Lib.hid (HRvg_5.out.below hk6)
  clear hb6 hk6 HRvw_5 HRvg_5
  have HQy0_6 : Hid (RwB w6 w5.heap.size w6.heap.size y0 cs) := Lib.hid hy0
  clear hy0
  go_wp2_with fail
  refine (eqSS_any x0 y0 cs _ (by omega) HQx0_6.out.inp HQy0_6.out.inp).mono ?_
  rintro e w7 ⟨rfl, hb7⟩
  have hk7 : Below w6.heap.size w6 w7 := by (repeat' first | (with_reducible exact Below.refl _ _) | (with_reducible assumption) | (with_reducible refine below_drewN ?_ _) | (with_reducible refine Below.drew ?_) | (with_reducible refine Below.alloc ?_ ?_ _) | (with_reducible refine Below.setCell ?_ ?_ _) | (with_reducible refine Below.trans ?_ (Below.mono (by assumption) ?_)) | first | omega | (simp only [World.size_alloc, World.size_setCell, World.size_drew, size_drewN]; omega) | (simp; done) | (simp; omega) | (simp only [World.size_alloc, World.size_setCell, World.size_drew, size_drewN] at *; omega) | (simp at *; omega))
  have HQva_7 : Hid (RwB w7 w.heap.size w1.heap.size va cs) := Lib.hid (HQva_6.out.below hk7)
  have HQx0_7 : Hid (RwB w7 w2.heap.size w3.heap.size x0 cs) := Lib.hid (HQx0_6.out.below hk7)
  have HQy0_7 : Hid (RwB w7 w5.heap.size w6.heap.size y0 cs) := Lib.hid (HQy0_6.out.below hk7)
  clear HQva_6 HQx0_6 HQy0_6
  have hz7 := hk7.size
  have HB7 : Hid (Below w.heap.size w w7) := Lib.hid (HB6.out.trans (hk7.mono HB6.out.size))
  have HRvw_7 : Hid (RowB w7 w1.heap.size w2.heap.size vw T) := Lib.hid (HRvw_6.out.below hk7)
  have HRvg_7 : Hid (RowB w7 w3.heap.size w4.heap.size vg T) := Lib.hid (HRvg_6.out.below hk7)
  clear hb7 hk7 HRvw_6 HRvg_6
  go_wp2_with fail
  refine (markH_any x0 w2.heap.size w3.heap.size cs _ (by omega) HQx0_7.out).mono ?_
  rintro e w8 ⟨rfl, hz8, hbl8, g8, hgl8, hgh8, hg8⟩
  have HB8 : Hid (Below w.heap.size w w8) := Lib.hid (HB7.out.trans (hbl8 _ (by omega) HB7.out.size))
  have HRvw_8 : Hid (RowB w8 w1.heap.size w2.heap.size vw T) := Lib.hid (HRvw_7.out.far (by omega) hg8)
  have HRvg_8 : Hid (RowB w8 w3.heap.size w4.heap.size vg T) := Lib.hid (HRvg_7.out.far (by omega) hg8)
  clear hbl8 hg8 HRvw_7 HRvg_7 HQva_7 HQx0_7 HQy0_7
  have dk : decide (1 + 3 * (cs.length : Int) < 0) = false := by simp; omega
  have dk2 : ¬ 1 + 3 * (cs.length : Int) < 0 := by omega
  go_wp2_with fail
  refine (eqS_any vg vw _ _ (by omega) HRvg_8.out.inp HRvw_8.out.inp).mono ?_
  rintro e w9 ⟨rfl, hb9⟩
  have hk9 : Below w8.heap.size w8 w9 := by (repeat' first | (with_reducible exact Below.refl _ _) | (with_reducible assumption) | (with_reducible refine below_drewN ?_ _) | (with_reducible refine Below.drew ?_) | (with_reducible refine Below.alloc ?_ ?_ _) | (with_reducible refine Below.setCell ?_ ?_ _) | (with_reducible refine Below.trans ?_ (Below.mono (by assumption) ?_)) | first | omega | (simp only [World.size_alloc, World.size_setCell, World.size_drew, size_drewN]; omega) | (simp; done) | (simp; omega) | (simp only [World.size_alloc, World.size_setCell, World.size_drew, size_drewN] at *; omega) | (simp at *; omega))
  have hz9 := hk9.size
  have HB9 : Hid (Below w.heap.size w w9) := Lib.hid (HB8.out.trans (hk9.mono HB8.out.size))
  have HRvw_9 : Hid (RowB w9 w1.heap.size w2.heap.size vw T) := Lib.hid (HRvw_8.out.below hk9)
  have HRvg_9 : Hid (RowB w9 w3.heap.size w4.heap.size vg T) := Lib.hid (HRvg_8.out.below hk9)
  clear hb9 hk9 HRvw_8 HRvg_8
  go_wp2_with fail
  refine (mark_any vg w3.heap.size T _ (by omega) HRvg_9.out.row).mono ?_
  rintro e w10 ⟨rfl, hh10, hz10, hbl10, g10, hg10, ho10⟩
  have HB10 : Hid (Below w.heap.size w w10) := Lib.hid (HB9.out.trans (hbl10 _ (by omega) HB9.out.size))
  have HRvw_10 : Hid (RowB w10 w1.heap.size w2.heap.size vw T) := Lib.hid (HRvw_9.out.mark HRvg_9.out (by omega) hg10 ho10)
  have HHvg_10 : Hid (Heldr w10 w3.heap.size vg T.length) := Lib.hid hh10
  clear hh10 hbl10 hg10 ho10 HRvw_9 HRvg_9
  have dq : decide (1 + 2 * (T.length : Int) < 0) = false := by simp; omega
  have dq2 : ¬ 1 + 2 * (T.length : Int) < 0 := by omega
  go_wp2_with fail
  refine (held_any vg _ _ _ (by omega) HHvg_10.out).mono ?_
  rintro e w11 ⟨rfl, hb11⟩
  have hk11 : Below w10.heap.size w10 w11 := by (repeat' first | (with_reducible exact Below.refl _ _) | (with_reducible assumption) | (with_reducible refine below_drewN ?_ _) | (with_reducible refine Below.drew ?_) | (with_reducible refine Below.alloc ?_ ?_ _) | (with_reducible refine Below.setCell ?_ ?_ _) | (with_reducible refine Below.trans ?_ (Below.mono (by assumption) ?_)) | first | omega | (simp only [World.size_alloc, World.size_setCell, World.size_drew, size_drewN]; omega) | (simp; done) | (simp; omega) | (simp only [World.size_alloc, World.size_setCell, World.size_drew, size_drewN] at *; omega) | (simp at *; omega))
  have hz11 := hk11.size
  have HB11 : Hid (Below w.heap.size w w11) := Lib.hid (HB10.out.trans (hk11.mono HB10.out.size))
  have HRvw_11 : Hid (RowB w11 w1.heap.size w2.heap.size vw T) := Lib.hid (HRvw_10.out.below hk11)
  have HHvg_11 : Hid (Heldr w11 w3.heap.size vg T.length) := Lib.hid (HHvg_10.out.below hk11)
  clear hb11 hk11 HRvw_10 HHvg_10
  go_wp2_with fail
  refine (toShellS_any a len cap cs _ (HA.out.below HB11.out) (by omega)).mono ?_
  rintro e w12 ⟨z0, rfl, hz0, hb12⟩
  have hk12 : Below w11.heap.size w11 w12 := by (repeat' first | (with_reducible exact Below.refl _ _) | (with_reducible assumption) | (with_reducible refine below_drewN ?_ _) | (with_reducible refine Below.drew ?_) | (with_reducible refine Below.alloc ?_ ?_ _) | (with_reducible refine Below.setCell ?_ ?_ _) | (with_reducible refine Below.trans ?_ (Below.mono (by assumption) ?_)) | first | omega | (simp only [World.size_alloc, World.size_setCell, World.size_drew, size_drewN]; omega) | (simp; done) | (simp; omega) | (simp only [World.size_alloc, World.size_setCell, World.size_drew, size_drewN] at *; omega) | (simp at *; omega))
  have hz12 := hk12.size
  have HB12 : Hid (Below w.heap.size w w12) := Lib.hid (HB11.out.trans (hk12.mono HB11.out.size))
  have HRvw_12 : Hid (RowB w12 w1.heap.size w2.heap.size vw T) := Lib.hid (HRvw_11.out.below hk12)
  have HHvg_12 : Hid (Heldr w12 w3.heap.size vg T.length) := Lib.hid (HHvg_11.out.below hk12)
  clear hb12 hk12 HRvw_11 HHvg_11
  have HQz0_12 : Hid (RwB w12 w11.heap.size w12.heap.size z0 cs) := Lib.hid hz0
  clear hz0
  go_wp2_with fail
  refine (KI.out _ _ HB12.out HQz0_12.out.inp).mono ?_
  rintro e w13 ⟨vh, rfl, hvh, hb13⟩
  have hk13 : Below w12.heap.size w12 w13 := by (repeat' first | (with_reducible exact Below.refl _ _) | (with_reducible assumption) | (with_reducible refine below_drewN ?_ _) | (with_reducible refine Below.drew ?_) | (with_reducible refine Below.alloc ?_ ?_ _) | (with_reducible refine Below.setCell ?_ ?_ _) | (with_reducible refine Below.trans ?_ (Below.mono (by assumption) ?_)) | first | omega | (simp only [World.size_alloc, World.size_setCell, World.size_drew, size_drewN]; omega) | (simp; done) | (simp; omega) | (simp only [World.size_alloc, World.size_setCell, World.size_drew, size_drewN] at *; omega) | (simp at *; omega))
  have HQz0_13 : Hid (RwB w13 w11.heap.size w12.heap.size z0 cs) := Lib.hid (HQz0_12.out.below hk13)
  clear HQz0_12
  have hz13 := hk13.size
  have HB13 : Hid (Below w.heap.size w w13) := Lib.hid (HB12.out.trans (hk13.mono HB12.out.size))
  have HRvw_13 : Hid (RowB w13 w1.heap.size w2.heap.size vw T) := Lib.hid (HRvw_12.out.below hk13)
  have HHvg_13 : Hid (Heldr w13 w3.heap.size vg T.length) := Lib.hid (HHvg_12.out.below hk13)
  have HRvh_13 : Hid (RowB w13 w12.heap.size w13.heap.size vh T) := Lib.hid (RowR.bnd hvh)
  clear hb13 hk13 HRvw_12 HHvg_12
  go_wp2_with fail
  refine (eqS_any vh vw _ _ (by omega) HRvh_13.out.inp HRvw_13.out.inp).mono ?_
  rintro e w14 ⟨rfl, hb14⟩
  have hk14 : Below w13.heap.size w13 w14 := by (repeat' first | (with_reducible exact Below.refl _ _) | (with_reducible assumption) | (with_reducible refine below_drewN ?_ _) | (with_reducible refine Below.drew ?_) | (with_reducible refine Below.alloc ?_ ?_ _) | (with_reducible refine Below.setCell ?_ ?_ _) | (with_reducible refine Below.trans ?_ (Below.mono (by assumption) ?_)) | first | omega | (simp only [World.size_alloc, World.size_setCell, World.size_drew, size_drewN]; omega) | (simp; done) | (simp; omega) | (simp only [World.size_alloc, World.size_setCell, World.size_drew, size_drewN] at *; omega) | (simp at *; omega))
  have HQz0_14 : Hid (RwB w14 w11.heap.size w12.heap.size z0 cs) := Lib.hid (HQz0_13.out.below hk14)
  clear HQz0_13
  have hz14 := hk14.size
  have HB14 : Hid (Below w.heap.size w w14) := Lib.hid (HB13.out.trans (hk14.mono HB13.out.size))
  have HRvw_14 : Hid (RowB w14 w1.heap.size w2.heap.size vw T) := Lib.hid (HRvw_13.out.below hk14)
  have HRvh_14 : Hid (RowB w14 w12.heap.size w13.heap.size vh T) := Lib.hid (HRvh_13.out.below hk14)
  have HHvg_14 : Hid (Heldr w14 w3.heap.size vg T.length) := Lib.hid (HHvg_13.out.below hk14)
  clear hb14 hk14 HRvw_13 HRvh_13 HHvg_13
  go_wp2_with fail
  refine (held_any vg _ _ _ (by omega) HHvg_14.out).mono ?_
  rintro e w15 ⟨rfl, hb15⟩
  have hk15 : Below w14.heap.size w14 w15 := by (repeat' first | (with_reducible exact Below.refl _ _) | (with_reducible assumption) | (with_reducible refine below_drewN ?_ _) | (with_reducible refine Below.drew ?_) | (with_reducible refine Below.alloc ?_ ?_ _) | (with_reducible refine Below.setCell ?_ ?_ _) | (with_reducible refine Below.trans ?_ (Below.mono (by assumption) ?_)) | first | omega | (simp only [World.size_alloc, World.size_setCell, World.size_drew, size_drewN]; omega) | (simp; done) | (simp; omega) | (simp only [World.size_alloc, World.size_setCell, World.size_drew, size_drewN] at *; omega) | (simp at *; omega))
  have HQz0_15 : Hid (RwB w15 w11.heap.size w12.heap.size z0 cs) := Lib.hid (HQz0_14.out.below hk15)
  clear HQz0_14
  have hz15 := hk15.size
  have HB15 : Hid (Below w.heap.size w w15) := Lib.hid (HB14.out.trans (hk15.mono HB14.out.size))
  have HRvw_15 : Hid (RowB w15 w1.heap.size w2.heap.size vw T) := Lib.hid (HRvw_14.out.below hk15)
  have HRvh_15 : Hid (RowB w15 w12.heap.size w13.heap.size vh T) := Lib.hid (HRvh_14.out.below hk15)
  have HHvg_15 : Hid (Heldr w15 w3.heap.size vg T.length) := Lib.hid (HHvg_14.out.below hk15)
  clear hb15 hk15 HRvw_14 HRvh_14 HHvg_14
  go_wp2
  go_ret
  exact ⟨rfl, HB15.out⟩
end Go.Proofs.YtjopcpoodhamcaaDoor
