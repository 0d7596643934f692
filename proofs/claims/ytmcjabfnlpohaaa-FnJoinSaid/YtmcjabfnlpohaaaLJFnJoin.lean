/-
  The walk of the law FnJoin. Conditions: none.
-/
import Derived.Test.YtmcjabfnlpohaaaHlp
import Derived.Test.YtmcjabfnlpohaaaDrs
import Derived.Test.YtmcjabfnlpohaaaJoinQ
import Derived.Test.YtmcjabfnlpohaaaSjo
namespace Go.Proofs.Ytmcjabfnlpohaaa
set_option linter.unusedSimpArgs false
set_option linter.unusedVariables false
open Go.RowKit


set_option maxRecDepth 20000 in
set_option maxHeartbeats 4000000 in
theorem walk_FnJoin (a : Option Addr) (len cap : Nat) (w : World) (hb : BytesAt w a len cap) :
    Calls Try.prog 14 #[.slice a len cap] w fun e w' => e = .returned (.bool true) ∧ Below w.heap.size w w' := by
  by_cases hlen : 1048576 < len
  · clear hb
    go_enter Try.func14, Try.ntmps14
    go_wp2
    go_ret
    exact ⟨rfl, Below.refl _ _⟩
  have hlen' : len ≤ 1048576 := by omega
  clear hlen
  have HB := Lib.hid hb
  clear hb
  have HB0 : Hid (Below w.heap.size w w) := Lib.hid (Below.refl _ _)
  go_enter Try.func14, Try.ntmps14
  go_wp2_with fail
  refine (dJoin_any a len cap _ HB.out).mono ?_
  rintro e w1 ⟨v1, v1b, xs, ys, rfl, hr1, hcp, hr1b, -, hx5, hy5, hb1⟩
  have hk1 : Below w.heap.size w w1 := by (repeat' first | (with_reducible exact Below.refl _ _) | (with_reducible assumption) | (with_reducible refine below_drewN ?_ _) | (with_reducible refine Below.drew ?_) | (with_reducible refine Below.alloc ?_ ?_ _) | (with_reducible refine Below.setCell ?_ ?_ _) | (with_reducible refine Below.trans ?_ (Below.mono (by assumption) ?_)) | first | omega | (simp only [World.size_alloc, World.size_setCell, World.size_drew, size_drewN]; omega) | (simp; done) | (simp; omega) | (simp only [World.size_alloc, World.size_setCell, World.size_drew, size_drewN] at *; omega) | (simp at *; omega))
  have hz1 := hk1.size
  have HB1 : Hid (Below w.heap.size w w1) := Lib.hid (HB0.out.trans (hk1.mono (by omega)))
  have HI1_1 : Hid (RowI w1 v1 xs) := Lib.hid ((RowL.inp hr1))
  have HIb_1 : Hid (RowI w1 v1b ys) := Lib.hid ((RowL.inp hr1b))
  clear hb1 hk1
  have hrl1 := hr1
  clear hr1 hr1b
  go_wp2_with fail
  refine (iJoin_any v1 v1b xs ys _ (by omega) (by omega) HI1_1.out HIb_1.out).mono ?_
  rintro e w2 ⟨v2, rfl, hr2, hb2⟩
  have hk2 : Below w1.heap.size w1 w2 := by (repeat' first | (with_reducible exact Below.refl _ _) | (with_reducible assumption) | (with_reducible refine below_drewN ?_ _) | (with_reducible refine Below.drew ?_) | (with_reducible refine Below.alloc ?_ ?_ _) | (with_reducible refine Below.setCell ?_ ?_ _) | (with_reducible refine Below.trans ?_ (Below.mono (by assumption) ?_)) | first | omega | (simp only [World.size_alloc, World.size_setCell, World.size_drew, size_drewN]; omega) | (simp; done) | (simp; omega) | (simp only [World.size_alloc, World.size_setCell, World.size_drew, size_drewN] at *; omega) | (simp at *; omega))
  have hz2 := hk2.size
  have HB2 : Hid (Below w.heap.size w w2) := Lib.hid (HB1.out.trans (hk2.mono (by omega)))
  have HI1_2 : Hid (RowI w2 v1 xs) := Lib.hid (HI1_1.out.below hk2)
  have HIb_2 : Hid (RowI w2 v1b ys) := Lib.hid (HIb_1.out.below hk2)
  have HI2_2 : Hid (RowI w2 v2 (joinP xs ys)) := Lib.hid (hr2.inp)
  clear hb2 hk2 HI1_1 HIb_1 hr2
  go_wp2_with fail
  refine (sJoin_any v1 v1b xs ys _ (by omega) (by omega) HI1_2.out HIb_2.out).mono ?_
  rintro e w3 ⟨v3, rfl, hr3, hb3⟩
  have hk3 : Below w2.heap.size w2 w3 := by (repeat' first | (with_reducible exact Below.refl _ _) | (with_reducible assumption) | (with_reducible refine below_drewN ?_ _) | (with_reducible refine Below.drew ?_) | (with_reducible refine Below.alloc ?_ ?_ _) | (with_reducible refine Below.setCell ?_ ?_ _) | (with_reducible refine Below.trans ?_ (Below.mono (by assumption) ?_)) | first | omega | (simp only [World.size_alloc, World.size_setCell, World.size_drew, size_drewN]; omega) | (simp; done) | (simp; omega) | (simp only [World.size_alloc, World.size_setCell, World.size_drew, size_drewN] at *; omega) | (simp at *; omega))
  have hz3 := hk3.size
  have HB3 : Hid (Below w.heap.size w w3) := Lib.hid (HB2.out.trans (hk3.mono (by omega)))
  have HI1_3 : Hid (RowI w3 v1 xs) := Lib.hid (HI1_2.out.below hk3)
  have HIb_3 : Hid (RowI w3 v1b ys) := Lib.hid (HIb_2.out.below hk3)
  have HI2_3 : Hid (RowI w3 v2 (joinP xs ys)) := Lib.hid (HI2_2.out.below hk3)
  have HI3_3 : Hid (RowI w3 v3 (joinP xs ys)) := Lib.hid (hr3.inp)
  clear hb3 hk3 HI1_2 HIb_2 HI2_2 hr3
  have hPl := joinP_len xs ys
  cases hl : joinB xs ys
  · clear hl
    go_wp2_with fail
    refine (same_b v2 v3 _ _ (by omega) HI2_3.out HI3_3.out).mono ?_
    rintro e w4 ⟨rfl, hb4⟩
    have hk4 : Below w3.heap.size w3 w4 := by (repeat' first | (with_reducible exact Below.refl _ _) | (with_reducible assumption) | (with_reducible refine below_drewN ?_ _) | (with_reducible refine Below.drew ?_) | (with_reducible refine Below.alloc ?_ ?_ _) | (with_reducible refine Below.setCell ?_ ?_ _) | (with_reducible refine Below.trans ?_ (Below.mono (by assumption) ?_)) | first | omega | (simp only [World.size_alloc, World.size_setCell, World.size_drew, size_drewN]; omega) | (simp; done) | (simp; omega) | (simp only [World.size_alloc, World.size_setCell, World.size_drew, size_drewN] at *; omega) | (simp at *; omega))
    have hz4 := hk4.size
    have HB4 : Hid (Below w.heap.size w w4) := Lib.hid (HB3.out.trans (hk4.mono (by omega)))
    have HI1_4 : Hid (RowI w4 v1 xs) := Lib.hid (HI1_3.out.below hk4)
    have HIb_4 : Hid (RowI w4 v1b ys) := Lib.hid (HIb_3.out.below hk4)
    have HI2_4 : Hid (RowI w4 v2 (joinP xs ys)) := Lib.hid (HI2_3.out.below hk4)
    have HI3_4 : Hid (RowI w4 v3 (joinP xs ys)) := Lib.hid (HI3_3.out.below hk4)
    clear hb4 hk4 HI1_3 HIb_3 HI2_3 HI3_3
    go_wp2_with fail
    refine (same_b v2 v3 _ _ (by omega) HI2_4.out HI3_4.out).mono ?_
    rintro e w5 ⟨rfl, hb5⟩
    have hk5 : Below w4.heap.size w4 w5 := by (repeat' first | (with_reducible exact Below.refl _ _) | (with_reducible assumption) | (with_reducible refine below_drewN ?_ _) | (with_reducible refine Below.drew ?_) | (with_reducible refine Below.alloc ?_ ?_ _) | (with_reducible refine Below.setCell ?_ ?_ _) | (with_reducible refine Below.trans ?_ (Below.mono (by assumption) ?_)) | first | omega | (simp only [World.size_alloc, World.size_setCell, World.size_drew, size_drewN]; omega) | (simp; done) | (simp; omega) | (simp only [World.size_alloc, World.size_setCell, World.size_drew, size_drewN] at *; omega) | (simp at *; omega))
    have hz5 := hk5.size
    have HB5 : Hid (Below w.heap.size w w5) := Lib.hid (HB4.out.trans (hk5.mono (by omega)))
    have HI1_5 : Hid (RowI w5 v1 xs) := Lib.hid (HI1_4.out.below hk5)
    have HIb_5 : Hid (RowI w5 v1b ys) := Lib.hid (HIb_4.out.below hk5)
    have HI2_5 : Hid (RowI w5 v2 (joinP xs ys)) := Lib.hid (HI2_4.out.below hk5)
    have HI3_5 : Hid (RowI w5 v3 (joinP xs ys)) := Lib.hid (HI3_4.out.below hk5)
    clear hb5 hk5 HI1_4 HIb_4 HI2_4 HI3_4
    go_wp2
    go_ret
    exact ⟨rfl, HB5.out⟩
  have HJX := Lib.hid hl
  clear hl
  go_wp2_with fail
  refine (same_b v2 v3 _ _ (by omega) HI2_3.out HI3_3.out).mono ?_
  rintro e w4 ⟨rfl, hb4⟩
  have hk4 : Below w3.heap.size w3 w4 := by (repeat' first | (with_reducible exact Below.refl _ _) | (with_reducible assumption) | (with_reducible refine below_drewN ?_ _) | (with_reducible refine Below.drew ?_) | (with_reducible refine Below.alloc ?_ ?_ _) | (with_reducible refine Below.setCell ?_ ?_ _) | (with_reducible refine Below.trans ?_ (Below.mono (by assumption) ?_)) | first | omega | (simp only [World.size_alloc, World.size_setCell, World.size_drew, size_drewN]; omega) | (simp; done) | (simp; omega) | (simp only [World.size_alloc, World.size_setCell, World.size_drew, size_drewN] at *; omega) | (simp at *; omega))
  have hz4 := hk4.size
  have HB4 : Hid (Below w.heap.size w w4) := Lib.hid (HB3.out.trans (hk4.mono (by omega)))
  have HI1_4 : Hid (RowI w4 v1 xs) := Lib.hid (HI1_3.out.below hk4)
  have HIb_4 : Hid (RowI w4 v1b ys) := Lib.hid (HIb_3.out.below hk4)
  have HI2_4 : Hid (RowI w4 v2 (joinP xs ys)) := Lib.hid (HI2_3.out.below hk4)
  have HI3_4 : Hid (RowI w4 v3 (joinP xs ys)) := Lib.hid (HI3_3.out.below hk4)
  clear hb4 hk4 HI1_3 HIb_3 HI2_3 HI3_3
  go_wp2_with fail
  refine (iJoin_any v1b v1 ys xs _ (by omega) (by omega) HIb_4.out HI1_4.out).mono ?_
  rintro e w5 ⟨v5, rfl, hr5, hb5⟩
  have hk5 : Below w4.heap.size w4 w5 := by (repeat' first | (with_reducible exact Below.refl _ _) | (with_reducible assumption) | (with_reducible refine below_drewN ?_ _) | (with_reducible refine Below.drew ?_) | (with_reducible refine Below.alloc ?_ ?_ _) | (with_reducible refine Below.setCell ?_ ?_ _) | (with_reducible refine Below.trans ?_ (Below.mono (by assumption) ?_)) | first | omega | (simp only [World.size_alloc, World.size_setCell, World.size_drew, size_drewN]; omega) | (simp; done) | (simp; omega) | (simp only [World.size_alloc, World.size_setCell, World.size_drew, size_drewN] at *; omega) | (simp at *; omega))
  have hz5 := hk5.size
  have HB5 : Hid (Below w.heap.size w w5) := Lib.hid (HB4.out.trans (hk5.mono (by omega)))
  have HI1_5 : Hid (RowI w5 v1 xs) := Lib.hid (HI1_4.out.below hk5)
  have HIb_5 : Hid (RowI w5 v1b ys) := Lib.hid (HIb_4.out.below hk5)
  have HI2_5 : Hid (RowI w5 v2 (joinP xs ys)) := Lib.hid (HI2_4.out.below hk5)
  have HI3_5 : Hid (RowI w5 v3 (joinP xs ys)) := Lib.hid (HI3_4.out.below hk5)
  have HI5_5 : Hid (RowI w5 v5 (joinP xs ys)) := Lib.hid ((by have := hr5.inp; rwa [joinP_comm ys xs] at this))
  clear hb5 hk5 HI1_4 HIb_4 HI2_4 HI3_4
  rw [joinB_comm ys xs, HJX.out]
  have HLA := Lib.hid (joinB_iff.1 HJX.out).1
  have HLB := Lib.hid (joinB_iff.1 HJX.out).2.1
  have HWG := Lib.hid (joinP_wgt HJX.out)
  have HWM := Lib.hid (show wgtM (joinP xs ys) = wgt (joinP xs ys) by unfold wgtM; rw [joinP_allV]; rfl)
  have HW1 := Lib.hid (show wgtM xs = wgt xs by unfold wgtM; rw [(lstB_iff.1 HLA.out).2]; rfl)
  have HW2 := Lib.hid (show wgtM ys = wgt ys by unfold wgtM; rw [(lstB_iff.1 HLB.out).2]; rfl)
  have hPb := wgt_bd (lstB_iff.1 HLA.out).2
  have hQb := wgt_bd (lstB_iff.1 HLB.out).2
  obtain ⟨P, hP⟩ : ∃ P, P = wgt xs := ⟨_, rfl⟩
  obtain ⟨Q, hQ⟩ : ∃ Q, Q = wgt ys := ⟨_, rfl⟩
  rw [← hP] at hPb
  rw [← hQ] at hQb
  have HP := Lib.hid hP
  have HQ := Lib.hid hQ
  have HOR := Lib.hid (joinP_ord xs ys)
  have hP1 : 0 ≤ P ∧ P ≤ 765 := by omega
  have hQ1 : 0 ≤ Q ∧ Q ≤ 765 := by omega
  have hPQ : 0 ≤ P * Q ∧ P * Q ≤ 765 * 765 := ⟨Int.mul_nonneg hP1.1 hQ1.1, Int.mul_le_mul hP1.2 hQ1.2 hQ1.1 (by decide)⟩
  have qPQ : IntKind.i64.wrap (P * Q) = P * Q := IntWalk.i64_in _ (by omega)
  have qEq : (P * Q == P * Q) = true := by simp
  clear hP hQ hPb hQb
  go_wp2_with fail
  refine (same_b v5 v2 _ _ (by omega) HI5_5.out HI2_5.out).mono ?_
  rintro e w6 ⟨rfl, hb6⟩
  have hk6 : Below w5.heap.size w5 w6 := by (repeat' first | (with_reducible exact Below.refl _ _) | (with_reducible assumption) | (with_reducible refine below_drewN ?_ _) | (with_reducible refine Below.drew ?_) | (with_reducible refine Below.alloc ?_ ?_ _) | (with_reducible refine Below.setCell ?_ ?_ _) | (with_reducible refine Below.trans ?_ (Below.mono (by assumption) ?_)) | first | omega | (simp only [World.size_alloc, World.size_setCell, World.size_drew, size_drewN]; omega) | (simp; done) | (simp; omega) | (simp only [World.size_alloc, World.size_setCell, World.size_drew, size_drewN] at *; omega) | (simp at *; omega))
  have hz6 := hk6.size
  have HB6 : Hid (Below w.heap.size w w6) := Lib.hid (HB5.out.trans (hk6.mono (by omega)))
  have HI1_6 : Hid (RowI w6 v1 xs) := Lib.hid (HI1_5.out.below hk6)
  have HIb_6 : Hid (RowI w6 v1b ys) := Lib.hid (HIb_5.out.below hk6)
  have HI2_6 : Hid (RowI w6 v2 (joinP xs ys)) := Lib.hid (HI2_5.out.below hk6)
  have HI3_6 : Hid (RowI w6 v3 (joinP xs ys)) := Lib.hid (HI3_5.out.below hk6)
  have HI5_6 : Hid (RowI w6 v5 (joinP xs ys)) := Lib.hid (HI5_5.out.below hk6)
  clear hb6 hk6 HI1_5 HIb_5 HI2_5 HI3_5 HI5_5
  go_wp2_with fail
  refine (order_any v2 _ _ (by omega) HI2_6.out HOR.out).mono ?_
  rintro e w7 ⟨rfl, hb7⟩
  have hk7 : Below w6.heap.size w6 w7 := by (repeat' first | (with_reducible exact Below.refl _ _) | (with_reducible assumption) | (with_reducible refine below_drewN ?_ _) | (with_reducible refine Below.drew ?_) | (with_reducible refine Below.alloc ?_ ?_ _) | (with_reducible refine Below.setCell ?_ ?_ _) | (with_reducible refine Below.trans ?_ (Below.mono (by assumption) ?_)) | first | omega | (simp only [World.size_alloc, World.size_setCell, World.size_drew, size_drewN]; omega) | (simp; done) | (simp; omega) | (simp only [World.size_alloc, World.size_setCell, World.size_drew, size_drewN] at *; omega) | (simp at *; omega))
  have hz7 := hk7.size
  have HB7 : Hid (Below w.heap.size w w7) := Lib.hid (HB6.out.trans (hk7.mono (by omega)))
  have HI1_7 : Hid (RowI w7 v1 xs) := Lib.hid (HI1_6.out.below hk7)
  have HIb_7 : Hid (RowI w7 v1b ys) := Lib.hid (HIb_6.out.below hk7)
  have HI2_7 : Hid (RowI w7 v2 (joinP xs ys)) := Lib.hid (HI2_6.out.below hk7)
  have HI3_7 : Hid (RowI w7 v3 (joinP xs ys)) := Lib.hid (HI3_6.out.below hk7)
  have HI5_7 : Hid (RowI w7 v5 (joinP xs ys)) := Lib.hid (HI5_6.out.below hk7)
  clear hb7 hk7 HI1_6 HIb_6 HI2_6 HI3_6 HI5_6
  go_wp2_with fail
  refine (iWeight_any v2 _ _ (by omega) HI2_7.out).mono ?_
  rintro e w8 ⟨rfl, hb8⟩
  have hk8 : Below w7.heap.size w7 w8 := by (repeat' first | (with_reducible exact Below.refl _ _) | (with_reducible assumption) | (with_reducible refine below_drewN ?_ _) | (with_reducible refine Below.drew ?_) | (with_reducible refine Below.alloc ?_ ?_ _) | (with_reducible refine Below.setCell ?_ ?_ _) | (with_reducible refine Below.trans ?_ (Below.mono (by assumption) ?_)) | first | omega | (simp only [World.size_alloc, World.size_setCell, World.size_drew, size_drewN]; omega) | (simp; done) | (simp; omega) | (simp only [World.size_alloc, World.size_setCell, World.size_drew, size_drewN] at *; omega) | (simp at *; omega))
  have hz8 := hk8.size
  have HB8 : Hid (Below w.heap.size w w8) := Lib.hid (HB7.out.trans (hk8.mono (by omega)))
  have HI1_8 : Hid (RowI w8 v1 xs) := Lib.hid (HI1_7.out.below hk8)
  have HIb_8 : Hid (RowI w8 v1b ys) := Lib.hid (HIb_7.out.below hk8)
  have HI2_8 : Hid (RowI w8 v2 (joinP xs ys)) := Lib.hid (HI2_7.out.below hk8)
  have HI3_8 : Hid (RowI w8 v3 (joinP xs ys)) := Lib.hid (HI3_7.out.below hk8)
  have HI5_8 : Hid (RowI w8 v5 (joinP xs ys)) := Lib.hid (HI5_7.out.below hk8)
  clear hb8 hk8 HI1_7 HIb_7 HI2_7 HI3_7 HI5_7
  rw [HWM.out, HWG.out, ← HP.out, ← HQ.out]
  go_wp2_with fail
  refine (iWeight_any v1 _ _ (by omega) HI1_8.out).mono ?_
  rintro e w9 ⟨rfl, hb9⟩
  have hk9 : Below w8.heap.size w8 w9 := by (repeat' first | (with_reducible exact Below.refl _ _) | (with_reducible assumption) | (with_reducible refine below_drewN ?_ _) | (with_reducible refine Below.drew ?_) | (with_reducible refine Below.alloc ?_ ?_ _) | (with_reducible refine Below.setCell ?_ ?_ _) | (with_reducible refine Below.trans ?_ (Below.mono (by assumption) ?_)) | first | omega | (simp only [World.size_alloc, World.size_setCell, World.size_drew, size_drewN]; omega) | (simp; done) | (simp; omega) | (simp only [World.size_alloc, World.size_setCell, World.size_drew, size_drewN] at *; omega) | (simp at *; omega))
  have hz9 := hk9.size
  have HB9 : Hid (Below w.heap.size w w9) := Lib.hid (HB8.out.trans (hk9.mono (by omega)))
  have HI1_9 : Hid (RowI w9 v1 xs) := Lib.hid (HI1_8.out.below hk9)
  have HIb_9 : Hid (RowI w9 v1b ys) := Lib.hid (HIb_8.out.below hk9)
  have HI2_9 : Hid (RowI w9 v2 (joinP xs ys)) := Lib.hid (HI2_8.out.below hk9)
  have HI3_9 : Hid (RowI w9 v3 (joinP xs ys)) := Lib.hid (HI3_8.out.below hk9)
  have HI5_9 : Hid (RowI w9 v5 (joinP xs ys)) := Lib.hid (HI5_8.out.below hk9)
  clear hb9 hk9 HI1_8 HIb_8 HI2_8 HI3_8 HI5_8
  rw [HW1.out, ← HP.out]
  go_wp2_with fail
  refine (iWeight_any v1b _ _ (by omega) HIb_9.out).mono ?_
  rintro e w10 ⟨rfl, hb10⟩
  have hk10 : Below w9.heap.size w9 w10 := by (repeat' first | (with_reducible exact Below.refl _ _) | (with_reducible assumption) | (with_reducible refine below_drewN ?_ _) | (with_reducible refine Below.drew ?_) | (with_reducible refine Below.alloc ?_ ?_ _) | (with_reducible refine Below.setCell ?_ ?_ _) | (with_reducible refine Below.trans ?_ (Below.mono (by assumption) ?_)) | first | omega | (simp only [World.size_alloc, World.size_setCell, World.size_drew, size_drewN]; omega) | (simp; done) | (simp; omega) | (simp only [World.size_alloc, World.size_setCell, World.size_drew, size_drewN] at *; omega) | (simp at *; omega))
  have hz10 := hk10.size
  have HB10 : Hid (Below w.heap.size w w10) := Lib.hid (HB9.out.trans (hk10.mono (by omega)))
  have HI1_10 : Hid (RowI w10 v1 xs) := Lib.hid (HI1_9.out.below hk10)
  have HIb_10 : Hid (RowI w10 v1b ys) := Lib.hid (HIb_9.out.below hk10)
  have HI2_10 : Hid (RowI w10 v2 (joinP xs ys)) := Lib.hid (HI2_9.out.below hk10)
  have HI3_10 : Hid (RowI w10 v3 (joinP xs ys)) := Lib.hid (HI3_9.out.below hk10)
  have HI5_10 : Hid (RowI w10 v5 (joinP xs ys)) := Lib.hid (HI5_9.out.below hk10)
  clear hb10 hk10 HI1_9 HIb_9 HI2_9 HI3_9 HI5_9
  rw [HW2.out, ← HQ.out]
  go_wp2
  go_ret
  exact ⟨rfl, HB10.out⟩
end Go.Proofs.Ytmcjabfnlpohaaa
