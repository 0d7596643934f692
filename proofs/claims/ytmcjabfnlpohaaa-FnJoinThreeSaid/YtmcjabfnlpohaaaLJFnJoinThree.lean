/-
  The walk of the law FnJoinThree. Conditions: none.
-/
import Derived.Test.YtmcjabfnlpohaaaHlp
import Derived.Test.YtmcjabfnlpohaaaDrs
import Derived.Test.YtmcjabfnlpohaaaJoinQ
import Derived.Test.YtmcjabfnlpohaaaSjo
namespace Go.Proofs.Ytmcjabfnlpohaaa
set_option linter.unusedSimpArgs false
set_option linter.unusedVariables false
open Go.RowKit


set_option maxRecDepth 20000 in
set_option maxHeartbeats 4000000 in
theorem walk_FnJoinThree (a : Option Addr) (len cap : Nat) (w : World) (hb : BytesAt w a len cap) :
    Calls Try.prog 11 #[.slice a len cap] w fun e w' => e = .returned (.bool true) ∧ Below w.heap.size w w' := by
  by_cases hlen : 1048576 < len
  · clear hb
    go_enter Try.func11, Try.ntmps11
    go_wp2
    go_ret
    exact ⟨rfl, Below.refl _ _⟩
  have hlen' : len ≤ 1048576 := by omega
  clear hlen
  have HB := Lib.hid hb
  clear hb
  have HB0 : Hid (Below w.heap.size w w) := Lib.hid (Below.refl _ _)
  go_enter Try.func11, Try.ntmps11
  go_wp2_with fail
  refine (dJoin_any a len cap _ HB.out).mono ?_
  rintro e w1 ⟨v1, v1b, xs, ys, rfl, hr1, hcp, hr1b, -, hx5, hy5, hb1⟩
  have hk1 : Below w.heap.size w w1 := by (repeat' first | (with_reducible exact Below.refl _ _) | (with_reducible assumption) | (with_reducible refine below_drewN ?_ _) | (with_reducible refine Below.drew ?_) | (with_reducible refine Below.alloc ?_ ?_ _) | (with_reducible refine Below.setCell ?_ ?_ _) | (with_reducible refine Below.trans ?_ (Below.mono (by assumption) ?_)) | first | omega | (simp only [World.size_alloc, World.size_setCell, World.size_drew, size_drewN]; omega) | (simp; done) | (simp; omega) | (simp only [World.size_alloc, World.size_setCell, World.size_drew, size_drewN] at *; omega) | (simp at *; omega))
  have hz1 := hk1.size
  have HB1 : Hid (Below w.heap.size w w1) := Lib.hid (HB0.out.trans (hk1.mono (by omega)))
  have HI1_1 : Hid (RowI w1 v1 xs) := Lib.hid ((RowL.inp hr1))
  have HIb_1 : Hid (RowI w1 v1b ys) := Lib.hid ((RowL.inp hr1b))
  clear hb1 hk1
  have hrl1 := hr1
  clear hr1 hr1b
  go_wp2_with fail
  refine (iJoin_any v1 v1b xs ys _ (by omega) (by omega) HI1_1.out HIb_1.out).mono ?_
  rintro e w2 ⟨v2, rfl, hr2, hb2⟩
  have hk2 : Below w1.heap.size w1 w2 := by (repeat' first | (with_reducible exact Below.refl _ _) | (with_reducible assumption) | (with_reducible refine below_drewN ?_ _) | (with_reducible refine Below.drew ?_) | (with_reducible refine Below.alloc ?_ ?_ _) | (with_reducible refine Below.setCell ?_ ?_ _) | (with_reducible refine Below.trans ?_ (Below.mono (by assumption) ?_)) | first | omega | (simp only [World.size_alloc, World.size_setCell, World.size_drew, size_drewN]; omega) | (simp; done) | (simp; omega) | (simp only [World.size_alloc, World.size_setCell, World.size_drew, size_drewN] at *; omega) | (simp at *; omega))
  have hz2 := hk2.size
  have HB2 : Hid (Below w.heap.size w w2) := Lib.hid (HB1.out.trans (hk2.mono (by omega)))
  have HI1_2 : Hid (RowI w2 v1 xs) := Lib.hid (HI1_1.out.below hk2)
  have HIb_2 : Hid (RowI w2 v1b ys) := Lib.hid (HIb_1.out.below hk2)
  have HI2_2 : Hid (RowI w2 v2 (joinP xs ys)) := Lib.hid (hr2.inp)
  clear hb2 hk2 HI1_1 HIb_1 hr2
  go_wp2_with fail
  refine (sJoin_any v1 v1b xs ys _ (by omega) (by omega) HI1_2.out HIb_2.out).mono ?_
  rintro e w3 ⟨v3, rfl, hr3, hb3⟩
  have hk3 : Below w2.heap.size w2 w3 := by (repeat' first | (with_reducible exact Below.refl _ _) | (with_reducible assumption) | (with_reducible refine below_drewN ?_ _) | (with_reducible refine Below.drew ?_) | (with_reducible refine Below.alloc ?_ ?_ _) | (with_reducible refine Below.setCell ?_ ?_ _) | (with_reducible refine Below.trans ?_ (Below.mono (by assumption) ?_)) | first | omega | (simp only [World.size_alloc, World.size_setCell, World.size_drew, size_drewN]; omega) | (simp; done) | (simp; omega) | (simp only [World.size_alloc, World.size_setCell, World.size_drew, size_drewN] at *; omega) | (simp at *; omega))
  have hz3 := hk3.size
  have HB3 : Hid (Below w.heap.size w w3) := Lib.hid (HB2.out.trans (hk3.mono (by omega)))
  have HI1_3 : Hid (RowI w3 v1 xs) := Lib.hid (HI1_2.out.below hk3)
  have HIb_3 : Hid (RowI w3 v1b ys) := Lib.hid (HIb_2.out.below hk3)
  have HI2_3 : Hid (RowI w3 v2 (joinP xs ys)) := Lib.hid (HI2_2.out.below hk3)
  have HI3_3 : Hid (RowI w3 v3 (joinP xs ys)) := Lib.hid (hr3.inp)
  clear hb3 hk3 HI1_2 HIb_2 HI2_2 hr3
  have hPl := joinP_len xs ys
  cases hl : joinB xs ys
  · clear hl
    go_wp2_with fail
    refine (same_b v2 v3 _ _ (by omega) HI2_3.out HI3_3.out).mono ?_
    rintro e w4 ⟨rfl, hb4⟩
    have hk4 : Below w3.heap.size w3 w4 := by (repeat' first | (with_reducible exact Below.refl _ _) | (with_reducible assumption) | (with_reducible refine below_drewN ?_ _) | (with_reducible refine Below.drew ?_) | (with_reducible refine Below.alloc ?_ ?_ _) | (with_reducible refine Below.setCell ?_ ?_ _) | (with_reducible refine Below.trans ?_ (Below.mono (by assumption) ?_)) | first | omega | (simp only [World.size_alloc, World.size_setCell, World.size_drew, size_drewN]; omega) | (simp; done) | (simp; omega) | (simp only [World.size_alloc, World.size_setCell, World.size_drew, size_drewN] at *; omega) | (simp at *; omega))
    have hz4 := hk4.size
    have HB4 : Hid (Below w.heap.size w w4) := Lib.hid (HB3.out.trans (hk4.mono (by omega)))
    have HI1_4 : Hid (RowI w4 v1 xs) := Lib.hid (HI1_3.out.below hk4)
    have HIb_4 : Hid (RowI w4 v1b ys) := Lib.hid (HIb_3.out.below hk4)
    have HI2_4 : Hid (RowI w4 v2 (joinP xs ys)) := Lib.hid (HI2_3.out.below hk4)
    have HI3_4 : Hid (RowI w4 v3 (joinP xs ys)) := Lib.hid (HI3_3.out.below hk4)
    clear hb4 hk4 HI1_3 HIb_3 HI2_3 HI3_3
    go_wp2_with fail
    refine (same_b v2 v3 _ _ (by omega) HI2_4.out HI3_4.out).mono ?_
    rintro e w5 ⟨rfl, hb5⟩
    have hk5 : Below w4.heap.size w4 w5 := by (repeat' first | (with_reducible exact Below.refl _ _) | (with_reducible assumption) | (with_reducible refine below_drewN ?_ _) | (with_reducible refine Below.drew ?_) | (with_reducible refine Below.alloc ?_ ?_ _) | (with_reducible refine Below.setCell ?_ ?_ _) | (with_reducible refine Below.trans ?_ (Below.mono (by assumption) ?_)) | first | omega | (simp only [World.size_alloc, World.size_setCell, World.size_drew, size_drewN]; omega) | (simp; done) | (simp; omega) | (simp only [World.size_alloc, World.size_setCell, World.size_drew, size_drewN] at *; omega) | (simp at *; omega))
    have hz5 := hk5.size
    have HB5 : Hid (Below w.heap.size w w5) := Lib.hid (HB4.out.trans (hk5.mono (by omega)))
    have HI1_5 : Hid (RowI w5 v1 xs) := Lib.hid (HI1_4.out.below hk5)
    have HIb_5 : Hid (RowI w5 v1b ys) := Lib.hid (HIb_4.out.below hk5)
    have HI2_5 : Hid (RowI w5 v2 (joinP xs ys)) := Lib.hid (HI2_4.out.below hk5)
    have HI3_5 : Hid (RowI w5 v3 (joinP xs ys)) := Lib.hid (HI3_4.out.below hk5)
    clear hb5 hk5 HI1_4 HIb_4 HI2_4 HI3_4
    go_wp2
    go_ret
    exact ⟨rfl, HB5.out⟩
  have HJX := Lib.hid hl
  clear hl
  go_wp2_with fail
  refine (same_b v2 v3 _ _ (by omega) HI2_3.out HI3_3.out).mono ?_
  rintro e w4 ⟨rfl, hb4⟩
  have hk4 : Below w3.heap.size w3 w4 := by (repeat' first | (with_reducible exact Below.refl _ _) | (with_reducible assumption) | (with_reducible refine below_drewN ?_ _) | (with_reducible refine Below.drew ?_) | (with_reducible refine Below.alloc ?_ ?_ _) | (with_reducible refine Below.setCell ?_ ?_ _) | (with_reducible refine Below.trans ?_ (Below.mono (by assumption) ?_)) | first | omega | (simp only [World.size_alloc, World.size_setCell, World.size_drew, size_drewN]; omega) | (simp; done) | (simp; omega) | (simp only [World.size_alloc, World.size_setCell, World.size_drew, size_drewN] at *; omega) | (simp at *; omega))
  have hz4 := hk4.size
  have HB4 : Hid (Below w.heap.size w w4) := Lib.hid (HB3.out.trans (hk4.mono (by omega)))
  have HI1_4 : Hid (RowI w4 v1 xs) := Lib.hid (HI1_3.out.below hk4)
  have HIb_4 : Hid (RowI w4 v1b ys) := Lib.hid (HIb_3.out.below hk4)
  have HI2_4 : Hid (RowI w4 v2 (joinP xs ys)) := Lib.hid (HI2_3.out.below hk4)
  have HI3_4 : Hid (RowI w4 v3 (joinP xs ys)) := Lib.hid (HI3_3.out.below hk4)
  clear hb4 hk4 HI1_3 HIb_3 HI2_3 HI3_3
  have hl3 := joinP_len (joinP xs ys) [(1, 1)]
  have hl4 := joinP_len ys [(1, 1)]
  have hl5 := joinP_len xs (joinP ys [(1, 1)])
  go_wp2_with fail
  refine (iJoin_any v2 (.slice (some ⟨w4.heap.size, 0, none⟩) 1 1) (joinP xs ys) [(1, 1)] _ (by omega) (by simp) (HI2_4.out.below (by (repeat' first | (with_reducible exact Below.refl _ _) | (with_reducible assumption) | (with_reducible refine below_drewN ?_ _) | (with_reducible refine Below.drew ?_) | (with_reducible refine Below.alloc ?_ ?_ _) | (with_reducible refine Below.setCell ?_ ?_ _) | (with_reducible refine Below.trans ?_ (Below.mono (by assumption) ?_)) | first | omega | (simp only [World.size_alloc, World.size_setCell, World.size_drew, size_drewN]; omega) | (simp; done) | (simp; omega) | (simp only [World.size_alloc, World.size_setCell, World.size_drew, size_drewN] at *; omega) | (simp at *; omega)))) (one_row _ (1, 1))).mono ?_
  rintro e w5 ⟨v5, rfl, hr5, hb5⟩
  have hk5 : Below w4.heap.size w4 w5 := by (repeat' first | (with_reducible exact Below.refl _ _) | (with_reducible assumption) | (with_reducible refine below_drewN ?_ _) | (with_reducible refine Below.drew ?_) | (with_reducible refine Below.alloc ?_ ?_ _) | (with_reducible refine Below.setCell ?_ ?_ _) | (with_reducible refine Below.trans ?_ (Below.mono (by assumption) ?_)) | first | omega | (simp only [World.size_alloc, World.size_setCell, World.size_drew, size_drewN]; omega) | (simp; done) | (simp; omega) | (simp only [World.size_alloc, World.size_setCell, World.size_drew, size_drewN] at *; omega) | (simp at *; omega))
  have hz5 := hk5.size
  have HB5 : Hid (Below w.heap.size w w5) := Lib.hid (HB4.out.trans (hk5.mono (by omega)))
  have HI1_5 : Hid (RowI w5 v1 xs) := Lib.hid (HI1_4.out.below hk5)
  have HIb_5 : Hid (RowI w5 v1b ys) := Lib.hid (HIb_4.out.below hk5)
  have HI2_5 : Hid (RowI w5 v2 (joinP xs ys)) := Lib.hid (HI2_4.out.below hk5)
  have HI3_5 : Hid (RowI w5 v3 (joinP xs ys)) := Lib.hid (HI3_4.out.below hk5)
  have HI5_5 : Hid (RowI w5 v5 (joinP (joinP xs ys) [(1, 1)])) := Lib.hid (hr5.inp)
  have HIc_5 : Hid (RowI w5 (.slice (some ⟨w4.heap.size, 0, none⟩) 1 1) [(1, 1)]) := Lib.hid ((RowI.below (one_row w4 (1, 1)) hb5))
  clear hb5 hk5 HI1_4 HIb_4 HI2_4 HI3_4 hr5
  go_wp2_with fail
  refine (iJoin_any v1b (.slice (some ⟨w4.heap.size, 0, none⟩) 1 1) ys [(1, 1)] _ (by omega) (by simp) HIb_5.out HIc_5.out).mono ?_
  rintro e w6 ⟨v6, rfl, hr6, hb6⟩
  have hk6 : Below w5.heap.size w5 w6 := by (repeat' first | (with_reducible exact Below.refl _ _) | (with_reducible assumption) | (with_reducible refine below_drewN ?_ _) | (with_reducible refine Below.drew ?_) | (with_reducible refine Below.alloc ?_ ?_ _) | (with_reducible refine Below.setCell ?_ ?_ _) | (with_reducible refine Below.trans ?_ (Below.mono (by assumption) ?_)) | first | omega | (simp only [World.size_alloc, World.size_setCell, World.size_drew, size_drewN]; omega) | (simp; done) | (simp; omega) | (simp only [World.size_alloc, World.size_setCell, World.size_drew, size_drewN] at *; omega) | (simp at *; omega))
  have hz6 := hk6.size
  have HB6 : Hid (Below w.heap.size w w6) := Lib.hid (HB5.out.trans (hk6.mono (by omega)))
  have HI1_6 : Hid (RowI w6 v1 xs) := Lib.hid (HI1_5.out.below hk6)
  have HIb_6 : Hid (RowI w6 v1b ys) := Lib.hid (HIb_5.out.below hk6)
  have HI2_6 : Hid (RowI w6 v2 (joinP xs ys)) := Lib.hid (HI2_5.out.below hk6)
  have HI3_6 : Hid (RowI w6 v3 (joinP xs ys)) := Lib.hid (HI3_5.out.below hk6)
  have HI5_6 : Hid (RowI w6 v5 (joinP (joinP xs ys) [(1, 1)])) := Lib.hid (HI5_5.out.below hk6)
  have HIc_6 : Hid (RowI w6 (.slice (some ⟨w4.heap.size, 0, none⟩) 1 1) [(1, 1)]) := Lib.hid (HIc_5.out.below hk6)
  have HI6_6 : Hid (RowI w6 v6 (joinP ys [(1, 1)])) := Lib.hid (hr6.inp)
  clear hb6 hk6 HI1_5 HIb_5 HI2_5 HI3_5 HI5_5 HIc_5 hr6
  go_wp2_with fail
  refine (iJoin_any v1 v6 xs (joinP ys [(1, 1)]) _ (by omega) (by omega) HI1_6.out HI6_6.out).mono ?_
  rintro e w7 ⟨v7, rfl, hr7, hb7⟩
  have hk7 : Below w6.heap.size w6 w7 := by (repeat' first | (with_reducible exact Below.refl _ _) | (with_reducible assumption) | (with_reducible refine below_drewN ?_ _) | (with_reducible refine Below.drew ?_) | (with_reducible refine Below.alloc ?_ ?_ _) | (with_reducible refine Below.setCell ?_ ?_ _) | (with_reducible refine Below.trans ?_ (Below.mono (by assumption) ?_)) | first | omega | (simp only [World.size_alloc, World.size_setCell, World.size_drew, size_drewN]; omega) | (simp; done) | (simp; omega) | (simp only [World.size_alloc, World.size_setCell, World.size_drew, size_drewN] at *; omega) | (simp at *; omega))
  have hz7 := hk7.size
  have HB7 : Hid (Below w.heap.size w w7) := Lib.hid (HB6.out.trans (hk7.mono (by omega)))
  have HI1_7 : Hid (RowI w7 v1 xs) := Lib.hid (HI1_6.out.below hk7)
  have HIb_7 : Hid (RowI w7 v1b ys) := Lib.hid (HIb_6.out.below hk7)
  have HI2_7 : Hid (RowI w7 v2 (joinP xs ys)) := Lib.hid (HI2_6.out.below hk7)
  have HI3_7 : Hid (RowI w7 v3 (joinP xs ys)) := Lib.hid (HI3_6.out.below hk7)
  have HI5_7 : Hid (RowI w7 v5 (joinP (joinP xs ys) [(1, 1)])) := Lib.hid (HI5_6.out.below hk7)
  have HIc_7 : Hid (RowI w7 (.slice (some ⟨w4.heap.size, 0, none⟩) 1 1) [(1, 1)]) := Lib.hid (HIc_6.out.below hk7)
  have HI6_7 : Hid (RowI w7 v6 (joinP ys [(1, 1)])) := Lib.hid (HI6_6.out.below hk7)
  have HI7_7 : Hid (RowI w7 v7 (joinP xs (joinP ys [(1, 1)]))) := Lib.hid (hr7.inp)
  clear hb7 hk7 HI1_6 HIb_6 HI2_6 HI3_6 HI5_6 HIc_6 HI6_6 hr7
  cases j1 : joinB (joinP xs ys) [(1, 1)]
  · clear j1
    go_wp2
    go_ret
    exact ⟨rfl, HB7.out⟩
  cases j2 : joinB ys [(1, 1)]
  · clear j2 j1
    go_wp2
    go_ret
    exact ⟨rfl, HB7.out⟩
  cases j3 : joinB xs (joinP ys [(1, 1)])
  · clear j3 j2 j1
    go_wp2
    go_ret
    exact ⟨rfl, HB7.out⟩
  have HEQ := Lib.hid (join_three HJX.out j1 j2 j3)
  clear j1 j2 j3
  go_wp2_with fail
  refine (same_b v5 v7 (joinP xs (joinP ys [(1, 1)])) _ (by omega) (by rw [← HEQ.out]; exact HI5_7.out) HI7_7.out).mono ?_
  rintro e w8 ⟨rfl, hb8⟩
  go_wp2
  go_ret
  exact ⟨rfl, HB7.out.trans (hb8.mono HB7.out.size)⟩
end Go.Proofs.Ytmcjabfnlpohaaa
