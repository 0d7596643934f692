/-
  The walk of the law FnSortMoved. Conditions: none.
-/
import Derived.Test.YtmcjabfnlpohaaaHlp
import Derived.Test.YtmcjabfnlpohaaaDrs
import Derived.Test.YtmcjabfnlpohaaaJoinQ
namespace Go.Proofs.Ytmcjabfnlpohaaa
set_option linter.unusedSimpArgs false
set_option linter.unusedVariables false
open Go.RowKit


set_option maxRecDepth 20000 in
set_option maxHeartbeats 4000000 in
theorem walk_FnSortMoved (a : Option Addr) (len cap : Nat) (a2 : Option Addr) (len2 cap2 : Nat) (w : World) (hb : BytesAt w a len cap) (hb2 : BytesAt w a2 len2 cap2) :
    Calls Try.prog 7 #[.slice a len cap, .slice a2 len2 cap2] w fun e w' => e = .returned (.bool true) ∧ Below w.heap.size w w' := by
  clear hb2
  by_cases hlen : 1048576 < len
  · clear hb
    go_enter Try.func7, Try.ntmps7
    go_wp2
    go_ret
    exact ⟨rfl, Below.refl _ _⟩
  have hlen' : len ≤ 1048576 := by omega
  clear hlen
  by_cases hlm : 1048576 < len2
  · clear hb
    go_enter Try.func7, Try.ntmps7
    go_wp2
    go_ret
    exact ⟨rfl, Below.refl _ _⟩
  have hlm' : len2 ≤ 1048576 := by omega
  clear hlm
  have HB := Lib.hid hb
  clear hb
  have HB0 : Hid (Below w.heap.size w w) := Lib.hid (Below.refl _ _)
  go_enter Try.func7, Try.ntmps7
  go_wp2_with fail
  refine (dSort_any a len cap _ HB.out).mono ?_
  rintro e w1 ⟨v1, xs, rfl, hr1, hcp, hx5, hb1⟩
  have hk1 : Below w.heap.size w w1 := by (repeat' first | (with_reducible exact Below.refl _ _) | (with_reducible assumption) | (with_reducible refine below_drewN ?_ _) | (with_reducible refine Below.drew ?_) | (with_reducible refine Below.alloc ?_ ?_ _) | (with_reducible refine Below.setCell ?_ ?_ _) | (with_reducible refine Below.trans ?_ (Below.mono (by assumption) ?_)) | first | omega | (simp only [World.size_alloc, World.size_setCell, World.size_drew, size_drewN]; omega) | (simp; done) | (simp; omega) | (simp only [World.size_alloc, World.size_setCell, World.size_drew, size_drewN] at *; omega) | (simp at *; omega))
  have hz1 := hk1.size
  have HB1 : Hid (Below w.heap.size w w1) := Lib.hid (HB0.out.trans (hk1.mono (by omega)))
  have HI1_1 : Hid (RowI w1 v1 xs) := Lib.hid ((RowL.inp hr1))
  clear hb1 hk1
  have hrl1 := hr1
  clear hr1
  go_wp2_with fail
  refine (iSort_any v1 xs _ (by omega) HI1_1.out).mono ?_
  rintro e w2 ⟨v2, rfl, hr2, hb2⟩
  have hk2 : Below w1.heap.size w1 w2 := by (repeat' first | (with_reducible exact Below.refl _ _) | (with_reducible assumption) | (with_reducible refine below_drewN ?_ _) | (with_reducible refine Below.drew ?_) | (with_reducible refine Below.alloc ?_ ?_ _) | (with_reducible refine Below.setCell ?_ ?_ _) | (with_reducible refine Below.trans ?_ (Below.mono (by assumption) ?_)) | first | omega | (simp only [World.size_alloc, World.size_setCell, World.size_drew, size_drewN]; omega) | (simp; done) | (simp; omega) | (simp only [World.size_alloc, World.size_setCell, World.size_drew, size_drewN] at *; omega) | (simp at *; omega))
  have hz2 := hk2.size
  have HB2 : Hid (Below w.heap.size w w2) := Lib.hid (HB1.out.trans (hk2.mono (by omega)))
  have HI1_2 : Hid (RowI w2 v1 xs) := Lib.hid (HI1_1.out.below hk2)
  have HI2_2 : Hid (RowI w2 v2 (sortP xs)) := Lib.hid (hr2.inp)
  clear hb2 hk2 HI1_1 hr2
  go_wp2_with fail
  refine (sTSort_any v1 xs _ (by omega) HI1_2.out).mono ?_
  rintro e w3 ⟨v3, rfl, hr3, hb3⟩
  have hk3 : Below w2.heap.size w2 w3 := by (repeat' first | (with_reducible exact Below.refl _ _) | (with_reducible assumption) | (with_reducible refine below_drewN ?_ _) | (with_reducible refine Below.drew ?_) | (with_reducible refine Below.alloc ?_ ?_ _) | (with_reducible refine Below.setCell ?_ ?_ _) | (with_reducible refine Below.trans ?_ (Below.mono (by assumption) ?_)) | first | omega | (simp only [World.size_alloc, World.size_setCell, World.size_drew, size_drewN]; omega) | (simp; done) | (simp; omega) | (simp only [World.size_alloc, World.size_setCell, World.size_drew, size_drewN] at *; omega) | (simp at *; omega))
  have hz3 := hk3.size
  have HB3 : Hid (Below w.heap.size w w3) := Lib.hid (HB2.out.trans (hk3.mono (by omega)))
  have HI1_3 : Hid (RowI w3 v1 xs) := Lib.hid (HI1_2.out.below hk3)
  have HI2_3 : Hid (RowI w3 v2 (sortP xs)) := Lib.hid (HI2_2.out.below hk3)
  have HI3_3 : Hid (RowI w3 v3 (sortP xs)) := Lib.hid (hr3.inp)
  clear hb3 hk3 HI1_2 HI2_2 hr3
  have hPl : (sortP xs).length ≤ 5 := Nat.le_trans (sortP_len xs) hx5
  cases hl : lstB xs
  · clear hl
    go_wp2_with fail
    refine (same_b v2 v3 _ _ (by omega) HI2_3.out HI3_3.out).mono ?_
    rintro e w4 ⟨rfl, hb4⟩
    have hk4 : Below w3.heap.size w3 w4 := by (repeat' first | (with_reducible exact Below.refl _ _) | (with_reducible assumption) | (with_reducible refine below_drewN ?_ _) | (with_reducible refine Below.drew ?_) | (with_reducible refine Below.alloc ?_ ?_ _) | (with_reducible refine Below.setCell ?_ ?_ _) | (with_reducible refine Below.trans ?_ (Below.mono (by assumption) ?_)) | first | omega | (simp only [World.size_alloc, World.size_setCell, World.size_drew, size_drewN]; omega) | (simp; done) | (simp; omega) | (simp only [World.size_alloc, World.size_setCell, World.size_drew, size_drewN] at *; omega) | (simp at *; omega))
    have hz4 := hk4.size
    have HB4 : Hid (Below w.heap.size w w4) := Lib.hid (HB3.out.trans (hk4.mono (by omega)))
    have HI1_4 : Hid (RowI w4 v1 xs) := Lib.hid (HI1_3.out.below hk4)
    have HI2_4 : Hid (RowI w4 v2 (sortP xs)) := Lib.hid (HI2_3.out.below hk4)
    have HI3_4 : Hid (RowI w4 v3 (sortP xs)) := Lib.hid (HI3_3.out.below hk4)
    clear hb4 hk4 HI1_3 HI2_3 HI3_3
    go_wp2_with fail
    refine (same_b v2 v3 _ _ (by omega) HI2_4.out HI3_4.out).mono ?_
    rintro e w5 ⟨rfl, hb5⟩
    have hk5 : Below w4.heap.size w4 w5 := by (repeat' first | (with_reducible exact Below.refl _ _) | (with_reducible assumption) | (with_reducible refine below_drewN ?_ _) | (with_reducible refine Below.drew ?_) | (with_reducible refine Below.alloc ?_ ?_ _) | (with_reducible refine Below.setCell ?_ ?_ _) | (with_reducible refine Below.trans ?_ (Below.mono (by assumption) ?_)) | first | omega | (simp only [World.size_alloc, World.size_setCell, World.size_drew, size_drewN]; omega) | (simp; done) | (simp; omega) | (simp only [World.size_alloc, World.size_setCell, World.size_drew, size_drewN] at *; omega) | (simp at *; omega))
    have hz5 := hk5.size
    have HB5 : Hid (Below w.heap.size w w5) := Lib.hid (HB4.out.trans (hk5.mono (by omega)))
    have HI1_5 : Hid (RowI w5 v1 xs) := Lib.hid (HI1_4.out.below hk5)
    have HI2_5 : Hid (RowI w5 v2 (sortP xs)) := Lib.hid (HI2_4.out.below hk5)
    have HI3_5 : Hid (RowI w5 v3 (sortP xs)) := Lib.hid (HI3_4.out.below hk5)
    clear hb5 hk5 HI1_4 HI2_4 HI3_4
    go_wp2
    go_ret
    exact ⟨rfl, HB5.out⟩
  have HLX := Lib.hid hl
  have hP : sortP xs = sortT xs := by simp [sortP, hl]
  rw [hP] at HI2_3 HI3_3 hPl
  have hln : xs.length ≤ 5 := by rw [sortT_len] at hPl; exact hPl
  clear hl hP
  go_wp2_with fail
  refine (same_b v2 v3 _ _ (by omega) HI2_3.out HI3_3.out).mono ?_
  rintro e w4 ⟨rfl, hb4⟩
  have hk4 : Below w3.heap.size w3 w4 := by (repeat' first | (with_reducible exact Below.refl _ _) | (with_reducible assumption) | (with_reducible refine below_drewN ?_ _) | (with_reducible refine Below.drew ?_) | (with_reducible refine Below.alloc ?_ ?_ _) | (with_reducible refine Below.setCell ?_ ?_ _) | (with_reducible refine Below.trans ?_ (Below.mono (by assumption) ?_)) | first | omega | (simp only [World.size_alloc, World.size_setCell, World.size_drew, size_drewN]; omega) | (simp; done) | (simp; omega) | (simp only [World.size_alloc, World.size_setCell, World.size_drew, size_drewN] at *; omega) | (simp at *; omega))
  have hz4 := hk4.size
  have HB4 : Hid (Below w.heap.size w w4) := Lib.hid (HB3.out.trans (hk4.mono (by omega)))
  have HI1_4 : Hid (RowI w4 v1 xs) := Lib.hid (HI1_3.out.below hk4)
  have HI2_4 : Hid (RowI w4 v2 (sortT xs)) := Lib.hid (HI2_3.out.below hk4)
  have HI3_4 : Hid (RowI w4 v3 (sortT xs)) := Lib.hid (HI3_3.out.below hk4)
  clear hb4 hk4 HI1_3 HI2_3 HI3_3
  have hr14 := HI1_4.out
  have HLN := Lib.hid (rot_lst HLX.out)
  have HSO := Lib.hid (rot_sort HLX.out)
  rcases hr14 with ⟨e1, e2⟩ | ⟨g, o, c, e1, hg, htm⟩
  · obtain ⟨g', c', e3, -⟩ := hrl1
    rw [e3] at e1
    cases e1
  obtain ⟨k, hk⟩ : ∃ k, k = len2 % (xs.length + 1) := ⟨_, rfl⟩
  have hkl : k ≤ xs.length := by rw [hk]; have := Nat.mod_lt len2 (show 0 < xs.length + 1 by omega); omega
  subst e1
  obtain ⟨an, nn, cn, e4, hnc⟩ := hcp
  simp only [Value.slice.injEq] at e4
  obtain ⟨rfl, rfl, rfl⟩ := e4
  have hz : ¬ (xs.length : Int) + 1 = 0 := by omega
  have q1 : IntKind.i64.wrap ((xs.length : Int) + 1) = (xs.length : Int) + 1 := IntWalk.i64_in _ (by omega)
  have q2 : (len2 : Int).tmod ((xs.length : Int) + 1) = (k : Int) := by
    rw [hk, Int.tmod_eq_emod_of_nonneg (by omega)]; push_cast; rfl
  have k0 : (0 : Int) ≤ (k : Int) := Int.natCast_nonneg _
  have k1 : (k : Int) ≤ (xs.length : Int) := by omega
  have k2 : (k : Int) ≤ (c : Int) := by omega
  obtain ⟨AD, hAD, -⟩ := RowI.from ⟨hg, htm⟩ k hkl hnc
  have HRF : Hid (∀ W, Below w4.heap.size w4 W → RowI W (.slice (some AD) (xs.length - k) (c - k)) (xs.drop k)) := Lib.hid (fun W hb => by
    obtain ⟨AD', hA', hR⟩ := RowI.from (w := W) ⟨Nat.lt_of_lt_of_le hg hb.size, htm.below hb hg⟩ k hkl hnc
    rw [hAD] at hA'
    cases hA'
    exact hR)
  have HRT : Hid (∀ W, Below w4.heap.size w4 W → RowI W (.slice (some ⟨g, o, none⟩) k c) (xs.take k)) := Lib.hid (fun W hb => RowI.upto ⟨Nat.lt_of_lt_of_le hg hb.size, htm.below hb hg⟩ k hkl)
  have HEM : Hid (∀ W : World, w4.heap.size ≤ W.heap.size → (W.alloc (.cells #[] 24)).ownsRow w4.heap.size 24 2 (.slice (some ⟨W.heap.size, 0, none⟩) 0 0) ([] : List Tm).length (vS [])) := Lib.hid (fun W hW => emp_own hW)
  have HHK := Lib.hid hk
  have HHN := Lib.hid hnc
  have HTM := Lib.hid htm
  have w4z : w4.heap.size ≤ w4.heap.size := Nat.le_refl _
  have hxl : ([] : List Tm).length + (xs.drop k).length ≤ 3000000 := by simp; omega
  have hxl2 : ([] ++ xs.drop k : List Tm).length + (xs.take k).length ≤ 3000000 := by simp; omega
  have hxl3 : (([] ++ xs.drop k) ++ xs.take k : List Tm).length ≤ 1000000000 := by simp; omega
  have HX1 := Lib.hid hxl
  have HX2 := Lib.hid hxl2
  have HX3 := Lib.hid hxl3
  clear hk htm hnc hxl hxl2 hxl3
  go_wp2
  go_region_held3 (fun w' => w4.heap.size ≤ w'.heap.size ∧ Below w4.heap.size w4 w')
    (first | ((repeat' first | (with_reducible exact Below.refl _ _) | (with_reducible assumption) | (with_reducible refine below_drewN ?_ _) | (with_reducible refine Below.drew ?_) | (with_reducible refine Below.alloc ?_ ?_ _) | (with_reducible refine Below.setCell ?_ ?_ _) | (with_reducible refine Below.trans ?_ (Below.mono (by assumption) ?_)) | first | omega | (simp only [World.size_alloc, World.size_setCell, World.size_drew, size_drewN]; omega) | (simp; done) | (simp; omega) | (simp only [World.size_alloc, World.size_setCell, World.size_drew, size_drewN] at *; omega) | (simp at *; omega)); done) | ((try go_split_ands); (refine ⟨?_, ?_⟩ <;> first | omega | (simp only [World.size_alloc, World.size_setCell, World.size_drew, size_drewN]; omega) | (simp (disch := first | omega | (simp; done) | (simp; omega)) [go_sem, *]; done) | ((repeat' first | (with_reducible exact Below.refl _ _) | (with_reducible assumption) | (with_reducible refine below_drewN ?_ _) | (with_reducible refine Below.drew ?_) | (with_reducible refine Below.alloc ?_ ?_ _) | (with_reducible refine Below.setCell ?_ ?_ _) | (with_reducible refine Below.trans ?_ (Below.mono (by assumption) ?_)) | first | omega | (simp only [World.size_alloc, World.size_setCell, World.size_drew, size_drewN]; omega) | (simp; done) | (simp; omega) | (simp only [World.size_alloc, World.size_setCell, World.size_drew, size_drewN] at *; omega) | (simp at *; omega)); done))))
    (first
      | (refine step_app rfl _ _ rfl w4.heap.size _ _ [] (xs.drop k) rfl (HEM.out _ (by first | omega | (simp only [World.size_alloc, World.size_setCell, World.size_drew, size_drewN]; omega) | (simp; done) | (simp; omega) | (simp only [World.size_alloc, World.size_setCell, World.size_drew, size_drewN] at *; omega) | (simp at *; omega))) rfl (HRF.out _ (by (repeat' first | (with_reducible exact Below.refl _ _) | (with_reducible assumption) | (with_reducible refine below_drewN ?_ _) | (with_reducible refine Below.drew ?_) | (with_reducible refine Below.alloc ?_ ?_ _) | (with_reducible refine Below.setCell ?_ ?_ _) | (with_reducible refine Below.trans ?_ (Below.mono (by assumption) ?_)) | first | omega | (simp only [World.size_alloc, World.size_setCell, World.size_drew, size_drewN]; omega) | (simp; done) | (simp; omega) | (simp only [World.size_alloc, World.size_setCell, World.size_drew, size_drewN] at *; omega) | (simp at *; omega)))) HX1.out (by first | omega | (simp only [World.size_alloc, World.size_setCell, World.size_drew, size_drewN]; omega) | (simp; done) | (simp; omega) | (simp only [World.size_alloc, World.size_setCell, World.size_drew, size_drewN] at *; omega) | (simp at *; omega)) ?_; intro v8 w8 hown8 hgrow8 hat8 hnil8; (have hz8 := hgrow8.size); (try simp only [World.size_alloc, World.size_drew] at hz8); (have hb8 : Below w4.heap.size w4 w8 := Below.grown (by (repeat' first | (with_reducible exact Below.refl _ _) | (with_reducible assumption) | (with_reducible refine below_drewN ?_ _) | (with_reducible refine Below.drew ?_) | (with_reducible refine Below.alloc ?_ ?_ _) | (with_reducible refine Below.setCell ?_ ?_ _) | (with_reducible refine Below.trans ?_ (Below.mono (by assumption) ?_)) | first | omega | (simp only [World.size_alloc, World.size_setCell, World.size_drew, size_drewN]; omega) | (simp; done) | (simp; omega) | (simp only [World.size_alloc, World.size_setCell, World.size_drew, size_drewN] at *; omega) | (simp at *; omega))) hgrow8 (by first | omega | (simp only [World.size_alloc, World.size_setCell, World.size_drew, size_drewN]; omega) | (simp; done) | (simp; omega) | (simp only [World.size_alloc, World.size_setCell, World.size_drew, size_drewN] at *; omega) | (simp at *; omega)) (fun k hk => ((HEM.out _ (by first | omega | (simp only [World.size_alloc, World.size_setCell, World.size_drew, size_drewN]; omega) | (simp; done) | (simp; omega) | (simp only [World.size_alloc, World.size_setCell, World.size_drew, size_drewN] at *; omega) | (simp at *; omega))).lt k hk).1)); (have HW8 := Lib.hid hown8); clear hown8 hgrow8 hat8 hnil8)
      | (refine step_app rfl _ _ rfl w4.heap.size _ _ ([] ++ xs.drop k) (xs.take k) rfl HW8.out rfl (HRT.out _ (by (repeat' first | (with_reducible exact Below.refl _ _) | (with_reducible assumption) | (with_reducible refine below_drewN ?_ _) | (with_reducible refine Below.drew ?_) | (with_reducible refine Below.alloc ?_ ?_ _) | (with_reducible refine Below.setCell ?_ ?_ _) | (with_reducible refine Below.trans ?_ (Below.mono (by assumption) ?_)) | first | omega | (simp only [World.size_alloc, World.size_setCell, World.size_drew, size_drewN]; omega) | (simp; done) | (simp; omega) | (simp only [World.size_alloc, World.size_setCell, World.size_drew, size_drewN] at *; omega) | (simp at *; omega)))) HX2.out (by first | omega | (simp only [World.size_alloc, World.size_setCell, World.size_drew, size_drewN]; omega) | (simp; done) | (simp; omega) | (simp only [World.size_alloc, World.size_setCell, World.size_drew, size_drewN] at *; omega) | (simp at *; omega)) ?_; intro v9 w9 hown9 hgrow9 hat9 hnil9; (have hz9 := hgrow9.size); (have hb9 : Below w4.heap.size w4 w9 := Below.grown (by (repeat' first | (with_reducible exact Below.refl _ _) | (with_reducible assumption) | (with_reducible refine below_drewN ?_ _) | (with_reducible refine Below.drew ?_) | (with_reducible refine Below.alloc ?_ ?_ _) | (with_reducible refine Below.setCell ?_ ?_ _) | (with_reducible refine Below.trans ?_ (Below.mono (by assumption) ?_)) | first | omega | (simp only [World.size_alloc, World.size_setCell, World.size_drew, size_drewN]; omega) | (simp; done) | (simp; omega) | (simp only [World.size_alloc, World.size_setCell, World.size_drew, size_drewN] at *; omega) | (simp at *; omega))) hgrow9 (by first | omega | (simp only [World.size_alloc, World.size_setCell, World.size_drew, size_drewN]; omega) | (simp; done) | (simp; omega) | (simp only [World.size_alloc, World.size_setCell, World.size_drew, size_drewN] at *; omega) | (simp at *; omega)) (fun k hk => (HW8.out.lt k hk).1)); (have HW9 := Lib.hid hown9); clear hown9 hgrow9 hat9 hnil9)
      | (go_at_call 26; refine (iSort_any _ (([] ++ xs.drop k) ++ xs.take k) _ HX3.out (rowI_own HW9.out)).mono ?_; rintro e w10 ⟨v10, rfl, hr10, hb10⟩; (have hz10 := hb10.size); (have HR10 := Lib.hid hr10); clear hr10))
  have hb10' : Below w4.heap.size w4 w10 := by (repeat' first | (with_reducible exact Below.refl _ _) | (with_reducible assumption) | (with_reducible refine below_drewN ?_ _) | (with_reducible refine Below.drew ?_) | (with_reducible refine Below.alloc ?_ ?_ _) | (with_reducible refine Below.setCell ?_ ?_ _) | (with_reducible refine Below.trans ?_ (Below.mono (by assumption) ?_)) | first | omega | (simp only [World.size_alloc, World.size_setCell, World.size_drew, size_drewN]; omega) | (simp; done) | (simp; omega) | (simp only [World.size_alloc, World.size_setCell, World.size_drew, size_drewN] at *; omega) | (simp at *; omega))
  have hnil : (([] ++ xs.drop k) ++ xs.take k : List Tm) = xs.drop k ++ xs.take k := rfl
  have HR11 : Hid (RowI w10 v10 (sortT xs)) := Lib.hid (by
    have := HR10.out.inp
    rw [hnil, sortP_yes (HLN.out k), HSO.out k] at this
    exact this)
  have HI2_10 := Lib.hid (HI2_4.out.below hb10')
  have HB10 : Hid (Below w.heap.size w w10) := Lib.hid (HB4.out.trans (hb10'.mono HB4.out.size))
  rw [show lstB (xs.drop k ++ xs.take k) = true from HLN.out k]
  clear hb8 hb9 hb10 hb10' HR10 HW8 HW9 hnil
  go_wp2_with fail
  refine (same_b v10 v2 (sortT xs) _ (by omega) HR11.out HI2_10.out).mono ?_
  rintro e w11 ⟨rfl, hb11⟩
  go_wp2
  go_ret
  exact ⟨rfl, HB10.out.trans (hb11.mono HB10.out.size)⟩
end Go.Proofs.Ytmcjabfnlpohaaa
