/-
  The walk of the law FnJoinParts. Conditions: none.
-/
import Derived.Test.YtmcjabfnlpohaaaHlp
import Derived.Test.YtmcjabfnlpohaaaDrs
import Derived.Test.YtmcjabfnlpohaaaJoinQ
import Derived.Test.YtmcjabfnlpohaaaSjo
namespace Go.Proofs.Ytmcjabfnlpohaaa
set_option linter.unusedSimpArgs false
set_option linter.unusedVariables false
open Go.RowKit


set_option maxRecDepth 20000 in
set_option maxHeartbeats 4000000 in
theorem walk_FnJoinParts (a : Option Addr) (len cap : Nat) (a2 : Option Addr) (len2 cap2 : Nat) (w : World) (hb : BytesAt w a len cap) (hb2 : BytesAt w a2 len2 cap2) :
    Calls Try.prog 13 #[.slice a len cap, .slice a2 len2 cap2] w fun e w' => e = .returned (.bool true) ∧ Below w.heap.size w w' := by
  clear hb2
  by_cases hlen : 1048576 < len
  · clear hb
    go_enter Try.func13, Try.ntmps13
    go_wp2
    go_ret
    exact ⟨rfl, Below.refl _ _⟩
  have hlen' : len ≤ 1048576 := by omega
  clear hlen
  by_cases hlm : 1048576 < len2
  · clear hb
    go_enter Try.func13, Try.ntmps13
    go_wp2
    go_ret
    exact ⟨rfl, Below.refl _ _⟩
  have hlm' : len2 ≤ 1048576 := by omega
  clear hlm
  have HB := Lib.hid hb
  clear hb
  have HB0 : Hid (Below w.heap.size w w) := Lib.hid (Below.refl _ _)
  go_enter Try.func13, Try.ntmps13
  go_wp2_with fail
  refine (dJoin_any a len cap _ HB.out).mono ?_
  rintro e w1 ⟨v1, v1b, xs, ys, rfl, hr1, hcp, hr1b, -, hx5, hy5, hb1⟩
  have hk1 : Below w.heap.size w w1 := by (repeat' first | (with_reducible exact Below.refl _ _) | (with_reducible assumption) | (with_reducible refine below_drewN ?_ _) | (with_reducible refine Below.drew ?_) | (with_reducible refine Below.alloc ?_ ?_ _) | (with_reducible refine Below.setCell ?_ ?_ _) | (with_reducible refine Below.trans ?_ (Below.mono (by assumption) ?_)) | first | omega | (simp only [World.size_alloc, World.size_setCell, World.size_drew, size_drewN]; omega) | (simp; done) | (simp; omega) | (simp only [World.size_alloc, World.size_setCell, World.size_drew, size_drewN] at *; omega) | (simp at *; omega))
  have hz1 := hk1.size
  have HB1 : Hid (Below w.heap.size w w1) := Lib.hid (HB0.out.trans (hk1.mono (by omega)))
  have HI1_1 : Hid (RowI w1 v1 xs) := Lib.hid ((RowL.inp hr1))
  have HIb_1 : Hid (RowI w1 v1b ys) := Lib.hid ((RowL.inp hr1b))
  clear hb1 hk1
  have hrl1 := hr1
  clear hr1 hr1b
  go_wp2_with fail
  refine (iJoin_any v1 v1b xs ys _ (by omega) (by omega) HI1_1.out HIb_1.out).mono ?_
  rintro e w2 ⟨v2, rfl, hr2, hb2⟩
  have hk2 : Below w1.heap.size w1 w2 := by (repeat' first | (with_reducible exact Below.refl _ _) | (with_reducible assumption) | (with_reducible refine below_drewN ?_ _) | (with_reducible refine Below.drew ?_) | (with_reducible refine Below.alloc ?_ ?_ _) | (with_reducible refine Below.setCell ?_ ?_ _) | (with_reducible refine Below.trans ?_ (Below.mono (by assumption) ?_)) | first | omega | (simp only [World.size_alloc, World.size_setCell, World.size_drew, size_drewN]; omega) | (simp; done) | (simp; omega) | (simp only [World.size_alloc, World.size_setCell, World.size_drew, size_drewN] at *; omega) | (simp at *; omega))
  have hz2 := hk2.size
  have HB2 : Hid (Below w.heap.size w w2) := Lib.hid (HB1.out.trans (hk2.mono (by omega)))
  have HI1_2 : Hid (RowI w2 v1 xs) := Lib.hid (HI1_1.out.below hk2)
  have HIb_2 : Hid (RowI w2 v1b ys) := Lib.hid (HIb_1.out.below hk2)
  have HI2_2 : Hid (RowI w2 v2 (joinP xs ys)) := Lib.hid (hr2.inp)
  clear hb2 hk2 HI1_1 HIb_1 hr2
  go_wp2_with fail
  refine (sJoin_any v1 v1b xs ys _ (by omega) (by omega) HI1_2.out HIb_2.out).mono ?_
  rintro e w3 ⟨v3, rfl, hr3, hb3⟩
  have hk3 : Below w2.heap.size w2 w3 := by (repeat' first | (with_reducible exact Below.refl _ _) | (with_reducible assumption) | (with_reducible refine below_drewN ?_ _) | (with_reducible refine Below.drew ?_) | (with_reducible refine Below.alloc ?_ ?_ _) | (with_reducible refine Below.setCell ?_ ?_ _) | (with_reducible refine Below.trans ?_ (Below.mono (by assumption) ?_)) | first | omega | (simp only [World.size_alloc, World.size_setCell, World.size_drew, size_drewN]; omega) | (simp; done) | (simp; omega) | (simp only [World.size_alloc, World.size_setCell, World.size_drew, size_drewN] at *; omega) | (simp at *; omega))
  have hz3 := hk3.size
  have HB3 : Hid (Below w.heap.size w w3) := Lib.hid (HB2.out.trans (hk3.mono (by omega)))
  have HI1_3 : Hid (RowI w3 v1 xs) := Lib.hid (HI1_2.out.below hk3)
  have HIb_3 : Hid (RowI w3 v1b ys) := Lib.hid (HIb_2.out.below hk3)
  have HI2_3 : Hid (RowI w3 v2 (joinP xs ys)) := Lib.hid (HI2_2.out.below hk3)
  have HI3_3 : Hid (RowI w3 v3 (joinP xs ys)) := Lib.hid (hr3.inp)
  clear hb3 hk3 HI1_2 HIb_2 HI2_2 hr3
  have hPl := joinP_len xs ys
  cases hl : joinB xs ys
  · clear hl
    go_wp2_with fail
    refine (same_b v2 v3 _ _ (by omega) HI2_3.out HI3_3.out).mono ?_
    rintro e w4 ⟨rfl, hb4⟩
    have hk4 : Below w3.heap.size w3 w4 := by (repeat' first | (with_reducible exact Below.refl _ _) | (with_reducible assumption) | (with_reducible refine below_drewN ?_ _) | (with_reducible refine Below.drew ?_) | (with_reducible refine Below.alloc ?_ ?_ _) | (with_reducible refine Below.setCell ?_ ?_ _) | (with_reducible refine Below.trans ?_ (Below.mono (by assumption) ?_)) | first | omega | (simp only [World.size_alloc, World.size_setCell, World.size_drew, size_drewN]; omega) | (simp; done) | (simp; omega) | (simp only [World.size_alloc, World.size_setCell, World.size_drew, size_drewN] at *; omega) | (simp at *; omega))
    have hz4 := hk4.size
    have HB4 : Hid (Below w.heap.size w w4) := Lib.hid (HB3.out.trans (hk4.mono (by omega)))
    have HI1_4 : Hid (RowI w4 v1 xs) := Lib.hid (HI1_3.out.below hk4)
    have HIb_4 : Hid (RowI w4 v1b ys) := Lib.hid (HIb_3.out.below hk4)
    have HI2_4 : Hid (RowI w4 v2 (joinP xs ys)) := Lib.hid (HI2_3.out.below hk4)
    have HI3_4 : Hid (RowI w4 v3 (joinP xs ys)) := Lib.hid (HI3_3.out.below hk4)
    clear hb4 hk4 HI1_3 HIb_3 HI2_3 HI3_3
    go_wp2_with fail
    refine (same_b v2 v3 _ _ (by omega) HI2_4.out HI3_4.out).mono ?_
    rintro e w5 ⟨rfl, hb5⟩
    have hk5 : Below w4.heap.size w4 w5 := by (repeat' first | (with_reducible exact Below.refl _ _) | (with_reducible assumption) | (with_reducible refine below_drewN ?_ _) | (with_reducible refine Below.drew ?_) | (with_reducible refine Below.alloc ?_ ?_ _) | (with_reducible refine Below.setCell ?_ ?_ _) | (with_reducible refine Below.trans ?_ (Below.mono (by assumption) ?_)) | first | omega | (simp only [World.size_alloc, World.size_setCell, World.size_drew, size_drewN]; omega) | (simp; done) | (simp; omega) | (simp only [World.size_alloc, World.size_setCell, World.size_drew, size_drewN] at *; omega) | (simp at *; omega))
    have hz5 := hk5.size
    have HB5 : Hid (Below w.heap.size w w5) := Lib.hid (HB4.out.trans (hk5.mono (by omega)))
    have HI1_5 : Hid (RowI w5 v1 xs) := Lib.hid (HI1_4.out.below hk5)
    have HIb_5 : Hid (RowI w5 v1b ys) := Lib.hid (HIb_4.out.below hk5)
    have HI2_5 : Hid (RowI w5 v2 (joinP xs ys)) := Lib.hid (HI2_4.out.below hk5)
    have HI3_5 : Hid (RowI w5 v3 (joinP xs ys)) := Lib.hid (HI3_4.out.below hk5)
    clear hb5 hk5 HI1_4 HIb_4 HI2_4 HI3_4
    go_wp2
    go_ret
    exact ⟨rfl, HB5.out⟩
  have HJX := Lib.hid hl
  clear hl
  go_wp2_with fail
  refine (same_b v2 v3 _ _ (by omega) HI2_3.out HI3_3.out).mono ?_
  rintro e w4 ⟨rfl, hb4⟩
  have hk4 : Below w3.heap.size w3 w4 := by (repeat' first | (with_reducible exact Below.refl _ _) | (with_reducible assumption) | (with_reducible refine below_drewN ?_ _) | (with_reducible refine Below.drew ?_) | (with_reducible refine Below.alloc ?_ ?_ _) | (with_reducible refine Below.setCell ?_ ?_ _) | (with_reducible refine Below.trans ?_ (Below.mono (by assumption) ?_)) | first | omega | (simp only [World.size_alloc, World.size_setCell, World.size_drew, size_drewN]; omega) | (simp; done) | (simp; omega) | (simp only [World.size_alloc, World.size_setCell, World.size_drew, size_drewN] at *; omega) | (simp at *; omega))
  have hz4 := hk4.size
  have HB4 : Hid (Below w.heap.size w w4) := Lib.hid (HB3.out.trans (hk4.mono (by omega)))
  have HI1_4 : Hid (RowI w4 v1 xs) := Lib.hid (HI1_3.out.below hk4)
  have HIb_4 : Hid (RowI w4 v1b ys) := Lib.hid (HIb_3.out.below hk4)
  have HI2_4 : Hid (RowI w4 v2 (joinP xs ys)) := Lib.hid (HI2_3.out.below hk4)
  have HI3_4 : Hid (RowI w4 v3 (joinP xs ys)) := Lib.hid (HI3_3.out.below hk4)
  clear hb4 hk4 HI1_3 HIb_3 HI2_3 HI3_3
  have HPT := Lib.hid (fun k => join_parts HJX.out k)
  have hr14 := HI1_4.out
  rcases hr14 with ⟨e1, e2⟩ | ⟨g, o, c, e1, hg, htm⟩
  · obtain ⟨g', c', e3, -⟩ := hrl1
    rw [e3] at e1
    cases e1
  obtain ⟨k, hk⟩ : ∃ k, k = len2 % (xs.length + 1) := ⟨_, rfl⟩
  have hkl : k ≤ xs.length := by rw [hk]; have := Nat.mod_lt len2 (show 0 < xs.length + 1 by omega); omega
  subst e1
  obtain ⟨an, nn, cn, e4, hnc⟩ := hcp
  simp only [Value.slice.injEq] at e4
  obtain ⟨rfl, rfl, rfl⟩ := e4
  have hz : ¬ (xs.length : Int) + 1 = 0 := by omega
  have q1 : IntKind.i64.wrap ((xs.length : Int) + 1) = (xs.length : Int) + 1 := IntWalk.i64_in _ (by omega)
  have q2 : (len2 : Int).tmod ((xs.length : Int) + 1) = (k : Int) := by
    rw [hk, Int.tmod_eq_emod_of_nonneg (by omega)]; push_cast; rfl
  have k0 : (0 : Int) ≤ (k : Int) := Int.natCast_nonneg _
  have k1 : (k : Int) ≤ (xs.length : Int) := by omega
  have k2 : (k : Int) ≤ (c : Int) := by omega
  obtain ⟨AD, hAD, hRF⟩ := RowI.from ⟨hg, htm⟩ k hkl hnc
  have HIf_4 := Lib.hid hRF
  have HIt_4 := Lib.hid (RowI.upto (c := c) ⟨hg, htm⟩ k hkl)
  have HHK := Lib.hid hk
  have HHN := Lib.hid hnc
  have HTM := Lib.hid htm
  have hl1 := joinP_len (xs.take k) ys
  have hl2 := joinP_len (xs.drop k) ys
  have hd1 : (xs.take k).length ≤ 1000000000 := by rw [List.length_take]; omega
  have hd2 : (xs.drop k).length ≤ 1000000000 := by rw [List.length_drop]; omega
  clear hk htm hnc hRF
  go_wp2_with fail
  refine (iJoin_any (.slice (some ⟨g, o, none⟩) k c) v1b (xs.take k) ys _ hd1 (by omega) HIt_4.out HIb_4.out).mono ?_
  rintro e w5 ⟨v5, rfl, hr5, hb5⟩
  have hk5 : Below w4.heap.size w4 w5 := by (repeat' first | (with_reducible exact Below.refl _ _) | (with_reducible assumption) | (with_reducible refine below_drewN ?_ _) | (with_reducible refine Below.drew ?_) | (with_reducible refine Below.alloc ?_ ?_ _) | (with_reducible refine Below.setCell ?_ ?_ _) | (with_reducible refine Below.trans ?_ (Below.mono (by assumption) ?_)) | first | omega | (simp only [World.size_alloc, World.size_setCell, World.size_drew, size_drewN]; omega) | (simp; done) | (simp; omega) | (simp only [World.size_alloc, World.size_setCell, World.size_drew, size_drewN] at *; omega) | (simp at *; omega))
  have hz5 := hk5.size
  have HB5 : Hid (Below w.heap.size w w5) := Lib.hid (HB4.out.trans (hk5.mono (by omega)))
  have HIb_5 : Hid (RowI w5 v1b ys) := Lib.hid (HIb_4.out.below hk5)
  have HI2_5 : Hid (RowI w5 v2 (joinP xs ys)) := Lib.hid (HI2_4.out.below hk5)
  have HI3_5 : Hid (RowI w5 v3 (joinP xs ys)) := Lib.hid (HI3_4.out.below hk5)
  have HIf_5 : Hid (RowI w5 (.slice (some AD) (xs.length - k) (c - k)) (xs.drop k)) := Lib.hid (HIf_4.out.below hk5)
  have HIt_5 : Hid (RowI w5 (.slice (some ⟨g, o, none⟩) k c) (xs.take k)) := Lib.hid (HIt_4.out.below hk5)
  have HI5_5 : Hid (RowI w5 v5 (joinP (xs.take k) ys)) := Lib.hid (hr5.inp)
  clear hb5 hk5 HIb_4 HI2_4 HI3_4 HIf_4 HIt_4 hr5
  rw [(HPT.out k).1]
  go_wp2_with fail
  refine (iJoin_any (.slice (some AD) (xs.length - k) (c - k)) v1b (xs.drop k) ys _ hd2 (by omega) HIf_5.out HIb_5.out).mono ?_
  rintro e w6 ⟨v6, rfl, hr6, hb6⟩
  have hk6 : Below w5.heap.size w5 w6 := by (repeat' first | (with_reducible exact Below.refl _ _) | (with_reducible assumption) | (with_reducible refine below_drewN ?_ _) | (with_reducible refine Below.drew ?_) | (with_reducible refine Below.alloc ?_ ?_ _) | (with_reducible refine Below.setCell ?_ ?_ _) | (with_reducible refine Below.trans ?_ (Below.mono (by assumption) ?_)) | first | omega | (simp only [World.size_alloc, World.size_setCell, World.size_drew, size_drewN]; omega) | (simp; done) | (simp; omega) | (simp only [World.size_alloc, World.size_setCell, World.size_drew, size_drewN] at *; omega) | (simp at *; omega))
  have hz6 := hk6.size
  have HB6 : Hid (Below w.heap.size w w6) := Lib.hid (HB5.out.trans (hk6.mono (by omega)))
  have HIb_6 : Hid (RowI w6 v1b ys) := Lib.hid (HIb_5.out.below hk6)
  have HI2_6 : Hid (RowI w6 v2 (joinP xs ys)) := Lib.hid (HI2_5.out.below hk6)
  have HI3_6 : Hid (RowI w6 v3 (joinP xs ys)) := Lib.hid (HI3_5.out.below hk6)
  have HIf_6 : Hid (RowI w6 (.slice (some AD) (xs.length - k) (c - k)) (xs.drop k)) := Lib.hid (HIf_5.out.below hk6)
  have HIt_6 : Hid (RowI w6 (.slice (some ⟨g, o, none⟩) k c) (xs.take k)) := Lib.hid (HIt_5.out.below hk6)
  have HI5_6 : Hid (RowI w6 v5 (joinP (xs.take k) ys)) := Lib.hid (HI5_5.out.below hk6)
  have HI6_6 : Hid (RowI w6 v6 (joinP (xs.drop k) ys)) := Lib.hid (hr6.inp)
  clear hb6 hk6 HIb_5 HI2_5 HI3_5 HIf_5 HIt_5 HI5_5 hr6
  rw [(HPT.out k).2.1]
  have HEM := Lib.hid (emp_own (Nat.le_refl w6.heap.size))
  have HM1 : Hid (RowI (w6.alloc (.cells #[] 24)) v5 (joinP (xs.take k) ys)) := Lib.hid (HI5_6.out.below (by (repeat' first | (with_reducible exact Below.refl _ _) | (with_reducible assumption) | (with_reducible refine below_drewN ?_ _) | (with_reducible refine Below.drew ?_) | (with_reducible refine Below.alloc ?_ ?_ _) | (with_reducible refine Below.setCell ?_ ?_ _) | (with_reducible refine Below.trans ?_ (Below.mono (by assumption) ?_)) | first | omega | (simp only [World.size_alloc, World.size_setCell, World.size_drew, size_drewN]; omega) | (simp; done) | (simp; omega) | (simp only [World.size_alloc, World.size_setCell, World.size_drew, size_drewN] at *; omega) | (simp at *; omega))))
  go_wp2_with (first | (at_builtin; refine wpl_app rfl _ _ rfl w6.heap.size _ _ [] (joinP (xs.take k) ys) rfl HEM.out rfl HM1.out ?c1 ?c2 ?_))
  case c1 => first | omega | (simp; done) | (simp; omega)
  case c2 => first | omega | (simp; done) | (simp; omega)
  intro v8 w8 hown8 hgrow8 _ _
  have hz8 := hgrow8.size
  simp only [World.size_alloc] at hz8
  have hb8 : Below w6.heap.size w6 w8 := Below.grown ((Below.refl _ _).alloc (Nat.le_refl _) _) hgrow8 (by simp) (fun k hk => (HEM.out.lt k hk).1)
  have HO8 : Hid (w8.ownsRow w6.heap.size 24 2 v8 (joinP (xs.take k) ys).length (vS (joinP (xs.take k) ys))) := Lib.hid (own_len hown8)
  have HM2 : Hid (RowI w8 v6 (joinP (xs.drop k) ys)) := Lib.hid (HI6_6.out.below hb8)
  have HB8a := Lib.hid hb8
  clear hown8 hgrow8 hb8
  go_wp2_with (first | (at_builtin; refine wpl_app rfl _ _ rfl w6.heap.size _ _ (joinP (xs.take k) ys) (joinP (xs.drop k) ys) rfl HO8.out rfl HM2.out ?c1 ?c2 ?_))
  case c1 => first | omega | (simp; done) | (simp; omega)
  case c2 => first | omega | (simp; done) | (simp; omega)
  intro v9 w9 hown9 hgrow9 _ _
  have hz9 := hgrow9.size
  have hb9 : Below w6.heap.size w6 w9 := Below.grown HB8a.out hgrow9 (by omega) (fun k hk => (HO8.out.lt k hk).1)
  have HO9 : Hid (RowI w9 v9 (joinP (xs.take k) ys ++ joinP (xs.drop k) ys)) := Lib.hid (rowI_own (own_len hown9))
  have HB9a := Lib.hid hb9
  have HI2_9 := Lib.hid (HI2_6.out.below hb9)
  have HB9 : Hid (Below w.heap.size w w9) := Lib.hid (HB6.out.trans (hb9.mono HB6.out.size))
  clear hown9 hgrow9 hb9
  go_wp2_with fail
  refine (iSort_any v9 (joinP (xs.take k) ys ++ joinP (xs.drop k) ys) _ (by simp; omega) HO9.out).mono ?_
  rintro e w10 ⟨v10, rfl, hr10, hb10⟩
  rw [(HPT.out k).2.2.1]
  rw [sortP_yes (HPT.out k).2.2.1, (HPT.out k).2.2.2] at hr10
  have HI10 := Lib.hid hr10.inp
  have HI2_10 := Lib.hid (HI2_9.out.below hb10)
  have HB10 : Hid (Below w.heap.size w w10) := Lib.hid (HB9.out.trans (hb10.mono HB9.out.size))
  clear hr10 hb10
  go_wp2_with fail
  refine (same_b v10 v2 (joinP xs ys) _ (by omega) HI10.out HI2_10.out).mono ?_
  rintro e w11 ⟨rfl, hb11⟩
  go_wp2
  go_ret
  exact ⟨rfl, HB10.out.trans (hb11.mono HB10.out.size)⟩
end Go.Proofs.Ytmcjabfnlpohaaa
