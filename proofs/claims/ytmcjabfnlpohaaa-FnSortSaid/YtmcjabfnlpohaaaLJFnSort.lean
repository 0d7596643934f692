/-
  The walk of the law FnSort. Conditions: none.
-/
import Derived.Test.YtmcjabfnlpohaaaHlp
import Derived.Test.YtmcjabfnlpohaaaDrs
import Derived.Test.YtmcjabfnlpohaaaJoinQ
namespace Go.Proofs.Ytmcjabfnlpohaaa
set_option linter.unusedSimpArgs false
set_option linter.unusedVariables false
open Go.RowKit


set_option maxRecDepth 20000 in
set_option maxHeartbeats 4000000 in
theorem walk_FnSort (a : Option Addr) (len cap : Nat) (w : World) (hb : BytesAt w a len cap) :
    Calls Try.prog 10 #[.slice a len cap] w fun e w' => e = .returned (.bool true) ∧ Below w.heap.size w w' := by
  by_cases hlen : 1048576 < len
  · clear hb
    go_enter Try.func10, Try.ntmps10
    go_wp2
    go_ret
    exact ⟨rfl, Below.refl _ _⟩
  have hlen' : len ≤ 1048576 := by omega
  clear hlen
  have HB := Lib.hid hb
  clear hb
  have HB0 : Hid (Below w.heap.size w w) := Lib.hid (Below.refl _ _)
  go_enter Try.func10, Try.ntmps10
  go_wp2_with fail
  refine (dSort_any a len cap _ HB.out).mono ?_
  rintro e w1 ⟨v1, xs, rfl, hr1, hcp, hx5, hb1⟩
  have hk1 : Below w.heap.size w w1 := by (repeat' first | (with_reducible exact Below.refl _ _) | (with_reducible assumption) | (with_reducible refine below_drewN ?_ _) | (with_reducible refine Below.drew ?_) | (with_reducible refine Below.alloc ?_ ?_ _) | (with_reducible refine Below.setCell ?_ ?_ _) | (with_reducible refine Below.trans ?_ (Below.mono (by assumption) ?_)) | first | omega | (simp only [World.size_alloc, World.size_setCell, World.size_drew, size_drewN]; omega) | (simp; done) | (simp; omega) | (simp only [World.size_alloc, World.size_setCell, World.size_drew, size_drewN] at *; omega) | (simp at *; omega))
  have hz1 := hk1.size
  have HB1 : Hid (Below w.heap.size w w1) := Lib.hid (HB0.out.trans (hk1.mono (by omega)))
  have HI1_1 : Hid (RowI w1 v1 xs) := Lib.hid ((RowL.inp hr1))
  clear hb1 hk1
  have hrl1 := hr1
  clear hr1
  go_wp2_with fail
  refine (iSort_any v1 xs _ (by omega) HI1_1.out).mono ?_
  rintro e w2 ⟨v2, rfl, hr2, hb2⟩
  have hk2 : Below w1.heap.size w1 w2 := by (repeat' first | (with_reducible exact Below.refl _ _) | (with_reducible assumption) | (with_reducible refine below_drewN ?_ _) | (with_reducible refine Below.drew ?_) | (with_reducible refine Below.alloc ?_ ?_ _) | (with_reducible refine Below.setCell ?_ ?_ _) | (with_reducible refine Below.trans ?_ (Below.mono (by assumption) ?_)) | first | omega | (simp only [World.size_alloc, World.size_setCell, World.size_drew, size_drewN]; omega) | (simp; done) | (simp; omega) | (simp only [World.size_alloc, World.size_setCell, World.size_drew, size_drewN] at *; omega) | (simp at *; omega))
  have hz2 := hk2.size
  have HB2 : Hid (Below w.heap.size w w2) := Lib.hid (HB1.out.trans (hk2.mono (by omega)))
  have HI1_2 : Hid (RowI w2 v1 xs) := Lib.hid (HI1_1.out.below hk2)
  have HI2_2 : Hid (RowI w2 v2 (sortP xs)) := Lib.hid (hr2.inp)
  clear hb2 hk2 HI1_1 hr2
  go_wp2_with fail
  refine (sTSort_any v1 xs _ (by omega) HI1_2.out).mono ?_
  rintro e w3 ⟨v3, rfl, hr3, hb3⟩
  have hk3 : Below w2.heap.size w2 w3 := by (repeat' first | (with_reducible exact Below.refl _ _) | (with_reducible assumption) | (with_reducible refine below_drewN ?_ _) | (with_reducible refine Below.drew ?_) | (with_reducible refine Below.alloc ?_ ?_ _) | (with_reducible refine Below.setCell ?_ ?_ _) | (with_reducible refine Below.trans ?_ (Below.mono (by assumption) ?_)) | first | omega | (simp only [World.size_alloc, World.size_setCell, World.size_drew, size_drewN]; omega) | (simp; done) | (simp; omega) | (simp only [World.size_alloc, World.size_setCell, World.size_drew, size_drewN] at *; omega) | (simp at *; omega))
  have hz3 := hk3.size
  have HB3 : Hid (Below w.heap.size w w3) := Lib.hid (HB2.out.trans (hk3.mono (by omega)))
  have HI1_3 : Hid (RowI w3 v1 xs) := Lib.hid (HI1_2.out.below hk3)
  have HI2_3 : Hid (RowI w3 v2 (sortP xs)) := Lib.hid (HI2_2.out.below hk3)
  have HI3_3 : Hid (RowI w3 v3 (sortP xs)) := Lib.hid (hr3.inp)
  clear hb3 hk3 HI1_2 HI2_2 hr3
  have hPl : (sortP xs).length ≤ 5 := Nat.le_trans (sortP_len xs) hx5
  cases hl : lstB xs
  · clear hl
    go_wp2_with fail
    refine (same_b v2 v3 _ _ (by omega) HI2_3.out HI3_3.out).mono ?_
    rintro e w4 ⟨rfl, hb4⟩
    have hk4 : Below w3.heap.size w3 w4 := by (repeat' first | (with_reducible exact Below.refl _ _) | (with_reducible assumption) | (with_reducible refine below_drewN ?_ _) | (with_reducible refine Below.drew ?_) | (with_reducible refine Below.alloc ?_ ?_ _) | (with_reducible refine Below.setCell ?_ ?_ _) | (with_reducible refine Below.trans ?_ (Below.mono (by assumption) ?_)) | first | omega | (simp only [World.size_alloc, World.size_setCell, World.size_drew, size_drewN]; omega) | (simp; done) | (simp; omega) | (simp only [World.size_alloc, World.size_setCell, World.size_drew, size_drewN] at *; omega) | (simp at *; omega))
    have hz4 := hk4.size
    have HB4 : Hid (Below w.heap.size w w4) := Lib.hid (HB3.out.trans (hk4.mono (by omega)))
    have HI1_4 : Hid (RowI w4 v1 xs) := Lib.hid (HI1_3.out.below hk4)
    have HI2_4 : Hid (RowI w4 v2 (sortP xs)) := Lib.hid (HI2_3.out.below hk4)
    have HI3_4 : Hid (RowI w4 v3 (sortP xs)) := Lib.hid (HI3_3.out.below hk4)
    clear hb4 hk4 HI1_3 HI2_3 HI3_3
    go_wp2_with fail
    refine (same_b v2 v3 _ _ (by omega) HI2_4.out HI3_4.out).mono ?_
    rintro e w5 ⟨rfl, hb5⟩
    have hk5 : Below w4.heap.size w4 w5 := by (repeat' first | (with_reducible exact Below.refl _ _) | (with_reducible assumption) | (with_reducible refine below_drewN ?_ _) | (with_reducible refine Below.drew ?_) | (with_reducible refine Below.alloc ?_ ?_ _) | (with_reducible refine Below.setCell ?_ ?_ _) | (with_reducible refine Below.trans ?_ (Below.mono (by assumption) ?_)) | first | omega | (simp only [World.size_alloc, World.size_setCell, World.size_drew, size_drewN]; omega) | (simp; done) | (simp; omega) | (simp only [World.size_alloc, World.size_setCell, World.size_drew, size_drewN] at *; omega) | (simp at *; omega))
    have hz5 := hk5.size
    have HB5 : Hid (Below w.heap.size w w5) := Lib.hid (HB4.out.trans (hk5.mono (by omega)))
    have HI1_5 : Hid (RowI w5 v1 xs) := Lib.hid (HI1_4.out.below hk5)
    have HI2_5 : Hid (RowI w5 v2 (sortP xs)) := Lib.hid (HI2_4.out.below hk5)
    have HI3_5 : Hid (RowI w5 v3 (sortP xs)) := Lib.hid (HI3_4.out.below hk5)
    clear hb5 hk5 HI1_4 HI2_4 HI3_4
    go_wp2
    go_ret
    exact ⟨rfl, HB5.out⟩
  have HLX := Lib.hid hl
  have hP : sortP xs = sortT xs := by simp [sortP, hl]
  rw [hP] at HI2_3 HI3_3 hPl
  have hln : xs.length ≤ 5 := by rw [sortT_len] at hPl; exact hPl
  clear hl hP
  go_wp2_with fail
  refine (same_b v2 v3 _ _ (by omega) HI2_3.out HI3_3.out).mono ?_
  rintro e w4 ⟨rfl, hb4⟩
  have hk4 : Below w3.heap.size w3 w4 := by (repeat' first | (with_reducible exact Below.refl _ _) | (with_reducible assumption) | (with_reducible refine below_drewN ?_ _) | (with_reducible refine Below.drew ?_) | (with_reducible refine Below.alloc ?_ ?_ _) | (with_reducible refine Below.setCell ?_ ?_ _) | (with_reducible refine Below.trans ?_ (Below.mono (by assumption) ?_)) | first | omega | (simp only [World.size_alloc, World.size_setCell, World.size_drew, size_drewN]; omega) | (simp; done) | (simp; omega) | (simp only [World.size_alloc, World.size_setCell, World.size_drew, size_drewN] at *; omega) | (simp at *; omega))
  have hz4 := hk4.size
  have HB4 : Hid (Below w.heap.size w w4) := Lib.hid (HB3.out.trans (hk4.mono (by omega)))
  have HI1_4 : Hid (RowI w4 v1 xs) := Lib.hid (HI1_3.out.below hk4)
  have HI2_4 : Hid (RowI w4 v2 (sortT xs)) := Lib.hid (HI2_3.out.below hk4)
  have HI3_4 : Hid (RowI w4 v3 (sortT xs)) := Lib.hid (HI3_3.out.below hk4)
  clear hb4 hk4 HI1_3 HI2_3 HI3_3
  obtain ⟨ax, cx, rfl⟩ := HI1_4.out.form
  have HCN := Lib.hid (fun p => cntT_perm (sortT_perm xs) p)
  have HOX := Lib.hid (allV_ok (lstB_iff.1 HLX.out).2)
  have hTL := sortT_len xs
  go_wp2
  go_loopw [8] (fun ii wr => ∃ i : Nat, i ≤ xs.length ∧ ii = .int .i64 i ∧ Below w4.heap.size w4 wr) (fun ii _ => xs.length - (intOf ii).toNat)
  case atStart => exact ⟨0, Nat.zero_le _, rfl, Below.refl _ _⟩
  case round =>
    obtain ⟨i, hi, rfl, hbel⟩ := hrel
    have i0 : (0 : Int) ≤ (i : Int) := Int.natCast_nonneg _
    have hbz := hbel.size
    have hw4 := HB4.out.size
    obtain ⟨Wo, hWo⟩ : ∃ W, W = wr := ⟨wr, rfl⟩
    subst hWo
    by_cases hlt : i < xs.length
    · obtain ⟨g, o, c', p, hva, hp, hg, r0, r1⟩ := (HI1_4.out.below hbel).get hlt
      simp only [Value.slice.injEq, true_and] at hva
      obtain ⟨rfl, rfl⟩ := hva
      have i1 : (i : Int) < (xs.length : Int) := by omega
      obtain ⟨y, hy⟩ : ∃ y : Int, y = (cntT p xs : Int) := ⟨_, rfl⟩
      have kM : ∀ W v, Below Wo.heap.size Wo W → (v = .slice (some ⟨g, o, none⟩) xs.length cx ∨ v = v2) → Calls Try.prog 24 #[v, .agg #[.int .i64 p.1, .int .i64 p.2]] W fun e w' => e = .returned (.int .i64 y) ∧ Below W.heap.size W w' := fun W v h hv => by
        rcases hv with rfl | rfl
        · have := many_any _ p xs W (by omega) ((HI1_4.out.below hbel).below h)
          rw [hy]; exact this
        · have := many_any v p (sortT xs) W (by omega) ((HI2_4.out.below hbel).below h)
          rw [HCN.out p] at this
          rw [hy]; exact this
      have KM := Lib.hid kM
      have HBel := Lib.hid hbel
      have hyy : (y == y) = true := by simp
      have hWz : Wo.heap.size ≤ Wo.heap.size := Nat.le_refl _
      clear kM hy hp hbel
      go_wp2
      go_region_held3 (fun w' => w'.cell? ⟨g, o + i * 2, none⟩ = some (.int .i64 p.1) ∧ w'.cell? ⟨g, o + i * 2 + 1, none⟩ = some (.int .i64 p.2) ∧ Wo.heap.size ≤ w'.heap.size ∧ Below Wo.heap.size Wo w')
        (first | (simp (disch := first | omega | (simp; done) | (simp; omega)) [go_sem, *]; done) | ((repeat' first | (with_reducible exact Below.refl _ _) | (with_reducible assumption) | (with_reducible refine below_drewN ?_ _) | (with_reducible refine Below.drew ?_) | (with_reducible refine Below.alloc ?_ ?_ _) | (with_reducible refine Below.setCell ?_ ?_ _) | (with_reducible refine Below.trans ?_ (Below.mono (by assumption) ?_)) | first | omega | (simp only [World.size_alloc, World.size_setCell, World.size_drew, size_drewN]; omega) | (simp; done) | (simp; omega) | (simp only [World.size_alloc, World.size_setCell, World.size_drew, size_drewN] at *; omega) | (simp at *; omega)); done) | ((try go_split_ands); (refine ⟨?_, ?_, ?_, ?_⟩ <;> first | omega | (simp only [World.size_alloc, World.size_setCell, World.size_drew, size_drewN]; omega) | (simp (disch := first | omega | (simp; done) | (simp; omega)) [go_sem, *]; done) | ((repeat' first | (with_reducible exact Below.refl _ _) | (with_reducible assumption) | (with_reducible refine below_drewN ?_ _) | (with_reducible refine Below.drew ?_) | (with_reducible refine Below.alloc ?_ ?_ _) | (with_reducible refine Below.setCell ?_ ?_ _) | (with_reducible refine Below.trans ?_ (Below.mono (by assumption) ?_)) | first | omega | (simp only [World.size_alloc, World.size_setCell, World.size_drew, size_drewN]; omega) | (simp; done) | (simp; omega) | (simp only [World.size_alloc, World.size_setCell, World.size_drew, size_drewN] at *; omega) | (simp at *; omega)); done))))
        (first
          | (go_at_call 24; refine (KM.out _ _ (by (repeat' first | (with_reducible exact Below.refl _ _) | (with_reducible assumption) | (with_reducible refine below_drewN ?_ _) | (with_reducible refine Below.drew ?_) | (with_reducible refine Below.alloc ?_ ?_ _) | (with_reducible refine Below.setCell ?_ ?_ _) | (with_reducible refine Below.trans ?_ (Below.mono (by assumption) ?_)) | first | omega | (simp only [World.size_alloc, World.size_setCell, World.size_drew, size_drewN]; omega) | (simp; done) | (simp; omega) | (simp only [World.size_alloc, World.size_setCell, World.size_drew, size_drewN] at *; omega) | (simp at *; omega))) (by first | exact .inl rfl | exact .inr rfl)).mono ?_; rintro e w5 ⟨rfl, hb5⟩; obtain ⟨hc5, hf5⟩ := bcell hb5; have hz5 := hb5.size; (try simp only [World.size_alloc, World.size_setCell, World.size_drew, size_drewN] at hz5 hc5 hf5)))
      all_goals go_wp2
      all_goals go_roundw
      all_goals first
        | exact ⟨i + 1, by omega, by go_num, HBel.out.trans ((show Below Wo.heap.size Wo _ by (repeat' first | (with_reducible exact Below.refl _ _) | (with_reducible assumption) | (with_reducible refine below_drewN ?_ _) | (with_reducible refine Below.drew ?_) | (with_reducible refine Below.alloc ?_ ?_ _) | (with_reducible refine Below.setCell ?_ ?_ _) | (with_reducible refine Below.trans ?_ (Below.mono (by assumption) ?_)) | first | omega | (simp only [World.size_alloc, World.size_setCell, World.size_drew, size_drewN]; omega) | (simp; done) | (simp; omega) | (simp only [World.size_alloc, World.size_setCell, World.size_drew, size_drewN] at *; omega) | (simp at *; omega))).mono (by omega))⟩
        | (simp [intOf]; omega)
    · obtain rfl : i = xs.length := by omega
      have HW5 := Lib.hid (HI2_4.out.below hbel)
      have HBW : Hid (Below w.heap.size w Wo) := Lib.hid (HB4.out.trans (hbel.mono (by omega)))
      have HLS := Lib.hid (sort_lst HLX.out)
      have HPS := Lib.hid (show sortP (sortT xs) = sortT xs by rw [sortP_yes (sort_lst HLX.out), sortT_idem])
      have HOR := Lib.hid (sortT_ord HOX.out)
      obtain ⟨a2, c2, rfl⟩ := HI2_4.out.form
      rw [hTL] at HW5 HI2_4
      go_wp2_with fail
      refine (iSort_any _ (sortT xs) _ (by omega) HW5.out).mono ?_
      rintro e w5 ⟨v5, rfl, hr5, hb5⟩
      rw [HLS.out]
      rw [HPS.out] at hr5
      have hz5 := hb5.size
      have HI5 := Lib.hid hr5.inp
      have HI2 := Lib.hid (HW5.out.below hb5)
      have HB5 : Hid (Below w.heap.size w w5) := Lib.hid (HBW.out.trans (hb5.mono HBW.out.size))
      clear hr5 hb5
      go_wp2_with fail
      refine (order_any _ (sortT xs) _ (by omega) HI2.out HOR.out).mono ?_
      rintro e w6 ⟨rfl, hb6⟩
      have hz6 := hb6.size
      have HJ5 := Lib.hid (HI5.out.below hb6)
      have HJ2 := Lib.hid (HI2.out.below hb6)
      have HB6 : Hid (Below w.heap.size w w6) := Lib.hid (HB5.out.trans (hb6.mono HB5.out.size))
      clear hb6
      go_wp2_with fail
      refine (same_b _ _ (sortT xs) _ (by omega) HJ5.out HJ2.out).mono ?_
      rintro e w7 ⟨rfl, hb7⟩
      go_wp2
      go_ret
      exact ⟨rfl, HB6.out.trans (hb7.mono HB6.out.size)⟩
end Go.Proofs.Ytmcjabfnlpohaaa
