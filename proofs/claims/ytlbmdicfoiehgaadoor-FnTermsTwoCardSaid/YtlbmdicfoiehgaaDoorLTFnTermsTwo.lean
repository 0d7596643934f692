/-
  The walk of the law FnTermsTwo. Conditions: the table of the library.
-/
import Derived.Test.YtlbmdicfoiehgaaDoorTsame
import Derived.Test.YtlbmdicfoiehgaaDoorTmk
import Derived.Test.YtlbmdicfoiehgaaDoorDrawU
namespace Go.Proofs.YtlbmdicfoiehgaaDoor
set_option linter.unusedSimpArgs false
set_option linter.unusedVariables false
open Go.RowKit

set_option maxRecDepth 20000 in
set_option maxHeartbeats 4000000 in
theorem walk_FnTermsTwo (a : Option Addr) (len cap : Nat) (w : World) (hT : Tab w) (hsz : 1 < w.heap.size) (hb : BytesAt w a len cap) :
    Calls Tryd.prog 8 #[.slice a len cap] w fun e w' => e = .returned (.bool true) ∧ Below w.heap.size w w' := by
  by_cases hlen : 1048576 < len
  · clear hb
    go_enter Tryd.func8, Tryd.ntmps8
    go_wp2
    go_ret
    exact ⟨rfl, Below.refl _ _⟩
  · have hlen' : len ≤ 1048576 := by omega
    clear hlen
    have HB := Lib.hid hb
    have HT := Lib.hid hT
    clear hb hT
    go_enter Tryd.func8, Tryd.ntmps8
    go_wp2_with fail
    refine (dTermsOf_any a len cap _ HB.out).mono ?_
    rintro e w1 ⟨l, n, rfl, hl0, hl1, hn0, hn1, hb1⟩
    have hz1 := hb1.size
    have HT1 : Hid (Tab w1) := Lib.hid (HT.out.of fun i => hb1.cell (p := ⟨1, i, none⟩) hsz)
    go_wp2_with fail
    refine (iTerms_any l n _ HT1.out (by omega)).mono ?_
    rintro e w2 ⟨v2, rfl, hown2, hb2⟩
    have hz2 := hb2.size
    have HO2 := Lib.hid hown2
    have HB2 := Lib.hid hb2
    have HB1 := Lib.hid hb1
    clear hown2 hb2 hb1
    go_wp2_with fail
    refine (sTerms_any l n _).mono ?_
    rintro e w3 ⟨v3, rfl, hown3, hb3⟩
    have hz3 := hb3.size
    have hown2 := HO2.out
    have hB : Below w.heap.size w w3 := HB1.out.trans ((HB2.out.mono hz1).trans (hb3.mono (by omega)))
    cases hv : eOk l n
    · have e0 : termsP l n = [] := by simp [termsP, hv]
      rw [e0] at hown2 hown3
      obtain ⟨a2', c2', rfl⟩ := row_len hown2
      obtain ⟨a3', c3', rfl⟩ := row_len hown3
      clear hown2 hown3 hb3 HO2 HB2 HB1 e0 hv
      simp only [List.length_nil]
      go_wp2_with (go_at_call 23; refine (sameTerms_nil _ _ _ _ _).mono ?_; rintro e w' ⟨rfl, rfl⟩)
      go_ret
      exact ⟨rfl, hB⟩
    · have bl := eOk_true hv
      have HC := Lib.hid (tchk hv)
      have HV := Lib.hid hv
      have hT16 := termsP_le l n
      obtain ⟨T, hTT⟩ : ∃ T, T = termsP l n := ⟨_, rfl⟩
      have hpos : 0 < T.length := by
        have := HC.out
        rw [← hTT] at this
        simp only [chkTm, Bool.and_eq_true, decide_eq_true_eq] at this
        exact this.1.1.1.1.1.1
      rw [← hTT] at hown2 hown3 hT16
      have HTT := Lib.hid hTT
      clear hTT hv
      obtain ⟨g2, c2', rfl, hg2, hg2', t2, hce2, hfr2⟩ := tmAt_of hown2 hpos
      obtain ⟨g3, c3', rfl, hg3, hg3', t3, -, -⟩ := tmAt_of hown3 hpos
      have T2 : Hid (TmAt w3 g2 T) := Lib.hid (t2.below hb3 hg2')
      have T3 := Lib.hid t3
      have HBB := Lib.hid hB
      have hg23 : g2 < w3.heap.size := by omega
      have hp0 : ((T.length : Int) == 0) = false := by rw [beq_eq_false_iff_ne]; omega
      have hp1 : (T.length == 0) = false := by rw [beq_eq_false_iff_ne]; omega
      clear hown2 hown3 t2 t3 hce2 hfr2 hb3 HO2 HB2 HB1 hB
      go_wp2_with fail
      refine (sameTerms_some _ _ _ _ _ _ (by omega) T2.out T3.out).mono ?_
      rintro e w4 ⟨rfl, hm4⟩
      have hb4 : Below w3.heap.size w3 w4 := by obtain ⟨m, rfl⟩ := hm4; (repeat' first | (with_reducible exact Below.refl _ _) | (with_reducible assumption) | (with_reducible refine below_drewN ?_ _) | (with_reducible refine Below.drew ?_) | (with_reducible refine Below.alloc ?_ ?_ _) | (with_reducible refine Below.setCell ?_ ?_ _) | (with_reducible refine Below.trans ?_ (Below.mono (by assumption) ?_)) | first | omega | (simp only [World.size_alloc, World.size_setCell, World.size_drew, size_drewN]; omega) | (simp; done) | (simp; omega) | (simp only [World.size_alloc, World.size_setCell, World.size_drew, size_drewN] at *; omega) | (simp at *; omega))
      have hz4 := hb4.size
      have T4 : Hid (TmAt w4 g2 T) := Lib.hid (T2.out.below hb4 hg23)
      have HB4 : Hid (Below w.heap.size w w4) := Lib.hid (HBB.out.trans (hb4.mono (by omega)))
      have HT4 : Hid (Tab w4) := Lib.hid (HT.out.of fun i => HB4.out.cell (p := ⟨1, i, none⟩) hsz)
      clear hm4 hb4 T2 T3 HBB HT1
      by_cases hl : l = 0
      · subst hl
        go_wp2_with fail
        refine (iTerms_any 0 2 _ HT4.out (by omega)).mono ?_
        rintro e w5 ⟨v5, rfl, hown5, hb5⟩
        have hz5 := hb5.size
        rw [ttwo0] at hown5
        obtain ⟨g5, c5', rfl, hg5, hg5', t5, -, -⟩ := tmAt_of hown5 (by decide)
        have HB5 : Hid (Below w.heap.size w w5) := Lib.hid (HB4.out.trans (hb5.mono (by omega)))
        have T5 : Hid (TmAt (w5.alloc (.cells #[.int .i64 0, .int .i64 0] 24)) g5 [(0, 0)]) := Lib.hid (t5.below ((Below.refl _ w5).alloc (Nat.le_refl _) _) hg5')
        have T6 : Hid (TmAt (w5.alloc (.cells #[.int .i64 0, .int .i64 0] 24)) w5.heap.size [(0, 0)]) := Lib.hid fun k p hp => by
          match k, hp with
          | 0, hp => simp at hp; subst hp; exact ⟨by (simp (disch := first | omega | (simp; done) | (simp; omega)) [go_sem, *]; done), by (simp (disch := first | omega | (simp; done) | (simp; omega)) [go_sem, *]; done)⟩
        have hS := Lib.hid (sameTerms_some g5 w5.heap.size c5' 1 [(0, 0)] _ (by decide) T5.out T6.out)
        clear hown5 t5 hb5
        go_wp2_with fail
        refine (hS.out).mono ?_
        rintro e w6 ⟨rfl, hm6⟩
        have hb6 : Below w5.heap.size w5 w6 := by obtain ⟨m, rfl⟩ := hm6; (repeat' first | (with_reducible exact Below.refl _ _) | (with_reducible assumption) | (with_reducible refine below_drewN ?_ _) | (with_reducible refine Below.drew ?_) | (with_reducible refine Below.alloc ?_ ?_ _) | (with_reducible refine Below.setCell ?_ ?_ _) | (with_reducible refine Below.trans ?_ (Below.mono (by assumption) ?_)) | first | omega | (simp only [World.size_alloc, World.size_setCell, World.size_drew, size_drewN]; omega) | (simp; done) | (simp; omega) | (simp only [World.size_alloc, World.size_setCell, World.size_drew, size_drewN] at *; omega) | (simp at *; omega))
        go_wp2
        go_ret
        exact ⟨rfl, HB5.out.trans (hb6.mono (by omega))⟩
      · have hl1 : (l == 0) = false := by rw [beq_eq_false_iff_ne]; exact hl
        go_wp2_with fail
        refine (iTerms_any l 2 _ HT4.out (by omega)).mono ?_
        rintro e w5 ⟨v5, rfl, hown5, hb5⟩
        have hz5 := hb5.size
        have hTwo := ttwo (l := l) (by omega) (by omega)
        obtain ⟨U, hU⟩ : ∃ U, U = termsP l 2 := ⟨_, rfl⟩
        rw [← hU] at hown5 hTwo
        simp only [twoB, Bool.and_eq_true, List.all_eq_true, decide_eq_true_eq, List.mem_range] at hTwo
        have hUl : (U.length : Int) = 2 * l + 1 := by omega
        obtain ⟨g5, c5', rfl, hg5, hg5', t5, -, -⟩ := tmAt_of hown5 (by omega)
        have HB5 : Hid (Below w.heap.size w w5) := Lib.hid (HB4.out.trans (hb5.mono (by omega)))
        have T5 := Lib.hid t5
        have HU := Lib.hid hTwo.2
        clear hown5 t5 hb5 hTwo hU
        go_wp2
        go_loopw [8] (fun i wr => ∃ k : Nat, (k : Int) ≤ 2 * l + 1 ∧ i = .int .i64 k ∧ Below w5.heap.size w5 wr) (fun i _ => (2 * l + 1 - intOf i).toNat)
        case atStart => exact ⟨0, by omega, rfl, Below.refl _ _⟩
        case round =>
          obtain ⟨k, hk, rfl, hbel⟩ := hrel
          have hbz := hbel.size
          have i0 : (0 : Int) ≤ (k : Int) := Int.natCast_nonneg _
          by_cases hlt : (k : Int) < 2 * l + 1
          · have hcnt := HU.out k (by omega)
            rw [show (((k % 2 * 2 : Nat)) : Int) = (k : Int) % 2 * 2 by omega] at hcnt
            have T6 : Hid (TmAt wr g5 U) := Lib.hid (T5.out.below hbel hg5')
            have HCN := Lib.hid hcnt
            have HBL := Lib.hid hbel
            clear hcnt hbel
            go_wp2_with fail
            refine (termsMany_some g5 _ ((k : Int) % 2 * 2, (k : Int)) U _ (by omega) (by omega) T6.out).mono ?_
            rintro e w6 ⟨rfl, hb6⟩
            rw [HCN.out]
            have hB6 : Below w5.heap.size w5 w6 := HBL.out.trans (hb6.mono hbz)
            clear hb6
            go_wp2
            go_roundw
            case rel => exact ⟨k + 1, by omega, by go_num, hB6⟩
            case measure => simp [intOf]; omega
          · have hk' : (k : Int) = 2 * l + 1 := by omega
            have hp2 : (0 : Int) < (T.length : Int) := by omega
            have HBL := Lib.hid hbel
            clear hbel
            go_wp2
            go_ret
            exact ⟨rfl, HB5.out.trans (HBL.out.mono (by omega))⟩
end Go.Proofs.YtlbmdicfoiehgaaDoor
