/-
  The walk of the law FnExactTermsOf. Conditions: the table of the library.
-/
import Derived.Test.YtlbmdicfoiehgaaDoorTsame
import Derived.Test.YtlbmdicfoiehgaaDoorTmk
import Derived.Test.YtlbmdicfoiehgaaDoorDrawU
import Derived.Test.YtlbmdicfoiehgaaDoorTmark
namespace Go.Proofs.YtlbmdicfoiehgaaDoor
set_option linter.unusedSimpArgs false
set_option linter.unusedVariables false
open Go.RowKit

set_option maxRecDepth 20000 in
set_option maxHeartbeats 4000000 in
theorem walk_FnExactTermsOf (l n : Int) (w : World) (hT : Tab w) (hsz : 1 < w.heap.size) :
    Calls Tryd.prog 5 #[.int .i64 l, .int .i64 n] w fun e w' => e = .returned (.bool true) ∧ Below w.heap.size w w' := by
  have HT := Lib.hid hT
  clear hT
  go_enter Tryd.func5, Tryd.ntmps5
  go_wp2_with fail
  refine (sTerms_any l n _).mono ?_
  rintro e w1 ⟨v1, rfl, hown1, hb1⟩
  have hz1 := hb1.size
  have HT1 : Hid (Tab w1) := Lib.hid (HT.out.of fun i => hb1.cell (p := ⟨1, i, none⟩) hsz)
  have HO1 := Lib.hid hown1
  have HB1 := Lib.hid hb1
  clear hown1 hb1
  go_wp2_with fail
  refine (iTerms_any l n _ HT1.out (by omega)).mono ?_
  rintro e w2 ⟨v2, rfl, hown2, hb2⟩
  have hz2 := hb2.size
  have hown1 := HO1.out
  have hB2 : Below w.heap.size w w2 := HB1.out.trans (hb2.mono hz1)
  cases hv : eOk l n
  · have e0 : termsP l n = [] := by simp [termsP, hv]
    rw [e0] at hown2 hown1
    obtain ⟨a2', c2', rfl⟩ := row_len hown2
    obtain ⟨a1', c1', rfl⟩ := row_len hown1
    have HE := Lib.hid e0
    have HB2 := Lib.hid hB2
    clear hown2 hown1 HO1 HB1 e0 hb2 hB2
    simp only [List.length_nil]
    go_wp2_with fail
    refine (eqTermS_nil _ _ _ _ _).mono ?_
    rintro e w3 ⟨rfl, hb3⟩
    have hz3 := hb3.size
    have HB3 : Hid (Below w.heap.size w w3) := Lib.hid (HB2.out.trans (hb3.mono (by omega)))
    clear hb3
    go_wp2_with fail
    refine (markTermS_nil _ _ _ _).mono ?_
    rintro e w' ⟨rfl, rfl⟩
    go_wp2_with fail
    refine (heldTermS_nil _ _ _ _).mono ?_
    rintro e w' ⟨rfl, rfl⟩
    have HT3 : Hid (Tab w3) := Lib.hid (HT.out.of fun i => HB3.out.cell (p := ⟨1, i, none⟩) hsz)
    go_wp2_with fail
    refine (iTerms_any l n _ HT3.out (by omega)).mono ?_
    rintro e w4 ⟨v4, rfl, hown4, hb4⟩
    have hz4 := hb4.size
    rw [HE.out] at hown4
    obtain ⟨a4', c4', rfl⟩ := row_len hown4
    have HB4 : Hid (Below w.heap.size w w4) := Lib.hid (HB3.out.trans (hb4.mono (by omega)))
    clear hown4 hb4
    simp only [List.length_nil]
    go_wp2_with fail
    refine (eqTermS_nil _ _ _ _ _).mono ?_
    rintro e w5 ⟨rfl, hb5⟩
    have HB5 : Hid (Below w.heap.size w w5) := Lib.hid (HB4.out.trans (hb5.mono (by omega)))
    clear hb5
    go_wp2_with fail
    refine (heldTermS_nil _ _ _ _).mono ?_
    rintro e w' ⟨rfl, rfl⟩
    go_wp2
    go_ret
    exact ⟨rfl, HB5.out⟩
  · have HC := Lib.hid (tchk hv)
    have hT16 := termsP_le l n
    obtain ⟨T, hTT⟩ : ∃ T, T = termsP l n := ⟨_, rfl⟩
    have hpos : 0 < T.length := by
      have := HC.out
      rw [← hTT] at this
      simp only [chkTm, Bool.and_eq_true, decide_eq_true_eq] at this
      exact this.1.1.1.1.1.1
    rw [← hTT] at hown2 hown1 hT16
    have HTT := Lib.hid hTT
    clear hTT hv
    obtain ⟨g2, c2', rfl, hg2, hg2', t2, hce2, hfr2⟩ := tmAt_of hown2 hpos
    obtain ⟨g1, c1', rfl, hg1, hg1', t1, -, -⟩ := tmAt_of hown1 hpos
    have T1 : Hid (TmAt w2 g1 T) := Lib.hid (t1.below hb2 hg1')
    have T2 := Lib.hid t2
    have CE := Lib.hid hce2
    have FR := Lib.hid hfr2
    have HB2 := Lib.hid hB2
    clear hown2 hown1 t1 t2 hce2 hfr2 hb2 HO1 HB1 hB2
    go_wp2_with fail
    refine (eqTermS_some _ _ _ _ _ _ (by omega) hg2' (by omega) T2.out T1.out).mono ?_
    rintro e w3 ⟨rfl, hb3⟩
    have hz3 := hb3.size
    have T13 : Hid (TmAt w3 g1 T) := Lib.hid (T1.out.below hb3 (by omega))
    have CE3 : Hid (∀ i, i < T.length * 2 → ∃ u, w3.cell? ⟨g2, i, none⟩ = some u) := Lib.hid fun i hi => by
      obtain ⟨u, hu⟩ := CE.out i hi
      exact ⟨u, (hb3.cell (p := ⟨g2, i, none⟩) hg2').trans hu⟩
    have FR3 : Hid (∀ i, w3.frozen? ⟨g2, i, none⟩ = false) := Lib.hid fun i => (hb3.frozen (p := ⟨g2, i, none⟩) hg2').trans (FR.out i)
    have HB3 : Hid (Below w.heap.size w w3) := Lib.hid (HB2.out.trans (hb3.mono (by omega)))
    clear hb3 T1 T2 CE FR
    go_wp2_with fail
    refine (markTermS_some g2 _ T.length _ (by omega) CE3.out FR3.out).mono ?_
    rintro e w4 ⟨rfl, hm4, hg4⟩
    have hz4 := hg4.size
    have HM4 := Lib.hid hm4
    have T14 : Hid (TmAt w4 g1 T) := Lib.hid (T13.out.keep fun o => World.cell?_of_block (hg4.block g1 (by omega) (fun e => by cases e; omega)))
    have HB4 : Hid (Below w.heap.size w w4) := Lib.hid (HB3.out.grown hg4 (by omega) (fun k e => by cases e; omega))
    clear hm4 hg4 T13 CE3 FR3
    go_wp2_with fail
    refine (heldTermS_some g2 _ T.length _ (by omega) HM4.out).mono ?_
    rintro e w' ⟨rfl, rfl⟩
    have HT4 : Hid (Tab w4) := Lib.hid (HT.out.of fun i => HB4.out.cell (p := ⟨1, i, none⟩) hsz)
    go_wp2_with fail
    refine (iTerms_any l n _ HT4.out (by omega)).mono ?_
    rintro e w5 ⟨v5, rfl, hown5, hb5⟩
    have hz5 := hb5.size
    rw [← HTT.out] at hown5
    obtain ⟨g5, c5', rfl, hg5, hg5', t5, -, -⟩ := tmAt_of hown5 hpos
    have T5 := Lib.hid t5
    have T15 : Hid (TmAt w5 g1 T) := Lib.hid (T14.out.below hb5 (by omega))
    have HM5 : Hid (Marked w5 g2 (T.length * 2) 1) := Lib.hid fun i hi => (hb5.cell (p := ⟨g2, i, none⟩) (by show g2 < _; omega)).trans (HM4.out i hi)
    have HB5 : Hid (Below w.heap.size w w5) := Lib.hid (HB4.out.trans (hb5.mono (by omega)))
    clear hown5 t5 hb5 T14 HM4
    go_wp2_with fail
    refine (eqTermS_some _ _ _ _ _ _ (by omega) hg5' (by omega) T5.out T15.out).mono ?_
    rintro e w6 ⟨rfl, hb6⟩
    have HM6 : Hid (Marked w6 g2 (T.length * 2) 1) := Lib.hid fun i hi => (hb6.cell (p := ⟨g2, i, none⟩) (by show g2 < _; omega)).trans (HM5.out i hi)
    have HB6 : Hid (Below w.heap.size w w6) := Lib.hid (HB5.out.trans (hb6.mono (by omega)))
    clear hb6 HM5
    go_wp2_with fail
    refine (heldTermS_some g2 _ T.length _ (by omega) HM6.out).mono ?_
    rintro e w' ⟨rfl, rfl⟩
    go_wp2
    go_ret
    exact ⟨rfl, HB6.out⟩
end Go.Proofs.YtlbmdicfoiehgaaDoor
