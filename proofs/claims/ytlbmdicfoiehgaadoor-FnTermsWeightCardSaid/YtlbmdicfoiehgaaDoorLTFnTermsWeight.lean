/-
  The walk of the law FnTermsWeight. Conditions: the table of the library.
-/
import Derived.Test.YtlbmdicfoiehgaaDoorTsame
import Derived.Test.YtlbmdicfoiehgaaDoorTmk
import Derived.Test.YtlbmdicfoiehgaaDoorDrawU
import Derived.Test.YtlbmdicfoiehgaaDoorTwgt
import Derived.Test.YtlbmdicfoiehgaaDoorChoose
namespace Go.Proofs.YtlbmdicfoiehgaaDoor
set_option linter.unusedSimpArgs false
set_option linter.unusedVariables false
open Go.RowKit

theorem choose_fin : ((List.range 3).all fun l => (List.range (4 * l + 3)).all fun n => decide ((pasc (4 * (l : Int) + 2).toNat)[((n : Nat) : Int).toNat]? = some (chNo l n))) = true := by decide +kernel
theorem choose_is {l n : Int} (h0 : 0 ≤ l) (h1 : l ≤ 2) (h2 : 0 ≤ n) (h3 : n ≤ 4 * l + 2) : ∃ x, (pasc (4 * l + 2).toNat)[n.toNat]? = some x ∧ chNo l n = x := by
  obtain ⟨l, rfl⟩ := Int.eq_ofNat_of_zero_le h0
  obtain ⟨n, rfl⟩ := Int.eq_ofNat_of_zero_le h2
  have := List.all_eq_true.1 (List.all_eq_true.1 choose_fin l (List.mem_range.2 (by omega))) n (List.mem_range.2 (by omega))
  exact ⟨_, by simpa using this, rfl⟩
set_option maxRecDepth 20000 in
set_option maxHeartbeats 4000000 in
theorem walk_FnTermsWeight (a : Option Addr) (len cap : Nat) (w : World) (hT : Tab w) (hsz : 1 < w.heap.size) (hb : BytesAt w a len cap) :
    Calls Tryd.prog 12 #[.slice a len cap] w fun e w' => e = .returned (.bool true) ∧ Below w.heap.size w w' := by
  by_cases hlen : 1048576 < len
  · clear hb
    go_enter Tryd.func12, Tryd.ntmps12
    go_wp2
    go_ret
    exact ⟨rfl, Below.refl _ _⟩
  · have hlen' : len ≤ 1048576 := by omega
    clear hlen
    have HB := Lib.hid hb
    have HT := Lib.hid hT
    clear hb hT
    go_enter Tryd.func12, Tryd.ntmps12
    go_wp2_with fail
    refine (dTermsOf_any a len cap _ HB.out).mono ?_
    rintro e w1 ⟨l, n, rfl, hl0, hl1, hn0, hn1, hb1⟩
    have hz1 := hb1.size
    have HT1 : Hid (Tab w1) := Lib.hid (HT.out.of fun i => hb1.cell (p := ⟨1, i, none⟩) hsz)
    go_wp2_with fail
    refine (iTerms_any l n _ HT1.out (by omega)).mono ?_
    rintro e w2 ⟨v2, rfl, hown2, hb2⟩
    have hz2 := hb2.size
    have HO2 := Lib.hid hown2
    have HB2 := Lib.hid hb2
    have HB1 := Lib.hid hb1
    clear hown2 hb2 hb1
    go_wp2_with fail
    refine (sTerms_any l n _).mono ?_
    rintro e w3 ⟨v3, rfl, hown3, hb3⟩
    have hz3 := hb3.size
    have hown2 := HO2.out
    have hB : Below w.heap.size w w3 := HB1.out.trans ((HB2.out.mono hz1).trans (hb3.mono (by omega)))
    cases hv : eOk l n
    · have e0 : termsP l n = [] := by simp [termsP, hv]
      rw [e0] at hown2 hown3
      obtain ⟨a2', c2', rfl⟩ := row_len hown2
      obtain ⟨a3', c3', rfl⟩ := row_len hown3
      clear hown2 hown3 hb3 HO2 HB2 HB1 e0 hv
      simp only [List.length_nil]
      go_wp2_with (go_at_call 23; refine (sameTerms_nil _ _ _ _ _).mono ?_; rintro e w' ⟨rfl, rfl⟩)
      go_ret
      exact ⟨rfl, hB⟩
    · have bl := eOk_true hv
      have HC := Lib.hid (tchk hv)
      have HV := Lib.hid hv
      have hT16 := termsP_le l n
      obtain ⟨T, hTT⟩ : ∃ T, T = termsP l n := ⟨_, rfl⟩
      have hpos : 0 < T.length := by
        have := HC.out
        rw [← hTT] at this
        simp only [chkTm, Bool.and_eq_true, decide_eq_true_eq] at this
        exact this.1.1.1.1.1.1
      rw [← hTT] at hown2 hown3 hT16
      have HTT := Lib.hid hTT
      clear hTT hv
      obtain ⟨g2, c2', rfl, hg2, hg2', t2, hce2, hfr2⟩ := tmAt_of hown2 hpos
      obtain ⟨g3, c3', rfl, hg3, hg3', t3, -, -⟩ := tmAt_of hown3 hpos
      have T2 : Hid (TmAt w3 g2 T) := Lib.hid (t2.below hb3 hg2')
      have T3 := Lib.hid t3
      have HBB := Lib.hid hB
      have hg23 : g2 < w3.heap.size := by omega
      have hp0 : ((T.length : Int) == 0) = false := by rw [beq_eq_false_iff_ne]; omega
      have hp1 : (T.length == 0) = false := by rw [beq_eq_false_iff_ne]; omega
      clear hown2 hown3 t2 t3 hce2 hfr2 hb3 HO2 HB2 HB1 hB
      go_wp2_with fail
      refine (sameTerms_some _ _ _ _ _ _ (by omega) T2.out T3.out).mono ?_
      rintro e w4 ⟨rfl, hm4⟩
      have hb4 : Below w3.heap.size w3 w4 := by obtain ⟨m, rfl⟩ := hm4; (repeat' first | (with_reducible exact Below.refl _ _) | (with_reducible assumption) | (with_reducible refine below_drewN ?_ _) | (with_reducible refine Below.drew ?_) | (with_reducible refine Below.alloc ?_ ?_ _) | (with_reducible refine Below.setCell ?_ ?_ _) | (with_reducible refine Below.trans ?_ (Below.mono (by assumption) ?_)) | first | omega | (simp only [World.size_alloc, World.size_setCell, World.size_drew, size_drewN]; omega) | (simp; done) | (simp; omega) | (simp only [World.size_alloc, World.size_setCell, World.size_drew, size_drewN] at *; omega) | (simp at *; omega))
      have hz4 := hb4.size
      have T4 : Hid (TmAt w4 g2 T) := Lib.hid (T2.out.below hb4 hg23)
      have HB4 : Hid (Below w.heap.size w w4) := Lib.hid (HBB.out.trans (hb4.mono (by omega)))
      have HT4 : Hid (Tab w4) := Lib.hid (HT.out.of fun i => HB4.out.cell (p := ⟨1, i, none⟩) hsz)
      clear hm4 hb4 T2 T3 HBB HT1
      have hfact : (∀ (k : Nat) (p : Int × Int), T[k]? = some p → tvB p.1 p.2 = true) ∧ wgt T = chNo l n := by
        have := HC.out
        rw [← HTT.out] at this
        simp only [chkTm, Bool.and_eq_true, List.all_eq_true, decide_eq_true_eq] at this
        refine ⟨fun k p hp => ?_, this.2⟩
        have q := this.1.1.1.1.2 p (List.mem_of_getElem? hp)
        simp [tvB]; omega
      obtain ⟨x, hx, hxw⟩ : ∃ x, (pasc (4 * l + 2).toNat)[n.toNat]? = some x ∧ chNo l n = x := choose_is bl.1 bl.2.1 bl.2.2.1 bl.2.2.2
      have HWT := Lib.hid (hfact.2.trans hxw)
      have HVT := Lib.hid hfact.1
      have HX := Lib.hid hx
      have eN : (((4 * l + 2).toNat : Nat) : Int) = 4 * l + 2 := by omega
      have en : ((n.toNat : Nat) : Int) = n := by omega
      have hCh := fun W => iChoose_any (4 * l + 2).toNat n.toNat x W (by omega) (by omega) HX.out
      simp only [eN, en] at hCh
      have HCh := Lib.hid hCh
      clear hfact hx hxw hCh eN en
      go_wp2_with fail
      refine (iWeight_some g2 _ T _ (by omega) (by omega) T4.out HVT.out).mono ?_
      rintro e w5 ⟨rfl, hb5⟩
      have hz5 := hb5.size
      rw [HWT.out]
      go_wp2_with fail
      refine (HCh.out _).mono ?_
      rintro e w6 ⟨rfl, hb6⟩
      go_wp2
      go_ret
      exact ⟨rfl, HB4.out.trans ((hb5.mono (by omega)).trans (hb6.mono (by omega)))⟩
end Go.Proofs.YtlbmdicfoiehgaaDoor
