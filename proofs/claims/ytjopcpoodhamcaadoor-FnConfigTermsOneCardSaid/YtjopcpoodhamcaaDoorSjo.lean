/-
  The walk of the reference's TermsJoin. Conditions: none.
-/
import Derived.Test.YtjopcpoodhamcaaDoorSjn
namespace Go.Proofs.YtjopcpoodhamcaaDoor
set_option linter.unusedSimpArgs false
set_option linter.unusedVariables false
open Go.RowKit

set_option maxRecDepth 20000 in
set_option maxHeartbeats 4000000 in
theorem sJoin_ok (va vb : Value) (A B : List Tm) (w : World) (ha : lstB A = true) (hb : lstB B = true) (h1 : RowI w va A) (h2 : RowI w vb B) :
    Calls Tryd.prog 32 #[va, vb] w fun e w' => ∃ v', e = .returned (.tuple #[v', .bool (joinB A B)]) ∧ RowR w' w.heap.size v' (joinP A B) ∧ Below w.heap.size w w' := by
  have na := (lstB_iff.1 ha).1
  have nb := (lstB_iff.1 hb).1
  have HLA := Lib.hid ha
  have HLB := Lib.hid hb
  obtain ⟨We, hWe⟩ : ∃ W, W = w.alloc (.cells #[] 31) := ⟨_, rfl⟩
  have hbe : Below w.heap.size w We := by rw [hWe]; (repeat' first | (with_reducible exact Below.refl _ _) | (with_reducible assumption) | (with_reducible refine below_drewN ?_ _) | (with_reducible refine Below.drew ?_) | (with_reducible refine Below.alloc ?_ ?_ _) | (with_reducible refine Below.setCell ?_ ?_ _) | (with_reducible refine Below.trans ?_ (Below.mono (by assumption) ?_)) | first | omega | (simp only [World.size_alloc, World.size_setCell, World.size_drew, size_drewN]; omega) | (simp; done) | (simp; omega) | (simp only [World.size_alloc, World.size_setCell, World.size_drew, size_drewN] at *; omega) | (simp at *; omega))
  have HI1 := Lib.hid (h1.below hbe)
  have HI2 := Lib.hid (h2.below hbe)
  have HIW1 := Lib.hid h1
  have HIW2 := Lib.hid h2
  have hemp : We.ownsRow w.heap.size 31 2 (.slice (some ⟨w.heap.size, 0, none⟩) 0 0) ([] : List Tm).length (vS []) := by
    have := World.ownsRow_made (base := w.heap.size) (e := 31) (size := 2) w #[] 0 (by simp) (by unfold maxLen; omega) rfl
    have h2 : (w.alloc (.cells #[] 31)).ownsRow w.heap.size 31 2 (.slice (some ⟨w.heap.size, 0, none⟩) 0 0) 0 [] := by simpa using this
    rw [hWe]
    exact h2
  have HEmp := Lib.hid hemp
  have HBe := Lib.hid hbe
  have hze := hbe.size
  obtain ⟨aa, ca, rfl⟩ := h1.form
  obtain ⟨ab, cb, rfl⟩ := h2.form
  clear ha hb h1 h2 hemp hbe
  go_enter Tryd.func32, Tryd.ntmps32
  go_wp2_with fail
  rw [← hWe]
  refine (sList_any _ A _ (by omega) HI1.out).mono ?_
  rintro e w1 ⟨rfl, hb1⟩
  rw [HLA.out]
  have HJ2 := Lib.hid (HI2.out.below hb1)
  have hz1 := hb1.size
  go_wp2_with fail
  refine (sList_any _ B _ (by omega) HJ2.out).mono ?_
  rintro e w2 ⟨rfl, hb2⟩
  rw [HLB.out]
  have hz2 := hb2.size
  have hB2e : Below We.heap.size We w2 := hb1.trans (hb2.mono hz1)
  have hB2 : Below w.heap.size w w2 := HBe.out.trans (hB2e.mono hze)
  have HOW0 := Lib.hid (row_below HEmp.out hB2e)
  have HB2e := Lib.hid hB2e
  clear hb1 hb2 HJ2 hB2e
  go_wp2
  go_loopw [6, 7] (fun v ii wr => ∃ i : Nat, i ≤ A.length ∧ ii = .int .i64 i ∧ wr.ownsRow w.heap.size 31 2 v (flatT (A.take i) B).length (vS (flatT (A.take i) B)) ∧ (flatT (A.take i) B).length ≤ 400 ∧ cplAll (A.take i) B = true ∧ Below w.heap.size w wr ∧ RowI wr (.slice aa A.length ca) A ∧ RowI wr (.slice ab B.length cb) B)
    (fun _ ii _ => A.length - (intOf ii).toNat)
  case atStart => exact ⟨0, Nat.zero_le _, by go_num, HOW0.out, Nat.zero_le _, rfl, hB2, HI1.out.below HB2e.out, HI2.out.below HB2e.out⟩
  case round =>
    obtain ⟨i, hi, rfl, hown, hl4, hall, hbel, hra, hrb⟩ := hrel
    obtain ⟨Wo, hWo⟩ : ∃ W, W = wr := ⟨wr, rfl⟩
    subst hWo
    have i0' : (0 : Int) ≤ (i : Int) := Int.natCast_nonneg _
    have hbz := hbel.size
    have HOW := Lib.hid hown
    have HALL := Lib.hid hall
    have HBel := Lib.hid hbel
    have HRA := Lib.hid hra
    have HRB := Lib.hid hrb
    clear hown hall hra hrb
    by_cases hlt : i < A.length
    · obtain ⟨s, hs⟩ : ∃ s, A[i]? = some s := ⟨_, List.getElem?_eq_getElem hlt⟩
      have HS := Lib.hid hs
      have i1' : (i : Int) < (A.length : Int) := by omega
      clear hs hbel
      go_wp2
      go_loopw [6, 8] (fun v kk wr => ∃ j : Nat, j ≤ B.length ∧ kk = .int .i64 j ∧ wr.ownsRow w.heap.size 31 2 v (flatK A B i j s).length (vS (flatK A B i j s)) ∧ (flatK A B i j s).length ≤ 400 ∧ (∀ u ∈ B.take j, cplB s u = true) ∧ Below w.heap.size w wr ∧ RowI wr (.slice aa A.length ca) A ∧ RowI wr (.slice ab B.length cb) B)
        (fun _ kk _ => B.length - (intOf kk).toNat)
      case atStart =>
        refine ⟨0, Nat.zero_le _, by go_num, ?_, ?_, fun u hu => by simp at hu, HBel.out, HRA.out, HRB.out⟩
        · rw [flatK_zero]; exact HOW.out
        · rw [flatK_zero]; exact hl4
      case round =>
        obtain ⟨j, hj, rfl, hown1, hl5, hallj, hbel1, hra1, hrb1⟩ := hrel
        obtain ⟨Wi, hWi⟩ : ∃ W, W = wr := ⟨wr, rfl⟩
        subst hWi
        have hb1z := hbel1.size
        have j0' : (0 : Int) ≤ (j : Int) := Int.natCast_nonneg _
        have HO1 := Lib.hid hown1
        have HALJ := Lib.hid hallj
        have HB1 := Lib.hid hbel1
        have HRA1 := Lib.hid hra1
        have HRB1 := Lib.hid hrb1
        clear hown1 hallj
        by_cases hlj : j < B.length
        · obtain ⟨gb, ob, cb', t, hvb, ht, hgb, t0, t1⟩ := hrb1.get hlj
          obtain ⟨ga, oa, ca', s', hva, hs', hga, r0, r1⟩ := hra1.get hlt
          have hss : s' = s := by have := HS.out.symm.trans hs'; simpa using this.symm
          subst hss
          simp only [Value.slice.injEq, true_and] at hvb hva
          obtain ⟨rfl, rfl⟩ := hvb
          obtain ⟨rfl, rfl⟩ := hva
          have HT := Lib.hid ht
          have j1' : (j : Int) < (B.length : Int) := by omega
          have hsz : Wi.heap.size ≤ Wi.heap.size := Nat.le_refl _
          clear ht hs' hbel1 hra1 hrb1
          go_wp2
          go_region_held3 (fun w' => w'.cell? ⟨ga, oa + i * 2, none⟩ = some (.int .i64 s'.1) ∧ w'.cell? ⟨ga, oa + i * 2 + 1, none⟩ = some (.int .i64 s'.2) ∧
              w'.cell? ⟨gb, ob + j * 2, none⟩ = some (.int .i64 t.1) ∧ w'.cell? ⟨gb, ob + j * 2 + 1, none⟩ = some (.int .i64 t.2) ∧ Wi.heap.size ≤ w'.heap.size ∧ Below Wi.heap.size Wi w')
            (first | (simp (disch := first | omega | (simp; done) | (simp; omega)) [go_sem, *]; done) | ((repeat' first | (with_reducible exact Below.refl _ _) | (with_reducible assumption) | (with_reducible refine below_drewN ?_ _) | (with_reducible refine Below.drew ?_) | (with_reducible refine Below.alloc ?_ ?_ _) | (with_reducible refine Below.setCell ?_ ?_ _) | (with_reducible refine Below.trans ?_ (Below.mono (by assumption) ?_)) | first | omega | (simp only [World.size_alloc, World.size_setCell, World.size_drew, size_drewN]; omega) | (simp; done) | (simp; omega) | (simp only [World.size_alloc, World.size_setCell, World.size_drew, size_drewN] at *; omega) | (simp at *; omega)); done) | ((try go_split_ands); (refine ⟨?_, ?_, ?_, ?_, ?_, ?_⟩ <;> first | omega | (simp only [World.size_alloc, World.size_setCell, World.size_drew, size_drewN]; omega) | (simp (disch := first | omega | (simp; done) | (simp; omega)) [go_sem, *]; done) | ((repeat' first | (with_reducible exact Below.refl _ _) | (with_reducible assumption) | (with_reducible refine below_drewN ?_ _) | (with_reducible refine Below.drew ?_) | (with_reducible refine Below.alloc ?_ ?_ _) | (with_reducible refine Below.setCell ?_ ?_ _) | (with_reducible refine Below.trans ?_ (Below.mono (by assumption) ?_)) | first | omega | (simp only [World.size_alloc, World.size_setCell, World.size_drew, size_drewN]; omega) | (simp; done) | (simp; omega) | (simp only [World.size_alloc, World.size_setCell, World.size_drew, size_drewN] at *; omega) | (simp at *; omega)); done))))
            (first | (go_at_call 54; refine (sCouple_all _ _ _).mono ?_; rintro e w7 ⟨v7, rfl, hrow7, hb7⟩; obtain ⟨hc7, hf7⟩ := bcell hb7; have hz7 := hb7.size; (try simp only [World.size_alloc, World.size_setCell, World.size_drew, size_drewN] at hz7 hc7 hf7)))
          have hBi : Below Wi.heap.size Wi w7 := by (repeat' first | (with_reducible exact Below.refl _ _) | (with_reducible assumption) | (with_reducible refine below_drewN ?_ _) | (with_reducible refine Below.drew ?_) | (with_reducible refine Below.alloc ?_ ?_ _) | (with_reducible refine Below.setCell ?_ ?_ _) | (with_reducible refine Below.trans ?_ (Below.mono (by assumption) ?_)) | first | omega | (simp only [World.size_alloc, World.size_setCell, World.size_drew, size_drewN]; omega) | (simp; done) | (simp; omega) | (simp only [World.size_alloc, World.size_setCell, World.size_drew, size_drewN] at *; omega) | (simp at *; omega))
          have HO7 := Lib.hid (row_below HO1.out hBi)
          have HB7 := Lib.hid (HB1.out.trans (hBi.mono (by omega)))
          have HR7 := Lib.hid hrow7
          have HRA7 := Lib.hid (HRA1.out.below hBi)
          have HRB7 := Lib.hid (HRB1.out.below hBi)
          have ple := cplP_len_le s' t
          clear hb7 hBi hc7 hf7 t0 t1 r0 r1 hrow7
          cases hc : cplB s' t
          · have HJ := Lib.hid (joinB_pair HS.out HT.out hc)
            have hz7 := HB7.out.size
            clear hc
            go_wp2
            refine bodyPost_ret (v := .tuple #[.slice (some ⟨w7.heap.size, 0, none⟩) 0 0, .bool false]) (by simp (disch := first | omega | (simp; done) | (simp; omega)) [results, Tryd.results32, go_sem, cell_set, *]) rfl ?_
            rw [HJ.out]
            exact ⟨_, rfl, by simpa [joinP, HJ.out] using rowR_empty hz7, by have := HB7.out; (repeat' first | (with_reducible exact Below.refl _ _) | (with_reducible assumption) | (with_reducible refine below_drewN ?_ _) | (with_reducible refine Below.drew ?_) | (with_reducible refine Below.alloc ?_ ?_ _) | (with_reducible refine Below.setCell ?_ ?_ _) | (with_reducible refine Below.trans ?_ (Below.mono (by assumption) ?_)) | first | omega | (simp only [World.size_alloc, World.size_setCell, World.size_drew, size_drewN]; omega) | (simp; done) | (simp; omega) | (simp only [World.size_alloc, World.size_setCell, World.size_drew, size_drewN] at *; omega) | (simp at *; omega))⟩
          · have HC := Lib.hid hc
            clear hc
            obtain ⟨a7, c7, rfl⟩ := HR7.out.inp.form
            obtain ⟨k1, hk1⟩ : ∃ k, k = (flatK A B i j s').length := ⟨_, rfl⟩
            obtain ⟨k2, hk2⟩ : ∃ k, k = (cplP s' t).length := ⟨_, rfl⟩
            obtain ⟨au, cu, hu⟩ := (rowI_own HO7.out).form
            rw [hu]
            rw [hu] at HO7
            rw [← hk1] at hl5 hu ⊢
            rw [← hk2] at ple ⊢
            have HK1 := Lib.hid hk1
            have HK2 := Lib.hid hk2
            clear hk1 hk2
            by_cases hlong : 400 < k1 + k2
            · have HJ := Lib.hid (joinB_long HS.out HT.out (by rw [← HK1.out, ← HK2.out]; exact hlong))
              have q1 : decide (400 < (k1 : Int) + (k2 : Int)) = true := by simp; omega
              have hz7 := HB7.out.size
              clear hu
              go_wp2
              refine bodyPost_ret (v := .tuple #[.slice (some ⟨w7.heap.size, 0, none⟩) 0 0, .bool false]) (by simp (disch := first | omega | (simp; done) | (simp; omega)) [results, Tryd.results32, go_sem, cell_set, *]) rfl ?_
              rw [HJ.out]
              exact ⟨_, rfl, by simpa [joinP, HJ.out] using rowR_empty hz7, by have := HB7.out; (repeat' first | (with_reducible exact Below.refl _ _) | (with_reducible assumption) | (with_reducible refine below_drewN ?_ _) | (with_reducible refine Below.drew ?_) | (with_reducible refine Below.alloc ?_ ?_ _) | (with_reducible refine Below.setCell ?_ ?_ _) | (with_reducible refine Below.trans ?_ (Below.mono (by assumption) ?_)) | first | omega | (simp only [World.size_alloc, World.size_setCell, World.size_drew, size_drewN]; omega) | (simp; done) | (simp; omega) | (simp only [World.size_alloc, World.size_setCell, World.size_drew, size_drewN] at *; omega) | (simp at *; omega))⟩
            · have q1 : decide (400 < (k1 : Int) + (k2 : Int)) = false := by simp; omega
              have hz7 := HB7.out.size
              clear hu
              have HOW7 : Hid (w7.ownsRow w.heap.size 31 2 (.slice au k1 cu) (flatK A B i j s').length (vS (flatK A B i j s'))) := Lib.hid (by rw [HK1.out]; exact HO7.out)
              have HIN7 : Hid (RowI w7 (.slice a7 k2 c7) (cplP s' t)) := Lib.hid (by rw [HK2.out]; exact HR7.out.inp)
              clear HO7 HR7
              go_wp2_with (first | (at_builtin; refine wpl_app rfl _ _ rfl w.heap.size _ _ (flatK A B i j s') (cplP s' t) rfl HOW7.out rfl HIN7.out ?c1 ?c2 ?_))
              case c1 => rw [← HK1.out, ← HK2.out]; omega
              case c2 => first | omega | (simp; omega)
              intro v' w9 hown' hgrow _ _
              have HST := Lib.hid (flatK_step (a := A) (i := i) (s := s') HT.out)
              have hz9 := hgrow.size
              have hown2 : w9.ownsRow w.heap.size 31 2 v' (flatK A B i (j + 1) s').length (vS (flatK A B i (j + 1) s')) := by rw [HST.out]; exact own_len hown'
              have hbel2 : Below w.heap.size w w9 := Below.grown HB7.out hgrow (by omega) (fun k hk => (HOW7.out.lt k hk).1)
              have hl6 : (flatK A B i (j + 1) s').length ≤ 400 := by rw [HST.out, List.length_append, ← HK1.out, ← HK2.out]; omega
              have hall2 := okj_step HT.out HALJ.out HC.out
              have hra9 : RowI w9 (.slice (some ⟨ga, oa, none⟩) A.length ca) A := HIW1.out.below hbel2
              have hrb9 : RowI w9 (.slice (some ⟨gb, ob, none⟩) B.length cb) B := HIW2.out.below hbel2
              have HREL := Lib.hid (show (flatK A B i (j + 1) s').length ≤ 400 ∧ (∀ u ∈ B.take (j + 1), cplB s' u = true) ∧ Below w.heap.size w w9 from ⟨hl6, hall2, hbel2⟩)
              have HOW2 := Lib.hid hown2
              clear hown' hgrow hown2 hbel2 hl6 hall2
              go_wp2
              go_roundw
              case rel => exact ⟨j + 1, hlj, by go_num, HOW2.out, HREL.out.1, HREL.out.2.1, HREL.out.2.2, hra9, hrb9⟩
              case measure => simp [intOf]; omega
        · obtain rfl : j = B.length := by omega
          have HST := Lib.hid (flatT_step (b := B) HS.out)
          have HALN := Lib.hid (cplAll_step HS.out HALL.out (b := B) (fun t ht => HALJ.out t (by rw [List.take_length]; exact ht)))
          go_wp2
          go_roundw
          case rel => exact ⟨i + 1, hlt, by go_num, by rw [HST.out]; exact HO1.out, by rw [HST.out]; exact hl5, HALN.out, hbel1, HRA1.out, HRB1.out⟩
          case measure => simp [intOf]; omega
    · obtain rfl : i = A.length := by omega
      have hJ : joinB A B = true := by
        have := HALL.out
        rw [List.take_length] at this hl4
        exact joinB_end HLA.out HLB.out this hl4
      have HJ := Lib.hid hJ
      have hown := HOW.out
      rw [List.take_length] at hown hl4
      have HRI := Lib.hid (rowI_own hown)
      have HP := Lib.hid (joinP_yes hJ)
      obtain ⟨au, cu, rfl⟩ := (rowI_own hown).form
      clear hJ hown HOW
      go_wp2_with fail
      refine (sSort_any _ (flatT A B) _ (by omega) HRI.out flat_ok).mono ?_
      rintro e w8 ⟨v8, rfl, hrow8, hb8⟩
      have HR8 := Lib.hid hrow8
      clear hrow8
      go_wp2
      refine bodyPost_ret (v := .tuple #[v8, .bool true]) (by simp (disch := first | omega | (simp; done) | (simp; omega)) [results, Tryd.results32, go_sem, cell_set, *]) rfl ?_
      rw [HJ.out, HP.out]
      exact ⟨_, rfl, .inr (RowL.mono HR8.out (by omega)), hbel.trans (hb8.mono (by omega))⟩
set_option maxHeartbeats 1000000 in
theorem sJoin_any (va vb : Value) (A B : List Tm) (w : World) (sa : A.length ≤ 1000000000) (sb : B.length ≤ 1000000000) (h1 : RowI w va A) (h2 : RowI w vb B) :
    Calls Tryd.prog 32 #[va, vb] w fun e w' => ∃ v', e = .returned (.tuple #[v', .bool (joinB A B)]) ∧ RowR w' w.heap.size v' (joinP A B) ∧ Below w.heap.size w w' := by
  cases ha : lstB A
  · have HJ := Lib.hid (show joinB A B = false by simp [joinB, ha])
    have HL := Lib.hid ha
    obtain ⟨We, hWe⟩ : ∃ W, W = w.alloc (.cells #[] 31) := ⟨_, rfl⟩
    have hbe : Below w.heap.size w We := by rw [hWe]; (repeat' first | (with_reducible exact Below.refl _ _) | (with_reducible assumption) | (with_reducible refine below_drewN ?_ _) | (with_reducible refine Below.drew ?_) | (with_reducible refine Below.alloc ?_ ?_ _) | (with_reducible refine Below.setCell ?_ ?_ _) | (with_reducible refine Below.trans ?_ (Below.mono (by assumption) ?_)) | first | omega | (simp only [World.size_alloc, World.size_setCell, World.size_drew, size_drewN]; omega) | (simp; done) | (simp; omega) | (simp only [World.size_alloc, World.size_setCell, World.size_drew, size_drewN] at *; omega) | (simp at *; omega))
    have HI1 := Lib.hid (h1.below hbe)
    have HRE : Hid (RowR We w.heap.size (.slice (some ⟨w.heap.size, 0, none⟩) 0 0) []) := Lib.hid (by rw [hWe]; exact rowR_empty (Nat.le_refl _))
    have hze := hbe.size
    obtain ⟨aa, ca, rfl⟩ := h1.form
    obtain ⟨ab, cb, rfl⟩ := h2.form
    clear ha h1 h2
    go_enter Tryd.func32, Tryd.ntmps32
    go_wp2_with fail
    rw [← hWe]
    refine (sList_any _ A _ (by omega) HI1.out).mono ?_
    rintro e w1 ⟨rfl, hb1⟩
    rw [HL.out]
    go_wp2
    refine bodyPost_ret (v := .tuple #[.slice (some ⟨w.heap.size, 0, none⟩) 0 0, .bool false]) (by simp (disch := first | omega | (simp; done) | (simp; omega)) [results, Tryd.results32, go_sem, cell_set, *]) rfl ?_
    rw [HJ.out]
    exact ⟨_, rfl, by simpa [joinP, HJ.out] using HRE.out.step hb1, hbe.trans (hb1.mono hze)⟩
  cases hb : lstB B
  · have HJ := Lib.hid (show joinB A B = false by simp [joinB, hb])
    have HLA := Lib.hid ha
    have HLB := Lib.hid hb
    obtain ⟨We, hWe⟩ : ∃ W, W = w.alloc (.cells #[] 31) := ⟨_, rfl⟩
    have hbe : Below w.heap.size w We := by rw [hWe]; (repeat' first | (with_reducible exact Below.refl _ _) | (with_reducible assumption) | (with_reducible refine below_drewN ?_ _) | (with_reducible refine Below.drew ?_) | (with_reducible refine Below.alloc ?_ ?_ _) | (with_reducible refine Below.setCell ?_ ?_ _) | (with_reducible refine Below.trans ?_ (Below.mono (by assumption) ?_)) | first | omega | (simp only [World.size_alloc, World.size_setCell, World.size_drew, size_drewN]; omega) | (simp; done) | (simp; omega) | (simp only [World.size_alloc, World.size_setCell, World.size_drew, size_drewN] at *; omega) | (simp at *; omega))
    have HI1 := Lib.hid (h1.below hbe)
    have HI2 := Lib.hid (h2.below hbe)
    have HRE : Hid (RowR We w.heap.size (.slice (some ⟨w.heap.size, 0, none⟩) 0 0) []) := Lib.hid (by rw [hWe]; exact rowR_empty (Nat.le_refl _))
    have hze := hbe.size
    obtain ⟨aa, ca, rfl⟩ := h1.form
    obtain ⟨ab, cb, rfl⟩ := h2.form
    clear ha hb h1 h2
    go_enter Tryd.func32, Tryd.ntmps32
    go_wp2_with fail
    rw [← hWe]
    refine (sList_any _ A _ (by omega) HI1.out).mono ?_
    rintro e w1 ⟨rfl, hb1⟩
    rw [HLA.out]
    have HJ2 := Lib.hid (HI2.out.below hb1)
    have hz1 := hb1.size
    go_wp2_with fail
    refine (sList_any _ B _ (by omega) HJ2.out).mono ?_
    rintro e w2 ⟨rfl, hb2⟩
    rw [HLB.out]
    go_wp2
    refine bodyPost_ret (v := .tuple #[.slice (some ⟨w.heap.size, 0, none⟩) 0 0, .bool false]) (by simp (disch := first | omega | (simp; done) | (simp; omega)) [results, Tryd.results32, go_sem, cell_set, *]) rfl ?_
    rw [HJ.out]
    exact ⟨_, rfl, by simpa [joinP, HJ.out] using (HRE.out.step hb1).step hb2, hbe.trans ((hb1.trans (hb2.mono hz1)).mono hze)⟩
  exact sJoin_ok va vb A B w ha hb h1 h2
end Go.Proofs.YtjopcpoodhamcaaDoor
