/-
  The walks of the reference's l14Valid, TermsSort, TermsCouple, TermsJoin. Conditions: none.
-/
import Derived.Test.YtjopcpoodhamcaaDoorSsrt
import Derived.Test.YtjopcpoodhamcaaDoorCpl
namespace Go.Proofs.YtjopcpoodhamcaaDoor
set_option linter.unusedSimpArgs false
set_option linter.unusedVariables false
open Go.RowKit

set_option maxHeartbeats 1000000 in
theorem sList_any (v : Value) (xs : List Tm) (w : World) (hs : xs.length ≤ 1000000000) (h : RowI w v xs) :
    Calls Tryd.prog 53 #[v] w fun e w' => e = .returned (.bool (lstB xs)) ∧ Below w.heap.size w w' := by
  have HI := Lib.hid h
  obtain ⟨a, c, rfl⟩ := h.form
  clear h
  go_enter Tryd.func53, Tryd.ntmps53
  go_wp2
  go_loopw [3] (fun ii wr => ∃ i : Nat, i ≤ xs.length ∧ ii = .int .i64 i ∧ okK xs i ∧ Below w.heap.size w wr) (fun ii _ => xs.length - (intOf ii).toNat)
  case atStart => exact ⟨0, Nat.zero_le _, rfl, rfl, Below.refl _ _⟩
  case round =>
    obtain ⟨i, hi, rfl, hok, hbel⟩ := hrel
    have i0' : (0 : Int) ≤ (i : Int) := Int.natCast_nonneg _
    have hbz := hbel.size
    have HOK := Lib.hid hok
    clear hok
    by_cases hlt : i < xs.length
    · obtain ⟨ga, oa, ca', x, hva, hx, hga, r0, r1⟩ := (HI.out.below hbel).get hlt
      simp only [Value.slice.injEq, true_and] at hva
      obtain ⟨rfl, rfl⟩ := hva
      have HX := Lib.hid hx
      have i1' : (i : Int) < (xs.length : Int) := by omega
      clear hx
      cases ht : tvB x.1 x.2
      · have HT := Lib.hid ht
        have HN : Hid (lstB xs = false) := Lib.hid (by
          cases e : lstB xs
          · rfl
          · have := allV_iff.1 (lstB_iff.1 e).2 x (List.mem_of_getElem? HX.out)
            rw [ht] at this
            cases this)
        clear ht
        go_wp2_with fail
        refine (sTermValid_any _ _ _).mono ?_
        rintro e w5 ⟨rfl, hb5⟩
        rw [HT.out]
        obtain ⟨hc5, hf5⟩ := bcell hb5; have hz5 := hb5.size; (try simp only [World.size_alloc, World.size_setCell, World.size_drew, size_drewN] at hz5 hc5 hf5)
        go_wp2
        go_ret
        exact ⟨by have h := HN.out; simp only [h]; rfl, by (repeat' first | (with_reducible exact Below.refl _ _) | (with_reducible assumption) | (with_reducible refine below_drewN ?_ _) | (with_reducible refine Below.drew ?_) | (with_reducible refine Below.alloc ?_ ?_ _) | (with_reducible refine Below.setCell ?_ ?_ _) | (with_reducible refine Below.trans ?_ (Below.mono (by assumption) ?_)) | first | omega | (simp only [World.size_alloc, World.size_setCell, World.size_drew, size_drewN]; omega) | (simp; done) | (simp; omega) | (simp only [World.size_alloc, World.size_setCell, World.size_drew, size_drewN] at *; omega) | (simp at *; omega))⟩
      · have HT := Lib.hid ht
        clear ht
        go_wp2_with fail
        refine (sTermValid_any _ _ _).mono ?_
        rintro e w5 ⟨rfl, hb5⟩
        rw [HT.out]
        obtain ⟨hc5, hf5⟩ := bcell hb5; have hz5 := hb5.size; (try simp only [World.size_alloc, World.size_setCell, World.size_drew, size_drewN] at hz5 hc5 hf5)
        have hB5 : Below w.heap.size w w5 := by (repeat' first | (with_reducible exact Below.refl _ _) | (with_reducible assumption) | (with_reducible refine below_drewN ?_ _) | (with_reducible refine Below.drew ?_) | (with_reducible refine Below.alloc ?_ ?_ _) | (with_reducible refine Below.setCell ?_ ?_ _) | (with_reducible refine Below.trans ?_ (Below.mono (by assumption) ?_)) | first | omega | (simp only [World.size_alloc, World.size_setCell, World.size_drew, size_drewN]; omega) | (simp; done) | (simp; omega) | (simp only [World.size_alloc, World.size_setCell, World.size_drew, size_drewN] at *; omega) | (simp at *; omega))
        go_wp2
        go_roundw
        case rel => exact ⟨i + 1, hlt, by go_num, okK_step HX.out HOK.out HT.out, hB5⟩
        case measure => simp [intOf]; omega
    · obtain rfl : i = xs.length := by omega
      have HV := Lib.hid (okK_all HOK.out).2
      by_cases hl : xs.length ≤ 400
      · have HE := Lib.hid (show lstB xs = true from lstB_iff.2 ⟨hl, HV.out⟩)
        have l1 : (xs.length : Int) ≤ 400 := by omega
        go_wp2
        go_ret
        exact ⟨by have h := HE.out; simp only [h]; rfl, hbel⟩
      · have HE := Lib.hid (show lstB xs = false by simp [lstB, hl])
        have l1 : ¬ (xs.length : Int) ≤ 400 := by omega
        go_wp2
        go_ret
        exact ⟨by have h := HE.out; simp only [h]; rfl, hbel⟩
theorem rowR_empty {w : World} {base : Nat} (hb : base ≤ w.heap.size) : RowR (w.alloc (.cells #[] 31)) base (.slice (some ⟨w.heap.size, 0, none⟩) 0 0) [] := by
  have := World.ownsRow_made (base := base) (e := 31) (size := 2) w #[] 0 hb (by unfold maxLen; omega) rfl
  have h2 : (w.alloc (.cells #[] 31)).ownsRow base 31 2 (.slice (some ⟨w.heap.size, 0, none⟩) 0 0) 0 [] := by simpa using this
  exact rowR_own (xs := []) h2
set_option maxRecDepth 20000 in
set_option maxHeartbeats 800000 in
theorem sCouple_no (s t : Tm) (w : World) (hc : cplB s t = false) :
    Calls Tryd.prog 54 #[.agg #[.int .i64 s.1, .int .i64 s.2], .agg #[.int .i64 t.1, .int .i64 t.2]] w fun e w' => ∃ v, e = .returned (.tuple #[v, .bool false]) ∧ RowR w' w.heap.size v [] ∧ Below w.heap.size w w' := by
  have hemp : RowR (((w.alloc (.cells #[.int .i64 s.1, .int .i64 s.2] 31)).alloc (.cells #[.int .i64 t.1, .int .i64 t.2] 31)).alloc (.cells #[] 31)) w.heap.size (.slice (some ⟨w.heap.size + 1 + 1, 0, none⟩) 0 0) [] := by
    have := rowR_empty (w := (w.alloc (.cells #[.int .i64 s.1, .int .i64 s.2] 31)).alloc (.cells #[.int .i64 t.1, .int .i64 t.2] 31)) (base := w.heap.size) (by simp; omega)
    simpa using this
  have HEmp := Lib.hid hemp
  clear hemp
  cases hv1 : tvB s.1 s.2
  · have HV := Lib.hid hv1
    clear hc hv1
    go_enter Tryd.func54, Tryd.ntmps54
    go_wp2_with fail
    refine (sTermValid_any _ _ _).mono ?_
    rintro e w5 ⟨rfl, hb5⟩
    have HW5 := Lib.hid (HEmp.out.step hb5)
    rw [HV.out]
    obtain ⟨hc5, hf5⟩ := bcell hb5; have hz5 := hb5.size; (try simp only [World.size_alloc, World.size_setCell, World.size_drew, size_drewN] at hz5 hc5 hf5); (have g5a : w.heap.size < w5.heap.size := by omega); (have g5b : w.heap.size + 1 < w5.heap.size := by omega); (have g5c : w.heap.size + 1 + 1 < w5.heap.size := by omega)
    go_wp2
    refine bodyPost_ret (v := .tuple #[.slice (some ⟨w.heap.size + 1 + 1, 0, none⟩) 0 0, .bool false]) (by simp (disch := first | omega | (simp; done) | (simp; omega)) [results, Tryd.results54, go_sem, cell_set, *]) rfl ?_
    exact ⟨_, rfl, HW5.out, by (repeat' first | (with_reducible exact Below.refl _ _) | (with_reducible assumption) | (with_reducible refine below_drewN ?_ _) | (with_reducible refine Below.drew ?_) | (with_reducible refine Below.alloc ?_ ?_ _) | (with_reducible refine Below.setCell ?_ ?_ _) | (with_reducible refine Below.trans ?_ (Below.mono (by assumption) ?_)) | first | omega | (simp only [World.size_alloc, World.size_setCell, World.size_drew, size_drewN]; omega) | (simp; done) | (simp; omega) | (simp only [World.size_alloc, World.size_setCell, World.size_drew, size_drewN] at *; omega) | (simp at *; omega))⟩
  cases hv2 : tvB t.1 t.2
  · have HV1 := Lib.hid hv1
    have HV2 := Lib.hid hv2
    clear hc hv1 hv2
    go_enter Tryd.func54, Tryd.ntmps54
    go_wp2_with fail
    refine (sTermValid_any _ _ _).mono ?_
    rintro e w5 ⟨rfl, hb5⟩
    have HW5 := Lib.hid (HEmp.out.step hb5)
    rw [HV1.out]
    obtain ⟨hc5, hf5⟩ := bcell hb5; have hz5 := hb5.size; (try simp only [World.size_alloc, World.size_setCell, World.size_drew, size_drewN] at hz5 hc5 hf5); (have g5a : w.heap.size < w5.heap.size := by omega); (have g5b : w.heap.size + 1 < w5.heap.size := by omega); (have g5c : w.heap.size + 1 + 1 < w5.heap.size := by omega)
    go_wp2_with fail
    refine (sTermValid_any _ _ _).mono ?_
    rintro e w6 ⟨rfl, hb6⟩
    have HW6 := Lib.hid (HW5.out.step hb6)
    rw [HV2.out]
    obtain ⟨hc6, hf6⟩ := bcell hb6; have hz6 := hb6.size; (try simp only [World.size_alloc, World.size_setCell, World.size_drew, size_drewN] at hz6 hc6 hf6)
    go_wp2
    refine bodyPost_ret (v := .tuple #[.slice (some ⟨w.heap.size + 1 + 1, 0, none⟩) 0 0, .bool false]) (by simp (disch := first | omega | (simp; done) | (simp; omega)) [results, Tryd.results54, go_sem, cell_set, *]) rfl ?_
    exact ⟨_, rfl, HW6.out, by (repeat' first | (with_reducible exact Below.refl _ _) | (with_reducible assumption) | (with_reducible refine below_drewN ?_ _) | (with_reducible refine Below.drew ?_) | (with_reducible refine Below.alloc ?_ ?_ _) | (with_reducible refine Below.setCell ?_ ?_ _) | (with_reducible refine Below.trans ?_ (Below.mono (by assumption) ?_)) | first | omega | (simp only [World.size_alloc, World.size_setCell, World.size_drew, size_drewN]; omega) | (simp; done) | (simp; omega) | (simp only [World.size_alloc, World.size_setCell, World.size_drew, size_drewN] at *; omega) | (simp at *; omega))⟩
  have hsum : 8 < s.1 + t.1 ∨ 8 < s.2 + t.2 := by
    simp only [cplB, hv1, hv2, Bool.true_and, Bool.and_eq_false_iff, decide_eq_false_iff_not] at hc
    omega
  obtain ⟨a1, a2, a3, a4⟩ := tvB_true hv1
  obtain ⟨b1, b2, b3, b4⟩ := tvB_true hv2
  have HV1 := Lib.hid hv1
  have HV2 := Lib.hid hv2
  clear hc hv1 hv2
  obtain ⟨U, hU⟩ : ∃ U, U = s.1 + t.1 := ⟨_, rfl⟩
  obtain ⟨L, hL⟩ : ∃ L, L = s.2 + t.2 := ⟨_, rfl⟩
  have hsU : s.1 + t.1 = U := hU.symm
  have hsL : s.2 + t.2 = L := hL.symm
  have hU0 : 0 ≤ U := by omega
  have hU1 : U ≤ 16 := by omega
  have hL0 : 0 ≤ L := by omega
  have hL1 : L ≤ 16 := by omega
  rw [hsU, hsL] at hsum
  clear hU hL
  by_cases h8 : 8 < U
  · have hdU : decide (8 < U) = true := by simp; omega
    clear hsum
    go_enter Tryd.func54, Tryd.ntmps54
    go_wp2_with fail
    refine (sTermValid_any _ _ _).mono ?_
    rintro e w5 ⟨rfl, hb5⟩
    have HW5 := Lib.hid (HEmp.out.step hb5)
    rw [HV1.out]
    obtain ⟨hc5, hf5⟩ := bcell hb5; have hz5 := hb5.size; (try simp only [World.size_alloc, World.size_setCell, World.size_drew, size_drewN] at hz5 hc5 hf5); (have g5a : w.heap.size < w5.heap.size := by omega); (have g5b : w.heap.size + 1 < w5.heap.size := by omega); (have g5c : w.heap.size + 1 + 1 < w5.heap.size := by omega)
    go_wp2_with fail
    refine (sTermValid_any _ _ _).mono ?_
    rintro e w6 ⟨rfl, hb6⟩
    have HW6 := Lib.hid (HW5.out.step hb6)
    rw [HV2.out]
    obtain ⟨hc6, hf6⟩ := bcell hb6; have hz6 := hb6.size; (try simp only [World.size_alloc, World.size_setCell, World.size_drew, size_drewN] at hz6 hc6 hf6)
    have g6a : w.heap.size < w6.heap.size := by omega
    have g6b : w.heap.size + 1 < w6.heap.size := by omega
    (have x0 : w6.cell? ⟨w.heap.size, 0, none⟩ = some (.int .i64 s.1) := by (simp (disch := first | omega | (simp; done) | (simp; omega)) [go_sem, *]; done)); (have x1 : w6.cell? ⟨w.heap.size, 1, none⟩ = some (.int .i64 s.2) := by (simp (disch := first | omega | (simp; done) | (simp; omega)) [go_sem, *]; done))
    (have y0 : w6.cell? ⟨w.heap.size + 1, 0, none⟩ = some (.int .i64 t.1) := by (simp (disch := first | omega | (simp; done) | (simp; omega)) [go_sem, *]; done)); (have y1 : w6.cell? ⟨w.heap.size + 1, 1, none⟩ = some (.int .i64 t.2) := by (simp (disch := first | omega | (simp; done) | (simp; omega)) [go_sem, *]; done))
    have hB6 : Below w.heap.size w w6 := by (repeat' first | (with_reducible exact Below.refl _ _) | (with_reducible assumption) | (with_reducible refine below_drewN ?_ _) | (with_reducible refine Below.drew ?_) | (with_reducible refine Below.alloc ?_ ?_ _) | (with_reducible refine Below.setCell ?_ ?_ _) | (with_reducible refine Below.trans ?_ (Below.mono (by assumption) ?_)) | first | omega | (simp only [World.size_alloc, World.size_setCell, World.size_drew, size_drewN]; omega) | (simp; done) | (simp; omega) | (simp only [World.size_alloc, World.size_setCell, World.size_drew, size_drewN] at *; omega) | (simp at *; omega))
    clear hc5 hf5 hc6 hf6 hb5 hb6
    go_wp2
    refine bodyPost_ret (v := .tuple #[.slice (some ⟨w.heap.size + 1 + 1, 0, none⟩) 0 0, .bool false]) (by simp (disch := first | omega | (simp; done) | (simp; omega)) [results, Tryd.results54, go_sem, cell_set, *]) rfl ?_
    exact ⟨_, rfl, HW6.out, hB6⟩
  · have hdU : decide (8 < U) = false := by simp; omega
    have hdL : decide (8 < L) = true := by simp; omega
    clear hsum
    go_enter Tryd.func54, Tryd.ntmps54
    go_wp2_with fail
    refine (sTermValid_any _ _ _).mono ?_
    rintro e w5 ⟨rfl, hb5⟩
    have HW5 := Lib.hid (HEmp.out.step hb5)
    rw [HV1.out]
    obtain ⟨hc5, hf5⟩ := bcell hb5; have hz5 := hb5.size; (try simp only [World.size_alloc, World.size_setCell, World.size_drew, size_drewN] at hz5 hc5 hf5); (have g5a : w.heap.size < w5.heap.size := by omega); (have g5b : w.heap.size + 1 < w5.heap.size := by omega); (have g5c : w.heap.size + 1 + 1 < w5.heap.size := by omega)
    go_wp2_with fail
    refine (sTermValid_any _ _ _).mono ?_
    rintro e w6 ⟨rfl, hb6⟩
    have HW6 := Lib.hid (HW5.out.step hb6)
    rw [HV2.out]
    obtain ⟨hc6, hf6⟩ := bcell hb6; have hz6 := hb6.size; (try simp only [World.size_alloc, World.size_setCell, World.size_drew, size_drewN] at hz6 hc6 hf6)
    have g6a : w.heap.size < w6.heap.size := by omega
    have g6b : w.heap.size + 1 < w6.heap.size := by omega
    (have x0 : w6.cell? ⟨w.heap.size, 0, none⟩ = some (.int .i64 s.1) := by (simp (disch := first | omega | (simp; done) | (simp; omega)) [go_sem, *]; done)); (have x1 : w6.cell? ⟨w.heap.size, 1, none⟩ = some (.int .i64 s.2) := by (simp (disch := first | omega | (simp; done) | (simp; omega)) [go_sem, *]; done))
    (have y0 : w6.cell? ⟨w.heap.size + 1, 0, none⟩ = some (.int .i64 t.1) := by (simp (disch := first | omega | (simp; done) | (simp; omega)) [go_sem, *]; done)); (have y1 : w6.cell? ⟨w.heap.size + 1, 1, none⟩ = some (.int .i64 t.2) := by (simp (disch := first | omega | (simp; done) | (simp; omega)) [go_sem, *]; done))
    have hB6 : Below w.heap.size w w6 := by (repeat' first | (with_reducible exact Below.refl _ _) | (with_reducible assumption) | (with_reducible refine below_drewN ?_ _) | (with_reducible refine Below.drew ?_) | (with_reducible refine Below.alloc ?_ ?_ _) | (with_reducible refine Below.setCell ?_ ?_ _) | (with_reducible refine Below.trans ?_ (Below.mono (by assumption) ?_)) | first | omega | (simp only [World.size_alloc, World.size_setCell, World.size_drew, size_drewN]; omega) | (simp; done) | (simp; omega) | (simp only [World.size_alloc, World.size_setCell, World.size_drew, size_drewN] at *; omega) | (simp at *; omega))
    clear hc5 hf5 hc6 hf6 hb5 hb6
    go_wp2
    refine bodyPost_ret (v := .tuple #[.slice (some ⟨w.heap.size + 1 + 1, 0, none⟩) 0 0, .bool false]) (by simp (disch := first | omega | (simp; done) | (simp; omega)) [results, Tryd.results54, go_sem, cell_set, *]) rfl ?_
    exact ⟨_, rfl, HW6.out, hB6⟩
theorem sCouple_all (s t : Tm) (w : World) :
    Calls Tryd.prog 54 #[.agg #[.int .i64 s.1, .int .i64 s.2], .agg #[.int .i64 t.1, .int .i64 t.2]] w fun e w' => ∃ v, e = .returned (.tuple #[v, .bool (cplB s t)]) ∧ RowR w' w.heap.size v (cplP s t) ∧ Below w.heap.size w w' := by
  cases hc : cplB s t
  · refine (sCouple_no s t w hc).mono ?_
    rintro e w' ⟨v, rfl, hr, hb⟩
    exact ⟨v, rfl, by simpa [cplP, hc] using hr, hb⟩
  · refine (sCouple_yes s t w hc).mono ?_
    rintro e w' ⟨v, rfl, hr, hb⟩
    exact ⟨v, rfl, rowR_own hr, hb⟩
end Go.Proofs.YtjopcpoodhamcaaDoor
