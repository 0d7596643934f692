/-
  The walks of impl's ordered at any list, TermsSort, TermsCouple, TermsJoin. Conditions: none.
-/
import Derived.Test.YtjopcpoodhamcaaIwl
import Derived.Test.YtjopcpoodhamcaaIcp
namespace Go.Proofs.Ytjopcpoodhamcaa
set_option linter.unusedSimpArgs false
set_option linter.unusedVariables false
open Go.RowKit

set_option maxRecDepth 20000 in
set_option maxHeartbeats 2000000 in
theorem ordered_any (xs : List Tm) (v : Value) (w : World) (hlen : xs.length ≤ 1000) (hr : RowI w v xs) (ho : ∀ x ∈ xs, okT x) :
    Calls Try.prog 17 #[v, cmpF] w fun e w' => ∃ v', e = .returned v' ∧ RowL w' w.heap.size v' (sortT xs) ∧ Below w.heap.size w w' := by
  obtain ⟨i0, ihi, iz0, iz1, iz2⟩ := info_parts infoT
  obtain ⟨wm, hmk, hown, hgm⟩ := run_make_own (P := Try.prog) (w := w) w.heap.size 24 34 i0 (.agg #[.int .i64 0, .int .i64 0]) 2 Try.underlying24 ihi iz0 iz1 .i64 .i64 xs.length (by rw [iz2]; omega) (by unfold maxLen; omega) (Nat.le_refl _)
  have hbm : Below w.heap.size w wm := ⟨hgm.os, hgm.tape, hgm.output, hgm.size, fun k hk => hgm.block k hk (by simp)⟩
  have hx2 : RowI wm v xs := hr.below hbm
  have hzm := hgm.size
  have HX := Lib.hid hx2
  have HO := Lib.hid ho
  have HW := Lib.hid (show wm.ownsRow w.heap.size 34 2 (.slice (some ⟨w.heap.size, 0, none⟩) 0 xs.length) ([] : List Tm).length (vS []) from hown)
  have HBm := Lib.hid hbm
  have hsne : (Value.slice (some ⟨w.heap.size, 0, none⟩) 0 xs.length).ownBlock = some w.heap.size := rfl
  obtain ⟨av, cv, rfl⟩ := hr.form
  clear hx2 hr ho hown hgm hbm
  go_enter Try.func17, Try.ntmps17
  go_wp2_with (first | (at_builtin; refine wpl_app rfl _ _ rfl w.heap.size _ _ [] xs rfl HW.out rfl HX.out ?c1 ?c2 ?_))
  case c1 => simp; omega
  case c2 => first | (simp; done) | (simp; omega) | omega
  intro v' w1 hown' hgrow _ hnil
  have hz1 := hgrow.size
  have hbel : Below w.heap.size w w1 := HBm.out.grown hgrow hzm (fun k e => by cases e; exact Nat.le_refl _)
  obtain ⟨g, c, rfl, hg1, hg2, hcell, hfree⟩ : ∃ g cap, v' = .slice (some ⟨g, 0, none⟩) xs.length cap ∧ w.heap.size ≤ g ∧ g < w1.heap.size ∧ (∀ j, j < xs.length * 2 → w1.cell? ⟨g, j, none⟩ = (vS xs)[j]?) ∧ (∀ j, w1.frozen? ⟨g, j, none⟩ = false) := by
    rcases hown'.2 with ⟨e1, e2⟩ | ⟨g, cap, cur, rfl, hb, hh, hr⟩
    · have := hnil e1
      simp at this
    · have h' : w1.ownsRow w.heap.size 34 2 (.slice (some ⟨g, 0, none⟩) xs.length cap) xs.length (vS xs) := hown'
      exact ⟨g, cap, rfl, hb, (Array.getElem?_eq_some_iff.1 hh).1, fun j hj => h'.cellAt j hj, fun j => h'.frozenAt j⟩
  have hrow : RowF w1 g xs.length (atL xs) := ⟨fun k hk => by
    have e : xs[k]? = some xs[k] := List.getElem?_eq_getElem hk
    obtain ⟨x0, x1⟩ := vS_get xs k _ e
    rw [atL_get e]
    exact ⟨(hcell (k * 2) (by omega)).trans x0, (hcell (k * 2 + 1) (by omega)).trans x1⟩, hfree⟩
  have HS := Lib.hid (sortStable_any g xs.length c (atL xs) w1 (by omega) hrow hg2 (okT_atL HO.out))
  have HB := Lib.hid hbel
  clear hown' hgrow hbel hcell hfree hrow
  go_wp2_with fail
  refine (HS.out).mono ?_
  rintro e w2 ⟨rfl, f', hr, hb, hst, hso⟩
  have hT : TmAt w2 g (sortT xs) := fun k p hp => by
    have hk : k < xs.length := by rw [← sortT_len]; exact (List.getElem?_eq_some_iff.1 hp).1
    have e := sortT_is (f := f') HO.out (fun k _ => hst.all (okT_atL HO.out) k) hso (fun q => by rw [hst.cnt q xs.length (Nat.le_refl _), cnt_at_list]) k hk
    rw [atL_get hp] at e
    have := hr.1 k hk
    rw [e] at this
    exact this
  have HT := Lib.hid (show TmAt w2 g (sortT xs) ∧ (∀ i, w2.frozen? ⟨g, i, none⟩ = false) ∧ Below w.heap.size w w2 from ⟨hT, hr.2, HB.out.trans ⟨hb.os, hb.tape, hb.output, hb.size, fun k hk => hb.block k (by have := HB.out.size; omega) (by omega)⟩⟩)
  have hz2 := hb.size
  clear hT hr hb hst hso
  go_wp2
  go_ret
  exact ⟨_, rfl, ⟨g, c, by rw [sortT_len]; rfl, hg1, by omega, HT.out.1, HT.out.2.1⟩, HT.out.2.2⟩
/-- A row as a result: nil, or a list in new memory. -/
def RowR (w : World) (base : Nat) (v : Value) (xs : List Tm) : Prop := (v = .slice none 0 0 ∧ xs = []) ∨ RowL w base v xs
theorem RowR.inp {w : World} {base : Nat} {v : Value} {xs : List Tm} (h : RowR w base v xs) : RowI w v xs := by
  rcases h with h | h
  · exact .inl h
  · exact h.inp
theorem RowL.step {w w' : World} {base : Nat} {v : Value} {xs : List Tm} (h : RowL w base v xs) (hb : Below w.heap.size w w') : RowL w' base v xs := h.below hb (Nat.le_refl _)
theorem RowR.step {w w' : World} {base : Nat} {v : Value} {xs : List Tm} (h : RowR w base v xs) (hb : Below w.heap.size w w') : RowR w' base v xs := by
  rcases h with h | h
  · exact .inl h
  · exact .inr (h.step hb)
theorem RowR.mono {w : World} {b b' : Nat} {v : Value} {xs : List Tm} (h : RowR w b v xs) (hb : b' ≤ b) : RowR w b' v xs := by
  rcases h with h | h
  · exact .inl h
  · exact .inr (RowL.mono h hb)
theorem rowI_own {w : World} {base : Nat} {v : Value} {xs : List Tm} (h : w.ownsRow base 34 2 v xs.length (vS xs)) : RowI w v xs := by
  rcases h.2 with ⟨e1, e2⟩ | ⟨g, cap, cur, rfl, hb, hh, hr⟩
  · exact .inl ⟨e1, List.eq_nil_of_length_eq_zero e2⟩
  · have h' : w.ownsRow base 34 2 (.slice (some ⟨g, 0, none⟩) xs.length cap) xs.length (vS xs) := h
    refine .inr ⟨g, 0, cap, rfl, (Array.getElem?_eq_some_iff.1 hh).1, fun k p hp => ?_⟩
    obtain ⟨x0, x1⟩ := vS_get xs k p hp
    have hk : k < xs.length := (List.getElem?_eq_some_iff.1 hp).1
    rw [Nat.zero_add]
    exact ⟨(h'.cellAt (k * 2) (by omega)).trans x0, (h'.cellAt (k * 2 + 1) (by omega)).trans x1⟩
theorem rowR_own {w : World} {base : Nat} {v : Value} {xs : List Tm} (h : w.ownsRow base 34 2 v xs.length (vS xs)) : RowR w base v xs := by
  rcases h.2 with ⟨e1, e2⟩ | ⟨g, cap, cur, rfl, hb, hh, hr⟩
  · exact .inl ⟨e1, List.eq_nil_of_length_eq_zero e2⟩
  · have h' : w.ownsRow base 34 2 (.slice (some ⟨g, 0, none⟩) xs.length cap) xs.length (vS xs) := h
    refine .inr ⟨g, cap, rfl, hb, (Array.getElem?_eq_some_iff.1 hh).1, fun k p hp => ?_, fun i => h'.frozenAt i⟩
    obtain ⟨x0, x1⟩ := vS_get xs k p hp
    have hk : k < xs.length := (List.getElem?_eq_some_iff.1 hp).1
    exact ⟨(h'.cellAt (k * 2) (by omega)).trans x0, (h'.cellAt (k * 2 + 1) (by omega)).trans x1⟩
def sortP (xs : List Tm) : List Tm := if lstB xs = true then sortT xs else []
set_option maxRecDepth 20000 in
set_option maxHeartbeats 800000 in
theorem iCouple_no (s t : Tm) (w : World) (hc : cplB s t = false) :
    Calls Try.prog 16 #[.agg #[.int .i64 s.1, .int .i64 s.2], .agg #[.int .i64 t.1, .int .i64 t.2]] w fun e w' => e = .returned (.tuple #[.slice none 0 0, .bool false]) ∧ Below w.heap.size w w' := by
  cases hv1 : tvB s.1 s.2
  · have HV := Lib.hid hv1
    clear hc hv1
    go_enter Try.func16, Try.ntmps16
    go_wp2_with fail
    refine (iTermValid_any _ _ _).mono ?_
    rintro e w5 ⟨rfl, hb5⟩
    rw [HV.out]
    obtain ⟨hc5, hf5⟩ := bcell hb5; have hz5 := hb5.size; (try simp only [World.size_alloc, World.size_setCell, World.size_drew, size_drewN] at hz5 hc5 hf5); (have g5a : w.heap.size < w5.heap.size := by omega); (have g5b : w.heap.size + 1 < w5.heap.size := by omega)
    go_wp2
    refine bodyPost_ret (v := .tuple #[.slice none 0 0, .bool false]) (by simp (disch := first | omega | (simp; done) | (simp; omega)) [results, Try.results16, go_sem, cell_set, *]) rfl ?_
    exact ⟨rfl, by (repeat' first | (with_reducible exact Below.refl _ _) | (with_reducible assumption) | (with_reducible refine below_drewN ?_ _) | (with_reducible refine Below.drew ?_) | (with_reducible refine Below.alloc ?_ ?_ _) | (with_reducible refine Below.setCell ?_ ?_ _) | (with_reducible refine Below.trans ?_ (Below.mono (by assumption) ?_)) | first | omega | (simp only [World.size_alloc, World.size_setCell, World.size_drew, size_drewN]; omega) | (simp; done) | (simp; omega) | (simp only [World.size_alloc, World.size_setCell, World.size_drew, size_drewN] at *; omega) | (simp at *; omega))⟩
  cases hv2 : tvB t.1 t.2
  · have HV1 := Lib.hid hv1
    have HV2 := Lib.hid hv2
    clear hc hv1 hv2
    go_enter Try.func16, Try.ntmps16
    go_wp2_with fail
    refine (iTermValid_any _ _ _).mono ?_
    rintro e w5 ⟨rfl, hb5⟩
    rw [HV1.out]
    obtain ⟨hc5, hf5⟩ := bcell hb5; have hz5 := hb5.size; (try simp only [World.size_alloc, World.size_setCell, World.size_drew, size_drewN] at hz5 hc5 hf5); (have g5a : w.heap.size < w5.heap.size := by omega); (have g5b : w.heap.size + 1 < w5.heap.size := by omega)
    go_wp2_with fail
    refine (iTermValid_any _ _ _).mono ?_
    rintro e w6 ⟨rfl, hb6⟩
    rw [HV2.out]
    obtain ⟨hc6, hf6⟩ := bcell hb6; have hz6 := hb6.size; (try simp only [World.size_alloc, World.size_setCell, World.size_drew, size_drewN] at hz6 hc6 hf6)
    go_wp2
    refine bodyPost_ret (v := .tuple #[.slice none 0 0, .bool false]) (by simp (disch := first | omega | (simp; done) | (simp; omega)) [results, Try.results16, go_sem, cell_set, *]) rfl ?_
    exact ⟨rfl, by (repeat' first | (with_reducible exact Below.refl _ _) | (with_reducible assumption) | (with_reducible refine below_drewN ?_ _) | (with_reducible refine Below.drew ?_) | (with_reducible refine Below.alloc ?_ ?_ _) | (with_reducible refine Below.setCell ?_ ?_ _) | (with_reducible refine Below.trans ?_ (Below.mono (by assumption) ?_)) | first | omega | (simp only [World.size_alloc, World.size_setCell, World.size_drew, size_drewN]; omega) | (simp; done) | (simp; omega) | (simp only [World.size_alloc, World.size_setCell, World.size_drew, size_drewN] at *; omega) | (simp at *; omega))⟩
  have hsum : 8 < s.1 + t.1 ∨ 8 < s.2 + t.2 := by
    simp only [cplB, hv1, hv2, Bool.true_and, Bool.and_eq_false_iff, decide_eq_false_iff_not] at hc
    omega
  obtain ⟨a1, a2, a3, a4⟩ := tvB_true hv1
  obtain ⟨b1, b2, b3, b4⟩ := tvB_true hv2
  have HV1 := Lib.hid hv1
  have HV2 := Lib.hid hv2
  clear hc hv1 hv2
  obtain ⟨U, hU⟩ : ∃ U, U = s.1 + t.1 := ⟨_, rfl⟩
  obtain ⟨L, hL⟩ : ∃ L, L = s.2 + t.2 := ⟨_, rfl⟩
  have hsU : s.1 + t.1 = U := hU.symm
  have hsL : s.2 + t.2 = L := hL.symm
  have hU0 : 0 ≤ U := by omega
  have hU1 : U ≤ 16 := by omega
  have hL0 : 0 ≤ L := by omega
  have hL1 : L ≤ 16 := by omega
  rw [hsU, hsL] at hsum
  clear hU hL
  by_cases h8 : 8 < U
  · have hdU : decide (8 < U) = true := by simp; omega
    clear hsum
    go_enter Try.func16, Try.ntmps16
    go_wp2_with fail
    refine (iTermValid_any _ _ _).mono ?_
    rintro e w5 ⟨rfl, hb5⟩
    rw [HV1.out]
    obtain ⟨hc5, hf5⟩ := bcell hb5; have hz5 := hb5.size; (try simp only [World.size_alloc, World.size_setCell, World.size_drew, size_drewN] at hz5 hc5 hf5); (have g5a : w.heap.size < w5.heap.size := by omega); (have g5b : w.heap.size + 1 < w5.heap.size := by omega)
    go_wp2_with fail
    refine (iTermValid_any _ _ _).mono ?_
    rintro e w6 ⟨rfl, hb6⟩
    rw [HV2.out]
    obtain ⟨hc6, hf6⟩ := bcell hb6; have hz6 := hb6.size; (try simp only [World.size_alloc, World.size_setCell, World.size_drew, size_drewN] at hz6 hc6 hf6)
    have g6a : w.heap.size < w6.heap.size := by omega
    have g6b : w.heap.size + 1 < w6.heap.size := by omega
    (have x0 : w6.cell? ⟨w.heap.size, 0, none⟩ = some (.int .i64 s.1) := by (simp (disch := first | omega | (simp; done) | (simp; omega)) [go_sem, *]; done)); (have x1 : w6.cell? ⟨w.heap.size, 1, none⟩ = some (.int .i64 s.2) := by (simp (disch := first | omega | (simp; done) | (simp; omega)) [go_sem, *]; done))
    (have y0 : w6.cell? ⟨w.heap.size + 1, 0, none⟩ = some (.int .i64 t.1) := by (simp (disch := first | omega | (simp; done) | (simp; omega)) [go_sem, *]; done)); (have y1 : w6.cell? ⟨w.heap.size + 1, 1, none⟩ = some (.int .i64 t.2) := by (simp (disch := first | omega | (simp; done) | (simp; omega)) [go_sem, *]; done))
    have hB6 : Below w.heap.size w w6 := by (repeat' first | (with_reducible exact Below.refl _ _) | (with_reducible assumption) | (with_reducible refine below_drewN ?_ _) | (with_reducible refine Below.drew ?_) | (with_reducible refine Below.alloc ?_ ?_ _) | (with_reducible refine Below.setCell ?_ ?_ _) | (with_reducible refine Below.trans ?_ (Below.mono (by assumption) ?_)) | first | omega | (simp only [World.size_alloc, World.size_setCell, World.size_drew, size_drewN]; omega) | (simp; done) | (simp; omega) | (simp only [World.size_alloc, World.size_setCell, World.size_drew, size_drewN] at *; omega) | (simp at *; omega))
    clear hc5 hf5 hc6 hf6 hb5 hb6
    go_wp2
    refine bodyPost_ret (v := .tuple #[.slice none 0 0, .bool false]) (by simp (disch := first | omega | (simp; done) | (simp; omega)) [results, Try.results16, go_sem, cell_set, *]) rfl ?_
    exact ⟨rfl, hB6⟩
  · have hdU : decide (8 < U) = false := by simp; omega
    have hdL : decide (8 < L) = true := by simp; omega
    clear hsum
    go_enter Try.func16, Try.ntmps16
    go_wp2_with fail
    refine (iTermValid_any _ _ _).mono ?_
    rintro e w5 ⟨rfl, hb5⟩
    rw [HV1.out]
    obtain ⟨hc5, hf5⟩ := bcell hb5; have hz5 := hb5.size; (try simp only [World.size_alloc, World.size_setCell, World.size_drew, size_drewN] at hz5 hc5 hf5); (have g5a : w.heap.size < w5.heap.size := by omega); (have g5b : w.heap.size + 1 < w5.heap.size := by omega)
    go_wp2_with fail
    refine (iTermValid_any _ _ _).mono ?_
    rintro e w6 ⟨rfl, hb6⟩
    rw [HV2.out]
    obtain ⟨hc6, hf6⟩ := bcell hb6; have hz6 := hb6.size; (try simp only [World.size_alloc, World.size_setCell, World.size_drew, size_drewN] at hz6 hc6 hf6)
    have g6a : w.heap.size < w6.heap.size := by omega
    have g6b : w.heap.size + 1 < w6.heap.size := by omega
    (have x0 : w6.cell? ⟨w.heap.size, 0, none⟩ = some (.int .i64 s.1) := by (simp (disch := first | omega | (simp; done) | (simp; omega)) [go_sem, *]; done)); (have x1 : w6.cell? ⟨w.heap.size, 1, none⟩ = some (.int .i64 s.2) := by (simp (disch := first | omega | (simp; done) | (simp; omega)) [go_sem, *]; done))
    (have y0 : w6.cell? ⟨w.heap.size + 1, 0, none⟩ = some (.int .i64 t.1) := by (simp (disch := first | omega | (simp; done) | (simp; omega)) [go_sem, *]; done)); (have y1 : w6.cell? ⟨w.heap.size + 1, 1, none⟩ = some (.int .i64 t.2) := by (simp (disch := first | omega | (simp; done) | (simp; omega)) [go_sem, *]; done))
    have hB6 : Below w.heap.size w w6 := by (repeat' first | (with_reducible exact Below.refl _ _) | (with_reducible assumption) | (with_reducible refine below_drewN ?_ _) | (with_reducible refine Below.drew ?_) | (with_reducible refine Below.alloc ?_ ?_ _) | (with_reducible refine Below.setCell ?_ ?_ _) | (with_reducible refine Below.trans ?_ (Below.mono (by assumption) ?_)) | first | omega | (simp only [World.size_alloc, World.size_setCell, World.size_drew, size_drewN]; omega) | (simp; done) | (simp; omega) | (simp only [World.size_alloc, World.size_setCell, World.size_drew, size_drewN] at *; omega) | (simp at *; omega))
    clear hc5 hf5 hc6 hf6 hb5 hb6
    go_wp2
    refine bodyPost_ret (v := .tuple #[.slice none 0 0, .bool false]) (by simp (disch := first | omega | (simp; done) | (simp; omega)) [results, Try.results16, go_sem, cell_set, *]) rfl ?_
    exact ⟨rfl, hB6⟩
theorem iCouple_all (s t : Tm) (w : World) :
    Calls Try.prog 16 #[.agg #[.int .i64 s.1, .int .i64 s.2], .agg #[.int .i64 t.1, .int .i64 t.2]] w fun e w' => ∃ v, e = .returned (.tuple #[v, .bool (cplB s t)]) ∧ RowR w' w.heap.size v (cplP s t) ∧ Below w.heap.size w w' := by
  cases hc : cplB s t
  · refine (iCouple_no s t w hc).mono ?_
    rintro e w' ⟨rfl, hb⟩
    exact ⟨_, rfl, .inl ⟨rfl, by simp [cplP, hc]⟩, hb⟩
  · refine (iCouple_yes s t w hc).mono ?_
    rintro e w' ⟨v, rfl, hr, hb⟩
    exact ⟨v, rfl, .inr hr, hb⟩
end Go.Proofs.Ytjopcpoodhamcaa
