/-
  The walk of the law FnExactTermsCouple. Conditions: none.
-/
import Derived.Test.YtmcjabfnlpohaaaHrb
import Derived.Test.YtmcjabfnlpohaaaSjo
namespace Go.Proofs.Ytmcjabfnlpohaaa
set_option linter.unusedSimpArgs false
set_option linter.unusedVariables false
open Go.RowKit


set_option maxRecDepth 20000 in
set_option maxHeartbeats 4000000 in
theorem walk_FnExactTermsCouple (s1 s2 t1 t2 : Int) (w : World) :
    Calls Try.prog 5 #[.agg #[.int .i64 s1, .int .i64 s2], .agg #[.int .i64 t1, .int .i64 t2]] w fun e w' => e = .returned (.bool true) ∧ Below w.heap.size w w' := by
  have hpl := cplP_len_le (s1, s2) (t1, t2)
  have KS := Lib.hid (fun W => sCouple_all (s1, s2) (t1, t2) W)
  have KI := Lib.hid (fun W => iCouple_all (s1, s2) (t1, t2) W)
  have HB0 : Hid (Below w.heap.size w w) := Lib.hid (Below.refl _ _)
  obtain ⟨b, hb⟩ : ∃ b, b = cplB (s1, s2) (t1, t2) := ⟨_, rfl⟩
  rw [← hb] at KS KI
  obtain ⟨T, hT⟩ : ∃ T, T = cplP (s1, s2) (t1, t2) := ⟨_, rfl⟩
  rw [← hT] at KS KI hpl
  clear hb hT
  go_enter Try.func5, Try.ntmps5
  go_wp2
  have hsz1 : w.heap.size ≤ w.heap.size := Nat.le_refl _
  go_region_held3 (fun w' => w'.cell? ⟨w.heap.size, 0, none⟩ = some (.int .i64 s1) ∧ w'.cell? ⟨w.heap.size, 1, none⟩ = some (.int .i64 s2) ∧ w'.cell? ⟨w.heap.size + 1, 0, none⟩ = some (.int .i64 t1) ∧ w'.cell? ⟨w.heap.size + 1, 1, none⟩ = some (.int .i64 t2) ∧ w.heap.size ≤ w'.heap.size ∧ w.heap.size + 1 < w'.heap.size ∧ Below w.heap.size w w')
    (first | (simp (disch := first | omega | (simp; done) | (simp; omega)) [go_sem, *]; done) | ((repeat' first | (with_reducible exact Below.refl _ _) | (with_reducible assumption) | (with_reducible refine below_drewN ?_ _) | (with_reducible refine Below.drew ?_) | (with_reducible refine Below.alloc ?_ ?_ _) | (with_reducible refine Below.setCell ?_ ?_ _) | (with_reducible refine Below.trans ?_ (Below.mono (by assumption) ?_)) | first | omega | (simp only [World.size_alloc, World.size_setCell, World.size_drew, size_drewN]; omega) | (simp; done) | (simp; omega) | (simp only [World.size_alloc, World.size_setCell, World.size_drew, size_drewN] at *; omega) | (simp at *; omega)); done) | ((try go_split_ands); (refine ⟨?_, ?_, ?_, ?_, ?_, ?_, ?_⟩ <;> first | omega | (simp only [World.size_alloc, World.size_setCell, World.size_drew, size_drewN]; omega) | (simp (disch := first | omega | (simp; done) | (simp; omega)) [go_sem, *]; done) | ((repeat' first | (with_reducible exact Below.refl _ _) | (with_reducible assumption) | (with_reducible refine below_drewN ?_ _) | (with_reducible refine Below.drew ?_) | (with_reducible refine Below.alloc ?_ ?_ _) | (with_reducible refine Below.setCell ?_ ?_ _) | (with_reducible refine Below.trans ?_ (Below.mono (by assumption) ?_)) | first | omega | (simp only [World.size_alloc, World.size_setCell, World.size_drew, size_drewN]; omega) | (simp; done) | (simp; omega) | (simp only [World.size_alloc, World.size_setCell, World.size_drew, size_drewN] at *; omega) | (simp at *; omega)); done))))
    (first
      | (go_at_call 19; refine (toTm_any _ _ _).mono ?_; rintro e w50 ⟨rfl, hb50⟩; obtain ⟨hc50, hf50⟩ := bcell hb50; have hz50 := hb50.size; (try simp only [World.size_alloc, World.size_setCell, World.size_drew, size_drewN] at hz50 hc50 hf50))
      | (go_at_call 17; refine (KS.out _).mono ?_; rintro e w1 ⟨v1, rfl, hr1, hb1⟩; obtain ⟨hc1, hf1⟩ := bcell hb1; have hz1 := hb1.size; (try simp only [World.size_alloc, World.size_setCell, World.size_drew, size_drewN] at hz1 hc1 hf1)))
  have hk1 : Below w.heap.size w w1 := by (repeat' first | (with_reducible exact Below.refl _ _) | (with_reducible assumption) | (with_reducible refine below_drewN ?_ _) | (with_reducible refine Below.drew ?_) | (with_reducible refine Below.alloc ?_ ?_ _) | (with_reducible refine Below.setCell ?_ ?_ _) | (with_reducible refine Below.trans ?_ (Below.mono (by assumption) ?_)) | first | omega | (simp only [World.size_alloc, World.size_setCell, World.size_drew, size_drewN]; omega) | (simp; done) | (simp; omega) | (simp only [World.size_alloc, World.size_setCell, World.size_drew, size_drewN] at *; omega) | (simp at *; omega))
  have hbase1 : RowR w1 w.heap.size v1 T := hr1.mono (by omega)
  have x0_1 : w1.cell? ⟨w.heap.size, 0, none⟩ = some (.int .i64 s1) := by (simp (disch := first | omega | (simp; done) | (simp; omega)) [go_sem, *]; done)
  have x1_1 : w1.cell? ⟨w.heap.size, 1, none⟩ = some (.int .i64 s2) := by (simp (disch := first | omega | (simp; done) | (simp; omega)) [go_sem, *]; done)
  have y0_1 : w1.cell? ⟨w.heap.size + 1, 0, none⟩ = some (.int .i64 t1) := by (simp (disch := first | omega | (simp; done) | (simp; omega)) [go_sem, *]; done)
  have y1_1 : w1.cell? ⟨w.heap.size + 1, 1, none⟩ = some (.int .i64 t2) := by (simp (disch := first | omega | (simp; done) | (simp; omega)) [go_sem, *]; done)
  have hpos1 : w.heap.size + 1 < w1.heap.size := by omega
  have hpos0 : w.heap.size < w1.heap.size := by omega
  have hz1 := hk1.size
  have HB1 : Hid (Below w.heap.size w w1) := Lib.hid (HB0.out.trans (hk1.mono HB0.out.size))
  have HR1_1 : Hid (RowB w1 w.heap.size w1.heap.size v1 T) := Lib.hid (RowR.bnd hbase1)
  clear hb1 hk1
  clear hbase1 hr1 hc1 hf1
  go_wp2
  have hsz2 : w1.heap.size ≤ w1.heap.size := Nat.le_refl _
  go_region_held3 (fun w' => w'.cell? ⟨w.heap.size, 0, none⟩ = some (.int .i64 s1) ∧ w'.cell? ⟨w.heap.size, 1, none⟩ = some (.int .i64 s2) ∧ w'.cell? ⟨w.heap.size + 1, 0, none⟩ = some (.int .i64 t1) ∧ w'.cell? ⟨w.heap.size + 1, 1, none⟩ = some (.int .i64 t2) ∧ w1.heap.size ≤ w'.heap.size ∧ w.heap.size + 1 < w'.heap.size ∧ Below w1.heap.size w1 w')
    (first | (simp (disch := first | omega | (simp; done) | (simp; omega)) [go_sem, *]; done) | ((repeat' first | (with_reducible exact Below.refl _ _) | (with_reducible assumption) | (with_reducible refine below_drewN ?_ _) | (with_reducible refine Below.drew ?_) | (with_reducible refine Below.alloc ?_ ?_ _) | (with_reducible refine Below.setCell ?_ ?_ _) | (with_reducible refine Below.trans ?_ (Below.mono (by assumption) ?_)) | first | omega | (simp only [World.size_alloc, World.size_setCell, World.size_drew, size_drewN]; omega) | (simp; done) | (simp; omega) | (simp only [World.size_alloc, World.size_setCell, World.size_drew, size_drewN] at *; omega) | (simp at *; omega)); done) | ((try go_split_ands); (refine ⟨?_, ?_, ?_, ?_, ?_, ?_, ?_⟩ <;> first | omega | (simp only [World.size_alloc, World.size_setCell, World.size_drew, size_drewN]; omega) | (simp (disch := first | omega | (simp; done) | (simp; omega)) [go_sem, *]; done) | ((repeat' first | (with_reducible exact Below.refl _ _) | (with_reducible assumption) | (with_reducible refine below_drewN ?_ _) | (with_reducible refine Below.drew ?_) | (with_reducible refine Below.alloc ?_ ?_ _) | (with_reducible refine Below.setCell ?_ ?_ _) | (with_reducible refine Below.trans ?_ (Below.mono (by assumption) ?_)) | first | omega | (simp only [World.size_alloc, World.size_setCell, World.size_drew, size_drewN]; omega) | (simp; done) | (simp; omega) | (simp only [World.size_alloc, World.size_setCell, World.size_drew, size_drewN] at *; omega) | (simp at *; omega)); done))))
    (first
      | (go_at_call 19; refine (toTm_any _ _ _).mono ?_; rintro e w50 ⟨rfl, hb50⟩; obtain ⟨hc50, hf50⟩ := bcell hb50; have hz50 := hb50.size; (try simp only [World.size_alloc, World.size_setCell, World.size_drew, size_drewN] at hz50 hc50 hf50))
      | (go_at_call 16; refine (KI.out _).mono ?_; rintro e w2 ⟨v2, rfl, hr2, hb2⟩; obtain ⟨hc2, hf2⟩ := bcell hb2; have hz2 := hb2.size; (try simp only [World.size_alloc, World.size_setCell, World.size_drew, size_drewN] at hz2 hc2 hf2)))
  have hk2 : Below w1.heap.size w1 w2 := by (repeat' first | (with_reducible exact Below.refl _ _) | (with_reducible assumption) | (with_reducible refine below_drewN ?_ _) | (with_reducible refine Below.drew ?_) | (with_reducible refine Below.alloc ?_ ?_ _) | (with_reducible refine Below.setCell ?_ ?_ _) | (with_reducible refine Below.trans ?_ (Below.mono (by assumption) ?_)) | first | omega | (simp only [World.size_alloc, World.size_setCell, World.size_drew, size_drewN]; omega) | (simp; done) | (simp; omega) | (simp only [World.size_alloc, World.size_setCell, World.size_drew, size_drewN] at *; omega) | (simp at *; omega))
  have hbase2 : RowR w2 w1.heap.size v2 T := hr2.mono (by omega)
  have hz2 := hk2.size
  have HB2 : Hid (Below w.heap.size w w2) := Lib.hid (HB1.out.trans (hk2.mono HB1.out.size))
  have HR1_2 : Hid (RowB w2 w.heap.size w1.heap.size v1 T) := Lib.hid (HR1_1.out.below hk2)
  have x0_2 := (hk2.cell (p := ⟨w.heap.size, 0, none⟩) (by show w.heap.size < _; omega)).trans x0_1
  have x1_2 := (hk2.cell (p := ⟨w.heap.size, 1, none⟩) (by show w.heap.size < _; omega)).trans x1_1
  have y0_2 := (hk2.cell (p := ⟨w.heap.size + 1, 0, none⟩) (by show w.heap.size + 1 < _; omega)).trans y0_1
  have y1_2 := (hk2.cell (p := ⟨w.heap.size + 1, 1, none⟩) (by show w.heap.size + 1 < _; omega)).trans y1_1
  have HR2_2 : Hid (RowB w2 w1.heap.size w2.heap.size v2 T) := Lib.hid (RowR.bnd hbase2)
  clear hb2 hk2 HR1_1 x0_1 x1_1 y0_1 y1_1
  clear hbase2 hr2 hc2 hf2
  go_wp2_with fail
  refine (eqS_any v2 v1 _ _ (by omega) HR2_2.out.inp HR1_2.out.inp).mono ?_
  rintro e w3 ⟨rfl, hb3⟩
  have hk3 : Below w2.heap.size w2 w3 := by (repeat' first | (with_reducible exact Below.refl _ _) | (with_reducible assumption) | (with_reducible refine below_drewN ?_ _) | (with_reducible refine Below.drew ?_) | (with_reducible refine Below.alloc ?_ ?_ _) | (with_reducible refine Below.setCell ?_ ?_ _) | (with_reducible refine Below.trans ?_ (Below.mono (by assumption) ?_)) | first | omega | (simp only [World.size_alloc, World.size_setCell, World.size_drew, size_drewN]; omega) | (simp; done) | (simp; omega) | (simp only [World.size_alloc, World.size_setCell, World.size_drew, size_drewN] at *; omega) | (simp at *; omega))
  have hz3 := hk3.size
  have HB3 : Hid (Below w.heap.size w w3) := Lib.hid (HB2.out.trans (hk3.mono HB2.out.size))
  have HR1_3 : Hid (RowB w3 w.heap.size w1.heap.size v1 T) := Lib.hid (HR1_2.out.below hk3)
  have HR2_3 : Hid (RowB w3 w1.heap.size w2.heap.size v2 T) := Lib.hid (HR2_2.out.below hk3)
  have x0_3 := (hk3.cell (p := ⟨w.heap.size, 0, none⟩) (by show w.heap.size < _; omega)).trans x0_2
  have x1_3 := (hk3.cell (p := ⟨w.heap.size, 1, none⟩) (by show w.heap.size < _; omega)).trans x1_2
  have y0_3 := (hk3.cell (p := ⟨w.heap.size + 1, 0, none⟩) (by show w.heap.size + 1 < _; omega)).trans y0_2
  have y1_3 := (hk3.cell (p := ⟨w.heap.size + 1, 1, none⟩) (by show w.heap.size + 1 < _; omega)).trans y1_2
  clear hb3 hk3 HR1_2 HR2_2 x0_2 x1_2 y0_2 y1_2
  go_wp2_with fail
  refine (mark_any v2 w1.heap.size T _ (by omega) HR2_3.out.row).mono ?_
  rintro e w4 ⟨rfl, hh4, hz4, hbl4, g4, hg4, ho4⟩
  have HB4 : Hid (Below w.heap.size w w4) := Lib.hid (HB3.out.trans (hbl4 _ (by omega) HB3.out.size))
  have HR1_4 : Hid (RowB w4 w.heap.size w1.heap.size v1 T) := Lib.hid (HR1_3.out.mark HR2_3.out (by omega) hg4 ho4)
  have x0_4 := ((hbl4 (w.heap.size + 1) (by omega) (by omega)).cell (p := ⟨w.heap.size, 0, none⟩) (by show w.heap.size < _; omega)).trans x0_3
  have x1_4 := ((hbl4 (w.heap.size + 1) (by omega) (by omega)).cell (p := ⟨w.heap.size, 1, none⟩) (by show w.heap.size < _; omega)).trans x1_3
  have y0_4 := ((hbl4 (w.heap.size + 1 + 1) (by omega) (by omega)).cell (p := ⟨w.heap.size + 1, 0, none⟩) (by show w.heap.size + 1 < _; omega)).trans y0_3
  have y1_4 := ((hbl4 (w.heap.size + 1 + 1) (by omega) (by omega)).cell (p := ⟨w.heap.size + 1, 1, none⟩) (by show w.heap.size + 1 < _; omega)).trans y1_3
  have HH2_4 : Hid (Heldr w4 w1.heap.size v2 T.length) := Lib.hid hh4
  clear hh4 hbl4 hg4 ho4 HR1_3 HR2_3 x0_3 x1_3 y0_3 y1_3
  have dq : decide (1 + 2 * (T.length : Int) < 0) = false := by simp; omega
  have dq2 : ¬ 1 + 2 * (T.length : Int) < 0 := by omega
  go_wp2_with fail
  refine (held_any v2 _ _ _ (by omega) HH2_4.out).mono ?_
  rintro e w5 ⟨rfl, hb5⟩
  have hk5 : Below w4.heap.size w4 w5 := by (repeat' first | (with_reducible exact Below.refl _ _) | (with_reducible assumption) | (with_reducible refine below_drewN ?_ _) | (with_reducible refine Below.drew ?_) | (with_reducible refine Below.alloc ?_ ?_ _) | (with_reducible refine Below.setCell ?_ ?_ _) | (with_reducible refine Below.trans ?_ (Below.mono (by assumption) ?_)) | first | omega | (simp only [World.size_alloc, World.size_setCell, World.size_drew, size_drewN]; omega) | (simp; done) | (simp; omega) | (simp only [World.size_alloc, World.size_setCell, World.size_drew, size_drewN] at *; omega) | (simp at *; omega))
  have hz5 := hk5.size
  have HB5 : Hid (Below w.heap.size w w5) := Lib.hid (HB4.out.trans (hk5.mono HB4.out.size))
  have HR1_5 : Hid (RowB w5 w.heap.size w1.heap.size v1 T) := Lib.hid (HR1_4.out.below hk5)
  have HH2_5 : Hid (Heldr w5 w1.heap.size v2 T.length) := Lib.hid (HH2_4.out.below hk5)
  have x0_5 := (hk5.cell (p := ⟨w.heap.size, 0, none⟩) (by show w.heap.size < _; omega)).trans x0_4
  have x1_5 := (hk5.cell (p := ⟨w.heap.size, 1, none⟩) (by show w.heap.size < _; omega)).trans x1_4
  have y0_5 := (hk5.cell (p := ⟨w.heap.size + 1, 0, none⟩) (by show w.heap.size + 1 < _; omega)).trans y0_4
  have y1_5 := (hk5.cell (p := ⟨w.heap.size + 1, 1, none⟩) (by show w.heap.size + 1 < _; omega)).trans y1_4
  clear hb5 hk5 HR1_4 HH2_4 x0_4 x1_4 y0_4 y1_4
  go_wp2
  have hsz6 : w5.heap.size ≤ w5.heap.size := Nat.le_refl _
  go_region_held3 (fun w' => w'.cell? ⟨w.heap.size, 0, none⟩ = some (.int .i64 s1) ∧ w'.cell? ⟨w.heap.size, 1, none⟩ = some (.int .i64 s2) ∧ w'.cell? ⟨w.heap.size + 1, 0, none⟩ = some (.int .i64 t1) ∧ w'.cell? ⟨w.heap.size + 1, 1, none⟩ = some (.int .i64 t2) ∧ w5.heap.size ≤ w'.heap.size ∧ w.heap.size + 1 < w'.heap.size ∧ Below w5.heap.size w5 w')
    (first | (simp (disch := first | omega | (simp; done) | (simp; omega)) [go_sem, *]; done) | ((repeat' first | (with_reducible exact Below.refl _ _) | (with_reducible assumption) | (with_reducible refine below_drewN ?_ _) | (with_reducible refine Below.drew ?_) | (with_reducible refine Below.alloc ?_ ?_ _) | (with_reducible refine Below.setCell ?_ ?_ _) | (with_reducible refine Below.trans ?_ (Below.mono (by assumption) ?_)) | first | omega | (simp only [World.size_alloc, World.size_setCell, World.size_drew, size_drewN]; omega) | (simp; done) | (simp; omega) | (simp only [World.size_alloc, World.size_setCell, World.size_drew, size_drewN] at *; omega) | (simp at *; omega)); done) | ((try go_split_ands); (refine ⟨?_, ?_, ?_, ?_, ?_, ?_, ?_⟩ <;> first | omega | (simp only [World.size_alloc, World.size_setCell, World.size_drew, size_drewN]; omega) | (simp (disch := first | omega | (simp; done) | (simp; omega)) [go_sem, *]; done) | ((repeat' first | (with_reducible exact Below.refl _ _) | (with_reducible assumption) | (with_reducible refine below_drewN ?_ _) | (with_reducible refine Below.drew ?_) | (with_reducible refine Below.alloc ?_ ?_ _) | (with_reducible refine Below.setCell ?_ ?_ _) | (with_reducible refine Below.trans ?_ (Below.mono (by assumption) ?_)) | first | omega | (simp only [World.size_alloc, World.size_setCell, World.size_drew, size_drewN]; omega) | (simp; done) | (simp; omega) | (simp only [World.size_alloc, World.size_setCell, World.size_drew, size_drewN] at *; omega) | (simp at *; omega)); done))))
    (first
      | (go_at_call 19; refine (toTm_any _ _ _).mono ?_; rintro e w50 ⟨rfl, hb50⟩; obtain ⟨hc50, hf50⟩ := bcell hb50; have hz50 := hb50.size; (try simp only [World.size_alloc, World.size_setCell, World.size_drew, size_drewN] at hz50 hc50 hf50))
      | (go_at_call 16; refine (KI.out _).mono ?_; rintro e w6 ⟨v6, rfl, hr6, hb6⟩; obtain ⟨hc6, hf6⟩ := bcell hb6; have hz6 := hb6.size; (try simp only [World.size_alloc, World.size_setCell, World.size_drew, size_drewN] at hz6 hc6 hf6)))
  have hk6 : Below w5.heap.size w5 w6 := by (repeat' first | (with_reducible exact Below.refl _ _) | (with_reducible assumption) | (with_reducible refine below_drewN ?_ _) | (with_reducible refine Below.drew ?_) | (with_reducible refine Below.alloc ?_ ?_ _) | (with_reducible refine Below.setCell ?_ ?_ _) | (with_reducible refine Below.trans ?_ (Below.mono (by assumption) ?_)) | first | omega | (simp only [World.size_alloc, World.size_setCell, World.size_drew, size_drewN]; omega) | (simp; done) | (simp; omega) | (simp only [World.size_alloc, World.size_setCell, World.size_drew, size_drewN] at *; omega) | (simp at *; omega))
  have hbase6 : RowR w6 w5.heap.size v6 T := hr6.mono (by omega)
  have hz6 := hk6.size
  have HB6 : Hid (Below w.heap.size w w6) := Lib.hid (HB5.out.trans (hk6.mono HB5.out.size))
  have HR1_6 : Hid (RowB w6 w.heap.size w1.heap.size v1 T) := Lib.hid (HR1_5.out.below hk6)
  have HH2_6 : Hid (Heldr w6 w1.heap.size v2 T.length) := Lib.hid (HH2_5.out.below hk6)
  have x0_6 := (hk6.cell (p := ⟨w.heap.size, 0, none⟩) (by show w.heap.size < _; omega)).trans x0_5
  have x1_6 := (hk6.cell (p := ⟨w.heap.size, 1, none⟩) (by show w.heap.size < _; omega)).trans x1_5
  have y0_6 := (hk6.cell (p := ⟨w.heap.size + 1, 0, none⟩) (by show w.heap.size + 1 < _; omega)).trans y0_5
  have y1_6 := (hk6.cell (p := ⟨w.heap.size + 1, 1, none⟩) (by show w.heap.size + 1 < _; omega)).trans y1_5
  have HR6_6 : Hid (RowB w6 w5.heap.size w6.heap.size v6 T) := Lib.hid (RowR.bnd hbase6)
  clear hb6 hk6 HR1_5 HH2_5 x0_5 x1_5 y0_5 y1_5
  clear hbase6 hr6 hc6 hf6
  go_wp2_with fail
  refine (eqS_any v6 v1 _ _ (by omega) HR6_6.out.inp HR1_6.out.inp).mono ?_
  rintro e w7 ⟨rfl, hb7⟩
  have hk7 : Below w6.heap.size w6 w7 := by (repeat' first | (with_reducible exact Below.refl _ _) | (with_reducible assumption) | (with_reducible refine below_drewN ?_ _) | (with_reducible refine Below.drew ?_) | (with_reducible refine Below.alloc ?_ ?_ _) | (with_reducible refine Below.setCell ?_ ?_ _) | (with_reducible refine Below.trans ?_ (Below.mono (by assumption) ?_)) | first | omega | (simp only [World.size_alloc, World.size_setCell, World.size_drew, size_drewN]; omega) | (simp; done) | (simp; omega) | (simp only [World.size_alloc, World.size_setCell, World.size_drew, size_drewN] at *; omega) | (simp at *; omega))
  have hz7 := hk7.size
  have HB7 : Hid (Below w.heap.size w w7) := Lib.hid (HB6.out.trans (hk7.mono HB6.out.size))
  have HR1_7 : Hid (RowB w7 w.heap.size w1.heap.size v1 T) := Lib.hid (HR1_6.out.below hk7)
  have HR6_7 : Hid (RowB w7 w5.heap.size w6.heap.size v6 T) := Lib.hid (HR6_6.out.below hk7)
  have HH2_7 : Hid (Heldr w7 w1.heap.size v2 T.length) := Lib.hid (HH2_6.out.below hk7)
  have x0_7 := (hk7.cell (p := ⟨w.heap.size, 0, none⟩) (by show w.heap.size < _; omega)).trans x0_6
  have x1_7 := (hk7.cell (p := ⟨w.heap.size, 1, none⟩) (by show w.heap.size < _; omega)).trans x1_6
  have y0_7 := (hk7.cell (p := ⟨w.heap.size + 1, 0, none⟩) (by show w.heap.size + 1 < _; omega)).trans y0_6
  have y1_7 := (hk7.cell (p := ⟨w.heap.size + 1, 1, none⟩) (by show w.heap.size + 1 < _; omega)).trans y1_6
  clear hb7 hk7 HR1_6 HR6_6 HH2_6 x0_6 x1_6 y0_6 y1_6
  go_wp2_with fail
  refine (held_any v2 _ _ _ (by omega) HH2_7.out).mono ?_
  rintro e w8 ⟨rfl, hb8⟩
  have hk8 : Below w7.heap.size w7 w8 := by (repeat' first | (with_reducible exact Below.refl _ _) | (with_reducible assumption) | (with_reducible refine below_drewN ?_ _) | (with_reducible refine Below.drew ?_) | (with_reducible refine Below.alloc ?_ ?_ _) | (with_reducible refine Below.setCell ?_ ?_ _) | (with_reducible refine Below.trans ?_ (Below.mono (by assumption) ?_)) | first | omega | (simp only [World.size_alloc, World.size_setCell, World.size_drew, size_drewN]; omega) | (simp; done) | (simp; omega) | (simp only [World.size_alloc, World.size_setCell, World.size_drew, size_drewN] at *; omega) | (simp at *; omega))
  have hz8 := hk8.size
  have HB8 : Hid (Below w.heap.size w w8) := Lib.hid (HB7.out.trans (hk8.mono HB7.out.size))
  have HR1_8 : Hid (RowB w8 w.heap.size w1.heap.size v1 T) := Lib.hid (HR1_7.out.below hk8)
  have HR6_8 : Hid (RowB w8 w5.heap.size w6.heap.size v6 T) := Lib.hid (HR6_7.out.below hk8)
  have HH2_8 : Hid (Heldr w8 w1.heap.size v2 T.length) := Lib.hid (HH2_7.out.below hk8)
  have x0_8 := (hk8.cell (p := ⟨w.heap.size, 0, none⟩) (by show w.heap.size < _; omega)).trans x0_7
  have x1_8 := (hk8.cell (p := ⟨w.heap.size, 1, none⟩) (by show w.heap.size < _; omega)).trans x1_7
  have y0_8 := (hk8.cell (p := ⟨w.heap.size + 1, 0, none⟩) (by show w.heap.size + 1 < _; omega)).trans y0_7
  have y1_8 := (hk8.cell (p := ⟨w.heap.size + 1, 1, none⟩) (by show w.heap.size + 1 < _; omega)).trans y1_7
  clear hb8 hk8 HR1_7 HR6_7 HH2_7 x0_7 x1_7 y0_7 y1_7
  go_wp2
  go_ret
  exact ⟨rfl, HB8.out⟩
end Go.Proofs.Ytmcjabfnlpohaaa
