/-
  The walk of the law FnExactLevelsOf: it returns true, for every argument. Conditions: none.
-/
import Derived.Test.YtjienggophfhfaaMark
import Derived.Test.YtjienggophfhfaaOpen
namespace Go.Proofs.Ytjienggophfhfaa
set_option linter.unusedSimpArgs false
set_option linter.unusedVariables false
open Go.RowKit

set_option maxHeartbeats 400000 in
theorem toTerm_any (s l : Int) (w : World) :
    Calls Try.prog 20 #[.agg #[.int .i64 s, .int .i64 l]] w fun e w' => e = .returned (.agg #[.int .i64 s, .int .i64 l]) ∧ Below w.heap.size w w' := by
  go_enter Try.func20, Try.ntmps20
  go_wp2
  go_returns
  exact ⟨rfl, by (repeat' first | (with_reducible exact Below.refl _ _) | (with_reducible assumption) | (with_reducible refine below_drewN ?_ _) | (with_reducible refine Below.drew ?_) | (with_reducible refine Below.alloc ?_ ?_ _) | (with_reducible refine Below.setCell ?_ ?_ _) | (with_reducible refine Below.trans ?_ (Below.mono (by assumption) ?_)) | first | omega | (simp only [World.size_alloc, World.size_setCell, World.size_drew, size_drewN]; omega) | (simp; done) | (simp; omega) | (simp only [World.size_alloc, World.size_setCell, World.size_drew, size_drewN] at *; omega) | (simp at *; omega))⟩
set_option maxHeartbeats 2000000 in
theorem walk_FnExactLevelsOf (s l : Int) (w : World) :
    Calls Try.prog 7 #[.agg #[.int .i64 s, .int .i64 l]] w fun e w' => e = .returned (.bool true) ∧ Below w.heap.size w w' := by
  have hsh := lvJs_short s l
  by_cases hn : (lvJs s l).length = 0
  · have hnil : lvJs s l = [] := List.eq_nil_of_length_eq_zero hn
    have sEmpty : ∀ w : World, Calls Try.prog 14 #[.agg #[.int .i64 s, .int .i64 l]] w fun e w' => ∃ a c, e = .returned (.slice a 0 c) ∧ Below w.heap.size w w' := fun w => (sLevels_any s l w).mono fun e w' ⟨v, he, ho, hb⟩ => by
      rw [hnil] at ho
      obtain ⟨a, c, rfl⟩ := row_len ho
      exact ⟨a, c, he, hb⟩
    have iEmpty : ∀ w : World, Calls Try.prog 13 #[.agg #[.int .i64 s, .int .i64 l]] w fun e w' => ∃ a c, e = .returned (.slice a 0 c) ∧ Below w.heap.size w w' := fun w => (iLevels_any s l w).mono fun e w' ⟨v, he, ho, hb⟩ => by
      rw [hnil] at ho
      obtain ⟨a, c, rfl⟩ := row_len ho
      exact ⟨a, c, he, hb⟩
    have SE := Lib.hid sEmpty
    have IE := Lib.hid iEmpty
    clear sEmpty iEmpty hnil hn hsh
    go_enter Try.func7, Try.ntmps7
    go_wp2_with (first
      | (go_at_call 20; refine (toTerm_any _ _ _).mono ?_; rintro e w1 ⟨rfl, hb1⟩; obtain ⟨hc1, hf1⟩ := bcell hb1; have hz1 := hb1.size; (try simp only [World.size_alloc, World.size_setCell, World.size_drew, size_drewN] at hz1 hc1 hf1); (have g1a : w.heap.size < w1.heap.size := by omega))
      | (go_at_call 14; refine (SE.out _).mono ?_; rintro e w1 ⟨a1, c1, rfl, hb1⟩; obtain ⟨hc1, hf1⟩ := bcell hb1; have hz1 := hb1.size; (try simp only [World.size_alloc, World.size_setCell, World.size_drew, size_drewN] at hz1 hc1 hf1); (have g1a : w.heap.size < w1.heap.size := by omega))
      | (go_at_call 13; refine (IE.out _).mono ?_; rintro e w1 ⟨a2, c2, rfl, hb1⟩; obtain ⟨hc1, hf1⟩ := bcell hb1; have hz1 := hb1.size; (try simp only [World.size_alloc, World.size_setCell, World.size_drew, size_drewN] at hz1 hc1 hf1); (have g1a : w.heap.size < w1.heap.size := by omega))
      | (go_at_call 21; refine (eqLevelS_nil _ _ _ _ _).mono ?_; rintro e w1 ⟨rfl, hb1⟩; obtain ⟨hc1, hf1⟩ := bcell hb1; have hz1 := hb1.size; (try simp only [World.size_alloc, World.size_setCell, World.size_drew, size_drewN] at hz1 hc1 hf1); (have g1a : w.heap.size < w1.heap.size := by omega))
      | (go_at_call 22; refine (markLevelS_nil _ _ _ _).mono ?_; rintro e w' ⟨rfl, rfl⟩)
      | (go_at_call 23; refine (heldLevelS_nil _ _ _ _).mono ?_; rintro e w' ⟨rfl, rfl⟩))
    go_ret
    exact ⟨rfl, by (repeat' first | (with_reducible exact Below.refl _ _) | (with_reducible assumption) | (with_reducible refine below_drewN ?_ _) | (with_reducible refine Below.drew ?_) | (with_reducible refine Below.alloc ?_ ?_ _) | (with_reducible refine Below.setCell ?_ ?_ _) | (with_reducible refine Below.trans ?_ (Below.mono (by assumption) ?_)) | first | omega | (simp only [World.size_alloc, World.size_setCell, World.size_drew, size_drewN]; omega) | (simp; done) | (simp; omega) | (simp only [World.size_alloc, World.size_setCell, World.size_drew, size_drewN] at *; omega) | (simp at *; omega))⟩
  · have hn0 : 0 < (lvJs s l).length := by omega
    have hbt : ∃ n : Nat, n = (lvJs s l).length ∧ 0 < n ∧ n ≤ 25 := ⟨_, rfl, hn0, hsh⟩
    clear hn
    go_enter Try.func7, Try.ntmps7
    go_wp2_with fail
    refine (toTerm_any _ _ _).mono ?_
    rintro e w1 ⟨rfl, hb1⟩
    obtain ⟨hc1, hf1⟩ := bcell hb1; have hz1 := hb1.size; (try simp only [World.size_alloc, World.size_setCell, World.size_drew, size_drewN] at hz1 hc1 hf1); (have g1a : w.heap.size < w1.heap.size := by omega)
    go_wp2_with fail
    refine (sLevels_some _ _ _ hn0).mono ?_
    rintro e w2 ⟨g1, c1, rfl, L1, -, -, hg1, hg1', hb2⟩
    obtain ⟨hc2, hf2⟩ := bcell hb2; have hz2 := hb2.size; (try simp only [World.size_alloc, World.size_setCell, World.size_drew, size_drewN] at hz2 hc2 hf2); (have g2a : w.heap.size < w2.heap.size := by omega)
    have t0 : w2.cell? ⟨w.heap.size, 0, none⟩ = some (.int .i64 s) := by (simp (disch := first | omega | (simp; done) | (simp; omega)) [go_sem, *]; done)
    have t1 : w2.cell? ⟨w.heap.size, 1, none⟩ = some (.int .i64 l) := by (simp (disch := first | omega | (simp; done) | (simp; omega)) [go_sem, *]; done)
    have hB2 : Below w.heap.size w w2 := by (repeat' first | (with_reducible exact Below.refl _ _) | (with_reducible assumption) | (with_reducible refine below_drewN ?_ _) | (with_reducible refine Below.drew ?_) | (with_reducible refine Below.alloc ?_ ?_ _) | (with_reducible refine Below.setCell ?_ ?_ _) | (with_reducible refine Below.trans ?_ (Below.mono (by assumption) ?_)) | first | omega | (simp only [World.size_alloc, World.size_setCell, World.size_drew, size_drewN]; omega) | (simp; done) | (simp; omega) | (simp only [World.size_alloc, World.size_setCell, World.size_drew, size_drewN] at *; omega) | (simp at *; omega))
    clear hc1 hf1 hc2 hf2 hb1 hb2
    have LL1 := Lib.hid L1
    clear L1
    go_wp2_with fail
    refine (toTerm_any _ _ _).mono ?_
    rintro e w3 ⟨rfl, hb3⟩
    obtain ⟨hc3, hf3⟩ := bcell hb3; have hz3 := hb3.size; (try simp only [World.size_alloc, World.size_setCell, World.size_drew, size_drewN] at hz3 hc3 hf3); (have g3a : w.heap.size < w3.heap.size := by omega)
    go_wp2_with fail
    refine (iLevels_some _ _ _ hn0).mono ?_
    rintro e w4 ⟨g2, c2, rfl, L2, O2, F2, hg2, hg2', hb4⟩
    obtain ⟨hc4, hf4⟩ := bcell hb4; have hz4 := hb4.size; (try simp only [World.size_alloc, World.size_setCell, World.size_drew, size_drewN] at hz4 hc4 hf4); (have g4a : w.heap.size < w4.heap.size := by omega)
    have t0a : w4.cell? ⟨w.heap.size, 0, none⟩ = some (.int .i64 s) := by (simp (disch := first | omega | (simp; done) | (simp; omega)) [go_sem, *]; done)
    have t1a : w4.cell? ⟨w.heap.size, 1, none⟩ = some (.int .i64 l) := by (simp (disch := first | omega | (simp; done) | (simp; omega)) [go_sem, *]; done)
    have LL1a := Lib.hid (LvAt.keep LL1.out (fun o => (hc4 g1 o (by omega)).trans (hc3 g1 o (by omega))))
    have hB4 : Below w.heap.size w w4 := by (repeat' first | (with_reducible exact Below.refl _ _) | (with_reducible assumption) | (with_reducible refine below_drewN ?_ _) | (with_reducible refine Below.drew ?_) | (with_reducible refine Below.alloc ?_ ?_ _) | (with_reducible refine Below.setCell ?_ ?_ _) | (with_reducible refine Below.trans ?_ (Below.mono (by assumption) ?_)) | first | omega | (simp only [World.size_alloc, World.size_setCell, World.size_drew, size_drewN]; omega) | (simp; done) | (simp; omega) | (simp only [World.size_alloc, World.size_setCell, World.size_drew, size_drewN] at *; omega) | (simp at *; omega))
    clear hc3 hf3 hc4 hf4 hb3 hb4 t0 t1 LL1 hB2
    have LL2 := Lib.hid (show LvAt w4 g2 s l (lvJs s l) from L2)
    have OO2 := Lib.hid O2
    have FF2 := Lib.hid F2
    clear L2 O2 F2
    have hg1a : g1 < w4.heap.size := by omega
    go_wp2_with fail
    refine (eqLevelS_some _ _ _ _ _ _ _ _ hsh hg2' hg1a LL2.out LL1a.out).mono ?_
    rintro e w5 ⟨rfl, hb5⟩
    obtain ⟨hc5, hf5⟩ := bcell hb5; have hz5 := hb5.size; (try simp only [World.size_alloc, World.size_setCell, World.size_drew, size_drewN] at hz5 hc5 hf5); (have g5a : w.heap.size < w5.heap.size := by omega)
    have t0b : w5.cell? ⟨w.heap.size, 0, none⟩ = some (.int .i64 s) := by (simp (disch := first | omega | (simp; done) | (simp; omega)) [go_sem, *]; done)
    have t1b : w5.cell? ⟨w.heap.size, 1, none⟩ = some (.int .i64 l) := by (simp (disch := first | omega | (simp; done) | (simp; omega)) [go_sem, *]; done)
    have LL1b := Lib.hid (LvAt.keep LL1a.out (fun o => hc5 g1 o (by omega)))
    have C5 : Hid (∀ i, i < (lvJs s l).length * 3 → ∃ v, w5.cell? ⟨g2, i, none⟩ = some v) := fun i hi => by
      have hx := OO2.out.cellAt i hi
      rw [List.getElem?_eq_getElem (by rw [vL_length]; exact hi)] at hx
      exact ⟨_, (hc5 g2 i (by omega)).trans hx⟩
    have F5 : Hid (∀ i, w5.frozen? ⟨g2, i, none⟩ = false) := fun i => (hf5 g2 i (by omega)).trans (FF2.out i)
    have hB5 : Below w.heap.size w w5 := by (repeat' first | (with_reducible exact Below.refl _ _) | (with_reducible assumption) | (with_reducible refine below_drewN ?_ _) | (with_reducible refine Below.drew ?_) | (with_reducible refine Below.alloc ?_ ?_ _) | (with_reducible refine Below.setCell ?_ ?_ _) | (with_reducible refine Below.trans ?_ (Below.mono (by assumption) ?_)) | first | omega | (simp only [World.size_alloc, World.size_setCell, World.size_drew, size_drewN]; omega) | (simp; done) | (simp; omega) | (simp only [World.size_alloc, World.size_setCell, World.size_drew, size_drewN] at *; omega) | (simp at *; omega))
    clear hc5 hf5 hb5 t0a t1a LL1a LL2 OO2 FF2 hB4
    go_wp2_with fail
    refine (markLevelS_some _ _ _ _ (by omega) C5.out F5.out).mono ?_
    rintro e w6 ⟨rfl, M6, hgr6⟩
    have hz6 := hgr6.size
    have t0c : w6.cell? ⟨w.heap.size, 0, none⟩ = some (.int .i64 s) := (World.cell?_of_block (hgr6.block w.heap.size (by omega) (by simp; omega))).trans t0b
    have t1c : w6.cell? ⟨w.heap.size, 1, none⟩ = some (.int .i64 l) := (World.cell?_of_block (hgr6.block w.heap.size (by omega) (by simp; omega))).trans t1b
    have LL1c := Lib.hid (LvAt.keep LL1b.out (fun o => World.cell?_of_block (hgr6.block g1 (by omega) (by simp; omega))))
    have hB6 : Below w.heap.size w w6 := hB5.trans ⟨hgr6.os, hgr6.tape, hgr6.output, hgr6.size, fun k hk => hgr6.block k (by omega) (by simp; omega)⟩
    have MM6 := Lib.hid M6
    clear M6 hgr6 t0b t1b LL1b C5 F5 hB5
    go_wp2_with fail
    refine (heldLevelS_some _ _ _ _ (by omega) MM6.out).mono ?_
    rintro e w' ⟨rfl, rfl⟩
    have hbne : ((1 + 3 * ((lvJs s l).length : Int)) != (1 + 3 * ((lvJs s l).length : Int))) = false := by simp
    go_wp2_with fail
    refine (toTerm_any _ _ _).mono ?_
    rintro e w7 ⟨rfl, hb7⟩
    obtain ⟨hc7, hf7⟩ := bcell hb7; have hz7 := hb7.size; (try simp only [World.size_alloc, World.size_setCell, World.size_drew, size_drewN] at hz7 hc7 hf7); (have g7a : w.heap.size < w7.heap.size := by omega)
    go_wp2_with fail
    refine (iLevels_some _ _ _ hn0).mono ?_
    rintro e w8 ⟨g3, c3, rfl, L3, -, -, hg3, hg3', hb8⟩
    obtain ⟨hc8, hf8⟩ := bcell hb8; have hz8 := hb8.size; (try simp only [World.size_alloc, World.size_setCell, World.size_drew, size_drewN] at hz8 hc8 hf8); (have g8a : w.heap.size < w8.heap.size := by omega)
    have LL1d := Lib.hid (LvAt.keep LL1c.out (fun o => (hc8 g1 o (by omega)).trans (hc7 g1 o (by omega))))
    have MM8 : Hid (Marked w8 g2 ((lvJs s l).length * 3) 1) := fun i hi => ((hc8 g2 i (by omega)).trans (hc7 g2 i (by omega))).trans (MM6.out i hi)
    have LL3 := Lib.hid (show LvAt w8 g3 s l (lvJs s l) from L3)
    have hB8 : Below w.heap.size w w8 := by (repeat' first | (with_reducible exact Below.refl _ _) | (with_reducible assumption) | (with_reducible refine below_drewN ?_ _) | (with_reducible refine Below.drew ?_) | (with_reducible refine Below.alloc ?_ ?_ _) | (with_reducible refine Below.setCell ?_ ?_ _) | (with_reducible refine Below.trans ?_ (Below.mono (by assumption) ?_)) | first | omega | (simp only [World.size_alloc, World.size_setCell, World.size_drew, size_drewN]; omega) | (simp; done) | (simp; omega) | (simp only [World.size_alloc, World.size_setCell, World.size_drew, size_drewN] at *; omega) | (simp at *; omega))
    clear L3 hc7 hf7 hc8 hf8 hb7 hb8 LL1c MM6 hB6 t0c t1c
    go_wp2_with fail
    refine (eqLevelS_some _ _ _ _ _ _ _ _ hsh hg3' (by omega) LL3.out LL1d.out).mono ?_
    rintro e w9 ⟨rfl, hb9⟩
    obtain ⟨hc9, hf9⟩ := bcell hb9; have hz9 := hb9.size; (try simp only [World.size_alloc, World.size_setCell, World.size_drew, size_drewN] at hz9 hc9 hf9); (have g9a : w.heap.size < w9.heap.size := by omega)
    have MM9 : Hid (Marked w9 g2 ((lvJs s l).length * 3) 1) := fun i hi => (hc9 g2 i (by omega)).trans (MM8.out i hi)
    have hB9 : Below w.heap.size w w9 := by (repeat' first | (with_reducible exact Below.refl _ _) | (with_reducible assumption) | (with_reducible refine below_drewN ?_ _) | (with_reducible refine Below.drew ?_) | (with_reducible refine Below.alloc ?_ ?_ _) | (with_reducible refine Below.setCell ?_ ?_ _) | (with_reducible refine Below.trans ?_ (Below.mono (by assumption) ?_)) | first | omega | (simp only [World.size_alloc, World.size_setCell, World.size_drew, size_drewN]; omega) | (simp; done) | (simp; omega) | (simp only [World.size_alloc, World.size_setCell, World.size_drew, size_drewN] at *; omega) | (simp at *; omega))
    clear hc9 hf9 hb9 MM8 hB8 LL3 LL1d
    go_wp2_with fail
    refine (heldLevelS_some _ _ _ _ (by omega) MM9.out).mono ?_
    rintro e w' ⟨rfl, rfl⟩
    go_wp2_with fail
    go_ret
    exact ⟨rfl, hB9⟩
end Go.Proofs.Ytjienggophfhfaa
