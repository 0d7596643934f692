/-
  The walks of FactorMoment (impl and spec), and of the differences of rationals. Conditions: where the two package-level errors lie.
-/
import Derived.Test.YtdghihinednenaaDoorMom
namespace Go.Proofs.YtdghihinednenaaDoor
set_option linter.unusedSimpArgs false
set_option linter.unusedVariables false
open Go.RowKit

theorem ratSub_any (a b c d : Int) (w : World) (h1 : ratV a b = true) (h2 : ratV c d = true) :
    Calls Tryd.prog 27 #[.agg #[.int .i64 a, .int .i64 b], .agg #[.int .i64 c, .int .i64 d]] w fun e w' => e = .returned (.tuple #[.agg #[.int .i64 (ratR (a * d + -c * b) (b * d)).1, .int .i64 (ratR (a * d + -c * b) (b * d)).2.1], .bool (ratR (a * d + -c * b) (b * d)).2.2]) ∧ Below w.heap.size w w' :=
  ratSub_of a b c d _ _ _ w (by have := ratV_true h2; omega) (by have := ratV_true h2; omega) fun w0 => ratAdd_any a b (-c) d w0 h1 (ratV_neg h2)
theorem ratSub_bad (a b : Int) (w : World) (h1 : ratV a b = true) :
    Calls Tryd.prog 27 #[.agg #[.int .i64 a, .int .i64 b], .agg #[.int .i64 0, .int .i64 0]] w fun e w' => e = .returned (.tuple #[.agg #[.int .i64 0, .int .i64 0], .bool false]) ∧ Below w.heap.size w w' :=
  ratSub_of a b 0 0 _ _ _ w (by omega) (by omega) fun w0 => ratAdd_bad a b w0 h1
set_option maxHeartbeats 1000000 in
theorem eqRat_same (a b : Int) (w : World) :
    Calls Tryd.prog 17 #[.agg #[.int .i64 a, .int .i64 b], .agg #[.int .i64 a, .int .i64 b]] w fun e w' => e = .returned (.bool true) ∧ Below w.heap.size w w' := by
  go_enter Tryd.func17, Tryd.ntmps17
  go_wp2
  go_ret
  exact ⟨rfl, by (repeat' first | (with_reducible exact Below.refl _ _) | (with_reducible assumption) | (with_reducible refine below_drewN ?_ _) | (with_reducible refine Below.drew ?_) | (with_reducible refine Below.alloc ?_ ?_ _) | (with_reducible refine Below.setCell ?_ ?_ _) | (with_reducible refine Below.trans ?_ (Below.mono (by assumption) ?_)) | first | omega | (simp only [World.size_alloc, World.size_setCell, World.size_drew, size_drewN]; omega) | (simp; done) | (simp; omega) | (simp only [World.size_alloc, World.size_setCell, World.size_drew, size_drewN] at *; omega) | (simp at *; omega))⟩
set_option maxHeartbeats 1000000 in
theorem sMoment_any (s l j : Int) (w : World) :
    Calls Tryd.prog 22 #[.agg #[.int .i64 s, .int .i64 l, .int .i64 j]] w fun e w' => e = .returned (.tuple #[.agg #[.int .i64 (momF s l j).1, .int .i64 (momF s l j).2.1], .bool (momF s l j).2.2]) ∧ Below w.heap.size w w' := by
  cases hv : lvB s l j with
  | false =>
    rw [show momF s l j = (0, 0, false) by simp [momF, hv]]
    go_enter Tryd.func22, Tryd.ntmps22
    go_wp2_with (go_at_call 34; refine (sLevelValid_any _ _ _ _).mono ?_; rintro e w1 ⟨rfl, hb1⟩; obtain ⟨hc1, hf1⟩ := bcell hb1; have hz1 := hb1.size; (try simp only [World.size_alloc, World.size_setCell, World.size_drew, size_drewN] at hz1 hc1 hf1); (have g1a : w.heap.size < w1.heap.size := by omega); (have g1b : w.heap.size + 1 < w1.heap.size := by omega))
    refine bodyPost_ret (v := .tuple #[.agg #[.int .i64 0, .int .i64 0], .bool false]) (by simp (disch := first | omega | (simp; done) | (simp; omega)) [results, Tryd.results22, go_sem, cell_set, *]) rfl ?_
    exact ⟨rfl, by (repeat' first | (with_reducible exact Below.refl _ _) | (with_reducible assumption) | (with_reducible refine below_drewN ?_ _) | (with_reducible refine Below.drew ?_) | (with_reducible refine Below.alloc ?_ ?_ _) | (with_reducible refine Below.setCell ?_ ?_ _) | (with_reducible refine Below.trans ?_ (Below.mono (by assumption) ?_)) | first | omega | (simp only [World.size_alloc, World.size_setCell, World.size_drew, size_drewN]; omega) | (simp; done) | (simp; omega) | (simp only [World.size_alloc, World.size_setCell, World.size_drew, size_drewN] at *; omega) | (simp at *; omega))⟩
  | true =>
    have bd := lvB_bd hv
    by_cases hj : 0 < j
    · rw [show momF s l j = momR s l j by simp [momF, hv, hj]]
      have bt := twI_bd hv
      have t1 : (j == 0) = false := by simp; omega
      go_enter Tryd.func22, Tryd.ntmps22
      go_wp2_with fail
      refine (sLevelValid_any _ _ _ _).mono ?_
      rintro e w1 ⟨rfl, hb1⟩
      obtain ⟨hc1, hf1⟩ := bcell hb1; have hz1 := hb1.size; (try simp only [World.size_alloc, World.size_setCell, World.size_drew, size_drewN] at hz1 hc1 hf1); (have g1a : w.heap.size < w1.heap.size := by omega); (have g1b : w.heap.size + 1 < w1.heap.size := by omega)
      go_wp2_with fail
      refine (twice_any _ _ _ _ hv).mono ?_
      rintro e w2 ⟨rfl, hb2⟩
      obtain ⟨hc2, hf2⟩ := bcell hb2; have hz2 := hb2.size; (try simp only [World.size_alloc, World.size_setCell, World.size_drew, size_drewN] at hz2 hc2 hf2); (have g2a : w.heap.size < w2.heap.size := by omega); (have g2b : w.heap.size + 1 < w2.heap.size := by omega)
      rw [show 2 * (j * (j + 2)) + j * (j + 2) + s * (s + 2) - 2 * l * (2 * l + 2) = twI s l j from rfl]
      go_wp2_with fail
      refine (sRatOf_any (twI s l j) 2 _ (by omega) (by omega) (by omega) (by omega)).mono ?_
      rintro e w3 ⟨rfl, hb3⟩
      obtain ⟨hc3, hf3⟩ := bcell hb3; have hz3 := hb3.size; (try simp only [World.size_alloc, World.size_setCell, World.size_drew, size_drewN] at hz3 hc3 hf3); (have g3a : w.heap.size < w3.heap.size := by omega); (have g3b : w.heap.size + 1 < w3.heap.size := by omega)
      rw [show ratR (twI s l j) 2 = momR s l j from rfl]
      go_wp2
      refine bodyPost_ret (v := .tuple #[.agg #[.int .i64 (momR s l j).1, .int .i64 (momR s l j).2.1], .bool (momR s l j).2.2]) (by simp (disch := first | omega | (simp; done) | (simp; omega)) [results, Tryd.results22, go_sem, cell_set, *]) rfl ?_
      exact ⟨rfl, by (repeat' first | (with_reducible exact Below.refl _ _) | (with_reducible assumption) | (with_reducible refine below_drewN ?_ _) | (with_reducible refine Below.drew ?_) | (with_reducible refine Below.alloc ?_ ?_ _) | (with_reducible refine Below.setCell ?_ ?_ _) | (with_reducible refine Below.trans ?_ (Below.mono (by assumption) ?_)) | first | omega | (simp only [World.size_alloc, World.size_setCell, World.size_drew, size_drewN]; omega) | (simp; done) | (simp; omega) | (simp only [World.size_alloc, World.size_setCell, World.size_drew, size_drewN] at *; omega) | (simp at *; omega))⟩
    · obtain rfl : j = 0 := by omega
      rw [momF_zero hv]
      go_enter Tryd.func22, Tryd.ntmps22
      go_wp2_with (go_at_call 34; refine (sLevelValid_any _ _ _ _).mono ?_; rintro e w1 ⟨rfl, hb1⟩; obtain ⟨hc1, hf1⟩ := bcell hb1; have hz1 := hb1.size; (try simp only [World.size_alloc, World.size_setCell, World.size_drew, size_drewN] at hz1 hc1 hf1); (have g1a : w.heap.size < w1.heap.size := by omega); (have g1b : w.heap.size + 1 < w1.heap.size := by omega))
      refine bodyPost_ret (v := .tuple #[.agg #[.int .i64 0, .int .i64 1], .bool true]) (by simp (disch := first | omega | (simp; done) | (simp; omega)) [results, Tryd.results22, go_sem, cell_set, *]) rfl ?_
      exact ⟨rfl, by (repeat' first | (with_reducible exact Below.refl _ _) | (with_reducible assumption) | (with_reducible refine below_drewN ?_ _) | (with_reducible refine Below.drew ?_) | (with_reducible refine Below.alloc ?_ ?_ _) | (with_reducible refine Below.setCell ?_ ?_ _) | (with_reducible refine Below.trans ?_ (Below.mono (by assumption) ?_)) | first | omega | (simp only [World.size_alloc, World.size_setCell, World.size_drew, size_drewN]; omega) | (simp; done) | (simp; omega) | (simp only [World.size_alloc, World.size_setCell, World.size_drew, size_drewN] at *; omega) | (simp at *; omega))⟩
set_option maxHeartbeats 2000000 in
theorem iMoment_bad (s l j : Int) (aR aL : Addr) (w : World) (hW : ErrW aR aL w) (hv : lvB s l j = false) :
    Calls Tryd.prog 23 #[.agg #[.int .i64 s, .int .i64 l, .int .i64 j]] w fun e w' => e = .returned (.tuple #[.agg #[.int .i64 0, .int .i64 0], .bool false]) ∧ Below w.heap.size w w' := by
  have h2 := hW.size
  have n1 : ¬ w.heap.size = 0 := by omega
  have n2 : ¬ w.heap.size + 1 = 0 := by omega
  have n3 : ¬ 0 = w.heap.size + 1 := by omega
  have p1 : 0 < w.heap.size := by omega
  have p2 : 0 < w.heap.size + 1 := by omega
  have cw := hW.cR
  go_enter Tryd.func23, Tryd.ntmps23
  go_wp2_with fail
  refine (iFac_no s l j _ _ hv (by (repeat' first | (with_reducible exact Below.refl _ _) | (with_reducible assumption) | (with_reducible refine below_drewN ?_ _) | (with_reducible refine Below.drew ?_) | (with_reducible refine Below.alloc ?_ ?_ _) | (with_reducible refine Below.setCell ?_ ?_ _) | (with_reducible refine Below.trans ?_ (Below.mono (by assumption) ?_)) | first | omega | (simp only [World.size_alloc, World.size_setCell, World.size_drew, size_drewN]; omega) | (simp; done) | (simp; omega) | (simp only [World.size_alloc, World.size_setCell, World.size_drew, size_drewN] at *; omega) | (simp at *; omega))) (hW.below (by (repeat' first | (with_reducible exact Below.refl _ _) | (with_reducible assumption) | (with_reducible refine below_drewN ?_ _) | (with_reducible refine Below.drew ?_) | (with_reducible refine Below.alloc ?_ ?_ _) | (with_reducible refine Below.setCell ?_ ?_ _) | (with_reducible refine Below.trans ?_ (Below.mono (by assumption) ?_)) | first | omega | (simp only [World.size_alloc, World.size_setCell, World.size_drew, size_drewN]; omega) | (simp; done) | (simp; omega) | (simp only [World.size_alloc, World.size_setCell, World.size_drew, size_drewN] at *; omega) | (simp at *; omega))) (Nat.le_refl _)).cL).mono ?_
  rintro e w1 ⟨rfl, hb1⟩
  obtain ⟨hc1, hf1⟩ := bcell hb1; have hz1 := hb1.size; (try simp only [World.size_alloc, World.size_setCell, World.size_drew, size_drewN] at hz1 hc1 hf1); (have g1a : w.heap.size < w1.heap.size := by omega); (have g1b : w.heap.size + 1 < w1.heap.size := by omega)
  have hW1 : ErrW aR aL w1 := hW.below (by (repeat' first | (with_reducible exact Below.refl _ _) | (with_reducible assumption) | (with_reducible refine below_drewN ?_ _) | (with_reducible refine Below.drew ?_) | (with_reducible refine Below.alloc ?_ ?_ _) | (with_reducible refine Below.setCell ?_ ?_ _) | (with_reducible refine Below.trans ?_ (Below.mono (by assumption) ?_)) | first | omega | (simp only [World.size_alloc, World.size_setCell, World.size_drew, size_drewN]; omega) | (simp; done) | (simp; omega) | (simp only [World.size_alloc, World.size_setCell, World.size_drew, size_drewN] at *; omega) | (simp at *; omega))) (Nat.le_refl _)
  have c0 := hW1.cR
  have n4 : ¬ w1.heap.size = 0 := by omega
  have n5 : ¬ 0 = w1.heap.size := by omega
  have n6 : 0 < w1.heap.size := by omega
  have hk : ∃ c t, (w1.alloc (.cells #[.int .i64 0, .int .i64 0] 27)).heap[aR.block]? = some (.cells c t (0, 0)) := (hW1.below ((Below.refl _ _).alloc (Nat.le_refl _) _) (Nat.le_refl _)).bR
  have hl : ∃ c t, (w1.alloc (.cells #[.int .i64 0, .int .i64 0] 27)).heap[aL.block]? = some (.cells c t (0, 0)) := (hW1.below ((Below.refl _ _).alloc (Nat.le_refl _) _) (Nat.le_refl _)).bL
  obtain ⟨cR, tR, hk⟩ := hk
  obtain ⟨cL, tL, hl⟩ := hl
  have hne := hW.ne
  clear hW hW1
  go_wp2_with (go_at_call 43; refine (is_other aL aR cL cR tL tR _ hne hl hk).mono ?_; rintro e w2 ⟨rfl, rfl⟩)
  refine bodyPost_ret (v := .tuple #[.agg #[.int .i64 0, .int .i64 0], .bool false]) (by simp (disch := first | omega | (simp; done) | (simp; omega)) [results, Tryd.results23, go_sem, cell_set, *]) rfl ?_
  exact ⟨rfl, by (repeat' first | (with_reducible exact Below.refl _ _) | (with_reducible assumption) | (with_reducible refine below_drewN ?_ _) | (with_reducible refine Below.drew ?_) | (with_reducible refine Below.alloc ?_ ?_ _) | (with_reducible refine Below.setCell ?_ ?_ _) | (with_reducible refine Below.trans ?_ (Below.mono (by assumption) ?_)) | first | omega | (simp only [World.size_alloc, World.size_setCell, World.size_drew, size_drewN]; omega) | (simp; done) | (simp; omega) | (simp only [World.size_alloc, World.size_setCell, World.size_drew, size_drewN] at *; omega) | (simp at *; omega))⟩
set_option maxHeartbeats 2000000 in
theorem iMoment_rest (s l : Int) (aR aL : Addr) (w : World) (hW : ErrW aR aL w) (hv : lvB s l 0 = true) :
    Calls Tryd.prog 23 #[.agg #[.int .i64 s, .int .i64 l, .int .i64 0]] w fun e w' => e = .returned (.tuple #[.agg #[.int .i64 0, .int .i64 1], .bool true]) ∧ Below w.heap.size w w' := by
  have h2 := hW.size
  have n1 : ¬ w.heap.size = 0 := by omega
  have n2 : ¬ w.heap.size + 1 = 0 := by omega
  have n3 : ¬ 0 = w.heap.size + 1 := by omega
  have p1 : 0 < w.heap.size := by omega
  have p2 : 0 < w.heap.size + 1 := by omega
  have cw := hW.cR
  go_enter Tryd.func23, Tryd.ntmps23
  go_wp2_with fail
  refine (iFac_rest s l _ _ hv (by (repeat' first | (with_reducible exact Below.refl _ _) | (with_reducible assumption) | (with_reducible refine below_drewN ?_ _) | (with_reducible refine Below.drew ?_) | (with_reducible refine Below.alloc ?_ ?_ _) | (with_reducible refine Below.setCell ?_ ?_ _) | (with_reducible refine Below.trans ?_ (Below.mono (by assumption) ?_)) | first | omega | (simp only [World.size_alloc, World.size_setCell, World.size_drew, size_drewN]; omega) | (simp; done) | (simp; omega) | (simp only [World.size_alloc, World.size_setCell, World.size_drew, size_drewN] at *; omega) | (simp at *; omega))) (hW.below (by (repeat' first | (with_reducible exact Below.refl _ _) | (with_reducible assumption) | (with_reducible refine below_drewN ?_ _) | (with_reducible refine Below.drew ?_) | (with_reducible refine Below.alloc ?_ ?_ _) | (with_reducible refine Below.setCell ?_ ?_ _) | (with_reducible refine Below.trans ?_ (Below.mono (by assumption) ?_)) | first | omega | (simp only [World.size_alloc, World.size_setCell, World.size_drew, size_drewN]; omega) | (simp; done) | (simp; omega) | (simp only [World.size_alloc, World.size_setCell, World.size_drew, size_drewN] at *; omega) | (simp at *; omega))) (Nat.le_refl _)).cR).mono ?_
  rintro e w1 ⟨rfl, hb1⟩
  obtain ⟨hc1, hf1⟩ := bcell hb1; have hz1 := hb1.size; (try simp only [World.size_alloc, World.size_setCell, World.size_drew, size_drewN] at hz1 hc1 hf1); (have g1a : w.heap.size < w1.heap.size := by omega); (have g1b : w.heap.size + 1 < w1.heap.size := by omega)
  have hW1 : ErrW aR aL w1 := hW.below (by (repeat' first | (with_reducible exact Below.refl _ _) | (with_reducible assumption) | (with_reducible refine below_drewN ?_ _) | (with_reducible refine Below.drew ?_) | (with_reducible refine Below.alloc ?_ ?_ _) | (with_reducible refine Below.setCell ?_ ?_ _) | (with_reducible refine Below.trans ?_ (Below.mono (by assumption) ?_)) | first | omega | (simp only [World.size_alloc, World.size_setCell, World.size_drew, size_drewN]; omega) | (simp; done) | (simp; omega) | (simp only [World.size_alloc, World.size_setCell, World.size_drew, size_drewN] at *; omega) | (simp at *; omega))) (Nat.le_refl _)
  have c0 := hW1.cR
  have n4 : ¬ w1.heap.size = 0 := by omega
  have n5 : ¬ 0 = w1.heap.size := by omega
  have n6 : 0 < w1.heap.size := by omega
  clear hW hW1
  go_wp2_with (first | (go_at_call 43; refine (is_same aR _).mono ?_; rintro e w2 ⟨rfl, rfl⟩) | (go_at_call 42; refine (iWhole_any _ _).mono ?_; rintro e w3 ⟨rfl, hb3⟩; obtain ⟨hc3, hf3⟩ := bcell hb3; have hz3 := hb3.size; (try simp only [World.size_alloc, World.size_setCell, World.size_drew, size_drewN] at hz3 hc3 hf3); (have g3a : w.heap.size < w3.heap.size := by omega); (have g3b : w.heap.size + 1 < w3.heap.size := by omega)))
  refine bodyPost_ret (v := .tuple #[.agg #[.int .i64 0, .int .i64 1], .bool true]) (by simp (disch := first | omega | (simp; done) | (simp; omega)) [results, Tryd.results23, go_sem, cell_set, *]) rfl ?_
  exact ⟨rfl, by (repeat' first | (with_reducible exact Below.refl _ _) | (with_reducible assumption) | (with_reducible refine below_drewN ?_ _) | (with_reducible refine Below.drew ?_) | (with_reducible refine Below.alloc ?_ ?_ _) | (with_reducible refine Below.setCell ?_ ?_ _) | (with_reducible refine Below.trans ?_ (Below.mono (by assumption) ?_)) | first | omega | (simp only [World.size_alloc, World.size_setCell, World.size_drew, size_drewN]; omega) | (simp; done) | (simp; omega) | (simp only [World.size_alloc, World.size_setCell, World.size_drew, size_drewN] at *; omega) | (simp at *; omega))⟩
set_option maxHeartbeats 2000000 in
theorem iMoment_yes (s l j : Int) (w : World) (hv : lvB s l j = true) (hj : 0 < j) :
    Calls Tryd.prog 23 #[.agg #[.int .i64 s, .int .i64 l, .int .i64 j]] w fun e w' => e = .returned (.tuple #[.agg #[.int .i64 (momR s l j).1, .int .i64 (momR s l j).2.1], .bool (momR s l j).2.2]) ∧ Below w.heap.size w w' := by
  have bd := lvB_bd hv
  have bj := sq_pos hj (by omega)
  have hk := facR_ok hv hj
  have q1 : IntKind.i64.wrap (j + 2) = j + 2 := IntWalk.i64_in _ (by omega)
  have q2 : IntKind.i64.wrap (j * (j + 2)) = j * (j + 2) := IntWalk.i64_in _ (by omega)
  have v1 := facR_V hv hj
  have v2 : ratV (j * (j + 2)) 1 = true := ratV_int _ (by omega) (by omega)
  have e1 := momR_of hv hj
  go_enter Tryd.func23, Tryd.ntmps23
  go_wp2_with fail
  refine (iFac_yes s l j _ hv hj hk).mono ?_
  rintro e w1 ⟨rfl, hb1⟩
  obtain ⟨hc1, hf1⟩ := bcell hb1; have hz1 := hb1.size; (try simp only [World.size_alloc, World.size_setCell, World.size_drew, size_drewN] at hz1 hc1 hf1); (have g1a : w.heap.size < w1.heap.size := by omega); (have g1b : w.heap.size + 1 < w1.heap.size := by omega)
  (have k0 : w1.cell? ⟨w.heap.size, 0, none⟩ = some (.int .i64 s) := by (simp (disch := first | omega | (simp; done) | (simp; omega)) [go_sem, *]; done)); (have k1 : w1.cell? ⟨w.heap.size, 1, none⟩ = some (.int .i64 l) := by (simp (disch := first | omega | (simp; done) | (simp; omega)) [go_sem, *]; done)); (have k2 : w1.cell? ⟨w.heap.size, 2, none⟩ = some (.int .i64 j) := by (simp (disch := first | omega | (simp; done) | (simp; omega)) [go_sem, *]; done))
  (have m0 : w1.cell? ⟨w.heap.size + 1, 0, none⟩ = some (.int .i64 0) := by (simp (disch := first | omega | (simp; done) | (simp; omega)) [go_sem, *]; done)); (have m1 : w1.cell? ⟨w.heap.size + 1, 1, none⟩ = some (.int .i64 0) := by (simp (disch := first | omega | (simp; done) | (simp; omega)) [go_sem, *]; done))
  (have n0 : w1.frozen? ⟨w.heap.size + 1, 0, none⟩ = false := by (simp (disch := first | omega | (simp; done) | (simp; omega)) [go_sem, *]; done)); (have n1 : w1.frozen? ⟨w.heap.size + 1, 1, none⟩ = false := by (simp (disch := first | omega | (simp; done) | (simp; omega)) [go_sem, *]; done))
  clear hc1 hf1 hk
  go_wp2_with fail
  go_region_with (first | (go_at_call 42; refine (iWhole_any _ _).mono ?_; rintro e w2 ⟨rfl, hb2⟩; obtain ⟨hc2, hf2⟩ := bcell hb2; have hz2 := hb2.size; (try simp only [World.size_alloc, World.size_setCell, World.size_drew, size_drewN] at hz2 hc2 hf2); (have g2a : w.heap.size < w2.heap.size := by omega); (have g2b : w.heap.size + 1 < w2.heap.size := by omega); (have gx2 : w1.heap.size < w2.heap.size := by omega)) | (go_at_call 26; refine (ratMul_any _ _ _ _ _ v1 v2).mono ?_; rintro e w3 ⟨rfl, hb3⟩; obtain ⟨hc3, hf3⟩ := bcell hb3; have hz3 := hb3.size; (try simp only [World.size_alloc, World.size_setCell, World.size_drew, size_drewN] at hz3 hc3 hf3); (have g3a : w.heap.size < w3.heap.size := by omega); (have g3b : w.heap.size + 1 < w3.heap.size := by omega); (have gx3 : w1.heap.size < w3.heap.size := by omega); rw [e1]))
  all_goals go_wp2
  all_goals refine bodyPost_ret (v := .tuple #[.agg #[.int .i64 (momR s l j).1, .int .i64 (momR s l j).2.1], .bool (momR s l j).2.2]) (by simp (disch := first | omega | (simp; done) | (simp; omega)) [results, Tryd.results23, go_sem, cell_set, *]) rfl ?_
  all_goals exact ⟨rfl, by (repeat' first | (with_reducible exact Below.refl _ _) | (with_reducible assumption) | (with_reducible refine below_drewN ?_ _) | (with_reducible refine Below.drew ?_) | (with_reducible refine Below.alloc ?_ ?_ _) | (with_reducible refine Below.setCell ?_ ?_ _) | (with_reducible refine Below.trans ?_ (Below.mono (by assumption) ?_)) | first | omega | (simp only [World.size_alloc, World.size_setCell, World.size_drew, size_drewN]; omega) | (simp; done) | (simp; omega) | (simp only [World.size_alloc, World.size_setCell, World.size_drew, size_drewN] at *; omega) | (simp at *; omega))⟩
theorem iMoment_any (s l j : Int) (aR aL : Addr) (w : World) (hW : ErrW aR aL w) :
    Calls Tryd.prog 23 #[.agg #[.int .i64 s, .int .i64 l, .int .i64 j]] w fun e w' => e = .returned (.tuple #[.agg #[.int .i64 (momF s l j).1, .int .i64 (momF s l j).2.1], .bool (momF s l j).2.2]) ∧ Below w.heap.size w w' := by
  cases hv : lvB s l j with
  | false =>
    rw [show momF s l j = (0, 0, false) by simp [momF, hv]]
    exact iMoment_bad s l j aR aL w hW hv
  | true =>
    have bd := lvB_bd hv
    by_cases hj : 0 < j
    · rw [show momF s l j = momR s l j by simp [momF, hv, hj]]
      exact iMoment_yes s l j w hv hj
    · obtain rfl : j = 0 := by omega
      rw [momF_zero hv]
      exact iMoment_rest s l aR aL w hW hv
end Go.Proofs.YtdghihinednenaaDoor
