/-
  The walks of impl.FactorOf, RatSub, FactorMoment. Conditions: where the two package-level errors lie.
-/
import Derived.Test.YtdghihinednenaaDoorFactc
import Derived.Test.YtdghihinednenaaDoorMomP
import Derived.Test.YtdghihinednenaaDoorErr
namespace Go.Proofs.YtdghihinednenaaDoor
set_option linter.unusedSimpArgs false
set_option linter.unusedVariables false
open Go.RowKit

/-- The world holds the two errors. -/
structure ErrW (aR aL : Addr) (w : World) : Prop where
  size : 2 ≤ w.heap.size
  lR : aR.block < w.heap.size
  lL : aL.block < w.heap.size
  cR : w.cell? ⟨0, 0, none⟩ = some (.iface 91 (.pointer (some aR)))
  cL : w.cell? ⟨1, 0, none⟩ = some (.iface 91 (.pointer (some aL)))
  ne : aL ≠ aR
  bR : ∃ c t, w.heap[aR.block]? = some (.cells c t (0, 0))
  bL : ∃ c t, w.heap[aL.block]? = some (.cells c t (0, 0))
theorem ErrW.below {aR aL : Addr} {n : Nat} {w w' : World} (h : ErrW aR aL w) (hb : Below n w w') (hn : w.heap.size ≤ n) : ErrW aR aL w' := by
  obtain ⟨h1, h2, h3, h4, h5, h6, h7, h8⟩ := h
  have hz := hb.size
  refine ⟨by omega, by omega, by omega, ?_, ?_, h6, ?_, ?_⟩
  · rw [hb.cell (p := ⟨0, 0, none⟩) (show 0 < n by omega)]; exact h4
  · rw [hb.cell (p := ⟨1, 0, none⟩) (show 1 < n by omega)]; exact h5
  · rw [hb.block _ (by omega)]; exact h7
  · rw [hb.block _ (by omega)]; exact h8

set_option maxHeartbeats 1000000 in
theorem iFactorOf_bad (s l j : Int) (ea : Addr) (w : World) (hc : ∀ w0 : World, Below w.heap.size w w0 → w.heap.size + 1 < w0.heap.size → Calls Tryd.prog 38 #[.agg #[.int .i64 s, .int .i64 l, .int .i64 j]] w0 fun e w' => e = .returned (.tuple #[.agg #[.int .i64 0, .int .i64 0], .iface 91 (.pointer (some ea))]) ∧ Below w0.heap.size w0 w') :
    Calls Tryd.prog 16 #[.agg #[.int .i64 s, .int .i64 l, .int .i64 j]] w fun e w' => e = .returned (.tuple #[.agg #[.int .i64 0, .int .i64 0], .bool false]) ∧ Below w.heap.size w w' := by
  go_enter Tryd.func16, Tryd.ntmps16
  go_wp2_with fail
  refine (hc _ (by (repeat' first | (with_reducible exact Below.refl _ _) | (with_reducible assumption) | (with_reducible refine below_drewN ?_ _) | (with_reducible refine Below.drew ?_) | (with_reducible refine Below.alloc ?_ ?_ _) | (with_reducible refine Below.setCell ?_ ?_ _) | (with_reducible refine Below.trans ?_ (Below.mono (by assumption) ?_)) | first | omega | (simp only [World.size_alloc, World.size_setCell, World.size_drew, size_drewN]; omega) | (simp; done) | (simp; omega) | (simp only [World.size_alloc, World.size_setCell, World.size_drew, size_drewN] at *; omega) | (simp at *; omega))) (by (repeat' first | (with_reducible exact Below.refl _ _) | (with_reducible assumption) | (with_reducible refine below_drewN ?_ _) | (with_reducible refine Below.drew ?_) | (with_reducible refine Below.alloc ?_ ?_ _) | (with_reducible refine Below.setCell ?_ ?_ _) | (with_reducible refine Below.trans ?_ (Below.mono (by assumption) ?_)) | first | omega | (simp only [World.size_alloc, World.size_setCell, World.size_drew, size_drewN]; omega) | (simp; done) | (simp; omega) | (simp only [World.size_alloc, World.size_setCell, World.size_drew, size_drewN] at *; omega) | (simp at *; omega)))).mono ?_
  rintro e w1 ⟨rfl, hb1⟩
  obtain ⟨hc1, hf1⟩ := bcell hb1; have hz1 := hb1.size; (try simp only [World.size_alloc, World.size_setCell, World.size_drew, size_drewN] at hz1 hc1 hf1); (have g1a : w.heap.size < w1.heap.size := by omega); (have g1b : w.heap.size + 1 < w1.heap.size := by omega)
  go_wp2
  refine bodyPost_ret (v := .tuple #[.agg #[.int .i64 0, .int .i64 0], .bool false]) (by simp (disch := first | omega | (simp; done) | (simp; omega)) [results, Tryd.results16, go_sem, cell_set, *]) rfl ?_
  exact ⟨rfl, by (repeat' first | (with_reducible exact Below.refl _ _) | (with_reducible assumption) | (with_reducible refine below_drewN ?_ _) | (with_reducible refine Below.drew ?_) | (with_reducible refine Below.alloc ?_ ?_ _) | (with_reducible refine Below.setCell ?_ ?_ _) | (with_reducible refine Below.trans ?_ (Below.mono (by assumption) ?_)) | first | omega | (simp only [World.size_alloc, World.size_setCell, World.size_drew, size_drewN]; omega) | (simp; done) | (simp; omega) | (simp only [World.size_alloc, World.size_setCell, World.size_drew, size_drewN] at *; omega) | (simp at *; omega))⟩
set_option maxHeartbeats 1000000 in
theorem iFactorOf_any (s l j : Int) (aR aL : Addr) (w : World) (hW : ErrW aR aL w) :
    Calls Tryd.prog 16 #[.agg #[.int .i64 s, .int .i64 l, .int .i64 j]] w fun e w' => e = .returned (.tuple #[.agg #[.int .i64 (facF s l j).1, .int .i64 (facF s l j).2.1], .bool (facF s l j).2.2]) ∧ Below w.heap.size w w' := by
  cases hv : lvB s l j with
  | false =>
    rw [show facF s l j = (0, 0, false) by simp [facF, hv]]
    exact iFactorOf_bad s l j aL w fun w0 hb hz => iFac_no s l j _ w0 hv (by have := hW.size; omega) (hW.below hb (Nat.le_refl _)).cL
  | true =>
    have bd := lvB_bd hv
    by_cases hj : 0 < j
    · have hk := facR_ok hv hj
      rw [show facF s l j = facR s l j by simp [facF, hv, hj]]
      rw [hk]
      go_enter Tryd.func16, Tryd.ntmps16
      go_wp2_with fail
      refine (iFac_yes s l j _ hv hj hk).mono ?_
      rintro e w1 ⟨rfl, hb1⟩
      obtain ⟨hc1, hf1⟩ := bcell hb1; have hz1 := hb1.size; (try simp only [World.size_alloc, World.size_setCell, World.size_drew, size_drewN] at hz1 hc1 hf1); (have g1a : w.heap.size < w1.heap.size := by omega); (have g1b : w.heap.size + 1 < w1.heap.size := by omega)
      go_wp2
      refine bodyPost_ret (v := .tuple #[.agg #[.int .i64 (facR s l j).1, .int .i64 (facR s l j).2.1], .bool true]) (by simp (disch := first | omega | (simp; done) | (simp; omega)) [results, Tryd.results16, go_sem, cell_set, *]) rfl ?_
      exact ⟨rfl, by (repeat' first | (with_reducible exact Below.refl _ _) | (with_reducible assumption) | (with_reducible refine below_drewN ?_ _) | (with_reducible refine Below.drew ?_) | (with_reducible refine Below.alloc ?_ ?_ _) | (with_reducible refine Below.setCell ?_ ?_ _) | (with_reducible refine Below.trans ?_ (Below.mono (by assumption) ?_)) | first | omega | (simp only [World.size_alloc, World.size_setCell, World.size_drew, size_drewN]; omega) | (simp; done) | (simp; omega) | (simp only [World.size_alloc, World.size_setCell, World.size_drew, size_drewN] at *; omega) | (simp at *; omega))⟩
    · obtain rfl : j = 0 := by omega
      rw [show facF s l 0 = (0, 0, false) by simp [facF]]
      exact iFactorOf_bad s l 0 aR w fun w0 hb hz => iFac_rest s l _ w0 hv (by have := hW.size; omega) (hW.below hb (Nat.le_refl _)).cR
theorem sFactorOf_any (s l j : Int) (w : World) :
    Calls Tryd.prog 14 #[.agg #[.int .i64 s, .int .i64 l, .int .i64 j]] w fun e w' => e = .returned (.tuple #[.agg #[.int .i64 (facF s l j).1, .int .i64 (facF s l j).2.1], .bool (facF s l j).2.2]) ∧ Below w.heap.size w w' := by
  cases hv : lvB s l j with
  | false =>
    rw [show facF s l j = (0, 0, false) by simp [facF, hv]]
    exact sFactor_no s l j w hv
  | true =>
    have bd := lvB_bd hv
    by_cases hj : 0 < j
    · rw [show facF s l j = facR s l j by simp [facF, hv, hj]]
      exact sFactor_yes s l j w hv hj
    · obtain rfl : j = 0 := by omega
      rw [show facF s l 0 = (0, 0, false) by simp [facF]]
      exact sFactor_rest s l w hv
set_option maxHeartbeats 1000000 in
theorem ratAdd_bad (a b : Int) (w : World) (h1 : ratV a b = true) :
    Calls Tryd.prog 25 #[.agg #[.int .i64 a, .int .i64 b], .agg #[.int .i64 0, .int .i64 0]] w fun e w' => e = .returned (.tuple #[.agg #[.int .i64 0, .int .i64 0], .bool false]) ∧ Below w.heap.size w w' := by
  have u1 := ratV_true h1
  have h2 : ratV 0 0 = false := by decide
  go_enter Tryd.func25, Tryd.ntmps25
  go_wp2_with fail
  refine (iRatValid_any a b _ (by omega) (by omega) (by omega) (by omega)).mono ?_
  rintro e w1 ⟨rfl, hb1⟩
  obtain ⟨hc1, hf1⟩ := bcell hb1; have hz1 := hb1.size; (try simp only [World.size_alloc, World.size_setCell, World.size_drew, size_drewN] at hz1 hc1 hf1); (have g1a : w.heap.size < w1.heap.size := by omega); (have g1b : w.heap.size + 1 < w1.heap.size := by omega); (have g1c : w.heap.size + 1 + 1 < w1.heap.size := by omega)
  go_wp2_with fail
  refine (iRatValid_any 0 0 _ (by omega) (by omega) (by omega) (by omega)).mono ?_
  rintro e w2 ⟨rfl, hb2⟩
  obtain ⟨hc2, hf2⟩ := bcell hb2; have hz2 := hb2.size; (try simp only [World.size_alloc, World.size_setCell, World.size_drew, size_drewN] at hz2 hc2 hf2); (have g2a : w.heap.size < w2.heap.size := by omega); (have g2b : w.heap.size + 1 < w2.heap.size := by omega); (have g2c : w.heap.size + 1 + 1 < w2.heap.size := by omega)
  go_wp2
  refine bodyPost_ret (v := .tuple #[.agg #[.int .i64 0, .int .i64 0], .bool false]) (by simp (disch := first | omega | (simp; done) | (simp; omega)) [results, Tryd.results25, go_sem, cell_set, *]) rfl ?_
  exact ⟨rfl, by (repeat' first | (with_reducible exact Below.refl _ _) | (with_reducible assumption) | (with_reducible refine below_drewN ?_ _) | (with_reducible refine Below.drew ?_) | (with_reducible refine Below.alloc ?_ ?_ _) | (with_reducible refine Below.setCell ?_ ?_ _) | (with_reducible refine Below.trans ?_ (Below.mono (by assumption) ?_)) | first | omega | (simp only [World.size_alloc, World.size_setCell, World.size_drew, size_drewN]; omega) | (simp; done) | (simp; omega) | (simp only [World.size_alloc, World.size_setCell, World.size_drew, size_drewN] at *; omega) | (simp at *; omega))⟩
set_option maxHeartbeats 1000000 in
theorem ratSub_of (a b c d n m : Int) (o : Bool) (w : World) (h0 : -4000000000000000000 ≤ c) (h1 : c ≤ 4000000000000000000)
    (hc : ∀ w0 : World, Calls Tryd.prog 25 #[.agg #[.int .i64 a, .int .i64 b], .agg #[.int .i64 (-c), .int .i64 d]] w0 fun e w' => e = .returned (.tuple #[.agg #[.int .i64 n, .int .i64 m], .bool o]) ∧ Below w0.heap.size w0 w') :
    Calls Tryd.prog 27 #[.agg #[.int .i64 a, .int .i64 b], .agg #[.int .i64 c, .int .i64 d]] w fun e w' => e = .returned (.tuple #[.agg #[.int .i64 n, .int .i64 m], .bool o]) ∧ Below w.heap.size w w' := by
  go_enter Tryd.func27, Tryd.ntmps27
  go_wp2_with fail
  go_region_with (first | (go_at_call 44; refine (negative_any _ _ _ (by omega) (by omega)).mono ?_; rintro e w1 ⟨rfl, hb1⟩; obtain ⟨hc1, hf1⟩ := bcell hb1; have hz1 := hb1.size; (try simp only [World.size_alloc, World.size_setCell, World.size_drew, size_drewN] at hz1 hc1 hf1); (have g1a : w.heap.size < w1.heap.size := by omega); (have g1b : w.heap.size + 1 < w1.heap.size := by omega); (have g1c : w.heap.size + 1 + 1 < w1.heap.size := by omega)) | (go_at_call 25; refine (hc _).mono ?_; rintro e w3 ⟨rfl, hb3⟩; obtain ⟨hc3, hf3⟩ := bcell hb3; have hz3 := hb3.size; (try simp only [World.size_alloc, World.size_setCell, World.size_drew, size_drewN] at hz3 hc3 hf3); (have g3a : w.heap.size < w3.heap.size := by omega); (have g3b : w.heap.size + 1 < w3.heap.size := by omega); (have g3c : w.heap.size + 1 + 1 < w3.heap.size := by omega)))
  all_goals go_wp2
  all_goals refine bodyPost_ret (v := .tuple #[.agg #[.int .i64 n, .int .i64 m], .bool o]) (by simp (disch := first | omega | (simp; done) | (simp; omega)) [results, Tryd.results27, go_sem, cell_set, *]) rfl ?_
  all_goals exact ⟨rfl, by (repeat' first | (with_reducible exact Below.refl _ _) | (with_reducible assumption) | (with_reducible refine below_drewN ?_ _) | (with_reducible refine Below.drew ?_) | (with_reducible refine Below.alloc ?_ ?_ _) | (with_reducible refine Below.setCell ?_ ?_ _) | (with_reducible refine Below.trans ?_ (Below.mono (by assumption) ?_)) | first | omega | (simp only [World.size_alloc, World.size_setCell, World.size_drew, size_drewN]; omega) | (simp; done) | (simp; omega) | (simp only [World.size_alloc, World.size_setCell, World.size_drew, size_drewN] at *; omega) | (simp at *; omega))⟩
end Go.Proofs.YtdghihinednenaaDoor
