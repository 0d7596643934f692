/-
  The walks of DrawTermsOf and DrawTermCount. Conditions: none.
-/
import Derived.Test.YtlbmdicfoiehgaaDoorDrawT
import Derived.Test.YtlbmdicfoiehgaaDoorTms
namespace Go.Proofs.YtlbmdicfoiehgaaDoor
set_option linter.unusedSimpArgs false
set_option linter.unusedVariables false
open Go.RowKit

theorem trm_in {l n s k : Int} {p : Int × Int} (h : p ∈ trm l n s k) : p = (s, k) := (List.mem_replicate.1 h).2
theorem rowT_in {l n s : Int} {p : Int × Int} : ∀ {j : Nat}, j ≤ 7 → p ∈ rowT l n s j → p.1 = s ∧ 0 ≤ p.2 ∧ p.2 ≤ 6
  | 0, _, h => by simp [rowT] at h
  | j + 1, hj, h => by
    rcases List.mem_append.1 h with h | h
    · exact rowT_in (by omega) h
    · have := trm_in h
      subst this
      simp; omega
theorem tsL_in {l n : Int} {p : Int × Int} : ∀ {i : Nat}, i ≤ 6 → p ∈ tsL l n i → 0 ≤ p.1 ∧ p.1 ≤ 5 ∧ 0 ≤ p.2 ∧ p.2 ≤ 6
  | 0, _, h => by simp [tsL] at h
  | i + 1, hi, h => by
    rcases List.mem_append.1 h with h | h
    · exact tsL_in (by omega) h
    · have := rowT_in (by omega) h
      omega
theorem termsP_in {l n : Int} {p : Int × Int} (h : p ∈ termsP l n) : 0 ≤ p.1 ∧ p.1 ≤ 5 ∧ 0 ≤ p.2 ∧ p.2 ≤ 6 := by
  unfold termsP at h
  split at h
  · exact tsL_in (by omega) h
  · simp at h
theorem termsP_len (l n : Int) : (termsP l n).length ≤ 30000 := by
  unfold termsP
  split
  · have := tsL_len l n 6; omega
  · simp
theorem bytesAt_alloc' {w : World} {a : Option Addr} {len cap : Nat} (h : BytesAt w a len cap) (o : Obj) : BytesAt (w.alloc o) a len cap := by
  refine ⟨h.1, h.2.1, h.2.2.1, fun x e i hi => ?_⟩
  obtain ⟨c, c0, c1, hc⟩ := h.2.2.2 x e i hi
  exact ⟨c, c0, c1, (((Below.refl w.heap.size w).alloc (Nat.le_refl _) o).cell (World.block_lt_of_cell? w _ hc)).trans hc⟩
set_option maxHeartbeats 1000000 in
theorem dTermsOf_any (a : Option Addr) (len cap : Nat) (w : World) (hb : BytesAt w a len cap) :
    Calls Tryd.prog 22 #[.slice a len cap] w fun e w' => ∃ l n : Int, e = .returned (.tuple #[.int .i64 l, .int .i64 n]) ∧ -1 ≤ l ∧ l ≤ 3 ∧ -1 ≤ n ∧ n ≤ 20 ∧ Below w.heap.size w w' := by
  go_enter Tryd.func22, Tryd.ntmps22
  go_wp2_with fail
  refine (l6Open_any a len cap _ hb).mono ?_
  rintro e w1 ⟨rb, m, c, rfl, hr, hrb, hb1⟩
  have hz1 := hb1.size
  go_wp2_with fail
  refine (l92Fill_any rb a m c 0 _ hr (by omega) (by omega)).mono ?_
  rintro e w2 ⟨l, n, p', rfl, hl0, hl1, hn0, hn1, hp0, hp1, hg2, hr2⟩
  have hB : Below w.heap.size w w2 := ((show But w.heap.size rb w w2 by (repeat' first | (with_reducible exact But.refl _ _ _) | (with_reducible assumption) | (with_reducible refine But.drew ?_) | (with_reducible refine But.alloc ?_ ?_ _) | (with_reducible refine But.setCell ?_ ?_ _) | (with_reducible refine But.grown ?_ (by assumption) ?_) | (with_reducible refine But.below ?_ (by assumption) ?_) | first | omega | (simp only [World.size_alloc, World.size_setCell, World.size_drew, size_drewN]; omega) | (simp; done) | (simp; omega) | (simp only [World.size_alloc, World.size_setCell, World.size_drew, size_drewN] at *; omega) | (simp at *; omega)))).out (by omega)
  go_wp2
  refine bodyPost_ret (v := .tuple #[.int .i64 l, .int .i64 n]) (by simp (disch := first | omega | (simp; done) | (simp; omega)) [results, Tryd.results22, go_sem, cell_set, *]) rfl ?_
  exact ⟨l, n, rfl, by omega, by omega, by omega, by omega, by (repeat' first | (with_reducible exact Below.refl _ _) | (with_reducible assumption) | (with_reducible refine below_drewN ?_ _) | (with_reducible refine Below.drew ?_) | (with_reducible refine Below.alloc ?_ ?_ _) | (with_reducible refine Below.setCell ?_ ?_ _) | (with_reducible refine Below.trans ?_ (Below.mono (by assumption) ?_)) | first | omega | (simp only [World.size_alloc, World.size_setCell, World.size_drew, size_drewN]; omega) | (simp; done) | (simp; omega) | (simp only [World.size_alloc, World.size_setCell, World.size_drew, size_drewN] at *; omega) | (simp at *; omega))⟩
set_option maxRecDepth 20000 in
set_option maxHeartbeats 2000000 in
theorem dTermCount_any (a : Option Addr) (len cap : Nat) (w : World) (hb : BytesAt w a len cap) :
    Calls Tryd.prog 13 #[.slice a len cap] w fun e w' => ∃ l n s k : Int, e = .returned (.tuple #[.int .i64 l, .int .i64 n, .agg #[.int .i64 s, .int .i64 k]]) ∧ -1 ≤ l ∧ l ≤ 3 ∧ -1 ≤ n ∧ n ≤ 20 ∧ -1 ≤ s ∧ s ≤ 9 ∧ -1 ≤ k ∧ k ≤ 9 ∧ Below w.heap.size w w' := by
  go_enter Tryd.func13, Tryd.ntmps13
  go_wp2_with fail
  refine (l6Open_any a len cap _ (bytesAt_alloc' hb _)).mono ?_
  rintro e w1 ⟨rb, m, c, rfl, hr, hrb, hb1⟩
  obtain ⟨hc1, hf1⟩ := bcell hb1; have hz1 := hb1.size; (try simp only [World.size_alloc, World.size_setCell, World.size_drew, size_drewN] at hz1 hc1 hf1); (have g1a : w.heap.size < w1.heap.size := by omega)
  simp only [World.size_alloc] at hrb
  go_wp2_with fail
  refine (l92Fill_any rb a m c 0 _ hr (by omega) (by omega)).mono ?_
  rintro e w2 ⟨l, n, p2, rfl, hl0, hl1, hn0, hn1, hp0, hp1, hg2, hr2⟩
  obtain ⟨hc2, hf2⟩ := ncell hg2; have hz2 := hg2.size; (try simp only [World.size_alloc, World.size_setCell, World.size_drew, size_drewN] at hz2 hc2 hf2); (have g2a : w.heap.size < w2.heap.size := by omega)
  (have t0 : w2.cell? ⟨w.heap.size, 0, none⟩ = some (.int .i64 0) := by (simp (disch := first | omega | (simp; done) | (simp; omega)) [go_sem, *]; done)); (have t1 : w2.cell? ⟨w.heap.size, 1, none⟩ = some (.int .i64 0) := by (simp (disch := first | omega | (simp; done) | (simp; omega)) [go_sem, *]; done))
  (have u0 : w2.frozen? ⟨w.heap.size, 0, none⟩ = false := by (simp (disch := first | omega | (simp; done) | (simp; omega)) [go_sem, *]; done)); (have u1 : w2.frozen? ⟨w.heap.size, 1, none⟩ = false := by (simp (disch := first | omega | (simp; done) | (simp; omega)) [go_sem, *]; done))
  have hB2 : But w.heap.size rb w w2 := by (repeat' first | (with_reducible exact But.refl _ _ _) | (with_reducible assumption) | (with_reducible refine But.drew ?_) | (with_reducible refine But.alloc ?_ ?_ _) | (with_reducible refine But.setCell ?_ ?_ _) | (with_reducible refine But.grown ?_ (by assumption) ?_) | (with_reducible refine But.below ?_ (by assumption) ?_) | first | omega | (simp only [World.size_alloc, World.size_setCell, World.size_drew, size_drewN]; omega) | (simp; done) | (simp; omega) | (simp only [World.size_alloc, World.size_setCell, World.size_drew, size_drewN] at *; omega) | (simp at *; omega))
  clear hc1 hf1 hc2 hf2 hb1 hg2
  go_wp2_with fail
  refine (sTerms_any l n _).mono ?_
  rintro e w3 ⟨v, rfl, hown, hb3⟩
  have hz3 := hb3.size
  have g3a : w.heap.size < w3.heap.size := by omega
  have hr3 := hr2.below hb3
  have t0' := (hb3.cell (p := ⟨w.heap.size, 0, none⟩) g2a).trans t0
  have t1' := (hb3.cell (p := ⟨w.heap.size, 1, none⟩) g2a).trans t1
  have u0' := (hb3.frozen (p := ⟨w.heap.size, 0, none⟩) g2a).trans u0
  have u1' := (hb3.frozen (p := ⟨w.heap.size, 1, none⟩) g2a).trans u1
  have hB3 : But w.heap.size rb w w3 := by (repeat' first | (with_reducible exact But.refl _ _ _) | (with_reducible assumption) | (with_reducible refine But.drew ?_) | (with_reducible refine But.alloc ?_ ?_ _) | (with_reducible refine But.setCell ?_ ?_ _) | (with_reducible refine But.grown ?_ (by assumption) ?_) | (with_reducible refine But.below ?_ (by assumption) ?_) | first | omega | (simp only [World.size_alloc, World.size_setCell, World.size_drew, size_drewN]; omega) | (simp; done) | (simp; omega) | (simp only [World.size_alloc, World.size_setCell, World.size_drew, size_drewN] at *; omega) | (simp at *; omega))
  have hln := termsP_len l n
  obtain ⟨aa, cc, hvv⟩ := row_len hown
  clear t0 t1 u0 u1 hB2
  by_cases h0 : (termsP l n).length = 0
  · rw [hvv, h0]
    clear hown hvv
    go_wp2_with fail
    refine (l92Term_any rb a m c p2 _ hr3 (by omega) (by omega)).mono ?_
    rintro e w4 ⟨s, k, p4, rfl, hs0, hs1, hk0, hk1, hp3, hp4, hg4, hr4⟩
    obtain ⟨hc4, hf4⟩ := ncell hg4; have hz4 := hg4.size; (try simp only [World.size_alloc, World.size_setCell, World.size_drew, size_drewN] at hz4 hc4 hf4); (have g4a : w.heap.size < w4.heap.size := by omega)
    (have x0 : w4.cell? ⟨w.heap.size, 0, none⟩ = some (.int .i64 0) := by (simp (disch := first | omega | (simp; done) | (simp; omega)) [go_sem, *]; done)); (have x1 : w4.cell? ⟨w.heap.size, 1, none⟩ = some (.int .i64 0) := by (simp (disch := first | omega | (simp; done) | (simp; omega)) [go_sem, *]; done))
    (have y0 : w4.frozen? ⟨w.heap.size, 0, none⟩ = false := by (simp (disch := first | omega | (simp; done) | (simp; omega)) [go_sem, *]; done)); (have y1 : w4.frozen? ⟨w.heap.size, 1, none⟩ = false := by (simp (disch := first | omega | (simp; done) | (simp; omega)) [go_sem, *]; done))
    have hB4 : Below w.heap.size w w4 := ((show But w.heap.size rb w w4 by (repeat' first | (with_reducible exact But.refl _ _ _) | (with_reducible assumption) | (with_reducible refine But.drew ?_) | (with_reducible refine But.alloc ?_ ?_ _) | (with_reducible refine But.setCell ?_ ?_ _) | (with_reducible refine But.grown ?_ (by assumption) ?_) | (with_reducible refine But.below ?_ (by assumption) ?_) | first | omega | (simp only [World.size_alloc, World.size_setCell, World.size_drew, size_drewN]; omega) | (simp; done) | (simp; omega) | (simp only [World.size_alloc, World.size_setCell, World.size_drew, size_drewN] at *; omega) | (simp at *; omega)))).out (by omega)
    clear hc4 hf4 t0' t1' u0' u1' hg4
    go_wp2
    refine bodyPost_ret (v := .tuple #[.int .i64 l, .int .i64 n, .agg #[.int .i64 s, .int .i64 k]]) (by simp (disch := first | omega | (simp; done) | (simp; omega)) [results, Tryd.results13, go_sem, cell_set, *]) rfl ?_
    exact ⟨l, n, s, k, rfl, by omega, by omega, by omega, by omega, by omega, by omega, by omega, by omega, by (repeat' first | (with_reducible exact Below.refl _ _) | (with_reducible assumption) | (with_reducible refine below_drewN ?_ _) | (with_reducible refine Below.drew ?_) | (with_reducible refine Below.alloc ?_ ?_ _) | (with_reducible refine Below.setCell ?_ ?_ _) | (with_reducible refine Below.trans ?_ (Below.mono (by assumption) ?_)) | first | omega | (simp only [World.size_alloc, World.size_setCell, World.size_drew, size_drewN]; omega) | (simp; done) | (simp; omega) | (simp only [World.size_alloc, World.size_setCell, World.size_drew, size_drewN] at *; omega) | (simp at *; omega))⟩
  · obtain ⟨g, cp, rfl, hg1, hg2', hc, -⟩ := row_form hown (by omega)
    have hrlt := hr2.lt
    have HC := Lib.hid hc
    clear hown hvv hc
    have hlen0 : ((termsP l n).length : Int) ≤ 30000 := by omega
    have hlen1 : (0 : Int) < ((termsP l n).length : Int) := by omega
    go_wp2_with fail
    refine (pick_any rb a m c p2 _ _ hr3 (by omega) (by omega) (by omega)).mono ?_
    rintro e w4 ⟨x4, rfl, a40, a41, -, hg4, hr4⟩
    obtain ⟨hc4, hf4⟩ := ncell hg4; have hz4 := hg4.size; (try simp only [World.size_alloc, World.size_setCell, World.size_drew, size_drewN] at hz4 hc4 hf4); (have g4a : w.heap.size < w4.heap.size := by omega)
    (have x0 : w4.cell? ⟨w.heap.size, 0, none⟩ = some (.int .i64 0) := by (simp (disch := first | omega | (simp; done) | (simp; omega)) [go_sem, *]; done)); (have x1 : w4.cell? ⟨w.heap.size, 1, none⟩ = some (.int .i64 0) := by (simp (disch := first | omega | (simp; done) | (simp; omega)) [go_sem, *]; done))
    (have y0 : w4.frozen? ⟨w.heap.size, 0, none⟩ = false := by (simp (disch := first | omega | (simp; done) | (simp; omega)) [go_sem, *]; done)); (have y1 : w4.frozen? ⟨w.heap.size, 1, none⟩ = false := by (simp (disch := first | omega | (simp; done) | (simp; omega)) [go_sem, *]; done))
    have hB4 : But w.heap.size rb w w4 := by (repeat' first | (with_reducible exact But.refl _ _ _) | (with_reducible assumption) | (with_reducible refine But.drew ?_) | (with_reducible refine But.alloc ?_ ?_ _) | (with_reducible refine But.setCell ?_ ?_ _) | (with_reducible refine But.grown ?_ (by assumption) ?_) | (with_reducible refine But.below ?_ (by assumption) ?_) | first | omega | (simp only [World.size_alloc, World.size_setCell, World.size_drew, size_drewN]; omega) | (simp; done) | (simp; omega) | (simp only [World.size_alloc, World.size_setCell, World.size_drew, size_drewN] at *; omega) | (simp at *; omega))
    have HC4 : Hid (∀ j, j < (termsP l n).length * 2 → w4.cell? ⟨g, j, none⟩ = (vS (termsP l n))[j]?) := Lib.hid fun j hj => (hc4 g j hg2' (by omega)).trans (HC.out j hj)
    clear hc4 hf4 t0' t1' u0' u1' hg4 HC a41
    by_cases hx4 : 0 < x4
    · have hx4' : decide (0 < x4) = true := by simp [hx4]
      go_wp2_with fail
      go_region_with (go_at_call 31; refine (pick_any rb a m c (p2 + 1) _ _ (by (repeat' first | assumption | (with_reducible refine Rd.alloc ?_ _) | (with_reducible refine Rd.drew ?_) | (with_reducible refine Rd.below ?_ (by assumption)) | (with_reducible refine Rd.set hr ?_ ?_) | first | omega | (simp only [World.size_alloc, World.size_setCell, World.size_drew, size_drewN]; omega) | (simp; done) | (simp; omega) | (simp only [World.size_alloc, World.size_setCell, World.size_drew, size_drewN] at *; omega) | (simp at *; omega))) (by omega) (by omega) (by omega)).mono ?_; rintro e w5 ⟨x5, rfl, a50, a51, -, hg5, hr5⟩; obtain ⟨hc5, hf5⟩ := ncell hg5; have hz5 := hg5.size; (try simp only [World.size_alloc, World.size_setCell, World.size_drew, size_drewN] at hz5 hc5 hf5); (have g5a : w.heap.size < w5.heap.size := by omega); (have a52 := a51 (by omega)); clear a51; (obtain ⟨p, hp⟩ : ∃ p, (termsP l n)[x5.toNat]? = some p := ⟨_, List.getElem?_eq_getElem (by omega)⟩); (have pin := termsP_in (List.mem_of_getElem? hp)); (have z0 : w5.cell? ⟨g, x5.toNat * 2, none⟩ = some (.int .i64 p.1) := (hc5 g _ (by omega) (by omega)).trans ((HC4.out _ (by omega)).trans (vS_get _ _ _ hp).1)); (have z1 : w5.cell? ⟨g, x5.toNat * 2 + 1, none⟩ = some (.int .i64 p.2) := (hc5 g _ (by omega) (by omega)).trans ((HC4.out _ (by omega)).trans (vS_get _ _ _ hp).2)); (have xx0 : w5.cell? ⟨w.heap.size, 0, none⟩ = some (.int .i64 0) := by (simp (disch := first | omega | (simp; done) | (simp; omega)) [go_sem, *]; done)); (have xx1 : w5.cell? ⟨w.heap.size, 1, none⟩ = some (.int .i64 0) := by (simp (disch := first | omega | (simp; done) | (simp; omega)) [go_sem, *]; done)); (have yy0 : w5.frozen? ⟨w.heap.size, 0, none⟩ = false := by (simp (disch := first | omega | (simp; done) | (simp; omega)) [go_sem, *]; done)); (have yy1 : w5.frozen? ⟨w.heap.size, 1, none⟩ = false := by (simp (disch := first | omega | (simp; done) | (simp; omega)) [go_sem, *]; done)); (have hB5 : Below w.heap.size w w5 := ((show But w.heap.size rb w w5 by (repeat' first | (with_reducible exact But.refl _ _ _) | (with_reducible assumption) | (with_reducible refine But.drew ?_) | (with_reducible refine But.alloc ?_ ?_ _) | (with_reducible refine But.setCell ?_ ?_ _) | (with_reducible refine But.grown ?_ (by assumption) ?_) | (with_reducible refine But.below ?_ (by assumption) ?_) | first | omega | (simp only [World.size_alloc, World.size_setCell, World.size_drew, size_drewN]; omega) | (simp; done) | (simp; omega) | (simp only [World.size_alloc, World.size_setCell, World.size_drew, size_drewN] at *; omega) | (simp at *; omega)))).out (by omega)); clear hc5 hf5 hg5)
      all_goals go_wp2
      all_goals refine bodyPost_ret (v := .tuple #[.int .i64 l, .int .i64 n, .agg #[.int .i64 p.1, .int .i64 p.2]]) (by simp (disch := first | omega | (simp; done) | (simp; omega)) [results, Tryd.results13, go_sem, cell_set, *]) rfl ?_
      all_goals exact ⟨l, n, p.1, p.2, rfl, by omega, by omega, by omega, by omega, by omega, by omega, by omega, by omega, by (repeat' first | (with_reducible exact Below.refl _ _) | (with_reducible assumption) | (with_reducible refine below_drewN ?_ _) | (with_reducible refine Below.drew ?_) | (with_reducible refine Below.alloc ?_ ?_ _) | (with_reducible refine Below.setCell ?_ ?_ _) | (with_reducible refine Below.trans ?_ (Below.mono (by assumption) ?_)) | first | omega | (simp only [World.size_alloc, World.size_setCell, World.size_drew, size_drewN]; omega) | (simp; done) | (simp; omega) | (simp only [World.size_alloc, World.size_setCell, World.size_drew, size_drewN] at *; omega) | (simp at *; omega))⟩
    · have hx4' : decide (0 < x4) = false := by simp [hx4]
      go_wp2_with fail
      refine (l92Term_any rb a m c (p2 + 1) _ hr4 (by omega) (by omega)).mono ?_
      rintro e w5 ⟨s, k, p5, rfl, hs0, hs1, hk0, hk1, hp3, hp4, hg5, hr5⟩
      obtain ⟨hc5, hf5⟩ := ncell hg5; have hz5 := hg5.size; (try simp only [World.size_alloc, World.size_setCell, World.size_drew, size_drewN] at hz5 hc5 hf5); (have g5a : w.heap.size < w5.heap.size := by omega)
      (have xx0 : w5.cell? ⟨w.heap.size, 0, none⟩ = some (.int .i64 0) := by (simp (disch := first | omega | (simp; done) | (simp; omega)) [go_sem, *]; done)); (have xx1 : w5.cell? ⟨w.heap.size, 1, none⟩ = some (.int .i64 0) := by (simp (disch := first | omega | (simp; done) | (simp; omega)) [go_sem, *]; done))
      (have yy0 : w5.frozen? ⟨w.heap.size, 0, none⟩ = false := by (simp (disch := first | omega | (simp; done) | (simp; omega)) [go_sem, *]; done)); (have yy1 : w5.frozen? ⟨w.heap.size, 1, none⟩ = false := by (simp (disch := first | omega | (simp; done) | (simp; omega)) [go_sem, *]; done))
      have hB5 : Below w.heap.size w w5 := ((show But w.heap.size rb w w5 by (repeat' first | (with_reducible exact But.refl _ _ _) | (with_reducible assumption) | (with_reducible refine But.drew ?_) | (with_reducible refine But.alloc ?_ ?_ _) | (with_reducible refine But.setCell ?_ ?_ _) | (with_reducible refine But.grown ?_ (by assumption) ?_) | (with_reducible refine But.below ?_ (by assumption) ?_) | first | omega | (simp only [World.size_alloc, World.size_setCell, World.size_drew, size_drewN]; omega) | (simp; done) | (simp; omega) | (simp only [World.size_alloc, World.size_setCell, World.size_drew, size_drewN] at *; omega) | (simp at *; omega)))).out (by omega)
      clear hc5 hf5 hg5 x0 x1 y0 y1
      go_wp2
      refine bodyPost_ret (v := .tuple #[.int .i64 l, .int .i64 n, .agg #[.int .i64 s, .int .i64 k]]) (by simp (disch := first | omega | (simp; done) | (simp; omega)) [results, Tryd.results13, go_sem, cell_set, *]) rfl ?_
      exact ⟨l, n, s, k, rfl, by omega, by omega, by omega, by omega, by omega, by omega, by omega, by omega, by (repeat' first | (with_reducible exact Below.refl _ _) | (with_reducible assumption) | (with_reducible refine below_drewN ?_ _) | (with_reducible refine Below.drew ?_) | (with_reducible refine Below.alloc ?_ ?_ _) | (with_reducible refine Below.setCell ?_ ?_ _) | (with_reducible refine Below.trans ?_ (Below.mono (by assumption) ?_)) | first | omega | (simp only [World.size_alloc, World.size_setCell, World.size_drew, size_drewN]; omega) | (simp; done) | (simp; omega) | (simp only [World.size_alloc, World.size_setCell, World.size_drew, size_drewN] at *; omega) | (simp at *; omega))⟩
end Go.Proofs.YtlbmdicfoiehgaaDoor
