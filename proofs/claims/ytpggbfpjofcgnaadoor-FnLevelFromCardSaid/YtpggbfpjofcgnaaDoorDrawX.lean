/-
  The walks of the draws of texts of terms and levels. Conditions: none.
-/
import Derived.Test.YtpggbfpjofcgnaaDoorDraw
import Derived.Test.YtpggbfpjofcgnaaDoorTxt3
namespace Go.Proofs.YtpggbfpjofcgnaaDoor
set_option linter.unusedSimpArgs false
set_option linter.unusedVariables false
open Go.RowKit

set_option maxHeartbeats 1000000 in
theorem dTermText_any (a : Option Addr) (len cap : Nat) (w : World) (hb : BytesAt w a len cap) :
    Calls Tryd.prog 17 #[.slice a len cap] w fun e w' => ∃ s l : Int, e = .returned (.agg #[.int .i64 s, .int .i64 l]) ∧ -100 ≤ s ∧ s ≤ 100 ∧ -100 ≤ l ∧ l ≤ 100 ∧ Below w.heap.size w w' := by
  go_enter Tryd.func17, Tryd.ntmps17
  go_wp2_with fail
  refine (l6Open_any a len cap _ (bytesAt_alloc hb _)).mono ?_
  rintro e w1 ⟨rb, m, c, rfl, hr, hrb, hb1⟩
  obtain ⟨hc1, hf1⟩ := bcell hb1; have hz1 := hb1.size; (try simp only [World.size_alloc, World.size_setCell, World.size_drew, size_drewN] at hz1 hc1 hf1); (have g1a : w.heap.size < w1.heap.size := by omega)
  simp only [World.size_alloc] at hrb
  go_wp2_with fail
  refine (l92Term_any rb a m c 0 _ hr (by omega) (by omega)).mono ?_
  rintro e w2 ⟨s, l, p', rfl, hs0, hs1, hl0, hl1, hp0, hp1, hg2, hr2⟩
  obtain ⟨hc2, hf2⟩ := ncell hg2; have hz2 := hg2.size; (try simp only [World.size_alloc, World.size_setCell, World.size_drew, size_drewN] at hz2 hc2 hf2); (have g2a : w.heap.size < w2.heap.size := by omega)
  (have k0 : w2.cell? ⟨w.heap.size, 0, none⟩ = some (.int .i64 0) := by (simp (disch := first | omega | (simp; done) | (simp; omega)) [go_sem, *]; done)); (have k1 : w2.cell? ⟨w.heap.size, 1, none⟩ = some (.int .i64 0) := by (simp (disch := first | omega | (simp; done) | (simp; omega)) [go_sem, *]; done))
  (have n0 : w2.frozen? ⟨w.heap.size, 0, none⟩ = false := by (simp (disch := first | omega | (simp; done) | (simp; omega)) [go_sem, *]; done)); (have n1 : w2.frozen? ⟨w.heap.size, 1, none⟩ = false := by (simp (disch := first | omega | (simp; done) | (simp; omega)) [go_sem, *]; done))
  have hB : Below w.heap.size w w2 := ((show But w.heap.size rb w w2 by (repeat' first | (with_reducible exact But.refl _ _ _) | (with_reducible assumption) | (with_reducible refine But.drew ?_) | (with_reducible refine But.alloc ?_ ?_ _) | (with_reducible refine But.setCell ?_ ?_ _) | (with_reducible refine But.grown ?_ (by assumption) ?_) | (with_reducible refine But.below ?_ (by assumption) ?_) | first | omega | (simp only [World.size_alloc, World.size_setCell, World.size_drew, size_drewN]; omega) | (simp; done) | (simp; omega) | (simp only [World.size_alloc, World.size_setCell, World.size_drew, size_drewN] at *; omega) | (simp at *; omega)))).out (by omega)
  clear hc1 hf1 hc2 hf2 hb1 hg2
  go_wp2
  refine bodyPost_ret (v := .agg #[.int .i64 s, .int .i64 l]) (by simp (disch := first | omega | (simp; done) | (simp; omega)) [results, Tryd.results17, go_sem, cell_set, *]) rfl ?_
  exact ⟨s, l, rfl, by omega, by omega, by omega, by omega, by (repeat' first | (with_reducible exact Below.refl _ _) | (with_reducible assumption) | (with_reducible refine below_drewN ?_ _) | (with_reducible refine Below.drew ?_) | (with_reducible refine Below.alloc ?_ ?_ _) | (with_reducible refine Below.setCell ?_ ?_ _) | (with_reducible refine Below.trans ?_ (Below.mono (by assumption) ?_)) | first | omega | (simp only [World.size_alloc, World.size_setCell, World.size_drew, size_drewN]; omega) | (simp; done) | (simp; omega) | (simp only [World.size_alloc, World.size_setCell, World.size_drew, size_drewN] at *; omega) | (simp at *; omega))⟩
set_option maxHeartbeats 1000000 in
theorem dLevelText_any (a : Option Addr) (len cap : Nat) (w : World) (hb : BytesAt w a len cap) :
    Calls Tryd.prog 26 #[.slice a len cap] w fun e w' => ∃ s l j : Int, e = .returned (.agg #[.int .i64 s, .int .i64 l, .int .i64 j]) ∧ -100 ≤ s ∧ s ≤ 100 ∧ -100 ≤ l ∧ l ≤ 100 ∧ -100 ≤ j ∧ j ≤ 100 ∧ Below w.heap.size w w' := by
  go_enter Tryd.func26, Tryd.ntmps26
  go_wp2_with fail
  refine (l6Open_any a len cap _ (bytesAt_alloc hb _)).mono ?_
  rintro e w1 ⟨rb, m, c, rfl, hr, hrb, hb1⟩
  obtain ⟨hc1, hf1⟩ := bcell hb1; have hz1 := hb1.size; (try simp only [World.size_alloc, World.size_setCell, World.size_drew, size_drewN] at hz1 hc1 hf1); (have g1a : w.heap.size < w1.heap.size := by omega)
  simp only [World.size_alloc] at hrb
  go_wp2_with fail
  refine (l92Level_any rb a m c 0 _ hr (by omega) (by omega)).mono ?_
  rintro e w2 ⟨s, l, j, p', rfl, hs0, hs1, hl0, hl1, hj0, hj1, hp0, hp1, hg2, hr2⟩
  obtain ⟨hc2, hf2⟩ := ncell hg2; have hz2 := hg2.size; (try simp only [World.size_alloc, World.size_setCell, World.size_drew, size_drewN] at hz2 hc2 hf2); (have g2a : w.heap.size < w2.heap.size := by omega)
  (have k0 : w2.cell? ⟨w.heap.size, 0, none⟩ = some (.int .i64 0) := by (simp (disch := first | omega | (simp; done) | (simp; omega)) [go_sem, *]; done)); (have k1 : w2.cell? ⟨w.heap.size, 1, none⟩ = some (.int .i64 0) := by (simp (disch := first | omega | (simp; done) | (simp; omega)) [go_sem, *]; done)); (have k2 : w2.cell? ⟨w.heap.size, 2, none⟩ = some (.int .i64 0) := by (simp (disch := first | omega | (simp; done) | (simp; omega)) [go_sem, *]; done))
  (have n0 : w2.frozen? ⟨w.heap.size, 0, none⟩ = false := by (simp (disch := first | omega | (simp; done) | (simp; omega)) [go_sem, *]; done)); (have n1 : w2.frozen? ⟨w.heap.size, 1, none⟩ = false := by (simp (disch := first | omega | (simp; done) | (simp; omega)) [go_sem, *]; done)); (have n2 : w2.frozen? ⟨w.heap.size, 2, none⟩ = false := by (simp (disch := first | omega | (simp; done) | (simp; omega)) [go_sem, *]; done))
  have hB : Below w.heap.size w w2 := ((show But w.heap.size rb w w2 by (repeat' first | (with_reducible exact But.refl _ _ _) | (with_reducible assumption) | (with_reducible refine But.drew ?_) | (with_reducible refine But.alloc ?_ ?_ _) | (with_reducible refine But.setCell ?_ ?_ _) | (with_reducible refine But.grown ?_ (by assumption) ?_) | (with_reducible refine But.below ?_ (by assumption) ?_) | first | omega | (simp only [World.size_alloc, World.size_setCell, World.size_drew, size_drewN]; omega) | (simp; done) | (simp; omega) | (simp only [World.size_alloc, World.size_setCell, World.size_drew, size_drewN] at *; omega) | (simp at *; omega)))).out (by omega)
  clear hc1 hf1 hc2 hf2 hb1 hg2
  go_wp2
  refine bodyPost_ret (v := .agg #[.int .i64 s, .int .i64 l, .int .i64 j]) (by simp (disch := first | omega | (simp; done) | (simp; omega)) [results, Tryd.results26, go_sem, cell_set, *]) rfl ?_
  exact ⟨s, l, j, rfl, by omega, by omega, by omega, by omega, by omega, by omega, by (repeat' first | (with_reducible exact Below.refl _ _) | (with_reducible assumption) | (with_reducible refine below_drewN ?_ _) | (with_reducible refine Below.drew ?_) | (with_reducible refine Below.alloc ?_ ?_ _) | (with_reducible refine Below.setCell ?_ ?_ _) | (with_reducible refine Below.trans ?_ (Below.mono (by assumption) ?_)) | first | omega | (simp only [World.size_alloc, World.size_setCell, World.size_drew, size_drewN]; omega) | (simp; done) | (simp; omega) | (simp only [World.size_alloc, World.size_setCell, World.size_drew, size_drewN] at *; omega) | (simp at *; omega))⟩
set_option maxHeartbeats 1000000 in
theorem of_any (rb g : Nat) (a : Option Addr) (len cap : Nat) (p : Int) (w : World) (hr : Rd w rb a len cap p) (p0 : 0 ≤ p) (p1 : p ≤ 900000) (hg : g < w.heap.size) (hne : g ≠ rb)
    (hs : ∀ i : Nat, i < 8 → ∃ bs : ByteArray, w.cell? ⟨g, i, none⟩ = some (.string bs) ∧ bs.size ≤ 20) :
    Calls Tryd.prog 39 #[.pointer (some ⟨rb, 0, none⟩), .slice (some ⟨g, 0, none⟩) 8 8] w fun e w' => ∃ bs : ByteArray, e = .returned (.string bs) ∧ bs.size ≤ 20 ∧ w.grownBy w' (some rb) := by
  have HS := Lib.hid hs
  clear hs
  go_enter Tryd.func39, Tryd.ntmps39
  go_wp2_with fail
  refine (pick_any rb a len cap p _ _ hr (by omega) (by omega) (by omega)).mono ?_
  rintro e w1 ⟨x, rfl, x0, x1, -, hg1, hr1⟩
  have x8 := x1 (by omega)
  obtain ⟨k, hk⟩ := Int.eq_ofNat_of_zero_le x0
  have hk' : x = (k : Int) := hk
  subst hk'
  obtain ⟨bs, hc, hz⟩ := HS.out k (by omega)
  have hc1 : w1.cell? ⟨g, k, none⟩ = some (.string bs) := (World.cell?_of_block (hg1.block g hg (fun e => by cases e; exact hne rfl))).trans hc
  have HG := Lib.hid hg1
  clear hg1 hr1 hc x1
  go_wp2
  go_ret
  exact ⟨bs, rfl, hz, HG.out⟩
set_option maxRecDepth 20000 in
set_option maxHeartbeats 1000000 in
theorem dTermFrom_any (a : Option Addr) (len cap : Nat) (w : World) (hb : BytesAt w a len cap) :
    Calls Tryd.prog 21 #[.slice a len cap] w fun e w' => ∃ bs : ByteArray, e = .returned (.string bs) ∧ bs.size ≤ 20 ∧ Below w.heap.size w w' := by
  go_enter Tryd.func21, Tryd.ntmps21
  go_wp2_with fail
  refine (l6Open_any a len cap _ hb).mono ?_
  rintro e w1 ⟨rb, m, c, rfl, hr, hrb, hb1⟩
  have hz1 := hb1.size
  go_wp2_with fail
  refine (pick_any rb a m c 0 6 _ hr (by omega) (by omega) (by omega)).mono ?_
  rintro e w2 ⟨x, rfl, x0, x1, -, hg2, hr2⟩
  have hz2 := hg2.size
  have hlt := hr2.lt
  have HB : Hid (Below w.heap.size w w2) := Lib.hid (hb1.grown hg2 hz1 (fun k e => by cases e; omega))
  clear hb1 hg2 hr
  by_cases hx : x = 0
  · subst hx
    have hof := of_any rb w2.heap.size a m c 1 (w2.alloc (.cells #[.string ⟨#[]⟩, .string ⟨#[51]⟩, .string ⟨#[51, 74]⟩, .string ⟨#[48, 83]⟩, .string ⟨#[57, 76]⟩, .string ⟨#[49, 48, 83]⟩, .string ⟨#[51, 112]⟩, .string ⟨#[80, 51]⟩] 9)) (hr2.alloc _) (by omega) (by omega) (by simp) (by omega) (fun i hi => by
      match i, hi with
      | 0, _ => exact ⟨⟨#[]⟩, by (simp (disch := first | omega | (simp; done) | (simp; omega)) [go_sem, *]; done), by decide⟩
      | 1, _ => exact ⟨⟨#[51]⟩, by (simp (disch := first | omega | (simp; done) | (simp; omega)) [go_sem, *]; done), by decide⟩
      | 2, _ => exact ⟨⟨#[51, 74]⟩, by (simp (disch := first | omega | (simp; done) | (simp; omega)) [go_sem, *]; done), by decide⟩
      | 3, _ => exact ⟨⟨#[48, 83]⟩, by (simp (disch := first | omega | (simp; done) | (simp; omega)) [go_sem, *]; done), by decide⟩
      | 4, _ => exact ⟨⟨#[57, 76]⟩, by (simp (disch := first | omega | (simp; done) | (simp; omega)) [go_sem, *]; done), by decide⟩
      | 5, _ => exact ⟨⟨#[49, 48, 83]⟩, by (simp (disch := first | omega | (simp; done) | (simp; omega)) [go_sem, *]; done), by decide⟩
      | 6, _ => exact ⟨⟨#[51, 112]⟩, by (simp (disch := first | omega | (simp; done) | (simp; omega)) [go_sem, *]; done), by decide⟩
      | 7, _ => exact ⟨⟨#[80, 51]⟩, by (simp (disch := first | omega | (simp; done) | (simp; omega)) [go_sem, *]; done), by decide⟩
      )
    have HO := Lib.hid hof
    clear hof
    go_wp2_with fail
    refine (HO.out).mono ?_
    rintro e w3 ⟨bs, rfl, hz, hg3⟩
    go_wp2
    go_ret
    exact ⟨bs, rfl, hz, (HB.out.alloc (by omega) _).grown hg3 (by simp; omega) (fun k e => by cases e; omega)⟩
  · have hx1 : (x == 0) = false := by rw [beq_eq_false_iff_ne]; exact hx
    go_wp2_with fail
    refine (l92Term_any rb a m c (0 + 1) _ hr2 (by omega) (by omega)).mono ?_
    rintro e w3 ⟨s, l, p', rfl, hs0, hs1, hl0, hl1, hp0, hp1, hg2, hr2⟩
    have HB3 : Hid (Below w.heap.size w w3) := Lib.hid (HB.out.grown hg2 (by omega) (fun k e => by cases e; omega))
    have hz3 := hg2.size
    clear hg2 hr2
    go_wp2_with fail
    obtain ⟨X, hX⟩ : ∃ X : ByteArray, X = (if tvB s l = true then txT s l else ⟨#[]⟩) := ⟨_, rfl⟩
    have hXs : X.size ≤ 20 := by
      rw [hX]
      split
      · rename_i h
        rw [txT_size h]; omega
      · decide
    refine (sTermText_any s l _).mono ?_
    rintro e w4 ⟨rfl, hb4⟩
    rw [← hX]
    clear hX
    go_wp2
    go_ret
    exact ⟨X, rfl, hXs, HB3.out.trans (hb4.mono (by omega))⟩
set_option maxRecDepth 20000 in
set_option maxHeartbeats 1000000 in
theorem dLevelFrom_any (a : Option Addr) (len cap : Nat) (w : World) (hb : BytesAt w a len cap) :
    Calls Tryd.prog 27 #[.slice a len cap] w fun e w' => ∃ bs : ByteArray, e = .returned (.string bs) ∧ bs.size ≤ 20 ∧ Below w.heap.size w w' := by
  go_enter Tryd.func27, Tryd.ntmps27
  go_wp2_with fail
  refine (l6Open_any a len cap _ hb).mono ?_
  rintro e w1 ⟨rb, m, c, rfl, hr, hrb, hb1⟩
  have hz1 := hb1.size
  go_wp2_with fail
  refine (pick_any rb a m c 0 6 _ hr (by omega) (by omega) (by omega)).mono ?_
  rintro e w2 ⟨x, rfl, x0, x1, -, hg2, hr2⟩
  have hz2 := hg2.size
  have hlt := hr2.lt
  have HB : Hid (Below w.heap.size w w2) := Lib.hid (hb1.grown hg2 hz1 (fun k e => by cases e; omega))
  clear hb1 hg2 hr
  by_cases hx : x = 0
  · subst hx
    have hof := of_any rb w2.heap.size a m c 1 (w2.alloc (.cells #[.string ⟨#[]⟩, .string ⟨#[51, 80]⟩, .string ⟨#[51, 80, 51]⟩, .string ⟨#[50, 80, 49]⟩, .string ⟨#[50, 80, 49, 47, 50, 111]⟩, .string ⟨#[51, 80, 48, 50]⟩, .string ⟨#[57, 83, 52]⟩, .string ⟨#[49, 83, 48, 32]⟩] 9)) (hr2.alloc _) (by omega) (by omega) (by simp) (by omega) (fun i hi => by
      match i, hi with
      | 0, _ => exact ⟨⟨#[]⟩, by (simp (disch := first | omega | (simp; done) | (simp; omega)) [go_sem, *]; done), by decide⟩
      | 1, _ => exact ⟨⟨#[51, 80]⟩, by (simp (disch := first | omega | (simp; done) | (simp; omega)) [go_sem, *]; done), by decide⟩
      | 2, _ => exact ⟨⟨#[51, 80, 51]⟩, by (simp (disch := first | omega | (simp; done) | (simp; omega)) [go_sem, *]; done), by decide⟩
      | 3, _ => exact ⟨⟨#[50, 80, 49]⟩, by (simp (disch := first | omega | (simp; done) | (simp; omega)) [go_sem, *]; done), by decide⟩
      | 4, _ => exact ⟨⟨#[50, 80, 49, 47, 50, 111]⟩, by (simp (disch := first | omega | (simp; done) | (simp; omega)) [go_sem, *]; done), by decide⟩
      | 5, _ => exact ⟨⟨#[51, 80, 48, 50]⟩, by (simp (disch := first | omega | (simp; done) | (simp; omega)) [go_sem, *]; done), by decide⟩
      | 6, _ => exact ⟨⟨#[57, 83, 52]⟩, by (simp (disch := first | omega | (simp; done) | (simp; omega)) [go_sem, *]; done), by decide⟩
      | 7, _ => exact ⟨⟨#[49, 83, 48, 32]⟩, by (simp (disch := first | omega | (simp; done) | (simp; omega)) [go_sem, *]; done), by decide⟩
      )
    have HO := Lib.hid hof
    clear hof
    go_wp2_with fail
    refine (HO.out).mono ?_
    rintro e w3 ⟨bs, rfl, hz, hg3⟩
    go_wp2
    go_ret
    exact ⟨bs, rfl, hz, (HB.out.alloc (by omega) _).grown hg3 (by simp; omega) (fun k e => by cases e; omega)⟩
  · have hx1 : (x == 0) = false := by rw [beq_eq_false_iff_ne]; exact hx
    go_wp2_with fail
    refine (l92Level_any rb a m c (0 + 1) _ hr2 (by omega) (by omega)).mono ?_
    rintro e w3 ⟨s, l, j, p', rfl, hs0, hs1, hl0, hl1, hj0, hj1, hp0, hp1, hg2, hr2⟩
    have HB3 : Hid (Below w.heap.size w w3) := Lib.hid (HB.out.grown hg2 (by omega) (fun k e => by cases e; omega))
    have hz3 := hg2.size
    clear hg2 hr2
    go_wp2_with fail
    obtain ⟨X, hX⟩ : ∃ X : ByteArray, X = (if lvB s l j = true then txL s l j else ⟨#[]⟩) := ⟨_, rfl⟩
    have hXs : X.size ≤ 20 := by
      rw [hX]
      split
      · rename_i h
        obtain ⟨ht, j0, j1⟩ := lv_bd h
        unfold txL
        rw [ByteArray.size_append, txT_size ht]
        have := txJ_size j0 j1
        omega
      · decide
    refine (sLevelText_any s l j _).mono ?_
    rintro e w4 ⟨rfl, hb4⟩
    rw [← hX]
    clear hX
    go_wp2
    go_ret
    exact ⟨X, rfl, hXs, HB3.out.trans (hb4.mono (by omega))⟩
end Go.Proofs.YtpggbfpjofcgnaaDoor
