/-
  The walks of the laws FnLevelMean and FnLevelTop. Conditions: none.
-/
import Derived.Test.YtjienggophfhfaaLaws2
import Derived.Test.YtjienggophfhfaaShift
import Derived.Test.YtjienggophfhfaaSums
import Derived.Deep.RegionHeld3
namespace Go.Proofs.Ytjienggophfhfaa
set_option linter.unusedSimpArgs false
set_option linter.unusedVariables false
open Go.RowKit

set_option maxHeartbeats 1000000 in
theorem walk_FnLevelMean (a : Option Addr) (len cap : Nat) (w : World) (hb : BytesAt w a len cap) :
    Calls Try.prog 8 #[.slice a len cap] w fun e w' => e = .returned (.bool true) ∧ Below w.heap.size w w' := by
  by_cases hlen : 1048576 < len
  · clear hb
    go_enter Try.func8, Try.ntmps8
    go_wp2
    go_ret
    exact ⟨rfl, Below.refl _ _⟩
  · have hlen' : len ≤ 1048576 := by omega
    clear hlen
    have HB := Lib.hid hb
    clear hb
    go_enter Try.func8, Try.ntmps8
    go_wp2_with fail
    refine (dLevelsOf_any a len cap _ HB.out).mono ?_
    rintro e w1 ⟨s, l, rfl, hs0, hs1, hl0, hl1, hb1⟩
    have hz1 := hb1.size
    have hsh := lvJs_short s l
    by_cases hn : (lvJs s l).length = 0
    · have hnil : lvJs s l = [] := List.eq_nil_of_length_eq_zero hn
      go_wp2_with fail
      refine (iLevels_any _ _ _).mono ?_
      rintro e w2 ⟨v2, rfl, ho2, hb2⟩
      rw [hnil] at ho2
      obtain ⟨a2, c2, hv2⟩ := row_len ho2
      have t0 : w2.cell? ⟨w1.heap.size, 0, none⟩ = some (.int .i64 s) := (hb2.cell (p := ⟨w1.heap.size, 0, none⟩) (by simp)).trans (by simp [go_sem])
      have t1 : w2.cell? ⟨w1.heap.size, 1, none⟩ = some (.int .i64 l) := (hb2.cell (p := ⟨w1.heap.size, 1, none⟩) (by simp)).trans (by simp [go_sem])
      have hz2 := hb2.size
      rw [World.size_alloc] at hz2
      rw [hv2]
      go_wp2_with fail
      refine (sLevels_any _ _ _).mono ?_
      rintro e w3 ⟨v3, rfl, ho3, hb3⟩
      rw [hnil] at ho3
      obtain ⟨a3, c3, hv3⟩ := row_len ho3
      rw [hv3]
      simp only [List.length_nil]
      go_wp2_with (go_at_call 15; refine (sameLevels_nil _ _ _ _ _).mono ?_; rintro e w' ⟨rfl, rfl⟩)
      go_ret
      exact ⟨rfl, by (repeat' first | (with_reducible exact Below.refl _ _) | (with_reducible assumption) | (with_reducible refine below_drewN ?_ _) | (with_reducible refine Below.drew ?_) | (with_reducible refine Below.alloc ?_ ?_ _) | (with_reducible refine Below.setCell ?_ ?_ _) | (with_reducible refine Below.trans ?_ (Below.mono (by assumption) ?_)) | first | omega | (simp only [World.size_alloc, World.size_setCell, World.size_drew, size_drewN]; omega) | (simp; done) | (simp; omega) | (simp only [World.size_alloc, World.size_setCell, World.size_drew, size_drewN] at *; omega) | (simp at *; omega))⟩
    · have hn0 : 0 < (lvJs s l).length := by omega
      clear hn
      go_wp2_with fail
      refine (iLevels_some _ _ _ hn0).mono ?_
      rintro e w2 ⟨g1, c1, rfl, L0, -, -, hg1, hg1', hb2⟩
      have t0' : w2.cell? ⟨w1.heap.size, 0, none⟩ = some (.int .i64 s) := (hb2.cell (p := ⟨w1.heap.size, 0, none⟩) (by simp)).trans (by simp [go_sem])
      have t1' : w2.cell? ⟨w1.heap.size, 1, none⟩ = some (.int .i64 l) := (hb2.cell (p := ⟨w1.heap.size, 1, none⟩) (by simp)).trans (by simp [go_sem])
      have hz2 := hb2.size
      rw [World.size_alloc] at hz2 hg1
      go_wp2_with fail
      refine (sLevels_some _ _ _ hn0).mono ?_
      rintro e w3 ⟨g2, c2, rfl, M0, -, -, hg2, hg2', hb3⟩
      have hz3 := hb3.size
      have t0 : w3.cell? ⟨w1.heap.size, 0, none⟩ = some (.int .i64 s) := (hb3.cell (p := ⟨w1.heap.size, 0, none⟩) (by simp; omega)).trans t0'
      have t1 : w3.cell? ⟨w1.heap.size, 1, none⟩ = some (.int .i64 l) := (hb3.cell (p := ⟨w1.heap.size, 1, none⟩) (by simp; omega)).trans t1'
      have L1 : LvAt w3 g1 s l (lvJs s l) := LvAt.keep L0 (fun o => hb3.cell (p := ⟨g1, o, none⟩) hg1')
      have M1 : LvAt w3 g2 s l (lvJs s l) := M0
      have hB : Below w.heap.size w w3 := by (repeat' first | (with_reducible exact Below.refl _ _) | (with_reducible assumption) | (with_reducible refine below_drewN ?_ _) | (with_reducible refine Below.drew ?_) | (with_reducible refine Below.alloc ?_ ?_ _) | (with_reducible refine Below.setCell ?_ ?_ _) | (with_reducible refine Below.trans ?_ (Below.mono (by assumption) ?_)) | first | omega | (simp only [World.size_alloc, World.size_setCell, World.size_drew, size_drewN]; omega) | (simp; done) | (simp; omega) | (simp only [World.size_alloc, World.size_setCell, World.size_drew, size_drewN] at *; omega) | (simp at *; omega))
      have hne : (((lvJs s l).length : Int) == 0) = false := by rw [beq_eq_false_iff_ne]; omega
      have LL := Lib.hid L1
      have MM := Lib.hid M1
      clear L0 M0 L1 M1 t0' t1' hb1 hb2 hb3
      go_wp2_with fail
      refine (sameLevels_some _ _ _ _ _ _ _ _ hsh LL.out MM.out).mono ?_
      rintro e w4 ⟨rfl, m4, rfl⟩
      clear MM
      go_wp2_with fail
      obtain ⟨W, hW⟩ : ∃ W : World, W = w3.drewN m4 := ⟨_, rfl⟩
      rw [← hW]
      have L4 : LvAt W g1 s l (lvJs s l) := by subst hW; exact LL.out
      have hgW : g1 < W.heap.size := by subst hW; rw [size_drewN]; omega
      have hBW : Below w.heap.size w W := by subst hW; exact below_drewN hB _
      clear hW LL
      have LL := Lib.hid L4
      clear L4 t0 t1 hB
      go_loopw [6, 7] (fun sm i wr => ∃ k : Nat, k ≤ (lvJs s l).length ∧ i = .int .i64 k ∧ sm = .int .i64 (lsum (fMean s l) ((lvJs s l).take k)) ∧ Below W.heap.size W wr) (fun _ i _ => (lvJs s l).length - (intOf i).toNat)
      case atStart => exact ⟨0, Nat.zero_le _, rfl, by simp [lsum], Below.refl _ _⟩
      case round =>
        obtain ⟨k, hk, rfl, rfl, hbel⟩ := hrel
        have hbz := hbel.size
        by_cases hlt : k < (lvJs s l).length
        · obtain ⟨j, hj⟩ := lvJs_at hlt
          obtain ⟨-, -, j0, j1, -, -⟩ := lvJs_get hj
          obtain ⟨e0, e1, e2⟩ := LL.out k j hj
          have r0 := (hbel.cell (p := ⟨g1, k * 3, none⟩) hgW).trans e0
          have r1 := (hbel.cell (p := ⟨g1, k * 3 + 1, none⟩) hgW).trans e1
          have r2 := (hbel.cell (p := ⟨g1, k * 3 + 2, none⟩) hgW).trans e2
          have hst := Lib.hid (lsum_step (f := fMean s l) hj)
          clear hj e0 e1 e2
          have i0 : (0 : Int) ≤ (k : Int) := Int.natCast_nonneg _
          have i1 : (k : Int) < ((lvJs s l).length : Int) := by omega
          have b1 := fMean_bd (s := s) (l := l) j0 j1
          have b2 := msum_bd (s := s) (l := l) k
          have q1 : IntKind.i64.wrap (j + 1) = j + 1 := IntWalk.i64_in _ (by omega)
          have q2 : IntKind.i64.wrap ((j + 1) * shiftI s l j) = (j + 1) * shiftI s l j := IntWalk.i64_in _ (by unfold fMean at b1; omega)
          have q3 : IntKind.i64.wrap (lsum (fMean s l) ((lvJs s l).take k) + (j + 1) * shiftI s l j) = lsum (fMean s l) ((lvJs s l).take k) + (j + 1) * shiftI s l j := IntWalk.i64_in _ (by unfold fMean at b1 b2 ⊢; omega)
          go_wp2
          go_region_held3 (fun w' => w'.cell? ⟨g1, k * 3, none⟩ = some (.int .i64 s) ∧ w'.cell? ⟨g1, k * 3 + 1, none⟩ = some (.int .i64 l) ∧ w'.cell? ⟨g1, k * 3 + 2, none⟩ = some (.int .i64 j) ∧ W.heap.size ≤ w'.heap.size ∧ Below W.heap.size W w')
            (first | (simp (disch := first | omega | (simp; done) | (simp; omega)) [go_sem, *]; done) | ((repeat' first | (with_reducible exact Below.refl _ _) | (with_reducible assumption) | (with_reducible refine below_drewN ?_ _) | (with_reducible refine Below.drew ?_) | (with_reducible refine Below.alloc ?_ ?_ _) | (with_reducible refine Below.setCell ?_ ?_ _) | (with_reducible refine Below.trans ?_ (Below.mono (by assumption) ?_)) | first | omega | (simp only [World.size_alloc, World.size_setCell, World.size_drew, size_drewN]; omega) | (simp; done) | (simp; omega) | (simp only [World.size_alloc, World.size_setCell, World.size_drew, size_drewN] at *; omega) | (simp at *; omega)); done) | ((try go_split_ands); (refine ⟨?_, ?_, ?_, ?_, ?_⟩ <;> first | omega | (simp only [World.size_alloc, World.size_setCell, World.size_drew, size_drewN]; omega) | (simp (disch := first | omega | (simp; done) | (simp; omega)) [go_sem, *]; done) | ((repeat' first | (with_reducible exact Below.refl _ _) | (with_reducible assumption) | (with_reducible refine below_drewN ?_ _) | (with_reducible refine Below.drew ?_) | (with_reducible refine Below.alloc ?_ ?_ _) | (with_reducible refine Below.setCell ?_ ?_ _) | (with_reducible refine Below.trans ?_ (Below.mono (by assumption) ?_)) | first | omega | (simp only [World.size_alloc, World.size_setCell, World.size_drew, size_drewN]; omega) | (simp; done) | (simp; omega) | (simp only [World.size_alloc, World.size_setCell, World.size_drew, size_drewN] at *; omega) | (simp at *; omega)); done))))
            (first | (go_at_call 24; refine (iShift_any _ _ _ _).mono ?_; rintro e w5 ⟨rfl, hb5⟩; obtain ⟨hc5, hf5⟩ := bcell hb5; have hz5 := hb5.size; (try simp only [World.size_alloc, World.size_setCell, World.size_drew, size_drewN] at hz5 hc5 hf5)))
          have hB5 : Below W.heap.size W w5 := by (repeat' first | (with_reducible exact Below.refl _ _) | (with_reducible assumption) | (with_reducible refine below_drewN ?_ _) | (with_reducible refine Below.drew ?_) | (with_reducible refine Below.alloc ?_ ?_ _) | (with_reducible refine Below.setCell ?_ ?_ _) | (with_reducible refine Below.trans ?_ (Below.mono (by assumption) ?_)) | first | omega | (simp only [World.size_alloc, World.size_setCell, World.size_drew, size_drewN]; omega) | (simp; done) | (simp; omega) | (simp only [World.size_alloc, World.size_setCell, World.size_drew, size_drewN] at *; omega) | (simp at *; omega))
          clear q1 q2 q3 hbel hb5 r0 r1 r2
          go_wp2
          go_roundw
          case rel => exact ⟨k + 1, by omega, by go_num, by rw [hst.out]; rfl, hB5⟩
          case measure => simp [intOf]; omega
        · obtain rfl : k = (lvJs s l).length := by omega
          have hz := mean_zero (s := s) (l := l) (by obtain ⟨j, hj⟩ := lvJs_at hn0; exact (lvJs_get hj).1)
          have HZ := Lib.hid hz
          clear hz
          go_wp2
          go_ret
          exact ⟨ret_bool (by rw [HZ.out]; rfl), hBW.trans (hbel.mono hBW.size)⟩
set_option maxHeartbeats 1000000 in
theorem walk_FnLevelTop (a : Option Addr) (len cap : Nat) (w : World) (hb : BytesAt w a len cap) :
    Calls Try.prog 9 #[.slice a len cap] w fun e w' => e = .returned (.bool true) ∧ Below w.heap.size w w' := by
  by_cases hlen : 1048576 < len
  · clear hb
    go_enter Try.func9, Try.ntmps9
    go_wp2
    go_ret
    exact ⟨rfl, Below.refl _ _⟩
  · have hlen' : len ≤ 1048576 := by omega
    clear hlen
    have HB := Lib.hid hb
    clear hb
    go_enter Try.func9, Try.ntmps9
    go_wp2_with fail
    refine (dLevelsOf_any a len cap _ HB.out).mono ?_
    rintro e w1 ⟨s, l, rfl, hs0, hs1, hl0, hl1, hb1⟩
    have hz1 := hb1.size
    have hsh := lvJs_short s l
    by_cases hn : (lvJs s l).length = 0
    · have hnil : lvJs s l = [] := List.eq_nil_of_length_eq_zero hn
      go_wp2_with fail
      refine (iLevels_any _ _ _).mono ?_
      rintro e w2 ⟨v2, rfl, ho2, hb2⟩
      rw [hnil] at ho2
      obtain ⟨a2, c2, hv2⟩ := row_len ho2
      have t0 : w2.cell? ⟨w1.heap.size, 0, none⟩ = some (.int .i64 s) := (hb2.cell (p := ⟨w1.heap.size, 0, none⟩) (by simp)).trans (by simp [go_sem])
      have t1 : w2.cell? ⟨w1.heap.size, 1, none⟩ = some (.int .i64 l) := (hb2.cell (p := ⟨w1.heap.size, 1, none⟩) (by simp)).trans (by simp [go_sem])
      have hz2 := hb2.size
      rw [World.size_alloc] at hz2
      rw [hv2]
      go_wp2_with fail
      refine (sLevels_any _ _ _).mono ?_
      rintro e w3 ⟨v3, rfl, ho3, hb3⟩
      rw [hnil] at ho3
      obtain ⟨a3, c3, hv3⟩ := row_len ho3
      rw [hv3]
      simp only [List.length_nil]
      go_wp2_with (go_at_call 15; refine (sameLevels_nil _ _ _ _ _).mono ?_; rintro e w' ⟨rfl, rfl⟩)
      go_ret
      exact ⟨rfl, by (repeat' first | (with_reducible exact Below.refl _ _) | (with_reducible assumption) | (with_reducible refine below_drewN ?_ _) | (with_reducible refine Below.drew ?_) | (with_reducible refine Below.alloc ?_ ?_ _) | (with_reducible refine Below.setCell ?_ ?_ _) | (with_reducible refine Below.trans ?_ (Below.mono (by assumption) ?_)) | first | omega | (simp only [World.size_alloc, World.size_setCell, World.size_drew, size_drewN]; omega) | (simp; done) | (simp; omega) | (simp only [World.size_alloc, World.size_setCell, World.size_drew, size_drewN] at *; omega) | (simp at *; omega))⟩
    · have hn0 : 0 < (lvJs s l).length := by omega
      clear hn
      go_wp2_with fail
      refine (iLevels_some _ _ _ hn0).mono ?_
      rintro e w2 ⟨g1, c1, rfl, L0, -, -, hg1, hg1', hb2⟩
      have t0' : w2.cell? ⟨w1.heap.size, 0, none⟩ = some (.int .i64 s) := (hb2.cell (p := ⟨w1.heap.size, 0, none⟩) (by simp)).trans (by simp [go_sem])
      have t1' : w2.cell? ⟨w1.heap.size, 1, none⟩ = some (.int .i64 l) := (hb2.cell (p := ⟨w1.heap.size, 1, none⟩) (by simp)).trans (by simp [go_sem])
      have hz2 := hb2.size
      rw [World.size_alloc] at hz2 hg1
      go_wp2_with fail
      refine (sLevels_some _ _ _ hn0).mono ?_
      rintro e w3 ⟨g2, c2, rfl, M0, -, -, hg2, hg2', hb3⟩
      have hz3 := hb3.size
      have t0 : w3.cell? ⟨w1.heap.size, 0, none⟩ = some (.int .i64 s) := (hb3.cell (p := ⟨w1.heap.size, 0, none⟩) (by simp; omega)).trans t0'
      have t1 : w3.cell? ⟨w1.heap.size, 1, none⟩ = some (.int .i64 l) := (hb3.cell (p := ⟨w1.heap.size, 1, none⟩) (by simp; omega)).trans t1'
      have L1 : LvAt w3 g1 s l (lvJs s l) := LvAt.keep L0 (fun o => hb3.cell (p := ⟨g1, o, none⟩) hg1')
      have M1 : LvAt w3 g2 s l (lvJs s l) := M0
      have hB : Below w.heap.size w w3 := by (repeat' first | (with_reducible exact Below.refl _ _) | (with_reducible assumption) | (with_reducible refine below_drewN ?_ _) | (with_reducible refine Below.drew ?_) | (with_reducible refine Below.alloc ?_ ?_ _) | (with_reducible refine Below.setCell ?_ ?_ _) | (with_reducible refine Below.trans ?_ (Below.mono (by assumption) ?_)) | first | omega | (simp only [World.size_alloc, World.size_setCell, World.size_drew, size_drewN]; omega) | (simp; done) | (simp; omega) | (simp only [World.size_alloc, World.size_setCell, World.size_drew, size_drewN] at *; omega) | (simp at *; omega))
      have hne : (((lvJs s l).length : Int) == 0) = false := by rw [beq_eq_false_iff_ne]; omega
      have LL := Lib.hid L1
      have MM := Lib.hid M1
      clear L0 M0 L1 M1 t0' t1' hb1 hb2 hb3
      go_wp2_with fail
      refine (sameLevels_some _ _ _ _ _ _ _ _ hsh LL.out MM.out).mono ?_
      rintro e w4 ⟨rfl, m4, rfl⟩
      clear MM
      obtain ⟨W, hW⟩ : ∃ W : World, W = w3.drewN m4 := ⟨_, rfl⟩
      rw [← hW]
      have L4 : LvAt W g1 s l (lvJs s l) := by subst hW; exact LL.out
      have hgW : g1 < W.heap.size := by subst hW; rw [size_drewN]; omega
      have hBW : Below w.heap.size w W := by subst hW; exact below_drewN hB _
      have t0W : W.cell? ⟨w1.heap.size, 0, none⟩ = some (.int .i64 s) := by subst hW; exact t0
      have t1W : W.cell? ⟨w1.heap.size, 1, none⟩ = some (.int .i64 l) := by subst hW; exact t1
      have htW : w1.heap.size < W.heap.size := World.block_lt_of_cell? W _ t0W
      clear hW LL
      have LL := Lib.hid L4
      clear L4 t0 t1 hB
      have hv : tvB s l = true := by obtain ⟨j, hj⟩ := lvJs_at hn0; exact (lvJs_get hj).1
      have TOP := Lib.hid (top_is hv)
      obtain ⟨jt, hjt⟩ := lvJs_at (s := s) (l := l) (k := (lvJs s l).length - 1) (by omega)
      have hlast := Lib.hid (show shiftI s l jt = 4 * l * s by
        have h := TOP.out.1
        rw [List.getLast?_eq_getElem?, hjt] at h
        simpa using h)
      obtain ⟨e0, e1, e2⟩ := LL.out _ _ hjt
      clear hjt
      have hb := tvB_true hv
      have i0 : (0 : Int) ≤ ((lvJs s l).length : Int) - 1 := by omega
      have i1 : ((lvJs s l).length : Int) - 1 < ((lvJs s l).length : Int) := by omega
      have m1 := mul_bd l s 8 8 (by omega) (by omega) (by omega) (by omega) (by omega)
      have m2 : 4 * l * s = 4 * (l * s) := Int.mul_assoc _ _ _
      have m3 : -2000 ≤ 4 * l * s ∧ 4 * l * s ≤ 2000 := by omega
      have bt := shiftI_bd s l jt
      clear m1 m2
      go_wp2_with (go_at_call 24; refine (iShift_any _ _ _ _).mono ?_; rintro e w5 ⟨rfl, hb5⟩)
      have hz5 := hb5.size
      have t0' := (hb5.cell (p := ⟨w1.heap.size, 0, none⟩) htW).trans t0W
      have t1' := (hb5.cell (p := ⟨w1.heap.size, 1, none⟩) htW).trans t1W
      have LL5 := Lib.hid (LvAt.keep LL.out (fun o => hb5.cell (p := ⟨g1, o, none⟩) hgW))
      have hB5 : Below w.heap.size w w5 := hBW.trans (hb5.mono hBW.size)
      have hg5 : g1 < w5.heap.size := by omega
      have ht5 : w1.heap.size < w5.heap.size := by omega
      clear e0 e1 e2 t0W t1W LL hb5 i0 i1
      rw [hlast.out]
      go_loopw [7] (fun i wr => ∃ k : Nat, k ≤ (lvJs s l).length ∧ i = .int .i64 k ∧ Below w5.heap.size w5 wr) (fun i _ => (lvJs s l).length - (intOf i).toNat)
      case atStart => exact ⟨0, Nat.zero_le _, rfl, Below.refl _ _⟩
      case round =>
        obtain ⟨k, hk, rfl, hbel⟩ := hrel
        have hbz := hbel.size
        by_cases hlt : k < (lvJs s l).length
        · obtain ⟨j, hj⟩ := lvJs_at hlt
          obtain ⟨e0, e1, e2⟩ := LL5.out k j hj
          have r0 := (hbel.cell (p := ⟨g1, k * 3, none⟩) hg5).trans e0
          have r1 := (hbel.cell (p := ⟨g1, k * 3 + 1, none⟩) hg5).trans e1
          have r2 := (hbel.cell (p := ⟨g1, k * 3 + 2, none⟩) hg5).trans e2
          have hle : shiftI s l j ≤ 4 * l * s := TOP.out.2 j (List.mem_of_getElem? hj)
          clear hj e0 e1 e2
          have i0 : (0 : Int) ≤ (k : Int) := Int.natCast_nonneg _
          have i1 : (k : Int) < ((lvJs s l).length : Int) := by omega
          go_wp2_with (go_at_call 24; refine (iShift_any _ _ _ _).mono ?_; rintro e w6 ⟨rfl, hb6⟩)
          go_roundw
          case rel => exact ⟨k + 1, by omega, by go_num, hbel.trans (hb6.mono hbz)⟩
          case measure => simp [intOf]; omega
        · obtain rfl : k = (lvJs s l).length := by omega
          have t0'' := (hbel.cell (p := ⟨w1.heap.size, 0, none⟩) ht5).trans t0'
          have t1'' := (hbel.cell (p := ⟨w1.heap.size, 1, none⟩) ht5).trans t1'
          go_wp2
          go_ret
          exact ⟨ret_bool (by simp), hB5.trans (hbel.mono hB5.size)⟩
end Go.Proofs.Ytjienggophfhfaa
