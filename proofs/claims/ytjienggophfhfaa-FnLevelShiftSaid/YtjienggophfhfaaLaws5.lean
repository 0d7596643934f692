/-
  The walk of the law FnLevelShift: it returns true, for every argument. Conditions: none.
-/
import Derived.Test.YtjienggophfhfaaDraw
import Derived.Test.YtjienggophfhfaaSame
import Derived.Test.YtjienggophfhfaaShift
import Derived.Test.YtjienggophfhfaaSums
namespace Go.Proofs.Ytjienggophfhfaa
set_option linter.unusedSimpArgs false
set_option linter.unusedVariables false
open Go.RowKit

set_option maxHeartbeats 1000000 in
theorem walk_FnLevelShift (a : Option Addr) (len cap : Nat) (w : World) (hb : BytesAt w a len cap) :
    Calls Try.prog 11 #[.slice a len cap] w fun e w' => e = .returned (.bool true) ∧ Below w.heap.size w w' := by
  by_cases hlen : 1048576 < len
  · clear hb
    go_enter Try.func11, Try.ntmps11
    go_wp2
    go_ret
    exact ⟨rfl, Below.refl _ _⟩
  · have hlen' : len ≤ 1048576 := by omega
    clear hlen
    have HB := Lib.hid hb
    clear hb
    go_enter Try.func11, Try.ntmps11
    go_wp2_with fail
    refine (dLevelShift_any a len cap _ HB.out).mono ?_
    rintro e w1 ⟨s, l, j, rfl, hs0, hs1, hl0, hl1, hj0, hj1, hb1⟩
    have hz1 := hb1.size
    by_cases hs : shiftI s l j = 0
    · have hs' : (shiftI s l j == 0) = true := by rw [hs]; rfl
      clear hs
      go_wp2_with (first
        | (go_at_call 24; refine (iShift_any _ _ _ _).mono ?_; rintro e w2 ⟨rfl, hb2⟩; obtain ⟨hc2, hf2⟩ := bcell hb2; have hz2 := hb2.size; (try simp only [World.size_alloc, World.size_setCell, World.size_drew, size_drewN] at hz2 hc2 hf2); (have g2a : w1.heap.size < w2.heap.size := by omega))
        | (go_at_call 29; refine (sShift_any _ _ _ _).mono ?_; rintro e w2 ⟨rfl, hb2⟩; obtain ⟨hc2, hf2⟩ := bcell hb2; have hz2 := hb2.size; (try simp only [World.size_alloc, World.size_setCell, World.size_drew, size_drewN] at hz2 hc2 hf2); (have g2a : w1.heap.size < w2.heap.size := by omega)))
      go_ret
      exact ⟨rfl, by (repeat' first | (with_reducible exact Below.refl _ _) | (with_reducible assumption) | (with_reducible refine below_drewN ?_ _) | (with_reducible refine Below.drew ?_) | (with_reducible refine Below.alloc ?_ ?_ _) | (with_reducible refine Below.setCell ?_ ?_ _) | (with_reducible refine Below.trans ?_ (Below.mono (by assumption) ?_)) | first | omega | (simp only [World.size_alloc, World.size_setCell, World.size_drew, size_drewN]; omega) | (simp; done) | (simp; omega) | (simp only [World.size_alloc, World.size_setCell, World.size_drew, size_drewN] at *; omega) | (simp at *; omega))⟩
    · have hs' : (shiftI s l j == 0) = false := by rw [beq_eq_false_iff_ne]; exact hs
      have hv : lvB s l j = true := by
        cases h : lvB s l j
        · exact absurd (by simp [shiftI, h]) hs
        · rfl
      obtain ⟨ht, k0, hk0, hjk⟩ := lv_at hv
      have hn0 : 0 < (lvJs s l).length := by omega
      have hsh := lvJs_short s l
      have HJ := Lib.hid hjk
      have hjk1 : j ≤ absd (2 * l) s + 2 * (k0 : Int) := by omega
      have hjk2 : absd (2 * l) s + 2 * (k0 : Int) ≤ j := by omega
      obtain ⟨-, -, bj0, bj1, -, -⟩ := lvJs_get (lv_of hk0)
      clear hs hv ht hjk
      go_wp2_with fail
      refine (iShift_any _ _ _ _).mono ?_
      rintro e w2 ⟨rfl, hb2⟩
      obtain ⟨hc2, hf2⟩ := bcell hb2; have hz2 := hb2.size; (try simp only [World.size_alloc, World.size_setCell, World.size_drew, size_drewN] at hz2 hc2 hf2); (have g2a : w1.heap.size < w2.heap.size := by omega)
      go_wp2_with fail
      refine (sShift_any _ _ _ _).mono ?_
      rintro e w3 ⟨rfl, hb3⟩
      obtain ⟨hc3, hf3⟩ := bcell hb3; have hz3 := hb3.size; (try simp only [World.size_alloc, World.size_setCell, World.size_drew, size_drewN] at hz3 hc3 hf3); (have g3a : w1.heap.size < w3.heap.size := by omega)
      go_wp2_with fail
      refine (iLevels_some _ _ _ hn0).mono ?_
      rintro e w4 ⟨g, c, rfl, L, -, -, hg, hg', hb4⟩
      obtain ⟨hc4, hf4⟩ := bcell hb4; have hz4 := hb4.size; (try simp only [World.size_alloc, World.size_setCell, World.size_drew, size_drewN] at hz4 hc4 hf4); (have g4a : w1.heap.size < w4.heap.size := by omega)
      (have t0 : w4.cell? ⟨w1.heap.size, 0, none⟩ = some (.int .i64 s) := by (simp (disch := first | omega | (simp; done) | (simp; omega)) [go_sem, *]; done)); (have t1 : w4.cell? ⟨w1.heap.size, 1, none⟩ = some (.int .i64 l) := by (simp (disch := first | omega | (simp; done) | (simp; omega)) [go_sem, *]; done)); (have t2 : w4.cell? ⟨w1.heap.size, 2, none⟩ = some (.int .i64 j) := by (simp (disch := first | omega | (simp; done) | (simp; omega)) [go_sem, *]; done))
      have LL := Lib.hid (show LvAt w4 g s l (lvJs s l) from L)
      have hB : Below w.heap.size w w4 := by (repeat' first | (with_reducible exact Below.refl _ _) | (with_reducible assumption) | (with_reducible refine below_drewN ?_ _) | (with_reducible refine Below.drew ?_) | (with_reducible refine Below.alloc ?_ ?_ _) | (with_reducible refine Below.setCell ?_ ?_ _) | (with_reducible refine Below.trans ?_ (Below.mono (by assumption) ?_)) | first | omega | (simp only [World.size_alloc, World.size_setCell, World.size_drew, size_drewN]; omega) | (simp; done) | (simp; omega) | (simp only [World.size_alloc, World.size_setCell, World.size_drew, size_drewN] at *; omega) | (simp at *; omega))
      clear L hc2 hf2 hc3 hf3 hc4 hf4 hb1 hb2 hb3 hb4
      go_wp2_with fail
      go_loopw [7, 8] (fun sm i wr => ∃ k : Nat, k ≤ k0 + 1 ∧ i = .int .i64 k ∧ sm = .int .i64 (befS s l k) ∧ Below w4.heap.size w4 wr) (fun _ i _ => (lvJs s l).length - (intOf i).toNat)
      case atStart => exact ⟨0, Nat.zero_le _, rfl, rfl, Below.refl _ _⟩
      case round =>
        obtain ⟨k, hk, rfl, rfl, hbel⟩ := hrel
        have hbz := hbel.size
        have t2' := (hbel.cell (p := ⟨w1.heap.size, 2, none⟩) g4a).trans t2
        have b1 := befS_bd s l k
        have i0 : (0 : Int) ≤ (k : Int) := Int.natCast_nonneg _
        by_cases hlt : k < (lvJs s l).length
        · have e := LL.out k _ (lv_of hlt)
          obtain ⟨-, -, jb0, jb1, -, -⟩ := lvJs_get (lv_of hlt)
          have r0 := (hbel.cell (p := ⟨g, k * 3, none⟩) hg').trans e.1
          have r1 := (hbel.cell (p := ⟨g, k * 3 + 1, none⟩) hg').trans e.2.1
          have r2 := (hbel.cell (p := ⟨g, k * 3 + 2, none⟩) hg').trans e.2.2
          have i1 : (k : Int) < ((lvJs s l).length : Int) := by omega
          clear e
          by_cases hle : k ≤ k0
          · have hle' : absd (2 * l) s + 2 * (k : Int) ≤ j := by omega
            by_cases hz : k = 0
            · subst hz
              have hst := Lib.hid (befS_one s l)
              have hz' : (((0 : Nat) : Int) == 0) = true := rfl
              simp only [Nat.zero_mul, Nat.zero_add] at r0 r1 r2
              go_wp2
              go_quiet (fail)
              go_wp2_with (go_at_call 24; refine (iShift_any _ _ _ _).mono ?_; rintro e w5 ⟨rfl, hb5⟩; have hz5 := hb5.size)
              have hB5 : Below w4.heap.size w4 w5 := by (repeat' first | (with_reducible exact Below.refl _ _) | (with_reducible assumption) | (with_reducible refine below_drewN ?_ _) | (with_reducible refine Below.drew ?_) | (with_reducible refine Below.alloc ?_ ?_ _) | (with_reducible refine Below.setCell ?_ ?_ _) | (with_reducible refine Below.trans ?_ (Below.mono (by assumption) ?_)) | first | omega | (simp only [World.size_alloc, World.size_setCell, World.size_drew, size_drewN]; omega) | (simp; done) | (simp; omega) | (simp only [World.size_alloc, World.size_setCell, World.size_drew, size_drewN] at *; omega) | (simp at *; omega))
              go_roundw
              case rel => exact ⟨1, by omega, by go_num, by rw [hst.out], hB5⟩
              case measure => simp [intOf]; omega
            · have hz' : ((k : Int) == 0) = false := by rw [beq_eq_false_iff_ne]; omega
              have hst := Lib.hid (befS_step hlt (by omega))
              have b2 := intervalI_bd s l (absd (2 * l) s + 2 * (k : Int))
              go_wp2
              go_quiet (fail)
              go_wp2_with (go_at_call 26; refine (iInterval_any _ _ _ _).mono ?_; rintro e w5 ⟨rfl, hb5⟩; have hz5 := hb5.size)
              have hB5 : Below w4.heap.size w4 w5 := by (repeat' first | (with_reducible exact Below.refl _ _) | (with_reducible assumption) | (with_reducible refine below_drewN ?_ _) | (with_reducible refine Below.drew ?_) | (with_reducible refine Below.alloc ?_ ?_ _) | (with_reducible refine Below.setCell ?_ ?_ _) | (with_reducible refine Below.trans ?_ (Below.mono (by assumption) ?_)) | first | omega | (simp only [World.size_alloc, World.size_setCell, World.size_drew, size_drewN]; omega) | (simp; done) | (simp; omega) | (simp only [World.size_alloc, World.size_setCell, World.size_drew, size_drewN] at *; omega) | (simp at *; omega))
              go_roundw
              case rel => exact ⟨k + 1, by omega, by go_num, by rw [hst.out], hB5⟩
              case measure => simp [intOf]; omega
          · have hle' : j < absd (2 * l) s + 2 * (k : Int) := by omega
            have hfin := Lib.hid (show befS s l k = shiftI s l j by
              have hke : k = k0 + 1 := by omega
              subst hke
              unfold befS; rw [if_neg (by omega), HJ.out]; congr 1; omega)
            go_wp2
            go_quiet (fail)
            go_wp2
            go_ret
            exact ⟨ret_bool (by rw [hfin.out]; simp), by (repeat' first | (with_reducible exact Below.refl _ _) | (with_reducible assumption) | (with_reducible refine below_drewN ?_ _) | (with_reducible refine Below.drew ?_) | (with_reducible refine Below.alloc ?_ ?_ _) | (with_reducible refine Below.setCell ?_ ?_ _) | (with_reducible refine Below.trans ?_ (Below.mono (by assumption) ?_)) | first | omega | (simp only [World.size_alloc, World.size_setCell, World.size_drew, size_drewN]; omega) | (simp; done) | (simp; omega) | (simp only [World.size_alloc, World.size_setCell, World.size_drew, size_drewN] at *; omega) | (simp at *; omega))⟩
        · have hd : decide ((k : Int) < ((lvJs s l).length : Int)) = false := by simp; omega
          have hfin := Lib.hid (show befS s l k = shiftI s l j by
            have hke : k = k0 + 1 := by omega
            subst hke
            unfold befS; rw [if_neg (by omega), HJ.out]; congr 1; omega)
          go_wp2
          go_quiet (fail)
          go_wp2
          go_ret
          exact ⟨ret_bool (by rw [hfin.out]; simp), by (repeat' first | (with_reducible exact Below.refl _ _) | (with_reducible assumption) | (with_reducible refine below_drewN ?_ _) | (with_reducible refine Below.drew ?_) | (with_reducible refine Below.alloc ?_ ?_ _) | (with_reducible refine Below.setCell ?_ ?_ _) | (with_reducible refine Below.trans ?_ (Below.mono (by assumption) ?_)) | first | omega | (simp only [World.size_alloc, World.size_setCell, World.size_drew, size_drewN]; omega) | (simp; done) | (simp; omega) | (simp only [World.size_alloc, World.size_setCell, World.size_drew, size_drewN] at *; omega) | (simp at *; omega))⟩
end Go.Proofs.Ytjienggophfhfaa
