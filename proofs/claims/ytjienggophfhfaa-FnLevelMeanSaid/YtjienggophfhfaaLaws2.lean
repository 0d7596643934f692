/-
  The walks of the laws on the levels of a drawn term. Conditions: none.
-/
import Derived.Test.YtjienggophfhfaaDraw
import Derived.Test.YtjienggophfhfaaSame
import Derived.Test.YtjienggophfhfaaShift
namespace Go.Proofs.Ytjienggophfhfaa
set_option linter.unusedSimpArgs false
set_option linter.unusedVariables false
open Go.RowKit

theorem lvJs_len {s l : Int} (h : 0 < (lvJs s l).length) : ((lvJs s l).length : Int) = min (s + 1) (2 * l + 1) := by
  cases h1 : tvB s l
  · simp [lvJs, h1] at h
  · obtain ⟨q1, q2, q3, q4⟩ := lvJs_yes h1
    have := tvB_true h1
    rw [q4, steps_length]
    unfold cMany
    split <;> omega
theorem lvJs_at {s l : Int} {k : Nat} (h : k < (lvJs s l).length) : ∃ j, (lvJs s l)[k]? = some j := ⟨_, List.getElem?_eq_getElem h⟩
set_option maxHeartbeats 1000000 in
theorem walk_FnLevelsMany (a : Option Addr) (len cap : Nat) (w : World) (hb : BytesAt w a len cap) :
    Calls Try.prog 4 #[.slice a len cap] w fun e w' => e = .returned (.bool true) ∧ Below w.heap.size w w' := by
  by_cases hlen : 1048576 < len
  · clear hb
    go_enter Try.func4, Try.ntmps4
    go_wp2
    go_ret
    exact ⟨rfl, Below.refl _ _⟩
  · have hlen' : len ≤ 1048576 := by omega
    clear hlen
    have HB := Lib.hid hb
    clear hb
    go_enter Try.func4, Try.ntmps4
    go_wp2_with fail
    refine (dLevelsOf_any a len cap _ HB.out).mono ?_
    rintro e w1 ⟨s, l, rfl, hs0, hs1, hl0, hl1, hb1⟩
    have hz1 := hb1.size
    have hsh := lvJs_short s l
    by_cases hn : (lvJs s l).length = 0
    · have hnil : lvJs s l = [] := List.eq_nil_of_length_eq_zero hn
      go_wp2_with fail
      refine (iLevels_any _ _ _).mono ?_
      rintro e w2 ⟨v2, rfl, ho2, hb2⟩
      rw [hnil] at ho2
      obtain ⟨a2, c2, hv2⟩ := row_len ho2
      have t0 : w2.cell? ⟨w1.heap.size, 0, none⟩ = some (.int .i64 s) := (hb2.cell (p := ⟨w1.heap.size, 0, none⟩) (by simp)).trans (by simp [go_sem])
      have t1 : w2.cell? ⟨w1.heap.size, 1, none⟩ = some (.int .i64 l) := (hb2.cell (p := ⟨w1.heap.size, 1, none⟩) (by simp)).trans (by simp [go_sem])
      have hz2 := hb2.size
      rw [World.size_alloc] at hz2
      rw [hv2]
      go_wp2_with fail
      refine (sLevels_any _ _ _).mono ?_
      rintro e w3 ⟨v3, rfl, ho3, hb3⟩
      rw [hnil] at ho3
      obtain ⟨a3, c3, hv3⟩ := row_len ho3
      rw [hv3]
      simp only [List.length_nil]
      go_wp2_with (go_at_call 15; refine (sameLevels_nil _ _ _ _ _).mono ?_; rintro e w' ⟨rfl, rfl⟩)
      go_ret
      exact ⟨rfl, by (repeat' first | (with_reducible exact Below.refl _ _) | (with_reducible assumption) | (with_reducible refine below_drewN ?_ _) | (with_reducible refine Below.drew ?_) | (with_reducible refine Below.alloc ?_ ?_ _) | (with_reducible refine Below.setCell ?_ ?_ _) | (with_reducible refine Below.trans ?_ (Below.mono (by assumption) ?_)) | first | omega | (simp only [World.size_alloc, World.size_setCell, World.size_drew, size_drewN]; omega) | (simp; done) | (simp; omega) | (simp only [World.size_alloc, World.size_setCell, World.size_drew, size_drewN] at *; omega) | (simp at *; omega))⟩
    · have hn0 : 0 < (lvJs s l).length := by omega
      clear hn
      go_wp2_with fail
      refine (iLevels_some _ _ _ hn0).mono ?_
      rintro e w2 ⟨g1, c1, rfl, L0, -, -, hg1, hg1', hb2⟩
      have t0' : w2.cell? ⟨w1.heap.size, 0, none⟩ = some (.int .i64 s) := (hb2.cell (p := ⟨w1.heap.size, 0, none⟩) (by simp)).trans (by simp [go_sem])
      have t1' : w2.cell? ⟨w1.heap.size, 1, none⟩ = some (.int .i64 l) := (hb2.cell (p := ⟨w1.heap.size, 1, none⟩) (by simp)).trans (by simp [go_sem])
      have hz2 := hb2.size
      rw [World.size_alloc] at hz2 hg1
      go_wp2_with fail
      refine (sLevels_some _ _ _ hn0).mono ?_
      rintro e w3 ⟨g2, c2, rfl, M0, -, -, hg2, hg2', hb3⟩
      have hz3 := hb3.size
      have t0 : w3.cell? ⟨w1.heap.size, 0, none⟩ = some (.int .i64 s) := (hb3.cell (p := ⟨w1.heap.size, 0, none⟩) (by simp; omega)).trans t0'
      have t1 : w3.cell? ⟨w1.heap.size, 1, none⟩ = some (.int .i64 l) := (hb3.cell (p := ⟨w1.heap.size, 1, none⟩) (by simp; omega)).trans t1'
      have L1 : LvAt w3 g1 s l (lvJs s l) := LvAt.keep L0 (fun o => hb3.cell (p := ⟨g1, o, none⟩) hg1')
      have M1 : LvAt w3 g2 s l (lvJs s l) := M0
      have hB : Below w.heap.size w w3 := by (repeat' first | (with_reducible exact Below.refl _ _) | (with_reducible assumption) | (with_reducible refine below_drewN ?_ _) | (with_reducible refine Below.drew ?_) | (with_reducible refine Below.alloc ?_ ?_ _) | (with_reducible refine Below.setCell ?_ ?_ _) | (with_reducible refine Below.trans ?_ (Below.mono (by assumption) ?_)) | first | omega | (simp only [World.size_alloc, World.size_setCell, World.size_drew, size_drewN]; omega) | (simp; done) | (simp; omega) | (simp only [World.size_alloc, World.size_setCell, World.size_drew, size_drewN] at *; omega) | (simp at *; omega))
      have hne : (((lvJs s l).length : Int) == 0) = false := by rw [beq_eq_false_iff_ne]; omega
      have LL := Lib.hid L1
      have MM := Lib.hid M1
      clear L0 M0 L1 M1 t0' t1' hb1 hb2 hb3
      go_wp2_with fail
      refine (sameLevels_some _ _ _ _ _ _ _ _ hsh LL.out MM.out).mono ?_
      rintro e w4 ⟨rfl, m4, rfl⟩
      clear MM
      have hlen2 := Lib.hid (lvJs_len hn0)
      go_wp2_with fail
      all_goals (go_ret; exact ⟨ret_bool (by have := hlen2.out; simp; omega), below_drewN hB _⟩)
set_option maxHeartbeats 1000000 in
theorem walk_FnLevelParity (a : Option Addr) (len cap : Nat) (w : World) (hb : BytesAt w a len cap) :
    Calls Try.prog 3 #[.slice a len cap] w fun e w' => e = .returned (.bool true) ∧ Below w.heap.size w w' := by
  by_cases hlen : 1048576 < len
  · clear hb
    go_enter Try.func3, Try.ntmps3
    go_wp2
    go_ret
    exact ⟨rfl, Below.refl _ _⟩
  · have hlen' : len ≤ 1048576 := by omega
    clear hlen
    have HB := Lib.hid hb
    clear hb
    go_enter Try.func3, Try.ntmps3
    go_wp2_with fail
    refine (dLevelsOf_any a len cap _ HB.out).mono ?_
    rintro e w1 ⟨s, l, rfl, hs0, hs1, hl0, hl1, hb1⟩
    have hz1 := hb1.size
    have hsh := lvJs_short s l
    by_cases hn : (lvJs s l).length = 0
    · have hnil : lvJs s l = [] := List.eq_nil_of_length_eq_zero hn
      go_wp2_with fail
      refine (iLevels_any _ _ _).mono ?_
      rintro e w2 ⟨v2, rfl, ho2, hb2⟩
      rw [hnil] at ho2
      obtain ⟨a2, c2, hv2⟩ := row_len ho2
      have t0 : w2.cell? ⟨w1.heap.size, 0, none⟩ = some (.int .i64 s) := (hb2.cell (p := ⟨w1.heap.size, 0, none⟩) (by simp)).trans (by simp [go_sem])
      have t1 : w2.cell? ⟨w1.heap.size, 1, none⟩ = some (.int .i64 l) := (hb2.cell (p := ⟨w1.heap.size, 1, none⟩) (by simp)).trans (by simp [go_sem])
      have hz2 := hb2.size
      rw [World.size_alloc] at hz2
      rw [hv2]
      go_wp2_with fail
      refine (sLevels_any _ _ _).mono ?_
      rintro e w3 ⟨v3, rfl, ho3, hb3⟩
      rw [hnil] at ho3
      obtain ⟨a3, c3, hv3⟩ := row_len ho3
      rw [hv3]
      simp only [List.length_nil]
      go_wp2_with (go_at_call 15; refine (sameLevels_nil _ _ _ _ _).mono ?_; rintro e w' ⟨rfl, rfl⟩)
      go_ret
      exact ⟨rfl, by (repeat' first | (with_reducible exact Below.refl _ _) | (with_reducible assumption) | (with_reducible refine below_drewN ?_ _) | (with_reducible refine Below.drew ?_) | (with_reducible refine Below.alloc ?_ ?_ _) | (with_reducible refine Below.setCell ?_ ?_ _) | (with_reducible refine Below.trans ?_ (Below.mono (by assumption) ?_)) | first | omega | (simp only [World.size_alloc, World.size_setCell, World.size_drew, size_drewN]; omega) | (simp; done) | (simp; omega) | (simp only [World.size_alloc, World.size_setCell, World.size_drew, size_drewN] at *; omega) | (simp at *; omega))⟩
    · have hn0 : 0 < (lvJs s l).length := by omega
      clear hn
      go_wp2_with fail
      refine (iLevels_some _ _ _ hn0).mono ?_
      rintro e w2 ⟨g1, c1, rfl, L0, -, -, hg1, hg1', hb2⟩
      have t0' : w2.cell? ⟨w1.heap.size, 0, none⟩ = some (.int .i64 s) := (hb2.cell (p := ⟨w1.heap.size, 0, none⟩) (by simp)).trans (by simp [go_sem])
      have t1' : w2.cell? ⟨w1.heap.size, 1, none⟩ = some (.int .i64 l) := (hb2.cell (p := ⟨w1.heap.size, 1, none⟩) (by simp)).trans (by simp [go_sem])
      have hz2 := hb2.size
      rw [World.size_alloc] at hz2 hg1
      go_wp2_with fail
      refine (sLevels_some _ _ _ hn0).mono ?_
      rintro e w3 ⟨g2, c2, rfl, M0, -, -, hg2, hg2', hb3⟩
      have hz3 := hb3.size
      have t0 : w3.cell? ⟨w1.heap.size, 0, none⟩ = some (.int .i64 s) := (hb3.cell (p := ⟨w1.heap.size, 0, none⟩) (by simp; omega)).trans t0'
      have t1 : w3.cell? ⟨w1.heap.size, 1, none⟩ = some (.int .i64 l) := (hb3.cell (p := ⟨w1.heap.size, 1, none⟩) (by simp; omega)).trans t1'
      have L1 : LvAt w3 g1 s l (lvJs s l) := LvAt.keep L0 (fun o => hb3.cell (p := ⟨g1, o, none⟩) hg1')
      have M1 : LvAt w3 g2 s l (lvJs s l) := M0
      have hB : Below w.heap.size w w3 := by (repeat' first | (with_reducible exact Below.refl _ _) | (with_reducible assumption) | (with_reducible refine below_drewN ?_ _) | (with_reducible refine Below.drew ?_) | (with_reducible refine Below.alloc ?_ ?_ _) | (with_reducible refine Below.setCell ?_ ?_ _) | (with_reducible refine Below.trans ?_ (Below.mono (by assumption) ?_)) | first | omega | (simp only [World.size_alloc, World.size_setCell, World.size_drew, size_drewN]; omega) | (simp; done) | (simp; omega) | (simp only [World.size_alloc, World.size_setCell, World.size_drew, size_drewN] at *; omega) | (simp at *; omega))
      have hne : (((lvJs s l).length : Int) == 0) = false := by rw [beq_eq_false_iff_ne]; omega
      have LL := Lib.hid L1
      have MM := Lib.hid M1
      clear L0 M0 L1 M1 t0' t1' hb1 hb2 hb3
      go_wp2_with fail
      refine (sameLevels_some _ _ _ _ _ _ _ _ hsh LL.out MM.out).mono ?_
      rintro e w4 ⟨rfl, m4, rfl⟩
      clear MM
      go_wp2_with fail
      go_loopw [6] (fun i wr => ∃ k : Nat, k ≤ (lvJs s l).length ∧ i = .int .i64 k ∧ ∃ m, wr = w3.drewN m) (fun i _ => (lvJs s l).length - (intOf i).toNat)
      case atStart => exact ⟨0, Nat.zero_le _, rfl, _, rfl⟩
      case round =>
        obtain ⟨k, hk, rfl, m, rfl⟩ := hrel
        by_cases hlt : k < (lvJs s l).length
        · obtain ⟨j, hj⟩ := lvJs_at hlt
          obtain ⟨-, -, j0, j1, -, hp⟩ := lvJs_get hj
          have hp2 : (j - s).tmod 2 = 0 := Int.tmod_eq_zero_of_dvd (Int.dvd_of_emod_eq_zero hp)
          obtain ⟨e0, e1, e2⟩ := LL.out k j hj
          clear hj hp
          have i0 : (0 : Int) ≤ (k : Int) := Int.natCast_nonneg _
          have i1 : (k : Int) < ((lvJs s l).length : Int) := by omega
          have q1 : IntKind.i64.wrap (j - s) = j - s := IntWalk.i64_in _ (by omega)
          go_wp2
          go_quiet (fail)
          go_wp2
          exact ⟨⟨k + 1, by omega, by go_num, _, rfl⟩, by simp [intOf]; omega⟩
        · obtain rfl : k = (lvJs s l).length := by omega
          go_wp2
          go_ret
          exact ⟨rfl, below_drewN hB _⟩
end Go.Proofs.Ytjienggophfhfaa
