/-
  The walk of impl.MicroCount. Conditions: the table of the library.
-/
import Derived.Test.YtlbmdicfoiehgaaDoorLawsT1
namespace Go.Proofs.YtlbmdicfoiehgaaDoor
set_option linter.unusedSimpArgs false
set_option linter.unusedVariables false
open Go.RowKit

set_option maxRecDepth 20000 in
set_option maxHeartbeats 2000000 in
theorem iMicroCount_any (l n o s : Int) (w : World) (hv : eOk l n = true) (hT : Tab w) (hsz : 1 < w.heap.size) :
    Calls Tryd.prog 16 #[.int .i64 l, .int .i64 n, .int .i64 o, .int .i64 s] w fun e w' => e = .returned (.int .i64 (cntM l n o s)) ∧ Below w.heap.size w w' := by
  have bl := eOk_true hv
  obtain ⟨m0, m1, -⟩ := mics_bd hv
  have HV := Lib.hid hv
  go_enter Tryd.func16, Tryd.ntmps16
  go_wp2_with fail
  refine (eValid_any _ _ _).mono ?_
  rintro e w0 ⟨rfl, rfl⟩
  go_wp2_with fail
  refine (micro_any l n _ bl.1 bl.2.1 hT hsz).mono ?_
  rintro e w1 ⟨v, rfl, hown, hb1⟩
  obtain ⟨g, cp, rfl, hg1, hg2, hc, -⟩ := row_form hown (by show 0 < (mics l n).length; omega)
  have hz1 := hb1.size
  have HC := Lib.hid hc
  rw [show micL l n (cap l) = mics l n from rfl]
  clear hc hown hT hv
  go_wp2_with fail
  go_loopw [9, 20] (fun tt i wr => ∃ k : Nat, k ≤ (mics l n).length ∧ i = .int .i64 k ∧ tt = .int .i64 (cntK (mics l n) k o s) ∧ Below w1.heap.size w1 wr) (fun _ i _ => (mics l n).length - (intOf i).toNat)
  case atStart => exact ⟨0, Nat.zero_le _, rfl, by simp [cntK], Below.refl _ _⟩
  case round =>
    obtain ⟨k, hk, rfl, rfl, hbel⟩ := hrel
    have hbz := hbel.size
    by_cases hlt : k < (mics l n).length
    · obtain ⟨p, hp⟩ : ∃ p, (mics l n)[k]? = some p := ⟨_, List.getElem?_eq_getElem hlt⟩
      obtain ⟨x0, x1⟩ := vS_get (mics l n) k p hp
      have y0 : w1.cell? ⟨g, k * 2, none⟩ = (vS (mics l n))[k * 2]? := HC.out (k * 2) (by show k * 2 < (mics l n).length * 2; omega)
      have y1 : w1.cell? ⟨g, k * 2 + 1, none⟩ = (vS (mics l n))[k * 2 + 1]? := HC.out (k * 2 + 1) (by show k * 2 + 1 < (mics l n).length * 2; omega)
      have r0 := (hbel.cell (p := ⟨g, k * 2, none⟩) hg2).trans (y0.trans x0)
      have r1 := (hbel.cell (p := ⟨g, k * 2 + 1, none⟩) hg2).trans (y1.trans x1)
      have cb := cntK_bd (mics l n) k o s
      have i0' : (0 : Int) ≤ (k : Int) := Int.natCast_nonneg _
      have i1 : (k : Int) < ((mics l n).length : Int) := by omega
      have hst := Lib.hid (cntK_step hp)
      clear x0 x1 y0 y1
      by_cases ho : p.1 = o
      · have ho' : (p.1 == o) = true := by rw [beq_iff_eq]; exact ho
        by_cases hs : p.2 = s
        · have hs' : (p.2 == s) = true := by rw [beq_iff_eq]; exact hs
          have hnew : cntK (mics l n) (k + 1) o s = cntK (mics l n) k o s + 1 := by rw [hst.out]; simp [updM, ho, hs]
          have HN := Lib.hid hnew
          clear hnew ho hs
          go_wp2
          go_roundw
          case rel => exact ⟨k + 1, hlt, by go_num, by rw [HN.out], by (repeat' first | (with_reducible exact Below.refl _ _) | (with_reducible assumption) | (with_reducible refine below_drewN ?_ _) | (with_reducible refine Below.drew ?_) | (with_reducible refine Below.alloc ?_ ?_ _) | (with_reducible refine Below.setCell ?_ ?_ _) | (with_reducible refine Below.trans ?_ (Below.mono (by assumption) ?_)) | first | omega | (simp only [World.size_alloc, World.size_setCell, World.size_drew, size_drewN]; omega) | (simp; done) | (simp; omega) | (simp only [World.size_alloc, World.size_setCell, World.size_drew, size_drewN] at *; omega) | (simp at *; omega))⟩
          case measure => simp [intOf]; omega
        · have hs' : (p.2 == s) = false := by rw [beq_eq_false_iff_ne]; exact hs
          have hnew : cntK (mics l n) (k + 1) o s = cntK (mics l n) k o s := by
            rw [hst.out]
            unfold updM
            rw [if_neg (fun h => hs h.2.symm)]
          have HN := Lib.hid hnew
          clear hnew ho hs
          go_wp2
          go_roundw
          case rel => exact ⟨k + 1, hlt, by go_num, by rw [HN.out], by (repeat' first | (with_reducible exact Below.refl _ _) | (with_reducible assumption) | (with_reducible refine below_drewN ?_ _) | (with_reducible refine Below.drew ?_) | (with_reducible refine Below.alloc ?_ ?_ _) | (with_reducible refine Below.setCell ?_ ?_ _) | (with_reducible refine Below.trans ?_ (Below.mono (by assumption) ?_)) | first | omega | (simp only [World.size_alloc, World.size_setCell, World.size_drew, size_drewN]; omega) | (simp; done) | (simp; omega) | (simp only [World.size_alloc, World.size_setCell, World.size_drew, size_drewN] at *; omega) | (simp at *; omega))⟩
          case measure => simp [intOf]; omega
      · have ho' : (p.1 == o) = false := by rw [beq_eq_false_iff_ne]; exact ho
        have hnew : cntK (mics l n) (k + 1) o s = cntK (mics l n) k o s := by
          rw [hst.out]
          unfold updM
          rw [if_neg (fun h => ho h.1.symm)]
        have HN := Lib.hid hnew
        clear hnew ho
        go_wp2
        go_roundw
        case rel => exact ⟨k + 1, hlt, by go_num, by rw [HN.out], by (repeat' first | (with_reducible exact Below.refl _ _) | (with_reducible assumption) | (with_reducible refine below_drewN ?_ _) | (with_reducible refine Below.drew ?_) | (with_reducible refine Below.alloc ?_ ?_ _) | (with_reducible refine Below.setCell ?_ ?_ _) | (with_reducible refine Below.trans ?_ (Below.mono (by assumption) ?_)) | first | omega | (simp only [World.size_alloc, World.size_setCell, World.size_drew, size_drewN]; omega) | (simp; done) | (simp; omega) | (simp only [World.size_alloc, World.size_setCell, World.size_drew, size_drewN] at *; omega) | (simp at *; omega))⟩
        case measure => simp [intOf]; omega
    · obtain rfl : k = (mics l n).length := by omega
      go_wp2
      go_ret
      exact ⟨rfl, hb1.trans (hbel.mono hz1)⟩
end Go.Proofs.YtlbmdicfoiehgaaDoor
