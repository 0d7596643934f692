/-
  The walks of impl.electronsValid, MicroCount, TermCount. Conditions: the table of the library.
-/
import Derived.Test.YtlbmdicfoiehgaaDoorTable
import Derived.Test.YtlbmdicfoiehgaaDoorLevel
import Derived.Deep.QuietTactic
import Derived.BigQuiet
namespace Go.Proofs.YtlbmdicfoiehgaaDoor
set_option linter.unusedSimpArgs false
set_option linter.unusedVariables false
open Go.RowKit

theorem eOk_no {l n : Int} (h : eOk l n = false) : ¬ (0 ≤ l ∧ l ≤ 2 ∧ 0 ≤ n ∧ n ≤ 4 * l + 2) := by simpa [eOk] using h
set_option maxHeartbeats 1000000 in
theorem eValid_any (l n : Int) (w : World) :
    Calls Tryd.prog 33 #[.int .i64 l, .int .i64 n] w fun e w' => e = .returned (.bool (eOk l n)) ∧ w = w' := by
  by_cases h0 : 0 ≤ l
  · by_cases h2 : l ≤ 2
    · by_cases n0 : 0 ≤ n
      · by_cases n2 : n ≤ 4 * l + 2
        · rw [show eOk l n = true by simp [eOk]; omega]
          go_enter Tryd.func33, Tryd.ntmps33
          go_wp2_with (go_at_call 42; refine (capacity_any _ _ h0 (by omega)).mono ?_; rintro e w1 ⟨rfl, rfl⟩)
          go_ret
          exact ⟨rfl, rfl⟩
        · rw [show eOk l n = false by simp [eOk]; omega]
          go_enter Tryd.func33, Tryd.ntmps33
          go_wp2_with (go_at_call 42; refine (capacity_any _ _ h0 (by omega)).mono ?_; rintro e w1 ⟨rfl, rfl⟩)
          go_ret
          first | exact ⟨rfl, rfl⟩ | exact ⟨ret_bool (by simp; omega), rfl⟩ | exact ⟨ret_bool (by simp [n2]), rfl⟩
      · rw [show eOk l n = false by simp [eOk]; omega]
        go_enter Tryd.func33, Tryd.ntmps33
        go_wp2
        go_ret
        exact ⟨rfl, rfl⟩
    · rw [show eOk l n = false by simp [eOk]; omega]
      go_enter Tryd.func33, Tryd.ntmps33
      go_wp2
      go_ret
      exact ⟨rfl, rfl⟩
  · rw [show eOk l n = false by simp [eOk]; omega]
    go_enter Tryd.func33, Tryd.ntmps33
    go_wp2
    go_ret
    exact ⟨rfl, rfl⟩
/-- The number of terms. -/
def tcI (l n s k : Int) : Int := cntM l n k s - cntM l n (k + 1) s - cntM l n k (s + 2) + cntM l n (k + 1) (s + 2)
def tcF (l n s k : Int) : Int := if tvB s k = true ∧ eOk l n = true then tcI l n s k else -1
theorem cntM_bd {l n : Int} (hv : eOk l n = true) (o s : Int) : 0 ≤ cntM l n o s ∧ cntM l n o s ≤ 252 := by
  have := cntK_bd (mics l n) (mics l n).length o s
  have := (mics_bd hv).2.1
  unfold cntM
  omega
set_option maxHeartbeats 4000000 in
theorem iTermCount_any (l n s k : Int) (w : World) (hT : Tab w) (hsz : 1 < w.heap.size) :
    Calls Tryd.prog 14 #[.int .i64 l, .int .i64 n, .agg #[.int .i64 s, .int .i64 k]] w fun e w' => e = .returned (.int .i64 (tcF l n s k)) ∧ Below w.heap.size w w' := by
  cases h1 : tvB s k
  · rw [show tcF l n s k = -1 by simp [tcF, h1]]
    go_enter Tryd.func14, Tryd.ntmps14
    go_wp2_with (go_at_call 25; refine (iTermValid_any _ _ _).mono ?_; rintro e w1 ⟨rfl, hb1⟩; obtain ⟨hc1, hf1⟩ := bcell hb1; have hz1 := hb1.size; (try simp only [World.size_alloc, World.size_setCell, World.size_drew, size_drewN] at hz1 hc1 hf1); (have g1a : w.heap.size < w1.heap.size := by omega))
    go_ret
    exact ⟨rfl, by (repeat' first | (with_reducible exact Below.refl _ _) | (with_reducible assumption) | (with_reducible refine below_drewN ?_ _) | (with_reducible refine Below.drew ?_) | (with_reducible refine Below.alloc ?_ ?_ _) | (with_reducible refine Below.setCell ?_ ?_ _) | (with_reducible refine Below.trans ?_ (Below.mono (by assumption) ?_)) | first | omega | (simp only [World.size_alloc, World.size_setCell, World.size_drew, size_drewN]; omega) | (simp; done) | (simp; omega) | (simp only [World.size_alloc, World.size_setCell, World.size_drew, size_drewN] at *; omega) | (simp at *; omega))⟩
  · cases h2 : eOk l n
    · rw [show tcF l n s k = -1 by simp [tcF, h2]]
      go_enter Tryd.func14, Tryd.ntmps14
      go_wp2_with (first | (go_at_call 25; refine (iTermValid_any _ _ _).mono ?_; rintro e w1 ⟨rfl, hb1⟩; obtain ⟨hc1, hf1⟩ := bcell hb1; have hz1 := hb1.size; (try simp only [World.size_alloc, World.size_setCell, World.size_drew, size_drewN] at hz1 hc1 hf1); (have g1a : w.heap.size < w1.heap.size := by omega)) | (go_at_call 33; refine (eValid_any _ _ _).mono ?_; rintro e w2 ⟨rfl, rfl⟩))
      go_ret
      exact ⟨rfl, by (repeat' first | (with_reducible exact Below.refl _ _) | (with_reducible assumption) | (with_reducible refine below_drewN ?_ _) | (with_reducible refine Below.drew ?_) | (with_reducible refine Below.alloc ?_ ?_ _) | (with_reducible refine Below.setCell ?_ ?_ _) | (with_reducible refine Below.trans ?_ (Below.mono (by assumption) ?_)) | first | omega | (simp only [World.size_alloc, World.size_setCell, World.size_drew, size_drewN]; omega) | (simp; done) | (simp; omega) | (simp only [World.size_alloc, World.size_setCell, World.size_drew, size_drewN] at *; omega) | (simp at *; omega))⟩
    · rw [show tcF l n s k = tcI l n s k by simp [tcF, h1, h2]]
      have bt := tvB_true h1
      have HT := Lib.hid hT
      clear hT
      go_enter Tryd.func14, Tryd.ntmps14
      go_wp2_with fail
      refine (iTermValid_any _ _ _).mono ?_
      rintro e w1 ⟨rfl, hb1⟩
      obtain ⟨hc1, hf1⟩ := bcell hb1; have hz1 := hb1.size; (try simp only [World.size_alloc, World.size_setCell, World.size_drew, size_drewN] at hz1 hc1 hf1); (have g1a : w.heap.size < w1.heap.size := by omega)
      (have q0 : w1.cell? ⟨w.heap.size, 0, none⟩ = some (.int .i64 s) := by (simp (disch := first | omega | (simp; done) | (simp; omega)) [go_sem, *]; done)); (have q1 : w1.cell? ⟨w.heap.size, 1, none⟩ = some (.int .i64 k) := by (simp (disch := first | omega | (simp; done) | (simp; omega)) [go_sem, *]; done))
      have hB1 : Below w.heap.size w w1 := by (repeat' first | (with_reducible exact Below.refl _ _) | (with_reducible assumption) | (with_reducible refine below_drewN ?_ _) | (with_reducible refine Below.drew ?_) | (with_reducible refine Below.alloc ?_ ?_ _) | (with_reducible refine Below.setCell ?_ ?_ _) | (with_reducible refine Below.trans ?_ (Below.mono (by assumption) ?_)) | first | omega | (simp only [World.size_alloc, World.size_setCell, World.size_drew, size_drewN]; omega) | (simp; done) | (simp; omega) | (simp only [World.size_alloc, World.size_setCell, World.size_drew, size_drewN] at *; omega) | (simp at *; omega))
      clear hc1 hf1 hb1
      go_wp2_with fail
      refine (eValid_any _ _ _).mono ?_
      rintro e w2 ⟨rfl, rfl⟩
      go_wp2_with fail
      refine (table_any l n _ h2 (HT.out.of fun i => hB1.cell (p := ⟨1, i, none⟩) hsz) (by omega)).mono ?_
      rintro e w3 ⟨rfl, hM, hb3⟩
      have hz3 := hb3.size
      have r0 : w3.cell? ⟨w.heap.size, 0, none⟩ = some (.int .i64 s) := (hb3.cell (p := ⟨w.heap.size, 0, none⟩) g1a).trans q0
      have r1 : w3.cell? ⟨w.heap.size, 1, none⟩ = some (.int .i64 k) := (hb3.cell (p := ⟨w.heap.size, 1, none⟩) g1a).trans q1
      have hMd : ∀ q : Nat, Mp (w3.drewN q) w1.heap.size 252 (cntM l n) := fun q => hM.heap rfl
      have l1 := fun q : Nat => (hMd q).lookup (o := k) (s := s) ⟨by omega, by omega, by omega, by omega⟩
      have l2 := fun q : Nat => (hMd q).lookup (o := k + 1) (s := s) ⟨by omega, by omega, by omega, by omega⟩
      have l3 := fun q : Nat => (hMd q).lookup (o := k) (s := s + 2) ⟨by omega, by omega, by omega, by omega⟩
      have l4 := fun q : Nat => (hMd q).lookup (o := k + 1) (s := s + 2) ⟨by omega, by omega, by omega, by omega⟩
      have b1 := cntM_bd h2 k s
      have b2 := cntM_bd h2 (k + 1) s
      have b3 := cntM_bd h2 k (s + 2)
      have b4 := cntM_bd h2 (k + 1) (s + 2)
      have hB3 : Below w.heap.size w w3 := hB1.trans (hb3.mono (by omega))
      clear hM hMd hb3 q0 q1 HT
      go_wp2_with fail
      go_quiet (fail)
      all_goals go_wp2
      all_goals go_ret
      all_goals exact ⟨rfl, by (repeat' first | (with_reducible exact Below.refl _ _) | (with_reducible assumption) | (with_reducible refine below_drewN ?_ _) | (with_reducible refine Below.drew ?_) | (with_reducible refine Below.alloc ?_ ?_ _) | (with_reducible refine Below.setCell ?_ ?_ _) | (with_reducible refine Below.trans ?_ (Below.mono (by assumption) ?_)) | first | omega | (simp only [World.size_alloc, World.size_setCell, World.size_drew, size_drewN]; omega) | (simp; done) | (simp; omega) | (simp only [World.size_alloc, World.size_setCell, World.size_drew, size_drewN] at *; omega) | (simp at *; omega))⟩
end Go.Proofs.YtlbmdicfoiehgaaDoor
