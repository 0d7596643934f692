/-
  The walk of spec.TermCount. Conditions: none.
-/
import Derived.Test.YtlbmdicfoiehgaaDoorSpc
import Derived.Test.YtlbmdicfoiehgaaDoorWayP
namespace Go.Proofs.YtlbmdicfoiehgaaDoor
set_option linter.unusedSimpArgs false
set_option linter.unusedVariables false
open Go.RowKit

theorem ways_cm {l n : Int} (hv : eOk l n = true) {o s : Int} (o0 : 0 ≤ o) (o1 : o ≤ 9) (s0 : 0 ≤ s) (s1 : s ≤ 10) (w : World) :
    Calls Tryd.prog 37 #[.int .i64 l, .int .i64 n, .int .i64 o, .int .i64 s] w fun e w' => e = .returned (.int .i64 (cntM l n o s)) ∧ w = w' := by
  rw [← ways_cnt hv o s]
  exact sMicro_any l n o s w hv (by omega) (by omega) (by omega) (by omega)
set_option maxHeartbeats 2000000 in
theorem sTermCount_any (l n s k : Int) (w : World) :
    Calls Tryd.prog 15 #[.int .i64 l, .int .i64 n, .agg #[.int .i64 s, .int .i64 k]] w fun e w' => e = .returned (.int .i64 (tcF l n s k)) ∧ Below w.heap.size w w' := by
  cases h1 : tvB s k
  · rw [show tcF l n s k = -1 by simp [tcF, h1]]
    go_enter Tryd.func15, Tryd.ntmps15
    go_wp2_with (go_at_call 35; refine (sTermValid_any _ _ _).mono ?_; rintro e w1 ⟨rfl, hb1⟩; obtain ⟨hc1, hf1⟩ := bcell hb1; have hz1 := hb1.size; (try simp only [World.size_alloc, World.size_setCell, World.size_drew, size_drewN] at hz1 hc1 hf1); (have g1a : w.heap.size < w1.heap.size := by omega))
    go_ret
    exact ⟨rfl, by (repeat' first | (with_reducible exact Below.refl _ _) | (with_reducible assumption) | (with_reducible refine below_drewN ?_ _) | (with_reducible refine Below.drew ?_) | (with_reducible refine Below.alloc ?_ ?_ _) | (with_reducible refine Below.setCell ?_ ?_ _) | (with_reducible refine Below.trans ?_ (Below.mono (by assumption) ?_)) | first | omega | (simp only [World.size_alloc, World.size_setCell, World.size_drew, size_drewN]; omega) | (simp; done) | (simp; omega) | (simp only [World.size_alloc, World.size_setCell, World.size_drew, size_drewN] at *; omega) | (simp at *; omega))⟩
  · cases h2 : eOk l n
    · rw [show tcF l n s k = -1 by simp [tcF, h2]]
      have h3 : okS l n = false := h2
      go_enter Tryd.func15, Tryd.ntmps15
      go_wp2_with (first | (go_at_call 35; refine (sTermValid_any _ _ _).mono ?_; rintro e w1 ⟨rfl, hb1⟩; obtain ⟨hc1, hf1⟩ := bcell hb1; have hz1 := hb1.size; (try simp only [World.size_alloc, World.size_setCell, World.size_drew, size_drewN] at hz1 hc1 hf1); (have g1a : w.heap.size < w1.heap.size := by omega)) | (go_at_call 36; refine (l12Ok_any _ _ _).mono ?_; rintro e w2 ⟨rfl, rfl⟩))
      go_ret
      exact ⟨rfl, by (repeat' first | (with_reducible exact Below.refl _ _) | (with_reducible assumption) | (with_reducible refine below_drewN ?_ _) | (with_reducible refine Below.drew ?_) | (with_reducible refine Below.alloc ?_ ?_ _) | (with_reducible refine Below.setCell ?_ ?_ _) | (with_reducible refine Below.trans ?_ (Below.mono (by assumption) ?_)) | first | omega | (simp only [World.size_alloc, World.size_setCell, World.size_drew, size_drewN]; omega) | (simp; done) | (simp; omega) | (simp only [World.size_alloc, World.size_setCell, World.size_drew, size_drewN] at *; omega) | (simp at *; omega))⟩
    · rw [show tcF l n s k = tcI l n s k by simp [tcF, h1, h2]]
      have h3 : okS l n = true := h2
      have bt := tvB_true h1
      go_enter Tryd.func15, Tryd.ntmps15
      go_wp2_with fail
      refine (sTermValid_any _ _ _).mono ?_
      rintro e w1 ⟨rfl, hb1⟩
      obtain ⟨hc1, hf1⟩ := bcell hb1; have hz1 := hb1.size; (try simp only [World.size_alloc, World.size_setCell, World.size_drew, size_drewN] at hz1 hc1 hf1); (have g1a : w.heap.size < w1.heap.size := by omega)
      (have q0 : w1.cell? ⟨w.heap.size, 0, none⟩ = some (.int .i64 s) := by (simp (disch := first | omega | (simp; done) | (simp; omega)) [go_sem, *]; done)); (have q1 : w1.cell? ⟨w.heap.size, 1, none⟩ = some (.int .i64 k) := by (simp (disch := first | omega | (simp; done) | (simp; omega)) [go_sem, *]; done))
      have hB1 : Below w.heap.size w w1 := by (repeat' first | (with_reducible exact Below.refl _ _) | (with_reducible assumption) | (with_reducible refine below_drewN ?_ _) | (with_reducible refine Below.drew ?_) | (with_reducible refine Below.alloc ?_ ?_ _) | (with_reducible refine Below.setCell ?_ ?_ _) | (with_reducible refine Below.trans ?_ (Below.mono (by assumption) ?_)) | first | omega | (simp only [World.size_alloc, World.size_setCell, World.size_drew, size_drewN]; omega) | (simp; done) | (simp; omega) | (simp only [World.size_alloc, World.size_setCell, World.size_drew, size_drewN] at *; omega) | (simp at *; omega))
      have b1 := cntM_bd h2 k s
      have b2 := cntM_bd h2 (k + 1) s
      have b3 := cntM_bd h2 k (s + 2)
      have b4 := cntM_bd h2 (k + 1) (s + 2)
      clear hc1 hf1 hb1
      go_wp2_with fail
      refine (l12Ok_any _ _ _).mono ?_
      rintro e w2 ⟨rfl, rfl⟩
      go_wp2_with fail
      go_quiet ((first | (go_at_call 37; exact Calls.quiet_of_same ((ways_cm h2 (by omega) (by omega) (by omega) (by omega) _).mono fun _ _ h => ⟨h.1, h.2.symm⟩))))
      obtain ⟨W, hW⟩ : ∃ W, W = w1.drewN nq := ⟨_, rfl⟩
      have r0 : W.cell? ⟨w.heap.size, 0, none⟩ = some (.int .i64 s) := by subst hW; exact q0
      have r1 : W.cell? ⟨w.heap.size, 1, none⟩ = some (.int .i64 k) := by subst hW; exact q1
      have hBW : Below w.heap.size w W := by subst hW; exact below_drewN hB1 _
      rw [← hW]
      clear hW q0 q1 hB1
      go_wp2_with fail
      go_quiet ((first | (go_at_call 37; exact Calls.quiet_of_same ((ways_cm h2 (by omega) (by omega) (by omega) (by omega) _).mono fun _ _ h => ⟨h.1, h.2.symm⟩))))
      go_wp2
      go_ret
      exact ⟨rfl, by (repeat' first | (with_reducible exact Below.refl _ _) | (with_reducible assumption) | (with_reducible refine below_drewN ?_ _) | (with_reducible refine Below.drew ?_) | (with_reducible refine Below.alloc ?_ ?_ _) | (with_reducible refine Below.setCell ?_ ?_ _) | (with_reducible refine Below.trans ?_ (Below.mono (by assumption) ?_)) | first | omega | (simp only [World.size_alloc, World.size_setCell, World.size_drew, size_drewN]; omega) | (simp; done) | (simp; omega) | (simp only [World.size_alloc, World.size_setCell, World.size_drew, size_drewN] at *; omega) | (simp at *; omega))⟩
end Go.Proofs.YtlbmdicfoiehgaaDoor
