/-
  The walks of the laws' own eqLevelS, markLevelS, heldLevelS. Conditions: none.
-/
import Derived.Test.YtpggbfpjofcgnaaDoorSame
import Derived.Deep.RegionHeld3
namespace Go.Proofs.YtpggbfpjofcgnaaDoor
set_option linter.unusedSimpArgs false
set_option linter.unusedVariables false
open Go.RowKit

set_option maxHeartbeats 400000 in
theorem eqTerm_same (s l : Int) (w : World) :
    Calls Tryd.prog 16 #[.agg #[.int .i64 s, .int .i64 l], .agg #[.int .i64 s, .int .i64 l]] w fun e w' => e = .returned (.bool true) ∧ Below w.heap.size w w' := by
  go_enter Tryd.func16, Tryd.ntmps16
  go_wp2
  try go_quiet (fail)
  try go_wp2
  try go_quiet (fail)
  try go_wp2
  go_ret
  exact ⟨rfl, by (repeat' first | (with_reducible exact Below.refl _ _) | (with_reducible assumption) | (with_reducible refine below_drewN ?_ _) | (with_reducible refine Below.drew ?_) | (with_reducible refine Below.alloc ?_ ?_ _) | (with_reducible refine Below.setCell ?_ ?_ _) | (with_reducible refine Below.trans ?_ (Below.mono (by assumption) ?_)) | first | omega | (simp only [World.size_alloc, World.size_setCell, World.size_drew, size_drewN]; omega) | (simp; done) | (simp; omega) | (simp only [World.size_alloc, World.size_setCell, World.size_drew, size_drewN] at *; omega) | (simp at *; omega))⟩
set_option maxHeartbeats 400000 in
theorem eqLevel_same (s l j : Int) (w : World) :
    Calls Tryd.prog 25 #[.agg #[.int .i64 s, .int .i64 l, .int .i64 j], .agg #[.int .i64 s, .int .i64 l, .int .i64 j]] w fun e w' => e = .returned (.bool true) ∧ Below w.heap.size w w' := by
  go_enter Tryd.func25, Tryd.ntmps25
  go_wp2_with (go_at_call 16; refine (eqTerm_same _ _ _).mono ?_; rintro e w1 ⟨rfl, hb1⟩; obtain ⟨hc1, hf1⟩ := bcell hb1; have hz1 := hb1.size; (try simp only [World.size_alloc, World.size_setCell, World.size_drew, size_drewN] at hz1 hc1 hf1); (have g1a : w.heap.size < w1.heap.size := by omega); (have g1b : w.heap.size + 1 < w1.heap.size := by omega))
  try go_quiet (fail)
  try go_wp2
  go_ret
  exact ⟨rfl, by (repeat' first | (with_reducible exact Below.refl _ _) | (with_reducible assumption) | (with_reducible refine below_drewN ?_ _) | (with_reducible refine Below.drew ?_) | (with_reducible refine Below.alloc ?_ ?_ _) | (with_reducible refine Below.setCell ?_ ?_ _) | (with_reducible refine Below.trans ?_ (Below.mono (by assumption) ?_)) | first | omega | (simp only [World.size_alloc, World.size_setCell, World.size_drew, size_drewN]; omega) | (simp; done) | (simp; omega) | (simp only [World.size_alloc, World.size_setCell, World.size_drew, size_drewN] at *; omega) | (simp at *; omega))⟩
/-- The n cells of block g bear the numbers from q on. -/
def Marked (w : World) (g n : Nat) (q : Int) : Prop := ∀ i, i < n → w.cell? ⟨g, i, none⟩ = some (.int .i64 (q + (i : Int)))
theorem mark_step {w wr : World} {g n k : Nat} (hk : k < n) (hm : Marked wr g (k * 3) 1) (hc : ∀ i, i < n * 3 → ∃ v, wr.cell? ⟨g, i, none⟩ = some v) (hf : ∀ i, wr.frozen? ⟨g, i, none⟩ = false) (hg : w.grownBy wr (some g)) :
    let w' := ((wr.setCell ⟨g, k * 3, none⟩ (.int .i64 (1 + 3 * (k : Int)))).setCell ⟨g, k * 3 + 1, none⟩ (.int .i64 (1 + 3 * (k : Int) + 1))).setCell ⟨g, k * 3 + 2, none⟩ (.int .i64 (1 + 3 * (k : Int) + 1 + 1))
    Marked w' g ((k + 1) * 3) 1 ∧ (∀ i, i < n * 3 → ∃ v, w'.cell? ⟨g, i, none⟩ = some v) ∧ (∀ i, w'.frozen? ⟨g, i, none⟩ = false) ∧ w.grownBy w' (some g) := by
  intro w'
  obtain ⟨x0, e0⟩ := hc (k * 3) (by omega)
  obtain ⟨x1, e1⟩ := hc (k * 3 + 1) (by omega)
  obtain ⟨x2, e2⟩ := hc (k * 3 + 2) (by omega)
  have key : ∀ i, w'.cell? ⟨g, i, none⟩ = if i = k * 3 + 2 then some (.int .i64 (1 + 3 * (k : Int) + 1 + 1)) else if i = k * 3 + 1 then some (.int .i64 (1 + 3 * (k : Int) + 1)) else if i = k * 3 then some (.int .i64 (1 + 3 * (k : Int))) else wr.cell? ⟨g, i, none⟩ := by
    intro i
    by_cases a : i = k * 3 + 2
    · subst a; simp [w', cell_set, e2]
    · rw [if_neg a]
      by_cases b : i = k * 3 + 1
      · subst b; simp [w', cell_set, e1]
      · rw [if_neg b]
        by_cases d : i = k * 3
        · subst d; simp [w', cell_set, e0]
        · rw [if_neg d]
          have a' : ¬ k * 3 + 2 = i := fun e => a e.symm
          have b' : ¬ k * 3 + 1 = i := fun e => b e.symm
          have d' : ¬ k * 3 = i := fun e => d e.symm
          simp [w', cell_set, a', b', d']
  refine ⟨fun i hi => ?_, fun i hi => ?_, fun i => ?_, ⟨hg.os, hg.tape, hg.output, ?_, fun j hj hne => ?_⟩⟩
  · rw [key i]
    split
    · rename_i h; subst h; congr 2; omega
    split
    · rename_i h; subst h; congr 2; omega
    split
    · rename_i h; subst h; congr 2; omega
    · exact hm i (by omega)
  · rw [key i]
    split
    · exact ⟨_, rfl⟩
    split
    · exact ⟨_, rfl⟩
    split
    · exact ⟨_, rfl⟩
    · exact hc i hi
  · simp only [w', World.frozen?_setCell]; exact hf i
  · simp only [w', World.size_setCell]; exact hg.size
  · have hne' : j ≠ g := by simpa using hne
    simp only [w']
    rw [Below.heap_setCell _ _ _ _ hne', Below.heap_setCell _ _ _ _ hne', Below.heap_setCell _ _ _ _ hne']
    exact hg.block j hj hne
end Go.Proofs.YtpggbfpjofcgnaaDoor
