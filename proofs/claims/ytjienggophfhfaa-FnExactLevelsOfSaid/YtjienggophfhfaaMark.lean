/-
  The walks of the laws' own eqLevelS, markLevelS, heldLevelS. Conditions: none.
-/
import Derived.Test.YtjienggophfhfaaSame
import Derived.Deep.RegionHeld3
namespace Go.Proofs.Ytjienggophfhfaa
set_option linter.unusedSimpArgs false
set_option linter.unusedVariables false
open Go.RowKit

set_option maxHeartbeats 400000 in
theorem eqTerm_same (s l : Int) (w : World) :
    Calls Try.prog 48 #[.agg #[.int .i64 s, .int .i64 l], .agg #[.int .i64 s, .int .i64 l]] w fun e w' => e = .returned (.bool true) ∧ Below w.heap.size w w' := by
  go_enter Try.func48, Try.ntmps48
  go_wp2
  try go_quiet (fail)
  try go_wp2
  try go_quiet (fail)
  try go_wp2
  go_ret
  exact ⟨rfl, by (repeat' first | (with_reducible exact Below.refl _ _) | (with_reducible assumption) | (with_reducible refine below_drewN ?_ _) | (with_reducible refine Below.drew ?_) | (with_reducible refine Below.alloc ?_ ?_ _) | (with_reducible refine Below.setCell ?_ ?_ _) | (with_reducible refine Below.trans ?_ (Below.mono (by assumption) ?_)) | first | omega | (simp only [World.size_alloc, World.size_setCell, World.size_drew, size_drewN]; omega) | (simp; done) | (simp; omega) | (simp only [World.size_alloc, World.size_setCell, World.size_drew, size_drewN] at *; omega) | (simp at *; omega))⟩
set_option maxHeartbeats 400000 in
theorem eqLevel_same (s l j : Int) (w : World) :
    Calls Try.prog 40 #[.agg #[.int .i64 s, .int .i64 l, .int .i64 j], .agg #[.int .i64 s, .int .i64 l, .int .i64 j]] w fun e w' => e = .returned (.bool true) ∧ Below w.heap.size w w' := by
  go_enter Try.func40, Try.ntmps40
  go_wp2_with (go_at_call 48; refine (eqTerm_same _ _ _).mono ?_; rintro e w1 ⟨rfl, hb1⟩; obtain ⟨hc1, hf1⟩ := bcell hb1; have hz1 := hb1.size; (try simp only [World.size_alloc, World.size_setCell, World.size_drew, size_drewN] at hz1 hc1 hf1); (have g1a : w.heap.size < w1.heap.size := by omega); (have g1b : w.heap.size + 1 < w1.heap.size := by omega))
  try go_quiet (fail)
  try go_wp2
  go_ret
  exact ⟨rfl, by (repeat' first | (with_reducible exact Below.refl _ _) | (with_reducible assumption) | (with_reducible refine below_drewN ?_ _) | (with_reducible refine Below.drew ?_) | (with_reducible refine Below.alloc ?_ ?_ _) | (with_reducible refine Below.setCell ?_ ?_ _) | (with_reducible refine Below.trans ?_ (Below.mono (by assumption) ?_)) | first | omega | (simp only [World.size_alloc, World.size_setCell, World.size_drew, size_drewN]; omega) | (simp; done) | (simp; omega) | (simp only [World.size_alloc, World.size_setCell, World.size_drew, size_drewN] at *; omega) | (simp at *; omega))⟩
set_option maxHeartbeats 400000 in
theorem eqLevelS_nil (a b : Option Addr) (c d : Nat) (w : World) :
    Calls Try.prog 21 #[.slice a 0 c, .slice b 0 d] w fun e w' => e = .returned (.bool true) ∧ Below w.heap.size w w' := by
  go_enter Try.func21, Try.ntmps21
  go_wp2
  refine wp_loop_rounds 1 ?_
  rw [rounds_succ]
  go_wp2
  go_ret
  exact ⟨rfl, by (repeat' first | (with_reducible exact Below.refl _ _) | (with_reducible assumption) | (with_reducible refine below_drewN ?_ _) | (with_reducible refine Below.drew ?_) | (with_reducible refine Below.alloc ?_ ?_ _) | (with_reducible refine Below.setCell ?_ ?_ _) | (with_reducible refine Below.trans ?_ (Below.mono (by assumption) ?_)) | first | omega | (simp only [World.size_alloc, World.size_setCell, World.size_drew, size_drewN]; omega) | (simp; done) | (simp; omega) | (simp only [World.size_alloc, World.size_setCell, World.size_drew, size_drewN] at *; omega) | (simp at *; omega))⟩
set_option maxHeartbeats 800000 in
theorem eqLevelS_some (g1 g2 c1 c2 : Nat) (s l : Int) (js : List Int) (w : World) (hs : js.length ≤ 25) (hg1 : g1 < w.heap.size) (hg2 : g2 < w.heap.size) (h1 : LvAt w g1 s l js) (h2 : LvAt w g2 s l js) :
    Calls Try.prog 21 #[.slice (some ⟨g1, 0, none⟩) js.length c1, .slice (some ⟨g2, 0, none⟩) js.length c2] w fun e w' => e = .returned (.bool true) ∧ Below w.heap.size w w' := by
  have H1 := Lib.hid h1
  have H2 := Lib.hid h2
  clear h1 h2
  go_enter Try.func21, Try.ntmps21
  go_wp2
  go_loopw [5] (fun i wr => ∃ k : Nat, k ≤ js.length ∧ i = .int .i64 k ∧ Below w.heap.size w wr) (fun i _ => js.length - (intOf i).toNat)
  case atStart => exact ⟨0, Nat.zero_le _, rfl, Below.refl _ _⟩
  case round =>
    obtain ⟨k, hk, rfl, hbel⟩ := hrel
    have hbz := hbel.size
    by_cases hlt : k < js.length
    · obtain ⟨j, hj⟩ : ∃ j, js[k]? = some j := ⟨_, List.getElem?_eq_getElem hlt⟩
      obtain ⟨a0, a1, a2⟩ := H1.out k j hj
      obtain ⟨b0, b1, b2⟩ := H2.out k j hj
      have r0 := (hbel.cell (p := ⟨g1, k * 3, none⟩) hg1).trans a0
      have r1 := (hbel.cell (p := ⟨g1, k * 3 + 1, none⟩) hg1).trans a1
      have r2 := (hbel.cell (p := ⟨g1, k * 3 + 2, none⟩) hg1).trans a2
      have t0 := (hbel.cell (p := ⟨g2, k * 3, none⟩) hg2).trans b0
      have t1 := (hbel.cell (p := ⟨g2, k * 3 + 1, none⟩) hg2).trans b1
      have t2 := (hbel.cell (p := ⟨g2, k * 3 + 2, none⟩) hg2).trans b2
      clear hj a0 a1 a2 b0 b1 b2
      have i0 : (0 : Int) ≤ (k : Int) := Int.natCast_nonneg _
      have i1 : (k : Int) < (js.length : Int) := by omega
      go_wp2
      go_region_held3 (fun w' => w'.cell? ⟨g1, k * 3, none⟩ = some (.int .i64 s) ∧ w'.cell? ⟨g1, k * 3 + 1, none⟩ = some (.int .i64 l) ∧ w'.cell? ⟨g1, k * 3 + 2, none⟩ = some (.int .i64 j) ∧
          w'.cell? ⟨g2, k * 3, none⟩ = some (.int .i64 s) ∧ w'.cell? ⟨g2, k * 3 + 1, none⟩ = some (.int .i64 l) ∧ w'.cell? ⟨g2, k * 3 + 2, none⟩ = some (.int .i64 j) ∧ w.heap.size ≤ w'.heap.size ∧ Below w.heap.size w w')
        (first | (simp (disch := first | omega | (simp; done) | (simp; omega)) [go_sem, *]; done) | ((repeat' first | (with_reducible exact Below.refl _ _) | (with_reducible assumption) | (with_reducible refine below_drewN ?_ _) | (with_reducible refine Below.drew ?_) | (with_reducible refine Below.alloc ?_ ?_ _) | (with_reducible refine Below.setCell ?_ ?_ _) | (with_reducible refine Below.trans ?_ (Below.mono (by assumption) ?_)) | first | omega | (simp only [World.size_alloc, World.size_setCell, World.size_drew, size_drewN]; omega) | (simp; done) | (simp; omega) | (simp only [World.size_alloc, World.size_setCell, World.size_drew, size_drewN] at *; omega) | (simp at *; omega)); done) | ((try go_split_ands); (refine ⟨?_, ?_, ?_, ?_, ?_, ?_, ?_, ?_⟩ <;> first | omega | (simp only [World.size_alloc, World.size_setCell, World.size_drew, size_drewN]; omega) | (simp (disch := first | omega | (simp; done) | (simp; omega)) [go_sem, *]; done) | ((repeat' first | (with_reducible exact Below.refl _ _) | (with_reducible assumption) | (with_reducible refine below_drewN ?_ _) | (with_reducible refine Below.drew ?_) | (with_reducible refine Below.alloc ?_ ?_ _) | (with_reducible refine Below.setCell ?_ ?_ _) | (with_reducible refine Below.trans ?_ (Below.mono (by assumption) ?_)) | first | omega | (simp only [World.size_alloc, World.size_setCell, World.size_drew, size_drewN]; omega) | (simp; done) | (simp; omega) | (simp only [World.size_alloc, World.size_setCell, World.size_drew, size_drewN] at *; omega) | (simp at *; omega)); done))))
        (first | (go_at_call 40; refine (eqLevel_same _ _ _ _).mono ?_; rintro e w5 ⟨rfl, hb5⟩; obtain ⟨hc5, hf5⟩ := bcell hb5; have hz5 := hb5.size; (try simp only [World.size_alloc, World.size_setCell, World.size_drew, size_drewN] at hz5 hc5 hf5)))
      have hB5 : Below w.heap.size w w5 := by (repeat' first | (with_reducible exact Below.refl _ _) | (with_reducible assumption) | (with_reducible refine below_drewN ?_ _) | (with_reducible refine Below.drew ?_) | (with_reducible refine Below.alloc ?_ ?_ _) | (with_reducible refine Below.setCell ?_ ?_ _) | (with_reducible refine Below.trans ?_ (Below.mono (by assumption) ?_)) | first | omega | (simp only [World.size_alloc, World.size_setCell, World.size_drew, size_drewN]; omega) | (simp; done) | (simp; omega) | (simp only [World.size_alloc, World.size_setCell, World.size_drew, size_drewN] at *; omega) | (simp at *; omega))
      clear hbel hb5 r0 r1 r2 t0 t1 t2 hc5 hf5
      go_wp2
      go_roundw
      case rel => exact ⟨k + 1, by omega, by go_num, hB5⟩
      case measure => simp [intOf]; omega
    · obtain rfl : k = js.length := by omega
      go_wp2
      go_ret
      exact ⟨rfl, hbel⟩
/-- The n cells of block g bear the numbers from q on. -/
def Marked (w : World) (g n : Nat) (q : Int) : Prop := ∀ i, i < n → w.cell? ⟨g, i, none⟩ = some (.int .i64 (q + (i : Int)))
theorem mark_step {w wr : World} {g n k : Nat} (hk : k < n) (hm : Marked wr g (k * 3) 1) (hc : ∀ i, i < n * 3 → ∃ v, wr.cell? ⟨g, i, none⟩ = some v) (hf : ∀ i, wr.frozen? ⟨g, i, none⟩ = false) (hg : w.grownBy wr (some g)) :
    let w' := ((wr.setCell ⟨g, k * 3, none⟩ (.int .i64 (1 + 3 * (k : Int)))).setCell ⟨g, k * 3 + 1, none⟩ (.int .i64 (1 + 3 * (k : Int) + 1))).setCell ⟨g, k * 3 + 2, none⟩ (.int .i64 (1 + 3 * (k : Int) + 1 + 1))
    Marked w' g ((k + 1) * 3) 1 ∧ (∀ i, i < n * 3 → ∃ v, w'.cell? ⟨g, i, none⟩ = some v) ∧ (∀ i, w'.frozen? ⟨g, i, none⟩ = false) ∧ w.grownBy w' (some g) := by
  intro w'
  obtain ⟨x0, e0⟩ := hc (k * 3) (by omega)
  obtain ⟨x1, e1⟩ := hc (k * 3 + 1) (by omega)
  obtain ⟨x2, e2⟩ := hc (k * 3 + 2) (by omega)
  have key : ∀ i, w'.cell? ⟨g, i, none⟩ = if i = k * 3 + 2 then some (.int .i64 (1 + 3 * (k : Int) + 1 + 1)) else if i = k * 3 + 1 then some (.int .i64 (1 + 3 * (k : Int) + 1)) else if i = k * 3 then some (.int .i64 (1 + 3 * (k : Int))) else wr.cell? ⟨g, i, none⟩ := by
    intro i
    by_cases a : i = k * 3 + 2
    · subst a; simp [w', cell_set, e2]
    · rw [if_neg a]
      by_cases b : i = k * 3 + 1
      · subst b; simp [w', cell_set, e1]
      · rw [if_neg b]
        by_cases d : i = k * 3
        · subst d; simp [w', cell_set, e0]
        · rw [if_neg d]
          have a' : ¬ k * 3 + 2 = i := fun e => a e.symm
          have b' : ¬ k * 3 + 1 = i := fun e => b e.symm
          have d' : ¬ k * 3 = i := fun e => d e.symm
          simp [w', cell_set, a', b', d']
  refine ⟨fun i hi => ?_, fun i hi => ?_, fun i => ?_, ⟨hg.os, hg.tape, hg.output, ?_, fun j hj hne => ?_⟩⟩
  · rw [key i]
    split
    · rename_i h; subst h; congr 2; omega
    split
    · rename_i h; subst h; congr 2; omega
    split
    · rename_i h; subst h; congr 2; omega
    · exact hm i (by omega)
  · rw [key i]
    split
    · exact ⟨_, rfl⟩
    split
    · exact ⟨_, rfl⟩
    split
    · exact ⟨_, rfl⟩
    · exact hc i hi
  · simp only [w', World.frozen?_setCell]; exact hf i
  · simp only [w', World.size_setCell]; exact hg.size
  · have hne' : j ≠ g := by simpa using hne
    simp only [w']
    rw [Below.heap_setCell _ _ _ _ hne', Below.heap_setCell _ _ _ _ hne', Below.heap_setCell _ _ _ _ hne']
    exact hg.block j hj hne
set_option maxHeartbeats 400000 in
theorem markLevelS_nil (a : Option Addr) (c : Nat) (q : Int) (w : World) :
    Calls Try.prog 22 #[.slice a 0 c, .int .i64 q] w fun e w' => e = .returned (.int .i64 q) ∧ w = w' := by
  go_enter Try.func22, Try.ntmps22
  go_wp2
  refine wp_loop_rounds 1 ?_
  rw [rounds_succ]
  go_wp2
  go_ret
  exact ⟨rfl, rfl⟩
set_option maxHeartbeats 800000 in
theorem markLevelS_some (g c n : Nat) (w : World) (hn : n ≤ 1000) (hc : ∀ i, i < n * 3 → ∃ v, w.cell? ⟨g, i, none⟩ = some v) (hf : ∀ i, w.frozen? ⟨g, i, none⟩ = false) :
    Calls Try.prog 22 #[.slice (some ⟨g, 0, none⟩) n c, .int .i64 1] w fun e w' => e = .returned (.int .i64 (1 + 3 * (n : Int))) ∧ Marked w' g (n * 3) 1 ∧ w.grownBy w' (some g) := by
  have HC := Lib.hid hc
  have HF := Lib.hid hf
  clear hc hf
  go_enter Try.func22, Try.ntmps22
  go_wp2
  go_loopw [1, 5] (fun q i wr => ∃ k : Nat, k ≤ n ∧ i = .int .i64 k ∧ q = .int .i64 (1 + 3 * (k : Int)) ∧ Marked wr g (k * 3) 1 ∧ (∀ i, i < n * 3 → ∃ v, wr.cell? ⟨g, i, none⟩ = some v) ∧ (∀ i, wr.frozen? ⟨g, i, none⟩ = false) ∧ w.grownBy wr (some g)) (fun _ i _ => n - (intOf i).toNat)
  case atStart => exact ⟨0, Nat.zero_le _, rfl, rfl, fun i hi => by omega, HC.out, HF.out, ⟨rfl, rfl, rfl, Nat.le_refl _, fun _ _ _ => rfl⟩⟩
  case round =>
    obtain ⟨k, hk, rfl, rfl, hm, hcell, hfree, hgrow⟩ := hrel
    by_cases hlt : k < n
    · obtain ⟨x0, e0⟩ := hcell (k * 3) (by omega)
      obtain ⟨x1, e1⟩ := hcell (k * 3 + 1) (by omega)
      obtain ⟨x2, e2⟩ := hcell (k * 3 + 2) (by omega)
      have f0 := hfree (k * 3)
      have f1 := hfree (k * 3 + 1)
      have f2 := hfree (k * 3 + 2)
      have R := Lib.hid (mark_step hlt hm hcell hfree hgrow)
      clear hm hcell hfree hgrow
      have i0 : (0 : Int) ≤ (k : Int) := Int.natCast_nonneg _
      have i1 : (k : Int) < (n : Int) := by omega
      go_wp2
      have R' := R.out
      exact ⟨⟨k + 1, by omega, by go_num, by go_num, R'.1, R'.2.1, R'.2.2.1, R'.2.2.2⟩, by simp [intOf]; omega⟩
    · obtain rfl : k = n := by omega
      go_wp2
      go_ret
      exact ⟨rfl, hm, hgrow⟩
set_option maxHeartbeats 400000 in
theorem heldLevelS_nil (a : Option Addr) (c : Nat) (q : Int) (w : World) :
    Calls Try.prog 23 #[.slice a 0 c, .int .i64 q] w fun e w' => e = .returned (.int .i64 q) ∧ w = w' := by
  go_enter Try.func23, Try.ntmps23
  go_wp2
  refine wp_loop_rounds 1 ?_
  rw [rounds_succ]
  go_wp2
  go_ret
  exact ⟨rfl, rfl⟩
set_option maxHeartbeats 800000 in
theorem heldLevelS_some (g c n : Nat) (w : World) (hn : n ≤ 1000) (hm : Marked w g (n * 3) 1) :
    Calls Try.prog 23 #[.slice (some ⟨g, 0, none⟩) n c, .int .i64 1] w fun e w' => e = .returned (.int .i64 (1 + 3 * (n : Int))) ∧ w = w' := by
  have HM := Lib.hid hm
  clear hm
  go_enter Try.func23, Try.ntmps23
  go_wp2
  go_loop [1, 5] (fun q i => ∃ k : Nat, k ≤ n ∧ i = .int .i64 k ∧ q = .int .i64 (1 + 3 * (k : Int))) (fun _ i => n - (intOf i).toNat)
  case atStart => exact ⟨0, Nat.zero_le _, rfl, rfl⟩
  case round =>
    obtain ⟨k, hk, rfl, rfl⟩ := hrel
    by_cases hlt : k < n
    · have e0 : w.cell? ⟨g, k * 3, none⟩ = some (.int .i64 (1 + 3 * (k : Int))) := by rw [HM.out (k * 3) (by omega)]; congr 2; omega
      have e1 : w.cell? ⟨g, k * 3 + 1, none⟩ = some (.int .i64 (1 + 3 * (k : Int) + 1)) := by rw [HM.out (k * 3 + 1) (by omega)]; congr 2; omega
      have e2 : w.cell? ⟨g, k * 3 + 2, none⟩ = some (.int .i64 (1 + 3 * (k : Int) + 1 + 1)) := by rw [HM.out (k * 3 + 2) (by omega)]; congr 2; omega
      have i0 : (0 : Int) ≤ (k : Int) := Int.natCast_nonneg _
      have i1 : (k : Int) < (n : Int) := by omega
      go_wp2
      go_round
      case rel => exact ⟨k + 1, by omega, by go_num, by go_num⟩
      case measure => simp [intOf]; omega
    · obtain rfl : k = n := by omega
      go_wp2
      go_ret
      exact ⟨rfl, rfl⟩
end Go.Proofs.Ytjienggophfhfaa
