/-
  The walk of the laws' own markTermS from any number on. Conditions: none.
-/
import Derived.Test.YtjopcpoodhamcaaHrb
namespace Go.Proofs.Ytjopcpoodhamcaa
set_option linter.unusedSimpArgs false
set_option linter.unusedVariables false
open Go.RowKit

theorem markQ_step {w wr : World} {g n k : Nat} {u0 u1 : Value} (hk : k < n) (hc : ∀ i, i < n * 2 → ∃ v, wr.cell? ⟨g, i, none⟩ = some v) (hf : ∀ i, wr.frozen? ⟨g, i, none⟩ = false) (hg : w.grownBy wr (some g)) :
    let w' := (wr.setCell ⟨g, k * 2, none⟩ u0).setCell ⟨g, k * 2 + 1, none⟩ u1
    (∀ i, i < n * 2 → ∃ v, w'.cell? ⟨g, i, none⟩ = some v) ∧ (∀ i, w'.frozen? ⟨g, i, none⟩ = false) ∧ w.grownBy w' (some g) := by
  intro w'
  obtain ⟨x0, e0⟩ := hc (k * 2) (by omega)
  obtain ⟨x1, e1⟩ := hc (k * 2 + 1) (by omega)
  refine ⟨fun i hi => ?_, fun i => ?_, ⟨hg.os, hg.tape, hg.output, ?_, fun j hj hne => ?_⟩⟩
  · by_cases b : i = k * 2 + 1
    · subst b; exact ⟨u1, by simp [w', cell_set, e1]⟩
    · by_cases d : i = k * 2
      · subst d; exact ⟨u0, by simp [w', cell_set, e0]⟩
      · have b' : ¬ k * 2 + 1 = i := fun e => b e.symm
        have d' : ¬ k * 2 = i := fun e => d e.symm
        obtain ⟨v, hv⟩ := hc i hi
        exact ⟨v, by simp [w', cell_set, b', d', hv]⟩
  · simp only [w', World.frozen?_setCell]; exact hf i
  · simp only [w', World.size_setCell]; exact hg.size
  · have hne' : j ≠ g := by simpa using hne
    simp only [w']
    rw [Below.heap_setCell _ _ _ _ hne', Below.heap_setCell _ _ _ _ hne']
    exact hg.block j hj hne
set_option maxHeartbeats 400000 in
theorem markQ_nil (q : Int) (w : World) :
    Calls Try.prog 9 #[.slice none 0 0, .int .i64 q] w fun e w' => e = .returned (.int .i64 q) ∧ w = w' := mark_nil q w
set_option maxHeartbeats 800000 in
theorem markQ_some (g c n : Nat) (q : Int) (w : World) (q0 : 0 ≤ q) (q1 : q ≤ 1000000000) (hn : n ≤ 2000000) (hc : ∀ i, i < n * 2 → ∃ v, w.cell? ⟨g, i, none⟩ = some v) (hf : ∀ i, w.frozen? ⟨g, i, none⟩ = false) :
    Calls Try.prog 9 #[.slice (some ⟨g, 0, none⟩) n c, .int .i64 q] w fun e w' => e = .returned (.int .i64 (q + 2 * (n : Int))) ∧ w.grownBy w' (some g) := by
  have HC := Lib.hid hc
  have HF := Lib.hid hf
  clear hc hf
  go_enter Try.func9, Try.ntmps9
  go_wp2
  go_loopw [1, 5] (fun qq i wr => ∃ k : Nat, k ≤ n ∧ i = .int .i64 k ∧ qq = .int .i64 (q + 2 * (k : Int)) ∧ (∀ i, i < n * 2 → ∃ v, wr.cell? ⟨g, i, none⟩ = some v) ∧ (∀ i, wr.frozen? ⟨g, i, none⟩ = false) ∧ w.grownBy wr (some g)) (fun _ i _ => n - (intOf i).toNat)
  case atStart => exact ⟨0, Nat.zero_le _, rfl, by go_num, HC.out, HF.out, ⟨rfl, rfl, rfl, Nat.le_refl _, fun _ _ _ => rfl⟩⟩
  case round =>
    obtain ⟨k, hk, rfl, rfl, hcell, hfree, hgrow⟩ := hrel
    by_cases hlt : k < n
    · obtain ⟨x0, e0⟩ := hcell (k * 2) (by omega)
      obtain ⟨x1, e1⟩ := hcell (k * 2 + 1) (by omega)
      have f0 := hfree (k * 2)
      have f1 := hfree (k * 2 + 1)
      have R := Lib.hid (fun (u0 u1 : Value) => markQ_step (u0 := u0) (u1 := u1) hlt hcell hfree hgrow)
      clear hcell hfree hgrow
      have i0 : (0 : Int) ≤ (k : Int) := Int.natCast_nonneg _
      have i1 : (k : Int) < (n : Int) := by omega
      go_wp2
      refine ⟨⟨k + 1, by omega, by go_num, by go_num, (R.out _ _).1, (R.out _ _).2.1, (R.out _ _).2.2⟩, by simp [intOf]; omega⟩
    · obtain rfl : k = n := by omega
      go_wp2
      go_ret
      exact ⟨rfl, hgrow⟩
theorem markQ_any (v : Value) (lo hi : Nat) (xs : List Tm) (q : Int) (w : World) (q0 : 0 ≤ q) (q1 : q ≤ 1000000000) (hs : xs.length ≤ 2000000) (h : RowB w lo hi v xs) :
    Calls Try.prog 9 #[v, .int .i64 q] w fun e w' => e = .returned (.int .i64 (q + 2 * (xs.length : Int))) ∧ w.heap.size ≤ w'.heap.size ∧ (∀ B, B ≤ lo → B ≤ w.heap.size → Below B w w') ∧ ∃ g, w.grownBy w' (some g) ∧ (v.ownBlock = some g ∨ w = w') := by
  rcases h with ⟨rfl, rfl⟩ | ⟨g, c, e, h1, h2, h3, h4, h5⟩
  · refine (mark_nil q w).mono ?_
    rintro e w' ⟨rfl, rfl⟩
    exact ⟨by simp, Nat.le_refl _, fun B _ _ => Below.refl _ _, 0, ⟨rfl, rfl, rfl, Nat.le_refl _, fun _ _ _ => rfl⟩, .inr rfl⟩
  · subst e
    have hc := (RowL.cells (w := w) (base := lo) ⟨g, c, rfl, h1, by omega, h4, h5⟩).2.2.1
    refine (markQ_some g c xs.length q w q0 q1 hs hc h5).mono ?_
    rintro e w' ⟨rfl, hg⟩
    exact ⟨rfl, hg.size, fun B hB hB2 => Below.grown (Below.refl _ _) hg hB2 (fun k hk => by cases hk; omega), g, hg, .inl rfl⟩
end Go.Proofs.Ytjopcpoodhamcaa
