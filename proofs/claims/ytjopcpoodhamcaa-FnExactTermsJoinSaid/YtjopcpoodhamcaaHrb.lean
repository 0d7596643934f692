/-
  Rows of terms in memory with bounds on where they lie. Conditions: none.
-/
import Derived.Test.YtjopcpoodhamcaaHmk
namespace Go.Proofs.Ytjopcpoodhamcaa
set_option linter.unusedSimpArgs false
set_option linter.unusedVariables false
open Go.RowKit

/-- v is a row of the terms xs that lies between lo and hi. -/
def RowB (w : World) (lo hi : Nat) (v : Value) (xs : List Tm) : Prop :=
  (v = .slice none 0 0 ∧ xs = []) ∨ ∃ g c, v = .slice (some ⟨g, 0, none⟩) xs.length c ∧ lo ≤ g ∧ g < hi ∧ hi ≤ w.heap.size ∧ TmAt w g xs ∧ ∀ i, w.frozen? ⟨g, i, none⟩ = false
theorem RowR.bnd {w : World} {base : Nat} {v : Value} {xs : List Tm} (h : RowR w base v xs) : RowB w base w.heap.size v xs := by
  rcases h with h | ⟨g, c, e, h1, h2, h3, h4⟩
  · exact .inl h
  · exact .inr ⟨g, c, e, h1, h2, Nat.le_refl _, h3, h4⟩
theorem RowL.bnd {w : World} {base : Nat} {v : Value} {xs : List Tm} (h : RowL w base v xs) : RowB w base w.heap.size v xs := RowR.bnd (.inr h)
theorem RowB.row {w : World} {lo hi : Nat} {v : Value} {xs : List Tm} (h : RowB w lo hi v xs) : RowR w lo v xs := by
  rcases h with h | ⟨g, c, e, h1, h2, h3, h4, h5⟩
  · exact .inl h
  · exact .inr ⟨g, c, e, h1, by omega, h4, h5⟩
theorem RowB.inp {w : World} {lo hi : Nat} {v : Value} {xs : List Tm} (h : RowB w lo hi v xs) : RowI w v xs := h.row.inp
theorem RowB.below {w w' : World} {lo hi : Nat} {v : Value} {xs : List Tm} (h : RowB w lo hi v xs) (hb : Below w.heap.size w w') : RowB w' lo hi v xs := by
  rcases h with h | ⟨g, c, e, h1, h2, h3, h4, h5⟩
  · exact .inl h
  · exact .inr ⟨g, c, e, h1, h2, Nat.le_trans h3 hb.size, h4.below hb (by omega), fun i => (hb.frozen (p := ⟨g, i, none⟩) (by show g < _; omega)).trans (h5 i)⟩
/-- Another row is marked. -/
theorem RowB.mark {w w' : World} {lo hi lo2 hi2 g : Nat} {v v2 : Value} {xs ys : List Tm} (y : RowB w lo2 hi2 v2 ys) (x : RowB w lo hi v xs) (hd : hi ≤ lo2 ∨ hi2 ≤ lo) (hg : w.grownBy w' (some g)) (ho : v.ownBlock = some g ∨ w = w') : RowB w' lo2 hi2 v2 ys := by
  rcases ho with ho | rfl
  · rcases x with ⟨rfl, -⟩ | ⟨gx, c, rfl, h1, h2, h3, h4, h5⟩
    · simp [Value.ownBlock] at ho
    · simp [Value.ownBlock] at ho
      subst ho
      rcases y with h | ⟨gy, c', e, k1, k2, k3, k4, k5⟩
      · exact .inl h
      · have hne : gy ≠ gx := by omega
        have hlt : gy < w.heap.size := by omega
        refine .inr ⟨gy, c', e, k1, k2, Nat.le_trans k3 hg.size, fun k p hp => ?_, fun i => ?_⟩
        · obtain ⟨a, b⟩ := k4 k p hp
          exact ⟨(World.cell?_of_block (hg.block gy hlt (by simpa using hne))).trans a, (World.cell?_of_block (hg.block gy hlt (by simpa using hne))).trans b⟩
        · exact (World.frozen?_of_block (hg.block gy hlt (by simpa using hne))).trans (k5 i)
  · exact y
end Go.Proofs.Ytjopcpoodhamcaa
