/-
  The plain laws: numbers, pairs and lists, with no program in sight. Conditions: none.
-/
import Derived.Below
import Derived.Deep.Draws
namespace Go.Proofs.Ytecbkneblcglaaa
set_option linter.unusedSimpArgs false
set_option linter.unusedVariables false
open Go.RowKit

def inB (n lo hi : Int) : Bool := decide (lo ≤ n ∧ n ≤ hi)
def spB (j : Int) : Bool := decide (0 ≤ j ∧ j ≤ 24)
def tvB (s l : Int) : Bool := decide (0 ≤ s ∧ s ≤ 8 ∧ 0 ≤ l ∧ l ≤ 8)
def triB (a b c : Int) : Bool := decide (0 ≤ a ∧ a ≤ 24 ∧ 0 ≤ b ∧ b ≤ 24 ∧ 0 ≤ c ∧ c ≤ 24 ∧ (a + b + c) % 2 = 0 ∧ a ≤ b + c ∧ b ≤ a + c ∧ c ≤ a + b)
def lvB (s l j : Int) : Bool := tvB s l && triB (2 * l) s j
def shiftI (s l j : Int) : Int := if lvB s l j = true then j * (j + 2) - 2 * l * (2 * l + 2) - s * (s + 2) else 0
def intervalI (s l j : Int) : Int := if lvB s l j = true ∧ lvB s l (j - 2) = true then shiftI s l j - shiftI s l (j - 2) else 0

theorem inB_true {n lo hi : Int} (h : inB n lo hi = true) : lo ≤ n ∧ n ≤ hi := by simpa [inB] using h
theorem inB_false {n lo hi : Int} (h : inB n lo hi = false) : n < lo ∨ hi < n := by simp [inB] at h; omega
theorem spB_true {j : Int} (h : spB j = true) : 0 ≤ j ∧ j ≤ 24 := by simpa [spB] using h
theorem spB_false {j : Int} (h : spB j = false) : j < 0 ∨ 24 < j := by simp [spB] at h; omega
theorem spB_in (j : Int) : inB j 0 24 = spB j := rfl
theorem tvB_true {s l : Int} (h : tvB s l = true) : 0 ≤ s ∧ s ≤ 8 ∧ 0 ≤ l ∧ l ≤ 8 := by simpa [tvB] using h
theorem tvB_false {s l : Int} (h : tvB s l = false) : s < 0 ∨ 8 < s ∨ l < 0 ∨ 8 < l := by simp [tvB] at h; omega
theorem tvB_in (s l : Int) : tvB s l = (inB s 0 8 && inB l 0 8) := by
  rw [Bool.eq_iff_iff]; simp [tvB, inB]; omega
theorem triB_true {a b c : Int} (h : triB a b c = true) : 0 ≤ a ∧ a ≤ 24 ∧ 0 ≤ b ∧ b ≤ 24 ∧ 0 ≤ c ∧ c ≤ 24 ∧ (a + b + c) % 2 = 0 ∧ a ≤ b + c ∧ b ≤ a + c ∧ c ≤ a + b := by simpa [triB] using h
theorem triB_of {a b c : Int} (h : 0 ≤ a ∧ a ≤ 24 ∧ 0 ≤ b ∧ b ≤ 24 ∧ 0 ≤ c ∧ c ≤ 24 ∧ (a + b + c) % 2 = 0 ∧ a ≤ b + c ∧ b ≤ a + c ∧ c ≤ a + b) : triB a b c = true := by simpa [triB] using h
theorem triB_no {a b c : Int} (h : ¬ (0 ≤ a ∧ a ≤ 24 ∧ 0 ≤ b ∧ b ≤ 24 ∧ 0 ≤ c ∧ c ≤ 24 ∧ (a + b + c) % 2 = 0 ∧ a ≤ b + c ∧ b ≤ a + c ∧ c ≤ a + b)) : triB a b c = false := by simpa [triB] using h

theorem bcell {W w1 : World} (hb : Below W.heap.size W w1) : (∀ b o, b < W.heap.size → w1.cell? ⟨b, o, none⟩ = W.cell? ⟨b, o, none⟩) ∧ (∀ b o, b < W.heap.size → w1.frozen? ⟨b, o, none⟩ = W.frozen? ⟨b, o, none⟩) :=
  ⟨fun b o h => hb.cell (p := ⟨b, o, none⟩) h, fun b o h => hb.frozen (p := ⟨b, o, none⟩) h⟩

theorem sq_bd (j : Int) (h0 : 0 ≤ j) (h1 : j ≤ 100) : 0 ≤ j * (j + 2) ∧ j * (j + 2) ≤ 10200 :=
  ⟨Int.mul_nonneg h0 (by omega), Int.le_trans (Int.mul_le_mul h1 (show j + 2 ≤ 102 by omega) (by omega) (by omega)) (by decide)⟩
theorem lvB_true {s l j : Int} (h : lvB s l j = true) : tvB s l = true ∧ triB (2 * l) s j = true := by simpa [lvB] using h
theorem lvB_bd {s l j : Int} (h : lvB s l j = true) : 0 ≤ s ∧ s ≤ 8 ∧ 0 ≤ l ∧ l ≤ 8 ∧ 0 ≤ j ∧ j ≤ 24 := by
  obtain ⟨h1, h2⟩ := lvB_true h
  have a := tvB_true h1
  have b := triB_true h2
  omega

theorem below_drewN {B : Nat} {a w : World} (h : Below B a w) (n : Nat) : Below B a (w.drewN n) := ⟨h.os, h.tape, h.output, h.size, h.block⟩

theorem shiftI_bd (s l j : Int) : -30000 ≤ shiftI s l j ∧ shiftI s l j ≤ 30000 := by
  unfold shiftI
  split
  · rename_i h
    have := lvB_bd h
    have m1 := sq_bd j (by omega) (by omega)
    have m2 := sq_bd (2 * l) (by omega) (by omega)
    have m3 := sq_bd s (by omega) (by omega)
    omega
  · omega

theorem size_drewN (w : World) (n : Nat) : (w.drewN n).heap.size = w.heap.size := rfl

theorem cell_set (w : World) (a b : Addr) (v : Value) : (w.setCell a v).cell? b = if a = b then (w.cell? a).map (fun _ => v) else w.cell? b := by
  by_cases e : a = b
  · subst e
    rw [if_pos rfl]
    cases h : w.cell? a with
    | none =>
      cases hh : (w.setCell a v).cell? a with
      | none => rfl
      | some u =>
        exfalso
        unfold World.cell? at h hh
        simp only [World.setCell, Array.getElem?_modify] at hh
        rw [if_pos trivial] at hh
        cases hb : w.heap[a.block]? with
        | none => simp [hb] at hh
        | some o => cases o <;> simp_all
    | some u => exact World.cell?_setCell_same w a v h
  · rw [if_neg e]; exact World.cell?_setCell_other w a b v e

end Go.Proofs.Ytecbkneblcglaaa
