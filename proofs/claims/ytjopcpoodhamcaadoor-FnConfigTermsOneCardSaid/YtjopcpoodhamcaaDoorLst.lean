import Derived.Test.YtjopcpoodhamcaaDoorCplP
import Derived.Test.YtjopcpoodhamcaaDoorOrd
import Derived.Test.YtjopcpoodhamcaaDoorGc
import Derived.Test.YtjopcpoodhamcaaDoorCouple
/-
  Rows of terms as results, and the plain facts of the coupled list. Conditions: none.
-/
namespace Go.Proofs.YtjopcpoodhamcaaDoor
set_option linter.unusedSimpArgs false
set_option linter.unusedVariables false
open Go.RowKit

/-- v is a row of the terms xs in memory that is not older than base. -/
def RowL (w : World) (base : Nat) (v : Value) (xs : List Tm) : Prop :=
  ∃ g c, v = .slice (some ⟨g, 0, none⟩) xs.length c ∧ base ≤ g ∧ g < w.heap.size ∧ TmAt w g xs ∧ ∀ i, w.frozen? ⟨g, i, none⟩ = false
theorem RowL.below {B base : Nat} {w w' : World} {v : Value} {xs : List Tm} (h : RowL w base v xs) (hb : Below B w w') (hB : w.heap.size ≤ B) : RowL w' base v xs := by
  obtain ⟨g, c, rfl, h1, h2, h3, h4⟩ := h
  exact ⟨g, c, rfl, h1, Nat.lt_of_lt_of_le h2 hb.size, h3.below hb (by omega), fun i => by rw [hb.frozen (p := ⟨g, i, none⟩) (by show g < B; omega)]; exact h4 i⟩
theorem RowL.mono {b b' : Nat} {w : World} {v : Value} {xs : List Tm} (h : RowL w b v xs) (hb : b' ≤ b) : RowL w b' v xs := by
  obtain ⟨g, c, rfl, h1, r⟩ := h
  exact ⟨g, c, rfl, Nat.le_trans hb h1, r⟩
theorem rowL_of {w : World} {base : Nat} {v : Value} {xs : List Tm} (h : w.ownsRow base 31 2 v xs.length (vS xs)) (h0 : 0 < xs.length) : RowL w base v xs := by
  obtain ⟨g, cp, rfl, hg1, hg2, hc, hf⟩ := row_form h h0
  refine ⟨g, cp, rfl, hg1, hg2, fun k p hp => ?_, hf⟩
  obtain ⟨x0, x1⟩ := vS_get xs k p hp
  have hk : k < xs.length := (List.getElem?_eq_some_iff.1 hp).1
  exact ⟨(hc (k * 2) (by omega)).trans x0, (hc (k * 2 + 1) (by omega)).trans x1⟩
theorem grown_cell {w w' : World} {row : Option Nat} (h : w.grownBy w' row) {b o : Nat} (hb : b < w.heap.size) (hn : row ≠ some b) : w'.cell? ⟨b, o, none⟩ = w.cell? ⟨b, o, none⟩ :=
  World.cell?_of_block (h.block b hb (fun e => hn e.symm))

theorem lstD_mem2 {U L : Int} {m : Nat} : ∀ {i : Nat} {p : Tm}, p ∈ lstD U L m i → U - 2 * (i : Int) + 2 ≤ p.1 ∧ p.1 ≤ U ∧ L - (m : Int) + 1 ≤ p.2 ∧ p.2 ≤ L
  | 0, p, h => by simp [lstD] at h
  | i + 1, p, h => by
    rcases List.mem_append.1 h with h | h
    · have := lstD_mem2 h; omega
    · have := rowD_mem h; omega
theorem rowU_len (u L : Int) (m : Nat) : ∀ j, (rowU u L m j).length = j
  | 0 => rfl
  | j + 1 => by simp [rowU, rowU_len u L m j]
theorem lstU_len (U L : Int) (m n : Nat) : ∀ i, (lstU U L m n i).length = i * m
  | 0 => by simp [lstU]
  | i + 1 => by simp [lstU, rowU_len, lstU_len U L m n i]; rw [Nat.succ_mul]
/-- The facts of a coupling. -/
theorem cpl_facts {s t : Tm} (hc : cplB s t = true) : ∃ (U L : Int) (M N1 : Nat), U = s.1 + t.1 ∧ L = s.2 + t.2 ∧ M = 2 * mnI s.2 t.2 + 1 ∧ N1 = mnI s.1 t.1 + 1 ∧ absd s.1 t.1 = U - 2 * ((N1 : Int) - 1) ∧ absd s.2 t.2 = L - ((M : Int) - 1) ∧ N1 ≤ 5 ∧ M ≤ 9 ∧ 0 ≤ U ∧ U ≤ 8 ∧ 0 ≤ L ∧ L ≤ 8 ∧ 0 ≤ absd s.1 t.1 ∧ 0 ≤ absd s.2 t.2 ∧
    cplP s t = lstD U L M N1 ∧ (∀ x ∈ lstU U L M N1 N1, okT x) ∧ sortT (lstU U L M N1 N1) = cplP s t ∧ (lstU U L M N1 N1).length = N1 * M ∧ (cplP s t).length = N1 * M := by
  have hcp : cplP s t = lstD (s.1 + t.1) (s.2 + t.2) (2 * mnI s.2 t.2 + 1) (mnI s.1 t.1 + 1) := by unfold cplP; rw [if_pos hc]
  simp only [cplB, Bool.and_eq_true, decide_eq_true_eq] at hc
  obtain ⟨⟨⟨hv1, hv2⟩, hs8⟩, hl8⟩ := hc
  obtain ⟨a1, a2, a3, a4⟩ := tvB_true hv1
  obtain ⟨b1, b2, b3, b4⟩ := tvB_true hv2
  have d1 : absd s.1 t.1 = s.1 + t.1 - 2 * (((mnI s.1 t.1 + 1 : Nat) : Int) - 1) := by unfold absd mnI; split <;> omega
  have d2 : absd s.2 t.2 = s.2 + t.2 - (((2 * mnI s.2 t.2 + 1 : Nat) : Int) - 1) := by unfold absd mnI; split <;> omega
  have p1 : 0 ≤ absd s.1 t.1 := by unfold absd; split <;> omega
  have p2 : 0 ≤ absd s.2 t.2 := by unfold absd; split <;> omega
  have m1 : mnI s.1 t.1 ≤ 4 := by unfold mnI; split <;> omega
  have m2 : mnI s.2 t.2 ≤ 4 := by unfold mnI; split <;> omega
  have hok : ∀ x ∈ lstU (s.1 + t.1) (s.2 + t.2) (2 * mnI s.2 t.2 + 1) (mnI s.1 t.1 + 1) (mnI s.1 t.1 + 1), okT x := fun x hx => by
    have := lstD_mem2 ((lstU_perm _ _ _ _).mem_iff.1 hx)
    unfold okT
    omega
  refine ⟨_, _, _, _, rfl, rfl, rfl, rfl, d1, d2, by omega, by omega, by omega, hs8, by omega, hl8, p1, p2, hcp, hok, ?_, lstU_len _ _ _ _ _, by rw [hcp]; exact lstD_len _ _ _ _⟩
  rw [hcp]
  exact sortT_eq hok (lstU_perm _ _ _ _).symm (lstD_pw _ _ _ (by omega) _)
end Go.Proofs.YtjopcpoodhamcaaDoor
