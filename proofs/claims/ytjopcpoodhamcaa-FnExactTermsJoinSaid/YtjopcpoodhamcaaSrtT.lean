/-
  Plain laws: the sorted list. Conditions: none.
-/
import Derived.Test.YtjopcpoodhamcaaSrtP
namespace Go.Proofs.Ytjopcpoodhamcaa
set_option linter.unusedSimpArgs false
set_option linter.unusedVariables false

def atL (xs : List Tm) (k : Nat) : Tm := xs.getD k (0, 0)
/-- The ordered list: greater spins first, then greater orbits. -/
def sortT (xs : List Tm) : List Tm := xs.mergeSort fun a b => decide (key a ≤ key b)
theorem sortT_len (xs : List Tm) : (sortT xs).length = xs.length := by unfold sortT; exact List.length_mergeSort _
theorem sortT_perm (xs : List Tm) : (sortT xs).Perm xs := List.mergeSort_perm _ _
theorem cnt_at_list (p : Tm) : ∀ (xs : List Tm), cnt (atL xs) p xs.length = xs.count p := by
  intro xs
  have key : ∀ k, k ≤ xs.length → cnt (atL xs) p k = (xs.take k).count p := by
    intro k
    induction k with
    | zero => intro _; simp [cnt]
    | succ k ih =>
      intro hk
      have e : xs[k]? = some xs[k] := List.getElem?_eq_getElem (by omega)
      have e2 : atL xs k = xs[k] := by unfold atL; rw [List.getD_eq_getElem?_getD, e]; rfl
      unfold cnt
      rw [ih (by omega), List.take_add_one, e, List.count_append, e2]
      simp [List.count_singleton, beq_iff_eq, Prod.ext_iff]
  have := key xs.length (Nat.le_refl _)
  rw [List.take_length] at this
  exact this
theorem sortT_srt (xs : List Tm) : Srt 0 (sortT xs).length (atL (sortT xs)) := by
  have h : (sortT xs).Pairwise fun a b => decide (key a ≤ key b) = true := List.pairwise_mergeSort (fun a b c h1 h2 => by simp at *; omega) (fun a b => by simp; omega) xs
  intro i j h1 h2 h3
  have ei : atL (sortT xs) i = (sortT xs)[i] := by unfold atL; rw [List.getD_eq_getElem?_getD, List.getElem?_eq_getElem (by omega)]; rfl
  have ej : atL (sortT xs) j = (sortT xs)[j] := by unfold atL; rw [List.getD_eq_getElem?_getD, List.getElem?_eq_getElem (by omega)]; rfl
  rw [ei, ej]
  by_cases e : i = j
  · subst e; exact Int.le_refl _
  · have := List.pairwise_iff_getElem.1 h i j (by omega) h3 (by omega)
    simpa using this
/-- A sorted row with the counts of xs is the sorted list. -/
theorem sortT_is {xs : List Tm} {f : Nat → Tm} (ho : ∀ x ∈ xs, okT x) (hf : ∀ k, k < xs.length → okT (f k)) (hs : Srt 0 xs.length f) (hc : ∀ p, cnt f p xs.length = xs.count p) : ∀ k, k < xs.length → f k = atL (sortT xs) k := by
  have hl := sortT_len xs
  refine srt_same xs.length hf (fun k hk => ?_) hs (by rw [← hl]; exact sortT_srt xs) (fun p => ?_)
  · have e : atL (sortT xs) k = (sortT xs)[k]'(by omega) := by unfold atL; rw [List.getD_eq_getElem?_getD, List.getElem?_eq_getElem (by omega)]; rfl
    rw [e]
    exact ho _ ((sortT_perm xs).mem_iff.1 (List.getElem_mem _))
  · rw [hc p, ← hl, cnt_at_list p (sortT xs), (sortT_perm xs).count_eq]
end Go.Proofs.Ytjopcpoodhamcaa
