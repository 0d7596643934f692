import Derived.Test.YtjopcpoodhamcaaDoorGn
/-
  Plain laws: a row of shells that is changed one by one. Conditions: none.
-/
namespace Go.Proofs.YtjopcpoodhamcaaDoor
set_option linter.unusedSimpArgs false
set_option linter.unusedVariables false

/-- The first i shells are changed. -/
def mixL (f : Sh → Sh) (cs : List Sh) (i : Nat) : List Sh := (cs.take i).map f ++ cs.drop i
theorem mix_zero (f : Sh → Sh) (cs : List Sh) : mixL f cs 0 = cs := by simp [mixL]
theorem mix_end (f : Sh → Sh) (cs : List Sh) : mixL f cs cs.length = cs.map f := by simp [mixL]
theorem mix_cons (f : Sh → Sh) (x : Sh) (r : List Sh) (i : Nat) : mixL f (x :: r) (i + 1) = f x :: mixL f r i := by simp [mixL]
theorem mix_get {f : Sh → Sh} : ∀ {cs : List Sh} {i : Nat} {s : Sh}, cs[i]? = some s → (mixL f cs i)[i]? = some s
  | [], i, s, h => by simp at h
  | x :: r, 0, s, h => by rw [mix_zero]; exact h
  | x :: r, i + 1, s, h => by rw [mix_cons]; simpa using mix_get (cs := r) (by simpa using h)
theorem mix_set {f : Sh → Sh} : ∀ {cs : List Sh} {i : Nat} {s : Sh}, cs[i]? = some s → (mixL f cs i).set i (f s) = mixL f cs (i + 1)
  | [], i, s, h => by simp at h
  | x :: r, 0, s, h => by
    simp at h
    subst h
    rw [mix_zero, mix_cons, mix_zero]
    rfl
  | x :: r, i + 1, s, h => by
    rw [mix_cons, mix_cons, ← mix_set (cs := r) (by simpa using h)]
    rfl
theorem mix_same {f : Sh → Sh} {cs : List Sh} {i : Nat} {s : Sh} (h : cs[i]? = some s) (hf : f s = s) : mixL f cs (i + 1) = mixL f cs i := by
  rw [← mix_set h, hf]
  refine List.ext_getElem? fun j => ?_
  by_cases e : i = j
  · subst e
    rw [List.getElem?_set_self (List.getElem?_eq_some_iff.1 (mix_get (f := f) h)).1, mix_get h]
  · rw [List.getElem?_set_ne e]
theorem shOf_putC {w : World} {g i : Nat} {xs : List Sh} {s : Sh} {u : Int} (h : ShOf w g 0 xs) (hs : xs[i]? = some s) : ShOf (w.setCell ⟨g, i * 3 + 2, none⟩ (.int .i64 u)) g 0 (xs.set i (s.1, s.2.1, u)) := by
  intro k p hp
  simp only [Nat.zero_add]
  by_cases e : i = k
  · subst e
    rw [List.getElem?_set_self (List.getElem?_eq_some_iff.1 hs).1] at hp
    simp only [Option.some.injEq] at hp
    subst hp
    obtain ⟨a, b, c⟩ := h i s hs
    simp only [Nat.zero_add] at a b c
    exact ⟨(World.cell?_setCell_other w _ _ _ (by simp)).trans a, (World.cell?_setCell_other w _ _ _ (by simp)).trans b, World.cell?_setCell_same w _ _ c⟩
  · rw [List.getElem?_set_ne e] at hp
    obtain ⟨a, b, c⟩ := h k p hp
    simp only [Nat.zero_add] at a b c
    exact ⟨(World.cell?_setCell_other w _ _ _ (by simp <;> omega)).trans a, (World.cell?_setCell_other w _ _ _ (by simp <;> omega)).trans b, (World.cell?_setCell_other w _ _ _ (by simp <;> omega)).trans c⟩
theorem shOf_putN {w : World} {g i : Nat} {xs : List Sh} {s : Sh} {u : Int} (h : ShOf w g 0 xs) (hs : xs[i]? = some s) : ShOf (w.setCell ⟨g, i * 3, none⟩ (.int .i64 u)) g 0 (xs.set i (u, s.2.1, s.2.2)) := by
  intro k p hp
  simp only [Nat.zero_add]
  by_cases e : i = k
  · subst e
    rw [List.getElem?_set_self (List.getElem?_eq_some_iff.1 hs).1] at hp
    simp only [Option.some.injEq] at hp
    subst hp
    obtain ⟨a, b, c⟩ := h i s hs
    simp only [Nat.zero_add] at a b c
    exact ⟨World.cell?_setCell_same w _ _ a, (World.cell?_setCell_other w _ _ _ (by simp)).trans b, (World.cell?_setCell_other w _ _ _ (by simp)).trans c⟩
  · rw [List.getElem?_set_ne e] at hp
    obtain ⟨a, b, c⟩ := h k p hp
    simp only [Nat.zero_add] at a b c
    exact ⟨(World.cell?_setCell_other w _ _ _ (by simp <;> omega)).trans a, (World.cell?_setCell_other w _ _ _ (by simp <;> omega)).trans b, (World.cell?_setCell_other w _ _ _ (by simp <;> omega)).trans c⟩
/-- The row of the shells xs is at g. -/
theorem ShOf.rwI {w : World} {g : Nat} {xs : List Sh} {n c : Nat} (h : ShOf w g 0 xs) (hg : g < w.heap.size) (hn : xs.length = n) : RwI w (.slice (some ⟨g, 0, none⟩) n c) xs := by
  subst hn
  exact .inr ⟨g, 0, c, rfl, hg, h⟩
end Go.Proofs.YtjopcpoodhamcaaDoor
