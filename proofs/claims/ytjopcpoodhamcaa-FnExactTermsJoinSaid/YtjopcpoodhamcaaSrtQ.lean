/-
  Plain laws of the merge by rotation. Conditions: none.
-/
import Derived.Test.YtjopcpoodhamcaaSrtP
namespace Go.Proofs.Ytjopcpoodhamcaa
set_option linter.unusedSimpArgs false
set_option linter.unusedVariables false

/-- Place a has gone to place k, those between one to the left. -/
def shA (f : Nat → Tm) (a k : Nat) : Nat → Tm := fun x => if a ≤ x ∧ x < k then f (x + 1) else if x = k then f a else f x
theorem shA_start (f : Nat → Tm) (a : Nat) : shA f a a = f := by
  funext x
  unfold shA
  rw [if_neg (by omega)]
  split
  · rename_i h; rw [h]
  · rfl
theorem shA_step (f : Nat → Tm) {a k : Nat} (h : a ≤ k) : swapF (shA f a k) k (k + 1) = shA f a (k + 1) := by
  have e1 : shA f a k k = f a := by unfold shA; rw [if_neg (by omega), if_pos rfl]
  have e2 : shA f a k (k + 1) = f (k + 1) := by unfold shA; rw [if_neg (by omega), if_neg (by omega)]
  funext x
  unfold swapF
  rw [e1, e2]
  by_cases c1 : x = k
  · rw [if_pos c1]
    unfold shA
    rw [if_pos (by omega), c1]
  · rw [if_neg c1]
    by_cases c2 : x = k + 1
    · rw [if_pos c2]
      unfold shA
      rw [if_neg (by omega), if_pos c2]
    · rw [if_neg c2]
      unfold shA
      by_cases c3 : a ≤ x ∧ x < k
      · have c4 : a ≤ x ∧ x < k + 1 := by omega
        rw [if_pos c3, if_pos c4]
      · have c4 : ¬ (a ≤ x ∧ x < k + 1) := by omega
        rw [if_neg c3, if_neg c4, if_neg c1, if_neg c2]
theorem shA_step' (f : Nat → Tm) (a : Nat) {b : Nat} : ∀ k, a ≤ k → k < b → Step a b f (shA f a k) := by
  intro k
  induction k with
  | zero =>
    intro h1 h2
    have e : a = 0 := by omega
    rw [e, shA_start]; exact Step.refl _ _ _
  | succ k ih =>
    intro h1 h2
    by_cases e : a = k + 1
    · rw [e, shA_start]; exact Step.refl _ _ _
    · rw [← shA_step f (show a ≤ k by omega)]
      exact (ih (by omega) (by omega)).trans (Step.swap _ (by omega) (by omega) (by omega) (by omega))
theorem shA_srt {f : Nat → Tm} {a b i : Nat} (hi : a + 1 ≤ i) (hib : i ≤ b) (hs : Srt (a + 1) b f) (h1 : ∀ k, a + 1 ≤ k → k < i → key (f k) < key (f a)) (h2 : ∀ k, i ≤ k → k < b → key (f a) ≤ key (f k)) : Srt a b (shA f a (i - 1)) := by
  intro x y hx hxy hy
  have v : ∀ z, shA f a (i - 1) z = if a ≤ z ∧ z < i - 1 then f (z + 1) else if z = i - 1 then f a else f z := fun z => rfl
  rw [v, v]
  by_cases c1 : y < i - 1
  · rw [if_pos (by omega), if_pos (by omega)]; exact hs _ _ (by omega) (by omega) (by omega)
  · rw [if_neg (show ¬ (a ≤ y ∧ y < i - 1) by omega)]
    by_cases c2 : y = i - 1
    · rw [if_pos c2]
      by_cases c3 : x < i - 1
      · rw [if_pos (show a ≤ x ∧ x < i - 1 by omega)]
        exact Int.le_of_lt (h1 _ (by omega) (by omega))
      · rw [if_neg (show ¬ (a ≤ x ∧ x < i - 1) by omega), if_pos (by omega)]; exact Int.le_refl _
    · rw [if_neg c2]
      by_cases c3 : x < i - 1
      · rw [if_pos (show a ≤ x ∧ x < i - 1 by omega)]
        exact hs _ _ (by omega) (by omega) (by omega)
      · rw [if_neg (show ¬ (a ≤ x ∧ x < i - 1) by omega)]
        by_cases c4 : x = i - 1
        · rw [if_pos c4]; exact h2 _ (by omega) (by omega)
        · rw [if_neg c4]; exact hs _ _ (by omega) (by omega) (by omega)
/-- Place m has gone to place k, those between one to the right. -/
def shB (f : Nat → Tm) (m k : Nat) : Nat → Tm := fun x => if k < x ∧ x ≤ m then f (x - 1) else if x = k then f m else f x
theorem shB_start (f : Nat → Tm) (m : Nat) : shB f m m = f := by
  funext x
  unfold shB
  rw [if_neg (by omega)]
  split
  · rename_i h; rw [h]
  · rfl
theorem shB_step (f : Nat → Tm) {m k : Nat} (h : k + 1 ≤ m) : swapF (shB f m (k + 1)) (k + 1) k = shB f m k := by
  have e1 : shB f m (k + 1) (k + 1) = f m := by unfold shB; rw [if_neg (by omega), if_pos rfl]
  have e2 : shB f m (k + 1) k = f k := by unfold shB; rw [if_neg (by omega), if_neg (by omega)]
  funext x
  unfold swapF
  rw [e1, e2]
  by_cases c1 : x = k + 1
  · rw [if_pos c1]
    unfold shB
    rw [if_pos (by omega), c1]; rfl
  · rw [if_neg c1]
    by_cases c2 : x = k
    · rw [if_pos c2]
      unfold shB
      rw [if_neg (by omega), if_pos c2]
    · rw [if_neg c2]
      unfold shB
      by_cases c3 : k + 1 < x ∧ x ≤ m
      · have c4 : k < x ∧ x ≤ m := by omega
        rw [if_pos c3, if_pos c4]
      · have c4 : ¬ (k < x ∧ x ≤ m) := by omega
        rw [if_neg c3, if_neg c4, if_neg c1, if_neg c2]
theorem shB_step' (f : Nat → Tm) {a m : Nat} : ∀ d k, k + d = m → a ≤ k → Step a (m + 1) f (shB f m k) := by
  intro d
  induction d with
  | zero =>
    intro k h1 h2
    have e : k = m := by omega
    rw [e, shB_start]; exact Step.refl _ _ _
  | succ d ih =>
    intro k h1 h2
    rw [← shB_step f (show k + 1 ≤ m by omega)]
    exact (ih (k + 1) (by omega) (by omega)).trans (Step.swap _ (by omega) (by omega) (by omega) (by omega))
theorem shB_srt {f : Nat → Tm} {a m i : Nat} (hi : a ≤ i) (him : i ≤ m) (hs : Srt a m f) (h1 : ∀ k, a ≤ k → k < i → key (f k) ≤ key (f m)) (h2 : ∀ k, i ≤ k → k < m → key (f m) < key (f k)) : Srt a (m + 1) (shB f m i) := by
  intro x y hx hxy hy
  have v : ∀ z, shB f m i z = if i < z ∧ z ≤ m then f (z - 1) else if z = i then f m else f z := fun z => rfl
  rw [v, v]
  by_cases c1 : i < x
  · rw [if_pos (by omega), if_pos (by omega)]; exact hs _ _ (by omega) (by omega) (by omega)
  · rw [if_neg (show ¬ (i < x ∧ x ≤ m) by omega)]
    by_cases c2 : x = i
    · rw [if_pos c2]
      by_cases c3 : i < y
      · rw [if_pos (show i < y ∧ y ≤ m by omega)]
        exact Int.le_of_lt (h2 _ (by omega) (by omega))
      · rw [if_neg (show ¬ (i < y ∧ y ≤ m) by omega), if_pos (by omega)]; exact Int.le_refl _
    · rw [if_neg c2]
      by_cases c3 : i < y
      · rw [if_pos (show i < y ∧ y ≤ m by omega)]
        exact hs _ _ (by omega) (by omega) (by omega)
      · rw [if_neg (show ¬ (i < y ∧ y ≤ m) by omega)]
        by_cases c4 : y = i
        · rw [if_pos c4]; exact h1 _ (by omega) (by omega)
        · rw [if_neg c4]; exact hs _ _ (by omega) (by omega) (by omega)
/-- Where the two halves are cut. -/
structure Cut (f : Nat → Tm) (a m b mid s e : Nat) : Prop where
  sum : s + e = mid + m
  as : a ≤ s
  sm : s ≤ m
  smid : s ≤ mid
  me : m ≤ e
  eb : e ≤ b
  mide : mid ≤ e
  left : a < s → e < b → key (f (s - 1)) ≤ key (f e)
  right : s < m → m < e → key (f (e - 1)) ≤ key (f s)
theorem cut_of {f : Nat → Tm} {a m b mid s r s0 r0 : Nat} (hmid : mid = (a + b) / 2) (ham : a < m) (hmb : m < b) (h0 : (m ≤ mid ∧ s0 = a ∧ r0 = m) ∨ (mid < m ∧ s0 = mid + m - b ∧ r0 = mid)) (hs : s0 ≤ s) (hr : s ≤ r0)
    (h1 : s = s0 ∨ key (f (s - 1)) ≤ key (f (mid + m - 1 - (s - 1)))) (h2 : s = r0 ∨ key (f (mid + m - 1 - s)) < key (f s)) : Cut f a m b mid s (mid + m - s) := by
  refine ⟨by omega, by omega, by omega, by omega, by omega, by omega, by omega, fun x y => ?_, fun x y => ?_⟩
  · rcases h1 with h1 | h1
    · omega
    · rw [show mid + m - 1 - (s - 1) = mid + m - s by omega] at h1; exact h1
  · rcases h2 with h2 | h2
    · omega
    · rw [show mid + m - s - 1 = mid + m - 1 - s by omega]; exact Int.le_of_lt h2
/-- The row behind the rotation. -/
theorem Cut.halves {f : Nat → Tm} {a m b mid s e : Nat} (c : Cut f a m b mid s e) (ham : a < m) (hmb : m < b) (h1 : Srt a m f) (h2 : Srt m b f) :
    Srt a s (rotR f s m e) ∧ Srt s mid (rotR f s m e) ∧ Srt mid e (rotR f s m e) ∧ Srt e b (rotR f s m e) ∧ (∀ x y, a ≤ x → x < mid → mid ≤ y → y < b → key (rotR f s m e x) ≤ key (rotR f s m e y)) := by
  obtain ⟨c1, c2, c3, c4, c5, c6, c7, c8, c9⟩ := c
  have vA : ∀ z, z < s → rotR f s m e z = f z := fun z hz => by unfold rotR; rw [if_neg (by omega), if_neg (by omega)]
  have vB : ∀ z, s ≤ z → z < mid → rotR f s m e z = f (z + (m - s)) := fun z h h' => by unfold rotR; rw [if_pos (by omega)]
  have vC : ∀ z, mid ≤ z → z < e → rotR f s m e z = f (z - (e - m)) := fun z h h' => by unfold rotR; rw [if_neg (by omega), if_pos (by omega)]
  have vD : ∀ z, e ≤ z → rotR f s m e z = f z := fun z hz => by unfold rotR; rw [if_neg (by omega), if_neg (by omega)]
  refine ⟨fun x y a1 a2 a3 => ?_, fun x y a1 a2 a3 => ?_, fun x y a1 a2 a3 => ?_, fun x y a1 a2 a3 => ?_, fun x y a1 a2 a3 a4 => ?_⟩
  · rw [vA x (by omega), vA y a3]; exact h1 x y a1 a2 (by omega)
  · rw [vB x a1 (by omega), vB y (by omega) a3]; exact h2 _ _ (by omega) (by omega) (by omega)
  · rw [vC x a1 (by omega), vC y (by omega) a3]; exact h1 _ _ (by omega) (by omega) (by omega)
  · rw [vD x a1, vD y (by omega)]; exact h2 _ _ (by omega) (by omega) (by omega)
  · by_cases hx : x < s
    · rw [vA x hx]
      by_cases hy : y < e
      · rw [vC y a3 hy]; exact h1 _ _ a1 (by omega) (by omega)
      · rw [vD y (by omega)]
        have k1 := h1 x (s - 1) a1 (by omega) (by omega)
        have k2 := c8 (by omega) (by omega)
        have k3 := h2 e y (by omega) (by omega) (by omega)
        omega
    · rw [vB x (by omega) a2]
      by_cases hy : y < e
      · rw [vC y a3 hy]
        have k1 := h2 (x + (m - s)) (e - 1) (by omega) (by omega) (by omega)
        have k2 := c9 (by omega) (by omega)
        have k3 := h1 s (y - (e - m)) (by omega) (by omega) (by omega)
        omega
      · rw [vD y (by omega)]; exact h2 _ _ (by omega) (by omega) (by omega)
theorem rot_none {f : Nat → Tm} {s m e : Nat} (h : s = m ∨ e = m) : rotR f s m e = f := by
  funext k
  unfold rotR
  rcases h with h | h
  · subst h
    by_cases c : s ≤ k ∧ k < s + (e - s)
    · rw [if_pos c]; congr 1; omega
    · rw [if_neg c, if_neg (by omega)]
  · subst h
    rw [if_neg (by omega)]
    by_cases c : s + (e - e) ≤ k ∧ k < e
    · rw [if_pos c]; congr 1; omega
    · rw [if_neg c]
/-- Both halves sorted, the whole is. -/
theorem halves_join {f1 f2 f3 : Nat → Tm} {a mid b : Nat} (h : ∀ x y, a ≤ x → x < mid → mid ≤ y → y < b → key (f1 x) ≤ key (f1 y)) (s1 : Step a mid f1 f2) (s2 : Step mid b f2 f3) (r1 : Srt a mid f2) (r2 : Srt mid b f3) : Srt a b f3 := by
  refine Srt.join (r1.congr fun k k1 k2 => s2.out k (by omega)) r2 fun i j a1 a2 a3 a4 => ?_
  rw [s2.out i (by omega)]
  obtain ⟨x, x1, x2, ex⟩ := s1.src i a1 a2
  obtain ⟨y, y1, y2, ey⟩ := s2.src j a3 a4
  rw [ex, ey, s1.out y (by omega)]
  exact h x y x1 x2 y1 y2
end Go.Proofs.Ytjopcpoodhamcaa
