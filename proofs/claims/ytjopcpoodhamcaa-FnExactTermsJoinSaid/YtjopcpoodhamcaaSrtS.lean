/-
  Plain laws of the stable sort: blocks that are sorted. Conditions: none.
-/
import Derived.Test.YtjopcpoodhamcaaSrtQ
namespace Go.Proofs.Ytjopcpoodhamcaa
set_option linter.unusedSimpArgs false
set_option linter.unusedVariables false

def mnN (a b : Nat) : Nat := if a ≤ b then a else b
/-- Each block of s is sorted. -/
def Blk (s n : Nat) (f : Nat → Tm) : Prop := ∀ x, s ∣ x → x < n → Srt x (mnN (x + s) n) f
/-- The blocks below a have been merged by two. -/
structure Half (s a n : Nat) (f : Nat → Tm) : Prop where
  dv : 2 * s ∣ a
  low : ∀ x, 2 * s ∣ x → x < a → Srt x (mnN (x + 2 * s) n) f
  high : ∀ x, s ∣ x → a ≤ x → x < n → Srt x (mnN (x + s) n) f
theorem gap {d x a : Nat} (h1 : d ∣ x) (h2 : d ∣ a) (h : x < a) : x + d ≤ a := by
  have h3 : d ∣ a - x := Nat.dvd_sub h2 h1
  have := Nat.le_of_dvd (by omega) h3
  omega
theorem dv_half {s x : Nat} (h : 2 * s ∣ x) : s ∣ x := Nat.dvd_trans ⟨2, by omega⟩ h
theorem Half.start {s n : Nat} {f : Nat → Tm} (h : Blk s n f) : Half s 0 n f := ⟨Nat.dvd_zero _, fun x _ hx => by omega, fun x h1 _ h3 => h x h1 h3⟩
theorem Half.two {s a n : Nat} {f : Nat → Tm} (h : Half s a n f) (hs : 0 < s) (hb : a + 2 * s ≤ n) : Srt a (a + s) f ∧ Srt (a + s) (a + 2 * s) f := by
  have h1 := h.high a (dv_half h.dv) (Nat.le_refl _) (by omega)
  have h2 := h.high (a + s) (Nat.dvd_add (dv_half h.dv) (Nat.dvd_refl s)) (by omega) (by omega)
  have e1 : mnN (a + s) n = a + s := by unfold mnN; rw [if_pos (by omega)]
  have e2 : mnN (a + s + s) n = a + 2 * s := by unfold mnN; rw [if_pos (by omega)]; omega
  rw [e1] at h1
  rw [e2] at h2
  exact ⟨h1, h2⟩
theorem Half.step {s a n : Nat} {f f' : Nat → Tm} (h : Half s a n f) (hs : 0 < s) (hb : a + 2 * s ≤ n) (hst : Step a (a + 2 * s) f f') (hso : Srt a (a + 2 * s) f') : Half s (a + 2 * s) n f' := by
  refine ⟨Nat.dvd_add h.dv (Nat.dvd_refl _), fun x h1 h2 => ?_, fun x h1 h2 h3 => ?_⟩
  · by_cases hx : x < a
    · have hg := gap h1 h.dv hx
      refine (h.low x h1 hx).congr fun k k1 k2 => hst.out k (.inl ?_)
      have : mnN (x + 2 * s) n ≤ x + 2 * s := by unfold mnN; split <;> omega
      omega
    · have e : x = a := by
        by_cases hxa : x = a
        · exact hxa
        · have := gap h.dv h1 (show a < x by omega); omega
      have e2 : mnN (x + 2 * s) n = a + 2 * s := by rw [e]; unfold mnN; rw [if_pos hb]
      rw [e2, e]
      exact hso
  · exact (h.high x h1 (by omega) h3).congr fun k k1 k2 => hst.out k (.inr (by omega))
theorem Half.rest {s a n : Nat} {f : Nat → Tm} (h : Half s a n f) (hs : 0 < s) (hm : a + s < n) (hb : n < a + 2 * s) : Srt a (a + s) f ∧ Srt (a + s) n f := by
  have h1 := h.high a (dv_half h.dv) (Nat.le_refl _) (by omega)
  have h2 := h.high (a + s) (Nat.dvd_add (dv_half h.dv) (Nat.dvd_refl s)) (by omega) (by omega)
  have e1 : mnN (a + s) n = a + s := by unfold mnN; rw [if_pos (by omega)]
  have e2 : mnN (a + s + s) n = n := by unfold mnN; rw [if_neg (by omega)]
  rw [e1] at h1
  rw [e2] at h2
  exact ⟨h1, h2⟩
theorem Half.last {s a n : Nat} {f f' : Nat → Tm} (h : Half s a n f) (hs : 0 < s) (hb : n < a + 2 * s) (hst : Step a n f f') (hso : Srt a n f') : Blk (2 * s) n f' := fun x h1 h2 => by
  by_cases hx : x < a
  · have hg := gap h1 h.dv hx
    refine (h.low x h1 hx).congr fun k k1 k2 => hst.out k (.inl ?_)
    have : mnN (x + 2 * s) n ≤ x + 2 * s := by unfold mnN; split <;> omega
    omega
  · have e : x = a := by
      by_cases hxa : x = a
      · exact hxa
      · have := gap h.dv h1 (show a < x by omega); omega
    have e2 : mnN (x + 2 * s) n = n := by rw [e]; unfold mnN; rw [if_neg (by omega)]
    rw [e2, e]
    exact hso
theorem Half.none {s a n : Nat} {f : Nat → Tm} (h : Half s a n f) (hs : 0 < s) (hm : n ≤ a + s) : Blk (2 * s) n f := by
  by_cases ha : a < n
  · refine h.last hs (by omega) (Step.refl _ _ _) ?_
    have h1 := h.high a (dv_half h.dv) (Nat.le_refl _) ha
    have e1 : mnN (a + s) n = n := by unfold mnN; split <;> omega
    rw [e1] at h1
    exact h1
  · intro x h1 h2
    exact h.low x h1 (by omega)
theorem Blk.all {s n : Nat} {f : Nat → Tm} (h : Blk s n f) (hs : n ≤ s) : Srt 0 n f := by
  by_cases h0 : 0 < n
  · have := h 0 (Nat.dvd_zero _) h0
    have e : mnN (0 + s) n = n := by unfold mnN; split <;> omega
    rw [e] at this
    exact this
  · intro x y h1 h2 h3; omega
/-- The first blocks are sorted, up to a. -/
def Low (s a n : Nat) (f : Nat → Tm) : Prop := s ∣ a ∧ ∀ x, s ∣ x → x < a → Srt x (mnN (x + s) n) f
theorem Low.start (s n : Nat) (f : Nat → Tm) : Low s 0 n f := ⟨Nat.dvd_zero _, fun x _ h => by omega⟩
theorem Low.step {s a n : Nat} {f f' : Nat → Tm} (h : Low s a n f) (hs : 0 < s) (hb : a + s ≤ n) (hst : Step a (a + s) f f') (hso : Srt a (a + s) f') : Low s (a + s) n f' := by
  refine ⟨Nat.dvd_add h.1 (Nat.dvd_refl _), fun x h1 h2 => ?_⟩
  by_cases hx : x < a
  · have hg := gap h1 h.1 hx
    refine (h.2 x h1 hx).congr fun k k1 k2 => hst.out k (.inl ?_)
    have : mnN (x + s) n ≤ x + s := by unfold mnN; split <;> omega
    omega
  · have e : x = a := by
      by_cases hxa : x = a
      · exact hxa
      · have := gap h.1 h1 (show a < x by omega); omega
    have e2 : mnN (x + s) n = a + s := by rw [e]; unfold mnN; rw [if_pos hb]
    rw [e2, e]
    exact hso
theorem Low.last {s a n : Nat} {f f' : Nat → Tm} (h : Low s a n f) (hs : 0 < s) (hb : n < a + s) (hst : Step a n f f') (hso : Srt a n f') : Blk s n f' := fun x h1 h2 => by
  by_cases hx : x < a
  · have hg := gap h1 h.1 hx
    refine (h.2 x h1 hx).congr fun k k1 k2 => hst.out k (.inl ?_)
    have : mnN (x + s) n ≤ x + s := by unfold mnN; split <;> omega
    omega
  · have e : x = a := by
      by_cases hxa : x = a
      · exact hxa
      · have := gap h.1 h1 (show a < x by omega); omega
    have e2 : mnN (x + s) n = n := by rw [e]; unfold mnN; rw [if_neg (by omega)]
    rw [e2, e]
    exact hso
end Go.Proofs.Ytjopcpoodhamcaa
