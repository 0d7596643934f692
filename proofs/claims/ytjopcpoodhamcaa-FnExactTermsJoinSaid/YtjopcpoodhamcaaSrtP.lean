/-
  Plain laws on rows that are sorted by swaps. Conditions: none.
-/
import Derived.Test.YtjopcpoodhamcaaPlain
namespace Go.Proofs.Ytjopcpoodhamcaa
set_option linter.unusedSimpArgs false
set_option linter.unusedVariables false

abbrev Tm := Int × Int
/-- The order of the terms: greater spins first, then greater orbits. -/
def key (p : Tm) : Int := -(16 * p.1 + p.2)
def okT (p : Tm) : Prop := 0 ≤ p.1 ∧ p.1 ≤ 8 ∧ 0 ≤ p.2 ∧ p.2 ≤ 8
theorem key_inj {p q : Tm} (hp : okT p) (hq : okT q) (h : key p = key q) : p = q := by
  obtain ⟨a, b⟩ := p
  obtain ⟨c, d⟩ := q
  unfold key okT at *
  simp only at *
  have : a = c := by omega
  have : b = d := by omega
  simp [*]
def cnt (f : Nat → Tm) (p : Tm) : Nat → Nat
  | 0 => 0
  | n + 1 => cnt f p n + (if f n = p then 1 else 0)
theorem cnt_congr {f g : Nat → Tm} {p : Tm} : ∀ {n : Nat}, (∀ k, k < n → f k = g k) → cnt f p n = cnt g p n
  | 0, _ => rfl
  | n + 1, h => by
    unfold cnt
    rw [cnt_congr (fun k hk => h k (by omega)), h n (by omega)]
def updF (f : Nat → Tm) (i : Nat) (v : Tm) : Nat → Tm := fun k => if k = i then v else f k
theorem cnt_upd (f : Nat → Tm) (i : Nat) (v p : Tm) : ∀ n, i < n → cnt (updF f i v) p n + (if f i = p then 1 else 0) = cnt f p n + (if v = p then 1 else 0)
  | 0, h => by omega
  | n + 1, h => by
    unfold cnt
    by_cases e : i = n
    · subst e
      rw [cnt_congr (f := updF f i v) (g := f) (n := i) fun k hk => by unfold updF; rw [if_neg (by omega)]]
      have : updF f i v i = v := by unfold updF; rw [if_pos rfl]
      rw [this]; omega
    · have ih := cnt_upd f i v p n (by omega)
      have : updF f i v n = f n := by unfold updF; rw [if_neg (by omega)]
      rw [this]; omega
def swapF (f : Nat → Tm) (i j : Nat) : Nat → Tm := fun k => if k = i then f j else if k = j then f i else f k
theorem cnt_swap (f : Nat → Tm) (i j : Nat) (p : Tm) (n : Nat) (hi : i < n) (hj : j < n) : cnt (swapF f i j) p n = cnt f p n := by
  by_cases e : i = j
  · subst e
    refine cnt_congr fun k _ => ?_
    unfold swapF
    split
    · rename_i h; rw [h]
    · rfl
  · have h1 := cnt_upd f i (f j) p n hi
    have h2 := cnt_upd (updF f i (f j)) j (f i) p n hj
    have h3 : updF f i (f j) j = f j := by unfold updF; rw [if_neg (by omega)]
    rw [h3] at h2
    have h4 : cnt (updF (updF f i (f j)) j (f i)) p n = cnt (swapF f i j) p n := cnt_congr fun k _ => by
      unfold updF swapF
      by_cases a : k = j
      · subst a; rw [if_pos rfl]; rw [if_neg (by omega), if_pos rfl]
      · rw [if_neg a]
        split
        · rfl
        · first | rfl | rw [if_neg a]
    omega
theorem cnt_pos {f : Nat → Tm} {p : Tm} : ∀ {n : Nat}, 0 < cnt f p n → ∃ k, k < n ∧ f k = p
  | 0, h => by simp [cnt] at h
  | n + 1, h => by
    unfold cnt at h
    by_cases e : f n = p
    · exact ⟨n, by omega, e⟩
    · rw [if_neg e] at h
      obtain ⟨k, hk, hp⟩ := cnt_pos (n := n) (by omega)
      exact ⟨k, by omega, hp⟩
theorem cnt_at {f : Nat → Tm} : ∀ {n k : Nat}, k < n → 0 < cnt f (f k) n
  | 0, _, h => by omega
  | n + 1, k, h => by
    unfold cnt
    by_cases e : k = n
    · subst e; rw [if_pos rfl]; omega
    · have := cnt_at (f := f) (n := n) (k := k) (by omega); omega
/-- What the steps on [a, b) keep. -/
structure Step (a b : Nat) (f f' : Nat → Tm) : Prop where
  out : ∀ k, (k < a ∨ b ≤ k) → f' k = f k
  src : ∀ k, a ≤ k → k < b → ∃ j, a ≤ j ∧ j < b ∧ f' k = f j
  cnt : ∀ p n, b ≤ n → cnt f' p n = cnt f p n
theorem Step.refl (a b : Nat) (f : Nat → Tm) : Step a b f f := ⟨fun _ _ => rfl, fun k h1 h2 => ⟨k, h1, h2, rfl⟩, fun _ _ _ => rfl⟩
theorem Step.trans {a b : Nat} {f g h : Nat → Tm} (x : Step a b f g) (y : Step a b g h) : Step a b f h :=
  ⟨fun k hk => (y.out k hk).trans (x.out k hk), fun k h1 h2 => by
    obtain ⟨j, j1, j2, e⟩ := y.src k h1 h2
    obtain ⟨i, i1, i2, e'⟩ := x.src j j1 j2
    exact ⟨i, i1, i2, e.trans e'⟩, fun p n hn => (y.cnt p n hn).trans (x.cnt p n hn)⟩
theorem Step.wide {a b a' b' : Nat} {f g : Nat → Tm} (x : Step a b f g) (ha : a' ≤ a) (hb : b ≤ b') : Step a' b' f g :=
  ⟨fun k hk => x.out k (by omega), fun k h1 h2 => by
    by_cases h : a ≤ k ∧ k < b
    · obtain ⟨j, j1, j2, e⟩ := x.src k h.1 h.2
      exact ⟨j, by omega, by omega, e⟩
    · exact ⟨k, h1, h2, x.out k (by omega)⟩, fun p n hn => x.cnt p n (by omega)⟩
theorem Step.swap {a b i j : Nat} (f : Nat → Tm) (hi : a ≤ i) (hi' : i < b) (hj : a ≤ j) (hj' : j < b) : Step a b f (swapF f i j) :=
  ⟨fun k hk => by unfold swapF; rw [if_neg (by omega), if_neg (by omega)], fun k h1 h2 => by
    unfold swapF
    split
    · exact ⟨j, hj, hj', rfl⟩
    · split
      · exact ⟨i, hi, hi', rfl⟩
      · exact ⟨k, h1, h2, rfl⟩, fun p n hn => cnt_swap f i j p n (by omega) (by omega)⟩
theorem Step.all {a b : Nat} {f g : Nat → Tm} (x : Step a b f g) {P : Tm → Prop} (h : ∀ k, P (f k)) : ∀ k, P (g k) := fun k => by
  by_cases hk : a ≤ k ∧ k < b
  · obtain ⟨j, -, -, e⟩ := x.src k hk.1 hk.2
    rw [e]; exact h j
  · rw [x.out k (by omega)]; exact h k
theorem Step.part {a b : Nat} {f g : Nat → Tm} (x : Step a b f g) {P : Tm → Prop} (h : ∀ k, a ≤ k → k < b → P (f k)) : ∀ k, a ≤ k → k < b → P (g k) := fun k h1 h2 => by
  obtain ⟨j, j1, j2, e⟩ := x.src k h1 h2
  rw [e]; exact h j j1 j2
def Srt (a b : Nat) (f : Nat → Tm) : Prop := ∀ i j, a ≤ i → i ≤ j → j < b → key (f i) ≤ key (f j)
theorem Srt.congr {a b : Nat} {f g : Nat → Tm} (h : Srt a b f) (e : ∀ k, a ≤ k → k < b → g k = f k) : Srt a b g := fun i j h1 h2 h3 => by
  rw [e i h1 (by omega), e j (by omega) h3]; exact h i j h1 h2 h3
theorem Srt.join {a m b : Nat} {f : Nat → Tm} (h1 : Srt a m f) (h2 : Srt m b f) (h : ∀ i j, a ≤ i → i < m → m ≤ j → j < b → key (f i) ≤ key (f j)) : Srt a b f := fun i j a1 a2 a3 => by
  by_cases x : j < m
  · exact h1 i j a1 a2 x
  · by_cases y : i < m
    · exact h i j a1 y (by omega) a3
    · exact h2 i j (by omega) a2 a3
/-- Two sorted rows with the same counts are the same. -/
theorem srt_same {f g : Nat → Tm} : ∀ n : Nat, (∀ k, k < n → okT (f k)) → (∀ k, k < n → okT (g k)) → Srt 0 n f → Srt 0 n g → (∀ p, cnt f p n = cnt g p n) → ∀ k, k < n → f k = g k
  | 0, _, _, _, _, _ => fun k hk => by omega
  | n + 1, of, og, sf, sg, hc => by
    have last : f n = g n := by
      refine key_inj (of n (by omega)) (og n (by omega)) ?_
      have a1 := cnt_at (f := f) (n := n + 1) (k := n) (by omega)
      rw [hc] at a1
      obtain ⟨i, hi, ei⟩ := cnt_pos a1
      have a2 := cnt_at (f := g) (n := n + 1) (k := n) (by omega)
      rw [← hc] at a2
      obtain ⟨j, hj, ej⟩ := cnt_pos a2
      have b1 := sg i n (by omega) (by omega) (by omega)
      have b2 := sf j n (by omega) (by omega) (by omega)
      rw [ei] at b1
      rw [ej] at b2
      omega
    have ih := srt_same n (fun k hk => of k (by omega)) (fun k hk => og k (by omega)) (fun i j h1 h2 h3 => sf i j h1 h2 (by omega)) (fun i j h1 h2 h3 => sg i j h1 h2 (by omega)) (fun p => by
      have := hc p
      unfold cnt at this
      rw [last] at this
      omega)
    intro k hk
    by_cases e : k = n
    · subst e; exact last
    · exact ih k (by omega)
/-- n elements from a on change places with those from b on. -/
def swapR (f : Nat → Tm) (a b n : Nat) : Nat → Tm := fun k => if a ≤ k ∧ k < a + n then f (k - a + b) else if b ≤ k ∧ k < b + n then f (k - b + a) else f k
theorem swapR_zero (f : Nat → Tm) (a b : Nat) : swapR f a b 0 = f := by
  funext k
  unfold swapR
  rw [if_neg (by omega), if_neg (by omega)]
theorem swapR_succ (f : Nat → Tm) (a b i : Nat) (h : a + i < b) : swapF (swapR f a b i) (a + i) (b + i) = swapR f a b (i + 1) := by
  funext k
  have e1 : swapR f a b i (a + i) = f (a + i) := by unfold swapR; rw [if_neg (by omega), if_neg (by omega)]
  have e2 : swapR f a b i (b + i) = f (b + i) := by unfold swapR; rw [if_neg (by omega), if_neg (by omega)]
  unfold swapF
  rw [e1, e2]
  unfold swapR
  by_cases c1 : k = a + i
  · have r1 : a ≤ k ∧ k < a + (i + 1) := by omega
    rw [if_pos c1, if_pos r1]; congr 1; omega
  · rw [if_neg c1]
    by_cases c2 : k = b + i
    · have r1 : ¬ (a ≤ k ∧ k < a + (i + 1)) := by omega
      have r2 : b ≤ k ∧ k < b + (i + 1) := by omega
      rw [if_pos c2, if_neg r1, if_pos r2]; congr 1; omega
    · rw [if_neg c2]
      by_cases c3 : a ≤ k ∧ k < a + i
      · have r1 : a ≤ k ∧ k < a + (i + 1) := by omega
        rw [if_pos c3, if_pos r1]
      · have r1 : ¬ (a ≤ k ∧ k < a + (i + 1)) := by omega
        rw [if_neg c3, if_neg r1]
        by_cases c4 : b ≤ k ∧ k < b + i
        · have r2 : b ≤ k ∧ k < b + (i + 1) := by omega
          rw [if_pos c4, if_pos r2]
        · have r2 : ¬ (b ≤ k ∧ k < b + (i + 1)) := by omega
          rw [if_neg c4, if_neg r2]
theorem Step.swapR {x y a b n : Nat} (f : Nat → Tm) (h1 : x ≤ a) (h2 : a + n ≤ b) (h3 : b + n ≤ y) : Step x y f (swapR f a b n) := by
  induction n with
  | zero => rw [swapR_zero]; exact Step.refl _ _ _
  | succ n ih =>
    rw [← swapR_succ f a b n (by omega)]
    exact (ih (by omega) (by omega)).trans (Step.swap _ (by omega) (by omega) (by omega) (by omega))
/-- [a, m) and [m, b) change places. -/
def rotR (f : Nat → Tm) (a m b : Nat) : Nat → Tm := fun k => if a ≤ k ∧ k < a + (b - m) then f (k + (m - a)) else if a + (b - m) ≤ k ∧ k < b then f (k - (b - m)) else f k
/-- What rotate holds between two rounds. -/
def RotInv (f T : Nat → Tm) (a m b i j : Nat) : Prop := i ≤ m - a ∧ j ≤ b - m ∧ a ≤ m ∧ m ≤ b ∧ (∀ k, k < m - i ∨ m + j ≤ k → f k = T k) ∧ (∀ k, m - i ≤ k → k < m - i + j → f (k + i) = T k) ∧ (∀ k, m - i + j ≤ k → k < m + j → f (k - j) = T k)
theorem rot_start {f : Nat → Tm} {a m b : Nat} (h1 : a ≤ m) (h2 : m ≤ b) : RotInv f (rotR f a m b) a m b (m - a) (b - m) := by
  refine ⟨by omega, by omega, h1, h2, fun k hk => ?_, fun k k1 k2 => ?_, fun k k1 k2 => ?_⟩
  · unfold rotR; rw [if_neg (by omega), if_neg (by omega)]
  · unfold rotR; rw [if_pos (by omega)]
  · unfold rotR; rw [if_neg (by omega), if_pos (by omega)]
theorem rot_left {f T : Nat → Tm} {a m b i j : Nat} (h : RotInv f T a m b i j) (hij : j < i) : RotInv (swapR f (m - i) m j) T a m b (i - j) j := by
  obtain ⟨q1, q2, q3, q4, q5, q6, q7⟩ := h
  refine ⟨by omega, q2, q3, q4, fun k hk => ?_, fun k k1 k2 => ?_, fun k k1 k2 => ?_⟩
  · unfold swapR
    by_cases c : m - i ≤ k ∧ k < m - i + j
    · rw [if_pos c, ← q6 k c.1 c.2]; congr 1; omega
    · rw [if_neg c, if_neg (by omega)]; exact q5 k (by omega)
  · unfold swapR
    rw [if_neg (by omega), if_pos (by omega), ← q7 k (by omega) (by omega)]; congr 1; omega
  · unfold swapR
    rw [if_neg (by omega), if_neg (by omega)]
    exact q7 k (by omega) k2
theorem rot_right {f T : Nat → Tm} {a m b i j : Nat} (h : RotInv f T a m b i j) (hij : i < j) : RotInv (swapR f (m - i) (m + j - i) i) T a m b i (j - i) := by
  obtain ⟨q1, q2, q3, q4, q5, q6, q7⟩ := h
  refine ⟨q1, by omega, q3, q4, fun k hk => ?_, fun k k1 k2 => ?_, fun k k1 k2 => ?_⟩
  · unfold swapR
    by_cases c : m + j - i ≤ k ∧ k < m + j - i + i
    · rw [if_neg (by omega), if_pos c, ← q7 k (by omega) (by omega)]; congr 1; omega
    · rw [if_neg (by omega), if_neg c]; exact q5 k (by omega)
  · unfold swapR
    rw [if_neg (by omega), if_neg (by omega)]
    exact q6 k k1 (by omega)
  · unfold swapR
    rw [if_pos (by omega), ← q6 k (by omega) (by omega)]; congr 1; omega
theorem rot_last {f T : Nat → Tm} {a m b i : Nat} (h : RotInv f T a m b i i) : swapR f (m - i) m i = T := by
  obtain ⟨q1, q2, q3, q4, q5, q6, q7⟩ := h
  funext k
  unfold swapR
  by_cases c : m - i ≤ k ∧ k < m - i + i
  · rw [if_pos c, ← q6 k c.1 c.2]; congr 1; omega
  · rw [if_neg c]
    by_cases d : m ≤ k ∧ k < m + i
    · rw [if_pos d, ← q7 k (by omega) (by omega)]; congr 1; omega
    · rw [if_neg d]; exact q5 k (by omega)
end Go.Proofs.Ytjopcpoodhamcaa
