import Derived.Test.YtjopcpoodhamcaaDoorPlain
/-
  Plain laws on rows that are sorted by swaps. Conditions: none.
-/
namespace Go.Proofs.YtjopcpoodhamcaaDoor
set_option linter.unusedSimpArgs false
set_option linter.unusedVariables false

abbrev Tm := Int × Int
/-- The order of the terms: greater spins first, then greater orbits. -/
def key (p : Tm) : Int := -(16 * p.1 + p.2)
def okT (p : Tm) : Prop := 0 ≤ p.1 ∧ p.1 ≤ 8 ∧ 0 ≤ p.2 ∧ p.2 ≤ 8
theorem key_inj {p q : Tm} (hp : okT p) (hq : okT q) (h : key p = key q) : p = q := by
  obtain ⟨a, b⟩ := p
  obtain ⟨c, d⟩ := q
  unfold key okT at *
  simp only at *
  have : a = c := by omega
  have : b = d := by omega
  simp [*]
def cnt (f : Nat → Tm) (p : Tm) : Nat → Nat
  | 0 => 0
  | n + 1 => cnt f p n + (if f n = p then 1 else 0)
theorem cnt_congr {f g : Nat → Tm} {p : Tm} : ∀ {n : Nat}, (∀ k, k < n → f k = g k) → cnt f p n = cnt g p n
  | 0, _ => rfl
  | n + 1, h => by
    unfold cnt
    rw [cnt_congr (fun k hk => h k (by omega)), h n (by omega)]
def updF (f : Nat → Tm) (i : Nat) (v : Tm) : Nat → Tm := fun k => if k = i then v else f k
theorem cnt_upd (f : Nat → Tm) (i : Nat) (v p : Tm) : ∀ n, i < n → cnt (updF f i v) p n + (if f i = p then 1 else 0) = cnt f p n + (if v = p then 1 else 0)
  | 0, h => by omega
  | n + 1, h => by
    unfold cnt
    by_cases e : i = n
    · subst e
      rw [cnt_congr (f := updF f i v) (g := f) (n := i) fun k hk => by unfold updF; rw [if_neg (by omega)]]
      have : updF f i v i = v := by unfold updF; rw [if_pos rfl]
      rw [this]; omega
    · have ih := cnt_upd f i v p n (by omega)
      have : updF f i v n = f n := by unfold updF; rw [if_neg (by omega)]
      rw [this]; omega
def swapF (f : Nat → Tm) (i j : Nat) : Nat → Tm := fun k => if k = i then f j else if k = j then f i else f k
theorem cnt_swap (f : Nat → Tm) (i j : Nat) (p : Tm) (n : Nat) (hi : i < n) (hj : j < n) : cnt (swapF f i j) p n = cnt f p n := by
  by_cases e : i = j
  · subst e
    refine cnt_congr fun k _ => ?_
    unfold swapF
    split
    · rename_i h; rw [h]
    · rfl
  · have h1 := cnt_upd f i (f j) p n hi
    have h2 := cnt_upd (updF f i (f j)) j (f i) p n hj
    have h3 : updF f i (f j) j = f j := by unfold updF; rw [if_neg (by omega)]
    rw [h3] at h2
    have h4 : cnt (updF (updF f i (f j)) j (f i)) p n = cnt (swapF f i j) p n := cnt_congr fun k _ => by
      unfold updF swapF
      by_cases a : k = j
      · subst a; rw [if_pos rfl]; rw [if_neg (by omega), if_pos rfl]
      · rw [if_neg a]
        split
        · rfl
        · first | rfl | rw [if_neg a]
    omega
theorem cnt_pos {f : Nat → Tm} {p : Tm} : ∀ {n : Nat}, 0 < cnt f p n → ∃ k, k < n ∧ f k = p
  | 0, h => by simp [cnt] at h
  | n + 1, h => by
    unfold cnt at h
    by_cases e : f n = p
    · exact ⟨n, by omega, e⟩
    · rw [if_neg e] at h
      obtain ⟨k, hk, hp⟩ := cnt_pos (n := n) (by omega)
      exact ⟨k, by omega, hp⟩
theorem cnt_at {f : Nat → Tm} : ∀ {n k : Nat}, k < n → 0 < cnt f (f k) n
  | 0, _, h => by omega
  | n + 1, k, h => by
    unfold cnt
    by_cases e : k = n
    · subst e; rw [if_pos rfl]; omega
    · have := cnt_at (f := f) (n := n) (k := k) (by omega); omega
/-- What the steps on [a, b) keep. -/
structure Step (a b : Nat) (f f' : Nat → Tm) : Prop where
  out : ∀ k, (k < a ∨ b ≤ k) → f' k = f k
  src : ∀ k, a ≤ k → k < b → ∃ j, a ≤ j ∧ j < b ∧ f' k = f j
  cnt : ∀ p n, b ≤ n → cnt f' p n = cnt f p n
theorem Step.refl (a b : Nat) (f : Nat → Tm) : Step a b f f := ⟨fun _ _ => rfl, fun k h1 h2 => ⟨k, h1, h2, rfl⟩, fun _ _ _ => rfl⟩
theorem Step.trans {a b : Nat} {f g h : Nat → Tm} (x : Step a b f g) (y : Step a b g h) : Step a b f h :=
  ⟨fun k hk => (y.out k hk).trans (x.out k hk), fun k h1 h2 => by
    obtain ⟨j, j1, j2, e⟩ := y.src k h1 h2
    obtain ⟨i, i1, i2, e'⟩ := x.src j j1 j2
    exact ⟨i, i1, i2, e.trans e'⟩, fun p n hn => (y.cnt p n hn).trans (x.cnt p n hn)⟩
theorem Step.wide {a b a' b' : Nat} {f g : Nat → Tm} (x : Step a b f g) (ha : a' ≤ a) (hb : b ≤ b') : Step a' b' f g :=
  ⟨fun k hk => x.out k (by omega), fun k h1 h2 => by
    by_cases h : a ≤ k ∧ k < b
    · obtain ⟨j, j1, j2, e⟩ := x.src k h.1 h.2
      exact ⟨j, by omega, by omega, e⟩
    · exact ⟨k, h1, h2, x.out k (by omega)⟩, fun p n hn => x.cnt p n (by omega)⟩
theorem Step.swap {a b i j : Nat} (f : Nat → Tm) (hi : a ≤ i) (hi' : i < b) (hj : a ≤ j) (hj' : j < b) : Step a b f (swapF f i j) :=
  ⟨fun k hk => by unfold swapF; rw [if_neg (by omega), if_neg (by omega)], fun k h1 h2 => by
    unfold swapF
    split
    · exact ⟨j, hj, hj', rfl⟩
    · split
      · exact ⟨i, hi, hi', rfl⟩
      · exact ⟨k, h1, h2, rfl⟩, fun p n hn => cnt_swap f i j p n (by omega) (by omega)⟩
theorem Step.all {a b : Nat} {f g : Nat → Tm} (x : Step a b f g) {P : Tm → Prop} (h : ∀ k, P (f k)) : ∀ k, P (g k) := fun k => by
  by_cases hk : a ≤ k ∧ k < b
  · obtain ⟨j, -, -, e⟩ := x.src k hk.1 hk.2
    rw [e]; exact h j
  · rw [x.out k (by omega)]; exact h k
theorem Step.part {a b : Nat} {f g : Nat → Tm} (x : Step a b f g) {P : Tm → Prop} (h : ∀ k, a ≤ k → k < b → P (f k)) : ∀ k, a ≤ k → k < b → P (g k) := fun k h1 h2 => by
  obtain ⟨j, j1, j2, e⟩ := x.src k h1 h2
  rw [e]; exact h j j1 j2
def Srt (a b : Nat) (f : Nat → Tm) : Prop := ∀ i j, a ≤ i → i ≤ j → j < b → key (f i) ≤ key (f j)
theorem Srt.congr {a b : Nat} {f g : Nat → Tm} (h : Srt a b f) (e : ∀ k, a ≤ k → k < b → g k = f k) : Srt a b g := fun i j h1 h2 h3 => by
  rw [e i h1 (by omega), e j (by omega) h3]; exact h i j h1 h2 h3
theorem Srt.join {a m b : Nat} {f : Nat → Tm} (h1 : Srt a m f) (h2 : Srt m b f) (h : ∀ i j, a ≤ i → i < m → m ≤ j → j < b → key (f i) ≤ key (f j)) : Srt a b f := fun i j a1 a2 a3 => by
  by_cases x : j < m
  · exact h1 i j a1 a2 x
  · by_cases y : i < m
    · exact h i j a1 y (by omega) a3
    · exact h2 i j (by omega) a2 a3
/-- Two sorted rows with the same counts are the same. -/
theorem srt_same {f g : Nat → Tm} : ∀ n : Nat, (∀ k, k < n → okT (f k)) → (∀ k, k < n → okT (g k)) → Srt 0 n f → Srt 0 n g → (∀ p, cnt f p n = cnt g p n) → ∀ k, k < n → f k = g k
  | 0, _, _, _, _, _ => fun k hk => by omega
  | n + 1, of, og, sf, sg, hc => by
    have last : f n = g n := by
      refine key_inj (of n (by omega)) (og n (by omega)) ?_
      have a1 := cnt_at (f := f) (n := n + 1) (k := n) (by omega)
      rw [hc] at a1
      obtain ⟨i, hi, ei⟩ := cnt_pos a1
      have a2 := cnt_at (f := g) (n := n + 1) (k := n) (by omega)
      rw [← hc] at a2
      obtain ⟨j, hj, ej⟩ := cnt_pos a2
      have b1 := sg i n (by omega) (by omega) (by omega)
      have b2 := sf j n (by omega) (by omega) (by omega)
      rw [ei] at b1
      rw [ej] at b2
      omega
    have ih := srt_same n (fun k hk => of k (by omega)) (fun k hk => og k (by omega)) (fun i j h1 h2 h3 => sf i j h1 h2 (by omega)) (fun i j h1 h2 h3 => sg i j h1 h2 (by omega)) (fun p => by
      have := hc p
      unfold cnt at this
      rw [last] at this
      omega)
    intro k hk
    by_cases e : k = n
    · subst e; exact last
    · exact ih k (by omega)
/-- n elements from a on change places with those from b on. -/
def swapR (f : Nat → Tm) (a b n : Nat) : Nat → Tm := fun k => if a ≤ k ∧ k < a + n then f (k - a + b) else if b ≤ k ∧ k < b + n then f (k - b + a) else f k
theorem swapR_zero (f : Nat → Tm) (a b : Nat) : swapR f a b 0 = f := by
  funext k
  unfold swapR
  rw [if_neg (by omega), if_neg (by omega)]
theorem swapR_succ (f : Nat → Tm) (a b i : Nat) (h : a + i < b) : swapF (swapR f a b i) (a + i) (b + i) = swapR f a b (i + 1) := by
  funext k
  have e1 : swapR f a b i (a + i) = f (a + i) := by unfold swapR; rw [if_neg (by omega), if_neg (by omega)]
  have e2 : swapR f a b i (b + i) = f (b + i) := by unfold swapR; rw [if_neg (by omega), if_neg (by omega)]
  unfold swapF
  rw [e1, e2]
  unfold swapR
  by_cases c1 : k = a + i
  · have r1 : a ≤ k ∧ k < a + (i + 1) := by omega
    rw [if_pos c1, if_pos r1]; congr 1; omega
  · rw [if_neg c1]
    by_cases c2 : k = b + i
    · have r1 : ¬ (a ≤ k ∧ k < a + (i + 1)) := by omega
      have r2 : b ≤ k ∧ k < b + (i + 1) := by omega
      rw [if_pos c2, if_neg r1, if_pos r2]; congr 1; omega
    · rw [if_neg c2]
      by_cases c3 : a ≤ k ∧ k < a + i
      · have r1 : a ≤ k ∧ k < a + (i + 1) := by omega
        rw [if_pos c3, if_pos r1]
      · have r1 : ¬ (a ≤ k ∧ k < a + (i + 1)) := by omega
        rw [if_neg c3, if_neg r1]
        by_cases c4 : b ≤ k ∧ k < b + i
        · have r2 : b ≤ k ∧ k < b + (i + 1) := by omega
          rw [if_pos c4, if_pos r2]
        · have r2 : ¬ (b ≤ k ∧ k < b + (i + 1)) := by omega
          rw [if_neg c4, if_neg r2]
theorem Step.swapR {x y a b n : Nat} (f : Nat → Tm) (h1 : x ≤ a) (h2 : a + n ≤ b) (h3 : b + n ≤ y) : Step x y f (swapR f a b n) := by
  induction n with
  | zero => rw [swapR_zero]; exact Step.refl _ _ _
  | succ n ih =>
    rw [← swapR_succ f a b n (by omega)]
    exact (ih (by omega) (by omega)).trans (Step.swap _ (by omega) (by omega) (by omega) (by omega))
/-- [a, m) and [m, b) change places. -/
def rotR (f : Nat → Tm) (a m b : Nat) : Nat → Tm := fun k => if a ≤ k ∧ k < a + (b - m) then f (k + (m - a)) else if a + (b - m) ≤ k ∧ k < b then f (k - (b - m)) else f k
/-- What rotate holds between two rounds. -/
def RotInv (f T : Nat → Tm) (a m b i j : Nat) : Prop := i ≤ m - a ∧ j ≤ b - m ∧ a ≤ m ∧ m ≤ b ∧ (∀ k, k < m - i ∨ m + j ≤ k → f k = T k) ∧ (∀ k, m - i ≤ k → k < m - i + j → f (k + i) = T k) ∧ (∀ k, m - i + j ≤ k → k < m + j → f (k - j) = T k)
theorem rot_start {f : Nat → Tm} {a m b : Nat} (h1 : a ≤ m) (h2 : m ≤ b) : RotInv f (rotR f a m b) a m b (m - a) (b - m) := by
  refine ⟨by omega, by omega, h1, h2, fun k hk => ?_, fun k k1 k2 => ?_, fun k k1 k2 => ?_⟩
  · unfold rotR; rw [if_neg (by omega), if_neg (by omega)]
  · unfold rotR; rw [if_pos (by omega)]
  · unfold rotR; rw [if_neg (by omega), if_pos (by omega)]
theorem rot_left {f T : Nat → Tm} {a m b i j : Nat} (h : RotInv f T a m b i j) (hij : j < i) : RotInv (swapR f (m - i) m j) T a m b (i - j) j := by
  obtain ⟨q1, q2, q3, q4, q5, q6, q7⟩ := h
  refine ⟨by omega, q2, q3, q4, fun k hk => ?_, fun k k1 k2 => ?_, fun k k1 k2 => ?_⟩
  · unfold swapR
    by_cases c : m - i ≤ k ∧ k < m - i + j
    · rw [if_pos c, ← q6 k c.1 c.2]; congr 1; omega
    · rw [if_neg c, if_neg (by omega)]; exact q5 k (by omega)
  · unfold swapR
    rw [if_neg (by omega), if_pos (by omega), ← q7 k (by omega) (by omega)]; congr 1; omega
  · unfold swapR
    rw [if_neg (by omega), if_neg (by omega)]
    exact q7 k (by omega) k2
theorem rot_right {f T : Nat → Tm} {a m b i j : Nat} (h : RotInv f T a m b i j) (hij : i < j) : RotInv (swapR f (m - i) (m + j - i) i) T a m b i (j - i) := by
  obtain ⟨q1, q2, q3, q4, q5, q6, q7⟩ := h
  refine ⟨q1, by omega, q3, q4, fun k hk => ?_, fun k k1 k2 => ?_, fun k k1 k2 => ?_⟩
  · unfold swapR
    by_cases c : m + j - i ≤ k ∧ k < m + j - i + i
    · rw [if_neg (by omega), if_pos c, ← q7 k (by omega) (by omega)]; congr 1; omega
    · rw [if_neg (by omega), if_neg c]; exact q5 k (by omega)
  · unfold swapR
    rw [if_neg (by omega), if_neg (by omega)]
    exact q6 k k1 (by omega)
  · unfold swapR
    rw [if_pos (by omega), ← q6 k (by omega) (by omega)]; congr 1; omega
theorem rot_last {f T : Nat → Tm} {a m b i : Nat} (h : RotInv f T a m b i i) : swapR f (m - i) m i = T := by
  obtain ⟨q1, q2, q3, q4, q5, q6, q7⟩ := h
  funext k
  unfold swapR
  by_cases c : m - i ≤ k ∧ k < m - i + i
  · rw [if_pos c, ← q6 k c.1 c.2]; congr 1; omega
  · rw [if_neg c]
    by_cases d : m ≤ k ∧ k < m + i
    · rw [if_pos d, ← q7 k (by omega) (by omega)]; congr 1; omega
    · rw [if_neg d]; exact q5 k (by omega)
end Go.Proofs.YtjopcpoodhamcaaDoor

/-
  Plain laws of the merge by rotation. Conditions: none.
-/
namespace Go.Proofs.YtjopcpoodhamcaaDoor
set_option linter.unusedSimpArgs false
set_option linter.unusedVariables false

/-- Place a has gone to place k, those between one to the left. -/
def shA (f : Nat → Tm) (a k : Nat) : Nat → Tm := fun x => if a ≤ x ∧ x < k then f (x + 1) else if x = k then f a else f x
theorem shA_start (f : Nat → Tm) (a : Nat) : shA f a a = f := by
  funext x
  unfold shA
  rw [if_neg (by omega)]
  split
  · rename_i h; rw [h]
  · rfl
theorem shA_step (f : Nat → Tm) {a k : Nat} (h : a ≤ k) : swapF (shA f a k) k (k + 1) = shA f a (k + 1) := by
  have e1 : shA f a k k = f a := by unfold shA; rw [if_neg (by omega), if_pos rfl]
  have e2 : shA f a k (k + 1) = f (k + 1) := by unfold shA; rw [if_neg (by omega), if_neg (by omega)]
  funext x
  unfold swapF
  rw [e1, e2]
  by_cases c1 : x = k
  · rw [if_pos c1]
    unfold shA
    rw [if_pos (by omega), c1]
  · rw [if_neg c1]
    by_cases c2 : x = k + 1
    · rw [if_pos c2]
      unfold shA
      rw [if_neg (by omega), if_pos c2]
    · rw [if_neg c2]
      unfold shA
      by_cases c3 : a ≤ x ∧ x < k
      · have c4 : a ≤ x ∧ x < k + 1 := by omega
        rw [if_pos c3, if_pos c4]
      · have c4 : ¬ (a ≤ x ∧ x < k + 1) := by omega
        rw [if_neg c3, if_neg c4, if_neg c1, if_neg c2]
theorem shA_step' (f : Nat → Tm) (a : Nat) {b : Nat} : ∀ k, a ≤ k → k < b → Step a b f (shA f a k) := by
  intro k
  induction k with
  | zero =>
    intro h1 h2
    have e : a = 0 := by omega
    rw [e, shA_start]; exact Step.refl _ _ _
  | succ k ih =>
    intro h1 h2
    by_cases e : a = k + 1
    · rw [e, shA_start]; exact Step.refl _ _ _
    · rw [← shA_step f (show a ≤ k by omega)]
      exact (ih (by omega) (by omega)).trans (Step.swap _ (by omega) (by omega) (by omega) (by omega))
theorem shA_srt {f : Nat → Tm} {a b i : Nat} (hi : a + 1 ≤ i) (hib : i ≤ b) (hs : Srt (a + 1) b f) (h1 : ∀ k, a + 1 ≤ k → k < i → key (f k) < key (f a)) (h2 : ∀ k, i ≤ k → k < b → key (f a) ≤ key (f k)) : Srt a b (shA f a (i - 1)) := by
  intro x y hx hxy hy
  have v : ∀ z, shA f a (i - 1) z = if a ≤ z ∧ z < i - 1 then f (z + 1) else if z = i - 1 then f a else f z := fun z => rfl
  rw [v, v]
  by_cases c1 : y < i - 1
  · rw [if_pos (by omega), if_pos (by omega)]; exact hs _ _ (by omega) (by omega) (by omega)
  · rw [if_neg (show ¬ (a ≤ y ∧ y < i - 1) by omega)]
    by_cases c2 : y = i - 1
    · rw [if_pos c2]
      by_cases c3 : x < i - 1
      · rw [if_pos (show a ≤ x ∧ x < i - 1 by omega)]
        exact Int.le_of_lt (h1 _ (by omega) (by omega))
      · rw [if_neg (show ¬ (a ≤ x ∧ x < i - 1) by omega), if_pos (by omega)]; exact Int.le_refl _
    · rw [if_neg c2]
      by_cases c3 : x < i - 1
      · rw [if_pos (show a ≤ x ∧ x < i - 1 by omega)]
        exact hs _ _ (by omega) (by omega) (by omega)
      · rw [if_neg (show ¬ (a ≤ x ∧ x < i - 1) by omega)]
        by_cases c4 : x = i - 1
        · rw [if_pos c4]; exact h2 _ (by omega) (by omega)
        · rw [if_neg c4]; exact hs _ _ (by omega) (by omega) (by omega)
/-- Place m has gone to place k, those between one to the right. -/
def shB (f : Nat → Tm) (m k : Nat) : Nat → Tm := fun x => if k < x ∧ x ≤ m then f (x - 1) else if x = k then f m else f x
theorem shB_start (f : Nat → Tm) (m : Nat) : shB f m m = f := by
  funext x
  unfold shB
  rw [if_neg (by omega)]
  split
  · rename_i h; rw [h]
  · rfl
theorem shB_step (f : Nat → Tm) {m k : Nat} (h : k + 1 ≤ m) : swapF (shB f m (k + 1)) (k + 1) k = shB f m k := by
  have e1 : shB f m (k + 1) (k + 1) = f m := by unfold shB; rw [if_neg (by omega), if_pos rfl]
  have e2 : shB f m (k + 1) k = f k := by unfold shB; rw [if_neg (by omega), if_neg (by omega)]
  funext x
  unfold swapF
  rw [e1, e2]
  by_cases c1 : x = k + 1
  · rw [if_pos c1]
    unfold shB
    rw [if_pos (by omega), c1]; rfl
  · rw [if_neg c1]
    by_cases c2 : x = k
    · rw [if_pos c2]
      unfold shB
      rw [if_neg (by omega), if_pos c2]
    · rw [if_neg c2]
      unfold shB
      by_cases c3 : k + 1 < x ∧ x ≤ m
      · have c4 : k < x ∧ x ≤ m := by omega
        rw [if_pos c3, if_pos c4]
      · have c4 : ¬ (k < x ∧ x ≤ m) := by omega
        rw [if_neg c3, if_neg c4, if_neg c1, if_neg c2]
theorem shB_step' (f : Nat → Tm) {a m : Nat} : ∀ d k, k + d = m → a ≤ k → Step a (m + 1) f (shB f m k) := by
  intro d
  induction d with
  | zero =>
    intro k h1 h2
    have e : k = m := by omega
    rw [e, shB_start]; exact Step.refl _ _ _
  | succ d ih =>
    intro k h1 h2
    rw [← shB_step f (show k + 1 ≤ m by omega)]
    exact (ih (k + 1) (by omega) (by omega)).trans (Step.swap _ (by omega) (by omega) (by omega) (by omega))
theorem shB_srt {f : Nat → Tm} {a m i : Nat} (hi : a ≤ i) (him : i ≤ m) (hs : Srt a m f) (h1 : ∀ k, a ≤ k → k < i → key (f k) ≤ key (f m)) (h2 : ∀ k, i ≤ k → k < m → key (f m) < key (f k)) : Srt a (m + 1) (shB f m i) := by
  intro x y hx hxy hy
  have v : ∀ z, shB f m i z = if i < z ∧ z ≤ m then f (z - 1) else if z = i then f m else f z := fun z => rfl
  rw [v, v]
  by_cases c1 : i < x
  · rw [if_pos (by omega), if_pos (by omega)]; exact hs _ _ (by omega) (by omega) (by omega)
  · rw [if_neg (show ¬ (i < x ∧ x ≤ m) by omega)]
    by_cases c2 : x = i
    · rw [if_pos c2]
      by_cases c3 : i < y
      · rw [if_pos (show i < y ∧ y ≤ m by omega)]
        exact Int.le_of_lt (h2 _ (by omega) (by omega))
      · rw [if_neg (show ¬ (i < y ∧ y ≤ m) by omega), if_pos (by omega)]; exact Int.le_refl _
    · rw [if_neg c2]
      by_cases c3 : i < y
      · rw [if_pos (show i < y ∧ y ≤ m by omega)]
        exact hs _ _ (by omega) (by omega) (by omega)
      · rw [if_neg (show ¬ (i < y ∧ y ≤ m) by omega)]
        by_cases c4 : y = i
        · rw [if_pos c4]; exact h1 _ (by omega) (by omega)
        · rw [if_neg c4]; exact hs _ _ (by omega) (by omega) (by omega)
/-- Where the two halves are cut. -/
structure Cut (f : Nat → Tm) (a m b mid s e : Nat) : Prop where
  sum : s + e = mid + m
  as : a ≤ s
  sm : s ≤ m
  smid : s ≤ mid
  me : m ≤ e
  eb : e ≤ b
  mide : mid ≤ e
  left : a < s → e < b → key (f (s - 1)) ≤ key (f e)
  right : s < m → m < e → key (f (e - 1)) ≤ key (f s)
theorem cut_of {f : Nat → Tm} {a m b mid s r s0 r0 : Nat} (hmid : mid = (a + b) / 2) (ham : a < m) (hmb : m < b) (h0 : (m ≤ mid ∧ s0 = a ∧ r0 = m) ∨ (mid < m ∧ s0 = mid + m - b ∧ r0 = mid)) (hs : s0 ≤ s) (hr : s ≤ r0)
    (h1 : s = s0 ∨ key (f (s - 1)) ≤ key (f (mid + m - 1 - (s - 1)))) (h2 : s = r0 ∨ key (f (mid + m - 1 - s)) < key (f s)) : Cut f a m b mid s (mid + m - s) := by
  refine ⟨by omega, by omega, by omega, by omega, by omega, by omega, by omega, fun x y => ?_, fun x y => ?_⟩
  · rcases h1 with h1 | h1
    · omega
    · rw [show mid + m - 1 - (s - 1) = mid + m - s by omega] at h1; exact h1
  · rcases h2 with h2 | h2
    · omega
    · rw [show mid + m - s - 1 = mid + m - 1 - s by omega]; exact Int.le_of_lt h2
/-- The row behind the rotation. -/
theorem Cut.halves {f : Nat → Tm} {a m b mid s e : Nat} (c : Cut f a m b mid s e) (ham : a < m) (hmb : m < b) (h1 : Srt a m f) (h2 : Srt m b f) :
    Srt a s (rotR f s m e) ∧ Srt s mid (rotR f s m e) ∧ Srt mid e (rotR f s m e) ∧ Srt e b (rotR f s m e) ∧ (∀ x y, a ≤ x → x < mid → mid ≤ y → y < b → key (rotR f s m e x) ≤ key (rotR f s m e y)) := by
  obtain ⟨c1, c2, c3, c4, c5, c6, c7, c8, c9⟩ := c
  have vA : ∀ z, z < s → rotR f s m e z = f z := fun z hz => by unfold rotR; rw [if_neg (by omega), if_neg (by omega)]
  have vB : ∀ z, s ≤ z → z < mid → rotR f s m e z = f (z + (m - s)) := fun z h h' => by unfold rotR; rw [if_pos (by omega)]
  have vC : ∀ z, mid ≤ z → z < e → rotR f s m e z = f (z - (e - m)) := fun z h h' => by unfold rotR; rw [if_neg (by omega), if_pos (by omega)]
  have vD : ∀ z, e ≤ z → rotR f s m e z = f z := fun z hz => by unfold rotR; rw [if_neg (by omega), if_neg (by omega)]
  refine ⟨fun x y a1 a2 a3 => ?_, fun x y a1 a2 a3 => ?_, fun x y a1 a2 a3 => ?_, fun x y a1 a2 a3 => ?_, fun x y a1 a2 a3 a4 => ?_⟩
  · rw [vA x (by omega), vA y a3]; exact h1 x y a1 a2 (by omega)
  · rw [vB x a1 (by omega), vB y (by omega) a3]; exact h2 _ _ (by omega) (by omega) (by omega)
  · rw [vC x a1 (by omega), vC y (by omega) a3]; exact h1 _ _ (by omega) (by omega) (by omega)
  · rw [vD x a1, vD y (by omega)]; exact h2 _ _ (by omega) (by omega) (by omega)
  · by_cases hx : x < s
    · rw [vA x hx]
      by_cases hy : y < e
      · rw [vC y a3 hy]; exact h1 _ _ a1 (by omega) (by omega)
      · rw [vD y (by omega)]
        have k1 := h1 x (s - 1) a1 (by omega) (by omega)
        have k2 := c8 (by omega) (by omega)
        have k3 := h2 e y (by omega) (by omega) (by omega)
        omega
    · rw [vB x (by omega) a2]
      by_cases hy : y < e
      · rw [vC y a3 hy]
        have k1 := h2 (x + (m - s)) (e - 1) (by omega) (by omega) (by omega)
        have k2 := c9 (by omega) (by omega)
        have k3 := h1 s (y - (e - m)) (by omega) (by omega) (by omega)
        omega
      · rw [vD y (by omega)]; exact h2 _ _ (by omega) (by omega) (by omega)
theorem rot_none {f : Nat → Tm} {s m e : Nat} (h : s = m ∨ e = m) : rotR f s m e = f := by
  funext k
  unfold rotR
  rcases h with h | h
  · subst h
    by_cases c : s ≤ k ∧ k < s + (e - s)
    · rw [if_pos c]; congr 1; omega
    · rw [if_neg c, if_neg (by omega)]
  · subst h
    rw [if_neg (by omega)]
    by_cases c : s + (e - e) ≤ k ∧ k < e
    · rw [if_pos c]; congr 1; omega
    · rw [if_neg c]
/-- Both halves sorted, the whole is. -/
theorem halves_join {f1 f2 f3 : Nat → Tm} {a mid b : Nat} (h : ∀ x y, a ≤ x → x < mid → mid ≤ y → y < b → key (f1 x) ≤ key (f1 y)) (s1 : Step a mid f1 f2) (s2 : Step mid b f2 f3) (r1 : Srt a mid f2) (r2 : Srt mid b f3) : Srt a b f3 := by
  refine Srt.join (r1.congr fun k k1 k2 => s2.out k (by omega)) r2 fun i j a1 a2 a3 a4 => ?_
  rw [s2.out i (by omega)]
  obtain ⟨x, x1, x2, ex⟩ := s1.src i a1 a2
  obtain ⟨y, y1, y2, ey⟩ := s2.src j a3 a4
  rw [ex, ey, s1.out y (by omega)]
  exact h x y x1 x2 y1 y2
end Go.Proofs.YtjopcpoodhamcaaDoor

/-
  Plain laws of the stable sort: blocks that are sorted. Conditions: none.
-/
namespace Go.Proofs.YtjopcpoodhamcaaDoor
set_option linter.unusedSimpArgs false
set_option linter.unusedVariables false

def mnN (a b : Nat) : Nat := if a ≤ b then a else b
/-- Each block of s is sorted. -/
def Blk (s n : Nat) (f : Nat → Tm) : Prop := ∀ x, s ∣ x → x < n → Srt x (mnN (x + s) n) f
/-- The blocks below a have been merged by two. -/
structure Half (s a n : Nat) (f : Nat → Tm) : Prop where
  dv : 2 * s ∣ a
  low : ∀ x, 2 * s ∣ x → x < a → Srt x (mnN (x + 2 * s) n) f
  high : ∀ x, s ∣ x → a ≤ x → x < n → Srt x (mnN (x + s) n) f
theorem gap {d x a : Nat} (h1 : d ∣ x) (h2 : d ∣ a) (h : x < a) : x + d ≤ a := by
  have h3 : d ∣ a - x := Nat.dvd_sub h2 h1
  have := Nat.le_of_dvd (by omega) h3
  omega
theorem dv_half {s x : Nat} (h : 2 * s ∣ x) : s ∣ x := Nat.dvd_trans ⟨2, by omega⟩ h
theorem Half.start {s n : Nat} {f : Nat → Tm} (h : Blk s n f) : Half s 0 n f := ⟨Nat.dvd_zero _, fun x _ hx => by omega, fun x h1 _ h3 => h x h1 h3⟩
theorem Half.two {s a n : Nat} {f : Nat → Tm} (h : Half s a n f) (hs : 0 < s) (hb : a + 2 * s ≤ n) : Srt a (a + s) f ∧ Srt (a + s) (a + 2 * s) f := by
  have h1 := h.high a (dv_half h.dv) (Nat.le_refl _) (by omega)
  have h2 := h.high (a + s) (Nat.dvd_add (dv_half h.dv) (Nat.dvd_refl s)) (by omega) (by omega)
  have e1 : mnN (a + s) n = a + s := by unfold mnN; rw [if_pos (by omega)]
  have e2 : mnN (a + s + s) n = a + 2 * s := by unfold mnN; rw [if_pos (by omega)]; omega
  rw [e1] at h1
  rw [e2] at h2
  exact ⟨h1, h2⟩
theorem Half.step {s a n : Nat} {f f' : Nat → Tm} (h : Half s a n f) (hs : 0 < s) (hb : a + 2 * s ≤ n) (hst : Step a (a + 2 * s) f f') (hso : Srt a (a + 2 * s) f') : Half s (a + 2 * s) n f' := by
  refine ⟨Nat.dvd_add h.dv (Nat.dvd_refl _), fun x h1 h2 => ?_, fun x h1 h2 h3 => ?_⟩
  · by_cases hx : x < a
    · have hg := gap h1 h.dv hx
      refine (h.low x h1 hx).congr fun k k1 k2 => hst.out k (.inl ?_)
      have : mnN (x + 2 * s) n ≤ x + 2 * s := by unfold mnN; split <;> omega
      omega
    · have e : x = a := by
        by_cases hxa : x = a
        · exact hxa
        · have := gap h.dv h1 (show a < x by omega); omega
      have e2 : mnN (x + 2 * s) n = a + 2 * s := by rw [e]; unfold mnN; rw [if_pos hb]
      rw [e2, e]
      exact hso
  · exact (h.high x h1 (by omega) h3).congr fun k k1 k2 => hst.out k (.inr (by omega))
theorem Half.rest {s a n : Nat} {f : Nat → Tm} (h : Half s a n f) (hs : 0 < s) (hm : a + s < n) (hb : n < a + 2 * s) : Srt a (a + s) f ∧ Srt (a + s) n f := by
  have h1 := h.high a (dv_half h.dv) (Nat.le_refl _) (by omega)
  have h2 := h.high (a + s) (Nat.dvd_add (dv_half h.dv) (Nat.dvd_refl s)) (by omega) (by omega)
  have e1 : mnN (a + s) n = a + s := by unfold mnN; rw [if_pos (by omega)]
  have e2 : mnN (a + s + s) n = n := by unfold mnN; rw [if_neg (by omega)]
  rw [e1] at h1
  rw [e2] at h2
  exact ⟨h1, h2⟩
theorem Half.last {s a n : Nat} {f f' : Nat → Tm} (h : Half s a n f) (hs : 0 < s) (hb : n < a + 2 * s) (hst : Step a n f f') (hso : Srt a n f') : Blk (2 * s) n f' := fun x h1 h2 => by
  by_cases hx : x < a
  · have hg := gap h1 h.dv hx
    refine (h.low x h1 hx).congr fun k k1 k2 => hst.out k (.inl ?_)
    have : mnN (x + 2 * s) n ≤ x + 2 * s := by unfold mnN; split <;> omega
    omega
  · have e : x = a := by
      by_cases hxa : x = a
      · exact hxa
      · have := gap h.dv h1 (show a < x by omega); omega
    have e2 : mnN (x + 2 * s) n = n := by rw [e]; unfold mnN; rw [if_neg (by omega)]
    rw [e2, e]
    exact hso
theorem Half.none {s a n : Nat} {f : Nat → Tm} (h : Half s a n f) (hs : 0 < s) (hm : n ≤ a + s) : Blk (2 * s) n f := by
  by_cases ha : a < n
  · refine h.last hs (by omega) (Step.refl _ _ _) ?_
    have h1 := h.high a (dv_half h.dv) (Nat.le_refl _) ha
    have e1 : mnN (a + s) n = n := by unfold mnN; split <;> omega
    rw [e1] at h1
    exact h1
  · intro x h1 h2
    exact h.low x h1 (by omega)
theorem Blk.all {s n : Nat} {f : Nat → Tm} (h : Blk s n f) (hs : n ≤ s) : Srt 0 n f := by
  by_cases h0 : 0 < n
  · have := h 0 (Nat.dvd_zero _) h0
    have e : mnN (0 + s) n = n := by unfold mnN; split <;> omega
    rw [e] at this
    exact this
  · intro x y h1 h2 h3; omega
/-- The first blocks are sorted, up to a. -/
def Low (s a n : Nat) (f : Nat → Tm) : Prop := s ∣ a ∧ ∀ x, s ∣ x → x < a → Srt x (mnN (x + s) n) f
theorem Low.start (s n : Nat) (f : Nat → Tm) : Low s 0 n f := ⟨Nat.dvd_zero _, fun x _ h => by omega⟩
theorem Low.step {s a n : Nat} {f f' : Nat → Tm} (h : Low s a n f) (hs : 0 < s) (hb : a + s ≤ n) (hst : Step a (a + s) f f') (hso : Srt a (a + s) f') : Low s (a + s) n f' := by
  refine ⟨Nat.dvd_add h.1 (Nat.dvd_refl _), fun x h1 h2 => ?_⟩
  by_cases hx : x < a
  · have hg := gap h1 h.1 hx
    refine (h.2 x h1 hx).congr fun k k1 k2 => hst.out k (.inl ?_)
    have : mnN (x + s) n ≤ x + s := by unfold mnN; split <;> omega
    omega
  · have e : x = a := by
      by_cases hxa : x = a
      · exact hxa
      · have := gap h.1 h1 (show a < x by omega); omega
    have e2 : mnN (x + s) n = a + s := by rw [e]; unfold mnN; rw [if_pos hb]
    rw [e2, e]
    exact hso
theorem Low.last {s a n : Nat} {f f' : Nat → Tm} (h : Low s a n f) (hs : 0 < s) (hb : n < a + s) (hst : Step a n f f') (hso : Srt a n f') : Blk s n f' := fun x h1 h2 => by
  by_cases hx : x < a
  · have hg := gap h1 h.1 hx
    refine (h.2 x h1 hx).congr fun k k1 k2 => hst.out k (.inl ?_)
    have : mnN (x + s) n ≤ x + s := by unfold mnN; split <;> omega
    omega
  · have e : x = a := by
      by_cases hxa : x = a
      · exact hxa
      · have := gap h.1 h1 (show a < x by omega); omega
    have e2 : mnN (x + s) n = n := by rw [e]; unfold mnN; rw [if_neg (by omega)]
    rw [e2, e]
    exact hso
end Go.Proofs.YtjopcpoodhamcaaDoor

/-
  Plain laws: the sorted list. Conditions: none.
-/
namespace Go.Proofs.YtjopcpoodhamcaaDoor
set_option linter.unusedSimpArgs false
set_option linter.unusedVariables false

def atL (xs : List Tm) (k : Nat) : Tm := xs.getD k (0, 0)
/-- The ordered list: greater spins first, then greater orbits. -/
def sortT (xs : List Tm) : List Tm := xs.mergeSort fun a b => decide (key a ≤ key b)
theorem sortT_len (xs : List Tm) : (sortT xs).length = xs.length := by unfold sortT; exact List.length_mergeSort _
theorem sortT_perm (xs : List Tm) : (sortT xs).Perm xs := List.mergeSort_perm _ _
theorem cnt_at_list (p : Tm) : ∀ (xs : List Tm), cnt (atL xs) p xs.length = xs.count p := by
  intro xs
  have key : ∀ k, k ≤ xs.length → cnt (atL xs) p k = (xs.take k).count p := by
    intro k
    induction k with
    | zero => intro _; simp [cnt]
    | succ k ih =>
      intro hk
      have e : xs[k]? = some xs[k] := List.getElem?_eq_getElem (by omega)
      have e2 : atL xs k = xs[k] := by unfold atL; rw [List.getD_eq_getElem?_getD, e]; rfl
      unfold cnt
      rw [ih (by omega), List.take_add_one, e, List.count_append, e2]
      simp [List.count_singleton, beq_iff_eq, Prod.ext_iff]
  have := key xs.length (Nat.le_refl _)
  rw [List.take_length] at this
  exact this
theorem sortT_srt (xs : List Tm) : Srt 0 (sortT xs).length (atL (sortT xs)) := by
  have h : (sortT xs).Pairwise fun a b => decide (key a ≤ key b) = true := List.pairwise_mergeSort (fun a b c h1 h2 => by simp at *; omega) (fun a b => by simp; omega) xs
  intro i j h1 h2 h3
  have ei : atL (sortT xs) i = (sortT xs)[i] := by unfold atL; rw [List.getD_eq_getElem?_getD, List.getElem?_eq_getElem (by omega)]; rfl
  have ej : atL (sortT xs) j = (sortT xs)[j] := by unfold atL; rw [List.getD_eq_getElem?_getD, List.getElem?_eq_getElem (by omega)]; rfl
  rw [ei, ej]
  by_cases e : i = j
  · subst e; exact Int.le_refl _
  · have := List.pairwise_iff_getElem.1 h i j (by omega) h3 (by omega)
    simpa using this
/-- A sorted row with the counts of xs is the sorted list. -/
theorem sortT_is {xs : List Tm} {f : Nat → Tm} (ho : ∀ x ∈ xs, okT x) (hf : ∀ k, k < xs.length → okT (f k)) (hs : Srt 0 xs.length f) (hc : ∀ p, cnt f p xs.length = xs.count p) : ∀ k, k < xs.length → f k = atL (sortT xs) k := by
  have hl := sortT_len xs
  refine srt_same xs.length hf (fun k hk => ?_) hs (by rw [← hl]; exact sortT_srt xs) (fun p => ?_)
  · have e : atL (sortT xs) k = (sortT xs)[k]'(by omega) := by unfold atL; rw [List.getD_eq_getElem?_getD, List.getElem?_eq_getElem (by omega)]; rfl
    rw [e]
    exact ho _ ((sortT_perm xs).mem_iff.1 (List.getElem_mem _))
  · rw [hc p, ← hl, cnt_at_list p (sortT xs), (sortT_perm xs).count_eq]
end Go.Proofs.YtjopcpoodhamcaaDoor
