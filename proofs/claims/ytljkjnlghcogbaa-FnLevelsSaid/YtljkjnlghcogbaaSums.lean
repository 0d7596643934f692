/-
  Plain laws on the sums over levels. Conditions: none.
-/
import Derived.Test.YtljkjnlghcogbaaPlain
namespace Go.Proofs.Ytljkjnlghcogbaa
set_option linter.unusedSimpArgs false
set_option linter.unusedVariables false
open Go.RowKit

theorem fin_check (P : Int → Int → Bool) (h : ((List.range 9).all fun a => (List.range 9).all fun b => P (a : Int) (b : Int)) = true) {s l : Int} (hv : tvB s l = true) : P s l = true := by
  have b := tvB_true hv
  rw [List.all_eq_true] at h
  have h1 := h s.toNat (by simp; omega)
  rw [List.all_eq_true] at h1
  have h2 := h1 l.toNat (by simp; omega)
  rw [show ((s.toNat : Nat) : Int) = s by omega, show ((l.toNat : Nat) : Int) = l by omega] at h2
  exact h2
theorem mul_bd (x y A B : Int) (x0 : 0 ≤ x) (x1 : x ≤ A) (y0 : -B ≤ y) (y1 : y ≤ B) (hB : 0 ≤ B) : -(A * B) ≤ x * y ∧ x * y ≤ A * B := by
  have h1 : x * y ≤ x * B := Int.mul_le_mul_of_nonneg_left y1 x0
  have h2 : x * B ≤ A * B := Int.mul_le_mul_of_nonneg_right x1 hB
  have h3 : x * -B ≤ x * y := Int.mul_le_mul_of_nonneg_left y0 x0
  have h4 : x * -B = -(x * B) := Int.mul_neg x B
  constructor <;> omega
/-- What the rounds of a loop over levels add up to. -/
def lsum (f : Int → Int) : List Int → Int
  | [] => 0
  | j :: r => f j + lsum f r
theorem lsum_append (f : Int → Int) : ∀ xs ys : List Int, lsum f (xs ++ ys) = lsum f xs + lsum f ys
  | [], ys => by simp [lsum]
  | x :: xs, ys => by simp only [List.cons_append, lsum, lsum_append f xs ys]; omega
theorem take_step {α : Type} {js : List α} {k : Nat} {j : α} (h : js[k]? = some j) : js.take (k + 1) = js.take k ++ [j] := by
  rw [List.take_add_one, h]; rfl
theorem lsum_step {f : Int → Int} {js : List Int} {k : Nat} {j : Int} (h : js[k]? = some j) : lsum f (js.take (k + 1)) = lsum f (js.take k) + f j := by
  rw [take_step h, lsum_append]; simp [lsum]
theorem lsum_bd {f : Int → Int} {B : Int} (hB : 0 ≤ B) : ∀ js : List Int, (∀ j ∈ js, -B ≤ f j ∧ f j ≤ B) → -((js.length : Int) * B) ≤ lsum f js ∧ lsum f js ≤ (js.length : Int) * B
  | [], _ => by simp [lsum]
  | x :: xs, h => by
    have ih := lsum_bd hB xs fun j hj => h j (List.mem_cons_of_mem _ hj)
    have h1 := h x List.mem_cons_self
    have e : (((x :: xs).length : Nat) : Int) * B = (xs.length : Int) * B + B := by rw [List.length_cons, Int.natCast_add, Int.add_mul]; simp
    simp only [lsum, e]
    omega
def fMean (s l : Int) (j : Int) : Int := (j + 1) * shiftI s l j
theorem mean_zero {s l : Int} (h : tvB s l = true) : lsum (fMean s l) (lvJs s l) = 0 := by
  have := fin_check (fun s l => lsum (fMean s l) (lvJs s l) == 0) (by decide +kernel) h
  simpa using this
theorem top_is {s l : Int} (h : tvB s l = true) : (lvJs s l).getLast?.map (shiftI s l) = some (4 * l * s) ∧ ∀ j ∈ lvJs s l, shiftI s l j ≤ 4 * l * s := by
  have := fin_check (fun s l => ((lvJs s l).getLast?.map (shiftI s l) == some (4 * l * s)) && (lvJs s l).all fun j => decide (shiftI s l j ≤ 4 * l * s)) (by decide +kernel) h
  simpa using this
theorem weight_is {s l : Int} (h : tvB s l = true) : lsum (fun j => j + 1) (lvJs s l) = (s + 1) * (2 * l + 1) := by
  have := fin_check (fun s l => lsum (fun j => j + 1) (lvJs s l) == (s + 1) * (2 * l + 1)) (by decide +kernel) h
  simpa using this
theorem fMean_bd {s l j : Int} (j0 : 0 ≤ j) (j1 : j ≤ 24) : -750000 ≤ fMean s l j ∧ fMean s l j ≤ 750000 := by
  have b := shiftI_bd s l j
  have := mul_bd (j + 1) (shiftI s l j) 25 30000 (by omega) (by omega) (by omega) (by omega) (by omega)
  unfold fMean
  omega
theorem msum_bd {s l : Int} (k : Nat) : -20000000 ≤ lsum (fMean s l) ((lvJs s l).take k) ∧ lsum (fMean s l) ((lvJs s l).take k) ≤ 20000000 := by
  have hl : ((lvJs s l).take k).length ≤ 25 := by
    have h1 := List.length_take_le' k (lvJs s l)
    have h2 : (lvJs s l).length ≤ 25 := by
      cases h : tvB s l
      · simp [lvJs, h]
      · obtain ⟨q1, q2, q3, q4⟩ := lvJs_yes h
        have := cMany_bd q1 q2
        rw [q4, steps_length]; omega
    omega
  have := lsum_bd (f := fMean s l) (B := 750000) (by omega) ((lvJs s l).take k) fun j hj => by
    obtain ⟨i, hi, e⟩ := List.getElem_of_mem (List.mem_of_mem_take hj)
    have := lvJs_get (s := s) (l := l) (k := i) (j := j) (by rw [List.getElem?_eq_getElem hi, e])
    exact fMean_bd (by omega) (by omega)
  omega
theorem jsum_bd {s l : Int} (k : Nat) : 0 ≤ lsum (fun j => j + 1) ((lvJs s l).take k) ∧ lsum (fun j => j + 1) ((lvJs s l).take k) ≤ 1000 := by
  have key : ∀ js : List Int, (∀ j ∈ js, 0 ≤ j ∧ j ≤ 24) → 0 ≤ lsum (fun j => j + 1) js ∧ lsum (fun j => j + 1) js ≤ 25 * (js.length : Int) := by
    intro js
    induction js with
    | nil => intro _; simp [lsum]
    | cons x xs ih =>
      intro h
      have i := ih fun j hj => h j (List.mem_cons_of_mem _ hj)
      have := h x List.mem_cons_self
      simp only [lsum, List.length_cons, Int.natCast_add]
      omega
  have hl : ((lvJs s l).take k).length ≤ 25 := by
    have h1 := List.length_take_le' k (lvJs s l)
    have h2 : (lvJs s l).length ≤ 25 := by
      cases h : tvB s l
      · simp [lvJs, h]
      · obtain ⟨q1, q2, q3, q4⟩ := lvJs_yes h
        have := cMany_bd q1 q2
        rw [q4, steps_length]; omega
    omega
  have := key ((lvJs s l).take k) fun j hj => by
    obtain ⟨i, hi, e⟩ := List.getElem_of_mem (List.mem_of_mem_take hj)
    have := lvJs_get (s := s) (l := l) (k := i) (j := j) (by rw [List.getElem?_eq_getElem hi, e])
    omega
  omega
theorem lv_at {s l j : Int} (h : lvB s l j = true) : tvB s l = true ∧ ∃ k : Nat, k < (lvJs s l).length ∧ j = absd (2 * l) s + 2 * (k : Int) := by
  obtain ⟨h1, h2⟩ := lvB_true h
  obtain ⟨q1, q2, q3, q4⟩ := lvJs_yes h1
  have b := tvB_true h1
  have t := triB_true h2
  refine ⟨h1, ((j - absd (2 * l) s) / 2).toNat, ?_, ?_⟩
  · rw [q4, steps_length]
    unfold absd cMany
    split <;> omega
  · unfold absd
    split <;> omega
theorem lv_of {s l : Int} {k : Nat} (hk : k < (lvJs s l).length) : (lvJs s l)[k]? = some (absd (2 * l) s + 2 * (k : Int)) := by
  have e : (lvJs s l)[k]? = some (lvJs s l)[k] := List.getElem?_eq_getElem hk
  rw [e, (lvJs_get e).2.1]
/-- The shift of the level before the k-th, 0 at the first. -/
def befS (s l : Int) (k : Nat) : Int := if k = 0 then 0 else shiftI s l (absd (2 * l) s + 2 * (k : Int) - 2)
theorem befS_bd (s l : Int) (k : Nat) : -30000 ≤ befS s l k ∧ befS s l k ≤ 30000 := by
  unfold befS; split
  · omega
  · exact shiftI_bd _ _ _
theorem befS_one (s l : Int) : befS s l 1 = shiftI s l (absd (2 * l) s) := by
  unfold befS; rw [if_neg (by omega)]; congr 1; omega
theorem befS_step {s l : Int} {k : Nat} (hk : k < (lvJs s l).length) (h0 : 0 < k) : befS s l (k + 1) = befS s l k + intervalI s l (absd (2 * l) s + 2 * (k : Int)) := by
  have a := (lvJs_get (lv_of hk)).2.2.2.2.1
  have b := (lvJs_get (lv_of (s := s) (l := l) (k := k - 1) (by omega))).2.2.2.2.1
  have e : absd (2 * l) s + 2 * ((k - 1 : Nat) : Int) = absd (2 * l) s + 2 * (k : Int) - 2 := by omega
  rw [e] at b
  unfold befS intervalI
  rw [if_neg (by omega), if_neg (by omega), if_pos ⟨a, b⟩]
  have e2 : absd (2 * l) s + 2 * ((k + 1 : Nat) : Int) - 2 = absd (2 * l) s + 2 * (k : Int) := by omega
  rw [e2]
  omega
theorem intervalI_bd (s l j : Int) : -60000 ≤ intervalI s l j ∧ intervalI s l j ≤ 60000 := by
  have a := shiftI_bd s l j
  have b := shiftI_bd s l (j - 2)
  unfold intervalI; split <;> omega
theorem interval_rule {s l j : Int} (h : intervalI s l j ≠ 0) : intervalI s l j = 4 * j := by
  unfold intervalI at *
  split
  · rename_i hh
    unfold shiftI
    rw [if_pos hh.1, if_pos hh.2]
    have : (j - 2) * (j - 2 + 2) = j * (j + 2) - 4 * j := by
      rw [Int.sub_mul, Int.sub_add_cancel, Int.mul_add]; omega
    rw [this]
    omega
  · rename_i hh
    rw [if_neg hh] at h
    exact absurd rfl h
theorem lvB_odd {s l j : Int} (h : lvB s l j = true) : lvB s l (j + 1) = false ∧ lvB s l (j - 1) = false := by
  obtain ⟨h1, h2⟩ := lvB_true h
  have t := triB_true h2
  constructor
  · rw [lvB, triB_no (by omega), Bool.and_false]
  · rw [lvB, triB_no (by omega), Bool.and_false]

end Go.Proofs.Ytljkjnlghcogbaa
