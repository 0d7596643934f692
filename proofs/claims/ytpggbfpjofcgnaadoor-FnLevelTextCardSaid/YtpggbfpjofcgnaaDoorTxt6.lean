/-
  The walks that read a level. Conditions: none.
-/
import Derived.Test.YtpggbfpjofcgnaaDoorTxt4
import Derived.Test.YtpggbfpjofcgnaaDoorLevels
namespace Go.Proofs.YtpggbfpjofcgnaaDoor
set_option linter.unusedSimpArgs false
set_option linter.unusedVariables false
open Go.RowKit

def preB (bs : ByteArray) : ByteArray := bs.extract 0 2
def restB (bs : ByteArray) : ByteArray := bs.extract 2 bs.size
theorem pre_rest (bs : ByteArray) (h : 2 ≤ bs.size) : preB bs ++ restB bs = bs := by
  unfold preB restB
  rw [ByteArray.extract_append_extract]
  rw [show min 0 2 = 0 from rfl, show max 2 bs.size = bs.size by omega]
  exact ByteArray.extract_zero_size
theorem pre_size (bs : ByteArray) (h : 2 ≤ bs.size) : (preB bs).size = 2 := by
  unfold preB
  rw [ByteArray.size_extract]
  omega
theorem app_left {a b c : ByteArray} : a ++ b = a ++ c ↔ b = c := by
  constructor
  · intro h
    have h2 := congrArg (fun x : ByteArray => x.data.toList) h
    simp at h2
    exact ByteArray.ext h2
  · rintro rfl; rfl
/-- The first level of the list whose angular momentum reads so. -/
def fndJ (js : List Int) (r : ByteArray) : Option Int := js.find? fun j => decide (txJ j = r)
theorem fndJ_cases (js : List Int) (r : ByteArray) : (∃ k0 j, js[k0]? = some j ∧ txJ j = r ∧ (∀ (i : Nat) (j' : Int), i < k0 → js[i]? = some j' → txJ j' ≠ r) ∧ fndJ js r = some j) ∨ ((∀ (i : Nat) (j' : Int), js[i]? = some j' → txJ j' ≠ r) ∧ fndJ js r = none) := by
  induction js with
  | nil => exact .inr ⟨fun i j' h => by simp at h, rfl⟩
  | cons x xs ih =>
    by_cases hx : txJ x = r
    · refine .inl ⟨0, x, rfl, hx, fun i _ hi => by omega, ?_⟩
      simp [fndJ, hx]
    · have e : fndJ (x :: xs) r = fndJ xs r := by simp [fndJ, hx]
      rcases ih with ⟨k0, j, h1, h2, h3, h4⟩ | ⟨h1, h2⟩
      · refine .inl ⟨k0 + 1, j, by simpa using h1, h2, fun i j' hi hj => ?_, e.trans h4⟩
        cases i with
        | zero => simp at hj; subst hj; exact hx
        | succ i => exact h3 i j' (by omega) (by simpa using hj)
      · refine .inr ⟨fun i j' hj => ?_, e.trans h2⟩
        cases i with
        | zero => simp at hj; subst hj; exact hx
        | succ i => exact h1 i j' (by simpa using hj)
def valL (s l j : Int) (b : Bool) : Value := .tuple #[.agg #[.int .i64 s, .int .i64 l, .int .i64 j], .bool b]
def frL (bs : ByteArray) : Value :=
  if 3 ≤ bs.size ∧ okB (preB bs) = true then (match fndJ (lvJs (chS (preB bs)) (chK (preB bs))) (restB bs) with | some j => valL (chS (preB bs)) (chK (preB bs)) j true | none => valL 0 0 0 false)
  else valL 0 0 0 false
theorem lvJs_pos {s l : Int} (h : tvB s l = true) : 0 < (lvJs s l).length ∧ (lvJs s l).length ≤ 25 := by
  obtain ⟨q1, q2, q3, q4⟩ := lvJs_yes h
  obtain ⟨m1, m2, m3, m4⟩ := cMany_bd q1 q2
  rw [q4, steps_length]
  omega
theorem lvJs_txt {s l : Int} {k : Nat} {j : Int} (h : (lvJs s l)[k]? = some j) : 0 ≤ j ∧ j ≤ 24 ∧ lvB s l j = true := by
  obtain ⟨-, -, b0, b1, b2, -⟩ := lvJs_get h
  exact ⟨b0, b1, b2⟩
end Go.Proofs.YtpggbfpjofcgnaaDoor
