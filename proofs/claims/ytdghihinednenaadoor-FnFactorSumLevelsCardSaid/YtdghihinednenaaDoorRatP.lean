/-
  Plain laws on rational numbers in lowest terms. Conditions: none.
-/
import Derived.Test.YtdghihinednenaaDoorPlain
namespace Go.Proofs.YtdghihinednenaaDoor
set_option linter.unusedSimpArgs false
set_option linter.unusedVariables false
open Go.RowKit

/-- Is n/d a valid rational? -/
def ratV (n d : Int) : Bool := decide (1 ≤ d ∧ d ≤ 1000000000 ∧ -1000000000 ≤ n ∧ n ≤ 1000000000 ∧ Int.gcd n d = 1)
/-- What RatOf gives for a denominator above 0. -/
def ratN (n d : Int) : Int := n / (Int.gcd n d : Int)
def ratD (n d : Int) : Int := d / (Int.gcd n d : Int)
def ratOk (n d : Int) : Bool := ratV (ratN n d) (ratD n d)
def ratR (n d : Int) : Int × Int × Bool := if ratOk n d = true then (ratN n d, ratD n d, true) else (0, 0, false)
def ratMul (a b c d : Int) : Int × Int × Bool := if ratV a b = true ∧ ratV c d = true then ratR (a * c) (b * d) else (0, 0, false)
def ratAdd (a b c d : Int) : Int × Int × Bool := if ratV a b = true ∧ ratV c d = true then ratR (a * d + c * b) (b * d) else (0, 0, false)
/-- The value of a function that returns a rational and a bool. -/
def ratT (r : Int × Int × Bool) : Value := .tuple #[.agg #[.int .i64 r.1, .int .i64 r.2.1], .bool r.2.2]

theorem ratV_true {n d : Int} (h : ratV n d = true) : 1 ≤ d ∧ d ≤ 1000000000 ∧ -1000000000 ≤ n ∧ n ≤ 1000000000 ∧ Int.gcd n d = 1 := by simpa [ratV] using h
theorem gcd_step (x y : Nat) : Nat.gcd y (x % y) = Nat.gcd x y := by
  rw [Nat.gcd_comm y (x % y), ← Nat.gcd_rec, Nat.gcd_comm]
theorem gcd_pos {n d : Int} (h : 0 < d) : 0 < Int.gcd n d := Int.gcd_pos_of_ne_zero_right n (by omega)
theorem ratN_tdiv (n d : Int) : n.tdiv (Int.gcd n d : Int) = ratN n d := by
  unfold ratN
  exact Int.tdiv_eq_ediv_of_dvd (Int.gcd_dvd_left ..)
theorem ratD_tdiv (n d : Int) : d.tdiv (Int.gcd n d : Int) = ratD n d := by
  unfold ratD
  exact Int.tdiv_eq_ediv_of_dvd (Int.gcd_dvd_right ..)
theorem ratN_bd (n d M : Int) (h0 : -M ≤ n) (h1 : n ≤ M) : -M ≤ ratN n d ∧ ratN n d ≤ M := by
  have := Int.natAbs_ediv_le_natAbs n (Int.gcd n d : Int)
  unfold ratN
  omega
theorem ratD_bd (n d M : Int) (h0 : 0 < d) (h1 : d ≤ M) : 0 < ratD n d ∧ ratD n d ≤ M := by
  have := Int.natAbs_ediv_le_natAbs d (Int.gcd n d : Int)
  have g := gcd_pos (n := n) h0
  have := Int.ediv_pos_of_pos_of_dvd h0 (Int.natCast_nonneg _) (Int.gcd_dvd_right n d)
  unfold ratD
  omega
theorem mul_bd {a b A B : Int} (h0 : -A ≤ a) (h1 : a ≤ A) (h2 : -B ≤ b) (h3 : b ≤ B) : -(A * B) ≤ a * b ∧ a * b ≤ A * B := by
  have ha : a.natAbs ≤ A.natAbs := by omega
  have hb : b.natAbs ≤ B.natAbs := by omega
  have h := Nat.mul_le_mul ha hb
  rw [← Int.natAbs_mul, ← Int.natAbs_mul] at h
  have hp : 0 ≤ A * B := Int.mul_nonneg (by omega) (by omega)
  omega
theorem mul_pos' {a b A B : Int} (h0 : 1 ≤ a) (h1 : a ≤ A) (h2 : 1 ≤ b) (h3 : b ≤ B) : 0 < a * b ∧ a * b ≤ A * B :=
  ⟨Int.mul_pos (by omega) (by omega), Int.mul_le_mul h1 h3 (by omega) (by omega)⟩
end Go.Proofs.YtdghihinednenaaDoor
