/-
  The walks of spec.l12Ways, l12Ok, MicroCount. Conditions: none.
-/
import Derived.Test.YtlbmdicfoiehgaaDoorValid
import Derived.Handy
import Derived.Deep.QuietTactic
import Derived.BigQuiet
namespace Go.Proofs.YtlbmdicfoiehgaaDoor
set_option linter.unusedSimpArgs false
set_option linter.unusedVariables false
open Go.RowKit

def ways : Nat → Int → Int → Int → Int → Int
  | 0, _, n, o, s => if n = 0 ∧ o = 0 ∧ s = 0 then 1 else 0
  | k + 1, m, n, o, s => if n < 0 ∨ 2 * ((k : Int) + 1) < n then 0 else ways k (m + 1) n o s + ways k (m + 1) (n - 1) (o - m) (s - 1) + ways k (m + 1) (n - 1) (o - m) (s + 1) + ways k (m + 1) (n - 2) (o - 2 * m) s
theorem ways_bd : ∀ (k : Nat) (m n o s : Int), 0 ≤ ways k m n o s ∧ ways k m n o s ≤ ((4 ^ k : Nat) : Int)
  | 0, m, n, o, s => by unfold ways; split <;> simp
  | k + 1, m, n, o, s => by
    unfold ways
    have e : 4 ^ (k + 1) = 4 * 4 ^ k := by rw [Nat.pow_succ]; omega
    split
    · rw [e]; omega
    · have a := ways_bd k (m + 1) n o s
      have b := ways_bd k (m + 1) (n - 1) (o - m) (s - 1)
      have c := ways_bd k (m + 1) (n - 1) (o - m) (s + 1)
      have d := ways_bd k (m + 1) (n - 2) (o - 2 * m) s
      rw [e]; omega
theorem ways_le (k : Nat) (hk : k ≤ 5) (m n o s : Int) : 0 ≤ ways k m n o s ∧ ways k m n o s ≤ 1024 := by
  have h := ways_bd k m n o s
  have : (4 : Nat) ^ k ≤ 4 ^ 5 := Nat.pow_le_pow_right (by omega) hk
  omega
set_option maxRecDepth 20000 in
set_option maxHeartbeats 4000000 in
theorem ways_any : ∀ (k : Nat) (l m n o s : Int) (w : World), k ≤ 5 → 0 ≤ l → l ≤ 2 → l - m + 1 = (k : Int) → -2000 + 10 * (k : Int) ≤ n → n ≤ 2000 - 10 * (k : Int) → -2000 + 10 * (k : Int) ≤ o → o ≤ 2000 - 10 * (k : Int) → -2000 + 10 * (k : Int) ≤ s → s ≤ 2000 - 10 * (k : Int) →
    Calls Tryd.prog 44 #[.int .i64 l, .int .i64 m, .int .i64 n, .int .i64 o, .int .i64 s] w fun e w' => e = .returned (.int .i64 (ways k m n o s)) ∧ w = w'
  | 0, l, m, n, o, s, w, hk, h0, h2, hm, n0, n1, o0, o1, s0, s1 => by
    have hlm : l < m := by omega
    unfold ways
    by_cases hn : n = 0
    · subst hn
      by_cases ho : o = 0
      · subst ho
        by_cases hs : s = 0
        · subst hs
          go_enter Tryd.func44, Tryd.ntmps44
          go_wp2
          go_ret
          exact ⟨rfl, rfl⟩
        · have hs' : (s == 0) = false := by rw [beq_eq_false_iff_ne]; exact hs
          go_enter Tryd.func44, Tryd.ntmps44
          go_wp2
          go_ret
          exact ⟨ret_int (by simp [hs]), rfl⟩
      · have ho' : (o == 0) = false := by rw [beq_eq_false_iff_ne]; exact ho
        go_enter Tryd.func44, Tryd.ntmps44
        go_wp2
        go_ret
        exact ⟨ret_int (by simp [ho]), rfl⟩
    · have hn' : (n == 0) = false := by rw [beq_eq_false_iff_ne]; exact hn
      go_enter Tryd.func44, Tryd.ntmps44
      go_wp2
      go_ret
      exact ⟨ret_int (by simp [hn]), rfl⟩
  | k + 1, l, m, n, o, s, w, hk, h0, h2, hm, n0, n1, o0, o1, s0, s1 => by
    have hlm : m ≤ l := by omega
    have c1 := ways_any k l (m + 1) n o s
    have c2 := ways_any k l (m + 1) (n - 1) (o - m) (s - 1)
    have c3 := ways_any k l (m + 1) (n - 1) (o - m) (s + 1)
    have c4 := ways_any k l (m + 1) (n - 2) (o - 2 * m) s
    have b1 := ways_le k (by omega) (m + 1) n o s
    have b2 := ways_le k (by omega) (m + 1) (n - 1) (o - m) (s - 1)
    have b3 := ways_le k (by omega) (m + 1) (n - 1) (o - m) (s + 1)
    have b4 := ways_le k (by omega) (m + 1) (n - 2) (o - 2 * m) s
    have C1 := Lib.hid c1
    have C2 := Lib.hid c2
    have C3 := Lib.hid c3
    have C4 := Lib.hid c4
    clear c1 c2 c3 c4
    unfold ways
    by_cases hneg : n < 0
    · rw [if_pos (Or.inl hneg)]
      go_enter Tryd.func44, Tryd.ntmps44
      go_wp2
      go_ret
      exact ⟨rfl, rfl⟩
    · by_cases hbig : 2 * (l - m + 1) < n
      · rw [if_pos (Or.inr (by omega))]
        go_enter Tryd.func44, Tryd.ntmps44
        go_wp2
        go_ret
        exact ⟨rfl, rfl⟩
      · rw [if_neg (by omega)]
        go_enter Tryd.func44, Tryd.ntmps44
        go_wp2_with fail
        refine (C1.out _ (by omega) h0 h2 (by omega) (by omega) (by omega) (by omega) (by omega) (by omega) (by omega)).mono ?_
        rintro e w1 ⟨rfl, rfl⟩
        go_wp2_with fail
        refine (C2.out _ (by omega) h0 h2 (by omega) (by omega) (by omega) (by omega) (by omega) (by omega) (by omega)).mono ?_
        rintro e w1 ⟨rfl, rfl⟩
        go_wp2_with fail
        refine (C3.out _ (by omega) h0 h2 (by omega) (by omega) (by omega) (by omega) (by omega) (by omega) (by omega)).mono ?_
        rintro e w1 ⟨rfl, rfl⟩
        go_wp2_with fail
        refine (C4.out _ (by omega) h0 h2 (by omega) (by omega) (by omega) (by omega) (by omega) (by omega) (by omega)).mono ?_
        rintro e w1 ⟨rfl, rfl⟩
        go_wp2
        go_ret
        exact ⟨rfl, rfl⟩
end Go.Proofs.YtlbmdicfoiehgaaDoor
