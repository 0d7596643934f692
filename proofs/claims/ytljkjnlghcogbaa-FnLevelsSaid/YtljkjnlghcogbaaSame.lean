/-
  The walks of the laws' comparison of lists of levels. Conditions: none.
-/
import Derived.Test.YtljkjnlghcogbaaLevels
import Derived.Deep.QuietTactic
import Derived.BigQuiet
namespace Go.Proofs.Ytljkjnlghcogbaa
set_option linter.unusedSimpArgs false
set_option linter.unusedVariables false
open Go.RowKit

/-- Block g holds the levels of the term (s, l) with the angular momenta js. -/
def LvAt (w : World) (g : Nat) (s l : Int) (js : List Int) : Prop :=
  ∀ (k : Nat) (j : Int), js[k]? = some j → w.cell? ⟨g, k * 3, none⟩ = some (.int .i64 s) ∧ w.cell? ⟨g, k * 3 + 1, none⟩ = some (.int .i64 l) ∧ w.cell? ⟨g, k * 3 + 2, none⟩ = some (.int .i64 j)
theorem LvAt.keep {w w' : World} {g : Nat} {s l : Int} {js : List Int} (h : LvAt w g s l js) (hk : ∀ o, w'.cell? ⟨g, o, none⟩ = w.cell? ⟨g, o, none⟩) : LvAt w' g s l js :=
  fun k j hj => by obtain ⟨a, b, c⟩ := h k j hj; exact ⟨(hk _).trans a, (hk _).trans b, (hk _).trans c⟩
theorem lvJs_short (s l : Int) : (lvJs s l).length ≤ 25 := by
  cases h : tvB s l
  · simp [lvJs, h]
  · obtain ⟨q1, q2, q3, q4⟩ := lvJs_yes h
    have := cMany_bd q1 q2
    rw [q4, steps_length]; omega

set_option maxHeartbeats 400000 in
theorem sameLevels_nil (a b : Option Addr) (c d : Nat) (w : World) :
    Calls Try.prog 7 #[.slice a 0 c, .slice b 0 d] w fun e w' => e = .returned (.bool true) ∧ w = w' := by
  go_enter Try.func7, Try.ntmps7
  go_wp2
  refine wp_loop_rounds 1 ?_
  rw [rounds_succ]
  go_wp2
  go_ret
  exact ⟨rfl, rfl⟩
set_option maxHeartbeats 400000 in
theorem sameLevels_some (g1 g2 c1 c2 : Nat) (s l : Int) (js : List Int) (w : World) (hs : js.length ≤ 25) (h1 : LvAt w g1 s l js) (h2 : LvAt w g2 s l js) :
    Calls Try.prog 7 #[.slice (some ⟨g1, 0, none⟩) js.length c1, .slice (some ⟨g2, 0, none⟩) js.length c2] w fun e w' => e = .returned (.bool true) ∧ ∃ m, w' = w.drewN m := by
  have H1 := Lib.hid h1
  have H2 := Lib.hid h2
  clear h1 h2
  go_enter Try.func7, Try.ntmps7
  go_wp2
  go_loopw [5] (fun i wr => ∃ k : Nat, k ≤ js.length ∧ i = .int .i64 k ∧ ∃ m, wr = w.drewN m) (fun i _ => js.length - (intOf i).toNat)
  case atStart => exact ⟨0, Nat.zero_le _, rfl, 0, rfl⟩
  case round =>
    obtain ⟨k, hk, rfl, m, rfl⟩ := hrel
    by_cases hlt : k < js.length
    · obtain ⟨j, hj⟩ : ∃ j, js[k]? = some j := ⟨_, List.getElem?_eq_getElem hlt⟩
      obtain ⟨a0, a1, a2⟩ := H1.out k j hj
      obtain ⟨b0, b1, b2⟩ := H2.out k j hj
      clear hj
      have i0 : (0 : Int) ≤ (k : Int) := Int.natCast_nonneg _
      have i1 : (k : Int) < (js.length : Int) := by omega
      go_wp2
      go_quiet (fail)
      go_wp2
      exact ⟨⟨k + 1, by omega, by go_num, m + nq, rfl⟩, by simp [intOf]; omega⟩
    · obtain rfl : k = js.length := by omega
      go_wp2
      go_ret
      exact ⟨rfl, m, rfl⟩
end Go.Proofs.Ytljkjnlghcogbaa
