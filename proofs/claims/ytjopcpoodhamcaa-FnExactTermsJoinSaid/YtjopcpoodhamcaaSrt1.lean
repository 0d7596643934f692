/-
  The walks of cmp.Compare, cmp.Or and impl's compareTerms. Conditions: none.
-/
import Derived.Test.YtjopcpoodhamcaaValid
import Derived.Test.YtjopcpoodhamcaaSrtP
import Derived.BigQuiet
import Derived.Deep.QuietTactic
import Derived.Deep.RegionWith
import Derived.Deep.RegionHeld3
namespace Go.Proofs.Ytjopcpoodhamcaa
set_option linter.unusedSimpArgs false
set_option linter.unusedVariables false
open Go.RowKit

def cmpC (x y : Int) : Int := if x < y then -1 else if y < x then 1 else 0
def orC (a b : Int) : Int := if a = 0 then b else a
def cmpV (a b : Tm) : Int := orC (cmpC b.1 a.1) (cmpC b.2 a.2)
theorem cmpV_lt {a b : Tm} (ha : okT a) (hb : okT b) : cmpV a b < 0 ↔ key a < key b := by
  unfold okT at *
  unfold cmpV orC cmpC key
  by_cases h1 : b.1 < a.1
  · rw [if_pos h1, if_neg (by omega)]; omega
  · rw [if_neg h1]
    by_cases h2 : a.1 < b.1
    · rw [if_pos h2, if_neg (by omega)]; omega
    · rw [if_neg h2, if_pos rfl]
      by_cases h3 : b.2 < a.2
      · rw [if_pos h3]; omega
      · rw [if_neg h3]
        by_cases h4 : a.2 < b.2
        · rw [if_pos h4]; omega
        · rw [if_neg h4]; omega
theorem cmpV_bd (a b : Tm) : -1 ≤ cmpV a b ∧ cmpV a b ≤ 1 := by
  unfold cmpV orC cmpC
  split <;> split <;> (try split) <;> omega
theorem isNaN_any (x : Int) (w : World) :
    Calls Try.prog 34 #[.int .i64 x] w fun e w' => e = .returned (.bool false) ∧ w' = w := by
  go_enter Try.func34, Try.ntmps34
  go_wp2
  go_ret
  exact ⟨rfl, rfl⟩
set_option maxHeartbeats 1000000 in
theorem compare_any (x y : Int) (w : World) :
    Calls Try.prog 28 #[.int .i64 x, .int .i64 y] w fun e w' => e = .returned (.int .i64 (cmpC x y)) ∧ w' = w := by
  have key : ∀ c : Int, cmpC x y = c → Calls Try.prog 28 #[.int .i64 x, .int .i64 y] w fun e w' => e = .returned (.int .i64 c) ∧ w' = w := by
    intro c hc
    unfold cmpC at hc
    by_cases h1 : x < y
    · rw [if_pos h1] at hc
      subst hc
      go_enter Try.func28, Try.ntmps28
      go_wp2_with (go_at_call 34; refine (isNaN_any _ _).mono ?_; rintro e w' ⟨rfl, rfl⟩)
      go_ret
      exact ⟨rfl, rfl⟩
    · rw [if_neg h1] at hc
      by_cases h2 : y < x
      · rw [if_pos h2] at hc
        subst hc
        go_enter Try.func28, Try.ntmps28
        go_wp2_with (go_at_call 34; refine (isNaN_any _ _).mono ?_; rintro e w' ⟨rfl, rfl⟩)
        go_ret
        exact ⟨rfl, rfl⟩
      · rw [if_neg h2] at hc
        subst hc
        go_enter Try.func28, Try.ntmps28
        go_wp2_with (go_at_call 34; refine (isNaN_any _ _).mono ?_; rintro e w' ⟨rfl, rfl⟩)
        go_ret
        exact ⟨rfl, rfl⟩
  exact key _ rfl
set_option maxHeartbeats 1000000 in
theorem or_any (g : Nat) (a b : Int) (w : World) (h0 : w.cell? ⟨g, 0, none⟩ = some (.int .i64 a)) (h1 : w.cell? ⟨g, 1, none⟩ = some (.int .i64 b)) :
    Calls Try.prog 27 #[.slice (some ⟨g, 0, none⟩) 2 2] w fun e w' => e = .returned (.int .i64 (orC a b)) ∧ w' = w := by
  by_cases ha : a = 0
  · subst ha
    have e0 : orC 0 b = b := by unfold orC; rw [if_pos rfl]
    rw [e0]
    by_cases hb : b = 0
    · subst hb
      go_enter Try.func27, Try.ntmps27
      go_wp2
      refine wp_loop_rounds 3 ?_
      rw [rounds_succ]
      go_wp2
      rw [rounds_succ]
      go_wp2
      rw [rounds_succ]
      go_wp2
      go_ret
      exact ⟨rfl, rfl⟩
    · have hb' : (b == 0) = false := by rw [beq_eq_false_iff_ne]; exact hb
      go_enter Try.func27, Try.ntmps27
      go_wp2
      refine wp_loop_rounds 2 ?_
      rw [rounds_succ]
      go_wp2
      rw [rounds_succ]
      go_wp2
      go_ret
      exact ⟨rfl, rfl⟩
  · have e0 : orC a b = a := by unfold orC; rw [if_neg ha]
    rw [e0]
    have ha' : (a == 0) = false := by rw [beq_eq_false_iff_ne]; exact ha
    go_enter Try.func27, Try.ntmps27
    go_wp2
    refine wp_loop_rounds 1 ?_
    rw [rounds_succ]
    go_wp2
    go_ret
    exact ⟨rfl, rfl⟩
set_option maxRecDepth 20000 in
set_option maxHeartbeats 600000 in
theorem cmpT_any (a b : Tm) (w : World) :
    Calls Try.prog 18 #[.agg #[.int .i64 a.1, .int .i64 a.2], .agg #[.int .i64 b.1, .int .i64 b.2]] w fun e w' => e = .returned (.int .i64 (cmpV a b)) ∧ Below w.heap.size w w' := by
  have hor := or_any (w.heap.size + 1 + 1) (cmpC b.1 a.1) (cmpC b.2 a.2) (((w.alloc (.cells #[.int .i64 a.1, .int .i64 a.2] 34)).alloc (.cells #[.int .i64 b.1, .int .i64 b.2] 34)).alloc (.cells #[.int .i64 (cmpC b.1 a.1), .int .i64 (cmpC b.2 a.2)] 3)).drew (by (simp (disch := first | omega | (simp; done) | (simp; omega)) [go_sem, *]; done)) (by (simp (disch := first | omega | (simp; done) | (simp; omega)) [go_sem, *]; done))
  rw [show orC (cmpC b.1 a.1) (cmpC b.2 a.2) = cmpV a b from rfl] at hor
  have HO := Lib.hid hor
  clear hor
  go_enter Try.func18, Try.ntmps18
  go_wp2
  go_region_held3 (fun w' => w'.cell? ⟨w.heap.size, 0, none⟩ = some (.int .i64 a.1) ∧ w'.cell? ⟨w.heap.size, 1, none⟩ = some (.int .i64 a.2) ∧ w'.cell? ⟨w.heap.size + 1, 0, none⟩ = some (.int .i64 b.1) ∧ w'.cell? ⟨w.heap.size + 1, 1, none⟩ = some (.int .i64 b.2) ∧ w.heap.size + 2 ≤ w'.heap.size ∧ Below w.heap.size w w')
    (first | (simp (disch := first | omega | (simp; done) | (simp; omega)) [go_sem, *]; done) | ((repeat' first | (with_reducible exact Below.refl _ _) | (with_reducible assumption) | (with_reducible refine below_drewN ?_ _) | (with_reducible refine Below.drew ?_) | (with_reducible refine Below.alloc ?_ ?_ _) | (with_reducible refine Below.setCell ?_ ?_ _) | (with_reducible refine Below.trans ?_ (Below.mono (by assumption) ?_)) | first | omega | (simp only [World.size_alloc, World.size_setCell, World.size_drew, size_drewN]; omega) | (simp; done) | (simp; omega) | (simp only [World.size_alloc, World.size_setCell, World.size_drew, size_drewN] at *; omega) | (simp at *; omega)); done) | ((try go_split_ands); (refine ⟨?_, ?_, ?_, ?_, ?_, ?_⟩ <;> first | omega | (simp only [World.size_alloc, World.size_setCell, World.size_drew, size_drewN]; omega) | (simp (disch := first | omega | (simp; done) | (simp; omega)) [go_sem, *]; done) | ((repeat' first | (with_reducible exact Below.refl _ _) | (with_reducible assumption) | (with_reducible refine below_drewN ?_ _) | (with_reducible refine Below.drew ?_) | (with_reducible refine Below.alloc ?_ ?_ _) | (with_reducible refine Below.setCell ?_ ?_ _) | (with_reducible refine Below.trans ?_ (Below.mono (by assumption) ?_)) | first | omega | (simp only [World.size_alloc, World.size_setCell, World.size_drew, size_drewN]; omega) | (simp; done) | (simp; omega) | (simp only [World.size_alloc, World.size_setCell, World.size_drew, size_drewN] at *; omega) | (simp at *; omega)); done))))
    (first
      | (go_at_call 28; refine (compare_any _ _ _).mono ?_; rintro e w' ⟨rfl, rfl⟩)
      | (go_at_call 27; refine (HO.out).mono ?_; rintro e w' ⟨rfl, rfl⟩))
  go_wp2
  go_ret
  exact ⟨rfl, by (repeat' first | (with_reducible exact Below.refl _ _) | (with_reducible assumption) | (with_reducible refine below_drewN ?_ _) | (with_reducible refine Below.drew ?_) | (with_reducible refine Below.alloc ?_ ?_ _) | (with_reducible refine Below.setCell ?_ ?_ _) | (with_reducible refine Below.trans ?_ (Below.mono (by assumption) ?_)) | first | omega | (simp only [World.size_alloc, World.size_setCell, World.size_drew, size_drewN]; omega) | (simp; done) | (simp; omega) | (simp only [World.size_alloc, World.size_setCell, World.size_drew, size_drewN] at *; omega) | (simp at *; omega))⟩
end Go.Proofs.Ytjopcpoodhamcaa
