/-
  The walks of the laws' own functions on lists of terms: they compare, mark, count. Conditions: none.
-/
import Derived.Test.YtlbmdicfoiehgaaDoorTlit
import Derived.Test.YtlbmdicfoiehgaaDoorTms
import Derived.Deep.QuietTactic
import Derived.BigQuiet
import Derived.Deep.RegionHeld3
namespace Go.Proofs.YtlbmdicfoiehgaaDoor
set_option linter.unusedSimpArgs false
set_option linter.unusedVariables false
open Go.RowKit

/-- Block g holds the terms xs. -/
def TmAt (w : World) (g : Nat) (xs : List (Int × Int)) : Prop :=
  ∀ (k : Nat) (p : Int × Int), xs[k]? = some p → w.cell? ⟨g, k * 2, none⟩ = some (.int .i64 p.1) ∧ w.cell? ⟨g, k * 2 + 1, none⟩ = some (.int .i64 p.2)
theorem TmAt.keep {w w' : World} {g : Nat} {xs : List (Int × Int)} (h : TmAt w g xs) (hk : ∀ o, w'.cell? ⟨g, o, none⟩ = w.cell? ⟨g, o, none⟩) : TmAt w' g xs :=
  fun k p hp => by obtain ⟨a, b⟩ := h k p hp; exact ⟨(hk _).trans a, (hk _).trans b⟩
theorem TmAt.below {B : Nat} {w w' : World} {g : Nat} {xs : List (Int × Int)} (h : TmAt w g xs) (hb : Below B w w') (hg : g < B) : TmAt w' g xs := h.keep fun o => hb.cell (p := ⟨g, o, none⟩) hg
theorem tmAt_of {w : World} {base : Nat} {v : Value} {xs : List (Int × Int)} (h : w.ownsRow base 24 2 v xs.length (vS xs)) (h0 : 0 < xs.length) :
    ∃ g c, v = .slice (some ⟨g, 0, none⟩) xs.length c ∧ base ≤ g ∧ g < w.heap.size ∧ TmAt w g xs ∧ (∀ i, i < xs.length * 2 → ∃ u, w.cell? ⟨g, i, none⟩ = some u) ∧ ∀ i, w.frozen? ⟨g, i, none⟩ = false := by
  obtain ⟨g, cp, rfl, hg1, hg2, hc, hf⟩ := row_form h h0
  have key : TmAt w g xs := fun k p hp => by
    obtain ⟨x0, x1⟩ := vS_get xs k p hp
    have hk : k < xs.length := (List.getElem?_eq_some_iff.1 hp).1
    exact ⟨(hc (k * 2) (by omega)).trans x0, (hc (k * 2 + 1) (by omega)).trans x1⟩
  refine ⟨g, cp, rfl, hg1, hg2, key, fun i hi => ?_, hf⟩
  obtain ⟨p, hp⟩ : ∃ p, xs[i / 2]? = some p := ⟨_, List.getElem?_eq_getElem (by omega)⟩
  obtain ⟨a, b⟩ := key (i / 2) p hp
  rcases Nat.mod_two_eq_zero_or_one i with e | e
  · exact ⟨_, by rw [show i = i / 2 * 2 by omega]; exact a⟩
  · exact ⟨_, by rw [show i = i / 2 * 2 + 1 by omega]; exact b⟩

set_option maxHeartbeats 400000 in
theorem sameTerms_nil (a b : Option Addr) (c d : Nat) (w : World) :
    Calls Tryd.prog 23 #[.slice a 0 c, .slice b 0 d] w fun e w' => e = .returned (.bool true) ∧ w = w' := by
  go_enter Tryd.func23, Tryd.ntmps23
  go_wp2
  refine wp_loop_rounds 1 ?_
  rw [rounds_succ]
  go_wp2
  go_ret
  exact ⟨rfl, rfl⟩
set_option maxHeartbeats 400000 in
theorem sameTerms_some (g1 g2 c1 c2 : Nat) (xs : List (Int × Int)) (w : World) (hs : xs.length ≤ 1000) (h1 : TmAt w g1 xs) (h2 : TmAt w g2 xs) :
    Calls Tryd.prog 23 #[.slice (some ⟨g1, 0, none⟩) xs.length c1, .slice (some ⟨g2, 0, none⟩) xs.length c2] w fun e w' => e = .returned (.bool true) ∧ ∃ m, w' = w.drewN m := by
  have H1 := Lib.hid h1
  have H2 := Lib.hid h2
  clear h1 h2
  go_enter Tryd.func23, Tryd.ntmps23
  go_wp2
  go_loopw [5] (fun i wr => ∃ k : Nat, k ≤ xs.length ∧ i = .int .i64 k ∧ ∃ m, wr = w.drewN m) (fun i _ => xs.length - (intOf i).toNat)
  case atStart => exact ⟨0, Nat.zero_le _, rfl, 0, rfl⟩
  case round =>
    obtain ⟨k, hk, rfl, m, rfl⟩ := hrel
    by_cases hlt : k < xs.length
    · obtain ⟨p, hp⟩ : ∃ p, xs[k]? = some p := ⟨_, List.getElem?_eq_getElem hlt⟩
      obtain ⟨a0, a1⟩ := H1.out k p hp
      obtain ⟨b0, b1⟩ := H2.out k p hp
      clear hp
      have i0 : (0 : Int) ≤ (k : Int) := Int.natCast_nonneg _
      have i1 : (k : Int) < (xs.length : Int) := by omega
      go_wp2
      go_quiet (fail)
      go_wp2
      exact ⟨⟨k + 1, by omega, by go_num, m + nq, rfl⟩, by simp [intOf]; omega⟩
    · obtain rfl : k = xs.length := by omega
      go_wp2
      go_ret
      exact ⟨rfl, m, rfl⟩
/-- Two rows of the same list. -/
theorem sameTerms_any (v1 v2 : Value) (b1 b2 : Nat) (xs : List (Int × Int)) (w : World) (hs : xs.length ≤ 1000) (h1 : w.ownsRow b1 24 2 v1 xs.length (vS xs)) (h2 : w.ownsRow b2 24 2 v2 xs.length (vS xs)) :
    Calls Tryd.prog 23 #[v1, v2] w fun e w' => e = .returned (.bool true) ∧ ∃ m, w' = w.drewN m := by
  rcases Nat.eq_zero_or_pos xs.length with h0 | h0
  · obtain ⟨a, c, rfl⟩ := row_len h1
    obtain ⟨a', c', rfl⟩ := row_len h2
    rw [h0]
    refine (sameTerms_nil _ _ _ _ _).mono ?_
    rintro e w' ⟨rfl, rfl⟩
    exact ⟨rfl, 0, rfl⟩
  · obtain ⟨g1, c1, rfl, -, -, t1, -⟩ := tmAt_of h1 h0
    obtain ⟨g2, c2, rfl, -, -, t2, -⟩ := tmAt_of h2 h0
    exact sameTerms_some g1 g2 c1 c2 xs w hs t1 t2

def many (p : Int × Int) (T : List (Int × Int)) (k : Nat) : Nat := cntT p (T.take k)
theorem many_bd (p : Int × Int) (T : List (Int × Int)) (k : Nat) : many p T k ≤ k := by
  have := List.countP_le_length (p := fun q : Int × Int => decide (q.1 = p.1) && decide (q.2 = p.2)) (l := T.take k)
  have := List.length_take_le k T
  unfold many cntT; omega
theorem many_step {p q : Int × Int} {T : List (Int × Int)} {k : Nat} (h : T[k]? = some q) : many p T (k + 1) = many p T k + (if (decide (q.1 = p.1) && decide (q.2 = p.2)) = true then 1 else 0) := by
  unfold many cntT
  rw [List.take_add_one, h, List.countP_append]
  simp
theorem many_all (p : Int × Int) (T : List (Int × Int)) : many p T T.length = cntT p T := by unfold many; rw [List.take_length]
set_option maxHeartbeats 400000 in
theorem termsMany_some (g c : Nat) (p : Int × Int) (xs : List (Int × Int)) (w : World) (hs : xs.length ≤ 1000) (hg : g < w.heap.size) (h1 : TmAt w g xs) :
    Calls Tryd.prog 24 #[.slice (some ⟨g, 0, none⟩) xs.length c, .agg #[.int .i64 p.1, .int .i64 p.2]] w fun e w' => e = .returned (.int .i64 (cntT p xs)) ∧ Below w.heap.size w w' := by
  have H1 := Lib.hid h1
  have HA := Lib.hid (many_all p xs)
  clear h1
  go_enter Tryd.func24, Tryd.ntmps24
  go_wp2
  go_loopw [5, 6] (fun n i wr => ∃ k : Nat, k ≤ xs.length ∧ i = .int .i64 k ∧ n = .int .i64 (many p xs k) ∧ ∃ m, wr = (w.alloc (.cells #[.int .i64 p.1, .int .i64 p.2] 24)).drewN m) (fun _ i _ => xs.length - (intOf i).toNat)
  case atStart => exact ⟨0, Nat.zero_le _, rfl, rfl, 0, rfl⟩
  case round =>
    obtain ⟨k, hk, rfl, rfl, m, rfl⟩ := hrel
    have mb := many_bd p xs k
    by_cases hlt : k < xs.length
    · obtain ⟨q, hq⟩ : ∃ q, xs[k]? = some q := ⟨_, List.getElem?_eq_getElem hlt⟩
      obtain ⟨a0, a1⟩ := H1.out k q hq
      have S := Lib.hid (many_step (p := p) hq)
      clear hq
      have i0 : (0 : Int) ≤ (k : Int) := Int.natCast_nonneg _
      have i1 : (k : Int) < (xs.length : Int) := by omega
      have m0 : (0 : Int) ≤ (many p xs k : Int) := Int.natCast_nonneg _
      by_cases he : q.1 = p.1 ∧ q.2 = p.2
      · have S' : many p xs (k + 1) = many p xs k + 1 := by rw [S.out]; simp [he.1, he.2]
        have S1 := Lib.hid S'
        obtain ⟨e1, e2⟩ := he
        rw [e1] at a0
        rw [e2] at a1
        clear S S' e1 e2
        go_wp2
        go_quiet (fail)
        go_wp2
        exact ⟨⟨k + 1, by omega, by go_num, by rw [S1.out]; go_num, m + nq, rfl⟩, by simp [intOf]; omega⟩
      · have hbf : (decide (q.1 = p.1) && decide (q.2 = p.2)) = false := by
          simp only [Bool.and_eq_false_iff, decide_eq_false_iff_not]
          omega
        have S' : many p xs (k + 1) = many p xs k := by rw [S.out, hbf]; simp
        have S1 := Lib.hid S'
        clear S S' hbf
        by_cases h1 : q.1 = p.1
        · have h2 : ¬ q.2 = p.2 := fun e => he ⟨h1, e⟩
          have h3 : (q.2 == p.2) = false := by rw [beq_eq_false_iff_ne]; exact h2
          have h4 : decide (q.2 = p.2) = false := by simp [h2]
          rw [h1] at a0
          clear he h1
          go_wp2
          go_quiet (fail)
          go_wp2
          exact ⟨⟨k + 1, by omega, by go_num, by rw [S1.out], m + nq, rfl⟩, by simp [intOf]; omega⟩
        · have h3 : (q.1 == p.1) = false := by rw [beq_eq_false_iff_ne]; exact h1
          have h4 : decide (q.1 = p.1) = false := by simp [h1]
          clear he
          go_wp2
          go_quiet (fail)
          go_wp2
          exact ⟨⟨k + 1, by omega, by go_num, by rw [S1.out], m + nq, rfl⟩, by simp [intOf]; omega⟩
    · obtain rfl : k = xs.length := by omega
      go_wp2
      go_ret
      exact ⟨by have h := HA.out; simp only [h]; rfl, by (repeat' first | (with_reducible exact Below.refl _ _) | (with_reducible assumption) | (with_reducible refine below_drewN ?_ _) | (with_reducible refine Below.drew ?_) | (with_reducible refine Below.alloc ?_ ?_ _) | (with_reducible refine Below.setCell ?_ ?_ _) | (with_reducible refine Below.trans ?_ (Below.mono (by assumption) ?_)) | first | omega | (simp only [World.size_alloc, World.size_setCell, World.size_drew, size_drewN]; omega) | (simp; done) | (simp; omega) | (simp only [World.size_alloc, World.size_setCell, World.size_drew, size_drewN] at *; omega) | (simp at *; omega))⟩
end Go.Proofs.YtlbmdicfoiehgaaDoor
