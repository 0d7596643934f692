/-
  The walks of the rational numbers (impl and spec). Conditions: none.
-/
import Derived.Test.YtdghihinednenaaDoorRatP
import Derived.Test.YtdghihinednenaaDoorValid
import Derived.Deep.QuietTactic
import Derived.BigQuiet
import Derived.Deep.RegionHeld3
namespace Go.Proofs.YtdghihinednenaaDoor
set_option linter.unusedSimpArgs false
set_option linter.unusedVariables false
open Go.RowKit

set_option maxHeartbeats 400000 in
theorem abs_any (n : Int) (w : World) (h0 : -4000000000000000000 ≤ n) (h1 : n ≤ 4000000000000000000) :
    Calls Tryd.prog 57 #[.int .i64 n] w fun e w' => e = .returned (.int .i64 ((n.natAbs : Nat) : Int)) ∧ w = w' := by
  by_cases h : 0 ≤ n
  · rw [show ((n.natAbs : Nat) : Int) = n by omega]
    go_enter Tryd.func57, Tryd.ntmps57
    go_wp2
    go_ret
    exact ⟨rfl, rfl⟩
  · rw [show ((n.natAbs : Nat) : Int) = -n by omega]
    go_enter Tryd.func57, Tryd.ntmps57
    go_wp2
    go_ret
    exact ⟨rfl, rfl⟩
set_option maxHeartbeats 400000 in
theorem l1Abs_any (n : Int) (w : World) (h0 : -4000000000000000000 ≤ n) (h1 : n ≤ 4000000000000000000) :
    Calls Tryd.prog 64 #[.int .i64 n] w fun e w' => e = .returned (.int .i64 ((n.natAbs : Nat) : Int)) ∧ w = w' := by
  by_cases h : 0 ≤ n
  · rw [show ((n.natAbs : Nat) : Int) = n by omega]
    go_enter Tryd.func64, Tryd.ntmps64
    go_wp2
    go_ret
    exact ⟨rfl, rfl⟩
  · rw [show ((n.natAbs : Nat) : Int) = -n by omega]
    go_enter Tryd.func64, Tryd.ntmps64
    go_wp2
    go_ret
    exact ⟨by simp, rfl⟩
set_option maxHeartbeats 400000 in
theorem l1Gcd_any (a b : Nat) (w : World) (h0 : a ≤ 4000000000000000000) (h1 : b ≤ 4000000000000000000) :
    Calls Tryd.prog 63 #[.int .i64 (a : Int), .int .i64 (b : Int)] w fun e w' => e = .returned (.int .i64 ((Nat.gcd a b : Nat) : Int)) ∧ w = w' := by
  go_enter Tryd.func63, Tryd.ntmps63
  go_wp2_with fail
  go_loop [0, 1] (fun x y => ∃ p q : Nat, x = .int .i64 (p : Int) ∧ y = .int .i64 (q : Int) ∧ p ≤ 4000000000000000000 ∧ q ≤ 4000000000000000000 ∧ Nat.gcd p q = Nat.gcd a b) (fun _ y => (intOf y).toNat)
  case atStart => exact ⟨a, b, rfl, rfl, h0, h1, rfl⟩
  case round =>
    obtain ⟨p, q, rfl, rfl, hp, hq, hg⟩ := hrel
    by_cases hz : q = 0
    · subst hz
      go_wp2
      go_ret
      exact ⟨by rw [← hg, Nat.gcd_zero_right]; rfl, rfl⟩
    · have hm := Nat.mod_lt p (show 0 < q by omega)
      have ht : (p : Int).tmod (q : Int) = ((p % q : Nat) : Int) := by rw [Int.ofNat_tmod]
      go_wp2
      go_round
      case rel => exact ⟨q, p % q, rfl, by simp, hq, by omega, by rw [gcd_step, hg]⟩
      case measure => simp [intOf]; omega
set_option maxHeartbeats 400000 in
theorem divisor_any (n d : Int) (w : World) (h0 : -4000000000000000000 ≤ n) (h1 : n ≤ 4000000000000000000) (h2 : -4000000000000000000 ≤ d) (h3 : d ≤ 4000000000000000000) :
    Calls Tryd.prog 41 #[.int .i64 n, .int .i64 d] w fun e w' => e = .returned (.int .i64 ((Int.gcd n d : Nat) : Int)) ∧ ∃ m, w' = w.drewN m := by
  go_enter Tryd.func41, Tryd.ntmps41
  go_wp2_with (go_at_call 57; refine (abs_any _ _ (by omega) (by omega)).mono ?_; rintro e w1 ⟨rfl, rfl⟩)
  go_loopw [0, 1] (fun x y wr => ∃ p q : Nat, x = .int .i64 (p : Int) ∧ y = .int .i64 (q : Int) ∧ p ≤ 4000000000000000000 ∧ q ≤ 4000000000000000000 ∧ Nat.gcd p q = Int.gcd n d ∧ ∃ m, wr = w.drewN m) (fun _ y _ => (intOf y).toNat)
  case atStart => exact ⟨n.natAbs, d.natAbs, rfl, rfl, by omega, by omega, rfl, 0, rfl⟩
  case round =>
    obtain ⟨p, q, rfl, rfl, hp, hq, hg, m, rfl⟩ := hrel
    by_cases hz : q = 0
    · subst hz
      go_wp2
      go_ret
      exact ⟨by rw [← hg, Nat.gcd_zero_right]; rfl, m, rfl⟩
    · have hm := Nat.mod_lt p (show 0 < q by omega)
      have ht : (p : Int).tmod (q : Int) = ((p % q : Nat) : Int) := by rw [Int.ofNat_tmod]
      go_wp2_with fail
      go_quiet (fail)
      go_wp2
      go_roundw
      case rel => exact ⟨q, p % q, rfl, by simp, hq, by omega, by rw [gcd_step, hg], m + nq, World.drewN_drewN _ _ _⟩
      case measure => simp [intOf]; omega
set_option maxHeartbeats 1000000 in
theorem iRatValid_any (n d : Int) (w : World) (h0 : -4000000000000000000 ≤ n) (h1 : n ≤ 4000000000000000000) (h2 : -4000000000000000000 ≤ d) (h3 : d ≤ 4000000000000000000) :
    Calls Tryd.prog 19 #[.agg #[.int .i64 n, .int .i64 d]] w fun e w' => e = .returned (.bool (ratV n d)) ∧ Below w.heap.size w w' := by
  by_cases c1 : 1 ≤ d
  · by_cases c2 : d ≤ 1000000000
    · by_cases c3 : -1000000000 ≤ n
      · by_cases c4 : n ≤ 1000000000
        · have hb : ratV n d = decide (((Int.gcd n d : Nat) : Int) = 1) := by
            rw [Bool.eq_iff_iff]; simp [ratV, c1, c2, c3, c4]; omega
          rw [hb]
          go_enter Tryd.func19, Tryd.ntmps19
          go_wp2_with (go_at_call 41; refine (divisor_any _ _ _ (by omega) (by omega) (by omega) (by omega)).mono ?_; rintro e w1 ⟨rfl, m, rfl⟩)
          go_ret
          exact ⟨rfl, by (repeat' first | (with_reducible exact Below.refl _ _) | (with_reducible assumption) | (with_reducible refine below_drewN ?_ _) | (with_reducible refine Below.drew ?_) | (with_reducible refine Below.alloc ?_ ?_ _) | (with_reducible refine Below.setCell ?_ ?_ _) | (with_reducible refine Below.trans ?_ (Below.mono (by assumption) ?_)) | first | omega | (simp only [World.size_alloc, World.size_setCell, World.size_drew, size_drewN]; omega) | (simp; done) | (simp; omega) | (simp only [World.size_alloc, World.size_setCell, World.size_drew, size_drewN] at *; omega) | (simp at *; omega))⟩
        · have hb : ratV n d = false := by simp [ratV, c4]
          rw [hb]
          go_enter Tryd.func19, Tryd.ntmps19
          go_wp2
          go_ret
          exact ⟨rfl, by (repeat' first | (with_reducible exact Below.refl _ _) | (with_reducible assumption) | (with_reducible refine below_drewN ?_ _) | (with_reducible refine Below.drew ?_) | (with_reducible refine Below.alloc ?_ ?_ _) | (with_reducible refine Below.setCell ?_ ?_ _) | (with_reducible refine Below.trans ?_ (Below.mono (by assumption) ?_)) | first | omega | (simp only [World.size_alloc, World.size_setCell, World.size_drew, size_drewN]; omega) | (simp; done) | (simp; omega) | (simp only [World.size_alloc, World.size_setCell, World.size_drew, size_drewN] at *; omega) | (simp at *; omega))⟩
      · have hb : ratV n d = false := by simp [ratV, c3]
        rw [hb]
        go_enter Tryd.func19, Tryd.ntmps19
        go_wp2
        go_ret
        exact ⟨rfl, by (repeat' first | (with_reducible exact Below.refl _ _) | (with_reducible assumption) | (with_reducible refine below_drewN ?_ _) | (with_reducible refine Below.drew ?_) | (with_reducible refine Below.alloc ?_ ?_ _) | (with_reducible refine Below.setCell ?_ ?_ _) | (with_reducible refine Below.trans ?_ (Below.mono (by assumption) ?_)) | first | omega | (simp only [World.size_alloc, World.size_setCell, World.size_drew, size_drewN]; omega) | (simp; done) | (simp; omega) | (simp only [World.size_alloc, World.size_setCell, World.size_drew, size_drewN] at *; omega) | (simp at *; omega))⟩
    · have hb : ratV n d = false := by simp [ratV, c2]
      rw [hb]
      go_enter Tryd.func19, Tryd.ntmps19
      go_wp2
      go_ret
      exact ⟨rfl, by (repeat' first | (with_reducible exact Below.refl _ _) | (with_reducible assumption) | (with_reducible refine below_drewN ?_ _) | (with_reducible refine Below.drew ?_) | (with_reducible refine Below.alloc ?_ ?_ _) | (with_reducible refine Below.setCell ?_ ?_ _) | (with_reducible refine Below.trans ?_ (Below.mono (by assumption) ?_)) | first | omega | (simp only [World.size_alloc, World.size_setCell, World.size_drew, size_drewN]; omega) | (simp; done) | (simp; omega) | (simp only [World.size_alloc, World.size_setCell, World.size_drew, size_drewN] at *; omega) | (simp at *; omega))⟩
  · have hb : ratV n d = false := by simp [ratV, c1]
    rw [hb]
    go_enter Tryd.func19, Tryd.ntmps19
    go_wp2
    go_ret
    exact ⟨rfl, by (repeat' first | (with_reducible exact Below.refl _ _) | (with_reducible assumption) | (with_reducible refine below_drewN ?_ _) | (with_reducible refine Below.drew ?_) | (with_reducible refine Below.alloc ?_ ?_ _) | (with_reducible refine Below.setCell ?_ ?_ _) | (with_reducible refine Below.trans ?_ (Below.mono (by assumption) ?_)) | first | omega | (simp only [World.size_alloc, World.size_setCell, World.size_drew, size_drewN]; omega) | (simp; done) | (simp; omega) | (simp only [World.size_alloc, World.size_setCell, World.size_drew, size_drewN] at *; omega) | (simp at *; omega))⟩
set_option maxHeartbeats 1000000 in
theorem sRatValid_any (n d : Int) (w : World) (h0 : -4000000000000000000 ≤ n) (h1 : n ≤ 4000000000000000000) (h2 : -4000000000000000000 ≤ d) (h3 : d ≤ 4000000000000000000) :
    Calls Tryd.prog 65 #[.agg #[.int .i64 n, .int .i64 d]] w fun e w' => e = .returned (.bool (ratV n d)) ∧ Below w.heap.size w w' := by
  cases c1 : inB d 1 1000000000
  · have hb : ratV n d = false := by
      have := inB_false c1
      simp only [ratV, decide_eq_false_iff_not]; omega
    rw [hb]
    go_enter Tryd.func65, Tryd.ntmps65
    go_wp2_with (go_at_call 52; refine (l6In_any _ _ _ _).mono ?_; rintro e w' ⟨rfl, rfl⟩)
    go_ret
    exact ⟨rfl, by (repeat' first | (with_reducible exact Below.refl _ _) | (with_reducible assumption) | (with_reducible refine below_drewN ?_ _) | (with_reducible refine Below.drew ?_) | (with_reducible refine Below.alloc ?_ ?_ _) | (with_reducible refine Below.setCell ?_ ?_ _) | (with_reducible refine Below.trans ?_ (Below.mono (by assumption) ?_)) | first | omega | (simp only [World.size_alloc, World.size_setCell, World.size_drew, size_drewN]; omega) | (simp; done) | (simp; omega) | (simp only [World.size_alloc, World.size_setCell, World.size_drew, size_drewN] at *; omega) | (simp at *; omega))⟩
  · cases c2 : inB n (-1000000000) 1000000000
    · have hb : ratV n d = false := by
        have := inB_false c2
        simp only [ratV, decide_eq_false_iff_not]; omega
      rw [hb]
      go_enter Tryd.func65, Tryd.ntmps65
      go_wp2_with (go_at_call 52; refine (l6In_any _ _ _ _).mono ?_; rintro e w' ⟨rfl, rfl⟩)
      go_ret
      exact ⟨rfl, by (repeat' first | (with_reducible exact Below.refl _ _) | (with_reducible assumption) | (with_reducible refine below_drewN ?_ _) | (with_reducible refine Below.drew ?_) | (with_reducible refine Below.alloc ?_ ?_ _) | (with_reducible refine Below.setCell ?_ ?_ _) | (with_reducible refine Below.trans ?_ (Below.mono (by assumption) ?_)) | first | omega | (simp only [World.size_alloc, World.size_setCell, World.size_drew, size_drewN]; omega) | (simp; done) | (simp; omega) | (simp only [World.size_alloc, World.size_setCell, World.size_drew, size_drewN] at *; omega) | (simp at *; omega))⟩
    · have hb : ratV n d = decide (((Int.gcd n d : Nat) : Int) = 1) := by
        have b1 := inB_true c1
        have b2 := inB_true c2
        rw [Bool.eq_iff_iff]; simp [ratV, b1, b2]; omega
      have b1 := inB_true c1
      have hd : ((d.natAbs : Nat) : Int) = d := by omega
      have hcall := l1Gcd_any n.natAbs d.natAbs
      rw [hd] at hcall
      rw [hb]
      go_enter Tryd.func65, Tryd.ntmps65
      go_wp2_with (go_at_call 52; refine (l6In_any _ _ _ _).mono ?_; rintro e w' ⟨rfl, rfl⟩)
      go_quiet ((first | (go_at_call 64; exact Calls.quiet_of_same ((l1Abs_any _ _ (by omega) (by omega)).mono fun _ _ h => ⟨h.1, h.2.symm⟩)) | (go_at_call 63; exact Calls.quiet_of_same ((hcall _ (by omega) (by omega)).mono fun _ _ h => ⟨h.1, h.2.symm⟩))))
      go_wp2
      go_ret
      exact ⟨rfl, by (repeat' first | (with_reducible exact Below.refl _ _) | (with_reducible assumption) | (with_reducible refine below_drewN ?_ _) | (with_reducible refine Below.drew ?_) | (with_reducible refine Below.alloc ?_ ?_ _) | (with_reducible refine Below.setCell ?_ ?_ _) | (with_reducible refine Below.trans ?_ (Below.mono (by assumption) ?_)) | first | omega | (simp only [World.size_alloc, World.size_setCell, World.size_drew, size_drewN]; omega) | (simp; done) | (simp; omega) | (simp only [World.size_alloc, World.size_setCell, World.size_drew, size_drewN] at *; omega) | (simp at *; omega))⟩
set_option maxHeartbeats 1000000 in
theorem iRatOf_any (n d : Int) (w : World) (h0 : -4000000000000000000 ≤ n) (h1 : n ≤ 4000000000000000000) (h2 : 0 < d) (h3 : d ≤ 4000000000000000000) :
    Calls Tryd.prog 20 #[.int .i64 n, .int .i64 d] w fun e w' => e = .returned (ratT (ratR n d)) ∧ Below w.heap.size w w' := by
  have bn := ratN_bd n d 4000000000000000000 h0 h1
  have bd := ratD_bd n d 4000000000000000000 h2 h3
  have hg := gcd_pos (n := n) h2
  have t1 : (d == 0) = false := by simp; omega
  have t2 : decide (n < -4000000000000000000) = false := by simp; omega
  have t3 : decide (4000000000000000000 < n) = false := by simp; omega
  have t4 : decide (d < -4000000000000000000) = false := by simp; omega
  have t5 : decide (4000000000000000000 < d) = false := by simp; omega
  have t6 : decide (d < 0) = false := by simp; omega
  have tn := ratN_tdiv n d
  have td := ratD_tdiv n d
  have hdiv := fun w => divisor_any n d w h0 h1 (by omega) h3
  obtain ⟨G, hG⟩ : ∃ G : Nat, Int.gcd n d = G := ⟨_, rfl⟩
  rw [hG] at tn td hg
  simp only [hG] at hdiv
  clear hG
  have hz : ¬ (G : Int) = 0 := by omega
  have hz' : ¬ G = 0 := by omega
  have qn : IntKind.i64.wrap (ratN n d) = ratN n d := IntWalk.i64_in _ (by omega)
  have qd : IntKind.i64.wrap (ratD n d) = ratD n d := IntWalk.i64_in _ (by omega)
  cases hk : ratOk n d
  · rw [show ratR n d = (0, 0, false) by simp [ratR, hk]]
    unfold ratOk at hk
    go_enter Tryd.func20, Tryd.ntmps20
    go_wp2_with (go_at_call 41; refine (hdiv _).mono ?_; rintro e w1 ⟨rfl, m, rfl⟩)
    go_region
    go_wp2_with ((go_at_call 19; refine (iRatValid_any (ratN n d) (ratD n d) _ (by omega) (by omega) (by omega) (by omega)).mono ?_; rintro e w1 ⟨rfl, hb1⟩; obtain ⟨hc1, hf1⟩ := bcell hb1; have hz1 := hb1.size; (try simp only [World.size_alloc, World.size_setCell, World.size_drew, size_drewN] at hz1 hc1 hf1); (have g1a : w.heap.size < w1.heap.size := by omega)))
    refine bodyPost_ret (v := .tuple #[.agg #[.int .i64 0, .int .i64 0], .bool false]) (by simp (disch := first | omega | (simp; done) | (simp; omega)) [results, Tryd.results20, go_sem, cell_set, *]) rfl ?_
    exact ⟨rfl, by (repeat' first | (with_reducible exact Below.refl _ _) | (with_reducible assumption) | (with_reducible refine below_drewN ?_ _) | (with_reducible refine Below.drew ?_) | (with_reducible refine Below.alloc ?_ ?_ _) | (with_reducible refine Below.setCell ?_ ?_ _) | (with_reducible refine Below.trans ?_ (Below.mono (by assumption) ?_)) | first | omega | (simp only [World.size_alloc, World.size_setCell, World.size_drew, size_drewN]; omega) | (simp; done) | (simp; omega) | (simp only [World.size_alloc, World.size_setCell, World.size_drew, size_drewN] at *; omega) | (simp at *; omega))⟩
  · rw [show ratR n d = (ratN n d, ratD n d, true) by simp [ratR, hk]]
    unfold ratOk at hk
    go_enter Tryd.func20, Tryd.ntmps20
    go_wp2_with (go_at_call 41; refine (hdiv _).mono ?_; rintro e w1 ⟨rfl, m, rfl⟩)
    go_region
    go_wp2_with ((go_at_call 19; refine (iRatValid_any (ratN n d) (ratD n d) _ (by omega) (by omega) (by omega) (by omega)).mono ?_; rintro e w1 ⟨rfl, hb1⟩; obtain ⟨hc1, hf1⟩ := bcell hb1; have hz1 := hb1.size; (try simp only [World.size_alloc, World.size_setCell, World.size_drew, size_drewN] at hz1 hc1 hf1); (have g1a : w.heap.size < w1.heap.size := by omega)))
    refine bodyPost_ret (v := .tuple #[.agg #[.int .i64 (ratN n d), .int .i64 (ratD n d)], .bool true]) (by simp (disch := first | omega | (simp; done) | (simp; omega)) [results, Tryd.results20, go_sem, cell_set, *]) rfl ?_
    exact ⟨rfl, by (repeat' first | (with_reducible exact Below.refl _ _) | (with_reducible assumption) | (with_reducible refine below_drewN ?_ _) | (with_reducible refine Below.drew ?_) | (with_reducible refine Below.alloc ?_ ?_ _) | (with_reducible refine Below.setCell ?_ ?_ _) | (with_reducible refine Below.trans ?_ (Below.mono (by assumption) ?_)) | first | omega | (simp only [World.size_alloc, World.size_setCell, World.size_drew, size_drewN]; omega) | (simp; done) | (simp; omega) | (simp only [World.size_alloc, World.size_setCell, World.size_drew, size_drewN] at *; omega) | (simp at *; omega))⟩
set_option maxHeartbeats 1000000 in
theorem l1Make_any (n d : Int) (w : World) (h0 : -4000000000000000000 ≤ n) (h1 : n ≤ 4000000000000000000) (h2 : 0 < d) (h3 : d ≤ 4000000000000000000) :
    Calls Tryd.prog 53 #[.int .i64 n, .int .i64 d] w fun e w' => e = .returned (ratT (ratR n d)) ∧ Below w.heap.size w w' := by
  have bn := ratN_bd n d 4000000000000000000 h0 h1
  have bd := ratD_bd n d 4000000000000000000 h2 h3
  have hg := gcd_pos (n := n) h2
  have t6 : decide (d < 0) = false := by simp; omega
  have tn := ratN_tdiv n d
  have td := ratD_tdiv n d
  have hdiv := fun w => l1Gcd_any n.natAbs d.natAbs w (by omega) (by omega)
  obtain ⟨G, hG⟩ : ∃ G : Nat, Int.gcd n d = G := ⟨_, rfl⟩
  rw [hG] at tn td hg
  rw [show Nat.gcd n.natAbs d.natAbs = G from hG] at hdiv
  clear hG
  have hz : ¬ (G : Int) = 0 := by omega
  have hz' : ¬ G = 0 := by omega
  have qn : IntKind.i64.wrap (ratN n d) = ratN n d := IntWalk.i64_in _ (by omega)
  have qd : IntKind.i64.wrap (ratD n d) = ratD n d := IntWalk.i64_in _ (by omega)
  cases hk : ratOk n d
  · rw [show ratR n d = (0, 0, false) by simp [ratR, hk]]
    unfold ratOk at hk
    go_enter Tryd.func53, Tryd.ntmps53
    go_wp2_with (first | (go_at_call 64; refine (l1Abs_any _ _ (by omega) (by omega)).mono ?_; rintro e w' ⟨rfl, rfl⟩) | (go_at_call 63; refine (hdiv _).mono ?_; rintro e w1 ⟨rfl, rfl⟩))
    go_region
    go_wp2_with ((go_at_call 65; refine (sRatValid_any (ratN n d) (ratD n d) _ (by omega) (by omega) (by omega) (by omega)).mono ?_; rintro e w1 ⟨rfl, hb1⟩; obtain ⟨hc1, hf1⟩ := bcell hb1; have hz1 := hb1.size; (try simp only [World.size_alloc, World.size_setCell, World.size_drew, size_drewN] at hz1 hc1 hf1); (have g1a : w.heap.size < w1.heap.size := by omega)))
    refine bodyPost_ret (v := .tuple #[.agg #[.int .i64 0, .int .i64 0], .bool false]) (by simp (disch := first | omega | (simp; done) | (simp; omega)) [results, Tryd.results53, go_sem, cell_set, *]) rfl ?_
    exact ⟨rfl, by (repeat' first | (with_reducible exact Below.refl _ _) | (with_reducible assumption) | (with_reducible refine below_drewN ?_ _) | (with_reducible refine Below.drew ?_) | (with_reducible refine Below.alloc ?_ ?_ _) | (with_reducible refine Below.setCell ?_ ?_ _) | (with_reducible refine Below.trans ?_ (Below.mono (by assumption) ?_)) | first | omega | (simp only [World.size_alloc, World.size_setCell, World.size_drew, size_drewN]; omega) | (simp; done) | (simp; omega) | (simp only [World.size_alloc, World.size_setCell, World.size_drew, size_drewN] at *; omega) | (simp at *; omega))⟩
  · rw [show ratR n d = (ratN n d, ratD n d, true) by simp [ratR, hk]]
    unfold ratOk at hk
    go_enter Tryd.func53, Tryd.ntmps53
    go_wp2_with (first | (go_at_call 64; refine (l1Abs_any _ _ (by omega) (by omega)).mono ?_; rintro e w' ⟨rfl, rfl⟩) | (go_at_call 63; refine (hdiv _).mono ?_; rintro e w1 ⟨rfl, rfl⟩))
    go_region
    go_wp2_with ((go_at_call 65; refine (sRatValid_any (ratN n d) (ratD n d) _ (by omega) (by omega) (by omega) (by omega)).mono ?_; rintro e w1 ⟨rfl, hb1⟩; obtain ⟨hc1, hf1⟩ := bcell hb1; have hz1 := hb1.size; (try simp only [World.size_alloc, World.size_setCell, World.size_drew, size_drewN] at hz1 hc1 hf1); (have g1a : w.heap.size < w1.heap.size := by omega)))
    refine bodyPost_ret (v := .tuple #[.agg #[.int .i64 (ratN n d), .int .i64 (ratD n d)], .bool true]) (by simp (disch := first | omega | (simp; done) | (simp; omega)) [results, Tryd.results53, go_sem, cell_set, *]) rfl ?_
    exact ⟨rfl, by (repeat' first | (with_reducible exact Below.refl _ _) | (with_reducible assumption) | (with_reducible refine below_drewN ?_ _) | (with_reducible refine Below.drew ?_) | (with_reducible refine Below.alloc ?_ ?_ _) | (with_reducible refine Below.setCell ?_ ?_ _) | (with_reducible refine Below.trans ?_ (Below.mono (by assumption) ?_)) | first | omega | (simp only [World.size_alloc, World.size_setCell, World.size_drew, size_drewN]; omega) | (simp; done) | (simp; omega) | (simp only [World.size_alloc, World.size_setCell, World.size_drew, size_drewN] at *; omega) | (simp at *; omega))⟩
end Go.Proofs.YtdghihinednenaaDoor
