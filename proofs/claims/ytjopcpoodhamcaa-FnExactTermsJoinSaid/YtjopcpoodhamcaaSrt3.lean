/-
  The walk of slices' insertionSort at terms. Conditions: none.
-/
import Derived.Test.YtjopcpoodhamcaaSrt2
namespace Go.Proofs.Ytjopcpoodhamcaa
set_option linter.unusedSimpArgs false
set_option linter.unusedVariables false
open Go.RowKit

/-- The function value that is handed to the sort. -/
abbrev cmpF : Value := .func (.func 18) #[] #[]
theorem srt_one (a : Nat) (f : Nat → Tm) : Srt a (a + 1) f := fun x y h1 h2 h3 => by
  have e : x = y := by omega
  rw [e]; exact Int.le_refl _
/-- Sorted but for place j, and place j is not too far left. -/
def InsInv (a i j : Nat) (f : Nat → Tm) : Prop := (∀ x y, a ≤ x → x ≤ y → y ≤ i → x ≠ j → y ≠ j → key (f x) ≤ key (f y)) ∧ ∀ y, j < y → y ≤ i → key (f j) ≤ key (f y)
theorem InsInv.start {a i : Nat} {f : Nat → Tm} (h : Srt a i f) : InsInv a i i f := ⟨fun x y h1 h2 h3 h4 h5 => h x y h1 h2 (by omega), fun y h1 h2 => by omega⟩
theorem InsInv.stop {a i j : Nat} {f : Nat → Tm} (h : InsInv a i j f) (h1 : a ≤ j) (h2 : j ≤ i) (h3 : j = a ∨ key (f (j - 1)) ≤ key (f j)) : Srt a (i + 1) f := fun x y a1 a2 a3 => by
  by_cases hx : x = j
  · subst hx
    by_cases hy : y = x
    · subst hy; exact Int.le_refl _
    · exact h.2 y (by omega) (by omega)
  · by_cases hy : y = j
    · subst hy
      rcases h3 with h3 | h3
      · omega
      · have := h.1 x (y - 1) a1 (by omega) (by omega) hx (by omega)
        omega
    · exact h.1 x y a1 a2 (by omega) hx hy
theorem InsInv.step {a i j : Nat} {f : Nat → Tm} (h : InsInv a i (j + 1) f) (h1 : a ≤ j) (h2 : j + 1 ≤ i) (h3 : key (f (j + 1)) < key (f j)) : InsInv a i j (swapF f (j + 1) j) := by
  have e1 : swapF f (j + 1) j (j + 1) = f j := by unfold swapF; rw [if_pos rfl]
  have e2 : swapF f (j + 1) j j = f (j + 1) := by unfold swapF; rw [if_neg (by omega), if_pos rfl]
  have e3 : ∀ k, k ≠ j + 1 → k ≠ j → swapF f (j + 1) j k = f k := fun k k1 k2 => by unfold swapF; rw [if_neg k1, if_neg k2]
  refine ⟨fun x y a1 a2 a3 a4 a5 => ?_, fun y a1 a2 => ?_⟩
  · by_cases hx : x = j + 1
    · subst hx
      rw [e1]
      by_cases hy : y = j + 1
      · subst hy; rw [e1]; exact Int.le_refl _
      · rw [e3 y hy a5]; exact h.1 j y h1 (by omega) a3 (by omega) hy
    · rw [e3 x hx a4]
      by_cases hy : y = j + 1
      · subst hy; rw [e1]; exact h.1 x j a1 (by omega) (by omega) hx (by omega)
      · rw [e3 y hy a5]; exact h.1 x y a1 a2 a3 hx hy
  · rw [e2]
    by_cases hy : y = j + 1
    · subst hy; rw [e1]; omega
    · rw [e3 y hy (by omega)]; exact h.2 y (by omega) a2
set_option maxRecDepth 20000 in
set_option maxHeartbeats 2000000 in
theorem insertion_any (g n c a b : Nat) (f : Nat → Tm) (w : World) (hn : n ≤ 1000000) (h1 : a ≤ b) (h2 : b ≤ n) (hR : RowF w g n f) (hg : g < w.heap.size) (hok : ∀ k, okT (f k)) :
    Calls Try.prog 35 #[.slice (some ⟨g, 0, none⟩) n c, .int .i64 a, .int .i64 b, cmpF] w fun e w' => e = .returned (.tuple #[]) ∧ ∃ f', RowF w' g n f' ∧ But w.heap.size g w w' ∧ Step a b f f' ∧ Srt a b f' := by
  have HR := Lib.hid hR
  have HK := Lib.hid hok
  clear hR hok
  have a0 : (0 : Int) ≤ (a : Int) := Int.natCast_nonneg _
  have b0 : (0 : Int) ≤ (b : Int) := Int.natCast_nonneg _
  have z1 : (a : Int) ≤ (b : Int) := by omega
  have z2 : (b : Int) ≤ 1000000 := by omega
  have zn : (b : Int) ≤ (n : Int) := by omega
  go_enter Try.func35, Try.ntmps35
  go_wp2
  go_loopw [8] (fun x wr => ∃ (i : Nat) (f' : Nat → Tm), x = .int .i64 i ∧ a + 1 ≤ i ∧ (i ≤ b ∨ i = a + 1) ∧ RowF wr g n f' ∧ But w.heap.size g w wr ∧ Step a b f f' ∧ Srt a i f') (fun x _ => b - (intOf x).toNat)
  case atStart => exact ⟨a + 1, f, by go_num, by omega, by omega, HR.out, But.refl _ _ _, Step.refl _ _ _, srt_one a f⟩
  case round =>
    obtain ⟨i, f1, rfl, hi, hib, hrow, hbut, hst, hsr⟩ := hrel
    obtain ⟨Wo, hWo⟩ : ∃ W, W = wr := ⟨wr, rfl⟩
    subst hWo
    have i0 : (0 : Int) ≤ (i : Int) := Int.natCast_nonneg _
    by_cases hlt : i < b
    · have hlt' : (i : Int) < (b : Int) := by omega
      have HI := Lib.hid (InsInv.start hsr)
      have HW := Lib.hid hrow
      have HB := Lib.hid hbut
      have HS := Lib.hid hst
      clear hrow hbut hst hsr hib
      go_wp2
      go_loopw [9] (fun x wr => ∃ (j : Nat) (f' : Nat → Tm), x = .int .i64 j ∧ a ≤ j ∧ j ≤ i ∧ RowF wr g n f' ∧ But w.heap.size g w wr ∧ Step a b f f' ∧ InsInv a i j f') (fun x _ => (intOf x).toNat)
      case atStart => exact ⟨i, f1, rfl, by omega, Nat.le_refl _, HW.out, HB.out, HS.out, HI.out⟩
      case round =>
        obtain ⟨j, f2, rfl, hj, hji, hrow, hbut, hst, hin⟩ := hrel
        have hbz := hbut.size
        have hgw : g < wr.heap.size := by omega
        by_cases hja : j = a
        · have HF := Lib.hid (hin.stop hj hji (.inl hja))
          have hne : ¬ (a : Int) < (j : Int) := by omega
          have HW2 := Lib.hid hrow
          have HB2 := Lib.hid hbut
          have HS2 := Lib.hid hst
          clear hrow hbut hst hin
          go_wp2
          go_quiet (fail)
          go_wp2
          go_roundw
          case rel => exact ⟨i + 1, f2, by go_num, by omega, .inl (by omega), HW2.out.of rfl, HB2.out.trans ⟨rfl, rfl, rfl, Nat.le_refl _, fun _ _ _ => rfl⟩, HS2.out, HF.out⟩
          case measure => simp [intOf]; omega
        · obtain ⟨q, rfl⟩ : ∃ q, j = q + 1 := ⟨j - 1, by omega⟩
          obtain ⟨x0, x1⟩ := hrow.1 (q + 1) (by omega)
          obtain ⟨y0, y1⟩ := hrow.1 q (by omega)
          obtain ⟨P, hP⟩ : ∃ P, P = f2 (q + 1) := ⟨_, rfl⟩
          obtain ⟨Q, hQ⟩ : ∃ Q, Q = f2 q := ⟨_, rfl⟩
          rw [← hP] at x0 x1
          rw [← hQ] at y0 y1
          have okP : okT P := by rw [hP]; exact hst.all HK.out _
          have okQ : okT Q := by rw [hQ]; exact hst.all HK.out _
          have hlt2 := cmpV_lt okP okQ
          obtain ⟨cv, hcv⟩ : ∃ cv, cv = cmpV P Q := ⟨_, rfl⟩
          have cb := cmpV_bd P Q
          rw [← hcv] at cb hlt2
          have kC : ∀ W, Calls Try.prog 18 #[.agg #[.int .i64 P.1, .int .i64 P.2], .agg #[.int .i64 Q.1, .int .i64 Q.2]] W fun e w' => e = .returned (.int .i64 cv) ∧ Below W.heap.size W w' := fun W => by
            rw [hcv]; exact cmpT_any P Q W
          have HC := Lib.hid kC
          have q0 : (0 : Int) ≤ (q : Int) := Int.natCast_nonneg _
          have ejc : ((q + 1 : Nat) : Int) = (q : Int) + 1 := by omega
          have qa : (a : Int) < (q : Int) + 1 := by omega
          have qn : (q : Int) + 1 < (n : Int) := by omega
          have qz : (q : Int) ≤ 1000000 := by omega
          have qe : (q : Int) + 1 - 1 = (q : Int) := by omega
          have qn2 : (q : Int) < (n : Int) := by omega
          have qp : (0 : Int) ≤ (q : Int) + 1 := by omega
          have qw : IntKind.i64.wrap ((q : Int) + 1 - 1) = (q : Int) := by rw [qe]; exact IntWalk.i64_in _ (by omega)
          have qw2 : IntKind.i64.wrap (q : Int) = (q : Int) := IntWalk.i64_in _ (by omega)
          have HW2 := Lib.hid hrow
          have HB2 := Lib.hid hbut
          have HS2 := Lib.hid hst
          have HN2 := Lib.hid hin
          by_cases hk : key P < key Q
          · have hneg : cv < 0 := hlt2.2 hk
            have HI2 := Lib.hid (hin.step (by omega) hji (by rw [← hP, ← hQ]; exact hk))
            have HS3 := Lib.hid (hst.trans (Step.swap (a := a) (b := b) (i := q + 1) (j := q) f2 (by omega) (by omega) (by omega) (by omega)))
            have HP := Lib.hid hP
            have HQ := Lib.hid hQ
            clear hP hQ
            clear hrow hbut hst hin kC hlt2 hcv okP okQ
            rw [ejc]
            go_wp2
            go_region_held3 (fun w' => w'.cell? ⟨g, (q + 1) * 2, none⟩ = some (.int .i64 P.1) ∧ w'.cell? ⟨g, (q + 1) * 2 + 1, none⟩ = some (.int .i64 P.2) ∧ w'.cell? ⟨g, q * 2, none⟩ = some (.int .i64 Q.1) ∧ w'.cell? ⟨g, q * 2 + 1, none⟩ = some (.int .i64 Q.2) ∧ wr.heap.size ≤ w'.heap.size ∧ Below wr.heap.size wr w')
              (first | (simp (disch := first | omega | (simp; done) | (simp; omega)) [go_sem, *]; done) | ((repeat' first | (with_reducible exact Below.refl _ _) | (with_reducible assumption) | (with_reducible refine below_drewN ?_ _) | (with_reducible refine Below.drew ?_) | (with_reducible refine Below.alloc ?_ ?_ _) | (with_reducible refine Below.setCell ?_ ?_ _) | (with_reducible refine Below.trans ?_ (Below.mono (by assumption) ?_)) | first | omega | (simp only [World.size_alloc, World.size_setCell, World.size_drew, size_drewN]; omega) | (simp; done) | (simp; omega) | (simp only [World.size_alloc, World.size_setCell, World.size_drew, size_drewN] at *; omega) | (simp at *; omega)); done) | ((try go_split_ands); (refine ⟨?_, ?_, ?_, ?_, ?_, ?_⟩ <;> first | omega | (simp only [World.size_alloc, World.size_setCell, World.size_drew, size_drewN]; omega) | (simp (disch := first | omega | (simp; done) | (simp; omega)) [go_sem, *]; done) | ((repeat' first | (with_reducible exact Below.refl _ _) | (with_reducible assumption) | (with_reducible refine below_drewN ?_ _) | (with_reducible refine Below.drew ?_) | (with_reducible refine Below.alloc ?_ ?_ _) | (with_reducible refine Below.setCell ?_ ?_ _) | (with_reducible refine Below.trans ?_ (Below.mono (by assumption) ?_)) | first | omega | (simp only [World.size_alloc, World.size_setCell, World.size_drew, size_drewN]; omega) | (simp; done) | (simp; omega) | (simp only [World.size_alloc, World.size_setCell, World.size_drew, size_drewN] at *; omega) | (simp at *; omega)); done))))
              (first | (go_at_call 18; refine (HC.out _).mono ?_; rintro e w5 ⟨rfl, hb5⟩; obtain ⟨hc5, hf5⟩ := bcell hb5; have hz5 := hb5.size; (try simp only [World.size_alloc, World.size_setCell, World.size_drew, size_drewN] at hz5 hc5 hf5)))
            have hB5 : Below wr.heap.size wr w5 := by (repeat' first | (with_reducible exact Below.refl _ _) | (with_reducible assumption) | (with_reducible refine below_drewN ?_ _) | (with_reducible refine Below.drew ?_) | (with_reducible refine Below.alloc ?_ ?_ _) | (with_reducible refine Below.setCell ?_ ?_ _) | (with_reducible refine Below.trans ?_ (Below.mono (by assumption) ?_)) | first | omega | (simp only [World.size_alloc, World.size_setCell, World.size_drew, size_drewN]; omega) | (simp; done) | (simp; omega) | (simp only [World.size_alloc, World.size_setCell, World.size_drew, size_drewN] at *; omega) | (simp at *; omega))
            have hr5 := HW2.out.below hB5 hgw
            have hu5 : But w.heap.size g w w5 := HB2.out.below hB5 (by omega)
            clear hb5 hc5 hf5 x0 x1 y0 y1
            obtain ⟨x0, x1⟩ := hr5.1 (q + 1) (by omega)
            obtain ⟨y0, y1⟩ := hr5.1 q (by omega)
            rw [← HP.out] at x0 x1
            rw [← HQ.out] at y0 y1
            have f0 := hr5.2 ((q + 1) * 2)
            have f1' := hr5.2 ((q + 1) * 2 + 1)
            have f2' := hr5.2 (q * 2)
            have f3 := hr5.2 (q * 2 + 1)
            have s1 := (hr5.of (w' := w5.drew) rfl).swap (i := q + 1) (j := q) (by omega) (by omega) (by omega)
            have s2 := (hr5.of (w' := w5.drew) rfl).swap' (i := q + 1) (j := q) (by omega) (by omega) (by omega)
            have t1 := (hu5.drew.set2 (q + 1) (f2 q)).set2 q (f2 (q + 1))
            have t2 := (hu5.drew.set2 q (f2 (q + 1))).set2 (q + 1) (f2 q)
            rw [← HP.out, ← HQ.out] at s1 s2 t1 t2
            have H1 := Lib.hid (And.intro s1 t1)
            have H2 := Lib.hid (And.intro s2 t2)
            have hne : ¬ (q + 1) * 2 = q * 2 := by omega
            have hne1 : ¬ (q + 1) * 2 + 1 = q * 2 := by omega
            have hne2 : ¬ (q + 1) * 2 = q * 2 + 1 := by omega
            have hne3 : ¬ (q + 1) * 2 + 1 = q * 2 + 1 := by omega
            clear hr5 hu5 s1 s2 t1 t2 hB5
            go_wp2
            go_region
            all_goals go_wp2
            all_goals go_roundw
            all_goals first
              | (case rel => first | exact ⟨q, _, by go_num, by omega, by omega, H1.out.1, H1.out.2, HS3.out, HI2.out⟩ | exact ⟨q, _, by go_num, by omega, by omega, H2.out.1, H2.out.2, HS3.out, HI2.out⟩)
              | (case measure => first | (simp [intOf]; done) | (simp [intOf]; omega))
              | skip
          · have hneg : ¬ cv < 0 := fun h => hk (hlt2.1 h)
            have HF := Lib.hid (hin.stop hj hji (.inr (by rw [show q + 1 - 1 = q by omega, ← hP, ← hQ]; omega)))
            clear hrow hbut hst hin kC hlt2 hcv okP okQ hP hQ
            rw [ejc]
            go_wp2
            go_region_held3 (fun w' => w'.cell? ⟨g, (q + 1) * 2, none⟩ = some (.int .i64 P.1) ∧ w'.cell? ⟨g, (q + 1) * 2 + 1, none⟩ = some (.int .i64 P.2) ∧ w'.cell? ⟨g, q * 2, none⟩ = some (.int .i64 Q.1) ∧ w'.cell? ⟨g, q * 2 + 1, none⟩ = some (.int .i64 Q.2) ∧ wr.heap.size ≤ w'.heap.size ∧ Below wr.heap.size wr w')
              (first | (simp (disch := first | omega | (simp; done) | (simp; omega)) [go_sem, *]; done) | ((repeat' first | (with_reducible exact Below.refl _ _) | (with_reducible assumption) | (with_reducible refine below_drewN ?_ _) | (with_reducible refine Below.drew ?_) | (with_reducible refine Below.alloc ?_ ?_ _) | (with_reducible refine Below.setCell ?_ ?_ _) | (with_reducible refine Below.trans ?_ (Below.mono (by assumption) ?_)) | first | omega | (simp only [World.size_alloc, World.size_setCell, World.size_drew, size_drewN]; omega) | (simp; done) | (simp; omega) | (simp only [World.size_alloc, World.size_setCell, World.size_drew, size_drewN] at *; omega) | (simp at *; omega)); done) | ((try go_split_ands); (refine ⟨?_, ?_, ?_, ?_, ?_, ?_⟩ <;> first | omega | (simp only [World.size_alloc, World.size_setCell, World.size_drew, size_drewN]; omega) | (simp (disch := first | omega | (simp; done) | (simp; omega)) [go_sem, *]; done) | ((repeat' first | (with_reducible exact Below.refl _ _) | (with_reducible assumption) | (with_reducible refine below_drewN ?_ _) | (with_reducible refine Below.drew ?_) | (with_reducible refine Below.alloc ?_ ?_ _) | (with_reducible refine Below.setCell ?_ ?_ _) | (with_reducible refine Below.trans ?_ (Below.mono (by assumption) ?_)) | first | omega | (simp only [World.size_alloc, World.size_setCell, World.size_drew, size_drewN]; omega) | (simp; done) | (simp; omega) | (simp only [World.size_alloc, World.size_setCell, World.size_drew, size_drewN] at *; omega) | (simp at *; omega)); done))))
              (first | (go_at_call 18; refine (HC.out _).mono ?_; rintro e w5 ⟨rfl, hb5⟩; obtain ⟨hc5, hf5⟩ := bcell hb5; have hz5 := hb5.size; (try simp only [World.size_alloc, World.size_setCell, World.size_drew, size_drewN] at hz5 hc5 hf5)))
            have hB5 : Below wr.heap.size wr w5 := by (repeat' first | (with_reducible exact Below.refl _ _) | (with_reducible assumption) | (with_reducible refine below_drewN ?_ _) | (with_reducible refine Below.drew ?_) | (with_reducible refine Below.alloc ?_ ?_ _) | (with_reducible refine Below.setCell ?_ ?_ _) | (with_reducible refine Below.trans ?_ (Below.mono (by assumption) ?_)) | first | omega | (simp only [World.size_alloc, World.size_setCell, World.size_drew, size_drewN]; omega) | (simp; done) | (simp; omega) | (simp only [World.size_alloc, World.size_setCell, World.size_drew, size_drewN] at *; omega) | (simp at *; omega))
            clear hb5 hc5 hf5 x0 x1 y0 y1
            go_wp2
            go_roundw
            case rel => exact ⟨i + 1, f2, by go_num, by omega, .inl (by omega), HW2.out.below hB5 hgw, HB2.out.below hB5 (by omega), HS2.out, HF.out⟩
            case measure => simp [intOf]; omega
    · go_wp2
      go_end0
      refine ⟨rfl, f1, hrow, hbut, hst, fun x y a1 a2 a3 => hsr x y a1 a2 (by omega)⟩
end Go.Proofs.Ytjopcpoodhamcaa
