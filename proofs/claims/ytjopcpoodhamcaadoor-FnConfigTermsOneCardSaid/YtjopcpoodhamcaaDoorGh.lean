import Derived.Test.YtjopcpoodhamcaaDoorValid
import Derived.Test.YtjopcpoodhamcaaDoorGg
import Derived.BigQuiet
import Derived.Deep.QuietTactic
import Derived.Deep.RegionWith
import Derived.Deep.RegionHeld3
import Derived.Test.YtjopcpoodhamcaaDoorGa
import Derived.Test.YtjopcpoodhamcaaDoorGc
/-
  The walks of cmp.Compare, cmp.Or and impl's compareTerms. Conditions: none.
-/
namespace Go.Proofs.YtjopcpoodhamcaaDoor
set_option linter.unusedSimpArgs false
set_option linter.unusedVariables false
open Go.RowKit

def cmpC (x y : Int) : Int := if x < y then -1 else if y < x then 1 else 0
def orC (a b : Int) : Int := if a = 0 then b else a
def cmpV (a b : Tm) : Int := orC (cmpC b.1 a.1) (cmpC b.2 a.2)
theorem cmpV_lt {a b : Tm} (ha : okT a) (hb : okT b) : cmpV a b < 0 ↔ key a < key b := by
  unfold okT at *
  unfold cmpV orC cmpC key
  by_cases h1 : b.1 < a.1
  · rw [if_pos h1, if_neg (by omega)]; omega
  · rw [if_neg h1]
    by_cases h2 : a.1 < b.1
    · rw [if_pos h2, if_neg (by omega)]; omega
    · rw [if_neg h2, if_pos rfl]
      by_cases h3 : b.2 < a.2
      · rw [if_pos h3]; omega
      · rw [if_neg h3]
        by_cases h4 : a.2 < b.2
        · rw [if_pos h4]; omega
        · rw [if_neg h4]; omega
theorem cmpV_bd (a b : Tm) : -1 ≤ cmpV a b ∧ cmpV a b ≤ 1 := by
  unfold cmpV orC cmpC
  split <;> split <;> (try split) <;> omega
theorem isNaN_any (x : Int) (w : World) :
    Calls Tryd.prog 69 #[.int .i64 x] w fun e w' => e = .returned (.bool false) ∧ w' = w := by
  go_enter Tryd.func69, Tryd.ntmps69
  go_wp2
  go_ret
  exact ⟨rfl, rfl⟩
set_option maxHeartbeats 1000000 in
theorem compare_any (x y : Int) (w : World) :
    Calls Tryd.prog 59 #[.int .i64 x, .int .i64 y] w fun e w' => e = .returned (.int .i64 (cmpC x y)) ∧ w' = w := by
  have key : ∀ c : Int, cmpC x y = c → Calls Tryd.prog 59 #[.int .i64 x, .int .i64 y] w fun e w' => e = .returned (.int .i64 c) ∧ w' = w := by
    intro c hc
    unfold cmpC at hc
    by_cases h1 : x < y
    · rw [if_pos h1] at hc
      subst hc
      go_enter Tryd.func59, Tryd.ntmps59
      go_wp2_with (go_at_call 69; refine (isNaN_any _ _).mono ?_; rintro e w' ⟨rfl, rfl⟩)
      go_ret
      exact ⟨rfl, rfl⟩
    · rw [if_neg h1] at hc
      by_cases h2 : y < x
      · rw [if_pos h2] at hc
        subst hc
        go_enter Tryd.func59, Tryd.ntmps59
        go_wp2_with (go_at_call 69; refine (isNaN_any _ _).mono ?_; rintro e w' ⟨rfl, rfl⟩)
        go_ret
        exact ⟨rfl, rfl⟩
      · rw [if_neg h2] at hc
        subst hc
        go_enter Tryd.func59, Tryd.ntmps59
        go_wp2_with (go_at_call 69; refine (isNaN_any _ _).mono ?_; rintro e w' ⟨rfl, rfl⟩)
        go_ret
        exact ⟨rfl, rfl⟩
  exact key _ rfl
set_option maxHeartbeats 1000000 in
theorem or_any (g : Nat) (a b : Int) (w : World) (h0 : w.cell? ⟨g, 0, none⟩ = some (.int .i64 a)) (h1 : w.cell? ⟨g, 1, none⟩ = some (.int .i64 b)) :
    Calls Tryd.prog 58 #[.slice (some ⟨g, 0, none⟩) 2 2] w fun e w' => e = .returned (.int .i64 (orC a b)) ∧ w' = w := by
  by_cases ha : a = 0
  · subst ha
    have e0 : orC 0 b = b := by unfold orC; rw [if_pos rfl]
    rw [e0]
    by_cases hb : b = 0
    · subst hb
      go_enter Tryd.func58, Tryd.ntmps58
      go_wp2
      refine wp_loop_rounds 3 ?_
      rw [rounds_succ]
      go_wp2
      rw [rounds_succ]
      go_wp2
      rw [rounds_succ]
      go_wp2
      go_ret
      exact ⟨rfl, rfl⟩
    · have hb' : (b == 0) = false := by rw [beq_eq_false_iff_ne]; exact hb
      go_enter Tryd.func58, Tryd.ntmps58
      go_wp2
      refine wp_loop_rounds 2 ?_
      rw [rounds_succ]
      go_wp2
      rw [rounds_succ]
      go_wp2
      go_ret
      exact ⟨rfl, rfl⟩
  · have e0 : orC a b = a := by unfold orC; rw [if_neg ha]
    rw [e0]
    have ha' : (a == 0) = false := by rw [beq_eq_false_iff_ne]; exact ha
    go_enter Tryd.func58, Tryd.ntmps58
    go_wp2
    refine wp_loop_rounds 1 ?_
    rw [rounds_succ]
    go_wp2
    go_ret
    exact ⟨rfl, rfl⟩
set_option maxRecDepth 20000 in
set_option maxHeartbeats 600000 in
theorem cmpT_any (a b : Tm) (w : World) :
    Calls Tryd.prog 49 #[.agg #[.int .i64 a.1, .int .i64 a.2], .agg #[.int .i64 b.1, .int .i64 b.2]] w fun e w' => e = .returned (.int .i64 (cmpV a b)) ∧ Below w.heap.size w w' := by
  have hor := or_any (w.heap.size + 1 + 1) (cmpC b.1 a.1) (cmpC b.2 a.2) (((w.alloc (.cells #[.int .i64 a.1, .int .i64 a.2] 31)).alloc (.cells #[.int .i64 b.1, .int .i64 b.2] 31)).alloc (.cells #[.int .i64 (cmpC b.1 a.1), .int .i64 (cmpC b.2 a.2)] 3)).drew (by (simp (disch := first | omega | (simp; done) | (simp; omega)) [go_sem, *]; done)) (by (simp (disch := first | omega | (simp; done) | (simp; omega)) [go_sem, *]; done))
  rw [show orC (cmpC b.1 a.1) (cmpC b.2 a.2) = cmpV a b from rfl] at hor
  have HO := Lib.hid hor
  clear hor
  go_enter Tryd.func49, Tryd.ntmps49
  go_wp2
  go_region_held3 (fun w' => w'.cell? ⟨w.heap.size, 0, none⟩ = some (.int .i64 a.1) ∧ w'.cell? ⟨w.heap.size, 1, none⟩ = some (.int .i64 a.2) ∧ w'.cell? ⟨w.heap.size + 1, 0, none⟩ = some (.int .i64 b.1) ∧ w'.cell? ⟨w.heap.size + 1, 1, none⟩ = some (.int .i64 b.2) ∧ w.heap.size + 2 ≤ w'.heap.size ∧ Below w.heap.size w w')
    (first | (simp (disch := first | omega | (simp; done) | (simp; omega)) [go_sem, *]; done) | ((repeat' first | (with_reducible exact Below.refl _ _) | (with_reducible assumption) | (with_reducible refine below_drewN ?_ _) | (with_reducible refine Below.drew ?_) | (with_reducible refine Below.alloc ?_ ?_ _) | (with_reducible refine Below.setCell ?_ ?_ _) | (with_reducible refine Below.trans ?_ (Below.mono (by assumption) ?_)) | first | omega | (simp only [World.size_alloc, World.size_setCell, World.size_drew, size_drewN]; omega) | (simp; done) | (simp; omega) | (simp only [World.size_alloc, World.size_setCell, World.size_drew, size_drewN] at *; omega) | (simp at *; omega)); done) | ((try go_split_ands); (refine ⟨?_, ?_, ?_, ?_, ?_, ?_⟩ <;> first | omega | (simp only [World.size_alloc, World.size_setCell, World.size_drew, size_drewN]; omega) | (simp (disch := first | omega | (simp; done) | (simp; omega)) [go_sem, *]; done) | ((repeat' first | (with_reducible exact Below.refl _ _) | (with_reducible assumption) | (with_reducible refine below_drewN ?_ _) | (with_reducible refine Below.drew ?_) | (with_reducible refine Below.alloc ?_ ?_ _) | (with_reducible refine Below.setCell ?_ ?_ _) | (with_reducible refine Below.trans ?_ (Below.mono (by assumption) ?_)) | first | omega | (simp only [World.size_alloc, World.size_setCell, World.size_drew, size_drewN]; omega) | (simp; done) | (simp; omega) | (simp only [World.size_alloc, World.size_setCell, World.size_drew, size_drewN] at *; omega) | (simp at *; omega)); done))))
    (first
      | (go_at_call 59; refine (compare_any _ _ _).mono ?_; rintro e w' ⟨rfl, rfl⟩)
      | (go_at_call 58; refine (HO.out).mono ?_; rintro e w' ⟨rfl, rfl⟩))
  go_wp2
  go_ret
  exact ⟨rfl, by (repeat' first | (with_reducible exact Below.refl _ _) | (with_reducible assumption) | (with_reducible refine below_drewN ?_ _) | (with_reducible refine Below.drew ?_) | (with_reducible refine Below.alloc ?_ ?_ _) | (with_reducible refine Below.setCell ?_ ?_ _) | (with_reducible refine Below.trans ?_ (Below.mono (by assumption) ?_)) | first | omega | (simp only [World.size_alloc, World.size_setCell, World.size_drew, size_drewN]; omega) | (simp; done) | (simp; omega) | (simp only [World.size_alloc, World.size_setCell, World.size_drew, size_drewN] at *; omega) | (simp at *; omega))⟩
end Go.Proofs.YtjopcpoodhamcaaDoor

/-
  The walks of slices' swapRange and rotate at terms. Conditions: none.
-/
namespace Go.Proofs.YtjopcpoodhamcaaDoor
set_option linter.unusedSimpArgs false
set_option linter.unusedVariables false
open Go.RowKit

theorem But.mono {B B' rb : Nat} {a w : World} (h : But B rb a w) (hB : B' ≤ B) : But B' rb a w := ⟨h.os, h.tape, h.output, h.size, fun k hk hn => h.block k (by omega) hn⟩
/-- Block g holds n terms. -/
def RowF (w : World) (g n : Nat) (f : Nat → Tm) : Prop :=
  (∀ k, k < n → w.cell? ⟨g, k * 2, none⟩ = some (.int .i64 (f k).1) ∧ w.cell? ⟨g, k * 2 + 1, none⟩ = some (.int .i64 (f k).2)) ∧ ∀ i, w.frozen? ⟨g, i, none⟩ = false
theorem RowF.of {w w' : World} {g n : Nat} {f : Nat → Tm} (h : RowF w g n f) (hb : w'.heap[g]? = w.heap[g]?) : RowF w' g n f :=
  ⟨fun k hk => ⟨(World.cell?_of_block hb).trans (h.1 k hk).1, (World.cell?_of_block hb).trans (h.1 k hk).2⟩, fun i => (World.frozen?_of_block hb).trans (h.2 i)⟩
theorem RowF.below {w w' : World} {g n B : Nat} {f : Nat → Tm} (h : RowF w g n f) (hb : Below B w w') (hg : g < B) : RowF w' g n f := h.of (hb.block g hg)
theorem RowF.congr {w : World} {g n : Nat} {f f' : Nat → Tm} (h : RowF w g n f) (e : ∀ k, k < n → f' k = f k) : RowF w g n f' :=
  ⟨fun k hk => by rw [e k hk]; exact h.1 k hk, h.2⟩
def set2 (w : World) (g i : Nat) (p : Tm) : World := (w.setCell ⟨g, i * 2, none⟩ (.int .i64 p.1)).setCell ⟨g, i * 2 + 1, none⟩ (.int .i64 p.2)
theorem RowF.set2 {w : World} {g n : Nat} {f : Nat → Tm} (h : RowF w g n f) {i : Nat} (hi : i < n) (p : Tm) : RowF (set2 w g i p) g n (updF f i p) := by
  obtain ⟨e0, e1⟩ := h.1 i hi
  have key : ∀ o, (Go.Proofs.YtjopcpoodhamcaaDoor.set2 w g i p).cell? ⟨g, o, none⟩ = if o = i * 2 + 1 then some (.int .i64 p.2) else if o = i * 2 then some (.int .i64 p.1) else w.cell? ⟨g, o, none⟩ := by
    intro o
    unfold Go.Proofs.YtjopcpoodhamcaaDoor.set2
    by_cases b : o = i * 2 + 1
    · subst b; simp [cell_set, e1]
    · rw [if_neg b]
      by_cases d : o = i * 2
      · subst d; simp [cell_set, e0]
      · rw [if_neg d]
        have b' : ¬ i * 2 + 1 = o := fun e => b e.symm
        have d' : ¬ i * 2 = o := fun e => d e.symm
        simp [cell_set, b', d']
  refine ⟨fun k hk => ?_, fun o => ?_⟩
  · rw [key, key]
    unfold updF
    by_cases e : k = i
    · subst e
      rw [if_neg (by omega), if_pos rfl, if_pos rfl, if_pos rfl]
      exact ⟨rfl, rfl⟩
    · have n1 : ¬ k * 2 = i * 2 + 1 := by omega
      have n2 : ¬ k * 2 = i * 2 := by omega
      have n3 : ¬ k * 2 + 1 = i * 2 + 1 := by omega
      have n4 : ¬ k * 2 + 1 = i * 2 := by omega
      rw [if_neg n1, if_neg n2, if_neg n3, if_neg n4, if_neg e]
      exact h.1 k hk
  · unfold Go.Proofs.YtjopcpoodhamcaaDoor.set2
    simp only [World.frozen?_setCell]
    exact h.2 o
theorem upd_upd {f : Nat → Tm} {i j : Nat} (hij : i ≠ j) : updF (updF f i (f j)) j (f i) = swapF f i j := by
  funext k
  unfold updF swapF
  by_cases a : k = i
  · subst a; simp [hij]
  · simp only [if_neg a]
theorem upd_upd' {f : Nat → Tm} {i j : Nat} (hij : i ≠ j) : updF (updF f j (f i)) i (f j) = swapF f i j := by
  funext k
  unfold updF swapF
  by_cases a : k = i
  · subst a; simp
  · simp only [if_neg a]
theorem RowF.swap {w : World} {g n : Nat} {f : Nat → Tm} (h : RowF w g n f) {i j : Nat} (hi : i < n) (hj : j < n) (hij : i ≠ j) : RowF (Go.Proofs.YtjopcpoodhamcaaDoor.set2 (Go.Proofs.YtjopcpoodhamcaaDoor.set2 w g i (f j)) g j (f i)) g n (swapF f i j) := by
  rw [← upd_upd hij]; exact (h.set2 hi _).set2 hj _
theorem RowF.swap' {w : World} {g n : Nat} {f : Nat → Tm} (h : RowF w g n f) {i j : Nat} (hi : i < n) (hj : j < n) (hij : i ≠ j) : RowF (Go.Proofs.YtjopcpoodhamcaaDoor.set2 (Go.Proofs.YtjopcpoodhamcaaDoor.set2 w g j (f i)) g i (f j)) g n (swapF f i j) := by
  rw [← upd_upd' hij]; exact (h.set2 hj _).set2 hi _
theorem But.set2 {B g : Nat} {a w : World} (h : But B g a w) (i : Nat) (p : Tm) : But B g a (Go.Proofs.YtjopcpoodhamcaaDoor.set2 w g i p) := (h.own _ _).own _ _
set_option maxRecDepth 20000 in
set_option maxHeartbeats 2000000 in
theorem swapRange_any (g n c a b m : Nat) (v : Value) (f : Nat → Tm) (w : World) (hn : n ≤ 1000000) (h1 : a + m ≤ b) (h2 : b + m ≤ n) (hR : RowF w g n f) (hg : g < w.heap.size) :
    Calls Tryd.prog 84 #[.slice (some ⟨g, 0, none⟩) n c, .int .i64 a, .int .i64 b, .int .i64 m, v] w fun e w' => e = .returned (.tuple #[]) ∧ RowF w' g n (swapR f a b m) ∧ But w.heap.size g w w' := by
  have HR := Lib.hid hR
  clear hR
  have a0 : (0 : Int) ≤ (a : Int) := Int.natCast_nonneg _
  have b0 : (0 : Int) ≤ (b : Int) := Int.natCast_nonneg _
  go_enter Tryd.func84, Tryd.ntmps84
  go_wp2
  go_loopw [10] (fun i wr => ∃ k : Nat, k ≤ m ∧ i = .int .i64 k ∧ RowF wr g n (swapR f a b k) ∧ But w.heap.size g w wr) (fun i _ => m - (intOf i).toNat)
  case atStart => exact ⟨0, Nat.zero_le _, rfl, by rw [swapR_zero]; exact HR.out, But.refl _ _ _⟩
  case round =>
    obtain ⟨k, hk, rfl, hrow, hbut⟩ := hrel
    by_cases hlt : k < m
    · obtain ⟨p, hp⟩ : ∃ p, p = swapR f a b k (a + k) := ⟨_, rfl⟩
      obtain ⟨q, hq⟩ : ∃ q, q = swapR f a b k (b + k) := ⟨_, rfl⟩
      obtain ⟨x0, x1⟩ := hrow.1 (a + k) (by omega)
      obtain ⟨y0, y1⟩ := hrow.1 (b + k) (by omega)
      rw [← hp] at x0 x1
      rw [← hq] at y0 y1
      have f0 := hrow.2 ((a + k) * 2)
      have f1 := hrow.2 ((a + k) * 2 + 1)
      have f2 := hrow.2 ((b + k) * 2)
      have f3 := hrow.2 ((b + k) * 2 + 1)
      have s1 := (hrow.of (w' := wr.drew) rfl).swap (i := a + k) (j := b + k) (by omega) (by omega) (by omega)
      have s2 := (hrow.of (w' := wr.drew) rfl).swap' (i := a + k) (j := b + k) (by omega) (by omega) (by omega)
      rw [swapR_succ f a b k (by omega), ← hp, ← hq] at s1 s2
      have t1 := (hbut.drew.set2 (a + k) q).set2 (b + k) p
      have t2 := (hbut.drew.set2 (b + k) p).set2 (a + k) q
      have H1 := Lib.hid (And.intro s1 t1)
      have H2 := Lib.hid (And.intro s2 t2)
      have k0 : (0 : Int) ≤ (k : Int) := Int.natCast_nonneg _
      have i1 : (a : Int) + (k : Int) < (n : Int) := by omega
      have i2 : (b : Int) + (k : Int) < (n : Int) := by omega
      have i3 : (a : Int) + (k : Int) ≤ 1000000 := by omega
      have i4 : (b : Int) + (k : Int) ≤ 1000000 := by omega
      have hne : ¬ (a + k) * 2 = (b + k) * 2 := by omega
      have hne1 : ¬ (a + k) * 2 + 1 = (b + k) * 2 := by omega
      have hne2 : ¬ (a + k) * 2 = (b + k) * 2 + 1 := by omega
      have hne3 : ¬ (a + k) * 2 + 1 = (b + k) * 2 + 1 := by omega
      clear hrow hbut s1 s2 t1 t2 hp hq
      go_wp2
      go_region
      all_goals go_wp2
      all_goals go_roundw
      all_goals first
        | (case rel => first | exact ⟨k + 1, by omega, by go_num, H1.out.1, H1.out.2⟩ | exact ⟨k + 1, by omega, by go_num, H2.out.1, H2.out.2⟩)
        | (case measure => simp [intOf]; omega)
        | skip
    · obtain rfl : k = m := by omega
      go_wp2
      go_end0
      exact ⟨rfl, hrow, hbut⟩
set_option maxRecDepth 20000 in
set_option maxHeartbeats 2000000 in
theorem rotate_any (g n c a m b : Nat) (v : Value) (f : Nat → Tm) (w : World) (hn : n ≤ 1000000) (h1 : a < m) (h2 : m < b) (h3 : b ≤ n) (hR : RowF w g n f) (hg : g < w.heap.size) :
    Calls Tryd.prog 83 #[.slice (some ⟨g, 0, none⟩) n c, .int .i64 a, .int .i64 m, .int .i64 b, v] w fun e w' => e = .returned (.tuple #[]) ∧ RowF w' g n (rotR f a m b) ∧ But w.heap.size g w w' ∧ Step a b f (rotR f a m b) := by
  have HR := Lib.hid hR
  have HI := Lib.hid (rot_start (f := f) (a := a) (m := m) (b := b) (by omega) (by omega))
  clear hR
  have a0 : (0 : Int) ≤ (a : Int) := Int.natCast_nonneg _
  have m0 : (0 : Int) ≤ (m : Int) := Int.natCast_nonneg _
  have b0 : (0 : Int) ≤ (b : Int) := Int.natCast_nonneg _
  have z1 : (a : Int) < (m : Int) := by omega
  have z2 : (m : Int) < (b : Int) := by omega
  have z3 : (b : Int) ≤ 1000000 := by omega
  go_enter Tryd.func83, Tryd.ntmps83
  go_wp2
  go_loopw [10, 11] (fun x y wr => ∃ (i j : Nat) (f' : Nat → Tm), x = .int .i64 i ∧ y = .int .i64 j ∧ 0 < i ∧ 0 < j ∧ RotInv f' (rotR f a m b) a m b i j ∧ RowF wr g n f' ∧ But w.heap.size g w wr ∧ Step a b f f') (fun x y _ => (intOf x).toNat + (intOf y).toNat)
  case atStart => exact ⟨m - a, b - m, f, by congr 1; omega, by congr 1; omega, by omega, by omega, HI.out, HR.out, But.refl _ _ _, Step.refl _ _ _⟩
  case round =>
    obtain ⟨i, j, f', rfl, rfl, i0, j0, hinv, hrow, hbut, hst⟩ := hrel
    have hbz := hbut.size
    have q1 := hinv.1
    have q2 := hinv.2.1
    have ii : (0 : Int) < (i : Int) := by omega
    have jj : (0 : Int) < (j : Int) := by omega
    have iz : (i : Int) ≤ (m : Int) - (a : Int) := by omega
    have jz : (j : Int) ≤ (b : Int) - (m : Int) := by omega
    have HV := Lib.hid hinv
    have HW := Lib.hid hrow
    have HB := Lib.hid hbut
    have HS := Lib.hid hst
    have e1 : ((m - i : Nat) : Int) = (m : Int) - (i : Int) := by omega
    have e2 : ((m + j - i : Nat) : Int) = (m : Int) + (j : Int) - (i : Int) := by omega
    clear hinv hrow hbut hst q1 q2
    by_cases hij : i = j
    · subst hij
      have hc : ∀ W, RowF W g n f' → g < W.heap.size → Calls Tryd.prog 84 #[.slice (some ⟨g, 0, none⟩) n c, .int .i64 ((m : Int) - (i : Int)), .int .i64 m, .int .i64 i, v] W fun e w' => e = .returned (.tuple #[]) ∧ RowF w' g n (rotR f a m b) ∧ But W.heap.size g W w' := fun W hW hgW => by
        have := swapRange_any g n c (m - i) m i v f' W hn (by omega) (by omega) hW hgW
        rw [rot_last HV.out, e1] at this
        exact this
      have HC := Lib.hid hc
      have hs2 : Step a b f' (rotR f a m b) := by rw [← rot_last HV.out]; exact Step.swapR f' (by omega) (by omega) (by omega)
      have HS2 := Lib.hid (HS.out.trans hs2)
      clear hc hs2 e1 e2
      go_wp2_with fail
      refine (HC.out _ HW.out (by omega)).mono ?_
      rintro e w1 ⟨rfl, hr1, hb1⟩
      go_wp2
      go_end0
      exact ⟨rfl, hr1, HB.out.trans (hb1.mono hbz), HS2.out⟩
    · have hij' : ¬ (i : Int) = (j : Int) := by omega
      have hij2 : ((i : Int) == (j : Int)) = false := by rw [beq_eq_false_iff_ne]; exact hij'
      by_cases hgt : j < i
      · have hgt' : (j : Int) < (i : Int) := by omega
        have hc : ∀ W, RowF W g n f' → g < W.heap.size → Calls Tryd.prog 84 #[.slice (some ⟨g, 0, none⟩) n c, .int .i64 ((m : Int) - (i : Int)), .int .i64 m, .int .i64 j, v] W fun e w' => e = .returned (.tuple #[]) ∧ RowF w' g n (swapR f' (m - i) m j) ∧ But W.heap.size g W w' := fun W hW hgW => by
          have := swapRange_any g n c (m - i) m j v f' W hn (by omega) (by omega) hW hgW
          rw [e1] at this
          exact this
        have HC := Lib.hid hc
        have HI2 := Lib.hid (rot_left HV.out hgt)
        have HS2 := Lib.hid (HS.out.trans (Step.swapR f' (a := m - i) (b := m) (n := j) (x := a) (y := b) (by omega) (by omega) (by omega)))
        clear hc e1 e2
        go_wp2_with fail
        refine (HC.out _ HW.out (by omega)).mono ?_
        rintro e w1 ⟨rfl, hr1, hb1⟩
        have HB1 := Lib.hid (HB.out.trans (hb1.mono hbz))
        have HR1 := Lib.hid hr1
        clear hb1 hr1
        go_wp2
        go_roundw
        case rel => exact ⟨i - j, j, _, by congr 1; omega, rfl, by omega, by omega, HI2.out, HR1.out, HB1.out, HS2.out⟩
        case measure => simp [intOf]; omega
      · have hgt' : ¬ (j : Int) < (i : Int) := by omega
        have hlt' : (i : Int) < (j : Int) := by omega
        have hc : ∀ W, RowF W g n f' → g < W.heap.size → Calls Tryd.prog 84 #[.slice (some ⟨g, 0, none⟩) n c, .int .i64 ((m : Int) - (i : Int)), .int .i64 ((m : Int) + (j : Int) - (i : Int)), .int .i64 i, v] W fun e w' => e = .returned (.tuple #[]) ∧ RowF w' g n (swapR f' (m - i) (m + j - i) i) ∧ But W.heap.size g W w' := fun W hW hgW => by
          have := swapRange_any g n c (m - i) (m + j - i) i v f' W hn (by omega) (by omega) hW hgW
          rw [e1, e2] at this
          exact this
        have HC := Lib.hid hc
        have HI2 := Lib.hid (rot_right HV.out (by omega))
        have HS2 := Lib.hid (HS.out.trans (Step.swapR f' (a := m - i) (b := m + j - i) (n := i) (x := a) (y := b) (by omega) (by omega) (by omega)))
        clear hc e1 e2
        go_wp2_with fail
        refine (HC.out _ HW.out (by omega)).mono ?_
        rintro e w1 ⟨rfl, hr1, hb1⟩
        have HB1 := Lib.hid (HB.out.trans (hb1.mono hbz))
        have HR1 := Lib.hid hr1
        clear hb1 hr1
        go_wp2
        go_roundw
        case rel => exact ⟨i, j - i, _, rfl, by congr 1; omega, by omega, by omega, HI2.out, HR1.out, HB1.out, HS2.out⟩
        case measure => simp [intOf]; omega
end Go.Proofs.YtjopcpoodhamcaaDoor

/-
  The walk of slices' insertionSort at terms. Conditions: none.
-/
namespace Go.Proofs.YtjopcpoodhamcaaDoor
set_option linter.unusedSimpArgs false
set_option linter.unusedVariables false
open Go.RowKit

/-- The function value that is handed to the sort. -/
abbrev cmpF : Value := .func (.func 49) #[] #[]
theorem srt_one (a : Nat) (f : Nat → Tm) : Srt a (a + 1) f := fun x y h1 h2 h3 => by
  have e : x = y := by omega
  rw [e]; exact Int.le_refl _
/-- Sorted but for place j, and place j is not too far left. -/
def InsInv (a i j : Nat) (f : Nat → Tm) : Prop := (∀ x y, a ≤ x → x ≤ y → y ≤ i → x ≠ j → y ≠ j → key (f x) ≤ key (f y)) ∧ ∀ y, j < y → y ≤ i → key (f j) ≤ key (f y)
theorem InsInv.start {a i : Nat} {f : Nat → Tm} (h : Srt a i f) : InsInv a i i f := ⟨fun x y h1 h2 h3 h4 h5 => h x y h1 h2 (by omega), fun y h1 h2 => by omega⟩
theorem InsInv.stop {a i j : Nat} {f : Nat → Tm} (h : InsInv a i j f) (h1 : a ≤ j) (h2 : j ≤ i) (h3 : j = a ∨ key (f (j - 1)) ≤ key (f j)) : Srt a (i + 1) f := fun x y a1 a2 a3 => by
  by_cases hx : x = j
  · subst hx
    by_cases hy : y = x
    · subst hy; exact Int.le_refl _
    · exact h.2 y (by omega) (by omega)
  · by_cases hy : y = j
    · subst hy
      rcases h3 with h3 | h3
      · omega
      · have := h.1 x (y - 1) a1 (by omega) (by omega) hx (by omega)
        omega
    · exact h.1 x y a1 a2 (by omega) hx hy
theorem InsInv.step {a i j : Nat} {f : Nat → Tm} (h : InsInv a i (j + 1) f) (h1 : a ≤ j) (h2 : j + 1 ≤ i) (h3 : key (f (j + 1)) < key (f j)) : InsInv a i j (swapF f (j + 1) j) := by
  have e1 : swapF f (j + 1) j (j + 1) = f j := by unfold swapF; rw [if_pos rfl]
  have e2 : swapF f (j + 1) j j = f (j + 1) := by unfold swapF; rw [if_neg (by omega), if_pos rfl]
  have e3 : ∀ k, k ≠ j + 1 → k ≠ j → swapF f (j + 1) j k = f k := fun k k1 k2 => by unfold swapF; rw [if_neg k1, if_neg k2]
  refine ⟨fun x y a1 a2 a3 a4 a5 => ?_, fun y a1 a2 => ?_⟩
  · by_cases hx : x = j + 1
    · subst hx
      rw [e1]
      by_cases hy : y = j + 1
      · subst hy; rw [e1]; exact Int.le_refl _
      · rw [e3 y hy a5]; exact h.1 j y h1 (by omega) a3 (by omega) hy
    · rw [e3 x hx a4]
      by_cases hy : y = j + 1
      · subst hy; rw [e1]; exact h.1 x j a1 (by omega) (by omega) hx (by omega)
      · rw [e3 y hy a5]; exact h.1 x y a1 a2 a3 hx hy
  · rw [e2]
    by_cases hy : y = j + 1
    · subst hy; rw [e1]; omega
    · rw [e3 y hy (by omega)]; exact h.2 y (by omega) a2
set_option maxRecDepth 20000 in
set_option maxHeartbeats 2000000 in
theorem insertion_any (g n c a b : Nat) (f : Nat → Tm) (w : World) (hn : n ≤ 1000000) (h1 : a ≤ b) (h2 : b ≤ n) (hR : RowF w g n f) (hg : g < w.heap.size) (hok : ∀ k, okT (f k)) :
    Calls Tryd.prog 81 #[.slice (some ⟨g, 0, none⟩) n c, .int .i64 a, .int .i64 b, cmpF] w fun e w' => e = .returned (.tuple #[]) ∧ ∃ f', RowF w' g n f' ∧ But w.heap.size g w w' ∧ Step a b f f' ∧ Srt a b f' := by
  have HR := Lib.hid hR
  have HK := Lib.hid hok
  clear hR hok
  have a0 : (0 : Int) ≤ (a : Int) := Int.natCast_nonneg _
  have b0 : (0 : Int) ≤ (b : Int) := Int.natCast_nonneg _
  have z1 : (a : Int) ≤ (b : Int) := by omega
  have z2 : (b : Int) ≤ 1000000 := by omega
  have zn : (b : Int) ≤ (n : Int) := by omega
  go_enter Tryd.func81, Tryd.ntmps81
  go_wp2
  go_loopw [8] (fun x wr => ∃ (i : Nat) (f' : Nat → Tm), x = .int .i64 i ∧ a + 1 ≤ i ∧ (i ≤ b ∨ i = a + 1) ∧ RowF wr g n f' ∧ But w.heap.size g w wr ∧ Step a b f f' ∧ Srt a i f') (fun x _ => b - (intOf x).toNat)
  case atStart => exact ⟨a + 1, f, by go_num, by omega, by omega, HR.out, But.refl _ _ _, Step.refl _ _ _, srt_one a f⟩
  case round =>
    obtain ⟨i, f1, rfl, hi, hib, hrow, hbut, hst, hsr⟩ := hrel
    obtain ⟨Wo, hWo⟩ : ∃ W, W = wr := ⟨wr, rfl⟩
    subst hWo
    have i0 : (0 : Int) ≤ (i : Int) := Int.natCast_nonneg _
    by_cases hlt : i < b
    · have hlt' : (i : Int) < (b : Int) := by omega
      have HI := Lib.hid (InsInv.start hsr)
      have HW := Lib.hid hrow
      have HB := Lib.hid hbut
      have HS := Lib.hid hst
      clear hrow hbut hst hsr hib
      go_wp2
      go_loopw [9] (fun x wr => ∃ (j : Nat) (f' : Nat → Tm), x = .int .i64 j ∧ a ≤ j ∧ j ≤ i ∧ RowF wr g n f' ∧ But w.heap.size g w wr ∧ Step a b f f' ∧ InsInv a i j f') (fun x _ => (intOf x).toNat)
      case atStart => exact ⟨i, f1, rfl, by omega, Nat.le_refl _, HW.out, HB.out, HS.out, HI.out⟩
      case round =>
        obtain ⟨j, f2, rfl, hj, hji, hrow, hbut, hst, hin⟩ := hrel
        have hbz := hbut.size
        have hgw : g < wr.heap.size := by omega
        by_cases hja : j = a
        · have HF := Lib.hid (hin.stop hj hji (.inl hja))
          have hne : ¬ (a : Int) < (j : Int) := by omega
          have HW2 := Lib.hid hrow
          have HB2 := Lib.hid hbut
          have HS2 := Lib.hid hst
          clear hrow hbut hst hin
          go_wp2
          go_quiet (fail)
          go_wp2
          go_roundw
          case rel => exact ⟨i + 1, f2, by go_num, by omega, .inl (by omega), HW2.out.of rfl, HB2.out.trans ⟨rfl, rfl, rfl, Nat.le_refl _, fun _ _ _ => rfl⟩, HS2.out, HF.out⟩
          case measure => simp [intOf]; omega
        · obtain ⟨q, rfl⟩ : ∃ q, j = q + 1 := ⟨j - 1, by omega⟩
          obtain ⟨x0, x1⟩ := hrow.1 (q + 1) (by omega)
          obtain ⟨y0, y1⟩ := hrow.1 q (by omega)
          obtain ⟨P, hP⟩ : ∃ P, P = f2 (q + 1) := ⟨_, rfl⟩
          obtain ⟨Q, hQ⟩ : ∃ Q, Q = f2 q := ⟨_, rfl⟩
          rw [← hP] at x0 x1
          rw [← hQ] at y0 y1
          have okP : okT P := by rw [hP]; exact hst.all HK.out _
          have okQ : okT Q := by rw [hQ]; exact hst.all HK.out _
          have hlt2 := cmpV_lt okP okQ
          obtain ⟨cv, hcv⟩ : ∃ cv, cv = cmpV P Q := ⟨_, rfl⟩
          have cb := cmpV_bd P Q
          rw [← hcv] at cb hlt2
          have kC : ∀ W, Calls Tryd.prog 49 #[.agg #[.int .i64 P.1, .int .i64 P.2], .agg #[.int .i64 Q.1, .int .i64 Q.2]] W fun e w' => e = .returned (.int .i64 cv) ∧ Below W.heap.size W w' := fun W => by
            rw [hcv]; exact cmpT_any P Q W
          have HC := Lib.hid kC
          have q0 : (0 : Int) ≤ (q : Int) := Int.natCast_nonneg _
          have ejc : ((q + 1 : Nat) : Int) = (q : Int) + 1 := by omega
          have qa : (a : Int) < (q : Int) + 1 := by omega
          have qn : (q : Int) + 1 < (n : Int) := by omega
          have qz : (q : Int) ≤ 1000000 := by omega
          have qe : (q : Int) + 1 - 1 = (q : Int) := by omega
          have qn2 : (q : Int) < (n : Int) := by omega
          have qp : (0 : Int) ≤ (q : Int) + 1 := by omega
          have qw : IntKind.i64.wrap ((q : Int) + 1 - 1) = (q : Int) := by rw [qe]; exact IntWalk.i64_in _ (by omega)
          have qw2 : IntKind.i64.wrap (q : Int) = (q : Int) := IntWalk.i64_in _ (by omega)
          have HW2 := Lib.hid hrow
          have HB2 := Lib.hid hbut
          have HS2 := Lib.hid hst
          have HN2 := Lib.hid hin
          by_cases hk : key P < key Q
          · have hneg : cv < 0 := hlt2.2 hk
            have HI2 := Lib.hid (hin.step (by omega) hji (by rw [← hP, ← hQ]; exact hk))
            have HS3 := Lib.hid (hst.trans (Step.swap (a := a) (b := b) (i := q + 1) (j := q) f2 (by omega) (by omega) (by omega) (by omega)))
            have HP := Lib.hid hP
            have HQ := Lib.hid hQ
            clear hP hQ
            clear hrow hbut hst hin kC hlt2 hcv okP okQ
            rw [ejc]
            go_wp2
            go_region_held3 (fun w' => w'.cell? ⟨g, (q + 1) * 2, none⟩ = some (.int .i64 P.1) ∧ w'.cell? ⟨g, (q + 1) * 2 + 1, none⟩ = some (.int .i64 P.2) ∧ w'.cell? ⟨g, q * 2, none⟩ = some (.int .i64 Q.1) ∧ w'.cell? ⟨g, q * 2 + 1, none⟩ = some (.int .i64 Q.2) ∧ wr.heap.size ≤ w'.heap.size ∧ Below wr.heap.size wr w')
              (first | (simp (disch := first | omega | (simp; done) | (simp; omega)) [go_sem, *]; done) | ((repeat' first | (with_reducible exact Below.refl _ _) | (with_reducible assumption) | (with_reducible refine below_drewN ?_ _) | (with_reducible refine Below.drew ?_) | (with_reducible refine Below.alloc ?_ ?_ _) | (with_reducible refine Below.setCell ?_ ?_ _) | (with_reducible refine Below.trans ?_ (Below.mono (by assumption) ?_)) | first | omega | (simp only [World.size_alloc, World.size_setCell, World.size_drew, size_drewN]; omega) | (simp; done) | (simp; omega) | (simp only [World.size_alloc, World.size_setCell, World.size_drew, size_drewN] at *; omega) | (simp at *; omega)); done) | ((try go_split_ands); (refine ⟨?_, ?_, ?_, ?_, ?_, ?_⟩ <;> first | omega | (simp only [World.size_alloc, World.size_setCell, World.size_drew, size_drewN]; omega) | (simp (disch := first | omega | (simp; done) | (simp; omega)) [go_sem, *]; done) | ((repeat' first | (with_reducible exact Below.refl _ _) | (with_reducible assumption) | (with_reducible refine below_drewN ?_ _) | (with_reducible refine Below.drew ?_) | (with_reducible refine Below.alloc ?_ ?_ _) | (with_reducible refine Below.setCell ?_ ?_ _) | (with_reducible refine Below.trans ?_ (Below.mono (by assumption) ?_)) | first | omega | (simp only [World.size_alloc, World.size_setCell, World.size_drew, size_drewN]; omega) | (simp; done) | (simp; omega) | (simp only [World.size_alloc, World.size_setCell, World.size_drew, size_drewN] at *; omega) | (simp at *; omega)); done))))
              (first | (go_at_call 49; refine (HC.out _).mono ?_; rintro e w5 ⟨rfl, hb5⟩; obtain ⟨hc5, hf5⟩ := bcell hb5; have hz5 := hb5.size; (try simp only [World.size_alloc, World.size_setCell, World.size_drew, size_drewN] at hz5 hc5 hf5)))
            have hB5 : Below wr.heap.size wr w5 := by (repeat' first | (with_reducible exact Below.refl _ _) | (with_reducible assumption) | (with_reducible refine below_drewN ?_ _) | (with_reducible refine Below.drew ?_) | (with_reducible refine Below.alloc ?_ ?_ _) | (with_reducible refine Below.setCell ?_ ?_ _) | (with_reducible refine Below.trans ?_ (Below.mono (by assumption) ?_)) | first | omega | (simp only [World.size_alloc, World.size_setCell, World.size_drew, size_drewN]; omega) | (simp; done) | (simp; omega) | (simp only [World.size_alloc, World.size_setCell, World.size_drew, size_drewN] at *; omega) | (simp at *; omega))
            have hr5 := HW2.out.below hB5 hgw
            have hu5 : But w.heap.size g w w5 := HB2.out.below hB5 (by omega)
            clear hb5 hc5 hf5 x0 x1 y0 y1
            obtain ⟨x0, x1⟩ := hr5.1 (q + 1) (by omega)
            obtain ⟨y0, y1⟩ := hr5.1 q (by omega)
            rw [← HP.out] at x0 x1
            rw [← HQ.out] at y0 y1
            have f0 := hr5.2 ((q + 1) * 2)
            have f1' := hr5.2 ((q + 1) * 2 + 1)
            have f2' := hr5.2 (q * 2)
            have f3 := hr5.2 (q * 2 + 1)
            have s1 := (hr5.of (w' := w5.drew) rfl).swap (i := q + 1) (j := q) (by omega) (by omega) (by omega)
            have s2 := (hr5.of (w' := w5.drew) rfl).swap' (i := q + 1) (j := q) (by omega) (by omega) (by omega)
            have t1 := (hu5.drew.set2 (q + 1) (f2 q)).set2 q (f2 (q + 1))
            have t2 := (hu5.drew.set2 q (f2 (q + 1))).set2 (q + 1) (f2 q)
            rw [← HP.out, ← HQ.out] at s1 s2 t1 t2
            have H1 := Lib.hid (And.intro s1 t1)
            have H2 := Lib.hid (And.intro s2 t2)
            have hne : ¬ (q + 1) * 2 = q * 2 := by omega
            have hne1 : ¬ (q + 1) * 2 + 1 = q * 2 := by omega
            have hne2 : ¬ (q + 1) * 2 = q * 2 + 1 := by omega
            have hne3 : ¬ (q + 1) * 2 + 1 = q * 2 + 1 := by omega
            clear hr5 hu5 s1 s2 t1 t2 hB5
            go_wp2
            go_region
            all_goals go_wp2
            all_goals go_roundw
            all_goals first
              | (case rel => first | exact ⟨q, _, by go_num, by omega, by omega, H1.out.1, H1.out.2, HS3.out, HI2.out⟩ | exact ⟨q, _, by go_num, by omega, by omega, H2.out.1, H2.out.2, HS3.out, HI2.out⟩)
              | (case measure => first | (simp [intOf]; done) | (simp [intOf]; omega))
              | skip
          · have hneg : ¬ cv < 0 := fun h => hk (hlt2.1 h)
            have HF := Lib.hid (hin.stop hj hji (.inr (by rw [show q + 1 - 1 = q by omega, ← hP, ← hQ]; omega)))
            clear hrow hbut hst hin kC hlt2 hcv okP okQ hP hQ
            rw [ejc]
            go_wp2
            go_region_held3 (fun w' => w'.cell? ⟨g, (q + 1) * 2, none⟩ = some (.int .i64 P.1) ∧ w'.cell? ⟨g, (q + 1) * 2 + 1, none⟩ = some (.int .i64 P.2) ∧ w'.cell? ⟨g, q * 2, none⟩ = some (.int .i64 Q.1) ∧ w'.cell? ⟨g, q * 2 + 1, none⟩ = some (.int .i64 Q.2) ∧ wr.heap.size ≤ w'.heap.size ∧ Below wr.heap.size wr w')
              (first | (simp (disch := first | omega | (simp; done) | (simp; omega)) [go_sem, *]; done) | ((repeat' first | (with_reducible exact Below.refl _ _) | (with_reducible assumption) | (with_reducible refine below_drewN ?_ _) | (with_reducible refine Below.drew ?_) | (with_reducible refine Below.alloc ?_ ?_ _) | (with_reducible refine Below.setCell ?_ ?_ _) | (with_reducible refine Below.trans ?_ (Below.mono (by assumption) ?_)) | first | omega | (simp only [World.size_alloc, World.size_setCell, World.size_drew, size_drewN]; omega) | (simp; done) | (simp; omega) | (simp only [World.size_alloc, World.size_setCell, World.size_drew, size_drewN] at *; omega) | (simp at *; omega)); done) | ((try go_split_ands); (refine ⟨?_, ?_, ?_, ?_, ?_, ?_⟩ <;> first | omega | (simp only [World.size_alloc, World.size_setCell, World.size_drew, size_drewN]; omega) | (simp (disch := first | omega | (simp; done) | (simp; omega)) [go_sem, *]; done) | ((repeat' first | (with_reducible exact Below.refl _ _) | (with_reducible assumption) | (with_reducible refine below_drewN ?_ _) | (with_reducible refine Below.drew ?_) | (with_reducible refine Below.alloc ?_ ?_ _) | (with_reducible refine Below.setCell ?_ ?_ _) | (with_reducible refine Below.trans ?_ (Below.mono (by assumption) ?_)) | first | omega | (simp only [World.size_alloc, World.size_setCell, World.size_drew, size_drewN]; omega) | (simp; done) | (simp; omega) | (simp only [World.size_alloc, World.size_setCell, World.size_drew, size_drewN] at *; omega) | (simp at *; omega)); done))))
              (first | (go_at_call 49; refine (HC.out _).mono ?_; rintro e w5 ⟨rfl, hb5⟩; obtain ⟨hc5, hf5⟩ := bcell hb5; have hz5 := hb5.size; (try simp only [World.size_alloc, World.size_setCell, World.size_drew, size_drewN] at hz5 hc5 hf5)))
            have hB5 : Below wr.heap.size wr w5 := by (repeat' first | (with_reducible exact Below.refl _ _) | (with_reducible assumption) | (with_reducible refine below_drewN ?_ _) | (with_reducible refine Below.drew ?_) | (with_reducible refine Below.alloc ?_ ?_ _) | (with_reducible refine Below.setCell ?_ ?_ _) | (with_reducible refine Below.trans ?_ (Below.mono (by assumption) ?_)) | first | omega | (simp only [World.size_alloc, World.size_setCell, World.size_drew, size_drewN]; omega) | (simp; done) | (simp; omega) | (simp only [World.size_alloc, World.size_setCell, World.size_drew, size_drewN] at *; omega) | (simp at *; omega))
            clear hb5 hc5 hf5 x0 x1 y0 y1
            go_wp2
            go_roundw
            case rel => exact ⟨i + 1, f2, by go_num, by omega, .inl (by omega), HW2.out.below hB5 hgw, HB2.out.below hB5 (by omega), HS2.out, HF.out⟩
            case measure => simp [intOf]; omega
    · go_wp2
      go_end0
      refine ⟨rfl, f1, hrow, hbut, hst, fun x y a1 a2 a3 => hsr x y a1 a2 (by omega)⟩
end Go.Proofs.YtjopcpoodhamcaaDoor
