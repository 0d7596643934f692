/-
  The walks of slices' swapRange and rotate at terms. Conditions: none.
-/
import Derived.Test.YtjopcpoodhamcaaSrt1
import Derived.Test.YtjopcpoodhamcaaRead
namespace Go.Proofs.Ytjopcpoodhamcaa
set_option linter.unusedSimpArgs false
set_option linter.unusedVariables false
open Go.RowKit

theorem But.own {B rb : Nat} {a w : World} (h : But B rb a w) (o : Nat) (u : Value) : But B rb a (w.setCell ⟨rb, o, none⟩ u) := by
  refine ⟨h.os, h.tape, h.output, ?_, fun k hk hn => ?_⟩
  · rw [World.size_setCell]; exact h.size
  · rw [Below.heap_setCell _ _ _ _ hn]; exact h.block k hk hn
theorem But.mono {B B' rb : Nat} {a w : World} (h : But B rb a w) (hB : B' ≤ B) : But B' rb a w := ⟨h.os, h.tape, h.output, h.size, fun k hk hn => h.block k (by omega) hn⟩
/-- Block g holds n terms. -/
def RowF (w : World) (g n : Nat) (f : Nat → Tm) : Prop :=
  (∀ k, k < n → w.cell? ⟨g, k * 2, none⟩ = some (.int .i64 (f k).1) ∧ w.cell? ⟨g, k * 2 + 1, none⟩ = some (.int .i64 (f k).2)) ∧ ∀ i, w.frozen? ⟨g, i, none⟩ = false
theorem RowF.of {w w' : World} {g n : Nat} {f : Nat → Tm} (h : RowF w g n f) (hb : w'.heap[g]? = w.heap[g]?) : RowF w' g n f :=
  ⟨fun k hk => ⟨(World.cell?_of_block hb).trans (h.1 k hk).1, (World.cell?_of_block hb).trans (h.1 k hk).2⟩, fun i => (World.frozen?_of_block hb).trans (h.2 i)⟩
theorem RowF.below {w w' : World} {g n B : Nat} {f : Nat → Tm} (h : RowF w g n f) (hb : Below B w w') (hg : g < B) : RowF w' g n f := h.of (hb.block g hg)
theorem RowF.congr {w : World} {g n : Nat} {f f' : Nat → Tm} (h : RowF w g n f) (e : ∀ k, k < n → f' k = f k) : RowF w g n f' :=
  ⟨fun k hk => by rw [e k hk]; exact h.1 k hk, h.2⟩
def set2 (w : World) (g i : Nat) (p : Tm) : World := (w.setCell ⟨g, i * 2, none⟩ (.int .i64 p.1)).setCell ⟨g, i * 2 + 1, none⟩ (.int .i64 p.2)
theorem RowF.set2 {w : World} {g n : Nat} {f : Nat → Tm} (h : RowF w g n f) {i : Nat} (hi : i < n) (p : Tm) : RowF (set2 w g i p) g n (updF f i p) := by
  obtain ⟨e0, e1⟩ := h.1 i hi
  have key : ∀ o, (Go.Proofs.Ytjopcpoodhamcaa.set2 w g i p).cell? ⟨g, o, none⟩ = if o = i * 2 + 1 then some (.int .i64 p.2) else if o = i * 2 then some (.int .i64 p.1) else w.cell? ⟨g, o, none⟩ := by
    intro o
    unfold Go.Proofs.Ytjopcpoodhamcaa.set2
    by_cases b : o = i * 2 + 1
    · subst b; simp [cell_set, e1]
    · rw [if_neg b]
      by_cases d : o = i * 2
      · subst d; simp [cell_set, e0]
      · rw [if_neg d]
        have b' : ¬ i * 2 + 1 = o := fun e => b e.symm
        have d' : ¬ i * 2 = o := fun e => d e.symm
        simp [cell_set, b', d']
  refine ⟨fun k hk => ?_, fun o => ?_⟩
  · rw [key, key]
    unfold updF
    by_cases e : k = i
    · subst e
      rw [if_neg (by omega), if_pos rfl, if_pos rfl, if_pos rfl]
      exact ⟨rfl, rfl⟩
    · have n1 : ¬ k * 2 = i * 2 + 1 := by omega
      have n2 : ¬ k * 2 = i * 2 := by omega
      have n3 : ¬ k * 2 + 1 = i * 2 + 1 := by omega
      have n4 : ¬ k * 2 + 1 = i * 2 := by omega
      rw [if_neg n1, if_neg n2, if_neg n3, if_neg n4, if_neg e]
      exact h.1 k hk
  · unfold Go.Proofs.Ytjopcpoodhamcaa.set2
    simp only [World.frozen?_setCell]
    exact h.2 o
theorem upd_upd {f : Nat → Tm} {i j : Nat} (hij : i ≠ j) : updF (updF f i (f j)) j (f i) = swapF f i j := by
  funext k
  unfold updF swapF
  by_cases a : k = i
  · subst a; simp [hij]
  · simp only [if_neg a]
theorem upd_upd' {f : Nat → Tm} {i j : Nat} (hij : i ≠ j) : updF (updF f j (f i)) i (f j) = swapF f i j := by
  funext k
  unfold updF swapF
  by_cases a : k = i
  · subst a; simp
  · simp only [if_neg a]
theorem RowF.swap {w : World} {g n : Nat} {f : Nat → Tm} (h : RowF w g n f) {i j : Nat} (hi : i < n) (hj : j < n) (hij : i ≠ j) : RowF (Go.Proofs.Ytjopcpoodhamcaa.set2 (Go.Proofs.Ytjopcpoodhamcaa.set2 w g i (f j)) g j (f i)) g n (swapF f i j) := by
  rw [← upd_upd hij]; exact (h.set2 hi _).set2 hj _
theorem RowF.swap' {w : World} {g n : Nat} {f : Nat → Tm} (h : RowF w g n f) {i j : Nat} (hi : i < n) (hj : j < n) (hij : i ≠ j) : RowF (Go.Proofs.Ytjopcpoodhamcaa.set2 (Go.Proofs.Ytjopcpoodhamcaa.set2 w g j (f i)) g i (f j)) g n (swapF f i j) := by
  rw [← upd_upd' hij]; exact (h.set2 hj _).set2 hi _
theorem But.set2 {B g : Nat} {a w : World} (h : But B g a w) (i : Nat) (p : Tm) : But B g a (Go.Proofs.Ytjopcpoodhamcaa.set2 w g i p) := (h.own _ _).own _ _
set_option maxRecDepth 20000 in
set_option maxHeartbeats 2000000 in
theorem swapRange_any (g n c a b m : Nat) (v : Value) (f : Nat → Tm) (w : World) (hn : n ≤ 1000000) (h1 : a + m ≤ b) (h2 : b + m ≤ n) (hR : RowF w g n f) (hg : g < w.heap.size) :
    Calls Try.prog 38 #[.slice (some ⟨g, 0, none⟩) n c, .int .i64 a, .int .i64 b, .int .i64 m, v] w fun e w' => e = .returned (.tuple #[]) ∧ RowF w' g n (swapR f a b m) ∧ But w.heap.size g w w' := by
  have HR := Lib.hid hR
  clear hR
  have a0 : (0 : Int) ≤ (a : Int) := Int.natCast_nonneg _
  have b0 : (0 : Int) ≤ (b : Int) := Int.natCast_nonneg _
  go_enter Try.func38, Try.ntmps38
  go_wp2
  go_loopw [10] (fun i wr => ∃ k : Nat, k ≤ m ∧ i = .int .i64 k ∧ RowF wr g n (swapR f a b k) ∧ But w.heap.size g w wr) (fun i _ => m - (intOf i).toNat)
  case atStart => exact ⟨0, Nat.zero_le _, rfl, by rw [swapR_zero]; exact HR.out, But.refl _ _ _⟩
  case round =>
    obtain ⟨k, hk, rfl, hrow, hbut⟩ := hrel
    by_cases hlt : k < m
    · obtain ⟨p, hp⟩ : ∃ p, p = swapR f a b k (a + k) := ⟨_, rfl⟩
      obtain ⟨q, hq⟩ : ∃ q, q = swapR f a b k (b + k) := ⟨_, rfl⟩
      obtain ⟨x0, x1⟩ := hrow.1 (a + k) (by omega)
      obtain ⟨y0, y1⟩ := hrow.1 (b + k) (by omega)
      rw [← hp] at x0 x1
      rw [← hq] at y0 y1
      have f0 := hrow.2 ((a + k) * 2)
      have f1 := hrow.2 ((a + k) * 2 + 1)
      have f2 := hrow.2 ((b + k) * 2)
      have f3 := hrow.2 ((b + k) * 2 + 1)
      have s1 := (hrow.of (w' := wr.drew) rfl).swap (i := a + k) (j := b + k) (by omega) (by omega) (by omega)
      have s2 := (hrow.of (w' := wr.drew) rfl).swap' (i := a + k) (j := b + k) (by omega) (by omega) (by omega)
      rw [swapR_succ f a b k (by omega), ← hp, ← hq] at s1 s2
      have t1 := (hbut.drew.set2 (a + k) q).set2 (b + k) p
      have t2 := (hbut.drew.set2 (b + k) p).set2 (a + k) q
      have H1 := Lib.hid (And.intro s1 t1)
      have H2 := Lib.hid (And.intro s2 t2)
      have k0 : (0 : Int) ≤ (k : Int) := Int.natCast_nonneg _
      have i1 : (a : Int) + (k : Int) < (n : Int) := by omega
      have i2 : (b : Int) + (k : Int) < (n : Int) := by omega
      have i3 : (a : Int) + (k : Int) ≤ 1000000 := by omega
      have i4 : (b : Int) + (k : Int) ≤ 1000000 := by omega
      have hne : ¬ (a + k) * 2 = (b + k) * 2 := by omega
      have hne1 : ¬ (a + k) * 2 + 1 = (b + k) * 2 := by omega
      have hne2 : ¬ (a + k) * 2 = (b + k) * 2 + 1 := by omega
      have hne3 : ¬ (a + k) * 2 + 1 = (b + k) * 2 + 1 := by omega
      clear hrow hbut s1 s2 t1 t2 hp hq
      go_wp2
      go_region
      all_goals go_wp2
      all_goals go_roundw
      all_goals first
        | (case rel => first | exact ⟨k + 1, by omega, by go_num, H1.out.1, H1.out.2⟩ | exact ⟨k + 1, by omega, by go_num, H2.out.1, H2.out.2⟩)
        | (case measure => simp [intOf]; omega)
        | skip
    · obtain rfl : k = m := by omega
      go_wp2
      go_end0
      exact ⟨rfl, hrow, hbut⟩
set_option maxRecDepth 20000 in
set_option maxHeartbeats 2000000 in
theorem rotate_any (g n c a m b : Nat) (v : Value) (f : Nat → Tm) (w : World) (hn : n ≤ 1000000) (h1 : a < m) (h2 : m < b) (h3 : b ≤ n) (hR : RowF w g n f) (hg : g < w.heap.size) :
    Calls Try.prog 37 #[.slice (some ⟨g, 0, none⟩) n c, .int .i64 a, .int .i64 m, .int .i64 b, v] w fun e w' => e = .returned (.tuple #[]) ∧ RowF w' g n (rotR f a m b) ∧ But w.heap.size g w w' ∧ Step a b f (rotR f a m b) := by
  have HR := Lib.hid hR
  have HI := Lib.hid (rot_start (f := f) (a := a) (m := m) (b := b) (by omega) (by omega))
  clear hR
  have a0 : (0 : Int) ≤ (a : Int) := Int.natCast_nonneg _
  have m0 : (0 : Int) ≤ (m : Int) := Int.natCast_nonneg _
  have b0 : (0 : Int) ≤ (b : Int) := Int.natCast_nonneg _
  have z1 : (a : Int) < (m : Int) := by omega
  have z2 : (m : Int) < (b : Int) := by omega
  have z3 : (b : Int) ≤ 1000000 := by omega
  go_enter Try.func37, Try.ntmps37
  go_wp2
  go_loopw [10, 11] (fun x y wr => ∃ (i j : Nat) (f' : Nat → Tm), x = .int .i64 i ∧ y = .int .i64 j ∧ 0 < i ∧ 0 < j ∧ RotInv f' (rotR f a m b) a m b i j ∧ RowF wr g n f' ∧ But w.heap.size g w wr ∧ Step a b f f') (fun x y _ => (intOf x).toNat + (intOf y).toNat)
  case atStart => exact ⟨m - a, b - m, f, by congr 1; omega, by congr 1; omega, by omega, by omega, HI.out, HR.out, But.refl _ _ _, Step.refl _ _ _⟩
  case round =>
    obtain ⟨i, j, f', rfl, rfl, i0, j0, hinv, hrow, hbut, hst⟩ := hrel
    have hbz := hbut.size
    have q1 := hinv.1
    have q2 := hinv.2.1
    have ii : (0 : Int) < (i : Int) := by omega
    have jj : (0 : Int) < (j : Int) := by omega
    have iz : (i : Int) ≤ (m : Int) - (a : Int) := by omega
    have jz : (j : Int) ≤ (b : Int) - (m : Int) := by omega
    have HV := Lib.hid hinv
    have HW := Lib.hid hrow
    have HB := Lib.hid hbut
    have HS := Lib.hid hst
    have e1 : ((m - i : Nat) : Int) = (m : Int) - (i : Int) := by omega
    have e2 : ((m + j - i : Nat) : Int) = (m : Int) + (j : Int) - (i : Int) := by omega
    clear hinv hrow hbut hst q1 q2
    by_cases hij : i = j
    · subst hij
      have hc : ∀ W, RowF W g n f' → g < W.heap.size → Calls Try.prog 38 #[.slice (some ⟨g, 0, none⟩) n c, .int .i64 ((m : Int) - (i : Int)), .int .i64 m, .int .i64 i, v] W fun e w' => e = .returned (.tuple #[]) ∧ RowF w' g n (rotR f a m b) ∧ But W.heap.size g W w' := fun W hW hgW => by
        have := swapRange_any g n c (m - i) m i v f' W hn (by omega) (by omega) hW hgW
        rw [rot_last HV.out, e1] at this
        exact this
      have HC := Lib.hid hc
      have hs2 : Step a b f' (rotR f a m b) := by rw [← rot_last HV.out]; exact Step.swapR f' (by omega) (by omega) (by omega)
      have HS2 := Lib.hid (HS.out.trans hs2)
      clear hc hs2 e1 e2
      go_wp2_with fail
      refine (HC.out _ HW.out (by omega)).mono ?_
      rintro e w1 ⟨rfl, hr1, hb1⟩
      go_wp2
      go_end0
      exact ⟨rfl, hr1, HB.out.trans (hb1.mono hbz), HS2.out⟩
    · have hij' : ¬ (i : Int) = (j : Int) := by omega
      have hij2 : ((i : Int) == (j : Int)) = false := by rw [beq_eq_false_iff_ne]; exact hij'
      by_cases hgt : j < i
      · have hgt' : (j : Int) < (i : Int) := by omega
        have hc : ∀ W, RowF W g n f' → g < W.heap.size → Calls Try.prog 38 #[.slice (some ⟨g, 0, none⟩) n c, .int .i64 ((m : Int) - (i : Int)), .int .i64 m, .int .i64 j, v] W fun e w' => e = .returned (.tuple #[]) ∧ RowF w' g n (swapR f' (m - i) m j) ∧ But W.heap.size g W w' := fun W hW hgW => by
          have := swapRange_any g n c (m - i) m j v f' W hn (by omega) (by omega) hW hgW
          rw [e1] at this
          exact this
        have HC := Lib.hid hc
        have HI2 := Lib.hid (rot_left HV.out hgt)
        have HS2 := Lib.hid (HS.out.trans (Step.swapR f' (a := m - i) (b := m) (n := j) (x := a) (y := b) (by omega) (by omega) (by omega)))
        clear hc e1 e2
        go_wp2_with fail
        refine (HC.out _ HW.out (by omega)).mono ?_
        rintro e w1 ⟨rfl, hr1, hb1⟩
        have HB1 := Lib.hid (HB.out.trans (hb1.mono hbz))
        have HR1 := Lib.hid hr1
        clear hb1 hr1
        go_wp2
        go_roundw
        case rel => exact ⟨i - j, j, _, by congr 1; omega, rfl, by omega, by omega, HI2.out, HR1.out, HB1.out, HS2.out⟩
        case measure => simp [intOf]; omega
      · have hgt' : ¬ (j : Int) < (i : Int) := by omega
        have hlt' : (i : Int) < (j : Int) := by omega
        have hc : ∀ W, RowF W g n f' → g < W.heap.size → Calls Try.prog 38 #[.slice (some ⟨g, 0, none⟩) n c, .int .i64 ((m : Int) - (i : Int)), .int .i64 ((m : Int) + (j : Int) - (i : Int)), .int .i64 i, v] W fun e w' => e = .returned (.tuple #[]) ∧ RowF w' g n (swapR f' (m - i) (m + j - i) i) ∧ But W.heap.size g W w' := fun W hW hgW => by
          have := swapRange_any g n c (m - i) (m + j - i) i v f' W hn (by omega) (by omega) hW hgW
          rw [e1, e2] at this
          exact this
        have HC := Lib.hid hc
        have HI2 := Lib.hid (rot_right HV.out (by omega))
        have HS2 := Lib.hid (HS.out.trans (Step.swapR f' (a := m - i) (b := m + j - i) (n := i) (x := a) (y := b) (by omega) (by omega) (by omega)))
        clear hc e1 e2
        go_wp2_with fail
        refine (HC.out _ HW.out (by omega)).mono ?_
        rintro e w1 ⟨rfl, hr1, hb1⟩
        have HB1 := Lib.hid (HB.out.trans (hb1.mono hbz))
        have HR1 := Lib.hid hr1
        clear hb1 hr1
        go_wp2
        go_roundw
        case rel => exact ⟨i, j - i, _, rfl, by congr 1; omega, by omega, by omega, HI2.out, HR1.out, HB1.out, HS2.out⟩
        case measure => simp [intOf]; omega
end Go.Proofs.Ytjopcpoodhamcaa
