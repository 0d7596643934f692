import Derived.Test.YtjopcpoodhamcaaDoorGn
import Derived.Test.YtjopcpoodhamcaaDoorGm
import Derived.Handy
/-
  The walks of the laws' own toShellS, szShellS, eqShellS, markShellS. Conditions: none.
-/
namespace Go.Proofs.YtjopcpoodhamcaaDoor
set_option linter.unusedSimpArgs false
set_option linter.unusedVariables false
open Go.RowKit

theorem RowB.far {w w' : World} {lo hi g : Nat} {v : Value} {xs : List Tm} (y : RowB w lo hi v xs) (hd : g < lo ∨ hi ≤ g) (hg : w.grownBy w' (some g)) : RowB w' lo hi v xs := by
  rcases y with h | ⟨gy, c', e, k1, k2, k3, k4, k5⟩
  · exact .inl h
  · have hne : gy ≠ g := by omega
    have hlt : gy < w.heap.size := by omega
    refine .inr ⟨gy, c', e, k1, k2, Nat.le_trans k3 hg.size, fun k p hp => ?_, fun i => ?_⟩
    · obtain ⟨a, b⟩ := k4 k p hp
      exact ⟨(World.cell?_of_block (hg.block gy hlt (by simpa using hne))).trans a, (World.cell?_of_block (hg.block gy hlt (by simpa using hne))).trans b⟩
    · exact (World.frozen?_of_block (hg.block gy hlt (by simpa using hne))).trans (k5 i)
/-- v is a row of the shells xs that lies between lo and hi. -/
def RwB (w : World) (lo hi : Nat) (v : Value) (xs : List Sh) : Prop :=
  ∃ g c, v = .slice (some ⟨g, 0, none⟩) xs.length c ∧ lo ≤ g ∧ g < hi ∧ hi ≤ w.heap.size ∧ ShOf w g 0 xs ∧ ∀ i, w.frozen? ⟨g, i, none⟩ = false
theorem RwB.below {w w' : World} {lo hi : Nat} {v : Value} {xs : List Sh} (h : RwB w lo hi v xs) (hb : Below w.heap.size w w') : RwB w' lo hi v xs := by
  obtain ⟨g, c, e, h1, h2, h3, h4, h5⟩ := h
  exact ⟨g, c, e, h1, h2, Nat.le_trans h3 hb.size, h4.below hb (by omega), fun i => (hb.frozen (p := ⟨g, i, none⟩) (by show g < _; omega)).trans (h5 i)⟩
theorem RwB.inp {w : World} {lo hi : Nat} {v : Value} {xs : List Sh} (h : RwB w lo hi v xs) : RwI w v xs := by
  obtain ⟨g, c, e, h1, h2, h3, h4, -⟩ := h
  exact .inr ⟨g, 0, c, e, by omega, h4⟩
set_option maxHeartbeats 400000 in
theorem toSh_any (n l c : Int) (w : World) :
    Calls Tryd.prog 37 #[.agg #[.int .i64 n, .int .i64 l, .int .i64 c]] w fun e w' => e = .returned (.agg #[.int .i64 n, .int .i64 l, .int .i64 c]) ∧ Below w.heap.size w w' := by
  go_enter Tryd.func37, Tryd.ntmps37
  go_wp2
  go_returns
  exact ⟨rfl, by (repeat' first | (with_reducible exact Below.refl _ _) | (with_reducible assumption) | (with_reducible refine below_drewN ?_ _) | (with_reducible refine Below.drew ?_) | (with_reducible refine Below.alloc ?_ ?_ _) | (with_reducible refine Below.setCell ?_ ?_ _) | (with_reducible refine Below.trans ?_ (Below.mono (by assumption) ?_)) | first | omega | (simp only [World.size_alloc, World.size_setCell, World.size_drew, size_drewN]; omega) | (simp; done) | (simp; omega) | (simp only [World.size_alloc, World.size_setCell, World.size_drew, size_drewN] at *; omega) | (simp at *; omega))⟩
/-- A list of the laws' own shells that came in. -/
def ArgH (w : World) (a : Option Addr) (len : Nat) (xs : List Sh) : Prop :=
  xs.length = len ∧ (0 < len → ∃ b o, a = some ⟨b, o, none⟩ ∧ b < w.heap.size ∧ ShOf w b o xs)
theorem ArgH.below {w w' : World} {a : Option Addr} {len : Nat} {xs : List Sh} (h : ArgH w a len xs) (hb : Below w.heap.size w w') : ArgH w' a len xs :=
  ⟨h.1, fun h0 => by obtain ⟨b, o, e, h1, h2⟩ := h.2 h0; exact ⟨b, o, e, Nat.lt_of_lt_of_le h1 hb.size, h2.below hb h1⟩⟩
/-- The row that toShellS fills: k shells are in. -/
structure FilH (w : World) (R n k : Nat) (xs : List Sh) : Prop where
  lt : R < w.heap.size
  at' : ∀ i, i < n * 3 → ∃ v, w.cell? ⟨R, i, none⟩ = some v
  free : ∀ i, w.frozen? ⟨R, i, none⟩ = false
  done : ∀ j p, j < k → xs[j]? = some p → w.cell? ⟨R, j * 3, none⟩ = some (.int .i64 p.1) ∧ w.cell? ⟨R, j * 3 + 1, none⟩ = some (.int .i64 p.2.1) ∧ w.cell? ⟨R, j * 3 + 2, none⟩ = some (.int .i64 p.2.2)
theorem FilH.below {B R n k : Nat} {w w' : World} {xs : List Sh} (h : FilH w R n k xs) (hb : Below B w w') (hB : R < B) : FilH w' R n k xs :=
  ⟨Nat.lt_of_lt_of_le h.lt hb.size, fun i hi => by obtain ⟨v, hv⟩ := h.at' i hi; exact ⟨v, (hb.cell (p := ⟨R, i, none⟩) hB).trans hv⟩, fun i => (hb.frozen (p := ⟨R, i, none⟩) hB).trans (h.free i),
    fun j p hj hp => by obtain ⟨a, b, c⟩ := h.done j p hj hp; exact ⟨(hb.cell (p := ⟨R, _, none⟩) hB).trans a, (hb.cell (p := ⟨R, _, none⟩) hB).trans b, (hb.cell (p := ⟨R, _, none⟩) hB).trans c⟩⟩
theorem three_key {w : World} {R k : Nat} {u0 u1 u2 : Value} (x0 : ∃ v, w.cell? ⟨R, k * 3, none⟩ = some v) (x1 : ∃ v, w.cell? ⟨R, k * 3 + 1, none⟩ = some v) (x2 : ∃ v, w.cell? ⟨R, k * 3 + 2, none⟩ = some v) (i : Nat) :
    (((w.setCell ⟨R, k * 3, none⟩ u0).setCell ⟨R, k * 3 + 1, none⟩ u1).setCell ⟨R, k * 3 + 2, none⟩ u2).cell? ⟨R, i, none⟩ =
      if i = k * 3 + 2 then some u2 else if i = k * 3 + 1 then some u1 else if i = k * 3 then some u0 else w.cell? ⟨R, i, none⟩ := by
  obtain ⟨x0, e0⟩ := x0
  obtain ⟨x1, e1⟩ := x1
  obtain ⟨x2, e2⟩ := x2
  by_cases a : i = k * 3 + 2
  · subst a; simp [cell_set, e2]
  · rw [if_neg a]
    by_cases b : i = k * 3 + 1
    · subst b; simp [cell_set, e1]
    · rw [if_neg b]
      by_cases d : i = k * 3
      · subst d; simp [cell_set, e0]
      · rw [if_neg d]
        have a' : ¬ k * 3 + 2 = i := fun e => a e.symm
        have b' : ¬ k * 3 + 1 = i := fun e => b e.symm
        have d' : ¬ k * 3 = i := fun e => d e.symm
        simp [cell_set, a', b', d']
theorem FilH.step {R n k : Nat} {w : World} {xs : List Sh} {p : Sh} (h : FilH w R n k xs) (hk : k < n) (hp : xs[k]? = some p) :
    FilH (((w.setCell ⟨R, k * 3, none⟩ (.int .i64 p.1)).setCell ⟨R, k * 3 + 1, none⟩ (.int .i64 p.2.1)).setCell ⟨R, k * 3 + 2, none⟩ (.int .i64 p.2.2)) R n (k + 1) xs := by
  have key := fun i => three_key (u0 := .int .i64 p.1) (u1 := .int .i64 p.2.1) (u2 := .int .i64 p.2.2) (h.at' (k * 3) (by omega)) (h.at' (k * 3 + 1) (by omega)) (h.at' (k * 3 + 2) (by omega)) i
  refine ⟨by simp only [World.size_setCell]; exact h.lt, fun i hi => ?_, fun i => by simp only [World.frozen?_setCell]; exact h.free i, fun j q hj hq => ?_⟩
  · rw [key i]
    split
    · exact ⟨_, rfl⟩
    split
    · exact ⟨_, rfl⟩
    split
    · exact ⟨_, rfl⟩
    · exact h.at' i hi
  · rw [key, key, key]
    by_cases c : j = k
    · subst c
      rw [hp] at hq
      have : p = q := by simpa using hq
      subst this
      refine ⟨?_, ?_, ?_⟩
      · rw [if_neg (by omega), if_neg (by omega), if_pos rfl]
      · rw [if_neg (by omega), if_pos rfl]
      · rw [if_pos rfl]
    · obtain ⟨a, b, d⟩ := h.done j q (by omega) hq
      refine ⟨?_, ?_, ?_⟩
      · rw [if_neg (by omega), if_neg (by omega), if_neg (by omega)]; exact a
      · rw [if_neg (by omega), if_neg (by omega), if_neg (by omega)]; exact b
      · rw [if_neg (by omega), if_neg (by omega), if_neg (by omega)]; exact d
set_option maxHeartbeats 1000000 in
theorem toShellS_any (a : Option Addr) (len cap : Nat) (xs : List Sh) (w : World) (h : ArgH w a len xs) (hl : len ≤ 2000000) :
    Calls Tryd.prog 18 #[.slice a len cap] w fun e w' => ∃ v, e = .returned v ∧ RwB w' w.heap.size w'.heap.size v xs ∧ Below w.heap.size w w' := by
  obtain ⟨i0, ihi, iz0, iz1, iz2⟩ := info_parts infoH
  have hmk := run_make (P := Tryd.prog) w 23 45 i0 (.agg #[.int .i64 0, .int .i64 0, .int .i64 0]) Tryd.underlying23 ihi iz0 .i64 .i64 len len (by omega) (Int.le_refl _) (by rw [iz2]; omega) (by omega)
  simp only [Int.toNat_natCast] at hmk
  obtain ⟨wm, hwm⟩ : ∃ W, W = w.alloc (.cells (madeCells (Value.agg #[.int .i64 0, .int .i64 0, .int .i64 0]).cells (len * i0.size)) 45) := ⟨_, rfl⟩
  rw [← hwm] at hmk
  have hbm : Below w.heap.size w wm := by rw [hwm]; (repeat' first | (with_reducible exact Below.refl _ _) | (with_reducible assumption) | (with_reducible refine below_drewN ?_ _) | (with_reducible refine Below.drew ?_) | (with_reducible refine Below.alloc ?_ ?_ _) | (with_reducible refine Below.setCell ?_ ?_ _) | (with_reducible refine Below.trans ?_ (Below.mono (by assumption) ?_)) | first | omega | (simp only [World.size_alloc, World.size_setCell, World.size_drew, size_drewN]; omega) | (simp; done) | (simp; omega) | (simp only [World.size_alloc, World.size_setCell, World.size_drew, size_drewN] at *; omega) | (simp at *; omega))
  have hF : FilH wm w.heap.size len 0 xs := by
    refine ⟨by rw [hwm]; simp, fun i hi => ?_, fun i => by rw [hwm]; simp, fun j p hj => by omega⟩
    rw [hwm]
    have hsz : i < (madeCells (Value.agg #[.int .i64 0, .int .i64 0, .int .i64 0]).cells (len * i0.size)).size := by rw [size_madeCells, iz1]; exact hi
    simp [hsz]
  obtain ⟨hxl, hxa⟩ := h
  have HA := Lib.hid hxa
  have HF := Lib.hid hF
  have HXL := Lib.hid hxl
  have hzm := hbm.size
  clear hF hwm hxa hxl
  go_enter Tryd.func18, Tryd.ntmps18
  go_wp2
  go_loopw [4] (fun ii wr => ∃ k : Nat, k ≤ len ∧ ii = .int .i64 k ∧ FilH wr w.heap.size len k xs ∧ Below w.heap.size w wr) (fun ii _ => len - (intOf ii).toNat)
  case atStart => exact ⟨0, Nat.zero_le _, rfl, HF.out, hbm⟩
  case round =>
    obtain ⟨k, hk, rfl, hfil, hbel⟩ := hrel
    have i0' : (0 : Int) ≤ (k : Int) := Int.natCast_nonneg _
    have hbz := hbel.size
    have HFL := Lib.hid hfil
    have hRl := hfil.lt
    clear hfil
    by_cases hlt : k < len
    · obtain ⟨b, o, rfl, hb, htm⟩ := HA.out (by omega)
      obtain ⟨p, hp⟩ : ∃ p, xs[k]? = some p := ⟨_, List.getElem?_eq_getElem (by have := HXL.out; omega)⟩
      obtain ⟨c0, c1, c2⟩ := htm k p hp
      have r0 := (hbel.cell (p := ⟨b, o + k * 3, none⟩) hb).trans c0
      have r1 := (hbel.cell (p := ⟨b, o + k * 3 + 1, none⟩) hb).trans c1
      have r2 := (hbel.cell (p := ⟨b, o + k * 3 + 2, none⟩) hb).trans c2
      have HP := Lib.hid hp
      have i1' : (k : Int) < (len : Int) := by omega
      clear hp c0 c1 c2 htm
      go_wp2_with fail
      refine (toSh_any _ _ _ _).mono ?_
      rintro e w5 ⟨rfl, hb5⟩
      have hz5 := hb5.size
      have hF5 := HFL.out.below hb5 hRl
      obtain ⟨x0, e0⟩ := hF5.at' (k * 3) (by omega)
      obtain ⟨x1, e1⟩ := hF5.at' (k * 3 + 1) (by omega)
      obtain ⟨x2, e2⟩ := hF5.at' (k * 3 + 2) (by omega)
      have f0 := hF5.free (k * 3)
      have f1 := hF5.free (k * 3 + 1)
      have f2 := hF5.free (k * 3 + 2)
      have HST := Lib.hid (hF5.step hlt HP.out)
      have HB5 : Below w.heap.size w w5 := hbel.trans (hb5.mono (by omega))
      clear hF5 hb5 r0 r1 r2
      go_wp2
      go_roundw
      case rel => exact ⟨k + 1, hlt, by go_num, HST.out, by (repeat' first | (with_reducible exact Below.refl _ _) | (with_reducible assumption) | (with_reducible refine below_drewN ?_ _) | (with_reducible refine Below.drew ?_) | (with_reducible refine Below.alloc ?_ ?_ _) | (with_reducible refine Below.setCell ?_ ?_ _) | (with_reducible refine Below.trans ?_ (Below.mono (by assumption) ?_)) | first | omega | (simp only [World.size_alloc, World.size_setCell, World.size_drew, size_drewN]; omega) | (simp; done) | (simp; omega) | (simp only [World.size_alloc, World.size_setCell, World.size_drew, size_drewN] at *; omega) | (simp at *; omega))⟩
      case measure => simp [intOf]; omega
    · obtain rfl : k = len := by omega
      go_wp2
      go_ret
      refine ⟨_, rfl, ⟨w.heap.size, k, by rw [HXL.out]; rfl, Nat.le_refl _, HFL.out.lt, Nat.le_refl _, fun j p hp => ?_, HFL.out.free⟩, hbel⟩
      have := (List.getElem?_eq_some_iff.1 hp).1
      have := HXL.out
      simp only [Nat.zero_add]
      exact HFL.out.done j p (by omega) hp
set_option maxHeartbeats 400000 in
theorem szShellS_any (a : Option Addr) (len cap : Nat) (left : Int) (w : World) (h0 : 0 ≤ left) (h1 : left ≤ 1048576) (hl : len ≤ maxLen) :
    Calls Tryd.prog 17 #[.slice a len cap, .int .i64 left] w fun e w' => e = .returned (.int .i64 (if left < (len : Int) then -1 else left - (len : Int))) ∧ w = w' := by
  unfold maxLen at hl
  have q1 : IntKind.i64.wrap (left - (len : Int)) = left - (len : Int) := IntWalk.i64_in _ (by omega)
  by_cases h : left < (len : Int)
  · rw [if_pos h]
    have d1 : decide (left - (len : Int) < 0) = true := by simp; omega
    have d2 : left - (len : Int) < 0 := by omega
    go_enter Tryd.func17, Tryd.ntmps17
    go_wp2
    go_ret
    exact ⟨rfl, rfl⟩
  · rw [if_neg h]
    have d1 : decide (left - (len : Int) < 0) = false := by simp; omega
    have d2 : ¬ left - (len : Int) < 0 := by omega
    go_enter Tryd.func17, Tryd.ntmps17
    go_wp2
    go_ret
    exact ⟨rfl, rfl⟩
set_option maxHeartbeats 400000 in
theorem eqSh_same (n l c : Int) (w : World) :
    Calls Tryd.prog 39 #[.agg #[.int .i64 n, .int .i64 l, .int .i64 c], .agg #[.int .i64 n, .int .i64 l, .int .i64 c]] w fun e w' => e = .returned (.bool true) ∧ Below w.heap.size w w' := by
  go_enter Tryd.func39, Tryd.ntmps39
  go_wp2
  try go_quiet (fail)
  try go_wp2
  try go_quiet (fail)
  try go_wp2
  try go_quiet (fail)
  try go_wp2
  go_ret
  exact ⟨rfl, by (repeat' first | (with_reducible exact Below.refl _ _) | (with_reducible assumption) | (with_reducible refine below_drewN ?_ _) | (with_reducible refine Below.drew ?_) | (with_reducible refine Below.alloc ?_ ?_ _) | (with_reducible refine Below.setCell ?_ ?_ _) | (with_reducible refine Below.trans ?_ (Below.mono (by assumption) ?_)) | first | omega | (simp only [World.size_alloc, World.size_setCell, World.size_drew, size_drewN]; omega) | (simp; done) | (simp; omega) | (simp only [World.size_alloc, World.size_setCell, World.size_drew, size_drewN] at *; omega) | (simp at *; omega))⟩
set_option maxHeartbeats 1000000 in
theorem eqSS_any (v1 v2 : Value) (xs : List Sh) (w : World) (hs : xs.length ≤ 2000000) (h1 : RwI w v1 xs) (h2 : RwI w v2 xs) :
    Calls Tryd.prog 20 #[v1, v2] w fun e w' => e = .returned (.bool true) ∧ Below w.heap.size w w' := by
  have H1 := Lib.hid h1
  have H2 := Lib.hid h2
  obtain ⟨a1, c1, rfl⟩ := h1.form
  obtain ⟨a2, c2, rfl⟩ := h2.form
  clear h1 h2
  go_enter Tryd.func20, Tryd.ntmps20
  go_wp2
  go_loopw [5] (fun i wr => ∃ k : Nat, k ≤ xs.length ∧ i = .int .i64 k ∧ Below w.heap.size w wr) (fun i _ => xs.length - (intOf i).toNat)
  case atStart => exact ⟨0, Nat.zero_le _, rfl, Below.refl _ _⟩
  case round =>
    obtain ⟨k, hk, rfl, hbel⟩ := hrel
    have hbz := hbel.size
    by_cases hlt : k < xs.length
    · obtain ⟨g1, o1, c1', p, hv1, hp, hg1, r0, r1, r2⟩ := (H1.out.below hbel).get hlt
      obtain ⟨g2, o2, c2', p', hv2, hp', hg2, t0, t1, t2⟩ := (H2.out.below hbel).get hlt
      have hpp : p' = p := by have := hp.symm.trans hp'; simpa using this.symm
      subst hpp
      simp only [Value.slice.injEq, true_and] at hv1 hv2
      obtain ⟨rfl, rfl⟩ := hv1
      obtain ⟨rfl, rfl⟩ := hv2
      clear hp hp'
      have i0 : (0 : Int) ≤ (k : Int) := Int.natCast_nonneg _
      have i1 : (k : Int) < (xs.length : Int) := by omega
      go_wp2
      go_region_held3 (fun w' => w'.cell? ⟨g1, o1 + k * 3, none⟩ = some (.int .i64 p'.1) ∧ w'.cell? ⟨g1, o1 + k * 3 + 1, none⟩ = some (.int .i64 p'.2.1) ∧ w'.cell? ⟨g1, o1 + k * 3 + 2, none⟩ = some (.int .i64 p'.2.2) ∧
          w'.cell? ⟨g2, o2 + k * 3, none⟩ = some (.int .i64 p'.1) ∧ w'.cell? ⟨g2, o2 + k * 3 + 1, none⟩ = some (.int .i64 p'.2.1) ∧ w'.cell? ⟨g2, o2 + k * 3 + 2, none⟩ = some (.int .i64 p'.2.2) ∧ w.heap.size ≤ w'.heap.size ∧ wr.heap.size ≤ w'.heap.size ∧ Below w.heap.size w w' ∧ Below wr.heap.size wr w')
        (first | (simp (disch := first | omega | (simp; done) | (simp; omega)) [go_sem, *]; done) | ((repeat' first | (with_reducible exact Below.refl _ _) | (with_reducible assumption) | (with_reducible refine below_drewN ?_ _) | (with_reducible refine Below.drew ?_) | (with_reducible refine Below.alloc ?_ ?_ _) | (with_reducible refine Below.setCell ?_ ?_ _) | (with_reducible refine Below.trans ?_ (Below.mono (by assumption) ?_)) | first | omega | (simp only [World.size_alloc, World.size_setCell, World.size_drew, size_drewN]; omega) | (simp; done) | (simp; omega) | (simp only [World.size_alloc, World.size_setCell, World.size_drew, size_drewN] at *; omega) | (simp at *; omega)); done) | ((try go_split_ands); (refine ⟨?_, ?_, ?_, ?_, ?_, ?_, ?_, ?_, ?_, ?_⟩ <;> first | omega | (simp only [World.size_alloc, World.size_setCell, World.size_drew, size_drewN]; omega) | (simp (disch := first | omega | (simp; done) | (simp; omega)) [go_sem, *]; done) | ((repeat' first | (with_reducible exact Below.refl _ _) | (with_reducible assumption) | (with_reducible refine below_drewN ?_ _) | (with_reducible refine Below.drew ?_) | (with_reducible refine Below.alloc ?_ ?_ _) | (with_reducible refine Below.setCell ?_ ?_ _) | (with_reducible refine Below.trans ?_ (Below.mono (by assumption) ?_)) | first | omega | (simp only [World.size_alloc, World.size_setCell, World.size_drew, size_drewN]; omega) | (simp; done) | (simp; omega) | (simp only [World.size_alloc, World.size_setCell, World.size_drew, size_drewN] at *; omega) | (simp at *; omega)); done))))
        (first | (go_at_call 39; refine (eqSh_same _ _ _ _).mono ?_; rintro e w5 ⟨rfl, hb5⟩; obtain ⟨hc5, hf5⟩ := bcell hb5; have hz5 := hb5.size; (try simp only [World.size_alloc, World.size_setCell, World.size_drew, size_drewN] at hz5 hc5 hf5)))
      have hB5 : Below w.heap.size w w5 := by (repeat' first | (with_reducible exact Below.refl _ _) | (with_reducible assumption) | (with_reducible refine below_drewN ?_ _) | (with_reducible refine Below.drew ?_) | (with_reducible refine Below.alloc ?_ ?_ _) | (with_reducible refine Below.setCell ?_ ?_ _) | (with_reducible refine Below.trans ?_ (Below.mono (by assumption) ?_)) | first | omega | (simp only [World.size_alloc, World.size_setCell, World.size_drew, size_drewN]; omega) | (simp; done) | (simp; omega) | (simp only [World.size_alloc, World.size_setCell, World.size_drew, size_drewN] at *; omega) | (simp at *; omega))
      clear hbel hb5 r0 r1 r2 t0 t1 t2 hc5 hf5
      go_wp2
      go_roundw
      case rel => exact ⟨k + 1, by omega, by go_num, hB5⟩
      case measure => simp [intOf]; omega
    · obtain rfl : k = xs.length := by omega
      go_wp2
      go_ret
      exact ⟨rfl, hbel⟩
theorem markH_step {w wr : World} {g n k : Nat} {u0 u1 u2 : Value} (hk : k < n) (hc : ∀ i, i < n * 3 → ∃ v, wr.cell? ⟨g, i, none⟩ = some v) (hf : ∀ i, wr.frozen? ⟨g, i, none⟩ = false) (hg : w.grownBy wr (some g)) :
    let w' := ((wr.setCell ⟨g, k * 3, none⟩ u0).setCell ⟨g, k * 3 + 1, none⟩ u1).setCell ⟨g, k * 3 + 2, none⟩ u2
    (∀ i, i < n * 3 → ∃ v, w'.cell? ⟨g, i, none⟩ = some v) ∧ (∀ i, w'.frozen? ⟨g, i, none⟩ = false) ∧ w.grownBy w' (some g) := by
  intro w'
  have key := fun i => three_key (u0 := u0) (u1 := u1) (u2 := u2) (hc (k * 3) (by omega)) (hc (k * 3 + 1) (by omega)) (hc (k * 3 + 2) (by omega)) i
  refine ⟨fun i hi => ?_, fun i => ?_, ⟨hg.os, hg.tape, hg.output, ?_, fun j hj hne => ?_⟩⟩
  · rw [key i]
    split
    · exact ⟨_, rfl⟩
    split
    · exact ⟨_, rfl⟩
    split
    · exact ⟨_, rfl⟩
    · exact hc i hi
  · simp only [w', World.frozen?_setCell]; exact hf i
  · simp only [w', World.size_setCell]; exact hg.size
  · have hne' : j ≠ g := by simpa using hne
    simp only [w']
    rw [Below.heap_setCell _ _ _ _ hne', Below.heap_setCell _ _ _ _ hne', Below.heap_setCell _ _ _ _ hne']
    exact hg.block j hj hne
set_option maxHeartbeats 800000 in
theorem markH_some (g c n : Nat) (w : World) (hn : n ≤ 2000000) (hc : ∀ i, i < n * 3 → ∃ v, w.cell? ⟨g, i, none⟩ = some v) (hf : ∀ i, w.frozen? ⟨g, i, none⟩ = false) :
    Calls Tryd.prog 21 #[.slice (some ⟨g, 0, none⟩) n c, .int .i64 1] w fun e w' => e = .returned (.int .i64 (1 + 3 * (n : Int))) ∧ w.grownBy w' (some g) := by
  have HC := Lib.hid hc
  have HF := Lib.hid hf
  clear hc hf
  go_enter Tryd.func21, Tryd.ntmps21
  go_wp2
  go_loopw [1, 5] (fun q i wr => ∃ k : Nat, k ≤ n ∧ i = .int .i64 k ∧ q = .int .i64 (1 + 3 * (k : Int)) ∧ (∀ i, i < n * 3 → ∃ v, wr.cell? ⟨g, i, none⟩ = some v) ∧ (∀ i, wr.frozen? ⟨g, i, none⟩ = false) ∧ w.grownBy wr (some g)) (fun _ i _ => n - (intOf i).toNat)
  case atStart => exact ⟨0, Nat.zero_le _, rfl, rfl, HC.out, HF.out, ⟨rfl, rfl, rfl, Nat.le_refl _, fun _ _ _ => rfl⟩⟩
  case round =>
    obtain ⟨k, hk, rfl, rfl, hcell, hfree, hgrow⟩ := hrel
    by_cases hlt : k < n
    · obtain ⟨x0, e0⟩ := hcell (k * 3) (by omega)
      obtain ⟨x1, e1⟩ := hcell (k * 3 + 1) (by omega)
      obtain ⟨x2, e2⟩ := hcell (k * 3 + 2) (by omega)
      have f0 := hfree (k * 3)
      have f1 := hfree (k * 3 + 1)
      have f2 := hfree (k * 3 + 2)
      have R := Lib.hid (fun (u0 u1 u2 : Value) => markH_step (u0 := u0) (u1 := u1) (u2 := u2) hlt hcell hfree hgrow)
      clear hcell hfree hgrow
      have i0 : (0 : Int) ≤ (k : Int) := Int.natCast_nonneg _
      have i1 : (k : Int) < (n : Int) := by omega
      go_wp2
      refine ⟨⟨k + 1, by omega, by go_num, by go_num, (R.out _ _ _).1, (R.out _ _ _).2.1, (R.out _ _ _).2.2⟩, by simp [intOf]; omega⟩
    · obtain rfl : k = n := by omega
      go_wp2
      go_ret
      exact ⟨rfl, hgrow⟩
theorem RwB.cells {w : World} {lo hi : Nat} {v : Value} {xs : List Sh} (h : RwB w lo hi v xs) : ∃ g c, v = .slice (some ⟨g, 0, none⟩) xs.length c ∧ lo ≤ g ∧ g < hi ∧ (∀ i, i < xs.length * 3 → ∃ v, w.cell? ⟨g, i, none⟩ = some v) ∧ ∀ i, w.frozen? ⟨g, i, none⟩ = false := by
  obtain ⟨g, c, e, h1, h2, h3, h4, h5⟩ := h
  refine ⟨g, c, e, h1, h2, fun i hi => ?_, h5⟩
  obtain ⟨p, hp⟩ : ∃ p, xs[i / 3]? = some p := ⟨_, List.getElem?_eq_getElem (by omega)⟩
  obtain ⟨a, b, d⟩ := h4 (i / 3) p hp
  simp only [Nat.zero_add] at a b d
  rcases (show i % 3 = 0 ∨ i % 3 = 1 ∨ i % 3 = 2 by omega) with e | e | e
  · exact ⟨_, by rw [show i = i / 3 * 3 by omega]; exact a⟩
  · exact ⟨_, by rw [show i = i / 3 * 3 + 1 by omega]; exact b⟩
  · exact ⟨_, by rw [show i = i / 3 * 3 + 2 by omega]; exact d⟩
theorem markH_any (v : Value) (lo hi : Nat) (xs : List Sh) (w : World) (hs : xs.length ≤ 2000000) (h : RwB w lo hi v xs) :
    Calls Tryd.prog 21 #[v, .int .i64 1] w fun e w' => e = .returned (.int .i64 (1 + 3 * (xs.length : Int))) ∧ w.heap.size ≤ w'.heap.size ∧ (∀ B, B ≤ lo → B ≤ w.heap.size → Below B w w') ∧ ∃ g, lo ≤ g ∧ g < hi ∧ w.grownBy w' (some g) := by
  obtain ⟨g, c, rfl, h1, h2, h3, h4⟩ := h.cells
  refine (markH_some g c xs.length w hs h3 h4).mono ?_
  rintro e w' ⟨rfl, hg⟩
  exact ⟨rfl, hg.size, fun B hB hB2 => Below.grown (Below.refl _ _) hg hB2 (fun k hk => by cases hk; omega), g, h1, h2, hg⟩
end Go.Proofs.YtjopcpoodhamcaaDoor
