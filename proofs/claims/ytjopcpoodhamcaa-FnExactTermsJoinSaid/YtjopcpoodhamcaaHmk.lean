/-
  The walks of the laws' own toTermS, szTermS, eqTermS, markTermS, heldTermS. Conditions: none.
-/
import Derived.Test.YtjopcpoodhamcaaHlp
import Derived.Handy
namespace Go.Proofs.Ytjopcpoodhamcaa
set_option linter.unusedSimpArgs false
set_option linter.unusedVariables false
open Go.RowKit

set_option maxHeartbeats 400000 in
theorem toTm_any (s l : Int) (w : World) :
    Calls Try.prog 14 #[.agg #[.int .i64 s, .int .i64 l]] w fun e w' => e = .returned (.agg #[.int .i64 s, .int .i64 l]) ∧ Below w.heap.size w w' := by
  go_enter Try.func14, Try.ntmps14
  go_wp2
  go_returns
  exact ⟨rfl, by (repeat' first | (with_reducible exact Below.refl _ _) | (with_reducible assumption) | (with_reducible refine below_drewN ?_ _) | (with_reducible refine Below.drew ?_) | (with_reducible refine Below.alloc ?_ ?_ _) | (with_reducible refine Below.setCell ?_ ?_ _) | (with_reducible refine Below.trans ?_ (Below.mono (by assumption) ?_)) | first | omega | (simp only [World.size_alloc, World.size_setCell, World.size_drew, size_drewN]; omega) | (simp; done) | (simp; omega) | (simp only [World.size_alloc, World.size_setCell, World.size_drew, size_drewN] at *; omega) | (simp at *; omega))⟩
/-- A list of the laws' own terms that came in. -/
def ArgT (w : World) (a : Option Addr) (len : Nat) (xs : List Tm) : Prop :=
  xs.length = len ∧ (0 < len → ∃ b o, a = some ⟨b, o, none⟩ ∧ b < w.heap.size ∧ TmOf w b o xs)
theorem ArgT.below {w w' : World} {a : Option Addr} {len : Nat} {xs : List Tm} (h : ArgT w a len xs) (hb : Below w.heap.size w w') : ArgT w' a len xs :=
  ⟨h.1, fun h0 => by obtain ⟨b, o, e, h1, h2⟩ := h.2 h0; exact ⟨b, o, e, Nat.lt_of_lt_of_le h1 hb.size, h2.below hb h1⟩⟩
/-- The row that toTermS fills: k terms are in. -/
structure Fil (w : World) (R n k : Nat) (xs : List Tm) : Prop where
  lt : R < w.heap.size
  at' : ∀ i, i < n * 2 → ∃ v, w.cell? ⟨R, i, none⟩ = some v
  free : ∀ i, w.frozen? ⟨R, i, none⟩ = false
  done : ∀ j p, j < k → xs[j]? = some p → w.cell? ⟨R, j * 2, none⟩ = some (.int .i64 p.1) ∧ w.cell? ⟨R, j * 2 + 1, none⟩ = some (.int .i64 p.2)
theorem Fil.below {B R n k : Nat} {w w' : World} {xs : List Tm} (h : Fil w R n k xs) (hb : Below B w w') (hB : R < B) : Fil w' R n k xs :=
  ⟨Nat.lt_of_lt_of_le h.lt hb.size, fun i hi => by obtain ⟨v, hv⟩ := h.at' i hi; exact ⟨v, (hb.cell (p := ⟨R, i, none⟩) hB).trans hv⟩, fun i => (hb.frozen (p := ⟨R, i, none⟩) hB).trans (h.free i),
    fun j p hj hp => by obtain ⟨a, b⟩ := h.done j p hj hp; exact ⟨(hb.cell (p := ⟨R, _, none⟩) hB).trans a, (hb.cell (p := ⟨R, _, none⟩) hB).trans b⟩⟩
theorem Fil.step {R n k : Nat} {w : World} {xs : List Tm} {p : Tm} (h : Fil w R n k xs) (hk : k < n) (hp : xs[k]? = some p) :
    Fil ((w.setCell ⟨R, k * 2, none⟩ (.int .i64 p.1)).setCell ⟨R, k * 2 + 1, none⟩ (.int .i64 p.2)) R n (k + 1) xs := by
  obtain ⟨x0, e0⟩ := h.at' (k * 2) (by omega)
  obtain ⟨x1, e1⟩ := h.at' (k * 2 + 1) (by omega)
  have key : ∀ i, ((w.setCell ⟨R, k * 2, none⟩ (.int .i64 p.1)).setCell ⟨R, k * 2 + 1, none⟩ (.int .i64 p.2)).cell? ⟨R, i, none⟩ = if i = k * 2 + 1 then some (.int .i64 p.2) else if i = k * 2 then some (.int .i64 p.1) else w.cell? ⟨R, i, none⟩ := by
    intro i
    by_cases b : i = k * 2 + 1
    · subst b; simp [cell_set, e1]
    · rw [if_neg b]
      by_cases d : i = k * 2
      · subst d; simp [cell_set, e0]
      · rw [if_neg d]
        have b' : ¬ k * 2 + 1 = i := fun e => b e.symm
        have d' : ¬ k * 2 = i := fun e => d e.symm
        simp [cell_set, b', d']
  refine ⟨by simp only [World.size_setCell]; exact h.lt, fun i hi => ?_, fun i => by simp only [World.frozen?_setCell]; exact h.free i, fun j q hj hq => ?_⟩
  · rw [key i]
    split
    · exact ⟨_, rfl⟩
    split
    · exact ⟨_, rfl⟩
    · exact h.at' i hi
  · rw [key, key]
    by_cases c : j = k
    · subst c
      rw [hp] at hq
      have : p = q := by simpa using hq
      subst this
      constructor
      · rw [if_neg (by omega), if_pos rfl]
      · rw [if_pos rfl]
    · obtain ⟨a, b⟩ := h.done j q (by omega) hq
      constructor
      · rw [if_neg (by omega), if_neg (by omega)]; exact a
      · rw [if_neg (by omega), if_neg (by omega)]; exact b
set_option maxHeartbeats 1000000 in
theorem toTermS_any (a : Option Addr) (len cap : Nat) (xs : List Tm) (w : World) (h : ArgT w a len xs) (hl : len ≤ 2000000) :
    Calls Try.prog 6 #[.slice a len cap] w fun e w' => ∃ v, e = .returned v ∧ RowL w' w.heap.size v xs ∧ Below w.heap.size w w' := by
  obtain ⟨i0, ihi, iz0, iz1, iz2⟩ := info_parts infoT
  have hmk := run_make (P := Try.prog) w 24 34 i0 (.agg #[.int .i64 0, .int .i64 0]) Try.underlying24 ihi iz0 .i64 .i64 len len (by omega) (Int.le_refl _) (by rw [iz2]; omega) (by omega)
  simp only [Int.toNat_natCast] at hmk
  obtain ⟨wm, hwm⟩ : ∃ W, W = w.alloc (.cells (madeCells (Value.agg #[.int .i64 0, .int .i64 0]).cells (len * i0.size)) 34) := ⟨_, rfl⟩
  rw [← hwm] at hmk
  have hbm : Below w.heap.size w wm := by rw [hwm]; (repeat' first | (with_reducible exact Below.refl _ _) | (with_reducible assumption) | (with_reducible refine below_drewN ?_ _) | (with_reducible refine Below.drew ?_) | (with_reducible refine Below.alloc ?_ ?_ _) | (with_reducible refine Below.setCell ?_ ?_ _) | (with_reducible refine Below.trans ?_ (Below.mono (by assumption) ?_)) | first | omega | (simp only [World.size_alloc, World.size_setCell, World.size_drew, size_drewN]; omega) | (simp; done) | (simp; omega) | (simp only [World.size_alloc, World.size_setCell, World.size_drew, size_drewN] at *; omega) | (simp at *; omega))
  have hF : Fil wm w.heap.size len 0 xs := by
    refine ⟨by rw [hwm]; simp, fun i hi => ?_, fun i => by rw [hwm]; simp, fun j p hj => by omega⟩
    rw [hwm]
    have hsz : i < (madeCells (Value.agg #[.int .i64 0, .int .i64 0]).cells (len * i0.size)).size := by rw [size_madeCells, iz1]; exact hi
    simp [hsz]
  obtain ⟨hxl, hxa⟩ := h
  have HA := Lib.hid hxa
  have HF := Lib.hid hF
  have HXL := Lib.hid hxl
  have hzm := hbm.size
  clear hF hwm hxa hxl
  go_enter Try.func6, Try.ntmps6
  go_wp2
  go_loopw [4] (fun ii wr => ∃ k : Nat, k ≤ len ∧ ii = .int .i64 k ∧ Fil wr w.heap.size len k xs ∧ Below w.heap.size w wr) (fun ii _ => len - (intOf ii).toNat)
  case atStart => exact ⟨0, Nat.zero_le _, rfl, HF.out, hbm⟩
  case round =>
    obtain ⟨k, hk, rfl, hfil, hbel⟩ := hrel
    have i0' : (0 : Int) ≤ (k : Int) := Int.natCast_nonneg _
    have hbz := hbel.size
    have HFL := Lib.hid hfil
    have hRl := hfil.lt
    clear hfil
    by_cases hlt : k < len
    · obtain ⟨b, o, rfl, hb, htm⟩ := HA.out (by omega)
      obtain ⟨p, hp⟩ : ∃ p, xs[k]? = some p := ⟨_, List.getElem?_eq_getElem (by have := HXL.out; omega)⟩
      obtain ⟨c0, c1⟩ := htm k p hp
      have r0 := (hbel.cell (p := ⟨b, o + k * 2, none⟩) hb).trans c0
      have r1 := (hbel.cell (p := ⟨b, o + k * 2 + 1, none⟩) hb).trans c1
      have HP := Lib.hid hp
      have i1' : (k : Int) < (len : Int) := by omega
      clear hp c0 c1 htm
      go_wp2_with fail
      refine (toTm_any _ _ _).mono ?_
      rintro e w5 ⟨rfl, hb5⟩
      have hz5 := hb5.size
      have hF5 := HFL.out.below hb5 hRl
      obtain ⟨x0, e0⟩ := hF5.at' (k * 2) (by omega)
      obtain ⟨x1, e1⟩ := hF5.at' (k * 2 + 1) (by omega)
      have f0 := hF5.free (k * 2)
      have f1 := hF5.free (k * 2 + 1)
      have HST := Lib.hid (hF5.step hlt HP.out)
      have HB5 : Below w.heap.size w w5 := hbel.trans (hb5.mono (by omega))
      clear hF5 hb5 r0 r1
      go_wp2
      go_roundw
      case rel => exact ⟨k + 1, hlt, by go_num, HST.out, by (repeat' first | (with_reducible exact Below.refl _ _) | (with_reducible assumption) | (with_reducible refine below_drewN ?_ _) | (with_reducible refine Below.drew ?_) | (with_reducible refine Below.alloc ?_ ?_ _) | (with_reducible refine Below.setCell ?_ ?_ _) | (with_reducible refine Below.trans ?_ (Below.mono (by assumption) ?_)) | first | omega | (simp only [World.size_alloc, World.size_setCell, World.size_drew, size_drewN]; omega) | (simp; done) | (simp; omega) | (simp only [World.size_alloc, World.size_setCell, World.size_drew, size_drewN] at *; omega) | (simp at *; omega))⟩
      case measure => simp [intOf]; omega
    · obtain rfl : k = len := by omega
      go_wp2
      go_ret
      refine ⟨_, rfl, ⟨w.heap.size, k, by rw [HXL.out]; rfl, Nat.le_refl _, HFL.out.lt, fun j p hp => HFL.out.done j p ?_ hp, HFL.out.free⟩, hbel⟩
      have := (List.getElem?_eq_some_iff.1 hp).1
      have := HXL.out
      omega
set_option maxHeartbeats 400000 in
theorem szTermS_any (a : Option Addr) (len cap : Nat) (left : Int) (w : World) (h0 : 0 ≤ left) (h1 : left ≤ 1048576) (hl : len ≤ maxLen) :
    Calls Try.prog 4 #[.slice a len cap, .int .i64 left] w fun e w' => e = .returned (.int .i64 (if left < (len : Int) then -1 else left - (len : Int))) ∧ w = w' := by
  unfold maxLen at hl
  have q1 : IntKind.i64.wrap (left - (len : Int)) = left - (len : Int) := IntWalk.i64_in _ (by omega)
  by_cases h : left < (len : Int)
  · rw [if_pos h]
    have d1 : decide (left - (len : Int) < 0) = true := by simp; omega
    have d2 : left - (len : Int) < 0 := by omega
    go_enter Try.func4, Try.ntmps4
    go_wp2
    go_ret
    exact ⟨rfl, rfl⟩
  · rw [if_neg h]
    have d1 : decide (left - (len : Int) < 0) = false := by simp; omega
    have d2 : ¬ left - (len : Int) < 0 := by omega
    go_enter Try.func4, Try.ntmps4
    go_wp2
    go_ret
    exact ⟨rfl, rfl⟩
set_option maxHeartbeats 400000 in
theorem eqTm_same (s l : Int) (w : World) :
    Calls Try.prog 19 #[.agg #[.int .i64 s, .int .i64 l], .agg #[.int .i64 s, .int .i64 l]] w fun e w' => e = .returned (.bool true) ∧ Below w.heap.size w w' := by
  go_enter Try.func19, Try.ntmps19
  go_wp2
  try go_quiet (fail)
  try go_wp2
  try go_quiet (fail)
  try go_wp2
  go_ret
  exact ⟨rfl, by (repeat' first | (with_reducible exact Below.refl _ _) | (with_reducible assumption) | (with_reducible refine below_drewN ?_ _) | (with_reducible refine Below.drew ?_) | (with_reducible refine Below.alloc ?_ ?_ _) | (with_reducible refine Below.setCell ?_ ?_ _) | (with_reducible refine Below.trans ?_ (Below.mono (by assumption) ?_)) | first | omega | (simp only [World.size_alloc, World.size_setCell, World.size_drew, size_drewN]; omega) | (simp; done) | (simp; omega) | (simp only [World.size_alloc, World.size_setCell, World.size_drew, size_drewN] at *; omega) | (simp at *; omega))⟩
set_option maxHeartbeats 1000000 in
theorem eqS_any (v1 v2 : Value) (xs : List Tm) (w : World) (hs : xs.length ≤ 2000000) (h1 : RowI w v1 xs) (h2 : RowI w v2 xs) :
    Calls Try.prog 8 #[v1, v2] w fun e w' => e = .returned (.bool true) ∧ Below w.heap.size w w' := by
  have H1 := Lib.hid h1
  have H2 := Lib.hid h2
  obtain ⟨a1, c1, rfl⟩ := h1.form
  obtain ⟨a2, c2, rfl⟩ := h2.form
  clear h1 h2
  go_enter Try.func8, Try.ntmps8
  go_wp2
  go_loopw [5] (fun i wr => ∃ k : Nat, k ≤ xs.length ∧ i = .int .i64 k ∧ Below w.heap.size w wr) (fun i _ => xs.length - (intOf i).toNat)
  case atStart => exact ⟨0, Nat.zero_le _, rfl, Below.refl _ _⟩
  case round =>
    obtain ⟨k, hk, rfl, hbel⟩ := hrel
    have hbz := hbel.size
    by_cases hlt : k < xs.length
    · obtain ⟨g1, o1, c1', p, hv1, hp, hg1, r0, r1⟩ := (H1.out.below hbel).get hlt
      obtain ⟨g2, o2, c2', p', hv2, hp', hg2, t0, t1⟩ := (H2.out.below hbel).get hlt
      have hpp : p' = p := by have := hp.symm.trans hp'; simpa using this.symm
      subst hpp
      simp only [Value.slice.injEq, true_and] at hv1 hv2
      obtain ⟨rfl, rfl⟩ := hv1
      obtain ⟨rfl, rfl⟩ := hv2
      clear hp hp'
      have i0 : (0 : Int) ≤ (k : Int) := Int.natCast_nonneg _
      have i1 : (k : Int) < (xs.length : Int) := by omega
      go_wp2
      go_region_held3 (fun w' => w'.cell? ⟨g1, o1 + k * 2, none⟩ = some (.int .i64 p'.1) ∧ w'.cell? ⟨g1, o1 + k * 2 + 1, none⟩ = some (.int .i64 p'.2) ∧
          w'.cell? ⟨g2, o2 + k * 2, none⟩ = some (.int .i64 p'.1) ∧ w'.cell? ⟨g2, o2 + k * 2 + 1, none⟩ = some (.int .i64 p'.2) ∧ w.heap.size ≤ w'.heap.size ∧ wr.heap.size ≤ w'.heap.size ∧ Below w.heap.size w w' ∧ Below wr.heap.size wr w')
        (first | (simp (disch := first | omega | (simp; done) | (simp; omega)) [go_sem, *]; done) | ((repeat' first | (with_reducible exact Below.refl _ _) | (with_reducible assumption) | (with_reducible refine below_drewN ?_ _) | (with_reducible refine Below.drew ?_) | (with_reducible refine Below.alloc ?_ ?_ _) | (with_reducible refine Below.setCell ?_ ?_ _) | (with_reducible refine Below.trans ?_ (Below.mono (by assumption) ?_)) | first | omega | (simp only [World.size_alloc, World.size_setCell, World.size_drew, size_drewN]; omega) | (simp; done) | (simp; omega) | (simp only [World.size_alloc, World.size_setCell, World.size_drew, size_drewN] at *; omega) | (simp at *; omega)); done) | ((try go_split_ands); (refine ⟨?_, ?_, ?_, ?_, ?_, ?_, ?_, ?_⟩ <;> first | omega | (simp only [World.size_alloc, World.size_setCell, World.size_drew, size_drewN]; omega) | (simp (disch := first | omega | (simp; done) | (simp; omega)) [go_sem, *]; done) | ((repeat' first | (with_reducible exact Below.refl _ _) | (with_reducible assumption) | (with_reducible refine below_drewN ?_ _) | (with_reducible refine Below.drew ?_) | (with_reducible refine Below.alloc ?_ ?_ _) | (with_reducible refine Below.setCell ?_ ?_ _) | (with_reducible refine Below.trans ?_ (Below.mono (by assumption) ?_)) | first | omega | (simp only [World.size_alloc, World.size_setCell, World.size_drew, size_drewN]; omega) | (simp; done) | (simp; omega) | (simp only [World.size_alloc, World.size_setCell, World.size_drew, size_drewN] at *; omega) | (simp at *; omega)); done))))
        (first | (go_at_call 19; refine (eqTm_same _ _ _).mono ?_; rintro e w5 ⟨rfl, hb5⟩; obtain ⟨hc5, hf5⟩ := bcell hb5; have hz5 := hb5.size; (try simp only [World.size_alloc, World.size_setCell, World.size_drew, size_drewN] at hz5 hc5 hf5)))
      have hB5 : Below w.heap.size w w5 := by (repeat' first | (with_reducible exact Below.refl _ _) | (with_reducible assumption) | (with_reducible refine below_drewN ?_ _) | (with_reducible refine Below.drew ?_) | (with_reducible refine Below.alloc ?_ ?_ _) | (with_reducible refine Below.setCell ?_ ?_ _) | (with_reducible refine Below.trans ?_ (Below.mono (by assumption) ?_)) | first | omega | (simp only [World.size_alloc, World.size_setCell, World.size_drew, size_drewN]; omega) | (simp; done) | (simp; omega) | (simp only [World.size_alloc, World.size_setCell, World.size_drew, size_drewN] at *; omega) | (simp at *; omega))
      clear hbel hb5 r0 r1 t0 t1 hc5 hf5
      go_wp2
      go_roundw
      case rel => exact ⟨k + 1, by omega, by go_num, hB5⟩
      case measure => simp [intOf]; omega
    · obtain rfl : k = xs.length := by omega
      go_wp2
      go_ret
      exact ⟨rfl, hbel⟩
/-- The n cells of block g bear the numbers from q on. -/
def Marked (w : World) (g n : Nat) (q : Int) : Prop := ∀ i, i < n → w.cell? ⟨g, i, none⟩ = some (.int .i64 (q + (i : Int)))
theorem mark_step {w wr : World} {g n k : Nat} (hk : k < n) (hm : Marked wr g (k * 2) 1) (hc : ∀ i, i < n * 2 → ∃ v, wr.cell? ⟨g, i, none⟩ = some v) (hf : ∀ i, wr.frozen? ⟨g, i, none⟩ = false) (hg : w.grownBy wr (some g)) :
    let w' := (wr.setCell ⟨g, k * 2, none⟩ (.int .i64 (1 + 2 * (k : Int)))).setCell ⟨g, k * 2 + 1, none⟩ (.int .i64 (1 + 2 * (k : Int) + 1))
    Marked w' g ((k + 1) * 2) 1 ∧ (∀ i, i < n * 2 → ∃ v, w'.cell? ⟨g, i, none⟩ = some v) ∧ (∀ i, w'.frozen? ⟨g, i, none⟩ = false) ∧ w.grownBy w' (some g) := by
  intro w'
  obtain ⟨x0, e0⟩ := hc (k * 2) (by omega)
  obtain ⟨x1, e1⟩ := hc (k * 2 + 1) (by omega)
  have key : ∀ i, w'.cell? ⟨g, i, none⟩ = if i = k * 2 + 1 then some (.int .i64 (1 + 2 * (k : Int) + 1)) else if i = k * 2 then some (.int .i64 (1 + 2 * (k : Int))) else wr.cell? ⟨g, i, none⟩ := by
    intro i
    by_cases b : i = k * 2 + 1
    · subst b; simp [w', cell_set, e1]
    · rw [if_neg b]
      by_cases d : i = k * 2
      · subst d; simp [w', cell_set, e0]
      · rw [if_neg d]
        have b' : ¬ k * 2 + 1 = i := fun e => b e.symm
        have d' : ¬ k * 2 = i := fun e => d e.symm
        simp [w', cell_set, b', d']
  refine ⟨fun i hi => ?_, fun i hi => ?_, fun i => ?_, ⟨hg.os, hg.tape, hg.output, ?_, fun j hj hne => ?_⟩⟩
  · rw [key i]
    split
    · rename_i h; subst h; congr 2; omega
    split
    · rename_i h; subst h; congr 2; omega
    · exact hm i (by omega)
  · rw [key i]
    split
    · exact ⟨_, rfl⟩
    split
    · exact ⟨_, rfl⟩
    · exact hc i hi
  · simp only [w', World.frozen?_setCell]; exact hf i
  · simp only [w', World.size_setCell]; exact hg.size
  · have hne' : j ≠ g := by simpa using hne
    simp only [w']
    rw [Below.heap_setCell _ _ _ _ hne', Below.heap_setCell _ _ _ _ hne']
    exact hg.block j hj hne
set_option maxHeartbeats 400000 in
theorem mark_nil (q : Int) (w : World) :
    Calls Try.prog 9 #[.slice none 0 0, .int .i64 q] w fun e w' => e = .returned (.int .i64 q) ∧ w = w' := by
  go_enter Try.func9, Try.ntmps9
  go_wp2
  refine wp_loop_rounds 1 ?_
  rw [rounds_succ]
  go_wp2
  go_ret
  exact ⟨rfl, rfl⟩
set_option maxHeartbeats 800000 in
theorem mark_some (g c n : Nat) (w : World) (hn : n ≤ 2000000) (hc : ∀ i, i < n * 2 → ∃ v, w.cell? ⟨g, i, none⟩ = some v) (hf : ∀ i, w.frozen? ⟨g, i, none⟩ = false) :
    Calls Try.prog 9 #[.slice (some ⟨g, 0, none⟩) n c, .int .i64 1] w fun e w' => e = .returned (.int .i64 (1 + 2 * (n : Int))) ∧ Marked w' g (n * 2) 1 ∧ w.grownBy w' (some g) := by
  have HC := Lib.hid hc
  have HF := Lib.hid hf
  clear hc hf
  go_enter Try.func9, Try.ntmps9
  go_wp2
  go_loopw [1, 5] (fun q i wr => ∃ k : Nat, k ≤ n ∧ i = .int .i64 k ∧ q = .int .i64 (1 + 2 * (k : Int)) ∧ Marked wr g (k * 2) 1 ∧ (∀ i, i < n * 2 → ∃ v, wr.cell? ⟨g, i, none⟩ = some v) ∧ (∀ i, wr.frozen? ⟨g, i, none⟩ = false) ∧ w.grownBy wr (some g)) (fun _ i _ => n - (intOf i).toNat)
  case atStart => exact ⟨0, Nat.zero_le _, rfl, rfl, fun i hi => by omega, HC.out, HF.out, ⟨rfl, rfl, rfl, Nat.le_refl _, fun _ _ _ => rfl⟩⟩
  case round =>
    obtain ⟨k, hk, rfl, rfl, hm, hcell, hfree, hgrow⟩ := hrel
    by_cases hlt : k < n
    · obtain ⟨x0, e0⟩ := hcell (k * 2) (by omega)
      obtain ⟨x1, e1⟩ := hcell (k * 2 + 1) (by omega)
      have f0 := hfree (k * 2)
      have f1 := hfree (k * 2 + 1)
      have R := Lib.hid (mark_step hlt hm hcell hfree hgrow)
      clear hm hcell hfree hgrow
      have i0 : (0 : Int) ≤ (k : Int) := Int.natCast_nonneg _
      have i1 : (k : Int) < (n : Int) := by omega
      go_wp2
      have R' := R.out
      exact ⟨⟨k + 1, by omega, by go_num, by go_num, R'.1, R'.2.1, R'.2.2.1, R'.2.2.2⟩, by simp [intOf]; omega⟩
    · obtain rfl : k = n := by omega
      go_wp2
      go_ret
      exact ⟨rfl, hm, hgrow⟩
/-- v is a row of n terms whose numbers were written over, in memory from base on. -/
def Heldr (w : World) (base : Nat) (v : Value) (n : Nat) : Prop := (v = .slice none 0 0 ∧ n = 0) ∨ ∃ g c, v = .slice (some ⟨g, 0, none⟩) n c ∧ base ≤ g ∧ g < w.heap.size ∧ Marked w g (n * 2) 1
theorem Heldr.below {w w' : World} {base n : Nat} {v : Value} (h : Heldr w base v n) (hb : Below w.heap.size w w') : Heldr w' base v n := by
  rcases h with h | ⟨g, c, rfl, h1, h2, h3⟩
  · exact .inl h
  · exact .inr ⟨g, c, rfl, h1, Nat.lt_of_lt_of_le h2 hb.size, fun i hi => (hb.cell (p := ⟨g, i, none⟩) h2).trans (h3 i hi)⟩
theorem RowL.cells {w : World} {base g c : Nat} {xs : List Tm} (h : RowL w base (.slice (some ⟨g, 0, none⟩) xs.length c) xs) : base ≤ g ∧ g < w.heap.size ∧ (∀ i, i < xs.length * 2 → ∃ v, w.cell? ⟨g, i, none⟩ = some v) ∧ ∀ i, w.frozen? ⟨g, i, none⟩ = false := by
  obtain ⟨g', c', e, h1, h2, h3, h4⟩ := h
  simp only [Value.slice.injEq, Option.some.injEq, Addr.mk.injEq, and_true, true_and] at e
  obtain ⟨rfl, -⟩ := e
  refine ⟨h1, h2, fun i hi => ?_, h4⟩
  obtain ⟨p, hp⟩ : ∃ p, xs[i / 2]? = some p := ⟨_, List.getElem?_eq_getElem (by omega)⟩
  obtain ⟨a, b⟩ := h3 (i / 2) p hp
  rcases Nat.mod_two_eq_zero_or_one i with e | e
  · exact ⟨_, by rw [show i = i / 2 * 2 by omega]; exact a⟩
  · exact ⟨_, by rw [show i = i / 2 * 2 + 1 by omega]; exact b⟩
/-- Marking a row that the call made: memory below base is as it was. -/
theorem mark_any (v : Value) (base : Nat) (xs : List Tm) (w : World) (hs : xs.length ≤ 2000000) (h : RowR w base v xs) :
    Calls Try.prog 9 #[v, .int .i64 1] w fun e w' => e = .returned (.int .i64 (1 + 2 * (xs.length : Int))) ∧ Heldr w' base v xs.length ∧ w.heap.size ≤ w'.heap.size ∧ (∀ B, B ≤ base → B ≤ w.heap.size → Below B w w') ∧ ∃ g, w.grownBy w' (some g) ∧ (v.ownBlock = some g ∨ w = w') := by
  rcases h with ⟨rfl, rfl⟩ | h
  · refine (mark_nil 1 w).mono ?_
    rintro e w' ⟨rfl, rfl⟩
    exact ⟨rfl, .inl ⟨rfl, rfl⟩, Nat.le_refl _, fun B _ _ => Below.refl _ _, 0, ⟨rfl, rfl, rfl, Nat.le_refl _, fun _ _ _ => rfl⟩, .inr rfl⟩
  · obtain ⟨g, c, rfl, -⟩ := id h
    obtain ⟨h1, h2, h3, h4⟩ := h.cells
    refine (mark_some g c xs.length w hs h3 h4).mono ?_
    rintro e w' ⟨rfl, hm, hg⟩
    exact ⟨rfl, .inr ⟨g, c, rfl, h1, Nat.lt_of_lt_of_le h2 hg.size, hm⟩, hg.size, fun B hB hB2 => Below.grown (Below.refl _ _) hg hB2 (fun k hk => by cases hk; omega), g, hg, .inl rfl⟩
set_option maxHeartbeats 400000 in
theorem held_nil (q : Int) (w : World) :
    Calls Try.prog 10 #[.slice none 0 0, .int .i64 q] w fun e w' => e = .returned (.int .i64 q) ∧ w = w' := by
  go_enter Try.func10, Try.ntmps10
  go_wp2
  refine wp_loop_rounds 1 ?_
  rw [rounds_succ]
  go_wp2
  go_ret
  exact ⟨rfl, rfl⟩
set_option maxHeartbeats 800000 in
theorem held_some (g c n : Nat) (w : World) (hn : n ≤ 2000000) (hm : Marked w g (n * 2) 1) :
    Calls Try.prog 10 #[.slice (some ⟨g, 0, none⟩) n c, .int .i64 1] w fun e w' => e = .returned (.int .i64 (1 + 2 * (n : Int))) ∧ w = w' := by
  have HM := Lib.hid hm
  clear hm
  go_enter Try.func10, Try.ntmps10
  go_wp2
  go_loop [1, 5] (fun q i => ∃ k : Nat, k ≤ n ∧ i = .int .i64 k ∧ q = .int .i64 (1 + 2 * (k : Int))) (fun _ i => n - (intOf i).toNat)
  case atStart => exact ⟨0, Nat.zero_le _, rfl, rfl⟩
  case round =>
    obtain ⟨k, hk, rfl, rfl⟩ := hrel
    by_cases hlt : k < n
    · have e0 : w.cell? ⟨g, k * 2, none⟩ = some (.int .i64 (1 + 2 * (k : Int))) := by rw [HM.out (k * 2) (by omega)]; congr 2; omega
      have e1 : w.cell? ⟨g, k * 2 + 1, none⟩ = some (.int .i64 (1 + 2 * (k : Int) + 1)) := by rw [HM.out (k * 2 + 1) (by omega)]; congr 2; omega
      have i0 : (0 : Int) ≤ (k : Int) := Int.natCast_nonneg _
      have i1 : (k : Int) < (n : Int) := by omega
      go_wp2
      go_round
      case rel => exact ⟨k + 1, by omega, by go_num, by go_num⟩
      case measure => simp [intOf]; omega
    · obtain rfl : k = n := by omega
      go_wp2
      go_ret
      exact ⟨rfl, rfl⟩
theorem held_any (v : Value) (base n : Nat) (w : World) (hs : n ≤ 2000000) (h : Heldr w base v n) :
    Calls Try.prog 10 #[v, .int .i64 1] w fun e w' => e = .returned (.int .i64 (1 + 2 * (n : Int))) ∧ Below w.heap.size w w' := by
  rcases h with ⟨rfl, rfl⟩ | ⟨g, c, rfl, h1, h2, h3⟩
  · refine (held_nil 1 w).mono ?_
    rintro e w' ⟨rfl, rfl⟩
    exact ⟨rfl, Below.refl _ _⟩
  · refine (held_some g c n w hs h3).mono ?_
    rintro e w' ⟨rfl, rfl⟩
    exact ⟨rfl, Below.refl _ _⟩
end Go.Proofs.Ytjopcpoodhamcaa
