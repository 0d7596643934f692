import Derived.Test.YtjopcpoodhamcaaDoorGd
/-
  The walk of the law FnTermCountNone. Conditions: the table of the library.
-/
namespace Go.Proofs.YtjopcpoodhamcaaDoor
set_option linter.unusedSimpArgs false
set_option linter.unusedVariables false
open Go.RowKit

def countIn (o s : Int) : List (Int × Int) → Nat → Nat
  | [], c => c
  | p :: r, c => countIn o s r (if decide (p.1 = o) && decide (p.2 = s) then c + 1 else c)
theorem countIn_is (o s : Int) : ∀ (xs : List (Int × Int)) (c : Nat), countIn o s xs c = c + xs.countP fun p => decide (p.1 = o ∧ p.2 = s)
  | [], c => by simp [countIn]
  | p :: r, c => by
    unfold countIn
    rw [countIn_is o s r]
    by_cases h : p.1 = o ∧ p.2 = s
    · simp [h]; omega
    · have h' : (decide (p.1 = o) && decide (p.2 = s)) = false := by simpa using h
      simp [h, h']
def tcL (L : List (Int × Int)) (s k : Int) : Int := (countIn k s L 0 : Int) - (countIn (k + 1) s L 0 : Int) - (countIn k (s + 2) L 0 : Int) + (countIn (k + 1) (s + 2) L 0 : Int)
theorem cntM_in (l n o s : Int) : cntM l n o s = (countIn o s (mics l n) 0 : Int) := by
  rw [countIn_is]
  unfold cntM cntK
  rw [List.take_length]
  simp
theorem tcI_L (l n s k : Int) : tcI l n s k = tcL (mics l n) s k := by
  unfold tcI tcL
  rw [cntM_in, cntM_in, cntM_in, cntM_in]
def chk (L : List (Int × Int)) (f : Int → Int → Int) : Bool := (List.range 9).all fun s => (List.range 9).all fun k => decide (tcL L s k = f s k)
theorem chk_of {L : List (Int × Int)} {f : Int → Int → Int} (h : chk L f = true) {s k : Int} (hv : tvB s k = true) : tcL L s k = f s k := by
  have b := tvB_true hv
  obtain ⟨s, rfl⟩ := Int.eq_ofNat_of_zero_le b.1
  obtain ⟨k, rfl⟩ := Int.eq_ofNat_of_zero_le b.2.2.1
  have h1 := List.all_eq_true.1 (List.all_eq_true.1 h s (List.mem_range.2 (by omega))) k (List.mem_range.2 (by omega))
  simpa using h1
def zF (s k : Int) : Int := if s = 0 ∧ k = 0 then 1 else 0
def oF (l s k : Int) : Int := if s = 1 ∧ k = l then 1 else 0
theorem mics_none {l : Int} (h0 : 0 ≤ l) (h2 : l ≤ 2) : mics l 0 = [(0, 0)] := by
  refine three (p := fun l => mics l 0 = [(0, 0)]) h0 h2 ?_ ?_ ?_ <;> decide +kernel
theorem mics_full {l : Int} (h0 : 0 ≤ l) (h2 : l ≤ 2) : mics l (4 * l + 2) = [(0, 0)] := by
  refine three (p := fun l => mics l (4 * l + 2) = [(0, 0)]) h0 h2 ?_ ?_ ?_ <;> decide +kernel
theorem mics_one0 : mics 0 1 = [(0, -1), (0, 1)] := by decide +kernel
theorem mics_one1 : mics 1 1 = [(-1, -1), (-1, 1), (0, -1), (0, 1), (1, -1), (1, 1)] := by decide +kernel
theorem mics_one2 : mics 2 1 = [(-2, -1), (-2, 1), (-1, -1), (-1, 1), (0, -1), (0, 1), (1, -1), (1, 1), (2, -1), (2, 1)] := by decide +kernel
theorem tc_none {l s k : Int} (h0 : 0 ≤ l) (h2 : l ≤ 2) (hv : tvB s k = true) : tcF l 0 s k = zF s k := by
  have e : eOk l 0 = true := by simp [eOk]; omega
  rw [show tcF l 0 s k = tcI l 0 s k by simp [tcF, hv, e], tcI_L, mics_none h0 h2]
  exact chk_of (by decide +kernel) hv
theorem tc_full {l s k : Int} (h0 : 0 ≤ l) (h2 : l ≤ 2) (hv : tvB s k = true) : tcF l (4 * l + 2) s k = zF s k := by
  have e : eOk l (4 * l + 2) = true := by simp [eOk]; omega
  rw [show tcF l (4 * l + 2) s k = tcI l (4 * l + 2) s k by simp [tcF, hv, e], tcI_L, mics_full h0 h2]
  exact chk_of (by decide +kernel) hv
theorem tc_one {l s k : Int} (h0 : 0 ≤ l) (h2 : l ≤ 2) (hv : tvB s k = true) : tcF l 1 s k = oF l s k := by
  have e : eOk l 1 = true := by simp [eOk]; omega
  rw [show tcF l 1 s k = tcI l 1 s k by simp [tcF, hv, e], tcI_L]
  refine three (p := fun l => tcL (mics l 1) s k = oF l s k) h0 h2 ?_ ?_ ?_
  · show tcL (mics 0 1) s k = oF 0 s k
    rw [mics_one0]; exact chk_of (f := oF 0) (by decide +kernel) hv
  · show tcL (mics 1 1) s k = oF 1 s k
    rw [mics_one1]; exact chk_of (f := oF 1) (by decide +kernel) hv
  · show tcL (mics 2 1) s k = oF 2 s k
    rw [mics_one2]; exact chk_of (f := oF 2) (by decide +kernel) hv
theorem tcF_neg {l n s k : Int} (h : ¬ (tvB s k = true ∧ eOk l n = true)) : tcF l n s k = -1 := by simp [tcF, h]
theorem tcF_low (l n s k : Int) : -1000 ≤ tcF l n s k := by
  unfold tcF
  split
  · rename_i h
    have b1 := cntM_bd h.2 k s
    have b2 := cntM_bd h.2 (k + 1) s
    have b3 := cntM_bd h.2 k (s + 2)
    have b4 := cntM_bd h.2 (k + 1) (s + 2)
    unfold tcI
    omega
  · omega
end Go.Proofs.YtjopcpoodhamcaaDoor

/-
  The lists of microstates written out; no count of terms is below 0. Conditions: none.
-/
namespace Go.Proofs.YtjopcpoodhamcaaDoor
set_option linter.unusedSimpArgs false
set_option linter.unusedVariables false
open Go.RowKit

def chkN (L : List (Int × Int)) : Bool := (List.range 9).all fun s => (List.range 9).all fun k => decide (0 ≤ tcL L s k)
theorem chkN_of {L : List (Int × Int)} (h : chkN L = true) {s k : Int} (hv : tvB s k = true) : 0 ≤ tcL L s k := by
  have b := tvB_true hv
  obtain ⟨s, rfl⟩ := Int.eq_ofNat_of_zero_le b.1
  obtain ⟨k, rfl⟩ := Int.eq_ofNat_of_zero_le b.2.2.1
  have h1 := List.all_eq_true.1 (List.all_eq_true.1 h s (List.mem_range.2 (by omega))) k (List.mem_range.2 (by omega))
  simpa using h1
theorem mlit0x0 : mics 0 0 = [(0, 0)] := by decide +kernel
theorem mpos0x0 : chkN (mics 0 0) = true := by
  rw [mlit0x0]
  decide +kernel
theorem mlit0x1 : mics 0 1 = [(0, -1), (0, 1)] := by decide +kernel
theorem mpos0x1 : chkN (mics 0 1) = true := by
  rw [mlit0x1]
  decide +kernel
theorem mlit0x2 : mics 0 2 = [(0, 0)] := by decide +kernel
theorem mpos0x2 : chkN (mics 0 2) = true := by
  rw [mlit0x2]
  decide +kernel
theorem mlit1x0 : mics 1 0 = [(0, 0)] := by decide +kernel
theorem mpos1x0 : chkN (mics 1 0) = true := by
  rw [mlit1x0]
  decide +kernel
theorem mlit1x1 : mics 1 1 = [(-1, -1), (-1, 1), (0, -1), (0, 1), (1, -1), (1, 1)] := by decide +kernel
theorem mpos1x1 : chkN (mics 1 1) = true := by
  rw [mlit1x1]
  decide +kernel
theorem mlit1x2 : mics 1 2 = [(-2, 0), (-1, -2), (-1, 0), (-1, 0), (-1, 2), (0, 0), (0, -2), (0, 0), (1, -2), (1, 0), (0, 0), (0, 2), (1, 0), (1, 2), (2, 0)] := by decide +kernel
theorem mpos1x2 : chkN (mics 1 2) = true := by
  rw [mlit1x2]
  decide +kernel
theorem mlit1x3 : mics 1 3 = [(-2, -1), (-2, 1), (-1, -1), (-1, 1), (-1, -1), (0, -3), (0, -1), (0, -1), (0, 1), (1, -1), (-1, 1), (0, -1), (0, 1), (0, 1), (0, 3), (1, 1), (1, -1), (1, 1), (2, -1), (2, 1)] := by decide +kernel
theorem mpos1x3 : chkN (mics 1 3) = true := by
  rw [mlit1x3]
  decide +kernel
theorem mlit1x4 : mics 1 4 = [(-2, 0), (-1, -2), (-1, 0), (0, -2), (0, 0), (-1, 0), (-1, 2), (0, 0), (0, 2), (0, 0), (1, -2), (1, 0), (1, 0), (1, 2), (2, 0)] := by decide +kernel
theorem mpos1x4 : chkN (mics 1 4) = true := by
  rw [mlit1x4]
  decide +kernel
theorem mlit1x5 : mics 1 5 = [(-1, -1), (-1, 1), (0, -1), (0, 1), (1, -1), (1, 1)] := by decide +kernel
theorem mpos1x5 : chkN (mics 1 5) = true := by
  rw [mlit1x5]
  decide +kernel
theorem mlit1x6 : mics 1 6 = [(0, 0)] := by decide +kernel
theorem mpos1x6 : chkN (mics 1 6) = true := by
  rw [mlit1x6]
  decide +kernel
theorem mlit2x0 : mics 2 0 = [(0, 0)] := by decide +kernel
theorem mpos2x0 : chkN (mics 2 0) = true := by
  rw [mlit2x0]
  decide +kernel
theorem mlit2x1 : mics 2 1 = [(-2, -1), (-2, 1), (-1, -1), (-1, 1), (0, -1), (0, 1), (1, -1), (1, 1), (2, -1), (2, 1)] := by decide +kernel
theorem mpos2x1 : chkN (mics 2 1) = true := by
  rw [mlit2x1]
  decide +kernel
theorem mlit2x2 : mics 2 2 = [(-4, 0), (-3, -2), (-3, 0), (-3, 0), (-3, 2), (-2, 0), (-2, -2), (-2, 0), (-1, -2), (-1, 0), (-2, 0), (-2, 2), (-1, 0), (-1, 2), (0, 0), (-1, -2), (-1, 0), (0, -2), (0, 0), (1, -2), (1, 0), (-1, 0), (-1, 2), (0, 0), (0, 2), (1, 0), (1, 2), (2, 0), (0, -2), (0, 0), (1, -2), (1, 0), (2, -2), (2, 0), (3, -2), (3, 0), (0, 0), (0, 2), (1, 0), (1, 2), (2, 0), (2, 2), (3, 0), (3, 2), (4, 0)] := by decide +kernel
theorem mpos2x2 : chkN (mics 2 2) = true := by
  rw [mlit2x2]
  decide +kernel
theorem mlit2x3 : mics 2 3 = [(-5, -1), (-5, 1), (-4, -1), (-4, 1), (-4, -1), (-3, -3), (-3, -1), (-3, -1), (-3, 1), (-2, -1), (-4, 1), (-3, -1), (-3, 1), (-3, 1), (-3, 3), (-2, 1), (-2, -1), (-2, 1), (-1, -1), (-1, 1), (-3, -1), (-2, -3), (-2, -1), (-2, -1), (-2, 1), (-1, -1), (-1, -3), (-1, -1), (0, -3), (0, -1), (-1, -1), (-1, 1), (0, -1), (0, 1), (1, -1), (-3, 1), (-2, -1), (-2, 1), (-2, 1), (-2, 3), (-1, 1), (-1, -1), (-1, 1), (0, -1), (0, 1), (-1, 1), (-1, 3), (0, 1), (0, 3), (1, 1), (0, -1), (0, 1), (1, -1), (1, 1), (2, -1), (2, 1), (-2, -1), (-1, -3), (-1, -1), (-1, -1), (-1, 1), (0, -1), (0, -3), (0, -1), (1, -3), (1, -1), (0, -1), (0, 1), (1, -1), (1, 1), (2, -1), (1, -3), (1, -1), (2, -3), (2, -1), (3, -3), (3, -1), (1, -1), (1, 1), (2, -1), (2, 1), (3, -1), (3, 1), (4, -1), (-2, 1), (-1, -1), (-1, 1), (-1, 1), (-1, 3), (0, 1), (0, -1), (0, 1), (1, -1), (1, 1), (0, 1), (0, 3), (1, 1), (1, 3), (2, 1), (1, -1), (1, 1), (2, -1), (2, 1), (3, -1), (3, 1), (1, 1), (1, 3), (2, 1), (2, 3), (3, 1), (3, 3), (4, 1), (2, -1), (2, 1), (3, -1), (3, 1), (4, -1), (4, 1), (5, -1), (5, 1)] := by decide +kernel
theorem mpos2x3 : chkN (mics 2 3) = true := by
  rw [mlit2x3]
  decide +kernel
theorem mlit2x4 : mics 2 4 = [(-6, 0), (-5, -2), (-5, 0), (-4, -2), (-4, 0), (-5, 0), (-5, 2), (-4, 0), (-4, 2), (-4, 0), (-3, -2), (-3, 0), (-3, 0), (-3, 2), (-2, 0), (-4, -2), (-4, 0), (-3, -2), (-3, 0), (-3, -2), (-2, -4), (-2, -2), (-2, -2), (-2, 0), (-1, -2), (-3, 0), (-2, -2), (-2, 0), (-2, 0), (-2, 2), (-1, 0), (-1, -2), (-1, 0), (0, -2), (0, 0), (-4, 0), (-4, 2), (-3, 0), (-3, 2), (-3, 0), (-2, -2), (-2, 0), (-2, 0), (-2, 2), (-1, 0), (-3, 2), (-2, 0), (-2, 2), (-2, 2), (-2, 4), (-1, 2), (-1, 0), (-1, 2), (0, 0), (0, 2), (-2, 0), (-1, -2), (-1, 0), (-1, 0), (-1, 2), (0, 0), (0, -2), (0, 0), (1, -2), (1, 0), (0, 0), (0, 2), (1, 0), (1, 2), (2, 0), (-3, -2), (-3, 0), (-2, -2), (-2, 0), (-2, -2), (-1, -4), (-1, -2), (-1, -2), (-1, 0), (0, -2), (-2, 0), (-1, -2), (-1, 0), (-1, 0), (-1, 2), (0, 0), (0, -2), (0, 0), (1, -2), (1, 0), (-1, -2), (0, -4), (0, -2), (0, -2), (0, 0), (1, -2), (1, -4), (1, -2), (2, -4), (2, -2), (1, -2), (1, 0), (2, -2), (2, 0), (3, -2), (-1, 0), (0, -2), (0, 0), (0, 0), (0, 2), (1, 0), (1, -2), (1, 0), (2, -2), (2, 0), (1, 0), (1, 2), (2, 0), (2, 2), (3, 0), (2, -2), (2, 0), (3, -2), (3, 0), (4, -2), (4, 0), (-3, 0), (-3, 2), (-2, 0), (-2, 2), (-2, 0), (-1, -2), (-1, 0), (-1, 0), (-1, 2), (0, 0), (-2, 2), (-1, 0), (-1, 2), (-1, 2), (-1, 4), (0, 2), (0, 0), (0, 2), (1, 0), (1, 2), (-1, 0), (0, -2), (0, 0), (0, 0), (0, 2), (1, 0), (1, -2), (1, 0), (2, -2), (2, 0), (1, 0), (1, 2), (2, 0), (2, 2), (3, 0), (-1, 2), (0, 0), (0, 2), (0, 2), (0, 4), (1, 2), (1, 0), (1, 2), (2, 0), (2, 2), (1, 2), (1, 4), (2, 2), (2, 4), (3, 2), (2, 0), (2, 2), (3, 0), (3, 2), (4, 0), (4, 2), (0, 0), (1, -2), (1, 0), (1, 0), (1, 2), (2, 0), (2, -2), (2, 0), (3, -2), (3, 0), (2, 0), (2, 2), (3, 0), (3, 2), (4, 0), (3, -2), (3, 0), (4, -2), (4, 0), (5, -2), (5, 0), (3, 0), (3, 2), (4, 0), (4, 2), (5, 0), (5, 2), (6, 0)] := by decide +kernel
theorem mpos2x4 : chkN (mics 2 4) = true := by
  rw [mlit2x4]
  decide +kernel
theorem mlit2x5 : mics 2 5 = [(-6, -1), (-6, 1), (-5, -1), (-5, 1), (-4, -1), (-4, 1), (-5, -1), (-4, -3), (-4, -1), (-3, -3), (-3, -1), (-4, -1), (-4, 1), (-3, -1), (-3, 1), (-3, -1), (-2, -3), (-2, -1), (-2, -1), (-2, 1), (-1, -1), (-5, 1), (-4, -1), (-4, 1), (-3, -1), (-3, 1), (-4, 1), (-4, 3), (-3, 1), (-3, 3), (-3, 1), (-2, -1), (-2, 1), (-2, 1), (-2, 3), (-1, 1), (-3, -1), (-3, 1), (-2, -1), (-2, 1), (-2, -1), (-1, -3), (-1, -1), (-1, -1), (-1, 1), (0, -1), (-2, 1), (-1, -1), (-1, 1), (-1, 1), (-1, 3), (0, 1), (0, -1), (0, 1), (1, -1), (1, 1), (-4, -1), (-3, -3), (-3, -1), (-2, -3), (-2, -1), (-3, -1), (-3, 1), (-2, -1), (-2, 1), (-2, -1), (-1, -3), (-1, -1), (-1, -1), (-1, 1), (0, -1), (-2, -3), (-2, -1), (-1, -3), (-1, -1), (-1, -3), (0, -5), (0, -3), (0, -3), (0, -1), (1, -3), (-1, -1), (0, -3), (0, -1), (0, -1), (0, 1), (1, -1), (1, -3), (1, -1), (2, -3), (2, -1), (-2, -1), (-2, 1), (-1, -1), (-1, 1), (-1, -1), (0, -3), (0, -1), (0, -1), (0, 1), (1, -1), (-1, 1), (0, -1), (0, 1), (0, 1), (0, 3), (1, 1), (1, -1), (1, 1), (2, -1), (2, 1), (0, -1), (1, -3), (1, -1), (1, -1), (1, 1), (2, -1), (2, -3), (2, -1), (3, -3), (3, -1), (2, -1), (2, 1), (3, -1), (3, 1), (4, -1), (-4, 1), (-3, -1), (-3, 1), (-2, -1), (-2, 1), (-3, 1), (-3, 3), (-2, 1), (-2, 3), (-2, 1), (-1, -1), (-1, 1), (-1, 1), (-1, 3), (0, 1), (-2, -1), (-2, 1), (-1, -1), (-1, 1), (-1, -1), (0, -3), (0, -1), (0, -1), (0, 1), (1, -1), (-1, 1), (0, -1), (0, 1), (0, 1), (0, 3), (1, 1), (1, -1), (1, 1), (2, -1), (2, 1), (-2, 1), (-2, 3), (-1, 1), (-1, 3), (-1, 1), (0, -1), (0, 1), (0, 1), (0, 3), (1, 1), (-1, 3), (0, 1), (0, 3), (0, 3), (0, 5), (1, 3), (1, 1), (1, 3), (2, 1), (2, 3), (0, 1), (1, -1), (1, 1), (1, 1), (1, 3), (2, 1), (2, -1), (2, 1), (3, -1), (3, 1), (2, 1), (2, 3), (3, 1), (3, 3), (4, 1), (-1, -1), (-1, 1), (0, -1), (0, 1), (0, -1), (1, -3), (1, -1), (1, -1), (1, 1), (2, -1), (0, 1), (1, -1), (1, 1), (1, 1), (1, 3), (2, 1), (2, -1), (2, 1), (3, -1), (3, 1), (1, -1), (2, -3), (2, -1), (2, -1), (2, 1), (3, -1), (3, -3), (3, -1), (4, -3), (4, -1), (3, -1), (3, 1), (4, -1), (4, 1), (5, -1), (1, 1), (2, -1), (2, 1), (2, 1), (2, 3), (3, 1), (3, -1), (3, 1), (4, -1), (4, 1), (3, 1), (3, 3), (4, 1), (4, 3), (5, 1), (4, -1), (4, 1), (5, -1), (5, 1), (6, -1), (6, 1)] := by decide +kernel
theorem mpos2x5 : chkN (mics 2 5) = true := by
  rw [mlit2x5]
  decide +kernel
theorem mlit2x6 : mics 2 6 = [(-6, 0), (-5, -2), (-5, 0), (-4, -2), (-4, 0), (-3, -2), (-3, 0), (-5, 0), (-5, 2), (-4, 0), (-4, 2), (-3, 0), (-3, 2), (-4, 0), (-3, -2), (-3, 0), (-2, -2), (-2, 0), (-3, 0), (-3, 2), (-2, 0), (-2, 2), (-2, 0), (-1, -2), (-1, 0), (-1, 0), (-1, 2), (0, 0), (-4, -2), (-4, 0), (-3, -2), (-3, 0), (-2, -2), (-2, 0), (-3, -2), (-2, -4), (-2, -2), (-1, -4), (-1, -2), (-2, -2), (-2, 0), (-1, -2), (-1, 0), (-1, -2), (0, -4), (0, -2), (0, -2), (0, 0), (1, -2), (-3, 0), (-2, -2), (-2, 0), (-1, -2), (-1, 0), (-2, 0), (-2, 2), (-1, 0), (-1, 2), (-1, 0), (0, -2), (0, 0), (0, 0), (0, 2), (1, 0), (-1, -2), (-1, 0), (0, -2), (0, 0), (0, -2), (1, -4), (1, -2), (1, -2), (1, 0), (2, -2), (0, 0), (1, -2), (1, 0), (1, 0), (1, 2), (2, 0), (2, -2), (2, 0), (3, -2), (3, 0), (-4, 0), (-4, 2), (-3, 0), (-3, 2), (-2, 0), (-2, 2), (-3, 0), (-2, -2), (-2, 0), (-1, -2), (-1, 0), (-2, 0), (-2, 2), (-1, 0), (-1, 2), (-1, 0), (0, -2), (0, 0), (0, 0), (0, 2), (1, 0), (-3, 2), (-2, 0), (-2, 2), (-1, 0), (-1, 2), (-2, 2), (-2, 4), (-1, 2), (-1, 4), (-1, 2), (0, 0), (0, 2), (0, 2), (0, 4), (1, 2), (-1, 0), (-1, 2), (0, 0), (0, 2), (0, 0), (1, -2), (1, 0), (1, 0), (1, 2), (2, 0), (0, 2), (1, 0), (1, 2), (1, 2), (1, 4), (2, 2), (2, 0), (2, 2), (3, 0), (3, 2), (-2, 0), (-1, -2), (-1, 0), (0, -2), (0, 0), (-1, 0), (-1, 2), (0, 0), (0, 2), (0, 0), (1, -2), (1, 0), (1, 0), (1, 2), (2, 0), (0, -2), (0, 0), (1, -2), (1, 0), (1, -2), (2, -4), (2, -2), (2, -2), (2, 0), (3, -2), (1, 0), (2, -2), (2, 0), (2, 0), (2, 2), (3, 0), (3, -2), (3, 0), (4, -2), (4, 0), (0, 0), (0, 2), (1, 0), (1, 2), (1, 0), (2, -2), (2, 0), (2, 0), (2, 2), (3, 0), (1, 2), (2, 0), (2, 2), (2, 2), (2, 4), (3, 2), (3, 0), (3, 2), (4, 0), (4, 2), (2, 0), (3, -2), (3, 0), (3, 0), (3, 2), (4, 0), (4, -2), (4, 0), (5, -2), (5, 0), (4, 0), (4, 2), (5, 0), (5, 2), (6, 0)] := by decide +kernel
theorem mpos2x6 : chkN (mics 2 6) = true := by
  rw [mlit2x6]
  decide +kernel
theorem mlit2x7 : mics 2 7 = [(-5, -1), (-5, 1), (-4, -1), (-4, 1), (-3, -1), (-3, 1), (-2, -1), (-2, 1), (-4, -1), (-3, -3), (-3, -1), (-2, -3), (-2, -1), (-1, -3), (-1, -1), (-3, -1), (-3, 1), (-2, -1), (-2, 1), (-1, -1), (-1, 1), (-2, -1), (-1, -3), (-1, -1), (0, -3), (0, -1), (-1, -1), (-1, 1), (0, -1), (0, 1), (0, -1), (1, -3), (1, -1), (1, -1), (1, 1), (2, -1), (-4, 1), (-3, -1), (-3, 1), (-2, -1), (-2, 1), (-1, -1), (-1, 1), (-3, 1), (-3, 3), (-2, 1), (-2, 3), (-1, 1), (-1, 3), (-2, 1), (-1, -1), (-1, 1), (0, -1), (0, 1), (-1, 1), (-1, 3), (0, 1), (0, 3), (0, 1), (1, -1), (1, 1), (1, 1), (1, 3), (2, 1), (-2, -1), (-2, 1), (-1, -1), (-1, 1), (0, -1), (0, 1), (-1, -1), (0, -3), (0, -1), (1, -3), (1, -1), (0, -1), (0, 1), (1, -1), (1, 1), (1, -1), (2, -3), (2, -1), (2, -1), (2, 1), (3, -1), (-1, 1), (0, -1), (0, 1), (1, -1), (1, 1), (0, 1), (0, 3), (1, 1), (1, 3), (1, 1), (2, -1), (2, 1), (2, 1), (2, 3), (3, 1), (1, -1), (1, 1), (2, -1), (2, 1), (2, -1), (3, -3), (3, -1), (3, -1), (3, 1), (4, -1), (2, 1), (3, -1), (3, 1), (3, 1), (3, 3), (4, 1), (4, -1), (4, 1), (5, -1), (5, 1)] := by decide +kernel
theorem mpos2x7 : chkN (mics 2 7) = true := by
  rw [mlit2x7]
  decide +kernel
theorem mlit2x8 : mics 2 8 = [(-4, 0), (-3, -2), (-3, 0), (-2, -2), (-2, 0), (-1, -2), (-1, 0), (0, -2), (0, 0), (-3, 0), (-3, 2), (-2, 0), (-2, 2), (-1, 0), (-1, 2), (0, 0), (0, 2), (-2, 0), (-1, -2), (-1, 0), (0, -2), (0, 0), (1, -2), (1, 0), (-1, 0), (-1, 2), (0, 0), (0, 2), (1, 0), (1, 2), (0, 0), (1, -2), (1, 0), (2, -2), (2, 0), (1, 0), (1, 2), (2, 0), (2, 2), (2, 0), (3, -2), (3, 0), (3, 0), (3, 2), (4, 0)] := by decide +kernel
theorem mpos2x8 : chkN (mics 2 8) = true := by
  rw [mlit2x8]
  decide +kernel
theorem mlit2x9 : mics 2 9 = [(-2, -1), (-2, 1), (-1, -1), (-1, 1), (0, -1), (0, 1), (1, -1), (1, 1), (2, -1), (2, 1)] := by decide +kernel
theorem mpos2x9 : chkN (mics 2 9) = true := by
  rw [mlit2x9]
  decide +kernel
theorem mlit2x10 : mics 2 10 = [(0, 0)] := by decide +kernel
theorem mpos2x10 : chkN (mics 2 10) = true := by
  rw [mlit2x10]
  decide +kernel
theorem tc_pos {l n s k : Int} (hv : eOk l n = true) (ht : tvB s k = true) : 0 ≤ tcI l n s k := by
  have b := eOk_true hv
  rw [tcI_L]
  refine chkN_of ?_ ht
  rcases (show l = 0 ∨ l = 1 ∨ l = 2 by omega) with rfl | rfl | rfl
  · rcases (show n = 0 ∨ n = 1 ∨ n = 2 by omega) with rfl | rfl | rfl
    · exact mpos0x0
    · exact mpos0x1
    · exact mpos0x2
  · rcases (show n = 0 ∨ n = 1 ∨ n = 2 ∨ n = 3 ∨ n = 4 ∨ n = 5 ∨ n = 6 by omega) with rfl | rfl | rfl | rfl | rfl | rfl | rfl
    · exact mpos1x0
    · exact mpos1x1
    · exact mpos1x2
    · exact mpos1x3
    · exact mpos1x4
    · exact mpos1x5
    · exact mpos1x6
  · rcases (show n = 0 ∨ n = 1 ∨ n = 2 ∨ n = 3 ∨ n = 4 ∨ n = 5 ∨ n = 6 ∨ n = 7 ∨ n = 8 ∨ n = 9 ∨ n = 10 by omega) with rfl | rfl | rfl | rfl | rfl | rfl | rfl | rfl | rfl | rfl | rfl
    · exact mpos2x0
    · exact mpos2x1
    · exact mpos2x2
    · exact mpos2x3
    · exact mpos2x4
    · exact mpos2x5
    · exact mpos2x6
    · exact mpos2x7
    · exact mpos2x8
    · exact mpos2x9
    · exact mpos2x10
end Go.Proofs.YtjopcpoodhamcaaDoor

/-
  The walk of the law FnTermCount. Conditions: the table of the library.
-/
namespace Go.Proofs.YtjopcpoodhamcaaDoor
set_option linter.unusedSimpArgs false
set_option linter.unusedVariables false
open Go.RowKit

theorem mics_hi {l n : Int} (hv : eOk l n = true) : (mics l n).all (fun p => decide (p.1 ≤ 8 ∧ p.2 ≤ 6)) = true := by
  have := fin_ln (fun l n => (mics l n).all (fun p => decide (p.1 ≤ 8 ∧ p.2 ≤ 6))) (by decide +kernel) hv
  exact this
theorem cntM_zero {l n o s : Int} (hv : eOk l n = true) (h : 9 ≤ o ∨ 7 ≤ s) : cntM l n o s = 0 := by
  unfold cntM cntK
  rw [List.take_length]
  have : (mics l n).countP (fun p => decide (p.1 = o ∧ p.2 = s)) = 0 := by
    rw [List.countP_eq_zero]
    intro p hp
    have b := List.all_eq_true.1 (mics_hi hv) p hp
    have b' : p.1 ≤ 8 ∧ p.2 ≤ 6 := by simpa using b
    simp
    omega
  rw [this]; rfl
theorem tcF_is {l n s k : Int} (hv : eOk l n = true) (h0 : 0 ≤ s) (h1 : s ≤ 8) (h2 : 0 ≤ k) (h3 : k ≤ 8) : tcF l n s k = cntM l n k s - cntM l n (k + 1) s - cntM l n k (s + 2) + cntM l n (k + 1) (s + 2) := by
  have ht : tvB s k = true := by simp [tvB]; omega
  simp [tcF, ht, hv, tcI]
end Go.Proofs.YtjopcpoodhamcaaDoor

/-
  Plain laws on striking terms out of the table. Conditions: none.
-/
namespace Go.Proofs.YtjopcpoodhamcaaDoor
set_option linter.unusedSimpArgs false
set_option linter.unusedVariables false
open Go.RowKit

def cov (s k o m : Int) : Prop := -k ≤ o ∧ o ≤ k ∧ -s ≤ m ∧ m ≤ s ∧ (m - s) % 2 = 0
instance (s k o m : Int) : Decidable (cov s k o m) := by unfold cov; infer_instance
/-- c strikes of the term (s, k). -/
def strN (F : Int → Int → Int) (s k c : Int) : Int → Int → Int := fun o m => if cov s k o m then F o m - c else F o m
/-- The least number above u with the parity of s. -/
def nx (u s : Int) : Int := if (u + 1 - s) % 2 = 0 then u + 1 else u + 2
def mxI (a b : Int) : Int := if a ≤ b then b else a
/-- What the table holds at spin u, j orbits done. -/
def InvF (l n u : Int) (j : Int) (F : Int → Int → Int) : Prop := ∀ o s, 0 ≤ o → o ≤ 9 → 0 ≤ s → s ≤ u →
  F o s = cntM l n o s - cntM l n o (nx u s) - (if (s - u) % 2 = 0 then cntM l n (mxI o (9 - j)) u - cntM l n (mxI o (9 - j)) (u + 2) else 0)
theorem InvF_start {l n : Int} (hv : eOk l n = true) : InvF l n 8 0 (cntM l n) := by
  intro o s o0 o1 s0 s1
  have z1 := cntM_zero hv (o := o) (s := nx 8 s) (Or.inr (by unfold nx; split <;> omega))
  have hm : mxI o (9 - 0) = 9 := by unfold mxI; split <;> omega
  have z2 := cntM_zero hv (o := 9) (s := 8) (Or.inl (by omega))
  have z3 := cntM_zero hv (o := 9) (s := 8 + 2) (Or.inl (by omega))
  rw [z1, hm, z2, z3]
  split <;> omega
theorem InvF_at {l n u j : Int} {F : Int → Int → Int} (h : InvF l n u j F) (hv : eOk l n = true) (j0 : 0 ≤ j) (j1 : j ≤ 8) (u0 : 0 ≤ u) : F (8 - j) u = tcI l n u (8 - j) := by
  rw [h (8 - j) u (by omega) (by omega) u0 (by omega)]
  have e1 : nx u u = u + 2 := by unfold nx; split <;> omega
  have e2 : mxI (8 - j) (9 - j) = 9 - j := by unfold mxI; split <;> omega
  have e3 : 8 - j + 1 = 9 - j := by omega
  have e4 : (u - u) % 2 = 0 := by omega
  rw [e1, e2, if_pos e4]
  unfold tcI
  rw [e3]
  omega
theorem InvF_step {l n u j : Int} {F : Int → Int → Int} (h : InvF l n u j F) (j0 : 0 ≤ j) (j1 : j ≤ 8) (u0 : 0 ≤ u) : InvF l n u (j + 1) (strN F u (8 - j) (tcI l n u (8 - j))) := by
  intro o s o0 o1 s0 s1
  have hb := h o s o0 o1 s0 s1
  unfold strN
  have e3 : 8 - j + 1 = 9 - j := by omega
  by_cases hp : (s - u) % 2 = 0
  · rw [if_pos hp] at hb ⊢
    by_cases ho : o ≤ 8 - j
    · rw [if_pos (show cov u (8 - j) o s from ⟨by omega, ho, by omega, by omega, hp⟩), hb]
      have m1 : mxI o (9 - j) = 9 - j := by unfold mxI; split <;> omega
      have m2 : mxI o (9 - (j + 1)) = 8 - j := by unfold mxI; split <;> omega
      rw [m1, m2]
      unfold tcI
      rw [e3]
      omega
    · rw [if_neg (fun hc : cov u (8 - j) o s => ho hc.2.1), hb]
      have m1 : mxI o (9 - j) = o := by unfold mxI; split <;> omega
      have m2 : mxI o (9 - (j + 1)) = o := by unfold mxI; split <;> omega
      rw [m1, m2]
  · rw [if_neg hp] at hb ⊢
    rw [if_neg (fun hc : cov u (8 - j) o s => hp hc.2.2.2.2), hb]
theorem InvF_next {l n u : Int} {F : Int → Int → Int} (h : InvF l n u 9 F) (hv : eOk l n = true) (u0 : 0 ≤ u) : InvF l n (u - 1) 0 F := by
  intro o s o0 o1 s0 s1
  rw [h o s o0 o1 s0 (by omega)]
  have m1 : mxI o (9 - 9) = o := by unfold mxI; split <;> omega
  have m2 : mxI o (9 - 0) = 9 := by unfold mxI; split <;> omega
  have z2 := cntM_zero hv (o := 9) (s := u - 1) (Or.inl (by omega))
  have z3 := cntM_zero hv (o := 9) (s := u - 1 + 2) (Or.inl (by omega))
  rw [m1, m2, z2, z3]
  by_cases hp : (s - u) % 2 = 0
  · rw [if_pos hp]
    have e1 : nx u s = u + 2 := by unfold nx; split <;> omega
    have e2 : nx (u - 1) s = u := by unfold nx; split <;> omega
    rw [e1, e2]
    split <;> omega
  · rw [if_neg hp]
    have e1 : nx u s = u + 1 := by unfold nx; split <;> omega
    have e2 : nx (u - 1) s = u + 1 := by unfold nx; split <;> omega
    rw [e1, e2]
    split <;> omega
theorem strN_zero (F : Int → Int → Int) (s k : Int) : strN F s k 0 = F := by
  funext o m
  unfold strN
  split <;> omega
theorem strN_succ (F : Int → Int → Int) (s k c : Int) : strN (strN F s k c) s k 1 = strN F s k (c + 1) := by
  funext o m
  unfold strN
  split <;> omega
theorem strN_own (F : Int → Int → Int) {s k : Int} (c : Int) (s0 : 0 ≤ s) (k0 : 0 ≤ k) : strN F s k c k s = F k s - c := by
  unfold strN
  rw [if_pos ⟨by omega, by omega, by omega, by omega, by omega⟩]
end Go.Proofs.YtjopcpoodhamcaaDoor

/-
  The list that impl.TermsOf makes is the one of the terms. Conditions: none.
-/
namespace Go.Proofs.YtjopcpoodhamcaaDoor
set_option linter.unusedSimpArgs false
set_option linter.unusedVariables false
open Go.RowKit

def rowI (l n u : Int) : Nat → List (Int × Int)
  | 0 => []
  | j + 1 => rowI l n u j ++ trm l n u (8 - (j : Int))
def tsI (l n : Int) : Nat → List (Int × Int)
  | 0 => []
  | i + 1 => tsI l n i ++ rowI l n (8 - (i : Int)) 9
theorem mics_top {l n : Int} (hv : eOk l n = true) : (mics l n).all (fun p => decide (p.1 ≤ 6 ∧ p.2 ≤ 5)) = true := by
  have := fin_ln (fun l n => (mics l n).all (fun p => decide (p.1 ≤ 6 ∧ p.2 ≤ 5))) (by decide +kernel) hv
  exact this
theorem cntM_top {l n o s : Int} (hv : eOk l n = true) (h : 7 ≤ o ∨ 6 ≤ s) : cntM l n o s = 0 := by
  unfold cntM cntK
  rw [List.take_length]
  have : (mics l n).countP (fun p => decide (p.1 = o ∧ p.2 = s)) = 0 := by
    rw [List.countP_eq_zero]
    intro p hp
    have b := List.all_eq_true.1 (mics_top hv) p hp
    have b' : p.1 ≤ 6 ∧ p.2 ≤ 5 := by simpa using b
    simp
    omega
  rw [this]; rfl
theorem trm_top {l n s k : Int} (hv : eOk l n = true) (h : 7 ≤ k ∨ 6 ≤ s) : trm l n s k = [] := by
  have z1 := cntM_top hv (o := k) (s := s) h
  have z2 := cntM_top hv (o := k + 1) (s := s) (by omega)
  have z3 := cntM_top hv (o := k) (s := s + 2) (by omega)
  have z4 := cntM_top hv (o := k + 1) (s := s + 2) (by omega)
  have : tcF l n s k ≤ 0 := by
    unfold tcF tcI
    split <;> omega
  have e : (tcF l n s k).toNat = 0 := by omega
  unfold trm
  rw [e]; rfl
theorem rowI_is {l n u : Int} (hv : eOk l n = true) : rowI l n u 9 = rowT l n u 7 := by
  have a := trm_top hv (s := u) (k := 8) (Or.inl (by omega))
  have b := trm_top hv (s := u) (k := 7) (Or.inl (by omega))
  simp [rowI, rowT, a, b]
theorem rowT_top {l n u : Int} (hv : eOk l n = true) (h : 6 ≤ u) : ∀ j, rowT l n u j = []
  | 0 => rfl
  | j + 1 => by
    unfold rowT
    rw [rowT_top hv h j, trm_top hv (Or.inr h)]; rfl
theorem tsI_is {l n : Int} (hv : eOk l n = true) : tsI l n 9 = termsP l n := by
  have a := rowT_top hv (u := 8) (by omega) 7
  have b := rowT_top hv (u := 7) (by omega) 7
  have c := rowT_top hv (u := 6) (by omega) 7
  rw [show termsP l n = tsL l n 6 by simp [termsP, hv]]
  simp [tsI, tsL, rowI_is hv, a, b, c]
theorem rowI_len (l n s : Int) : ∀ j, (rowI l n s j).length ≤ 504 * j
  | 0 => by simp [rowI]
  | j + 1 => by
    have := rowI_len l n s j
    have := trm_len l n s (8 - (j : Int))
    simp only [rowI, List.length_append]; omega
theorem tsI_len (l n : Int) : ∀ i, (tsI l n i).length ≤ 4536 * i
  | 0 => by simp [tsI]
  | i + 1 => by
    have := tsI_len l n i
    have := rowI_len l n (8 - (i : Int)) 9
    simp only [tsI, List.length_append]; omega
def midI (l n : Int) (i j : Nat) : List (Int × Int) := tsI l n i ++ rowI l n (8 - (i : Int)) j
def innI (l n : Int) (i j c : Nat) : List (Int × Int) := midI l n i j ++ List.replicate c (8 - (i : Int), 8 - (j : Int))
theorem midI_zero (l n : Int) (i : Nat) : midI l n i 0 = tsI l n i := by simp [midI, rowI]
theorem midI_last (l n : Int) (i : Nat) : midI l n i 9 = tsI l n (i + 1) := rfl
theorem innI_zero (l n : Int) (i j : Nat) : innI l n i j 0 = midI l n i j := by simp [innI]
theorem innI_succ (l n : Int) (i j c : Nat) : innI l n i j (c + 1) = innI l n i j c ++ [(8 - (i : Int), 8 - (j : Int))] := by simp [innI, rep_succ]
theorem innI_last (l n : Int) (i j : Nat) : innI l n i j (tcF l n (8 - (i : Int)) (8 - (j : Int))).toNat = midI l n i (j + 1) := by simp [innI, midI, rowI, trm]
theorem innI_len (l n : Int) (i j c : Nat) (hi : i ≤ 9) (hj : j ≤ 9) (hc : c ≤ 504) : (innI l n i j c).length ≤ 60000 := by
  have a := tsI_len l n i
  have b := rowI_len l n (8 - (i : Int)) j
  simp only [innI, midI, List.length_append, List.length_replicate]; omega
end Go.Proofs.YtjopcpoodhamcaaDoor
