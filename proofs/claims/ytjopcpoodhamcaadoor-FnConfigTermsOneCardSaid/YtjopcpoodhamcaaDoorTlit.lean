import Derived.Test.YtjopcpoodhamcaaDoorGe
/-
  The lists of terms written out; what the laws ask of them. Conditions: none.
-/
namespace Go.Proofs.YtjopcpoodhamcaaDoor
set_option linter.unusedSimpArgs false
set_option linter.unusedVariables false
open Go.RowKit

def rowLL (L : List (Int × Int)) (s : Int) : Nat → List (Int × Int)
  | 0 => []
  | j + 1 => rowLL L s j ++ List.replicate (tcL L s (6 - (j : Int))).toNat (s, 6 - (j : Int))
def tsLL (L : List (Int × Int)) : Nat → List (Int × Int)
  | 0 => []
  | i + 1 => tsLL L i ++ rowLL L (5 - (i : Int)) 7
theorem rowLL_is {l n s : Int} (hv : eOk l n = true) (h0 : 0 ≤ s) (h1 : s ≤ 5) : ∀ j : Nat, j ≤ 7 → rowT l n s j = rowLL (mics l n) s j
  | 0, _ => rfl
  | j + 1, hj => by
    have ht : tvB s (6 - (j : Int)) = true := by simp [tvB]; omega
    have e : tcF l n s (6 - (j : Int)) = tcL (mics l n) s (6 - (j : Int)) := by rw [← tcI_L]; simp [tcF, ht, hv]
    unfold rowT rowLL trm
    rw [rowLL_is hv h0 h1 j (by omega), e]
theorem tsLL_is {l n : Int} (hv : eOk l n = true) : ∀ i : Nat, i ≤ 6 → tsL l n i = tsLL (mics l n) i
  | 0, _ => rfl
  | i + 1, hi => by
    unfold tsL tsLL
    rw [tsLL_is hv i (by omega), rowLL_is hv (by omega) (by omega) 7 (by omega)]
theorem termsP_LL {l n : Int} (hv : eOk l n = true) : termsP l n = tsLL (mics l n) 6 := by
  unfold termsP
  rw [if_pos hv, tsLL_is hv 6 (by omega)]
theorem tlit0x0 : termsP 0 0 = [(0, 0)] := by
  rw [termsP_LL (by decide +kernel), mlit0x0]
  decide +kernel
theorem tlit0x1 : termsP 0 1 = [(1, 0)] := by
  rw [termsP_LL (by decide +kernel), mlit0x1]
  decide +kernel
theorem tlit0x2 : termsP 0 2 = [(0, 0)] := by
  rw [termsP_LL (by decide +kernel), mlit0x2]
  decide +kernel
theorem tlit1x0 : termsP 1 0 = [(0, 0)] := by
  rw [termsP_LL (by decide +kernel), mlit1x0]
  decide +kernel
theorem tlit1x1 : termsP 1 1 = [(1, 1)] := by
  rw [termsP_LL (by decide +kernel), mlit1x1]
  decide +kernel
theorem tlit1x2 : termsP 1 2 = [(2, 1), (0, 2), (0, 0)] := by
  rw [termsP_LL (by decide +kernel), mlit1x2]
  decide +kernel
theorem tlit1x3 : termsP 1 3 = [(3, 0), (1, 2), (1, 1)] := by
  rw [termsP_LL (by decide +kernel), mlit1x3]
  decide +kernel
theorem tlit1x4 : termsP 1 4 = [(2, 1), (0, 2), (0, 0)] := by
  rw [termsP_LL (by decide +kernel), mlit1x4]
  decide +kernel
theorem tlit1x5 : termsP 1 5 = [(1, 1)] := by
  rw [termsP_LL (by decide +kernel), mlit1x5]
  decide +kernel
theorem tlit1x6 : termsP 1 6 = [(0, 0)] := by
  rw [termsP_LL (by decide +kernel), mlit1x6]
  decide +kernel
theorem tlit2x0 : termsP 2 0 = [(0, 0)] := by
  rw [termsP_LL (by decide +kernel), mlit2x0]
  decide +kernel
theorem tlit2x1 : termsP 2 1 = [(1, 2)] := by
  rw [termsP_LL (by decide +kernel), mlit2x1]
  decide +kernel
theorem tlit2x2 : termsP 2 2 = [(2, 3), (2, 1), (0, 4), (0, 2), (0, 0)] := by
  rw [termsP_LL (by decide +kernel), mlit2x2]
  decide +kernel
theorem tlit2x3 : termsP 2 3 = [(3, 3), (3, 1), (1, 5), (1, 4), (1, 3), (1, 2), (1, 2), (1, 1)] := by
  rw [termsP_LL (by decide +kernel), mlit2x3]
  decide +kernel
theorem tlit2x4 : termsP 2 4 = [(4, 2), (2, 5), (2, 4), (2, 3), (2, 3), (2, 2), (2, 1), (2, 1), (0, 6), (0, 4), (0, 4), (0, 3), (0, 2), (0, 2), (0, 0), (0, 0)] := by
  rw [termsP_LL (by decide +kernel), mlit2x4]
  decide +kernel
theorem tlit2x5 : termsP 2 5 = [(5, 0), (3, 4), (3, 3), (3, 2), (3, 1), (1, 6), (1, 5), (1, 4), (1, 4), (1, 3), (1, 3), (1, 2), (1, 2), (1, 2), (1, 1), (1, 0)] := by
  rw [termsP_LL (by decide +kernel), mlit2x5]
  decide +kernel
theorem tlit2x6 : termsP 2 6 = [(4, 2), (2, 5), (2, 4), (2, 3), (2, 3), (2, 2), (2, 1), (2, 1), (0, 6), (0, 4), (0, 4), (0, 3), (0, 2), (0, 2), (0, 0), (0, 0)] := by
  rw [termsP_LL (by decide +kernel), mlit2x6]
  decide +kernel
theorem tlit2x7 : termsP 2 7 = [(3, 3), (3, 1), (1, 5), (1, 4), (1, 3), (1, 2), (1, 2), (1, 1)] := by
  rw [termsP_LL (by decide +kernel), mlit2x7]
  decide +kernel
theorem tlit2x8 : termsP 2 8 = [(2, 3), (2, 1), (0, 4), (0, 2), (0, 0)] := by
  rw [termsP_LL (by decide +kernel), mlit2x8]
  decide +kernel
theorem tlit2x9 : termsP 2 9 = [(1, 2)] := by
  rw [termsP_LL (by decide +kernel), mlit2x9]
  decide +kernel
theorem tlit2x10 : termsP 2 10 = [(0, 0)] := by
  rw [termsP_LL (by decide +kernel), mlit2x10]
  decide +kernel
def ordB : List (Int × Int) → Bool
  | a :: b :: r => !(decide (a.1 < b.1) || (decide (a.1 = b.1) && decide (a.2 < b.2))) && ordB (b :: r)
  | _ => true
def wgt : List (Int × Int) → Int
  | [] => 0
  | p :: r => (p.1 + 1) * (2 * p.2 + 1) + wgt r
def cntT (p : Int × Int) (T : List (Int × Int)) : Nat := T.countP fun q => decide (q.1 = p.1) && decide (q.2 = p.2)
def cntG (s k : Int) (T : List (Int × Int)) : Nat := T.countP fun q => decide (k ≤ q.2 ∧ -k ≤ q.2 ∧ s ≤ q.1 ∧ -s ≤ q.1)
def chNo (l n : Int) : Int := ((([[1, 2, 1], [1, 6, 15, 20, 15, 6, 1], [1, 10, 45, 120, 210, 252, 210, 120, 45, 10, 1]] : List (List Int))[l.toNat]?.getD [])[n.toNat]?).getD 0
def chkTm (l n : Int) (L T : List (Int × Int)) : Bool :=
  decide (0 < T.length ∧ T.length ≤ 16) &&
  (T.all fun p => decide (0 ≤ p.1 ∧ p.1 ≤ 5 ∧ 0 ≤ p.2 ∧ p.2 ≤ 6 ∧ (n - p.1) % 2 = 0 ∧ p.1 ≤ n ∧ p.1 ≤ 4 * l + 2 - n ∧ (cntT p T : Int) = tcL L p.1 p.2)) &&
  ((List.range 9).all fun a => (List.range 5).all fun b => decide (countIn ((a : Int) - 4) ((b : Int) * 2 - 4 + n % 2) L 0 = cntG ((b : Int) * 2 - 4 + n % 2) ((a : Int) - 4) T)) &&
  decide (countIn 0 (n % 2) L 0 = T.length) && ordB T && decide (wgt T = chNo l n)
theorem tchk0x0 : chkTm 0 0 (mics 0 0) (termsP 0 0) = true := by
  rw [mlit0x0, tlit0x0]
  decide +kernel
theorem thol0x0 : termsP 0 (4 * 0 + 2 - 0) = termsP 0 0 := by
  rw [tlit0x0]
  exact tlit0x2
theorem tchk0x1 : chkTm 0 1 (mics 0 1) (termsP 0 1) = true := by
  rw [mlit0x1, tlit0x1]
  decide +kernel
theorem thol0x1 : termsP 0 (4 * 0 + 2 - 1) = termsP 0 1 := by
  rw [tlit0x1]
  exact tlit0x1
theorem tchk0x2 : chkTm 0 2 (mics 0 2) (termsP 0 2) = true := by
  rw [mlit0x2, tlit0x2]
  decide +kernel
theorem thol0x2 : termsP 0 (4 * 0 + 2 - 2) = termsP 0 2 := by
  rw [tlit0x2]
  exact tlit0x0
theorem tchk1x0 : chkTm 1 0 (mics 1 0) (termsP 1 0) = true := by
  rw [mlit1x0, tlit1x0]
  decide +kernel
theorem thol1x0 : termsP 1 (4 * 1 + 2 - 0) = termsP 1 0 := by
  rw [tlit1x0]
  exact tlit1x6
theorem tchk1x1 : chkTm 1 1 (mics 1 1) (termsP 1 1) = true := by
  rw [mlit1x1, tlit1x1]
  decide +kernel
theorem thol1x1 : termsP 1 (4 * 1 + 2 - 1) = termsP 1 1 := by
  rw [tlit1x1]
  exact tlit1x5
theorem tchk1x2 : chkTm 1 2 (mics 1 2) (termsP 1 2) = true := by
  rw [mlit1x2, tlit1x2]
  decide +kernel
theorem thol1x2 : termsP 1 (4 * 1 + 2 - 2) = termsP 1 2 := by
  rw [tlit1x2]
  exact tlit1x4
theorem tchk1x3 : chkTm 1 3 (mics 1 3) (termsP 1 3) = true := by
  rw [mlit1x3, tlit1x3]
  decide +kernel
theorem thol1x3 : termsP 1 (4 * 1 + 2 - 3) = termsP 1 3 := by
  rw [tlit1x3]
  exact tlit1x3
theorem tchk1x4 : chkTm 1 4 (mics 1 4) (termsP 1 4) = true := by
  rw [mlit1x4, tlit1x4]
  decide +kernel
theorem thol1x4 : termsP 1 (4 * 1 + 2 - 4) = termsP 1 4 := by
  rw [tlit1x4]
  exact tlit1x2
theorem tchk1x5 : chkTm 1 5 (mics 1 5) (termsP 1 5) = true := by
  rw [mlit1x5, tlit1x5]
  decide +kernel
theorem thol1x5 : termsP 1 (4 * 1 + 2 - 5) = termsP 1 5 := by
  rw [tlit1x5]
  exact tlit1x1
theorem tchk1x6 : chkTm 1 6 (mics 1 6) (termsP 1 6) = true := by
  rw [mlit1x6, tlit1x6]
  decide +kernel
theorem thol1x6 : termsP 1 (4 * 1 + 2 - 6) = termsP 1 6 := by
  rw [tlit1x6]
  exact tlit1x0
theorem tchk2x0 : chkTm 2 0 (mics 2 0) (termsP 2 0) = true := by
  rw [mlit2x0, tlit2x0]
  decide +kernel
theorem thol2x0 : termsP 2 (4 * 2 + 2 - 0) = termsP 2 0 := by
  rw [tlit2x0]
  exact tlit2x10
theorem tchk2x1 : chkTm 2 1 (mics 2 1) (termsP 2 1) = true := by
  rw [mlit2x1, tlit2x1]
  decide +kernel
theorem thol2x1 : termsP 2 (4 * 2 + 2 - 1) = termsP 2 1 := by
  rw [tlit2x1]
  exact tlit2x9
theorem tchk2x2 : chkTm 2 2 (mics 2 2) (termsP 2 2) = true := by
  rw [mlit2x2, tlit2x2]
  decide +kernel
theorem thol2x2 : termsP 2 (4 * 2 + 2 - 2) = termsP 2 2 := by
  rw [tlit2x2]
  exact tlit2x8
theorem tchk2x3 : chkTm 2 3 (mics 2 3) (termsP 2 3) = true := by
  rw [mlit2x3, tlit2x3]
  decide +kernel
theorem thol2x3 : termsP 2 (4 * 2 + 2 - 3) = termsP 2 3 := by
  rw [tlit2x3]
  exact tlit2x7
theorem tchk2x4 : chkTm 2 4 (mics 2 4) (termsP 2 4) = true := by
  rw [mlit2x4, tlit2x4]
  decide +kernel
theorem thol2x4 : termsP 2 (4 * 2 + 2 - 4) = termsP 2 4 := by
  rw [tlit2x4]
  exact tlit2x6
theorem tchk2x5 : chkTm 2 5 (mics 2 5) (termsP 2 5) = true := by
  rw [mlit2x5, tlit2x5]
  decide +kernel
theorem thol2x5 : termsP 2 (4 * 2 + 2 - 5) = termsP 2 5 := by
  rw [tlit2x5]
  exact tlit2x5
theorem tchk2x6 : chkTm 2 6 (mics 2 6) (termsP 2 6) = true := by
  rw [mlit2x6, tlit2x6]
  decide +kernel
theorem thol2x6 : termsP 2 (4 * 2 + 2 - 6) = termsP 2 6 := by
  rw [tlit2x6]
  exact tlit2x4
theorem tchk2x7 : chkTm 2 7 (mics 2 7) (termsP 2 7) = true := by
  rw [mlit2x7, tlit2x7]
  decide +kernel
theorem thol2x7 : termsP 2 (4 * 2 + 2 - 7) = termsP 2 7 := by
  rw [tlit2x7]
  exact tlit2x3
theorem tchk2x8 : chkTm 2 8 (mics 2 8) (termsP 2 8) = true := by
  rw [mlit2x8, tlit2x8]
  decide +kernel
theorem thol2x8 : termsP 2 (4 * 2 + 2 - 8) = termsP 2 8 := by
  rw [tlit2x8]
  exact tlit2x2
theorem tchk2x9 : chkTm 2 9 (mics 2 9) (termsP 2 9) = true := by
  rw [mlit2x9, tlit2x9]
  decide +kernel
theorem thol2x9 : termsP 2 (4 * 2 + 2 - 9) = termsP 2 9 := by
  rw [tlit2x9]
  exact tlit2x1
theorem tchk2x10 : chkTm 2 10 (mics 2 10) (termsP 2 10) = true := by
  rw [mlit2x10, tlit2x10]
  decide +kernel
theorem thol2x10 : termsP 2 (4 * 2 + 2 - 10) = termsP 2 10 := by
  rw [tlit2x10]
  exact tlit2x0
theorem tchk {l n : Int} (hv : eOk l n = true) : chkTm l n (mics l n) (termsP l n) = true := by
  have b := eOk_true hv
  rcases (show l = 0 ∨ l = 1 ∨ l = 2 by omega) with rfl | rfl | rfl
  · rcases (show n = 0 ∨ n = 1 ∨ n = 2 by omega) with rfl | rfl | rfl
    · exact tchk0x0
    · exact tchk0x1
    · exact tchk0x2
  · rcases (show n = 0 ∨ n = 1 ∨ n = 2 ∨ n = 3 ∨ n = 4 ∨ n = 5 ∨ n = 6 by omega) with rfl | rfl | rfl | rfl | rfl | rfl | rfl
    · exact tchk1x0
    · exact tchk1x1
    · exact tchk1x2
    · exact tchk1x3
    · exact tchk1x4
    · exact tchk1x5
    · exact tchk1x6
  · rcases (show n = 0 ∨ n = 1 ∨ n = 2 ∨ n = 3 ∨ n = 4 ∨ n = 5 ∨ n = 6 ∨ n = 7 ∨ n = 8 ∨ n = 9 ∨ n = 10 by omega) with rfl | rfl | rfl | rfl | rfl | rfl | rfl | rfl | rfl | rfl | rfl
    · exact tchk2x0
    · exact tchk2x1
    · exact tchk2x2
    · exact tchk2x3
    · exact tchk2x4
    · exact tchk2x5
    · exact tchk2x6
    · exact tchk2x7
    · exact tchk2x8
    · exact tchk2x9
    · exact tchk2x10
theorem tholes {l n : Int} (hv : eOk l n = true) : termsP l (4 * l + 2 - n) = termsP l n := by
  have b := eOk_true hv
  rcases (show l = 0 ∨ l = 1 ∨ l = 2 by omega) with rfl | rfl | rfl
  · rcases (show n = 0 ∨ n = 1 ∨ n = 2 by omega) with rfl | rfl | rfl
    · exact thol0x0
    · exact thol0x1
    · exact thol0x2
  · rcases (show n = 0 ∨ n = 1 ∨ n = 2 ∨ n = 3 ∨ n = 4 ∨ n = 5 ∨ n = 6 by omega) with rfl | rfl | rfl | rfl | rfl | rfl | rfl
    · exact thol1x0
    · exact thol1x1
    · exact thol1x2
    · exact thol1x3
    · exact thol1x4
    · exact thol1x5
    · exact thol1x6
  · rcases (show n = 0 ∨ n = 1 ∨ n = 2 ∨ n = 3 ∨ n = 4 ∨ n = 5 ∨ n = 6 ∨ n = 7 ∨ n = 8 ∨ n = 9 ∨ n = 10 by omega) with rfl | rfl | rfl | rfl | rfl | rfl | rfl | rfl | rfl | rfl | rfl
    · exact thol2x0
    · exact thol2x1
    · exact thol2x2
    · exact thol2x3
    · exact thol2x4
    · exact thol2x5
    · exact thol2x6
    · exact thol2x7
    · exact thol2x8
    · exact thol2x9
    · exact thol2x10
def twoB (l : Int) (T : List (Int × Int)) : Bool := decide (T.length = (2 * l + 1).toNat) && ((List.range (2 * l + 1).toNat).all fun k => decide (cntT (((k % 2 * 2 : Nat) : Int), (k : Int)) T = 1))
theorem ttwo {l : Int} (h0 : 1 ≤ l) (h1 : l ≤ 2) : twoB l (termsP l 2) = true := by
  rcases (show l = 1 ∨ l = 2 by omega) with rfl | rfl
  · rw [tlit1x2]; decide +kernel
  · rw [tlit2x2]; decide +kernel
theorem ttwo0 : termsP 0 2 = [(0, 0)] := tlit0x2
end Go.Proofs.YtjopcpoodhamcaaDoor
