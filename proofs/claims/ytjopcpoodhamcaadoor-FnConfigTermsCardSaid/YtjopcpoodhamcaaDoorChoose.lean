import Derived.Test.YtjopcpoodhamcaaDoorGd
import Derived.Test.YtjopcpoodhamcaaDoorCouple
/-
  The walk of impl.Choose for small numbers. Conditions: none.
-/
namespace Go.Proofs.YtjopcpoodhamcaaDoor
set_option linter.unusedSimpArgs false
set_option linter.unusedVariables false
open Go.RowKit

def updP (i : Nat) (zs : List Int) : List Int := zs.set i (zs.getD i 0 + zs.getD (i - 1) 0)
/-- The row ahead, a 0 behind it, t steps from the right. -/
def partR (xs : List Int) (m : Nat) : Nat → List Int
  | 0 => xs ++ [0]
  | t + 1 => updP (m + 1 - t) (partR xs m t)
def pasc : Nat → List Int
  | 0 => [1]
  | m + 1 => partR (pasc m) m (m + 1)
theorem partR_succ (xs : List Int) (m t : Nat) : partR xs m (t + 1) = updP (m + 1 - t) (partR xs m t) := rfl
theorem pasc_all : ((List.range 11).all fun m => decide ((pasc m).length = m + 1) && (List.range (m + 2)).all fun t => decide ((partR (pasc m) m t).length = m + 2) && (partR (pasc m) m t).all fun x => decide (0 ≤ x ∧ x ≤ 1000)) = true := by decide +kernel
theorem pasc_len {m : Nat} (h : m ≤ 10) : (pasc m).length = m + 1 := by
  have := List.all_eq_true.1 pasc_all m (List.mem_range.2 (by omega))
  simp only [Bool.and_eq_true, decide_eq_true_eq] at this
  exact this.1
theorem part_ok {m t : Nat} (h : m ≤ 10) (ht : t ≤ m + 1) : (partR (pasc m) m t).length = m + 2 ∧ ∀ x ∈ partR (pasc m) m t, 0 ≤ x ∧ x ≤ 1000 := by
  have := List.all_eq_true.1 pasc_all m (List.mem_range.2 (by omega))
  simp only [Bool.and_eq_true, decide_eq_true_eq] at this
  have q := List.all_eq_true.1 this.2 t (List.mem_range.2 (by omega))
  simp only [Bool.and_eq_true, List.all_eq_true, decide_eq_true_eq] at q
  exact q
def lenC : Value → Nat
  | .slice _ n _ => n
  | _ => 0
theorem vI_set (zs : List Int) (i : Nat) (x : Int) : (vI zs).set i (.int .i64 x) = vI (zs.set i x) := by simp [vI, List.map_set]
theorem vI_at {zs : List Int} {i : Nat} {x : Int} (h : zs[i]? = some x) : (vI zs)[i]? = some (.int .i64 x) := by simp [vI, h]
set_option maxRecDepth 20000 in
set_option maxHeartbeats 4000000 in
theorem iChoose_any (N k : Nat) (x : Int) (w : World) (hN : N ≤ 10) (hk : k ≤ N) (hx : (pasc N)[k]? = some x) :
    Calls Tryd.prog 36 #[.int .i64 N, .int .i64 k] w fun e w' => e = .returned (.int .i64 x) ∧ Below w.heap.size w w' := by
  obtain ⟨i0, ihi, iz0, iz1, iz2⟩ := info_parts infoI
  have N0 : (0 : Int) ≤ (N : Int) := Int.natCast_nonneg _
  have N1 : (N : Int) ≤ 10 := by omega
  have k0 : (0 : Int) ≤ (k : Int) := Int.natCast_nonneg _
  have k1 : (k : Int) ≤ (N : Int) := by omega
  have d1 : decide ((N : Int) < 0) = false := by first | (simp; done) | (simp; omega)
  have d2 : decide ((N : Int) > 40) = false := by first | (simp; done) | (simp; omega)
  have d3 : decide ((k : Int) < 0) = false := by first | (simp; done) | (simp; omega)
  have d5 : decide (N < k) = false := by simp; omega
  have d4 : decide ((k : Int) > (N : Int)) = false := by first | (simp; done) | (simp; omega)
  have hlit : (w.alloc (.cells #[.int .i64 1] 3)).ownsRow w.heap.size 3 1 (.slice (some ⟨w.heap.size, 0, none⟩) 1 1) 1 (vI (pasc 0)) := World.ownsRow_lit (base := w.heap.size) (e := 3) (size := 1) w #[.int .i64 1] 1 (Nat.le_refl _) (by unfold maxLen; omega) rfl
  go_enter Tryd.func36, Tryd.ntmps36
  go_wp2
  go_loopw [5] (fun v wr => ∃ m : Nat, m ≤ N ∧ wr.ownsRow w.heap.size 3 1 v (m + 1) (vI (pasc m)) ∧ Below w.heap.size w wr) (fun v _ => N + 1 - lenC v)
  case atStart => exact ⟨0, Nat.zero_le _, hlit, by (repeat' first | (with_reducible exact Below.refl _ _) | (with_reducible assumption) | (with_reducible refine below_drewN ?_ _) | (with_reducible refine Below.drew ?_) | (with_reducible refine Below.alloc ?_ ?_ _) | (with_reducible refine Below.setCell ?_ ?_ _) | (with_reducible refine Below.trans ?_ (Below.mono (by assumption) ?_)) | first | omega | (simp only [World.size_alloc, World.size_setCell, World.size_drew, size_drewN]; omega) | (simp; done) | (simp; omega) | (simp only [World.size_alloc, World.size_setCell, World.size_drew, size_drewN] at *; omega) | (simp at *; omega))⟩
  case round =>
    obtain ⟨m, hm, hown, hbel⟩ := hrel
    have hbz := hbel.size
    obtain ⟨g, cp, rfl, hg1, hg2, hcell, hfree⟩ := row_form hown (by omega)
    have HF := Lib.hid hfree
    have HC := Lib.hid hcell
    clear hcell hfree
    by_cases hlt : m < N
    · have m1 : ((m : Int) + 1) ≤ (N : Int) := by omega
      go_wp2_with (first | (at_builtin; refine wpList_append_own _ rfl _ _ 75 rfl w.heap.size 3 i0 (.int .i64 0) 1 8 Tryd.underlying75 ihi iz0 iz1 iz2 rfl (by decide) _ _ _ rfl (hown.alloc _) ⟨wr.heap.size, 0, none⟩ 1 1 [.int .i64 0] rfl rfl ?c1 ?c2 ?c3 ?c4 ?c5 ?_))
      case c1 =>
        intro j u hj
        match j, hj with
        | 0, hj => simp at hj; subst hj; simp [Addr.add]
      case c2 => intro u hu; simp at hu; subst hu; rfl
      case c3 => unfold maxLen; omega
      case c4 => omega
      case c5 => simp; omega
      intro v' w1 hown' hgrow _
      have hbel' : Below w.heap.size w w1 := (hbel.alloc hbz _).grown hgrow (by simp; omega) (fun k hk => (hown.lt k hk).1)
      have hown2 : w1.ownsRow w.heap.size 3 1 v' (m + 2) (vI (partR (pasc m) m 0)) := by show w1.ownsRow _ _ _ _ _ (vI (pasc m ++ [0])); rw [vI_append]; exact hown'
      clear hown' hgrow hown hbel HF HC
      obtain ⟨g', c', rfl, hg', hg'', -, -⟩ := row_form hown2 (by omega)
      go_wp2
      go_loopw [6] (fun i wr => ∃ i' : Nat, i' ≤ m + 1 ∧ i = .int .i64 i' ∧ wr.ownsRow w.heap.size 3 1 (.slice (some ⟨g', 0, none⟩) (m + 2) c') (m + 2) (vI (partR (pasc m) m (m + 1 - i'))) ∧ Below w.heap.size w wr) (fun i _ => (intOf i).toNat)
      case atStart => exact ⟨m + 1, Nat.le_refl _, by go_num, by rw [Nat.sub_self]; exact hown2, hbel'⟩
      case round =>
        obtain ⟨i, hi, rfl, hown3, hbel3⟩ := hrel
        have hbz3 := hbel3.size
        cases i with
        | zero =>
          have hfin : wr.ownsRow w.heap.size 3 1 (.slice (some ⟨g', 0, none⟩) (m + 2) c') (m + 1 + 1) (vI (pasc (m + 1))) := hown3
          clear hown3
          go_wp2
          go_roundw
          case rel => exact ⟨m + 1, hlt, hfin, hbel3⟩
          case measure => show N + 1 - (m + 2) < N + 1 - (m + 1); omega
        | succ j =>
          obtain ⟨pl, pb⟩ := part_ok (m := m) (t := m + 1 - (j + 1)) (by omega) (by omega)
          obtain ⟨x1, hx1⟩ : ∃ x, (partR (pasc m) m (m + 1 - (j + 1)))[j + 1]? = some x := ⟨_, List.getElem?_eq_getElem (by omega)⟩
          obtain ⟨x0, hx0⟩ : ∃ x, (partR (pasc m) m (m + 1 - (j + 1)))[j]? = some x := ⟨_, List.getElem?_eq_getElem (by omega)⟩
          have b1 := pb x1 (List.mem_of_getElem? hx1)
          have b0 := pb x0 (List.mem_of_getElem? hx0)
          have c1 : wr.cell? ⟨g', j + 1, none⟩ = some (.int .i64 x1) := (hown3.cellAt (j + 1) (by omega)).trans (vI_at hx1)
          have c0 : wr.cell? ⟨g', j, none⟩ = some (.int .i64 x0) := (hown3.cellAt j (by omega)).trans (vI_at hx0)
          have f1 := hown3.frozenAt (j + 1)
          have ejc : ((j + 1 : Nat) : Int) = (j : Int) + 1 := by omega
          have j0 : (0 : Int) ≤ (j : Int) := Int.natCast_nonneg _
          have j1 : (j : Int) + 1 < ((m + 2 : Nat) : Int) := by omega
          have j2 : (j : Int) + 1 - 1 = (j : Int) := by omega
          have q1 : IntKind.i64.wrap (x1 + x0) = x1 + x0 := IntWalk.i64_in _ (by omega)
          have hst := (hown3.drew).stored (j + 1) (.int .i64 (x1 + x0))
          have hnew : vI (partR (pasc m) m (m + 1 - j)) = (vI (partR (pasc m) m (m + 1 - (j + 1)))).set (j + 1) (.int .i64 (x1 + x0)) := by
            rw [vI_set, show m + 1 - j = (m + 1 - (j + 1)) + 1 by omega, partR_succ, show m + 1 - (m + 1 - (j + 1)) = j + 1 by omega]
            unfold updP
            rw [Nat.add_sub_cancel]
            rw [show ∀ (l : List Int), l.getD (j + 1) 0 = (l[j + 1]?).getD 0 from fun l => List.getD_eq_getElem?_getD, show ∀ (l : List Int), l.getD j 0 = (l[j]?).getD 0 from fun l => List.getD_eq_getElem?_getD, hx1, hx0]
            rfl
          have HR := Lib.hid (show ((wr.drew.setCell ⟨g', j + 1, none⟩ (.int .i64 (x1 + x0)))).ownsRow w.heap.size 3 1 (.slice (some ⟨g', 0, none⟩) (m + 2) c') (m + 2) (vI (partR (pasc m) m (m + 1 - j))) ∧ Below w.heap.size w (wr.drew.setCell ⟨g', j + 1, none⟩ (.int .i64 (x1 + x0))) from ⟨by rw [hnew]; exact hst.1, (hbel3.drew).setCell hg' _⟩)
          clear hst hnew hown3 hbel3 hx1 hx0 pb pl hown2 hbel'
          rw [ejc]
          go_wp2
          go_region
          all_goals go_wp2
          all_goals go_roundw
          all_goals first
            | (case rel => exact ⟨j, by omega, by go_num, HR.out.1, HR.out.2⟩)
            | (case measure => first | (simp [intOf]; done) | (simp [intOf]; omega))
            | skip
    · obtain rfl : m = N := by omega
      have hc := (HC.out k (by omega)).trans (vI_at hx)
      have k2 : (k : Int) < ((m + 1 : Nat) : Int) := by omega
      go_wp2
      go_ret
      exact ⟨rfl, hbel⟩
end Go.Proofs.YtjopcpoodhamcaaDoor
