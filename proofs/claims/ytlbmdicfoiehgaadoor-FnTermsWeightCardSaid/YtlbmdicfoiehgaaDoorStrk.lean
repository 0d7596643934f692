/-
  The walks of impl's projections: the iterator's contract. Conditions: none.
-/
import Derived.RangeFuncNested
import Derived.RangeFuncBound
import Derived.RangeFuncCalls
import Derived.RangeFuncLeaves
import Derived.Shelf.Abstract
import Derived.Shelf.RegionOpen
import Derived.WalkKit
import Derived.OwnWalkIn
import Derived.TacticsInMore
import Derived.LoopNIn
import Derived.LoopIn
import Derived.Test.YtlbmdicfoiehgaaDoorTmi
namespace Go.Proofs.YtlbmdicfoiehgaaDoor
set_option linter.unusedSimpArgs false
set_option linter.unusedVariables false
open Go.RowKit Go.Shelf
attribute [local go_sem] Oper.semAt_some

abbrev I8 := { x : Int // -8 ≤ x ∧ x ≤ 8 }
def mk8 (x : Int) : I8 := if h : -8 ≤ x ∧ x ≤ 8 then ⟨x, h⟩ else ⟨0, by decide⟩
theorem mk8_val {x : Int} (h : -8 ≤ x ∧ x ≤ 8) : (mk8 x).1 = x := by unfold mk8; rw [dif_pos h]
/-- The first i projections of s. -/
def prL (s : Int) : Nat → List I8
  | 0 => []
  | i + 1 => prL s i ++ [mk8 (-s + 2 * (i : Int))]
theorem prL_len (s : Int) : ∀ i, (prL s i).length = i
  | 0 => rfl
  | i + 1 => by simp [prL, prL_len s i]
/-- What a round keeps: all below n₀ but block b. -/
theorem butK_b {n₀ b : Nat} {w : World} (hn : n₀ ≤ w.heap.size) (W : World) (l : Nat) (o o' : Obj) (hl : w.heap.size ≤ l) (h : W.heap[l]? = some o) (_ : o.isCells = false) (_ : o.isWalk = false) : But n₀ b W (W.putObj l o') := by
  have hg := grownBy_putObj' W l o'
  have hlt := (Array.getElem?_eq_some_iff.1 h).1
  exact ⟨hg.os, hg.tape, hg.output, hg.size, fun k hk _ => hg.block k (by omega) (fun e => by cases e; omega)⟩
theorem projs_in (F : Fence) (n : Nat) (h47 : F.fn 47) (hro : F.round = none) (j : Int) (w : World) :
    CallsIn F n Tryd.prog 47 #[.int .i64 j] w fun e w' => e = .returned (.func (.func 52) #[] #[.pointer (some ⟨w.heap.size, 0, none⟩)]) ∧ w' = w.alloc (.cells #[.int .i64 j] 67) := by
  refine callsIn_of_wp Tryd.func47 rfl h47 ?_ hro
  simp only [Tryd.ntmps47, List.size_toArray, List.length_cons, List.length_nil, Nat.reduceAdd, Nat.reduceSub, Array.replicate_succ, Array.replicate_zero, List.push_toArray, List.append_toArray, List.nil_append, List.cons_append]
  gi_wp2
  go_ret
  exact ⟨rfl, rfl⟩
set_option maxRecDepth 100000 in
set_option maxHeartbeats 1000000 in
theorem projIt_in (F : Fence) (n : Nat) (h52 : F.fn 52) (hro : F.round = none) (hn : 1 ≤ n) (l Bn n₀ b : Nat) (s : Nat) (hs : s ≤ 8) (hB : Bn < n₀) (hb : Bn ≠ b) (J Jx : List I8 → World → Prop)
    (hY : ∀ pre x W, J pre W → pre.length < s + 1 → YieldAt F (n - 1) Tryd.prog l #[.int .i64 x.1] W fun e W' =>
      (e = .returned (.bool true) ∧ J (pre ++ [x]) W' ∧ But n₀ b W W') ∨ (e = .returned (.bool false) ∧ Jx (pre ++ [x]) W'))
    (W : World) (hBn : W.cell? ⟨Bn, 0, none⟩ = some (.int .i64 s)) (h0 : J [] W) :
    CallsIn F n Tryd.prog 52 #[.func (.yield l) #[] #[], .pointer (some ⟨Bn, 0, none⟩)] W fun e W' => (∃ v, e = .returned v) ∧
      ((∃ ys, ys = prL s (s + 1) ∧ J ys W') ∨ (∃ pre, True ∧ Jx pre W')) := by
  refine callsIn_of_wp Tryd.func52 rfl h52 ?_ hro
  simp only [Tryd.ntmps52, List.size_toArray, List.length_cons, List.length_nil, Nat.reduceAdd, Nat.reduceSub, Array.replicate_succ, Array.replicate_zero, List.push_toArray, List.append_toArray, List.nil_append, List.cons_append]
  have s0 : (0 : Int) ≤ (s : Int) := Int.natCast_nonneg _
  have s8 : (s : Int) ≤ 8 := by omega
  gi_wp2
  gi_loopw [3] (fun p wr => ∃ i : Nat, i ≤ s + 1 ∧ p = .int .i64 (-(s : Int) + 2 * (i : Int)) ∧ wr.cell? ⟨Bn, 0, none⟩ = some (.int .i64 s) ∧ J (prL s i) wr)
    (fun p _ => ((s : Int) + 2 - intOf p).toNat)
  case atStart =>
    exact ⟨0, by omega, by go_num, hBn, h0⟩
  case round =>
    obtain ⟨i, hi, rfl, hc, hJ⟩ := hrel
    have i0' : (0 : Int) ≤ (i : Int) := Int.natCast_nonneg _
    by_cases hlt : i < s + 1
    · have hx : -8 ≤ -(s : Int) + 2 * (i : Int) ∧ -(s : Int) + 2 * (i : Int) ≤ 8 := by omega
      obtain ⟨fn, tmps, assign, body, hy, hR⟩ := hY (prL s i) (mk8 (-(s : Int) + 2 * (i : Int))) wr hJ (by rw [prL_len]; exact hlt)
      rw [mk8_val hx] at hy
      gi_wp2
      refine hR.mono ?_
      rintro e W3 (⟨rfl, hJ3, hk3⟩ | ⟨rfl, hJx3⟩)
      · have hc3 : W3.cell? ⟨Bn, 0, none⟩ = some (.int .i64 s) := (hk3.cell hB hb).trans hc
        gi_wp2
        go_roundw
        case rel => exact ⟨i + 1, by omega, by go_num, hc3, hJ3⟩
        case measure => simp [intOf]; omega
      · gi_wp2
        refine bodyPost_ret (results_none rfl _ _ _) rfl ?_
        exact ⟨⟨_, rfl⟩, .inr ⟨_, trivial, hJx3⟩⟩
    · obtain rfl : i = s + 1 := by omega
      gi_wp2
      go_end0
      exact ⟨⟨_, rfl⟩, .inl ⟨_, rfl, hJ⟩⟩
/-- What projections hands back, as an iterator's contract. -/
theorem proj_stops (F : Fence) (n : Nat) (h52 : F.fn 52) (hro : F.round = none) (hn : 1 ≤ n) (Bn b : Nat) (s : Nat) (hs : s ≤ 8) (w : World) (hB : Bn < w.heap.size) (hb : Bn ≠ b)
    (hc : w.cell? ⟨Bn, 0, none⟩ = some (.int .i64 s)) :
    SeqStopsK F n Tryd.prog 52 #[.pointer (some ⟨Bn, 0, none⟩)] (fun x : I8 => #[Value.int .i64 x.1]) (But w.heap.size b) (fun ys => ys = prL s (s + 1)) (fun _ => True) (s + 1) w := fun l J Jx W hW _ _ hY h0 =>
  projIt_in F n h52 hro hn l Bn w.heap.size b s hs hB hb J Jx hY W ((hW.cell (p := ⟨Bn, 0, none⟩) hB).trans hc) h0
end Go.Proofs.YtlbmdicfoiehgaaDoor
