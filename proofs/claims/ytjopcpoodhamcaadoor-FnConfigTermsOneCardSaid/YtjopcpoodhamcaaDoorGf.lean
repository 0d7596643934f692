import Derived.RangeFuncNested
import Derived.RangeFuncBound
import Derived.RangeFuncCalls
import Derived.RangeFuncLeaves
import Derived.Shelf.Abstract
import Derived.Shelf.RegionOpen
import Derived.WalkKit
import Derived.OwnWalkIn
import Derived.TacticsInMore
import Derived.LoopNIn
import Derived.LoopIn
import Derived.Test.YtjopcpoodhamcaaDoorTmi
/-
  The walks of impl's projections: the iterator's contract. Conditions: none.
-/
namespace Go.Proofs.YtjopcpoodhamcaaDoor
set_option linter.unusedSimpArgs false
set_option linter.unusedVariables false
open Go.RowKit Go.Shelf
attribute [local go_sem] Oper.semAt_some

abbrev I8 := { x : Int // -8 ≤ x ∧ x ≤ 8 }
def mk8 (x : Int) : I8 := if h : -8 ≤ x ∧ x ≤ 8 then ⟨x, h⟩ else ⟨0, by decide⟩
theorem mk8_val {x : Int} (h : -8 ≤ x ∧ x ≤ 8) : (mk8 x).1 = x := by unfold mk8; rw [dif_pos h]
/-- The first i projections of s. -/
def prL (s : Int) : Nat → List I8
  | 0 => []
  | i + 1 => prL s i ++ [mk8 (-s + 2 * (i : Int))]
theorem prL_len (s : Int) : ∀ i, (prL s i).length = i
  | 0 => rfl
  | i + 1 => by simp [prL, prL_len s i]
/-- What a round keeps: all below n₀ but block b. -/
theorem butK_b {n₀ b : Nat} {w : World} (hn : n₀ ≤ w.heap.size) (W : World) (l : Nat) (o o' : Obj) (hl : w.heap.size ≤ l) (h : W.heap[l]? = some o) (_ : o.isCells = false) (_ : o.isWalk = false) : But n₀ b W (W.putObj l o') := by
  have hg := grownBy_putObj' W l o'
  have hlt := (Array.getElem?_eq_some_iff.1 h).1
  exact ⟨hg.os, hg.tape, hg.output, hg.size, fun k hk _ => hg.block k (by omega) (fun e => by cases e; omega)⟩
theorem projs_in (F : Fence) (n : Nat) (h47 : F.fn 61) (hro : F.round = none) (j : Int) (w : World) :
    CallsIn F n Tryd.prog 61 #[.int .i64 j] w fun e w' => e = .returned (.func (.func 72) #[] #[.pointer (some ⟨w.heap.size, 0, none⟩)]) ∧ w' = w.alloc (.cells #[.int .i64 j] 81) := by
  refine callsIn_of_wp Tryd.func61 rfl h47 ?_ hro
  simp only [Tryd.ntmps61, List.size_toArray, List.length_cons, List.length_nil, Nat.reduceAdd, Nat.reduceSub, Array.replicate_succ, Array.replicate_zero, List.push_toArray, List.append_toArray, List.nil_append, List.cons_append]
  gi_wp2
  go_ret
  exact ⟨rfl, rfl⟩
set_option maxRecDepth 100000 in
set_option maxHeartbeats 1000000 in
theorem projIt_in (F : Fence) (n : Nat) (h52 : F.fn 72) (hro : F.round = none) (hn : 1 ≤ n) (l Bn n₀ b : Nat) (s : Nat) (hs : s ≤ 8) (hB : Bn < n₀) (hb : Bn ≠ b) (J Jx : List I8 → World → Prop)
    (hY : ∀ pre x W, J pre W → pre.length < s + 1 → YieldAt F (n - 1) Tryd.prog l #[.int .i64 x.1] W fun e W' =>
      (e = .returned (.bool true) ∧ J (pre ++ [x]) W' ∧ But n₀ b W W') ∨ (e = .returned (.bool false) ∧ Jx (pre ++ [x]) W'))
    (W : World) (hBn : W.cell? ⟨Bn, 0, none⟩ = some (.int .i64 s)) (h0 : J [] W) :
    CallsIn F n Tryd.prog 72 #[.func (.yield l) #[] #[], .pointer (some ⟨Bn, 0, none⟩)] W fun e W' => (∃ v, e = .returned v) ∧
      ((∃ ys, ys = prL s (s + 1) ∧ J ys W') ∨ (∃ pre, True ∧ Jx pre W')) := by
  refine callsIn_of_wp Tryd.func72 rfl h52 ?_ hro
  simp only [Tryd.ntmps72, List.size_toArray, List.length_cons, List.length_nil, Nat.reduceAdd, Nat.reduceSub, Array.replicate_succ, Array.replicate_zero, List.push_toArray, List.append_toArray, List.nil_append, List.cons_append]
  have s0 : (0 : Int) ≤ (s : Int) := Int.natCast_nonneg _
  have s8 : (s : Int) ≤ 8 := by omega
  gi_wp2
  gi_loopw [3] (fun p wr => ∃ i : Nat, i ≤ s + 1 ∧ p = .int .i64 (-(s : Int) + 2 * (i : Int)) ∧ wr.cell? ⟨Bn, 0, none⟩ = some (.int .i64 s) ∧ J (prL s i) wr)
    (fun p _ => ((s : Int) + 2 - intOf p).toNat)
  case atStart =>
    exact ⟨0, by omega, by go_num, hBn, h0⟩
  case round =>
    obtain ⟨i, hi, rfl, hc, hJ⟩ := hrel
    have i0' : (0 : Int) ≤ (i : Int) := Int.natCast_nonneg _
    by_cases hlt : i < s + 1
    · have hx : -8 ≤ -(s : Int) + 2 * (i : Int) ∧ -(s : Int) + 2 * (i : Int) ≤ 8 := by omega
      obtain ⟨fn, tmps, assign, body, hy, hR⟩ := hY (prL s i) (mk8 (-(s : Int) + 2 * (i : Int))) wr hJ (by rw [prL_len]; exact hlt)
      rw [mk8_val hx] at hy
      gi_wp2
      refine hR.mono ?_
      rintro e W3 (⟨rfl, hJ3, hk3⟩ | ⟨rfl, hJx3⟩)
      · have hc3 : W3.cell? ⟨Bn, 0, none⟩ = some (.int .i64 s) := (hk3.cell hB hb).trans hc
        gi_wp2
        go_roundw
        case rel => exact ⟨i + 1, by omega, by go_num, hc3, hJ3⟩
        case measure => simp [intOf]; omega
      · gi_wp2
        refine bodyPost_ret (results_none rfl _ _ _) rfl ?_
        exact ⟨⟨_, rfl⟩, .inr ⟨_, trivial, hJx3⟩⟩
    · obtain rfl : i = s + 1 := by omega
      gi_wp2
      go_end0
      exact ⟨⟨_, rfl⟩, .inl ⟨_, rfl, hJ⟩⟩
/-- What projections hands back, as an iterator's contract. -/
theorem proj_stops (F : Fence) (n : Nat) (h52 : F.fn 72) (hro : F.round = none) (hn : 1 ≤ n) (Bn b : Nat) (s : Nat) (hs : s ≤ 8) (w : World) (hB : Bn < w.heap.size) (hb : Bn ≠ b)
    (hc : w.cell? ⟨Bn, 0, none⟩ = some (.int .i64 s)) :
    SeqStopsK F n Tryd.prog 72 #[.pointer (some ⟨Bn, 0, none⟩)] (fun x : I8 => #[Value.int .i64 x.1]) (But w.heap.size b) (fun ys => ys = prL s (s + 1)) (fun _ => True) (s + 1) w := fun l J Jx W hW _ _ hY h0 =>
  projIt_in F n h52 hro hn l Bn w.heap.size b s hs hB hb J Jx hY W ((hW.cell (p := ⟨Bn, 0, none⟩) hB).trans hc) h0
end Go.Proofs.YtjopcpoodhamcaaDoor

/-
  The walk of impl's strike. Conditions: none.
-/
namespace Go.Proofs.YtjopcpoodhamcaaDoor
set_option linter.unusedSimpArgs false
set_option linter.unusedVariables false
open Go.RowKit Go.Shelf
attribute [local go_sem] Oper.semAt_some

def hits (pre : List I8) (m : Int) : Nat := pre.countP fun x => decide (x.1 = m)
/-- One row of the table, struck at what has come. -/
def rowG (F : Int → Int → Int) (o : Int) (pre : List I8) : Int → Int → Int := fun o' m => if o' = o then F o' m - hits pre m else F o' m
theorem rowG_nil (F : Int → Int → Int) (o : Int) : rowG F o [] = F := by
  funext o' m
  unfold rowG hits
  simp
theorem rowG_step (F : Int → Int → Int) (o : Int) (pre : List I8) (x : I8) : updM (rowG F o pre) o x.1 (rowG F o pre o x.1 - 1) = rowG F o (pre ++ [x]) := by
  funext o' m
  unfold updM rowG hits
  rw [List.countP_append]
  by_cases h : o' = o
  · subst h
    by_cases hm : m = x.1
    · subst hm; simp; omega
    · have : ¬ x.1 = m := fun e => hm e.symm
      simp [hm, this]
  · simp [h]
theorem hits_le (pre : List I8) (m : Int) : hits pre m ≤ pre.length := List.countP_le_length
theorem hits_prL (s : Nat) (hs : s ≤ 8) (m : Int) : ∀ i : Nat, i ≤ s + 1 → hits (prL s i) m = if -(s : Int) ≤ m ∧ m < -(s : Int) + 2 * (i : Int) ∧ (m - s) % 2 = 0 then 1 else 0
  | 0, _ => by
    rw [if_neg (by omega)]; rfl
  | i + 1, hi => by
    have h := hits_prL s hs m i (by omega)
    have e : hits (prL s (i + 1)) m = hits (prL s i) m + (if -(s : Int) + 2 * (i : Int) = m then 1 else 0) := by
      unfold hits
      rw [show prL s (i + 1) = prL s i ++ [mk8 (-(s : Int) + 2 * (i : Int))] from rfl, List.countP_append]
      simp only [List.countP_cons, List.countP_nil, mk8_val (x := -(s : Int) + 2 * (i : Int)) ⟨by omega, by omega⟩]
      simp
    rw [e, h]
    split <;> split <;> split <;> omega
/-- i rows of the table struck. -/
def rowN (F : Int → Int → Int) (s k : Int) (i : Int) : Int → Int → Int := fun o m => if -k ≤ o ∧ o < -k + i ∧ -s ≤ m ∧ m ≤ s ∧ (m - s) % 2 = 0 then F o m - 1 else F o m
theorem rowN_zero (F : Int → Int → Int) (s k : Int) : rowN F s k 0 = F := by
  funext o m
  unfold rowN
  rw [if_neg (by omega)]
theorem rowN_step (F : Int → Int → Int) (s k : Nat) (hs : s ≤ 8) (i : Nat) : rowG (rowN F s k i) (-(k : Int) + i) (prL s (s + 1)) = rowN F s k ((i + 1 : Nat) : Int) := by
  funext o m
  unfold rowG
  rw [hits_prL s hs m (s + 1) (Nat.le_refl _)]
  unfold rowN
  by_cases ho : o = -(k : Int) + i
  · rw [if_pos ho, if_neg (by omega)]
    split <;> split <;> first | omega | (exfalso; omega)
  · rw [if_neg ho]
    split <;> split <;> first | omega | (exfalso; omega)
theorem rowN_last (F : Int → Int → Int) (s k : Nat) : rowN F s k ((2 * k + 1 : Nat) : Int) = strN F s k 1 := by
  funext o m
  unfold rowN strN
  by_cases h : cov s k o m
  · have h' : -(k : Int) ≤ o ∧ o < -(k : Int) + ((2 * k + 1 : Nat) : Int) ∧ -(s : Int) ≤ m ∧ m ≤ s ∧ (m - s) % 2 = 0 := by
      obtain ⟨a, b, c, d, e⟩ := h
      exact ⟨a, by omega, c, d, e⟩
    rw [if_pos h, if_pos h']
  · have h' : ¬ (-(k : Int) ≤ o ∧ o < -(k : Int) + ((2 * k + 1 : Nat) : Int) ∧ -(s : Int) ≤ m ∧ m ≤ s ∧ (m - s) % 2 = 0) := by
      rintro ⟨a, b, c, d, e⟩
      exact h ⟨a, by omega, c, d, e⟩
    rw [if_neg h, if_neg h']
theorem rowN_bd {K : Int} {F : Int → Int → Int} (h : FBd K F) (s k i : Int) : FBd (K + 1) (rowN F s k i) := by
  intro o m
  have := h o m
  unfold rowN
  split <;> omega
theorem rowG_bd {K : Int} {F : Int → Int → Int} (h : FBd K F) (o : Int) (pre : List I8) (hp : pre.length ≤ 10) (o' m : Int) : -K - 10 ≤ rowG F o pre o' m ∧ rowG F o pre o' m ≤ 1000 := by
  have := h o' m
  have := hits_le pre m
  unfold rowG
  split <;> omega

/-- The marks that the loops over the iterator have left: each names a block that holds no call. -/
def MarksOk (B : Nat) (W : World) : List Deferred → Prop
  | [] => True
  | d :: ds => (∃ D, d = { target := .collected D, args := #[] } ∧ B ≤ D ∧ W.heap[D]? = some (.deferred (some [])) ∧ ∀ d' ∈ ds, d'.target ≠ .collected D) ∧ MarksOk B W ds
theorem MarksOk.keep {B : Nat} {W W' : World} : ∀ {ds : List Deferred}, MarksOk B W ds → (∀ D, B ≤ D → W.heap[D]? = some (.deferred (some [])) → (∃ d ∈ ds, d.target = .collected D) → W'.heap[D]? = some (.deferred (some []))) → MarksOk B W' ds
  | [], _, _ => trivial
  | d :: ds, ⟨⟨D, e, hB, hD, hn⟩, hr⟩, hk => ⟨⟨D, e, hB, hk D hB hD ⟨d, by simp, by rw [e]⟩, hn⟩, hr.keep fun D' hB' hD' ⟨d', h1, h2⟩ => hk D' hB' hD' ⟨d', by simp [h1], h2⟩⟩
theorem MarksOk.lt {B : Nat} {W : World} : ∀ {ds : List Deferred}, MarksOk B W ds → ∀ d ∈ ds, ∀ D, d.target = .collected D → D < W.heap.size
  | [], _, d, hd, _, _ => by simp at hd
  | d :: ds, ⟨⟨D, e, hB, hD, hn⟩, hr⟩, d', hd', D', h' => by
    rcases List.mem_cons.1 hd' with rfl | hm
    · rw [e] at h'
      cases h'
      exact (Array.getElem?_eq_some_iff.1 hD).1
    · exact hr.lt d' hm D' h'
theorem marks_leave {F : Fence} {n : Nat} {P : Program} {fn : Func} {tmps : Array Value} {R : Ending → World → Prop} {B b : Nat} {w0 : World} (hb : b < B) (hB : B ≤ w0.heap.size) (N : Nat) (G : Int → Int → Int)
    (hR : ∀ W, Mp W b N G → But B b w0 W → LeavesIn F n P fn tmps R [] .returning W) : ∀ (ds : List Deferred) (W : World), MarksOk B W ds → Mp W b N G → But B b w0 W → LeavesInM F n P fn tmps R ds .returning W
  | [], W, _, hM, hbut => hR W hM hbut
  | d :: ds, W, ⟨⟨D, e, hBD, hD, hn⟩, hr⟩, hM, hbut => by
    have hg := grownBy_putObj' W D (.deferred none)
    have hbz := hbut.size
    refine ⟨by simp, .inl ⟨D, _, by rw [e], run_takeDeferred hD, marks_leave hb hB N G hR ds _ ?_ (hM.kept hg (fun e => by cases e; omega)) ?_⟩⟩
    · exact hr.keep fun D' hB' hD' ⟨d', h1, h2⟩ => (World.putObj_heap_other (fun e => hn d' h1 (by rw [h2, e]))).trans hD'
    · exact ⟨hbut.os, hbut.tape, hbut.output, by have := hg.size; omega, fun k hk hne => (hg.block k (by omega) (fun e => by cases e; omega)).trans (hbut.block k hk hne)⟩
end Go.Proofs.YtjopcpoodhamcaaDoor

/-
  The walk of impl's strike. Conditions: none.
-/
namespace Go.Proofs.YtjopcpoodhamcaaDoor
set_option linter.unusedSimpArgs false
set_option linter.unusedVariables false
open Go.RowKit Go.Shelf
attribute [local go_sem] Oper.semAt_some

theorem ownFrom_but {β : Type} {n₀ b B : Nat} {w : World} (hn : n₀ ≤ w.heap.size) (hB : n₀ ≤ B) : OwnFrom B (fun (_ : β) W => But n₀ b w W) :=
  fun _ A C row hs hg hr => by
    have hz := hs.size
    exact ⟨hg.os.trans hs.os, hg.tape.trans hs.tape, hg.output.trans hs.output, Nat.le_trans hs.size hg.size, fun k hk hne => (hg.block k (by omega) (fun e => by have := (hr k e.symm).1; omega)).trans (hs.block k hk hne)⟩
theorem ownFrom_mp {β : Type} {b B : Nat} (hb : b < B) (f : β → Nat) (g : β → Int → Int → Int) : OwnFrom B (fun (x : β) W => Mp W b (f x) (g x)) :=
  fun _ A C row hs hg hr => hs.kept hg (fun e => by have := (hr _ e.symm).1; omega)
def atPtr (v : Value) (w : World) : Int :=
  match v with
  | .pointer (some p) => match w.cell? p with
    | some (.int _ x) => x
    | _ => 0
  | _ => 0
theorem not_cell {W : World} {D B o : Nat} {v : Value} {x : Option (List Deferred)} (hD : W.heap[D]? = some (.deferred x)) (hc : W.cell? ⟨B, o, none⟩ = some v) : D ≠ B := by
  rintro rfl
  simp [World.cell?, hD] at hc
set_option maxRecDepth 100000 in
set_option maxHeartbeats 4000000 in
theorem strike_ok : StrikeOk := by
  intro b N K F s k w0 hM hF hK hN s0 s8 k0 k8
  obtain ⟨s, rfl⟩ := Int.eq_ofNat_of_zero_le s0
  obtain ⟨k, rfl⟩ := Int.eq_ofNat_of_zero_le k0
  have hb := hM.lt
  refine (callsIn_wide (n := 8)).1 ?_
  refine callsIn_of_wp_marks Tryd.func44 rfl trivial ?_ rfl
  simp only [Tryd.ntmps44, List.size_toArray, List.length_cons, List.length_nil, Nat.reduceAdd, Nat.reduceSub, Array.replicate_succ, Array.replicate_zero, List.push_toArray, List.append_toArray, List.nil_append, List.cons_append]
  gi_wp2
  obtain ⟨w1, hw1⟩ : ∃ W, W = ((w0.alloc (.cells #[.map (some b)] 63)).alloc (.cells #[.int .i64 s, .int .i64 k] 31)).alloc (.cells #[.int .i64 (-(k : Int))] 3) := ⟨_, rfl⟩
  have hB1 : Below w0.heap.size w0 w1 := by rw [hw1]; (repeat' first | (with_reducible exact Below.refl _ _) | (with_reducible assumption) | (with_reducible refine below_drewN ?_ _) | (with_reducible refine Below.drew ?_) | (with_reducible refine Below.alloc ?_ ?_ _) | (with_reducible refine Below.setCell ?_ ?_ _) | (with_reducible refine Below.trans ?_ (Below.mono (by assumption) ?_)) | first | omega | (simp only [World.size_alloc, World.size_setCell, World.size_drew, size_drewN]; omega) | (simp; done) | (simp; omega) | (simp only [World.size_alloc, World.size_setCell, World.size_drew, size_drewN] at *; omega) | (simp at *; omega))
  have hz1 : w1.heap.size = w0.heap.size + 3 := by rw [hw1]; simp
  have c2 : w1.cell? ⟨w0.heap.size, 0, none⟩ = some (.map (some b)) := by rw [hw1]; (simp (disch := first | omega | (simp; done) | (simp; omega)) [go_sem, *]; done)
  have c30 : w1.cell? ⟨w0.heap.size + 1, 0, none⟩ = some (.int .i64 s) := by rw [hw1]; (simp (disch := first | omega | (simp; done) | (simp; omega)) [go_sem, *]; done)
  have c31 : w1.cell? ⟨w0.heap.size + 1, 1, none⟩ = some (.int .i64 k) := by rw [hw1]; (simp (disch := first | omega | (simp; done) | (simp; omega)) [go_sem, *]; done)
  have c4 : w1.cell? ⟨w0.heap.size + 1 + 1, 0, none⟩ = some (.int .i64 (-(k : Int))) := by rw [hw1]; (simp (disch := first | omega | (simp; done) | (simp; omega)) [go_sem, *]; done)
  have f4 : w1.frozen? ⟨w0.heap.size + 1 + 1, 0, none⟩ = false := by rw [hw1]; (simp (disch := first | omega | (simp; done) | (simp; omega)) [go_sem, *]; done)
  have hM1 : Mp w1 b N F := hM.below hB1 hb
  rw [← hw1]
  clear hw1 hM
  refine wpIn_loop (fun a' wr => ∃ (u9 u10 u11 u12 u13 u14 u15 u16 u17 u27 : Value) (ds : List Deferred) (i Bx : Nat),
      (i ≤ 2 * k + 1 ∧ w0.heap.size + 2 ≤ Bx ∧ wr.cell? ⟨Bx, 0, none⟩ = some (.int .i64 (-(k : Int) + (i : Int))) ∧ wr.frozen? ⟨Bx, 0, none⟩ = false ∧ Mp wr b (N + 9 * i) (rowN F s k i) ∧ But (w0.heap.size + 2) b w1 wr ∧ MarksOk (w0.heap.size + 2) wr ds) ∧
      a' = { tmps := #[.map (some b), .agg #[.int .i64 s, .int .i64 k], .pointer (some ⟨w0.heap.size, 0, none⟩), .pointer (some ⟨w0.heap.size + 1, 0, none⟩), .pointer (some ⟨Bx, 0, none⟩), undef, .pointer (some ⟨w0.heap.size + 1, 1, none⟩), .int .i64 k, .int .i64 (-(k : Int)), u9, u10, u11, u12, u13, u14, u15, u16, u17, undef, undef, undef, undef, undef, undef, undef, undef, undef, u27], defers := ds })
    (fun a' wr => ((k : Int) + 1 - atPtr (a'.tmps.getD 4 undef) wr).toNat) ?start ?round
  case start =>
    refine ⟨undef, undef, undef, undef, undef, undef, undef, undef, undef, undef, [], 0, w0.heap.size + 2, ⟨by omega, by omega, by rw [c4]; simp, f4, by rw [show ((0 : Nat) : Int) = 0 from rfl, rowN_zero]; exact hM1, But.refl _ _ _, trivial⟩, rfl⟩
  case round =>
    rintro a' wr ⟨u9, u10, u11, u12, u13, u14, u15, u16, u17, u27, ds, i, Bx, ⟨hi, hBx, hc, hf, hM, hbut, hmk⟩, rfl⟩
    have hbz := hbut.size
    have i0' : (0 : Int) ≤ (i : Int) := Int.natCast_nonneg _
    have d2 := (hbut.cell (b := w0.heap.size) (o := 0) (by omega) (by omega)).trans c2
    have d30 := (hbut.cell (b := w0.heap.size + 1) (o := 0) (by omega) (by omega)).trans c30
    have d31 := (hbut.cell (b := w0.heap.size + 1) (o := 1) (by omega) (by omega)).trans c31
    have hxz : Bx < wr.heap.size := World.block_lt_of_cell? wr _ hc
    by_cases hlt : i < 2 * k + 1
    · have HM := Lib.hid hM
      have HB := Lib.hid hbut
      have HK := Lib.hid hmk
      clear hM hbut hmk c2 c30 c31 c4 f4 hM1
      gi_wp2_with (refine ⟨trivial, ?_⟩; gi_at_call 61; refine (projs_in _ _ trivial rfl _ _).mono ?_; rintro e w' ⟨rfl, rfl⟩)
      have hcP : (wr.alloc (.cells #[.int .i64 s] 81)).cell? ⟨wr.heap.size, 0, none⟩ = some (.int .i64 s) := by (simp (disch := first | omega | (simp; done) | (simp; omega)) [go_sem, *]; done)
      obtain ⟨Wr, hWr⟩ : ∃ W, W = wr.alloc (.cells #[.int .i64 s] 81) := ⟨_, rfl⟩
      have hWz : Wr.heap.size = wr.heap.size + 1 := by rw [hWr]; simp
      have hWa : Below wr.heap.size wr Wr := by rw [hWr]; exact (Below.refl _ _).alloc (Nat.le_refl _) _
      rw [← hWr] at hcP
      rw [← hWr]
      clear hWr
      have hMr : Mp Wr b (N + 9 * i) (rowN F s k i) := HM.out.below hWa (by omega)
      refine wpIn_rangeFunc_ownG (F := Fence.wide) rfl (by omega) (gf := 72) (lb := #[.pointer (some ⟨wr.heap.size, 0, none⟩)]) rfl trivial (enters_of Tryd.func72 (by kernel_rfl) rfl)
        (proj_stops Fence.wide 7 trivial rfl (by omega) wr.heap.size b s (by omega) Wr (by omega) (by omega) hcP) (fun h h' => h.trans h') (butK_b (Nat.le_refl _)) (Below.refl _ _) (fun _ => rfl)
        (fun pre W => Mp W b (N + 9 * i + pre.length) (rowG (rowN F s k i) (-(k : Int) + (i : Int)) pre) ∧ But Wr.heap.size b Wr W)
        (fun _ _ _ => False)
        (OwnFrom.and (ownFrom_mp (by omega) _ _) (ownFrom_but (Nat.le_refl _) (Nat.le_refl _)))
        (fun _ _ _ _ _ hs _ _ => hs)
        ⟨by rw [rowG_nil]; exact hMr, But.refl _ _ _⟩
        ?a1 ?assign ?body ?done ?stop
      case assign =>
        intro l x W K hK
        gi_wp2
        exact hK
      case body =>
        rintro l pre x W ⟨hM, hb2⟩ hlt2
        have hz2 := hb2.size
        have bx := x.2
        obtain ⟨o, ho⟩ : ∃ o : Int, o = -(k : Int) + (i : Int) := ⟨_, rfl⟩
        have q2 := (hb2.cell (b := w0.heap.size) (o := 0) (by omega) (by omega)).trans ((hWa.cell (p := ⟨w0.heap.size, 0, none⟩) (by show w0.heap.size < _; omega)).trans d2)
        have q4 := (hb2.cell (b := Bx) (o := 0) (by omega) (by omega)).trans ((hWa.cell (p := ⟨Bx, 0, none⟩) hxz).trans hc)
        have HO := Lib.hid ho
        rw [← ho] at hM q4
        have hsm : sm o x.1 := ⟨by omega, by omega, by omega, by omega⟩
        have hvb := rowG_bd (rowN_bd hF s k i) o pre (by omega) o x.1
        have hMX : Mp W.drew b (N + 9 * i + pre.length) (rowG (rowN F s k i) o pre) := hM.heap rfl
        have hl := hMX.lookup hsm
        obtain ⟨v0, st, w2, he, hg, hgz, hM2, hst⟩ := hMX.entry (by unfold maxLen; omega) hsm
        have hl2 := hM2.lookup hsm
        obtain ⟨w3, hs3, hg3, hz3, hM3⟩ := hst w2 (rowG (rowN F s k i) o pre o x.1 - 1) rfl (by omega) (by omega)
        have he' : (Instr.mapEntry 63 (.map (some b)) (.agg #[.int .i64 o, .int .i64 x.1])).run Tryd.prog W.drew = .ok (.tuple #[v0, .int .i64 st]) w2 := he
        have hs3' : (Instr.entryStore 63 (.map (some b)) (.int .i64 st) (.int .i64 (rowG (rowN F s k i) o pre o x.1 - 1))).run Tryd.prog w2 = .ok () w3 := hs3
        have hwr : IntKind.i64.wrap (rowG (rowN F s k i) o pre o x.1 - 1) = rowG (rowN F s k i) o pre o x.1 - 1 := IntWalk.i64_in _ (by omega)
        have hbW : But Wr.heap.size b W w3 := (((But.refl _ _ _).drew).grown hg (by show Wr.heap.size ≤ W.heap.size; omega)).grown hg3 (by rw [hgz]; show Wr.heap.size ≤ W.heap.size; omega)
        have hkf : KeepsFrom Wr.heap.size W w3 := (((KeepsOthers.drew W).from _).trans (KeepsFrom.of_grownBy hg (fun j e => by cases e; omega))).trans (KeepsFrom.of_grownBy hg3 (fun j e => by cases e; omega))
        have HR := Lib.hid (show KeepsFrom Wr.heap.size W w3 ∧ But Wr.heap.size b W w3 ∧ (Mp w3 b (N + 9 * i + (pre ++ [x]).length) (rowG (rowN F s k i) o (pre ++ [x])) ∧ But Wr.heap.size b Wr w3) from
          ⟨hkf, hbW, by rw [← rowG_step, List.length_append]; exact hM3, hb2.trans hbW⟩)
        clear he hs3 hst hMX hM2 hM3 hM hb2 hg hg3 hgz hz3 hbW hkf ho
        gi_wp2
        gi_region
        all_goals gi_wp2
        all_goals (have R := HR.out; rw [HO.out] at R; exact R)
      case done =>
        rintro D ys W hD rfl ⟨hM, hb2⟩ hK
        have hz2 := hb2.size
        have q4 := (hb2.cell (b := Bx) (o := 0) (by omega) (by omega)).trans ((hWa.cell (p := ⟨Bx, 0, none⟩) hxz).trans hc)
        have HM2 := Lib.hid hM
        have HB2 := Lib.hid hb2
        have HD := Lib.hid hK
        clear hM hb2 hK
        gi_wp2
        have hM3 := HM2.out
        rw [prL_len, rowN_step F s k (by omega) i] at hM3
        have hb3 : But (w0.heap.size + 2) b w1 W := (HB.out.below (hWa.mono (Nat.le_refl _)) (by omega)).trans ⟨HB2.out.os, HB2.out.tape, HB2.out.output, HB2.out.size, fun k hk hn => HB2.out.block k (by omega) hn⟩
        have hmk : MarksOk (w0.heap.size + 2) W ({ target := .collected D, args := #[] } :: ds) := by
          refine ⟨⟨D, rfl, by omega, HD.out, fun d' hd' e => ?_⟩, ?_⟩
          · have := HK.out.lt d' hd' D e
            omega
          · refine HK.out.keep fun D' _ h1 _ => ?_
            have hlt' : D' < wr.heap.size := (Array.getElem?_eq_some_iff.1 h1).1
            refine (HB2.out.block D' (by omega) ?_).trans ((hWa.block D' hlt').trans h1)
            intro e
            obtain ⟨D0, ⟨es, ck, hh, -⟩, -⟩ := HM.out
            rw [e, hh] at h1
            cases h1
        have hz4 : W.heap.size < (W.alloc (.cells #[.int .i64 (-(k : Int) + (i : Int) + 1)] 3)).heap.size := by simp
        refine ⟨⟨_, _, _, _, _, _, _, _, _, _, _, i + 1, W.heap.size, ⟨by omega, by omega, ?_, ?_, ?_, ?_, ?_⟩, rfl⟩, ?_⟩
        · rw [show -(k : Int) + ((i + 1 : Nat) : Int) = -(k : Int) + (i : Int) + 1 by omega]; (simp (disch := first | omega | (simp; done) | (simp; omega)) [go_sem, *]; done)
        · (simp (disch := first | omega | (simp; done) | (simp; omega)) [go_sem, *]; done)
        · exact (hM3.kept (World.grownBy_alloc _ _ none) (by simp)).mono (by omega)
        · exact hb3.alloc (by omega) _
        · exact hmk.keep fun D' _ h1 _ => (Below.heap_alloc W _ D' (Array.getElem?_eq_some_iff.1 h1).1).trans h1
        · have e1 : (W.alloc (.cells #[.int .i64 (-(k : Int) + (i : Int) + 1)] 3)).cell? ⟨W.heap.size, 0, none⟩ = some (.int .i64 (-(k : Int) + (i : Int) + 1)) := by (simp (disch := first | omega | (simp; done) | (simp; omega)) [go_sem, *]; done)
          simp [atPtr, e1, hc]
          omega
      case stop =>
        rintro D c pre W _ _ h _
        exact h.elim
    · obtain rfl : i = 2 * k + 1 := by omega
      have HM := Lib.hid hM
      have HB := Lib.hid hbut
      have HK := Lib.hid hmk
      clear hM hbut hmk c2 c30 c31 c4 f4 hM1
      gi_wp2
      have hM3 := HM.out
      rw [rowN_last] at hM3
      refine marks_leave (B := w0.heap.size + 2) (b := b) (w0 := w1) (by omega) (by omega) (N + 9 * (2 * k + 1)) (strN F s k 1) ?_ ds wr HK.out hM3 HB.out
      intro W hM4 hb4
      exact ⟨_, results_none rfl _ _ _, rfl, hM4.mono (by omega), ⟨hb4.os.trans hB1.os, hb4.tape.trans hB1.tape, hb4.output.trans hB1.output, by have := hB1.size; have := hb4.size; omega, fun j hj hn => (hb4.block j (by omega) hn).trans (hB1.block j hj)⟩⟩
end Go.Proofs.YtjopcpoodhamcaaDoor
