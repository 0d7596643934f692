/-
  The walk of the law FnFactorSumLevels. Conditions: where the two package-level errors lie.
-/
import Derived.Test.YtdghihinednenaaDoorSumH
import Derived.Test.YtdghihinednenaaDoorDrawF
import Derived.Test.YtdghihinednenaaDoorTo
import Derived.Test.YtdghihinednenaaDoorMomQ
import Derived.Deep.RegionHeld3
namespace Go.Proofs.YtdghihinednenaaDoor
set_option linter.unusedSimpArgs false
set_option linter.unusedVariables false
open Go.RowKit

theorem But.own {B rb : Nat} {a w : World} (h : But B rb a w) (o : Nat) (u : Value) : But B rb a (w.setCell ⟨rb, o, none⟩ u) := by
  refine ⟨h.os, h.tape, h.output, ?_, fun k hk hn => ?_⟩
  · rw [World.size_setCell]; exact h.size
  · rw [Below.heap_setCell _ _ _ _ hn]; exact h.block k hk hn
theorem But.low {B B' rb : Nat} {a w : World} (h : But B rb a w) (h1 : B' ≤ B) (h2 : B' ≤ rb) : Below B' a w := ⟨h.os, h.tape, h.output, h.size, fun k hk => h.block k (by omega) (by omega)⟩
theorem But.cell {B rb : Nat} {a w : World} (h : But B rb a w) {b o : Nat} (hb : b < B) (hn : b ≠ rb) : w.cell? ⟨b, o, none⟩ = a.cell? ⟨b, o, none⟩ := World.cell?_of_block (h.block b hb hn)
set_option maxRecDepth 20000 in
set_option maxHeartbeats 2000000 in
theorem walk_FnFactorSumLevels (a : Option Addr) (len cap : Nat) (w : World) (aR aL : Addr) (hE : ErrW aR aL w) (hb : BytesAt w a len cap) :
    Calls Tryd.prog 12 #[.slice a len cap] w fun e w' => e = .returned (.bool true) ∧ Below w.heap.size w w' := by
  by_cases hlen : 1048576 < len
  · clear hb
    go_enter Tryd.func12, Tryd.ntmps12
    go_wp2
    go_ret
    exact ⟨rfl, Below.refl _ _⟩
  · have hlen' : len ≤ 1048576 := by omega
    clear hlen
    have HB := Lib.hid hb
    clear hb
    go_enter Tryd.func12, Tryd.ntmps12
    go_wp2_with fail
    refine (dFactorSum_any a len cap _ HB.out).mono ?_
    rintro e w1 ⟨s, l, rfl, hs0, hs1, hl0, hl1, hb1⟩
    have hz1 := hb1.size
    go_wp2_with fail
    refine (iSum_any _ _ aR aL _ (hE.below (by (repeat' first | (with_reducible exact Below.refl _ _) | (with_reducible assumption) | (with_reducible refine below_drewN ?_ _) | (with_reducible refine Below.drew ?_) | (with_reducible refine Below.alloc ?_ ?_ _) | (with_reducible refine Below.setCell ?_ ?_ _) | (with_reducible refine Below.trans ?_ (Below.mono (by assumption) ?_)) | first | omega | (simp only [World.size_alloc, World.size_setCell, World.size_drew, size_drewN]; omega) | (simp; done) | (simp; omega) | (simp only [World.size_alloc, World.size_setCell, World.size_drew, size_drewN] at *; omega) | (simp at *; omega))) (Nat.le_refl _))).mono ?_
    rintro e w2 ⟨rfl, hb2⟩
    obtain ⟨hc2, hf2⟩ := bcell hb2; have hz2 := hb2.size; (try simp only [World.size_alloc, World.size_setCell, World.size_drew, size_drewN] at hz2 hc2 hf2); (have g2a : w1.heap.size < w2.heap.size := by omega)
    go_wp2_with fail
    refine (sSum_any _ _ _).mono ?_
    rintro e w3 ⟨rfl, hb3⟩
    obtain ⟨hc3, hf3⟩ := bcell hb3; have hz3 := hb3.size; (try simp only [World.size_alloc, World.size_setCell, World.size_drew, size_drewN] at hz3 hc3 hf3); (have g3a : w1.heap.size < w3.heap.size := by omega)
    have gx3 : w2.heap.size < w3.heap.size := by omega
    (have k0 : w3.cell? ⟨w1.heap.size, 0, none⟩ = some (.int .i64 s) := by (simp (disch := first | omega | (simp; done) | (simp; omega)) [go_sem, *]; done)); (have k1 : w3.cell? ⟨w1.heap.size, 1, none⟩ = some (.int .i64 l) := by (simp (disch := first | omega | (simp; done) | (simp; omega)) [go_sem, *]; done))
    (have m0 : w3.cell? ⟨w2.heap.size, 0, none⟩ = some (.int .i64 (sumR s l).1) := by (simp (disch := first | omega | (simp; done) | (simp; omega)) [go_sem, *]; done)); (have m1 : w3.cell? ⟨w2.heap.size, 1, none⟩ = some (.int .i64 (sumR s l).2.1) := by (simp (disch := first | omega | (simp; done) | (simp; omega)) [go_sem, *]; done))
    have hB : Below w.heap.size w w3 := by (repeat' first | (with_reducible exact Below.refl _ _) | (with_reducible assumption) | (with_reducible refine below_drewN ?_ _) | (with_reducible refine Below.drew ?_) | (with_reducible refine Below.alloc ?_ ?_ _) | (with_reducible refine Below.setCell ?_ ?_ _) | (with_reducible refine Below.trans ?_ (Below.mono (by assumption) ?_)) | first | omega | (simp only [World.size_alloc, World.size_setCell, World.size_drew, size_drewN]; omega) | (simp; done) | (simp; omega) | (simp only [World.size_alloc, World.size_setCell, World.size_drew, size_drewN] at *; omega) | (simp at *; omega))
    have hE3 : ErrW aR aL w3 := hE.below hB (Nat.le_refl _)
    clear hc2 hf2 hc3 hf3 hb1 hb2 hb3 hE HB
    cases hk : (sumR s l).2.2
    · go_wp2
      go_ret
      exact ⟨rfl, by (repeat' first | (with_reducible exact Below.refl _ _) | (with_reducible assumption) | (with_reducible refine below_drewN ?_ _) | (with_reducible refine Below.drew ?_) | (with_reducible refine Below.alloc ?_ ?_ _) | (with_reducible refine Below.setCell ?_ ?_ _) | (with_reducible refine Below.trans ?_ (Below.mono (by assumption) ?_)) | first | omega | (simp only [World.size_alloc, World.size_setCell, World.size_drew, size_drewN]; omega) | (simp; done) | (simp; omega) | (simp only [World.size_alloc, World.size_setCell, World.size_drew, size_drewN] at *; omega) | (simp at *; omega))⟩
    · have hv := sumR_true hk
      have bt := tvB_true hv
      obtain ⟨n1, n2, n3⟩ := nLv_bd hv
      have ac := acc_sum hv
      have HV := Lib.hid hv
      have HE := Lib.hid hE3
      go_wp2_with fail
      refine (whole_any _ _).mono ?_
      rintro e w4 ⟨rfl, hb4⟩
      obtain ⟨hc4, hf4⟩ := bcell hb4; have hz4 := hb4.size; (try simp only [World.size_alloc, World.size_setCell, World.size_drew, size_drewN] at hz4 hc4 hf4); (have g4a : w1.heap.size < w4.heap.size := by omega)
      have gx4 : w2.heap.size < w4.heap.size := by omega
      have gz4 : ¬ w2.heap.size = w3.heap.size := by omega
      go_wp2_with fail
      refine (iLevels_some _ _ _ (by omega)).mono ?_
      rintro e w5 ⟨g, c, rfl, L, -, -, hg1, hg2, hb5⟩
      obtain ⟨hc5, hf5⟩ := bcell hb5; have hz5 := hb5.size; (try simp only [World.size_alloc, World.size_setCell, World.size_drew, size_drewN] at hz5 hc5 hf5); (have g5a : w1.heap.size < w5.heap.size := by omega)
      have gx5 : w2.heap.size < w5.heap.size := by omega
      have gy5 : w4.heap.size < w5.heap.size := by omega
      have gz5 : ¬ w2.heap.size = w4.heap.size := by omega
      have LL := Lib.hid (show LvRow w5 g s l from L)
      (have v0 : w5.cell? ⟨w2.heap.size, 0, none⟩ = some (.int .i64 (sumR s l).1) := by (simp (disch := first | omega | (simp; done) | (simp; omega)) [go_sem, *]; done)); (have v1 : w5.cell? ⟨w2.heap.size, 1, none⟩ = some (.int .i64 (sumR s l).2.1) := by (simp (disch := first | omega | (simp; done) | (simp; omega)) [go_sem, *]; done))
      (have t0 : w5.cell? ⟨w4.heap.size, 0, none⟩ = some (.int .i64 0) := by (simp (disch := first | omega | (simp; done) | (simp; omega)) [go_sem, *]; done)); (have t1 : w5.cell? ⟨w4.heap.size, 1, none⟩ = some (.int .i64 1) := by (simp (disch := first | omega | (simp; done) | (simp; omega)) [go_sem, *]; done))
      (have u0 : w5.frozen? ⟨w4.heap.size, 0, none⟩ = false := by (simp (disch := first | omega | (simp; done) | (simp; omega)) [go_sem, *]; done)); (have u1 : w5.frozen? ⟨w4.heap.size, 1, none⟩ = false := by (simp (disch := first | omega | (simp; done) | (simp; omega)) [go_sem, *]; done))
      have hB35 : Below w3.heap.size w3 w5 := by (repeat' first | (with_reducible exact Below.refl _ _) | (with_reducible assumption) | (with_reducible refine below_drewN ?_ _) | (with_reducible refine Below.drew ?_) | (with_reducible refine Below.alloc ?_ ?_ _) | (with_reducible refine Below.setCell ?_ ?_ _) | (with_reducible refine Below.trans ?_ (Below.mono (by assumption) ?_)) | first | omega | (simp only [World.size_alloc, World.size_setCell, World.size_drew, size_drewN]; omega) | (simp; done) | (simp; omega) | (simp only [World.size_alloc, World.size_setCell, World.size_drew, size_drewN] at *; omega) | (simp at *; omega))
      have hB5 : Below w.heap.size w w5 := hB.trans (hB35.mono (by omega))
      rw [n3]
      have hgE : g ≠ w4.heap.size := by (simp only [World.size_alloc] at hg1); omega
      have h2E : w2.heap.size ≠ w4.heap.size := by omega
      clear L hc4 hf4 hc5 hf5 hb4 hb5 hB k0 k1 m0 m1 hE3 hv n3 hs0 hs1 hl0 hl1
      go_wp2_with fail
      go_loopw [10] (fun i wr => ∃ k : Nat, k ≤ nLv s l ∧ i = .int .i64 k ∧ wr.cell? ⟨w4.heap.size, 0, none⟩ = some (.int .i64 (accR s l k).1) ∧ wr.cell? ⟨w4.heap.size, 1, none⟩ = some (.int .i64 (accR s l k).2.1) ∧ wr.frozen? ⟨w4.heap.size, 0, none⟩ = false ∧ wr.frozen? ⟨w4.heap.size, 1, none⟩ = false ∧ But w5.heap.size w4.heap.size w5 wr) (fun i _ => nLv s l - (intOf i).toNat)
      case atStart => exact ⟨0, Nat.zero_le _, rfl, t0, t1, u0, u1, But.refl _ _ _⟩
      case round =>
        obtain ⟨k, hk', rfl, c0, c1, z0, z1, hbut⟩ := hrel
        have hbz := hbut.size
        have hlow : Below w.heap.size w wr := hB5.trans (hbut.low (by omega) (by omega))
        by_cases hlt : k < nLv s l
        · obtain ⟨e0, e1, e2⟩ := LL.out k _ (jAt_get HV.out hlt)
          have r0 := (hbut.cell (b := g) (o := k * 3) hg2 hgE).trans e0
          have r1 := (hbut.cell (b := g) (o := k * 3 + 1) hg2 hgE).trans e1
          have r2 := (hbut.cell (b := g) (o := k * 3 + 2) hg2 hgE).trans e2
          have hlv := jAt_lv HV.out hlt
          have bj := lvB_bd hlv
          have mv := (momF_V hlv).1
          have mo := (momF_V hlv).2
          have v2 : ratV (jAt s l k + 1) 1 = true := ratV_int _ (by omega) (by omega)
          have po := (part_ok HV.out hlt).1
          have vp := (part_ok HV.out hlt).2
          have va := (acc_ok HV.out hk').2
          have v3 := (acc_ok (k := k + 1) HV.out hlt).1
          have i0' : (0 : Int) ≤ (k : Int) := Int.natCast_nonneg _
          have i1 : (k : Int) < (nLv s l : Int) := by omega
          have q1 : IntKind.i64.wrap (jAt s l k + 1) = jAt s l k + 1 := IntWalk.i64_in _ (by omega)
          have hgr : g < wr.heap.size := by omega
          have h4r : w4.heap.size < wr.heap.size := by omega
          have HEr : Hid (ErrW aR aL wr) := Lib.hid (HE.out.below (hB35.trans (hbut.low (by omega) (by omega))) (Nat.le_refl _))
          clear e0 e1 e2
          go_wp2_with fail
          refine (iMoment_any s l (jAt s l k) aR aL _ (HEr.out.below (by (repeat' first | (with_reducible exact Below.refl _ _) | (with_reducible assumption) | (with_reducible refine below_drewN ?_ _) | (with_reducible refine Below.drew ?_) | (with_reducible refine Below.alloc ?_ ?_ _) | (with_reducible refine Below.setCell ?_ ?_ _) | (with_reducible refine Below.trans ?_ (Below.mono (by assumption) ?_)) | first | omega | (simp only [World.size_alloc, World.size_setCell, World.size_drew, size_drewN]; omega) | (simp; done) | (simp; omega) | (simp only [World.size_alloc, World.size_setCell, World.size_drew, size_drewN] at *; omega) | (simp at *; omega))) (Nat.le_refl _))).mono ?_
          rintro e w6 ⟨rfl, hb6⟩
          rw [mo]
          obtain ⟨hc6, hf6⟩ := bcell hb6; have hz6 := hb6.size; (try simp only [World.size_alloc, World.size_setCell, World.size_drew, size_drewN] at hz6 hc6 hf6)
          have y6 : g < w6.heap.size := by omega
          have y7 : w4.heap.size < w6.heap.size := by omega
          (have cc0 : w6.cell? ⟨w4.heap.size, 0, none⟩ = some (.int .i64 (accR s l k).1) := by (simp (disch := first | omega | (simp; done) | (simp; omega)) [go_sem, *]; done)); (have cc1 : w6.cell? ⟨w4.heap.size, 1, none⟩ = some (.int .i64 (accR s l k).2.1) := by (simp (disch := first | omega | (simp; done) | (simp; omega)) [go_sem, *]; done))
          (have ff0 : w6.frozen? ⟨w4.heap.size, 0, none⟩ = false := by (simp (disch := first | omega | (simp; done) | (simp; omega)) [go_sem, *]; done)); (have ff1 : w6.frozen? ⟨w4.heap.size, 1, none⟩ = false := by (simp (disch := first | omega | (simp; done) | (simp; omega)) [go_sem, *]; done))
          have cr : w6.cell? ⟨g, k * 3 + 2, none⟩ = some (.int .i64 (jAt s l k)) := by (simp (disch := first | omega | (simp; done) | (simp; omega)) [go_sem, *]; done)
          have hB6 : Below wr.heap.size wr w6 := by (repeat' first | (with_reducible exact Below.refl _ _) | (with_reducible assumption) | (with_reducible refine below_drewN ?_ _) | (with_reducible refine Below.drew ?_) | (with_reducible refine Below.alloc ?_ ?_ _) | (with_reducible refine Below.setCell ?_ ?_ _) | (with_reducible refine Below.trans ?_ (Below.mono (by assumption) ?_)) | first | omega | (simp only [World.size_alloc, World.size_setCell, World.size_drew, size_drewN]; omega) | (simp; done) | (simp; omega) | (simp only [World.size_alloc, World.size_setCell, World.size_drew, size_drewN] at *; omega) | (simp at *; omega))
          clear hc6 hf6 hb6 r0 r1 r2 mo hlv bj c0 c1 z0 z1 HEr
          go_wp2_with fail
          obtain ⟨W, hW⟩ : ∃ W, W = w6.alloc (.cells #[.int .i64 (momF s l (jAt s l k)).1, .int .i64 (momF s l (jAt s l k)).2.1] 27) := ⟨_, rfl⟩
          have f0 : W.cell? ⟨w6.heap.size, 0, none⟩ = some (.int .i64 (momF s l (jAt s l k)).1) := by subst hW; (simp (disch := first | omega | (simp; done) | (simp; omega)) [go_sem, *]; done)
          have f1 : W.cell? ⟨w6.heap.size, 1, none⟩ = some (.int .i64 (momF s l (jAt s l k)).2.1) := by subst hW; (simp (disch := first | omega | (simp; done) | (simp; omega)) [go_sem, *]; done)
          have f2 : W.cell? ⟨g, k * 3 + 2, none⟩ = some (.int .i64 (jAt s l k)) := by subst hW; (simp (disch := first | omega | (simp; done) | (simp; omega)) [go_sem, *]; done)
          have f3 : W.cell? ⟨w4.heap.size, 0, none⟩ = some (.int .i64 (accR s l k).1) := by subst hW; (simp (disch := first | omega | (simp; done) | (simp; omega)) [go_sem, *]; done)
          have f4 : W.cell? ⟨w4.heap.size, 1, none⟩ = some (.int .i64 (accR s l k).2.1) := by subst hW; (simp (disch := first | omega | (simp; done) | (simp; omega)) [go_sem, *]; done)
          have h0 : W.frozen? ⟨w4.heap.size, 0, none⟩ = false := by subst hW; (simp (disch := first | omega | (simp; done) | (simp; omega)) [go_sem, *]; done)
          have h1 : W.frozen? ⟨w4.heap.size, 1, none⟩ = false := by subst hW; (simp (disch := first | omega | (simp; done) | (simp; omega)) [go_sem, *]; done)
          have hBW : Below wr.heap.size wr W := by subst hW; (repeat' first | (with_reducible exact Below.refl _ _) | (with_reducible assumption) | (with_reducible refine below_drewN ?_ _) | (with_reducible refine Below.drew ?_) | (with_reducible refine Below.alloc ?_ ?_ _) | (with_reducible refine Below.setCell ?_ ?_ _) | (with_reducible refine Below.trans ?_ (Below.mono (by assumption) ?_)) | first | omega | (simp only [World.size_alloc, World.size_setCell, World.size_drew, size_drewN]; omega) | (simp; done) | (simp; omega) | (simp only [World.size_alloc, World.size_setCell, World.size_drew, size_drewN] at *; omega) | (simp at *; omega))
          have hzW : w6.heap.size + 1 ≤ W.heap.size := by subst hW; simp
          have h4W : w4.heap.size < W.heap.size := by omega
          have n4W : ¬ w4.heap.size = W.heap.size := by omega
          rw [← hW]
          clear hW hB6 cc0 cc1 cr ff0 ff1
          have x0 := World.new_ne W _ f0
          have x1 := World.new_ne W _ f1
          have x2 := World.new_ne W _ f2
          go_region_held3 (fun w' => w'.cell? ⟨w6.heap.size, 0, none⟩ = some (.int .i64 (momF s l (jAt s l k)).1) ∧ w'.cell? ⟨w6.heap.size, 1, none⟩ = some (.int .i64 (momF s l (jAt s l k)).2.1) ∧ w'.cell? ⟨g, k * 3 + 2, none⟩ = some (.int .i64 (jAt s l k)) ∧ W.heap.size ≤ w'.heap.size ∧ Below W.heap.size W w')
            (first | (simp (disch := first | omega | (simp; done) | (simp; omega)) [go_sem, *]; done) | ((repeat' first | (with_reducible exact Below.refl _ _) | (with_reducible assumption) | (with_reducible refine below_drewN ?_ _) | (with_reducible refine Below.drew ?_) | (with_reducible refine Below.alloc ?_ ?_ _) | (with_reducible refine Below.setCell ?_ ?_ _) | (with_reducible refine Below.trans ?_ (Below.mono (by assumption) ?_)) | first | omega | (simp only [World.size_alloc, World.size_setCell, World.size_drew, size_drewN]; omega) | (simp; done) | (simp; omega) | (simp only [World.size_alloc, World.size_setCell, World.size_drew, size_drewN] at *; omega) | (simp at *; omega)); done) | ((try go_split_ands); (refine ⟨?_, ?_, ?_, ?_, ?_⟩ <;> first | (first | omega | (simp only [World.size_alloc, World.size_setCell, World.size_drew, size_drewN]; omega) | (simp (disch := first | omega | (simp; done) | (simp; omega)) [go_sem, *]; done) | ((repeat' first | (with_reducible exact Below.refl _ _) | (with_reducible assumption) | (with_reducible refine below_drewN ?_ _) | (with_reducible refine Below.drew ?_) | (with_reducible refine Below.alloc ?_ ?_ _) | (with_reducible refine Below.setCell ?_ ?_ _) | (with_reducible refine Below.trans ?_ (Below.mono (by assumption) ?_)) | first | omega | (simp only [World.size_alloc, World.size_setCell, World.size_drew, size_drewN]; omega) | (simp; done) | (simp; omega) | (simp only [World.size_alloc, World.size_setCell, World.size_drew, size_drewN] at *; omega) | (simp at *; omega)); done)) | (go_keep; done))))
            (first | (go_at_call 21; refine (whole_any _ _).mono ?_; rintro e w7 ⟨rfl, hb7⟩; obtain ⟨hc7, hf7⟩ := bcell hb7; have hz7 := hb7.size; (try simp only [World.size_alloc, World.size_setCell, World.size_drew, size_drewN] at hz7 hc7 hf7); (have g7 : w4.heap.size < w7.heap.size := by omega); (have n7 : ¬ w4.heap.size = w7.heap.size := by omega); (first | (have gg := Nat.lt_of_succ_le hz7) | skip)) | (go_at_call 26; refine (ratMul_any _ _ _ _ _ mv v2).mono ?_; rintro e w8 ⟨rfl, hb8⟩; obtain ⟨hc8, hf8⟩ := bcell hb8; have hz8 := hb8.size; (try simp only [World.size_alloc, World.size_setCell, World.size_drew, size_drewN] at hz8 hc8 hf8); (have g8 : w4.heap.size < w8.heap.size := by omega); (have n8 : ¬ w4.heap.size = w8.heap.size := by omega); (first | (have gg6 := Nat.lt_of_succ_le hz8) | (have gg6 := Nat.lt_of_lt_of_le gg hz8) | skip); rw [show ratR ((momF s l (jAt s l k)).1 * (jAt s l k + 1)) ((momF s l (jAt s l k)).2.1 * 1) = partR s l (jAt s l k) from rfl, po]))
          all_goals clear mv v2 q1 x0 x1 x2 f0 f1 f2
          all_goals (
            go_wp2_with fail
            refine (ratAdd_any _ _ _ _ _ va vp).mono ?_
            rintro e w9 ⟨rfl, hb9⟩
            rw [show ratR ((accR s l k).1 * (partR s l (jAt s l k)).2.1 + (partR s l (jAt s l k)).1 * (accR s l k).2.1) ((accR s l k).2.1 * (partR s l (jAt s l k)).2.1) = accR s l (k + 1) from rfl, v3]
            obtain ⟨hc9, hf9⟩ := bcell hb9; have hz9 := hb9.size; (try simp only [World.size_alloc, World.size_setCell, World.size_drew, size_drewN] at hz9 hc9 hf9)
            have g9 : w4.heap.size < w9.heap.size := by omega
            have n9 : ¬ w4.heap.size = w9.heap.size := by omega
            (have tt0 : w9.cell? ⟨w4.heap.size, 0, none⟩ = some (.int .i64 (accR s l k).1) := by (simp (disch := first | omega | (simp; done) | (simp; omega)) [go_sem, *]; done)); (have tt1 : w9.cell? ⟨w4.heap.size, 1, none⟩ = some (.int .i64 (accR s l k).2.1) := by (simp (disch := first | omega | (simp; done) | (simp; omega)) [go_sem, *]; done))
            (have uu0 : w9.frozen? ⟨w4.heap.size, 0, none⟩ = false := by (simp (disch := first | omega | (simp; done) | (simp; omega)) [go_sem, *]; done)); (have uu1 : w9.frozen? ⟨w4.heap.size, 1, none⟩ = false := by (simp (disch := first | omega | (simp; done) | (simp; omega)) [go_sem, *]; done))
            have hB9 : Below wr.heap.size wr w9 := by (repeat' first | (with_reducible exact Below.refl _ _) | (with_reducible assumption) | (with_reducible refine below_drewN ?_ _) | (with_reducible refine Below.drew ?_) | (with_reducible refine Below.alloc ?_ ?_ _) | (with_reducible refine Below.setCell ?_ ?_ _) | (with_reducible refine Below.trans ?_ (Below.mono (by assumption) ?_)) | first | omega | (simp only [World.size_alloc, World.size_setCell, World.size_drew, size_drewN]; omega) | (simp; done) | (simp; omega) | (simp only [World.size_alloc, World.size_setCell, World.size_drew, size_drewN] at *; omega) | (simp at *; omega))
            have hBt : But w5.heap.size w4.heap.size w5 w9 := hbut.below hB9 hbz
            have hz9' : w5.heap.size ≤ w9.heap.size := hBt.size
            clear hb9 hc9 hf9 f3 f4 h0 h1
            go_wp2
            go_roundw
            case rel => exact ⟨k + 1, hlt, by go_num, by (simp (disch := first | omega | (simp; done) | (simp; omega)) [go_sem, cell_set, *]; done), by (simp (disch := first | omega | (simp; done) | (simp; omega)) [go_sem, cell_set, *]; done), by (simp (disch := first | omega | (simp; done) | (simp; omega)) [go_sem, cell_set, *]; done), by (simp (disch := first | omega | (simp; done) | (simp; omega)) [go_sem, cell_set, *]; done), by (first | exact ((hBt.own _ _).own _ _).alloc (by first | omega | (simp only [World.size_alloc, World.size_setCell, World.size_drew, size_drewN]; omega) | (simp; done) | (simp; omega) | (simp only [World.size_alloc, World.size_setCell, World.size_drew, size_drewN] at *; omega) | (simp at *; omega)) _ | exact ((hBt.alloc hz9' _).own _ _).own _ _)⟩
            case measure => simp [intOf]; omega)
        · obtain rfl : k = nLv s l := by omega
          have d0 := (hbut.cell (b := w2.heap.size) (o := 0) gx5 h2E).trans v0
          have d1 := (hbut.cell (b := w2.heap.size) (o := 1) gx5 h2E).trans v1
          rw [ac] at c0 c1
          go_wp2
          go_ret
          exact ⟨rfl, by (repeat' first | (with_reducible exact Below.refl _ _) | (with_reducible assumption) | (with_reducible refine below_drewN ?_ _) | (with_reducible refine Below.drew ?_) | (with_reducible refine Below.alloc ?_ ?_ _) | (with_reducible refine Below.setCell ?_ ?_ _) | (with_reducible refine Below.trans ?_ (Below.mono (by assumption) ?_)) | first | omega | (simp only [World.size_alloc, World.size_setCell, World.size_drew, size_drewN]; omega) | (simp; done) | (simp; omega) | (simp only [World.size_alloc, World.size_setCell, World.size_drew, size_drewN] at *; omega) | (simp at *; omega))⟩
end Go.Proofs.YtdghihinednenaaDoor
