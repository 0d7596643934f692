/-
  The walk of impl.FactorSum. Conditions: where the two package-level errors lie.
-/
import Derived.Test.YtdghihinednenaaDoorSumG
import Derived.Deep.AppendLies
namespace Go.Proofs.YtdghihinednenaaDoor
set_option linter.unusedSimpArgs false
set_option linter.unusedVariables false
open Go.RowKit

theorem infoR : (Tryd.prog.info? 27).map (fun i => (i.zero, i.size, i.bytes)) = some (some (.agg #[.int .i64 0, .int .i64 0]), 2, 16) := by kernel_rfl
set_option maxRecDepth 20000 in
set_option maxHeartbeats 4000000 in
theorem iSum_any (s l : Int) (aR aL : Addr) (w : World) (hE : ErrW aR aL w) :
    Calls Tryd.prog 30 #[.agg #[.int .i64 s, .int .i64 l]] w fun e w' => e = .returned (.tuple #[.agg #[.int .i64 (sumR s l).1, .int .i64 (sumR s l).2.1], .bool (sumR s l).2.2]) ∧ Below w.heap.size w w' := by
  obtain ⟨i0, ihi, iz0, iz1, iz2⟩ := info_parts infoR
  cases hv : tvB s l
  · rw [sumR_no hv]
    go_enter Tryd.func30, Tryd.ntmps30
    go_wp2_with (go_at_call 47; refine (iTermValid_any _ _ _).mono ?_; rintro e w1 ⟨rfl, hb1⟩; obtain ⟨hc1, hf1⟩ := bcell hb1; have hz1 := hb1.size; (try simp only [World.size_alloc, World.size_setCell, World.size_drew, size_drewN] at hz1 hc1 hf1); (have g1a : w.heap.size < w1.heap.size := by omega); (have g1b : w.heap.size + 1 < w1.heap.size := by omega))
    refine bodyPost_ret (v := .tuple #[.agg #[.int .i64 0, .int .i64 0], .bool false]) (by simp (disch := first | omega | (simp; done) | (simp; omega)) [results, Tryd.results30, go_sem, cell_set, *]) rfl ?_
    exact ⟨rfl, by (repeat' first | (with_reducible exact Below.refl _ _) | (with_reducible assumption) | (with_reducible refine below_drewN ?_ _) | (with_reducible refine Below.drew ?_) | (with_reducible refine Below.alloc ?_ ?_ _) | (with_reducible refine Below.setCell ?_ ?_ _) | (with_reducible refine Below.trans ?_ (Below.mono (by assumption) ?_)) | first | omega | (simp only [World.size_alloc, World.size_setCell, World.size_drew, size_drewN]; omega) | (simp; done) | (simp; omega) | (simp only [World.size_alloc, World.size_setCell, World.size_drew, size_drewN] at *; omega) | (simp at *; omega))⟩
  · obtain ⟨n1, n2, n3⟩ := nLv_bd hv
    have so : (sumR s l).2.2 = true := by rw [sum_is hv]
    have bt := tvB_true hv
    rw [so]
    go_enter Tryd.func30, Tryd.ntmps30
    go_wp2_with fail
    refine (iTermValid_any _ _ _).mono ?_
    rintro e w1 ⟨rfl, hb1⟩
    obtain ⟨hc1, hf1⟩ := bcell hb1; have hz1 := hb1.size; (try simp only [World.size_alloc, World.size_setCell, World.size_drew, size_drewN] at hz1 hc1 hf1); (have g1a : w.heap.size < w1.heap.size := by omega); (have g1b : w.heap.size + 1 < w1.heap.size := by omega)
    go_wp2_with fail
    refine (iLevels_some _ _ _ (by omega)).mono ?_
    rintro e w2 ⟨g, cap, rfl, L, -, -, hg1, hg2, hb2⟩
    obtain ⟨hc2, hf2⟩ := bcell hb2; have hz2 := hb2.size; (try simp only [World.size_alloc, World.size_setCell, World.size_drew, size_drewN] at hz2 hc2 hf2); (have g2a : w.heap.size < w2.heap.size := by omega); (have g2b : w.heap.size + 1 < w2.heap.size := by omega)
    have LL := Lib.hid (show LvRow w2 g s l from L)
    (have t0 : w2.cell? ⟨w.heap.size + 1, 0, none⟩ = some (.int .i64 0) := by (simp (disch := first | omega | (simp; done) | (simp; omega)) [go_sem, *]; done)); (have t1 : w2.cell? ⟨w.heap.size + 1, 1, none⟩ = some (.int .i64 0) := by (simp (disch := first | omega | (simp; done) | (simp; omega)) [go_sem, *]; done))
    (have u0 : w2.frozen? ⟨w.heap.size + 1, 0, none⟩ = false := by (simp (disch := first | omega | (simp; done) | (simp; omega)) [go_sem, *]; done)); (have u1 : w2.frozen? ⟨w.heap.size + 1, 1, none⟩ = false := by (simp (disch := first | omega | (simp; done) | (simp; omega)) [go_sem, *]; done))
    have hB2 : Below w.heap.size w w2 := by (repeat' first | (with_reducible exact Below.refl _ _) | (with_reducible assumption) | (with_reducible refine below_drewN ?_ _) | (with_reducible refine Below.drew ?_) | (with_reducible refine Below.alloc ?_ ?_ _) | (with_reducible refine Below.setCell ?_ ?_ _) | (with_reducible refine Below.trans ?_ (Below.mono (by assumption) ?_)) | first | omega | (simp only [World.size_alloc, World.size_setCell, World.size_drew, size_drewN]; omega) | (simp; done) | (simp; omega) | (simp only [World.size_alloc, World.size_setCell, World.size_drew, size_drewN] at *; omega) | (simp at *; omega))
    have HE : Hid (ErrW aR aL w2) := Lib.hid (hE.below hB2 (Nat.le_refl _))
    have HV := Lib.hid hv
    rw [n3]
    clear L hc1 hf1 hc2 hf2 hb1 hb2 hv n3 hE so
    go_wp2_with fail
    go_loopw [4, 18] (fun v i wr => ∃ k : Nat, k ≤ nLv s l ∧ i = .int .i64 k ∧ wr.ownsRow w2.heap.size 27 2 v k (vR s l k) ∧ Below w2.heap.size w2 wr) (fun _ i _ => nLv s l - (intOf i).toNat)
    case atStart => exact ⟨0, Nat.zero_le _, rfl, World.ownsRow_nil _ _ _ _, Below.refl _ _⟩
    case round =>
      obtain ⟨k, hk, rfl, hown, hbel⟩ := hrel
      have hbz := hbel.size
      by_cases hlt : k < nLv s l
      · obtain ⟨e0, e1, e2⟩ := LL.out k _ (jAt_get HV.out hlt)
        have r0 := (hbel.cell (p := ⟨g, k * 3, none⟩) hg2).trans e0
        have r1 := (hbel.cell (p := ⟨g, k * 3 + 1, none⟩) hg2).trans e1
        have r2 := (hbel.cell (p := ⟨g, k * 3 + 2, none⟩) hg2).trans e2
        have hlv := jAt_lv HV.out hlt
        have bj := lvB_bd hlv
        have mv := (momF_V hlv).1
        have mo := (momF_V hlv).2
        have v2 : ratV (jAt s l k + 1) 1 = true := ratV_int _ (by omega) (by omega)
        have po := (part_ok HV.out hlt).1
        have i0' : (0 : Int) ≤ (k : Int) := Int.natCast_nonneg _
        have i1 : (k : Int) < (nLv s l : Int) := by omega
        have q1 : IntKind.i64.wrap (jAt s l k + 1) = jAt s l k + 1 := IntWalk.i64_in _ (by omega)
        have HO := Lib.hid hown
        clear e0 e1 e2 hown
        go_wp2_with fail
        refine (iMoment_any s l (jAt s l k) aR aL _ (HE.out.below (by (repeat' first | (with_reducible exact Below.refl _ _) | (with_reducible assumption) | (with_reducible refine below_drewN ?_ _) | (with_reducible refine Below.drew ?_) | (with_reducible refine Below.alloc ?_ ?_ _) | (with_reducible refine Below.setCell ?_ ?_ _) | (with_reducible refine Below.trans ?_ (Below.mono (by assumption) ?_)) | first | omega | (simp only [World.size_alloc, World.size_setCell, World.size_drew, size_drewN]; omega) | (simp; done) | (simp; omega) | (simp only [World.size_alloc, World.size_setCell, World.size_drew, size_drewN] at *; omega) | (simp at *; omega))) (Nat.le_refl _))).mono ?_
        rintro e w3 ⟨rfl, hb3⟩
        rw [mo]
        obtain ⟨hc3, hf3⟩ := bcell hb3; have hz3 := hb3.size; (try simp only [World.size_alloc, World.size_setCell, World.size_drew, size_drewN] at hz3 hc3 hf3)
        have y3 : wr.heap.size < w3.heap.size := by omega
        (have c0 : w3.cell? ⟨wr.heap.size, 0, none⟩ = some (.int .i64 s) := by (simp (disch := first | omega | (simp; done) | (simp; omega)) [go_sem, *]; done)); (have c1 : w3.cell? ⟨wr.heap.size, 1, none⟩ = some (.int .i64 l) := by (simp (disch := first | omega | (simp; done) | (simp; omega)) [go_sem, *]; done)); (have c2 : w3.cell? ⟨wr.heap.size, 2, none⟩ = some (.int .i64 (jAt s l k)) := by (simp (disch := first | omega | (simp; done) | (simp; omega)) [go_sem, *]; done))
        have hB3 : Below wr.heap.size wr w3 := by (repeat' first | (with_reducible exact Below.refl _ _) | (with_reducible assumption) | (with_reducible refine below_drewN ?_ _) | (with_reducible refine Below.drew ?_) | (with_reducible refine Below.alloc ?_ ?_ _) | (with_reducible refine Below.setCell ?_ ?_ _) | (with_reducible refine Below.trans ?_ (Below.mono (by assumption) ?_)) | first | omega | (simp only [World.size_alloc, World.size_setCell, World.size_drew, size_drewN]; omega) | (simp; done) | (simp; omega) | (simp only [World.size_alloc, World.size_setCell, World.size_drew, size_drewN] at *; omega) | (simp at *; omega))
        clear hc3 hf3 hb3 r0 r1 r2 mo hlv bj c0 c1
        go_wp2_with fail
        obtain ⟨W, hW⟩ : ∃ W, W = w3.alloc (.cells #[.int .i64 (momF s l (jAt s l k)).1, .int .i64 (momF s l (jAt s l k)).2.1] 27) := ⟨_, rfl⟩
        have f0 : W.cell? ⟨w3.heap.size, 0, none⟩ = some (.int .i64 (momF s l (jAt s l k)).1) := by subst hW; (simp (disch := first | omega | (simp; done) | (simp; omega)) [go_sem, *]; done)
        have f1 : W.cell? ⟨w3.heap.size, 1, none⟩ = some (.int .i64 (momF s l (jAt s l k)).2.1) := by subst hW; (simp (disch := first | omega | (simp; done) | (simp; omega)) [go_sem, *]; done)
        have f2 : W.cell? ⟨wr.heap.size, 2, none⟩ = some (.int .i64 (jAt s l k)) := by subst hW; (simp (disch := first | omega | (simp; done) | (simp; omega)) [go_sem, *]; done)
        have hBW : Below wr.heap.size wr W := by subst hW; (repeat' first | (with_reducible exact Below.refl _ _) | (with_reducible assumption) | (with_reducible refine below_drewN ?_ _) | (with_reducible refine Below.drew ?_) | (with_reducible refine Below.alloc ?_ ?_ _) | (with_reducible refine Below.setCell ?_ ?_ _) | (with_reducible refine Below.trans ?_ (Below.mono (by assumption) ?_)) | first | omega | (simp only [World.size_alloc, World.size_setCell, World.size_drew, size_drewN]; omega) | (simp; done) | (simp; omega) | (simp only [World.size_alloc, World.size_setCell, World.size_drew, size_drewN] at *; omega) | (simp at *; omega))
        have hzW : w3.heap.size + 1 ≤ W.heap.size := by subst hW; simp
        rw [← hW]
        clear hW hB3 c2
        have x0 := World.new_ne W _ f0
        have x1 := World.new_ne W _ f1
        have x2 := World.new_ne W _ f2
        go_region_held3 (fun w' => w'.cell? ⟨w3.heap.size, 0, none⟩ = some (.int .i64 (momF s l (jAt s l k)).1) ∧ w'.cell? ⟨w3.heap.size, 1, none⟩ = some (.int .i64 (momF s l (jAt s l k)).2.1) ∧ w'.cell? ⟨wr.heap.size, 2, none⟩ = some (.int .i64 (jAt s l k)) ∧ W.heap.size ≤ w'.heap.size ∧ Below W.heap.size W w')
          (first | (simp (disch := first | omega | (simp; done) | (simp; omega)) [go_sem, *]; done) | ((repeat' first | (with_reducible exact Below.refl _ _) | (with_reducible assumption) | (with_reducible refine below_drewN ?_ _) | (with_reducible refine Below.drew ?_) | (with_reducible refine Below.alloc ?_ ?_ _) | (with_reducible refine Below.setCell ?_ ?_ _) | (with_reducible refine Below.trans ?_ (Below.mono (by assumption) ?_)) | first | omega | (simp only [World.size_alloc, World.size_setCell, World.size_drew, size_drewN]; omega) | (simp; done) | (simp; omega) | (simp only [World.size_alloc, World.size_setCell, World.size_drew, size_drewN] at *; omega) | (simp at *; omega)); done) | ((try go_split_ands); (refine ⟨?_, ?_, ?_, ?_, ?_⟩ <;> first | (first | omega | (simp only [World.size_alloc, World.size_setCell, World.size_drew, size_drewN]; omega) | (simp (disch := first | omega | (simp; done) | (simp; omega)) [go_sem, *]; done) | ((repeat' first | (with_reducible exact Below.refl _ _) | (with_reducible assumption) | (with_reducible refine below_drewN ?_ _) | (with_reducible refine Below.drew ?_) | (with_reducible refine Below.alloc ?_ ?_ _) | (with_reducible refine Below.setCell ?_ ?_ _) | (with_reducible refine Below.trans ?_ (Below.mono (by assumption) ?_)) | first | omega | (simp only [World.size_alloc, World.size_setCell, World.size_drew, size_drewN]; omega) | (simp; done) | (simp; omega) | (simp only [World.size_alloc, World.size_setCell, World.size_drew, size_drewN] at *; omega) | (simp at *; omega)); done)) | (go_keep; done))))
          (first | (go_at_call 42; refine (iWhole_any _ _).mono ?_; rintro e w5 ⟨rfl, hb5⟩; obtain ⟨hc5, hf5⟩ := bcell hb5; have hz5 := hb5.size; (try simp only [World.size_alloc, World.size_setCell, World.size_drew, size_drewN] at hz5 hc5 hf5); (first | (have gg := Nat.lt_of_succ_le hz5) | skip)) | (go_at_call 26; refine (ratMul_any _ _ _ _ _ mv v2).mono ?_; rintro e w6 ⟨rfl, hb6⟩; obtain ⟨hc6, hf6⟩ := bcell hb6; have hz6 := hb6.size; (try simp only [World.size_alloc, World.size_setCell, World.size_drew, size_drewN] at hz6 hc6 hf6); (first | (have gg6 := Nat.lt_of_succ_le hz6) | (have gg6 := Nat.lt_of_lt_of_le gg hz6) | skip); rw [show ratR ((momF s l (jAt s l k)).1 * (jAt s l k + 1)) ((momF s l (jAt s l k)).2.1 * 1) = partR s l (jAt s l k) from rfl, po]))
        all_goals clear mv v2 q1 x0 x1 x2 f0 f1 f2
        all_goals (
          go_wp2_with (first | (at_builtin; refine wpList_append_own _ rfl _ _ 64 rfl w2.heap.size 27 i0 (.agg #[.int .i64 0, .int .i64 0]) 2 16 Tryd.underlying64 ihi iz0 iz1 iz2 rfl (by decide) _ _ _ rfl ((row_below HO.out (by (repeat' first | (with_reducible exact Below.refl _ _) | (with_reducible assumption) | (with_reducible refine below_drewN ?_ _) | (with_reducible refine Below.drew ?_) | (with_reducible refine Below.alloc ?_ ?_ _) | (with_reducible refine Below.setCell ?_ ?_ _) | (with_reducible refine Below.trans ?_ (Below.mono (by assumption) ?_)) | first | omega | (simp only [World.size_alloc, World.size_setCell, World.size_drew, size_drewN]; omega) | (simp; done) | (simp; omega) | (simp only [World.size_alloc, World.size_setCell, World.size_drew, size_drewN] at *; omega) | (simp at *; omega)))).alloc _) _ 1 1 [.int .i64 (partR s l (jAt s l k)).1, .int .i64 (partR s l (jAt s l k)).2.1] rfl rfl ?c1 ?c2 ?c3 ?c4 ?c5 ?_))
          case c1 =>
            intro j u hj
            match j, hj with
            | 0, hj => simp at hj; subst hj; first | (simp [Addr.add]; done) | (simp (disch := first | omega | (simp; done) | (simp; omega)) [go_sem, Addr.add]; done)
            | 1, hj => simp at hj; subst hj; first | (simp [Addr.add]; done) | (simp (disch := first | omega | (simp; done) | (simp; omega)) [go_sem, Addr.add]; done)
          case c2 => intro u hu; simp at hu; rcases hu with rfl | rfl <;> rfl
          case c3 => unfold maxLen; omega
          case c4 => omega
          case c5 => simp; omega
          intro v' w7 hown' hgrow _
          have hbel' : Below w2.heap.size w2 w7 := Below.grown (by (repeat' first | (with_reducible exact Below.refl _ _) | (with_reducible assumption) | (with_reducible refine below_drewN ?_ _) | (with_reducible refine Below.drew ?_) | (with_reducible refine Below.alloc ?_ ?_ _) | (with_reducible refine Below.setCell ?_ ?_ _) | (with_reducible refine Below.trans ?_ (Below.mono (by assumption) ?_)) | first | omega | (simp only [World.size_alloc, World.size_setCell, World.size_drew, size_drewN]; omega) | (simp; done) | (simp; omega) | (simp only [World.size_alloc, World.size_setCell, World.size_drew, size_drewN] at *; omega) | (simp at *; omega))) hgrow (by first | omega | (simp only [World.size_alloc, World.size_setCell, World.size_drew, size_drewN]; omega) | (simp; done) | (simp; omega) | (simp only [World.size_alloc, World.size_setCell, World.size_drew, size_drewN] at *; omega) | (simp at *; omega)) (fun k hk => (HO.out.lt k hk).1)
          have hown2 : w7.ownsRow w2.heap.size 27 2 v' (k + 1) (vR s l (k + 1)) := by rw [vR_succ]; exact hown'
          clear hown' hgrow
          go_wp2
          go_roundw
          case rel => exact ⟨k + 1, hlt, by go_num, hown2, hbel'⟩
          case measure => simp [intOf]; omega)
      · obtain rfl : k = nLv s l := by omega
        obtain ⟨g2, cap2, rfl, h1, h2, hc, hf⟩ := row_form hown (by omega)
        have hp : PtAt wr g2 s l (nLv s l) := fun i hi => by
          obtain ⟨a, b⟩ := vR_get s l i _ hi
          exact ⟨by rw [hc _ (by omega)]; exact a, by rw [hc _ (by omega)]; exact b⟩
        have HP := Lib.hid hp
        clear hc hf hown hp
        go_wp2_with fail
        refine (addUp_any s l g2 cap2 _ HV.out h2 HP.out).mono ?_
        rintro e w5 ⟨rfl, hb5⟩
        rw [acc_sum HV.out]
        obtain ⟨hc5, hf5⟩ := bcell hb5; have hz5 := hb5.size; (try simp only [World.size_alloc, World.size_setCell, World.size_drew, size_drewN] at hz5 hc5 hf5)
        have y1 : w.heap.size + 1 < wr.heap.size := by omega
        have y2 : w.heap.size + 1 < w5.heap.size := by omega
        have t0' := (hbel.cell (p := ⟨w.heap.size + 1, 0, none⟩) g2b).trans t0
        have t1' := (hbel.cell (p := ⟨w.heap.size + 1, 1, none⟩) g2b).trans t1
        have u0' := (hbel.frozen (p := ⟨w.heap.size + 1, 0, none⟩) g2b).trans u0
        have u1' := (hbel.frozen (p := ⟨w.heap.size + 1, 1, none⟩) g2b).trans u1
        clear HP h1 h2
        go_wp2
        refine bodyPost_ret (v := .tuple #[.agg #[.int .i64 (sumR s l).1, .int .i64 (sumR s l).2.1], .bool true]) (by simp (disch := first | omega | (simp; done) | (simp; omega)) [results, Tryd.results30, go_sem, cell_set, *]) rfl ?_
        exact ⟨rfl, by (repeat' first | (with_reducible exact Below.refl _ _) | (with_reducible assumption) | (with_reducible refine below_drewN ?_ _) | (with_reducible refine Below.drew ?_) | (with_reducible refine Below.alloc ?_ ?_ _) | (with_reducible refine Below.setCell ?_ ?_ _) | (with_reducible refine Below.trans ?_ (Below.mono (by assumption) ?_)) | first | omega | (simp only [World.size_alloc, World.size_setCell, World.size_drew, size_drewN]; omega) | (simp; done) | (simp; omega) | (simp only [World.size_alloc, World.size_setCell, World.size_drew, size_drewN] at *; omega) | (simp at *; omega))⟩
end Go.Proofs.YtdghihinednenaaDoor
