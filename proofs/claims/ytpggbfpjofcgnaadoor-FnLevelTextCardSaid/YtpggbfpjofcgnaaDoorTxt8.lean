/-
  The walk of the reference's LevelFrom. Conditions: none.
-/
import Derived.Test.YtpggbfpjofcgnaaDoorTxt7
import Derived.Test.YtpggbfpjofcgnaaDoorTxt5
namespace Go.Proofs.YtpggbfpjofcgnaaDoor
set_option linter.unusedSimpArgs false
set_option linter.unusedVariables false
open Go.RowKit

theorem sLevelText_ok (s l j : Int) (w : World) (hv : lvB s l j = true) :
    Calls Tryd.prog 18 #[.agg #[.int .i64 s, .int .i64 l, .int .i64 j]] w fun e w' => e = .returned (.string (txL s l j)) ∧ Below w.heap.size w w' := by
  have := sLevelText_any s l j w
  rw [if_pos hv] at this
  exact this
theorem iLevelText_ok (s l j : Int) (w : World) (hv : lvB s l j = true) :
    Calls Tryd.prog 20 #[.agg #[.int .i64 s, .int .i64 l, .int .i64 j]] w fun e w' => e = .returned (.string (txL s l j)) ∧ Below w.heap.size w w' := by
  have := iLevelText_any s l j w
  rw [if_pos hv] at this
  exact this
theorem txL_eq {bs : ByteArray} (h3 : 3 ≤ bs.size) (ho : okB (preB bs) = true) (j : Int) : txL (chS (preB bs)) (chK (preB bs)) j = bs ↔ txJ j = restB bs := by
  have hT : txT (chS (preB bs)) (chK (preB bs)) = preB bs := txT_back (pre_size bs (by omega)) (okB_tv ho)
  unfold txL
  rw [hT]
  constructor
  · intro h
    have e := pre_rest bs (by omega)
    have h2 : preB bs ++ txJ j = preB bs ++ restB bs := h.trans e.symm
    exact app_left.1 h2
  · intro h
    rw [h]
    exact pre_rest bs (by omega)
set_option maxRecDepth 20000 in
set_option maxHeartbeats 4000000 in
theorem sLevelFrom_any (bs : ByteArray) (w : World) (hbs : bs.size ≤ 8000000) :
    Calls Tryd.prog 23 #[.string bs] w fun e w' => e = .returned (frL bs) ∧ Below w.heap.size w w' := by
  by_cases h3 : bs.size < 3
  · have HF := Lib.hid (show frL bs = valL 0 0 0 false by unfold frL; rw [if_neg (by omega)])
    have hz : (bs.size : Int) < 3 := by omega
    go_enter Tryd.func23, Tryd.ntmps23
    go_wp2
    refine bodyPost_ret (v := .tuple #[.agg #[.int .i64 0, .int .i64 0, .int .i64 0], .bool false]) (by simp (disch := first | omega | (simp; done) | (simp; omega)) [results, Tryd.results23, go_sem, cell_set, *]) rfl ?_
    exact ⟨by rw [HF.out]; rfl, by (repeat' first | (with_reducible exact Below.refl _ _) | (with_reducible assumption) | (with_reducible refine below_drewN ?_ _) | (with_reducible refine Below.drew ?_) | (with_reducible refine Below.alloc ?_ ?_ _) | (with_reducible refine Below.setCell ?_ ?_ _) | (with_reducible refine Below.trans ?_ (Below.mono (by assumption) ?_)) | first | omega | (simp only [World.size_alloc, World.size_setCell, World.size_drew, size_drewN]; omega) | (simp; done) | (simp; omega) | (simp only [World.size_alloc, World.size_setCell, World.size_drew, size_drewN] at *; omega) | (simp at *; omega))⟩
  · have hz : ¬ (bs.size : Int) < 3 := by omega
    have hz2 : (2 : Int) ≤ (bs.size : Int) := by omega
    have ps := pre_size bs (by omega)
    cases ho : okB (preB bs)
    · have HF := Lib.hid (frL_no ho)
      have HT := Lib.hid (frT_no ho)
      clear ho
      go_enter Tryd.func23, Tryd.ntmps23
      go_wp2_with (go_at_call 14; refine (sTermFrom_any (preB bs) _ (by omega)).mono ?_; rintro e w1 ⟨rfl, hb1⟩; rw [HT.out]; obtain ⟨hc1, hf1⟩ := bcell hb1; have hz1 := hb1.size; (try simp only [World.size_alloc, World.size_setCell, World.size_drew, size_drewN] at hz1 hc1 hf1); (have g1a : w.heap.size < w1.heap.size := by omega); (have k0 : w1.cell? ⟨w.heap.size, 0, none⟩ = some (.int .i64 0) := by (simp (disch := first | omega | (simp; done) | (simp; omega)) [go_sem, *]; done)); (have k1 : w1.cell? ⟨w.heap.size, 1, none⟩ = some (.int .i64 0) := by (simp (disch := first | omega | (simp; done) | (simp; omega)) [go_sem, *]; done)); (have k2 : w1.cell? ⟨w.heap.size, 2, none⟩ = some (.int .i64 0) := by (simp (disch := first | omega | (simp; done) | (simp; omega)) [go_sem, *]; done)); (have m0 : w1.frozen? ⟨w.heap.size, 0, none⟩ = false := by (simp (disch := first | omega | (simp; done) | (simp; omega)) [go_sem, *]; done)); (have m1 : w1.frozen? ⟨w.heap.size, 1, none⟩ = false := by (simp (disch := first | omega | (simp; done) | (simp; omega)) [go_sem, *]; done)); (have m2 : w1.frozen? ⟨w.heap.size, 2, none⟩ = false := by (simp (disch := first | omega | (simp; done) | (simp; omega)) [go_sem, *]; done)); clear hc1 hf1)
      refine bodyPost_ret (v := .tuple #[.agg #[.int .i64 0, .int .i64 0, .int .i64 0], .bool false]) (by simp (disch := first | omega | (simp; done) | (simp; omega)) [results, Tryd.results23, go_sem, cell_set, *]) rfl ?_
      exact ⟨by rw [HF.out]; rfl, by (repeat' first | (with_reducible exact Below.refl _ _) | (with_reducible assumption) | (with_reducible refine below_drewN ?_ _) | (with_reducible refine Below.drew ?_) | (with_reducible refine Below.alloc ?_ ?_ _) | (with_reducible refine Below.setCell ?_ ?_ _) | (with_reducible refine Below.trans ?_ (Below.mono (by assumption) ?_)) | first | omega | (simp only [World.size_alloc, World.size_setCell, World.size_drew, size_drewN]; omega) | (simp; done) | (simp; omega) | (simp only [World.size_alloc, World.size_setCell, World.size_drew, size_drewN] at *; omega) | (simp at *; omega))⟩
    · have hXE := txL_eq (bs := bs) (by omega) ho
      obtain ⟨S, hS⟩ : ∃ S, S = chS (preB bs) := ⟨_, rfl⟩
      obtain ⟨K, hK⟩ : ∃ K, K = chK (preB bs) := ⟨_, rfl⟩
      have htv := okB_tv ho
      have hft := frT_yes ho
      have hfs := fun j => frL_some (j := j) (by omega) ho
      have hfn := frL_none (by omega) ho
      rw [← hS, ← hK] at htv hft
      simp only [← hS, ← hK] at hfs hfn hXE
      have hlen := lvJs_pos htv
      have HT := Lib.hid hft
      have HS := Lib.hid hfs
      have HN := Lib.hid hfn
      have HX := Lib.hid hXE
      obtain ⟨R, hR⟩ : ∃ R, R = restB bs := ⟨_, rfl⟩
      rw [← hR] at HS HN HX
      have hpos := hlen.1
      clear ho hft hfs hfn hS hK hR hXE
      go_enter Tryd.func23, Tryd.ntmps23
      go_wp2_with (go_at_call 14; refine (sTermFrom_any (preB bs) _ (by omega)).mono ?_; rintro e w1 ⟨rfl, hb1⟩; rw [HT.out]; obtain ⟨hc1, hf1⟩ := bcell hb1; have hz1 := hb1.size; (try simp only [World.size_alloc, World.size_setCell, World.size_drew, size_drewN] at hz1 hc1 hf1); (have g1a : w.heap.size < w1.heap.size := by omega))
      refine (sLevels_some S K _ hpos).mono ?_
      rintro e w4 ⟨g, c, rfl, L, -, -, hg, hg', hb4⟩
      obtain ⟨hc4, hf4⟩ := bcell hb4; have hz4 := hb4.size; (try simp only [World.size_alloc, World.size_setCell, World.size_drew, size_drewN] at hz4 hc4 hf4); (have g4a : w.heap.size < w4.heap.size := by omega)
      (have k0 : w4.cell? ⟨w.heap.size, 0, none⟩ = some (.int .i64 0) := by (simp (disch := first | omega | (simp; done) | (simp; omega)) [go_sem, *]; done)); (have k1 : w4.cell? ⟨w.heap.size, 1, none⟩ = some (.int .i64 0) := by (simp (disch := first | omega | (simp; done) | (simp; omega)) [go_sem, *]; done)); (have k2 : w4.cell? ⟨w.heap.size, 2, none⟩ = some (.int .i64 0) := by (simp (disch := first | omega | (simp; done) | (simp; omega)) [go_sem, *]; done))
      (have m0 : w4.frozen? ⟨w.heap.size, 0, none⟩ = false := by (simp (disch := first | omega | (simp; done) | (simp; omega)) [go_sem, *]; done)); (have m1 : w4.frozen? ⟨w.heap.size, 1, none⟩ = false := by (simp (disch := first | omega | (simp; done) | (simp; omega)) [go_sem, *]; done)); (have m2 : w4.frozen? ⟨w.heap.size, 2, none⟩ = false := by (simp (disch := first | omega | (simp; done) | (simp; omega)) [go_sem, *]; done))
      have HL := Lib.hid L
      have hB4 : Below w.heap.size w w4 := by (repeat' first | (with_reducible exact Below.refl _ _) | (with_reducible assumption) | (with_reducible refine below_drewN ?_ _) | (with_reducible refine Below.drew ?_) | (with_reducible refine Below.alloc ?_ ?_ _) | (with_reducible refine Below.setCell ?_ ?_ _) | (with_reducible refine Below.trans ?_ (Below.mono (by assumption) ?_)) | first | omega | (simp only [World.size_alloc, World.size_setCell, World.size_drew, size_drewN]; omega) | (simp; done) | (simp; omega) | (simp only [World.size_alloc, World.size_setCell, World.size_drew, size_drewN] at *; omega) | (simp at *; omega))
      clear L hc1 hf1 hc4 hf4 hb1 hb4
      go_wp2
      go_loopw [7] (fun i wr => ∃ k : Nat, k ≤ (lvJs S K).length ∧ i = .int .i64 k ∧ NotB (lvJs S K) R k ∧ Below w4.heap.size w4 wr) (fun i _ => (lvJs S K).length - (intOf i).toNat)
      case atStart => exact ⟨0, by omega, rfl, fun i j' hi _ => by omega, Below.refl _ _⟩
      case round =>
        obtain ⟨k, hk, rfl, hnot, hbel⟩ := hrel
        have hbz := hbel.size
        have y0 := (hbel.cell (p := ⟨w.heap.size, 0, none⟩) g4a).trans k0
        have y1 := (hbel.cell (p := ⟨w.heap.size, 1, none⟩) g4a).trans k1
        have y2 := (hbel.cell (p := ⟨w.heap.size, 2, none⟩) g4a).trans k2
        have z0 := (hbel.frozen (p := ⟨w.heap.size, 0, none⟩) g4a).trans m0
        have z1 := (hbel.frozen (p := ⟨w.heap.size, 1, none⟩) g4a).trans m1
        have z2 := (hbel.frozen (p := ⟨w.heap.size, 2, none⟩) g4a).trans m2
        have gz : w.heap.size < wr.heap.size := by omega
        by_cases hlt : k < (lvJs S K).length
        · obtain ⟨j, hj⟩ : ∃ j, (lvJs S K)[k]? = some j := ⟨_, List.getElem?_eq_getElem hlt⟩
          obtain ⟨a0, a1, a2⟩ := HL.out k j hj
          obtain ⟨j0, j1, jv⟩ := lvJs_txt hj
          have r0 := (hbel.cell (p := ⟨g, k * 3, none⟩) hg').trans a0
          have r1 := (hbel.cell (p := ⟨g, k * 3 + 1, none⟩) hg').trans a1
          have r2 := (hbel.cell (p := ⟨g, k * 3 + 2, none⟩) hg').trans a2
          have ggz : g < wr.heap.size := by omega
          have i0 : (0 : Int) ≤ (k : Int) := Int.natCast_nonneg _
          have i1 : (k : Int) < ((lvJs S K).length : Int) := by omega
          clear a0 a1 a2
          by_cases hm : txJ j = R
          · have HF := Lib.hid (HS.out j (fndJ_at hnot hj hm))
            have he : ((txL S K j).toList == bs.toList) = true := by rw [(HX.out j).2 hm]; simp
            clear hm hj hnot
            go_wp2_with (go_at_call 18; refine (sLevelText_ok _ _ _ _ jv).mono ?_; rintro e w5 ⟨rfl, hb5⟩; obtain ⟨hc5, hf5⟩ := bcell hb5; have hz5 := hb5.size; (try simp only [World.size_alloc, World.size_setCell, World.size_drew, size_drewN] at hz5 hc5 hf5); (have x0 : w5.cell? ⟨w.heap.size, 0, none⟩ = some (.int .i64 0) := by (simp (disch := first | omega | (simp; done) | (simp; omega)) [go_sem, *]; done)); (have x1 : w5.cell? ⟨w.heap.size, 1, none⟩ = some (.int .i64 0) := by (simp (disch := first | omega | (simp; done) | (simp; omega)) [go_sem, *]; done)); (have x2 : w5.cell? ⟨w.heap.size, 2, none⟩ = some (.int .i64 0) := by (simp (disch := first | omega | (simp; done) | (simp; omega)) [go_sem, *]; done)); (have v0 : w5.frozen? ⟨w.heap.size, 0, none⟩ = false := by (simp (disch := first | omega | (simp; done) | (simp; omega)) [go_sem, *]; done)); (have v1 : w5.frozen? ⟨w.heap.size, 1, none⟩ = false := by (simp (disch := first | omega | (simp; done) | (simp; omega)) [go_sem, *]; done)); (have v2 : w5.frozen? ⟨w.heap.size, 2, none⟩ = false := by (simp (disch := first | omega | (simp; done) | (simp; omega)) [go_sem, *]; done)); (have t0 := (hb5.cell (p := ⟨g, k * 3, none⟩) ggz).trans r0); (have t1 := (hb5.cell (p := ⟨g, k * 3 + 1, none⟩) ggz).trans r1); (have t2 := (hb5.cell (p := ⟨g, k * 3 + 2, none⟩) ggz).trans r2); clear hc5 hf5)
            refine bodyPost_ret (v := .tuple #[.agg #[.int .i64 S, .int .i64 K, .int .i64 j], .bool true]) (by simp (disch := first | omega | (simp; done) | (simp; omega)) [results, Tryd.results23, go_sem, cell_set, *]) rfl ?_
            exact ⟨by rw [HF.out]; rfl, by (repeat' first | (with_reducible exact Below.refl _ _) | (with_reducible assumption) | (with_reducible refine below_drewN ?_ _) | (with_reducible refine Below.drew ?_) | (with_reducible refine Below.alloc ?_ ?_ _) | (with_reducible refine Below.setCell ?_ ?_ _) | (with_reducible refine Below.trans ?_ (Below.mono (by assumption) ?_)) | first | omega | (simp only [World.size_alloc, World.size_setCell, World.size_drew, size_drewN]; omega) | (simp; done) | (simp; omega) | (simp only [World.size_alloc, World.size_setCell, World.size_drew, size_drewN] at *; omega) | (simp at *; omega))⟩
          · have HNB := Lib.hid (hnot.succ hj hm)
            have he : ((txL S K j).toList == bs.toList) = false := ba_ne (fun e => hm ((HX.out j).1 e))
            clear hm hj hnot
            go_wp2_with (go_at_call 18; refine (sLevelText_ok _ _ _ _ jv).mono ?_; rintro e w5 ⟨rfl, hb5⟩; obtain ⟨hc5, hf5⟩ := bcell hb5; have hz5 := hb5.size; (try simp only [World.size_alloc, World.size_setCell, World.size_drew, size_drewN] at hz5 hc5 hf5))
            have hB5 : Below w4.heap.size w4 w5 := by (repeat' first | (with_reducible exact Below.refl _ _) | (with_reducible assumption) | (with_reducible refine below_drewN ?_ _) | (with_reducible refine Below.drew ?_) | (with_reducible refine Below.alloc ?_ ?_ _) | (with_reducible refine Below.setCell ?_ ?_ _) | (with_reducible refine Below.trans ?_ (Below.mono (by assumption) ?_)) | first | omega | (simp only [World.size_alloc, World.size_setCell, World.size_drew, size_drewN]; omega) | (simp; done) | (simp; omega) | (simp only [World.size_alloc, World.size_setCell, World.size_drew, size_drewN] at *; omega) | (simp at *; omega))
            clear hc5 hf5 hb5 hbel
            go_roundw
            case rel => exact ⟨k + 1, by omega, by go_num, HNB.out, hB5⟩
            case measure => simp [intOf]; omega
        · obtain rfl : k = (lvJs S K).length := by omega
          have HF := Lib.hid (HN.out (fndJ_no hnot))
          clear hnot
          go_wp2
          refine bodyPost_ret (v := .tuple #[.agg #[.int .i64 0, .int .i64 0, .int .i64 0], .bool false]) (by simp (disch := first | omega | (simp; done) | (simp; omega)) [results, Tryd.results23, go_sem, cell_set, *]) rfl ?_
          exact ⟨by rw [HF.out]; rfl, by (repeat' first | (with_reducible exact Below.refl _ _) | (with_reducible assumption) | (with_reducible refine below_drewN ?_ _) | (with_reducible refine Below.drew ?_) | (with_reducible refine Below.alloc ?_ ?_ _) | (with_reducible refine Below.setCell ?_ ?_ _) | (with_reducible refine Below.trans ?_ (Below.mono (by assumption) ?_)) | first | omega | (simp only [World.size_alloc, World.size_setCell, World.size_drew, size_drewN]; omega) | (simp; done) | (simp; omega) | (simp only [World.size_alloc, World.size_setCell, World.size_drew, size_drewN] at *; omega) | (simp at *; omega))⟩
end Go.Proofs.YtpggbfpjofcgnaaDoor
