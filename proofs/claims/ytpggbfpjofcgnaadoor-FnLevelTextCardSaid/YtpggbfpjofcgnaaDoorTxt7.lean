/-
  The walks that read a level. Conditions: none.
-/
import Derived.Test.YtpggbfpjofcgnaaDoorTxt6
namespace Go.Proofs.YtpggbfpjofcgnaaDoor
set_option linter.unusedSimpArgs false
set_option linter.unusedVariables false
open Go.RowKit

def NotB (js : List Int) (r : ByteArray) (k : Nat) : Prop := ∀ (i : Nat) (j' : Int), i < k → js[i]? = some j' → txJ j' ≠ r
theorem fndJ_at {js : List Int} {r : ByteArray} {k : Nat} {j : Int} (h : NotB js r k) (hk : js[k]? = some j) (hj : txJ j = r) : fndJ js r = some j := by
  rcases fndJ_cases js r with ⟨k0, j0, h1, h2, h3, h4⟩ | ⟨h1, h2⟩
  · have e : k0 = k := by
      rcases Nat.lt_trichotomy k0 k with c | c | c
      · exact absurd h2 (h k0 j0 c h1)
      · exact c
      · exact absurd hj (h3 k j c hk)
    subst e
    rw [hk] at h1
    rw [h4, ← h1]
  · exact absurd hj (h1 k j hk)
theorem fndJ_no {js : List Int} {r : ByteArray} (h : NotB js r js.length) : fndJ js r = none := by
  rcases fndJ_cases js r with ⟨k0, j0, h1, h2, h3, h4⟩ | ⟨h1, h2⟩
  · exact absurd h2 (h k0 j0 (List.getElem?_eq_some_iff.1 h1).1 h1)
  · exact h2
theorem NotB.succ {js : List Int} {r : ByteArray} {k : Nat} {j : Int} (h : NotB js r k) (hk : js[k]? = some j) (hj : txJ j ≠ r) : NotB js r (k + 1) := fun i j' hi he => by
  by_cases e : i = k
  · subst e
    rw [hk] at he
    cases he
    exact hj
  · exact h i j' (by omega) he
theorem frL_no {bs : ByteArray} (h : okB (preB bs) = false) : frL bs = valL 0 0 0 false := by
  unfold frL
  rw [if_neg (by rw [h]; simp)]
theorem frL_some {bs : ByteArray} {j : Int} (h3 : 3 ≤ bs.size) (h : okB (preB bs) = true) (hf : fndJ (lvJs (chS (preB bs)) (chK (preB bs))) (restB bs) = some j) : frL bs = valL (chS (preB bs)) (chK (preB bs)) j true := by
  unfold frL
  rw [if_pos ⟨h3, h⟩, hf]
theorem frL_none {bs : ByteArray} (h3 : 3 ≤ bs.size) (h : okB (preB bs) = true) (hf : fndJ (lvJs (chS (preB bs)) (chK (preB bs))) (restB bs) = none) : frL bs = valL 0 0 0 false := by
  unfold frL
  rw [if_pos ⟨h3, h⟩, hf]
theorem okB_tv {bs : ByteArray} (h : okB bs = true) : tvB (chS bs) (chK bs) = true := by
  unfold okB at h
  simp only [Bool.and_eq_true] at h
  exact h.2
theorem frT_yes {bs : ByteArray} (h : okB bs = true) : frT bs = .tuple #[.agg #[.int .i64 (chS bs), .int .i64 (chK bs)], .bool true] := by
  unfold frT; rw [if_pos h]
theorem frT_no {bs : ByteArray} (h : okB bs = false) : frT bs = .tuple #[.agg #[.int .i64 0, .int .i64 0], .bool false] := by
  unfold frT; rw [if_neg (by rw [h]; simp)]
set_option maxRecDepth 20000 in
set_option maxHeartbeats 4000000 in
theorem iLevelFrom_any (bs : ByteArray) (w : World) (hbs : bs.size ≤ 8000000) :
    Calls Tryd.prog 24 #[.string bs] w fun e w' => e = .returned (frL bs) ∧ Below w.heap.size w w' := by
  by_cases h3 : bs.size < 3
  · have HF := Lib.hid (show frL bs = valL 0 0 0 false by unfold frL; rw [if_neg (by omega)])
    have hz : (bs.size : Int) < 3 := by omega
    go_enter Tryd.func24, Tryd.ntmps24
    go_wp2
    refine bodyPost_ret (v := .tuple #[.agg #[.int .i64 0, .int .i64 0, .int .i64 0], .bool false]) (by simp (disch := first | omega | (simp; done) | (simp; omega)) [results, Tryd.results24, go_sem, cell_set, *]) rfl ?_
    exact ⟨by rw [HF.out]; rfl, by (repeat' first | (with_reducible exact Below.refl _ _) | (with_reducible assumption) | (with_reducible refine below_drewN ?_ _) | (with_reducible refine Below.drew ?_) | (with_reducible refine Below.alloc ?_ ?_ _) | (with_reducible refine Below.setCell ?_ ?_ _) | (with_reducible refine Below.trans ?_ (Below.mono (by assumption) ?_)) | first | omega | (simp only [World.size_alloc, World.size_setCell, World.size_drew, size_drewN]; omega) | (simp; done) | (simp; omega) | (simp only [World.size_alloc, World.size_setCell, World.size_drew, size_drewN] at *; omega) | (simp at *; omega))⟩
  · have hz : ¬ (bs.size : Int) < 3 := by omega
    have hz2 : (2 : Int) ≤ (bs.size : Int) := by omega
    have ps := pre_size bs (by omega)
    cases ho : okB (preB bs)
    · have HF := Lib.hid (frL_no ho)
      have HT := Lib.hid (frT_no ho)
      clear ho
      go_enter Tryd.func24, Tryd.ntmps24
      go_wp2_with (go_at_call 15; refine (iTermFrom_any (preB bs) _ (by omega)).mono ?_; rintro e w1 ⟨rfl, hb1⟩; rw [HT.out]; obtain ⟨hc1, hf1⟩ := bcell hb1; have hz1 := hb1.size; (try simp only [World.size_alloc, World.size_setCell, World.size_drew, size_drewN] at hz1 hc1 hf1); (have g1a : w.heap.size < w1.heap.size := by omega); (have k0 : w1.cell? ⟨w.heap.size, 0, none⟩ = some (.int .i64 0) := by (simp (disch := first | omega | (simp; done) | (simp; omega)) [go_sem, *]; done)); (have k1 : w1.cell? ⟨w.heap.size, 1, none⟩ = some (.int .i64 0) := by (simp (disch := first | omega | (simp; done) | (simp; omega)) [go_sem, *]; done)); (have k2 : w1.cell? ⟨w.heap.size, 2, none⟩ = some (.int .i64 0) := by (simp (disch := first | omega | (simp; done) | (simp; omega)) [go_sem, *]; done)); (have m0 : w1.frozen? ⟨w.heap.size, 0, none⟩ = false := by (simp (disch := first | omega | (simp; done) | (simp; omega)) [go_sem, *]; done)); (have m1 : w1.frozen? ⟨w.heap.size, 1, none⟩ = false := by (simp (disch := first | omega | (simp; done) | (simp; omega)) [go_sem, *]; done)); (have m2 : w1.frozen? ⟨w.heap.size, 2, none⟩ = false := by (simp (disch := first | omega | (simp; done) | (simp; omega)) [go_sem, *]; done)); clear hc1 hf1)
      refine bodyPost_ret (v := .tuple #[.agg #[.int .i64 0, .int .i64 0, .int .i64 0], .bool false]) (by simp (disch := first | omega | (simp; done) | (simp; omega)) [results, Tryd.results24, go_sem, cell_set, *]) rfl ?_
      exact ⟨by rw [HF.out]; rfl, by (repeat' first | (with_reducible exact Below.refl _ _) | (with_reducible assumption) | (with_reducible refine below_drewN ?_ _) | (with_reducible refine Below.drew ?_) | (with_reducible refine Below.alloc ?_ ?_ _) | (with_reducible refine Below.setCell ?_ ?_ _) | (with_reducible refine Below.trans ?_ (Below.mono (by assumption) ?_)) | first | omega | (simp only [World.size_alloc, World.size_setCell, World.size_drew, size_drewN]; omega) | (simp; done) | (simp; omega) | (simp only [World.size_alloc, World.size_setCell, World.size_drew, size_drewN] at *; omega) | (simp at *; omega))⟩
    · obtain ⟨S, hS⟩ : ∃ S, S = chS (preB bs) := ⟨_, rfl⟩
      obtain ⟨K, hK⟩ : ∃ K, K = chK (preB bs) := ⟨_, rfl⟩
      have htv := okB_tv ho
      have hft := frT_yes ho
      have hfs := fun j => frL_some (j := j) (by omega) ho
      have hfn := frL_none (by omega) ho
      rw [← hS, ← hK] at htv hft
      simp only [← hS, ← hK] at hfs hfn
      have hlen := lvJs_pos htv
      have HT := Lib.hid hft
      have HS := Lib.hid hfs
      have HN := Lib.hid hfn
      obtain ⟨R, hR⟩ : ∃ R, R = restB bs := ⟨_, rfl⟩
      have hRR : bs.extract 2 bs.size = R := hR.symm
      rw [← hR] at HS HN
      have hpos := hlen.1
      clear ho hft hfs hfn hS hK hR
      go_enter Tryd.func24, Tryd.ntmps24
      go_wp2_with (go_at_call 15; refine (iTermFrom_any (preB bs) _ (by omega)).mono ?_; rintro e w1 ⟨rfl, hb1⟩; rw [HT.out]; obtain ⟨hc1, hf1⟩ := bcell hb1; have hz1 := hb1.size; (try simp only [World.size_alloc, World.size_setCell, World.size_drew, size_drewN] at hz1 hc1 hf1); (have g1a : w.heap.size < w1.heap.size := by omega))
      refine (iLevels_some S K _ hpos).mono ?_
      rintro e w4 ⟨g, c, rfl, L, -, -, hg, hg', hb4⟩
      obtain ⟨hc4, hf4⟩ := bcell hb4; have hz4 := hb4.size; (try simp only [World.size_alloc, World.size_setCell, World.size_drew, size_drewN] at hz4 hc4 hf4); (have g4a : w.heap.size < w4.heap.size := by omega)
      (have k0 : w4.cell? ⟨w.heap.size, 0, none⟩ = some (.int .i64 0) := by (simp (disch := first | omega | (simp; done) | (simp; omega)) [go_sem, *]; done)); (have k1 : w4.cell? ⟨w.heap.size, 1, none⟩ = some (.int .i64 0) := by (simp (disch := first | omega | (simp; done) | (simp; omega)) [go_sem, *]; done)); (have k2 : w4.cell? ⟨w.heap.size, 2, none⟩ = some (.int .i64 0) := by (simp (disch := first | omega | (simp; done) | (simp; omega)) [go_sem, *]; done))
      (have m0 : w4.frozen? ⟨w.heap.size, 0, none⟩ = false := by (simp (disch := first | omega | (simp; done) | (simp; omega)) [go_sem, *]; done)); (have m1 : w4.frozen? ⟨w.heap.size, 1, none⟩ = false := by (simp (disch := first | omega | (simp; done) | (simp; omega)) [go_sem, *]; done)); (have m2 : w4.frozen? ⟨w.heap.size, 2, none⟩ = false := by (simp (disch := first | omega | (simp; done) | (simp; omega)) [go_sem, *]; done))
      have HL := Lib.hid L
      have hB4 : Below w.heap.size w w4 := by (repeat' first | (with_reducible exact Below.refl _ _) | (with_reducible assumption) | (with_reducible refine below_drewN ?_ _) | (with_reducible refine Below.drew ?_) | (with_reducible refine Below.alloc ?_ ?_ _) | (with_reducible refine Below.setCell ?_ ?_ _) | (with_reducible refine Below.trans ?_ (Below.mono (by assumption) ?_)) | first | omega | (simp only [World.size_alloc, World.size_setCell, World.size_drew, size_drewN]; omega) | (simp; done) | (simp; omega) | (simp only [World.size_alloc, World.size_setCell, World.size_drew, size_drewN] at *; omega) | (simp at *; omega))
      clear L hc1 hf1 hc4 hf4 hb1 hb4
      go_wp2
      go_loopw [24] (fun i wr => ∃ k : Nat, k ≤ (lvJs S K).length ∧ i = .int .i64 k ∧ NotB (lvJs S K) R k ∧ Below w4.heap.size w4 wr) (fun i _ => (lvJs S K).length - (intOf i).toNat)
      case atStart => exact ⟨0, by omega, rfl, fun i j' hi _ => by omega, Below.refl _ _⟩
      case round =>
        obtain ⟨k, hk, rfl, hnot, hbel⟩ := hrel
        have hbz := hbel.size
        have y0 := (hbel.cell (p := ⟨w.heap.size, 0, none⟩) g4a).trans k0
        have y1 := (hbel.cell (p := ⟨w.heap.size, 1, none⟩) g4a).trans k1
        have y2 := (hbel.cell (p := ⟨w.heap.size, 2, none⟩) g4a).trans k2
        have z0 := (hbel.frozen (p := ⟨w.heap.size, 0, none⟩) g4a).trans m0
        have z1 := (hbel.frozen (p := ⟨w.heap.size, 1, none⟩) g4a).trans m1
        have z2 := (hbel.frozen (p := ⟨w.heap.size, 2, none⟩) g4a).trans m2
        have gz : w.heap.size < wr.heap.size := by omega
        by_cases hlt : k < (lvJs S K).length
        · obtain ⟨j, hj⟩ : ∃ j, (lvJs S K)[k]? = some j := ⟨_, List.getElem?_eq_getElem hlt⟩
          obtain ⟨a0, a1, a2⟩ := HL.out k j hj
          obtain ⟨j0, j1, -⟩ := lvJs_txt hj
          have r0 := (hbel.cell (p := ⟨g, k * 3, none⟩) hg').trans a0
          have r1 := (hbel.cell (p := ⟨g, k * 3 + 1, none⟩) hg').trans a1
          have r2 := (hbel.cell (p := ⟨g, k * 3 + 2, none⟩) hg').trans a2
          have ggz : g < wr.heap.size := by omega
          have i0 : (0 : Int) ≤ (k : Int) := Int.natCast_nonneg _
          have i1 : (k : Int) < ((lvJs S K).length : Int) := by omega
          clear a0 a1 a2
          by_cases hm : txJ j = R
          · have HF := Lib.hid (HS.out j (fndJ_at hnot hj hm))
            have he : ((txJ j).toList == R.toList) = true := by rw [hm]; simp
            clear hm hj hnot
            go_wp2
            go_region_held3 (fun w' => w'.cell? ⟨wr.heap.size, 0, none⟩ = some (.int .i64 S) ∧ w'.cell? ⟨wr.heap.size, 1, none⟩ = some (.int .i64 K) ∧ w'.cell? ⟨wr.heap.size, 2, none⟩ = some (.int .i64 j) ∧ wr.heap.size + 1 ≤ w'.heap.size ∧ Below wr.heap.size wr w')
              (first | (simp (disch := first | omega | (simp; done) | (simp; omega)) [go_sem, *]; done) | ((repeat' first | (with_reducible exact Below.refl _ _) | (with_reducible assumption) | (with_reducible refine below_drewN ?_ _) | (with_reducible refine Below.drew ?_) | (with_reducible refine Below.alloc ?_ ?_ _) | (with_reducible refine Below.setCell ?_ ?_ _) | (with_reducible refine Below.trans ?_ (Below.mono (by assumption) ?_)) | first | omega | (simp only [World.size_alloc, World.size_setCell, World.size_drew, size_drewN]; omega) | (simp; done) | (simp; omega) | (simp only [World.size_alloc, World.size_setCell, World.size_drew, size_drewN] at *; omega) | (simp at *; omega)); done) | ((try go_split_ands); (refine ⟨?_, ?_, ?_, ?_, ?_⟩ <;> first | omega | (simp only [World.size_alloc, World.size_setCell, World.size_drew, size_drewN]; omega) | (simp (disch := first | omega | (simp; done) | (simp; omega)) [go_sem, *]; done) | ((repeat' first | (with_reducible exact Below.refl _ _) | (with_reducible assumption) | (with_reducible refine below_drewN ?_ _) | (with_reducible refine Below.drew ?_) | (with_reducible refine Below.alloc ?_ ?_ _) | (with_reducible refine Below.setCell ?_ ?_ _) | (with_reducible refine Below.trans ?_ (Below.mono (by assumption) ?_)) | first | omega | (simp only [World.size_alloc, World.size_setCell, World.size_drew, size_drewN]; omega) | (simp; done) | (simp; omega) | (simp only [World.size_alloc, World.size_setCell, World.size_drew, size_drewN] at *; omega) | (simp at *; omega)); done))))
              (first | (go_at_call 37; refine (iSpinText_ok _ _ j0 j1).mono ?_; rintro e w' ⟨rfl, rfl⟩))
            go_wp2
            refine bodyPost_ret (v := .tuple #[.agg #[.int .i64 S, .int .i64 K, .int .i64 j], .bool true]) (by simp (disch := first | omega | (simp; done) | (simp; omega)) [results, Tryd.results24, go_sem, cell_set, *]) rfl ?_
            exact ⟨by rw [HF.out]; rfl, by (repeat' first | (with_reducible exact Below.refl _ _) | (with_reducible assumption) | (with_reducible refine below_drewN ?_ _) | (with_reducible refine Below.drew ?_) | (with_reducible refine Below.alloc ?_ ?_ _) | (with_reducible refine Below.setCell ?_ ?_ _) | (with_reducible refine Below.trans ?_ (Below.mono (by assumption) ?_)) | first | omega | (simp only [World.size_alloc, World.size_setCell, World.size_drew, size_drewN]; omega) | (simp; done) | (simp; omega) | (simp only [World.size_alloc, World.size_setCell, World.size_drew, size_drewN] at *; omega) | (simp at *; omega))⟩
          · have HNB := Lib.hid (hnot.succ hj hm)
            have he : ((txJ j).toList == R.toList) = false := ba_ne hm
            clear hm hj hnot
            go_wp2
            go_region_held3 (fun w' => w'.cell? ⟨wr.heap.size, 0, none⟩ = some (.int .i64 S) ∧ w'.cell? ⟨wr.heap.size, 1, none⟩ = some (.int .i64 K) ∧ w'.cell? ⟨wr.heap.size, 2, none⟩ = some (.int .i64 j) ∧ wr.heap.size + 1 ≤ w'.heap.size ∧ Below wr.heap.size wr w')
              (first | (simp (disch := first | omega | (simp; done) | (simp; omega)) [go_sem, *]; done) | ((repeat' first | (with_reducible exact Below.refl _ _) | (with_reducible assumption) | (with_reducible refine below_drewN ?_ _) | (with_reducible refine Below.drew ?_) | (with_reducible refine Below.alloc ?_ ?_ _) | (with_reducible refine Below.setCell ?_ ?_ _) | (with_reducible refine Below.trans ?_ (Below.mono (by assumption) ?_)) | first | omega | (simp only [World.size_alloc, World.size_setCell, World.size_drew, size_drewN]; omega) | (simp; done) | (simp; omega) | (simp only [World.size_alloc, World.size_setCell, World.size_drew, size_drewN] at *; omega) | (simp at *; omega)); done) | ((try go_split_ands); (refine ⟨?_, ?_, ?_, ?_, ?_⟩ <;> first | omega | (simp only [World.size_alloc, World.size_setCell, World.size_drew, size_drewN]; omega) | (simp (disch := first | omega | (simp; done) | (simp; omega)) [go_sem, *]; done) | ((repeat' first | (with_reducible exact Below.refl _ _) | (with_reducible assumption) | (with_reducible refine below_drewN ?_ _) | (with_reducible refine Below.drew ?_) | (with_reducible refine Below.alloc ?_ ?_ _) | (with_reducible refine Below.setCell ?_ ?_ _) | (with_reducible refine Below.trans ?_ (Below.mono (by assumption) ?_)) | first | omega | (simp only [World.size_alloc, World.size_setCell, World.size_drew, size_drewN]; omega) | (simp; done) | (simp; omega) | (simp only [World.size_alloc, World.size_setCell, World.size_drew, size_drewN] at *; omega) | (simp at *; omega)); done))))
              (first | (go_at_call 37; refine (iSpinText_ok _ _ j0 j1).mono ?_; rintro e w' ⟨rfl, rfl⟩))
            go_wp2
            go_roundw
            case rel => exact ⟨k + 1, by omega, by go_num, HNB.out, by (repeat' first | (with_reducible exact Below.refl _ _) | (with_reducible assumption) | (with_reducible refine below_drewN ?_ _) | (with_reducible refine Below.drew ?_) | (with_reducible refine Below.alloc ?_ ?_ _) | (with_reducible refine Below.setCell ?_ ?_ _) | (with_reducible refine Below.trans ?_ (Below.mono (by assumption) ?_)) | first | omega | (simp only [World.size_alloc, World.size_setCell, World.size_drew, size_drewN]; omega) | (simp; done) | (simp; omega) | (simp only [World.size_alloc, World.size_setCell, World.size_drew, size_drewN] at *; omega) | (simp at *; omega))⟩
            case measure => simp [intOf]; omega
        · obtain rfl : k = (lvJs S K).length := by omega
          have HF := Lib.hid (HN.out (fndJ_no hnot))
          clear hnot
          go_wp2
          refine bodyPost_ret (v := .tuple #[.agg #[.int .i64 0, .int .i64 0, .int .i64 0], .bool false]) (by simp (disch := first | omega | (simp; done) | (simp; omega)) [results, Tryd.results24, go_sem, cell_set, *]) rfl ?_
          exact ⟨by rw [HF.out]; rfl, by (repeat' first | (with_reducible exact Below.refl _ _) | (with_reducible assumption) | (with_reducible refine below_drewN ?_ _) | (with_reducible refine Below.drew ?_) | (with_reducible refine Below.alloc ?_ ?_ _) | (with_reducible refine Below.setCell ?_ ?_ _) | (with_reducible refine Below.trans ?_ (Below.mono (by assumption) ?_)) | first | omega | (simp only [World.size_alloc, World.size_setCell, World.size_drew, size_drewN]; omega) | (simp; done) | (simp; omega) | (simp only [World.size_alloc, World.size_setCell, World.size_drew, size_drewN] at *; omega) | (simp at *; omega))⟩
end Go.Proofs.YtpggbfpjofcgnaaDoor
