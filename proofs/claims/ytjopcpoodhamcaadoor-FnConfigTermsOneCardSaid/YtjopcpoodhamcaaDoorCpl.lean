import Derived.Test.YtjopcpoodhamcaaDoorCplP
import Derived.Test.YtjopcpoodhamcaaDoorOrd
import Derived.Test.YtjopcpoodhamcaaDoorGc
import Derived.Test.YtjopcpoodhamcaaDoorCouple
/-
  The walk of the reference's TermsCouple. Conditions: none.
-/
namespace Go.Proofs.YtjopcpoodhamcaaDoor
set_option linter.unusedSimpArgs false
set_option linter.unusedVariables false
open Go.RowKit

def midD (U L : Int) (m i j : Nat) : List Tm := lstD U L m i ++ rowD (U - 2 * (i : Int)) L j
theorem midD_zero (U L : Int) (m i : Nat) : midD U L m i 0 = lstD U L m i := by simp [midD, rowD]
theorem midD_last (U L : Int) (m i : Nat) : midD U L m i m = lstD U L m (i + 1) := rfl
theorem midD_succ (U L : Int) (m i j : Nat) : midD U L m i (j + 1) = midD U L m i j ++ [(U - 2 * (i : Int), L - (j : Int))] := by simp [midD, rowD]
theorem midD_len (U L : Int) (m i j : Nat) (hm : m ≤ 17) (hi : i ≤ 9) (hj : j ≤ 17) : (midD U L m i j).length ≤ 170 := by
  have h1 := lstD_len U L m i
  have h2 := rowD_len (U - 2 * (i : Int)) L j
  have : i * m ≤ 9 * 17 := Nat.mul_le_mul hi hm
  simp only [midD, List.length_append]; omega
set_option maxRecDepth 20000 in
set_option maxHeartbeats 2000000 in
theorem sCouple_yes (s t : Tm) (w : World) (hc : cplB s t = true) :
    Calls Tryd.prog 54 #[.agg #[.int .i64 s.1, .int .i64 s.2], .agg #[.int .i64 t.1, .int .i64 t.2]] w fun e w' => ∃ v, e = .returned (.tuple #[v, .bool true]) ∧ w'.ownsRow w.heap.size 31 2 v (cplP s t).length (vS (cplP s t)) ∧ Below w.heap.size w w' := by
  have hcp : cplP s t = lstD (s.1 + t.1) (s.2 + t.2) (2 * mnI s.2 t.2 + 1) (mnI s.1 t.1 + 1) := by unfold cplP; rw [if_pos hc]
  simp only [cplB, Bool.and_eq_true, decide_eq_true_eq] at hc
  obtain ⟨⟨⟨hv1, hv2⟩, hs8⟩, hl8⟩ := hc
  obtain ⟨a1, a2, a3, a4⟩ := tvB_true hv1
  obtain ⟨b1, b2, b3, b4⟩ := tvB_true hv2
  obtain ⟨i0, ihi, iz0, iz1, iz2⟩ := info_parts infoT
  obtain ⟨N1, hN1⟩ : ∃ N1, N1 = mnI s.1 t.1 + 1 := ⟨_, rfl⟩
  obtain ⟨M, hM⟩ : ∃ M, M = 2 * mnI s.2 t.2 + 1 := ⟨_, rfl⟩
  obtain ⟨D1, hD1⟩ : ∃ D, D = absd s.1 t.1 := ⟨_, rfl⟩
  obtain ⟨D2, hD2⟩ : ∃ D, D = absd s.2 t.2 := ⟨_, rfl⟩
  have e1 : D1 = s.1 + t.1 - 2 * ((N1 : Int) - 1) := by rw [hD1, hN1]; unfold absd mnI; split <;> omega
  have e2 : D2 = s.2 + t.2 - ((M : Int) - 1) := by rw [hD2, hM]; unfold absd mnI; split <;> omega
  have hN9 : N1 ≤ 9 := by rw [hN1]; unfold mnI; split <;> omega
  have hM17 : M ≤ 17 := by rw [hM]; unfold mnI; split <;> omega
  have kA : ∀ W, Calls Tryd.prog 66 #[.int .i64 (s.1 - t.1)] W fun e w' => e = .returned (.int .i64 D1) ∧ W = w' := fun W => by
    rw [hD1]; exact sAbs_any s.1 t.1 W (by simp [spB]; omega) (by simp [spB]; omega)
  have kB : ∀ W, Calls Tryd.prog 66 #[.int .i64 (s.2 - t.2)] W fun e w' => e = .returned (.int .i64 D2) ∧ W = w' := fun W => by
    rw [hD2]; exact sAbs_any s.2 t.2 W (by simp [spB]; omega) (by simp [spB]; omega)
  rw [← hN1, ← hM] at hcp
  have HA := Lib.hid kA
  have HB := Lib.hid kB
  have HP := Lib.hid hcp
  have HE1 := Lib.hid e1
  have HE2 := Lib.hid e2
  have HV1 := Lib.hid hv1
  have HV2 := Lib.hid hv2
  obtain ⟨U, hU⟩ : ∃ U, U = s.1 + t.1 := ⟨_, rfl⟩
  obtain ⟨L, hL⟩ : ∃ L, L = s.2 + t.2 := ⟨_, rfl⟩
  have hU0 : 0 ≤ U := by omega
  have hL0 : 0 ≤ L := by omega
  have hU8 : U ≤ 8 := by omega
  have hL8 : L ≤ 8 := by omega
  have hdU : decide (8 < U) = false := by simp; omega
  have hdL : decide (8 < L) = false := by simp; omega
  have HU := Lib.hid hU
  have HL := Lib.hid hL
  have hsU : s.1 + t.1 = U := hU.symm
  have hsL : s.2 + t.2 = L := hL.symm
  clear hcp hv1 hv2 kA kB hN1 hM hD1 hD2 e1 e2 hU hL
  have hemp : (((w.alloc (.cells #[.int .i64 s.1, .int .i64 s.2] 31)).alloc (.cells #[.int .i64 t.1, .int .i64 t.2] 31)).alloc (.cells #[] 31)).ownsRow (w.heap.size + 2) 31 2 (.slice (some ⟨w.heap.size + 1 + 1, 0, none⟩) 0 0) 0 [] := by
    have := World.ownsRow_made (base := w.heap.size + 2) (e := 31) (size := 2) ((w.alloc (.cells #[.int .i64 s.1, .int .i64 s.2] 31)).alloc (.cells #[.int .i64 t.1, .int .i64 t.2] 31)) #[] 0 (by simp) (by unfold maxLen; omega) rfl
    simpa using this
  have HEmp := Lib.hid hemp
  clear hemp
  go_enter Tryd.func54, Tryd.ntmps54
  go_wp2_with fail
  refine (sTermValid_any _ _ _).mono ?_
  rintro e w5 ⟨rfl, hb5⟩
  rw [HV1.out]
  have HW5 := Lib.hid (row_below HEmp.out hb5)
  obtain ⟨hc5, hf5⟩ := bcell hb5; have hz5 := hb5.size; (try simp only [World.size_alloc, World.size_setCell, World.size_drew, size_drewN] at hz5 hc5 hf5); (have g5a : w.heap.size < w5.heap.size := by omega); (have g5b : w.heap.size + 1 < w5.heap.size := by omega); (have g5c : w.heap.size + 1 + 1 < w5.heap.size := by omega)
  go_wp2_with fail
  refine (sTermValid_any _ _ _).mono ?_
  rintro e w6 ⟨rfl, hb6⟩
  rw [HV2.out]
  have HW6 := Lib.hid (row_below HW5.out hb6)
  obtain ⟨hc6, hf6⟩ := bcell hb6; have hz6 := hb6.size; (try simp only [World.size_alloc, World.size_setCell, World.size_drew, size_drewN] at hz6 hc6 hf6)
  have g6a : w.heap.size < w6.heap.size := by omega
  have g6b : w.heap.size + 1 < w6.heap.size := by omega
  have g6c : w.heap.size + 2 < w6.heap.size := by omega
  (have x0 : w6.cell? ⟨w.heap.size, 0, none⟩ = some (.int .i64 s.1) := by (simp (disch := first | omega | (simp; done) | (simp; omega)) [go_sem, *]; done)); (have x1 : w6.cell? ⟨w.heap.size, 1, none⟩ = some (.int .i64 s.2) := by (simp (disch := first | omega | (simp; done) | (simp; omega)) [go_sem, *]; done))
  (have y0 : w6.cell? ⟨w.heap.size + 1, 0, none⟩ = some (.int .i64 t.1) := by (simp (disch := first | omega | (simp; done) | (simp; omega)) [go_sem, *]; done)); (have y1 : w6.cell? ⟨w.heap.size + 1, 1, none⟩ = some (.int .i64 t.2) := by (simp (disch := first | omega | (simp; done) | (simp; omega)) [go_sem, *]; done))
  have hB6 : Below w.heap.size w w6 := by (repeat' first | (with_reducible exact Below.refl _ _) | (with_reducible assumption) | (with_reducible refine below_drewN ?_ _) | (with_reducible refine Below.drew ?_) | (with_reducible refine Below.alloc ?_ ?_ _) | (with_reducible refine Below.setCell ?_ ?_ _) | (with_reducible refine Below.trans ?_ (Below.mono (by assumption) ?_)) | first | omega | (simp only [World.size_alloc, World.size_setCell, World.size_drew, size_drewN]; omega) | (simp; done) | (simp; omega) | (simp only [World.size_alloc, World.size_setCell, World.size_drew, size_drewN] at *; omega) | (simp at *; omega))
  clear hc5 hf5 hc6 hf6 hb5 hb6
  go_wp2
  go_loopw [6, 7] (fun v sp wr => ∃ i : Nat, i ≤ N1 ∧ sp = .int .i64 (U - 2 * (i : Int)) ∧ wr.ownsRow (w.heap.size + 2) 31 2 v (lstD U L M i).length (vS (lstD U L M i)) ∧ Below (w.heap.size + 2) w6 wr)
    (fun _ sp _ => (intOf sp + 20).toNat)
  case atStart => exact ⟨0, Nat.zero_le _, by go_num, HW6.out, Below.refl _ _⟩
  case round =>
    obtain ⟨i, hi, rfl, hown, hbel⟩ := hrel
    obtain ⟨Wo, hWo⟩ : ∃ W, W = wr := ⟨wr, rfl⟩
    subst hWo
    have i0' : (0 : Int) ≤ (i : Int) := Int.natCast_nonneg _
    have hbz := hbel.size
    have p0 := (hbel.cell (p := ⟨w.heap.size, 0, none⟩) (by show w.heap.size < _; omega)).trans x0
    have p1 := (hbel.cell (p := ⟨w.heap.size, 1, none⟩) (by show w.heap.size < _; omega)).trans x1
    have r0 := (hbel.cell (p := ⟨w.heap.size + 1, 0, none⟩) (by show w.heap.size + 1 < _; omega)).trans y0
    have r1 := (hbel.cell (p := ⟨w.heap.size + 1, 1, none⟩) (by show w.heap.size + 1 < _; omega)).trans y1
    by_cases hlt : i < N1
    · have hge : D1 ≤ U - 2 * (i : Int) := by have := HE1.out; omega
      have iN : (i : Int) ≤ 8 := by omega
      go_wp2_with (first | (go_at_call 66; refine (HA.out _).mono ?_; rintro e w' ⟨rfl, rfl⟩))
      go_loopw [6, 8] (fun v kk wr => ∃ j : Nat, j ≤ M ∧ kk = .int .i64 (L - (j : Int)) ∧ wr.ownsRow (w.heap.size + 2) 31 2 v (midD U L M i j).length (vS (midD U L M i j)) ∧ Below (w.heap.size + 2) w6 wr)
        (fun _ kk _ => (intOf kk + 20).toNat)
      case atStart => exact ⟨0, Nat.zero_le _, by go_num, by rw [midD_zero]; exact hown, hbel⟩
      case round =>
        obtain ⟨j, hj, rfl, hown1, hbel1⟩ := hrel
        have hb1z := hbel1.size
        have j0' : (0 : Int) ≤ (j : Int) := Int.natCast_nonneg _
        have s0 := (hbel1.cell (p := ⟨w.heap.size, 0, none⟩) (by show w.heap.size < _; omega)).trans x0
        have s1 := (hbel1.cell (p := ⟨w.heap.size, 1, none⟩) (by show w.heap.size < _; omega)).trans x1
        have t0 := (hbel1.cell (p := ⟨w.heap.size + 1, 0, none⟩) (by show w.heap.size + 1 < _; omega)).trans y0
        have t1 := (hbel1.cell (p := ⟨w.heap.size + 1, 1, none⟩) (by show w.heap.size + 1 < _; omega)).trans y1
        by_cases hlj : j < M
        · have hge2 : D2 ≤ L - (j : Int) := by have := HE2.out; omega
          have jN : (j : Int) ≤ 16 := by omega
          have hlen := midD_len U L M i j hM17 (by omega) (by omega)
          have HO1 := Lib.hid hown1
          clear hown1
          go_wp2_with (first
            | (go_at_call 66; refine (HB.out _).mono ?_; rintro e w' ⟨rfl, rfl⟩)
            | (at_builtin; refine wpList_append_own _ rfl _ _ 25 rfl (w.heap.size + 2) 31 i0 (.agg #[.int .i64 0, .int .i64 0]) 2 16 Tryd.underlying25 ihi iz0 iz1 iz2 rfl (by decide) _ _ _ rfl (HO1.out.alloc _) ⟨wr.heap.size, 0, none⟩ 1 1 [.int .i64 (U - 2 * (i : Int)), .int .i64 (L - (j : Int))] rfl rfl ?c1 ?c2 ?c3 ?c4 ?c5 ?_))
          case c1 =>
            intro q u hq
            match q, hq with
            | 0, hq => simp at hq; subst hq; first | (simp [Addr.add]; done) | (simp (disch := first | omega | (simp; done) | (simp; omega)) [go_sem, Addr.add]; done)
            | 1, hq => simp at hq; subst hq; first | (simp [Addr.add]; done) | (simp (disch := first | omega | (simp; done) | (simp; omega)) [go_sem, Addr.add]; done)
          case c2 => intro u hu; simp at hu; rcases hu with rfl | rfl <;> rfl
          case c3 => unfold maxLen; omega
          case c4 => omega
          case c5 => simp; omega
          intro v' w7 hown' hgrow _
          have hown2 : w7.ownsRow (w.heap.size + 2) 31 2 v' (midD U L M i (j + 1)).length (vS (midD U L M i (j + 1))) := by rw [midD_succ, List.length_append, vS_append]; exact hown'
          have hbel2 : Below (w.heap.size + 2) w6 w7 := Below.grown (by (repeat' first | (with_reducible exact Below.refl _ _) | (with_reducible assumption) | (with_reducible refine below_drewN ?_ _) | (with_reducible refine Below.drew ?_) | (with_reducible refine Below.alloc ?_ ?_ _) | (with_reducible refine Below.setCell ?_ ?_ _) | (with_reducible refine Below.trans ?_ (Below.mono (by assumption) ?_)) | first | omega | (simp only [World.size_alloc, World.size_setCell, World.size_drew, size_drewN]; omega) | (simp; done) | (simp; omega) | (simp only [World.size_alloc, World.size_setCell, World.size_drew, size_drewN] at *; omega) | (simp at *; omega))) hgrow (by first | omega | (simp only [World.size_alloc, World.size_setCell, World.size_drew, size_drewN]; omega) | (simp; done) | (simp; omega) | (simp only [World.size_alloc, World.size_setCell, World.size_drew, size_drewN] at *; omega) | (simp at *; omega)) (fun k hk => (HO1.out.lt k hk).1)
          clear hown' hgrow
          go_wp2
          go_roundw
          case rel => exact ⟨j + 1, hlj, by go_num, hown2, hbel2⟩
          case measure => simp [intOf]; omega
        · obtain rfl : j = M := by omega
          have hge2 : ¬ D2 ≤ L - (j : Int) := by have := HE2.out; omega
          have hge3 : L - (j : Int) < D2 := by omega
          rw [midD_last] at hown1
          have HO1 := Lib.hid hown1
          clear hown1
          go_wp2_with (first | (go_at_call 66; refine (HB.out _).mono ?_; rintro e w' ⟨rfl, rfl⟩))
          go_roundw
          case rel => exact ⟨i + 1, hlt, by go_num, HO1.out, hbel1⟩
          case measure => simp [intOf]; omega
    · obtain rfl : i = N1 := by omega
      have hge : ¬ D1 ≤ U - 2 * (i : Int) := by have := HE1.out; omega
      have hge3 : U - 2 * (i : Int) < D1 := by omega
      have HO := Lib.hid hown
      clear hown
      go_wp2_with (first | (go_at_call 66; refine (HA.out _).mono ?_; rintro e w' ⟨rfl, rfl⟩))
      refine bodyPost_ret (v := .tuple #[u6, .bool true]) (by simp (disch := first | omega | (simp; done) | (simp; omega)) [results, Tryd.results54, go_sem, cell_set, *]) rfl ?_
      exact ⟨_, rfl, by rw [HP.out, ← HU.out, ← HL.out]; exact row_mono HO.out (by omega), hB6.trans (hbel.mono (by omega))⟩
end Go.Proofs.YtjopcpoodhamcaaDoor
