/-
  The walk of impl.TermsCouple, and of both where no coupling is. Conditions: none.
-/
import Derived.Test.YtjopcpoodhamcaaLst
namespace Go.Proofs.Ytjopcpoodhamcaa
set_option linter.unusedSimpArgs false
set_option linter.unusedVariables false
open Go.RowKit

/-- The inner row. -/
def midU (U L : Int) (M N1 i j : Nat) : List Tm := lstU U L M N1 i ++ rowU (U - 2 * (N1 : Int) + 2 + 2 * (i : Int)) L M j
theorem midU_zero (U L : Int) (M N1 i : Nat) : midU U L M N1 i 0 = lstU U L M N1 i := by simp [midU, rowU]
theorem midU_last (U L : Int) (M N1 i : Nat) : midU U L M N1 i M = lstU U L M N1 (i + 1) := rfl
theorem midU_succ (U L : Int) (M N1 i j : Nat) : midU U L M N1 i (j + 1) = midU U L M N1 i j ++ [(U - 2 * (N1 : Int) + 2 + 2 * (i : Int), L - (M : Int) + 1 + (j : Int))] := by simp [midU, rowU]
theorem midU_len (U L : Int) (M N1 i j : Nat) (hm : M ≤ 9) (hi : i ≤ 5) (hj : j ≤ 9) : (midU U L M N1 i j).length ≤ 54 := by
  have h1 := lstU_len U L M N1 i
  have h2 := rowU_len (U - 2 * (N1 : Int) + 2 + 2 * (i : Int)) L M j
  have : i * M ≤ 5 * 9 := Nat.mul_le_mul hi hm
  simp only [midU, List.length_append]; omega
theorem coup_some (a b : Int) (D : Int) (K : Nat) (w : World) (h1 : spB a = true) (h2 : spB b = true) (h3 : a + b ≤ 24) (hD : absd a b = D) (hK : cMany a b = K) :
    Calls Try.prog 25 #[.int .i64 a, .int .i64 b] w fun e w' => ∃ g cap, e = .returned (.slice (some ⟨g, 0, none⟩) K cap) ∧
      (∀ k, k < K → w'.cell? ⟨g, k, none⟩ = some (.int .i64 (D + 2 * (k : Int)))) ∧ w.heap.size ≤ g ∧ g < w'.heap.size ∧ Below w.heap.size w w' := by
  subst hD hK
  refine (iCoupled_any a b w).mono ?_
  rintro e w' ⟨v, rfl, ho, hb⟩
  rw [coupled_yes h1 h2 h3, steps_length] at ho
  have hm := (cMany_bd h1 h2).1
  obtain ⟨g, cap, rfl, g1, g2, hc, -⟩ := row_form ho (by omega)
  exact ⟨g, cap, rfl, fun k hk => by rw [hc k (by omega), vI_steps _ _ _ hk], g1, g2, hb⟩
set_option maxRecDepth 20000 in
set_option maxHeartbeats 2000000 in
theorem iCouple_yes (s t : Tm) (w : World) (hc : cplB s t = true) :
    Calls Try.prog 16 #[.agg #[.int .i64 s.1, .int .i64 s.2], .agg #[.int .i64 t.1, .int .i64 t.2]] w fun e w' => ∃ v, e = .returned (.tuple #[v, .bool true]) ∧ RowL w' w.heap.size v (cplP s t) ∧ Below w.heap.size w w' := by
  obtain ⟨U, L, M, N1, hU, hL, hM, hN1, e1, e2, N5, M9, hU0, hU8, hL0, hL8, p1, p2, hcp, hok, hsort, hlenU, hlenP⟩ := cpl_facts hc
  simp only [cplB, Bool.and_eq_true, decide_eq_true_eq] at hc
  obtain ⟨⟨⟨hv1, hv2⟩, hs8⟩, hl8⟩ := hc
  obtain ⟨a1, a2, a3, a4⟩ := tvB_true hv1
  obtain ⟨b1, b2, b3, b4⟩ := tvB_true hv2
  obtain ⟨i0, ihi, iz0, iz1, iz2⟩ := info_parts infoT
  have kA : ∀ W, Calls Try.prog 25 #[.int .i64 s.1, .int .i64 t.1] W fun e w' => ∃ g cap, e = .returned (.slice (some ⟨g, 0, none⟩) N1 cap) ∧
      (∀ k, k < N1 → w'.cell? ⟨g, k, none⟩ = some (.int .i64 (U - 2 * (N1 : Int) + 2 + 2 * (k : Int)))) ∧ W.heap.size ≤ g ∧ g < w'.heap.size ∧ Below W.heap.size W w' := fun W =>
    coup_some s.1 t.1 _ N1 W (by simp [spB]; omega) (by simp [spB]; omega) (by omega) (by rw [e1]; omega) (by rw [hN1]; unfold cMany mnI; split <;> omega)
  have kB : ∀ W, Calls Try.prog 25 #[.int .i64 (2 * s.2), .int .i64 (2 * t.2)] W fun e w' => ∃ g cap, e = .returned (.slice (some ⟨g, 0, none⟩) M cap) ∧
      (∀ k, k < M → w'.cell? ⟨g, k, none⟩ = some (.int .i64 (2 * (L - (M : Int) + 1) + 2 * (k : Int)))) ∧ W.heap.size ≤ g ∧ g < w'.heap.size ∧ Below W.heap.size W w' := fun W =>
    coup_some (2 * s.2) (2 * t.2) _ M W (by simp [spB]; omega) (by simp [spB]; omega) (by omega) (by
      have : absd (2 * s.2) (2 * t.2) = 2 * absd s.2 t.2 := by unfold absd; split <;> split <;> omega
      omega) (by rw [hM]; unfold cMany mnI; split <;> split <;> omega)
  have hpos : 0 < N1 * M := Nat.mul_pos (by omega) (by omega)
  have hle : N1 * M ≤ 5 * 9 := Nat.mul_le_mul N5 M9
  have HA := Lib.hid kA
  have HB := Lib.hid kB
  have HOK := Lib.hid hok
  have HS := Lib.hid hsort
  have HLU := Lib.hid hlenU
  have HLP := Lib.hid hlenP
  have HPL := Lib.hid (show 0 < N1 * M ∧ N1 * M ≤ 45 from ⟨hpos, hle⟩)
  have HV1 := Lib.hid hv1
  have HV2 := Lib.hid hv2
  have lU0 : 0 ≤ U - 2 * (N1 : Int) + 2 := by omega
  have lU1 : U - 2 * (N1 : Int) + 2 + 2 * ((N1 : Int) - 1) ≤ 8 := by omega
  have lL0 : 0 ≤ L - (M : Int) + 1 := by omega
  have lL1 : L - (M : Int) + 1 + ((M : Int) - 1) ≤ 8 := by omega
  have hsU : s.1 + t.1 = U := hU.symm
  have hsL : s.2 + t.2 = L := hL.symm
  have hdU : decide (8 < U) = false := by simp; omega
  have hdL : decide (8 < L) = false := by simp; omega
  obtain ⟨X, hX⟩ : ∃ X, X = U - 2 * (N1 : Int) + 2 := ⟨_, rfl⟩
  obtain ⟨Y, hY⟩ : ∃ Y, Y = L - (M : Int) + 1 := ⟨_, rfl⟩
  rw [← hX] at lU0 lU1
  rw [← hY] at lL0 lL1
  have HX := Lib.hid hX
  have HY := Lib.hid hY
  rw [← HX.out] at HA
  rw [← HY.out] at HB
  clear hok hsort hlenU hlenP hpos hle hv1 hv2 kA kB e1 e2 hU hL hM hN1 hcp p1 p2 hX hY
  go_enter Try.func16, Try.ntmps16
  go_wp2_with fail
  refine (iTermValid_any _ _ _).mono ?_
  rintro e w5 ⟨rfl, hb5⟩
  rw [HV1.out]
  obtain ⟨hc5, hf5⟩ := bcell hb5; have hz5 := hb5.size; (try simp only [World.size_alloc, World.size_setCell, World.size_drew, size_drewN] at hz5 hc5 hf5); (have g5a : w.heap.size < w5.heap.size := by omega); (have g5b : w.heap.size + 1 < w5.heap.size := by omega)
  go_wp2_with fail
  refine (iTermValid_any _ _ _).mono ?_
  rintro e w6 ⟨rfl, hb6⟩
  rw [HV2.out]
  obtain ⟨hc6, hf6⟩ := bcell hb6; have hz6 := hb6.size; (try simp only [World.size_alloc, World.size_setCell, World.size_drew, size_drewN] at hz6 hc6 hf6)
  have g6a : w.heap.size < w6.heap.size := by omega
  have g6b : w.heap.size + 1 < w6.heap.size := by omega
  (have x0 : w6.cell? ⟨w.heap.size, 0, none⟩ = some (.int .i64 s.1) := by (simp (disch := first | omega | (simp; done) | (simp; omega)) [go_sem, *]; done)); (have x1 : w6.cell? ⟨w.heap.size, 1, none⟩ = some (.int .i64 s.2) := by (simp (disch := first | omega | (simp; done) | (simp; omega)) [go_sem, *]; done))
  (have y0 : w6.cell? ⟨w.heap.size + 1, 0, none⟩ = some (.int .i64 t.1) := by (simp (disch := first | omega | (simp; done) | (simp; omega)) [go_sem, *]; done)); (have y1 : w6.cell? ⟨w.heap.size + 1, 1, none⟩ = some (.int .i64 t.2) := by (simp (disch := first | omega | (simp; done) | (simp; omega)) [go_sem, *]; done))
  have hB6 : Below w.heap.size w w6 := by (repeat' first | (with_reducible exact Below.refl _ _) | (with_reducible assumption) | (with_reducible refine below_drewN ?_ _) | (with_reducible refine Below.drew ?_) | (with_reducible refine Below.alloc ?_ ?_ _) | (with_reducible refine Below.setCell ?_ ?_ _) | (with_reducible refine Below.trans ?_ (Below.mono (by assumption) ?_)) | first | omega | (simp only [World.size_alloc, World.size_setCell, World.size_drew, size_drewN]; omega) | (simp; done) | (simp; omega) | (simp only [World.size_alloc, World.size_setCell, World.size_drew, size_drewN] at *; omega) | (simp at *; omega))
  clear hc5 hf5 hc6 hf6 hb5 hb6
  go_wp2_with fail
  refine (HA.out _).mono ?_
  rintro e w7 ⟨go, co, rfl, hco, hgo1, hgo2, hb7⟩
  have HC7 := Lib.hid hco
  have hz7 := hb7.size
  have u0 := (hb7.cell (p := ⟨w.heap.size, 0, none⟩) g6a).trans x0
  have u1 := (hb7.cell (p := ⟨w.heap.size, 1, none⟩) g6a).trans x1
  have v0 := (hb7.cell (p := ⟨w.heap.size + 1, 0, none⟩) g6b).trans y0
  have v1 := (hb7.cell (p := ⟨w.heap.size + 1, 1, none⟩) g6b).trans y1
  have hB7 : Below w.heap.size w w7 := hB6.trans (hb7.mono (by omega))
  clear hco hb7 x0 x1 y0 y1 hB6
  have h7a : w.heap.size < w7.heap.size := by omega
  have h7b : w.heap.size + 1 < w7.heap.size := by omega
  go_wp2
  go_loopw [6, 41] (fun v ii wr => ∃ i : Nat, i ≤ N1 ∧ ii = .int .i64 i ∧ wr.ownsRow w7.heap.size 34 2 v (lstU U L M N1 i).length (vS (lstU U L M N1 i)) ∧ Below w7.heap.size w7 wr)
    (fun _ ii _ => N1 - (intOf ii).toNat)
  case atStart => exact ⟨0, Nat.zero_le _, by go_num, World.ownsRow_nil _ _ _ _, Below.refl _ _⟩
  case round =>
    obtain ⟨i, hi, rfl, hown, hbel⟩ := hrel
    have i0' : (0 : Int) ≤ (i : Int) := Int.natCast_nonneg _
    have hbz := hbel.size
    have p0 := (hbel.cell (p := ⟨w.heap.size, 0, none⟩) h7a).trans u0
    have p1 := (hbel.cell (p := ⟨w.heap.size, 1, none⟩) h7a).trans u1
    have r0 := (hbel.cell (p := ⟨w.heap.size + 1, 0, none⟩) h7b).trans v0
    have r1 := (hbel.cell (p := ⟨w.heap.size + 1, 1, none⟩) h7b).trans v1
    by_cases hlt : i < N1
    · have ri := (hbel.cell (p := ⟨go, i, none⟩) hgo2).trans (HC7.out i hlt)
      have HOW := Lib.hid hown
      clear hown
      have i1' : (i : Int) < (N1 : Int) := by omega
      go_wp2_with fail
      refine (HB.out _).mono ?_
      rintro e w8 ⟨gi, ci, rfl, hci, hgi1, hgi2, hb8⟩
      have hz8 := hb8.size
      have hown8 := row_below HOW.out hb8
      have hown8b : ∀ b, u6.ownBlock = some b → b ≠ gi := fun b hb e => by
        have := (HOW.out.lt b hb).2
        omega
      have hbel8 : Below w7.heap.size w7 w8 := hbel.trans (hb8.mono (by omega))
      have Hci := Lib.hid hci
      clear hci hb8 HOW ri
      go_wp2
      go_loopw [6, 53] (fun v kk wr => ∃ j : Nat, j ≤ M ∧ kk = .int .i64 j ∧ wr.ownsRow w7.heap.size 34 2 v (midU U L M N1 i j).length (vS (midU U L M N1 i j)) ∧ Below w7.heap.size w7 wr ∧ (∀ b, v.ownBlock = some b → b ≠ gi) ∧ gi < wr.heap.size ∧ ∀ k, k < M → wr.cell? ⟨gi, k, none⟩ = some (.int .i64 (2 * Y + 2 * (k : Int))))
        (fun _ kk _ => M - (intOf kk).toNat)
      case atStart => exact ⟨0, Nat.zero_le _, by go_num, by rw [midU_zero]; exact hown8, hbel8, hown8b, hgi2, Hci.out⟩
      case round =>
        obtain ⟨j, hj, rfl, hown1, hbel1, hne1, hgw1, hcell1⟩ := hrel
        have hb1z := hbel1.size
        have j0' : (0 : Int) ≤ (j : Int) := Int.natCast_nonneg _
        by_cases hlj : j < M
        · have rj := hcell1 j hlj
          have hlen := midU_len U L M N1 i j M9 (by omega) (by omega)
          have td : (2 * Y + 2 * (j : Int)).tdiv 2 = Y + (j : Int) := by rw [Int.tdiv_eq_ediv_of_nonneg (by omega)]; omega
          have j1' : (j : Int) < (M : Int) := by omega
          have HO1 := Lib.hid hown1
          have HC1 := Lib.hid hcell1
          have HN1 := Lib.hid hne1
          clear hown1 hcell1 hne1
          go_wp2_with (first
            | (at_builtin; refine wpList_append_own_at _ rfl _ _ 24 rfl w7.heap.size 34 i0 (.agg #[.int .i64 0, .int .i64 0]) 2 16 Try.underlying24 ihi iz0 iz1 iz2 rfl (by decide) _ _ _ rfl (HO1.out.alloc _) ⟨wr.heap.size, 0, none⟩ 1 1 [.int .i64 (X + 2 * (i : Int)), .int .i64 (Y + (j : Int))] rfl rfl ?c1 ?c2 ?c3 ?c4 ?c5 ?_))
          case c1 =>
            intro q u hq
            match q, hq with
            | 0, hq => simp at hq; subst hq; first | (simp [Addr.add]; done) | (simp (disch := first | omega | (simp; done) | (simp; omega)) [go_sem, Addr.add]; done)
            | 1, hq => simp at hq; subst hq; first | (simp [Addr.add]; done) | (simp (disch := first | omega | (simp; done) | (simp; omega)) [go_sem, Addr.add]; done)
          case c2 => intro u hu; simp at hu; rcases hu with rfl | rfl <;> rfl
          case c3 => unfold maxLen; omega
          case c4 => omega
          case c5 => simp; omega
          intro v' w9 hown' hgrow _ hat
          have hown2 : w9.ownsRow w7.heap.size 34 2 v' (midU U L M N1 i (j + 1)).length (vS (midU U L M N1 i (j + 1))) := by rw [midU_succ, List.length_append, vS_append, ← HX.out, ← HY.out]; exact hown'
          have hbel2 : Below w7.heap.size w7 w9 := Below.grown (by (repeat' first | (with_reducible exact Below.refl _ _) | (with_reducible assumption) | (with_reducible refine below_drewN ?_ _) | (with_reducible refine Below.drew ?_) | (with_reducible refine Below.alloc ?_ ?_ _) | (with_reducible refine Below.setCell ?_ ?_ _) | (with_reducible refine Below.trans ?_ (Below.mono (by assumption) ?_)) | first | omega | (simp only [World.size_alloc, World.size_setCell, World.size_drew, size_drewN]; omega) | (simp; done) | (simp; omega) | (simp only [World.size_alloc, World.size_setCell, World.size_drew, size_drewN] at *; omega) | (simp at *; omega))) hgrow (by first | omega | (simp only [World.size_alloc, World.size_setCell, World.size_drew, size_drewN]; omega) | (simp; done) | (simp; omega) | (simp only [World.size_alloc, World.size_setCell, World.size_drew, size_drewN] at *; omega) | (simp at *; omega)) (fun k hk => (HO1.out.lt k hk).1)
          have hz9 := hgrow.size
          simp only [World.size_alloc] at hz9 hat
          have hgi9 : gi < w9.heap.size := by omega
          have hne2 : ∀ b, v'.ownBlock = some b → b ≠ gi := fun b hb => by
            rcases hat with h | h
            · exact HN1.out b (h.symm.trans hb)
            · rw [h] at hb; simp at hb; omega
          have hcell2 : ∀ k, k < M → w9.cell? ⟨gi, k, none⟩ = some (.int .i64 (2 * Y + 2 * (k : Int))) := fun k hk => by
            rw [grown_cell hgrow (by rw [World.size_alloc]; omega) (fun e => HN1.out gi e rfl), World.cell?_of_block (Below.heap_alloc _ _ _ hgw1)]
            exact HC1.out k hk
          clear hown' hgrow hat
          go_wp2
          go_roundw
          case rel => exact ⟨j + 1, hlj, by go_num, hown2, hbel2, hne2, hgi9, hcell2⟩
          case measure => simp [intOf]; omega
        · obtain rfl : j = M := by omega
          rw [midU_last] at hown1
          have HO1 := Lib.hid hown1
          clear hown1 hcell1
          go_wp2
          go_roundw
          case rel => exact ⟨i + 1, hlt, by go_num, HO1.out, hbel1⟩
          case measure => simp [intOf]; omega
    · obtain rfl : i = N1 := by omega
      have hl0 : 0 < (lstU U L M i i).length := by rw [HLU.out]; exact HPL.out.1
      have hl1 : (lstU U L M i i).length ≤ 1000 := by rw [HLU.out]; have := HPL.out.2; omega
      obtain ⟨g, c, rfl, hg1, hg2, hT, hF⟩ := rowL_of hown hl0
      have HO := Lib.hid (ordered_some (lstU U L M i i) g c wr hl0 hl1 hg2 hT HOK.out)
      clear hown hT hF
      go_wp2_with fail
      refine (HO.out).mono ?_
      rintro e w9 ⟨g', c', rfl, k1, k2, k3, k4, k5⟩
      rw [HS.out] at k3
      have HR := Lib.hid (show RowL w9 w.heap.size (.slice (some ⟨g', 0, none⟩) (cplP s t).length c') (cplP s t) from ⟨g', c', rfl, by omega, k2, k3, k4⟩)
      have hB9 : Below w.heap.size w w9 := hB7.trans ((hbel.trans (k5.mono (by omega))).mono (by omega))
      rw [HLU.out, ← HLP.out]
      clear k3 k4 k5 hbel hB7
      go_wp2
      refine bodyPost_ret (v := .tuple #[.slice (some ⟨g', 0, none⟩) (cplP s t).length c', .bool true]) (by simp (disch := first | omega | (simp; done) | (simp; omega)) [results, Try.results16, go_sem, cell_set, *]) rfl ?_
      exact ⟨_, rfl, HR.out, hB9⟩
end Go.Proofs.Ytjopcpoodhamcaa
