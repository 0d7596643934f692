/-
  The walk of spec.TermsOf. Conditions: none.
-/
import Derived.Test.YtlbmdicfoiehgaaDoorSpd
import Derived.Test.YtlbmdicfoiehgaaDoorTmsP
import Derived.Maps.AppendAt
namespace Go.Proofs.YtlbmdicfoiehgaaDoor
set_option linter.unusedSimpArgs false
set_option linter.unusedVariables false
open Go.RowKit

theorem infoT : (Tryd.prog.info? 24).map (fun i => (i.zero, i.size, i.bytes)) = some (some (.agg #[.int .i64 0, .int .i64 0]), 2, 16) := by kernel_rfl
set_option maxRecDepth 20000 in
set_option maxHeartbeats 4000000 in
theorem sTerms_any (l n : Int) (w : World) :
    Calls Tryd.prog 17 #[.int .i64 l, .int .i64 n] w fun e w' => ∃ v, e = .returned v ∧ w'.ownsRow w.heap.size 24 2 v (termsP l n).length (vS (termsP l n)) ∧ Below w.heap.size w w' := by
  obtain ⟨i0, ihi, iz0, iz1, iz2⟩ := info_parts infoT
  have hemp : (w.alloc (.cells #[] 24)).ownsRow w.heap.size 24 2 (.slice (some ⟨w.heap.size, 0, none⟩) 0 0) ([] : List (Int × Int)).length (vS []) := by
    have := World.ownsRow_made (base := w.heap.size) (e := 24) (size := 2) w #[] 0 (by simp) (by unfold maxLen; omega) rfl
    simpa [vS] using this
  cases hv : eOk l n
  · rw [show termsP l n = [] by simp [termsP, hv]]
    have h3 : okS l n = false := hv
    go_enter Tryd.func17, Tryd.ntmps17
    go_wp2_with (go_at_call 36; refine (l12Ok_any _ _ _).mono ?_; rintro e w2 ⟨rfl, rfl⟩)
    go_ret
    exact ⟨_, rfl, hemp, by (repeat' first | (with_reducible exact Below.refl _ _) | (with_reducible assumption) | (with_reducible refine below_drewN ?_ _) | (with_reducible refine Below.drew ?_) | (with_reducible refine Below.alloc ?_ ?_ _) | (with_reducible refine Below.setCell ?_ ?_ _) | (with_reducible refine Below.trans ?_ (Below.mono (by assumption) ?_)) | first | omega | (simp only [World.size_alloc, World.size_setCell, World.size_drew, size_drewN]; omega) | (simp; done) | (simp; omega) | (simp only [World.size_alloc, World.size_setCell, World.size_drew, size_drewN] at *; omega) | (simp at *; omega))⟩
  · rw [show termsP l n = tsL l n 6 by simp [termsP, hv]]
    have h3 : okS l n = true := hv
    have HV := Lib.hid hv
    clear hv
    go_enter Tryd.func17, Tryd.ntmps17
    go_wp2_with (go_at_call 36; refine (l12Ok_any _ _ _).mono ?_; rintro e w2 ⟨rfl, rfl⟩)
    clear h3
    go_loopw [5, 6] (fun v sp wr => ∃ i : Nat, i ≤ 6 ∧ sp = .int .i64 (5 - (i : Int)) ∧ wr.ownsRow w.heap.size 24 2 v (tsL l n i).length (vS (tsL l n i)) ∧ Below w.heap.size w wr)
      (fun _ sp _ => (intOf sp + 1).toNat)
    case atStart => exact ⟨0, by omega, rfl, hemp, by (repeat' first | (with_reducible exact Below.refl _ _) | (with_reducible assumption) | (with_reducible refine below_drewN ?_ _) | (with_reducible refine Below.drew ?_) | (with_reducible refine Below.alloc ?_ ?_ _) | (with_reducible refine Below.setCell ?_ ?_ _) | (with_reducible refine Below.trans ?_ (Below.mono (by assumption) ?_)) | first | omega | (simp only [World.size_alloc, World.size_setCell, World.size_drew, size_drewN]; omega) | (simp; done) | (simp; omega) | (simp only [World.size_alloc, World.size_setCell, World.size_drew, size_drewN] at *; omega) | (simp at *; omega))⟩
    case round =>
      obtain ⟨i, hi, rfl, hown, hbel⟩ := hrel
      obtain ⟨Wo, hWo⟩ : ∃ W, W = wr := ⟨wr, rfl⟩
      subst hWo
      have i0' : (0 : Int) ≤ (i : Int) := Int.natCast_nonneg _
      by_cases hlt : i < 6
      · go_wp2
        go_loopw [5, 7] (fun v kk wr => ∃ j : Nat, j ≤ 7 ∧ kk = .int .i64 (6 - (j : Int)) ∧ wr.ownsRow w.heap.size 24 2 v (midT l n i j).length (vS (midT l n i j)) ∧ Below w.heap.size w wr)
          (fun _ kk _ => (intOf kk + 1).toNat)
        case atStart => exact ⟨0, by omega, rfl, by rw [midT_zero]; exact hown, hbel⟩
        case round =>
          obtain ⟨j, hj, rfl, hown1, hbel1⟩ := hrel
          obtain ⟨Wm, hWm⟩ : ∃ W, W = wr := ⟨wr, rfl⟩
          subst hWm
          have j0' : (0 : Int) ≤ (j : Int) := Int.natCast_nonneg _
          have hb1z := hbel1.size
          by_cases hlj : j < 7
          · obtain ⟨m, hm⟩ : ∃ m, m = tcF l n (5 - (i : Int)) (6 - (j : Int)) := ⟨_, rfl⟩
            have hmb : m ≤ 504 := by rw [hm]; exact tcF_bd _ _ _ _
            have hnE : u5.ownBlock ≠ some Wm.heap.size := fun h => by have := (hown1.lt _ h).2; omega
            have HO := Lib.hid hown1
            clear hown1
            go_wp2_with fail
            refine (sTermCount_any l n (5 - (i : Int)) (6 - (j : Int)) _).mono ?_
            rintro e w2 ⟨rfl, hb2⟩
            rw [← hm]
            have HM := Lib.hid hm
            clear hm
            have hz2 := hb2.size
            simp only [World.size_alloc] at hz2
            have c0 : w2.cell? ⟨Wm.heap.size, 0, none⟩ = some (.int .i64 (5 - (i : Int))) := (hb2.cell (p := ⟨Wm.heap.size, 0, none⟩) (by simp)).trans (by simp)
            have c1 : w2.cell? ⟨Wm.heap.size, 1, none⟩ = some (.int .i64 (6 - (j : Int))) := (hb2.cell (p := ⟨Wm.heap.size, 1, none⟩) (by simp)).trans (by simp)
            have hB2 : Below Wm.heap.size Wm w2 := by (repeat' first | (with_reducible exact Below.refl _ _) | (with_reducible assumption) | (with_reducible refine below_drewN ?_ _) | (with_reducible refine Below.drew ?_) | (with_reducible refine Below.alloc ?_ ?_ _) | (with_reducible refine Below.setCell ?_ ?_ _) | (with_reducible refine Below.trans ?_ (Below.mono (by assumption) ?_)) | first | omega | (simp only [World.size_alloc, World.size_setCell, World.size_drew, size_drewN]; omega) | (simp; done) | (simp; omega) | (simp only [World.size_alloc, World.size_setCell, World.size_drew, size_drewN] at *; omega) | (simp at *; omega))
            have hO2 := row_below HO.out hB2
            have hw2 : Below w.heap.size w w2 := hbel1.trans (hB2.mono hb1z)
            clear hb2 hB2 HO
            go_wp2_with fail
            go_loopw [5, 9] (fun v mm wr => ∃ c : Nat, c ≤ m.toNat ∧ mm = .int .i64 (m - (c : Int)) ∧ wr.ownsRow w.heap.size 24 2 v (innT l n i j c).length (vS (innT l n i j c)) ∧ v.ownBlock ≠ some Wm.heap.size ∧ Wm.heap.size < wr.heap.size ∧ wr.cell? ⟨Wm.heap.size, 0, none⟩ = some (.int .i64 (5 - (i : Int))) ∧ wr.cell? ⟨Wm.heap.size, 1, none⟩ = some (.int .i64 (6 - (j : Int))) ∧ Below w.heap.size w wr)
              (fun _ mm _ => (intOf mm).toNat)
            case atStart => exact ⟨0, by omega, by simp, by rw [innT_zero]; exact hO2, hnE, by omega, c0, c1, hw2⟩
            case round =>
              obtain ⟨c, hc, rfl, hown3, hnE3, hs3, d0, d1, hbel3⟩ := hrel
              have c0' : (0 : Int) ≤ (c : Int) := Int.natCast_nonneg _
              have hz3 := hbel3.size
              by_cases hlc : (c : Int) < m
              · have HO3 := Lib.hid hown3
                have hlen := innT_len l n i j c (by omega) (by omega) (by omega)
                have HN := Lib.hid hnE3
                clear hown3 hnE3
                go_wp2_with (first | (at_builtin; refine wpList_append_own_at _ rfl _ _ 30 rfl w.heap.size 24 i0 (.agg #[.int .i64 0, .int .i64 0]) 2 16 Tryd.underlying30 ihi iz0 iz1 iz2 rfl (by decide) _ _ _ rfl (HO3.out.alloc _) ⟨wr.heap.size, 0, none⟩ 1 1 [.int .i64 (5 - (i : Int)), .int .i64 (6 - (j : Int))] rfl rfl ?c1 ?c2 ?c3 ?c4 ?c5 ?_))
                case c1 =>
                  intro q u hq
                  match q, hq with
                  | 0, hq => simp at hq; subst hq; first | (simp [Addr.add]; done) | (simp (disch := first | omega | (simp; done) | (simp; omega)) [go_sem, Addr.add]; done)
                  | 1, hq => simp at hq; subst hq; first | (simp [Addr.add]; done) | (simp (disch := first | omega | (simp; done) | (simp; omega)) [go_sem, Addr.add]; done)
                case c2 => intro u hu; simp at hu; rcases hu with rfl | rfl <;> rfl
                case c3 => unfold maxLen; omega
                case c4 => omega
                case c5 => simp; omega
                intro v' w7 hown' hgrow _ hloc
                have hs7 := hgrow.size
                rw [World.size_alloc] at hs7
                have e0 : w7.cell? ⟨Wm.heap.size, 0, none⟩ = some (.int .i64 (5 - (i : Int))) := (hgrow.cell_far ⟨Wm.heap.size, 0, none⟩ (by simp; omega) (fun h => HN.out h.symm)).trans (by (simp (disch := first | omega | (simp; done) | (simp; omega)) [go_sem, *]; done))
                have e1 : w7.cell? ⟨Wm.heap.size, 1, none⟩ = some (.int .i64 (6 - (j : Int))) := (hgrow.cell_far ⟨Wm.heap.size, 1, none⟩ (by simp; omega) (fun h => HN.out h.symm)).trans (by (simp (disch := first | omega | (simp; done) | (simp; omega)) [go_sem, *]; done))
                have hbel' : Below w.heap.size w w7 := Below.grown (by (repeat' first | (with_reducible exact Below.refl _ _) | (with_reducible assumption) | (with_reducible refine below_drewN ?_ _) | (with_reducible refine Below.drew ?_) | (with_reducible refine Below.alloc ?_ ?_ _) | (with_reducible refine Below.setCell ?_ ?_ _) | (with_reducible refine Below.trans ?_ (Below.mono (by assumption) ?_)) | first | omega | (simp only [World.size_alloc, World.size_setCell, World.size_drew, size_drewN]; omega) | (simp; done) | (simp; omega) | (simp only [World.size_alloc, World.size_setCell, World.size_drew, size_drewN] at *; omega) | (simp at *; omega))) hgrow (by first | omega | (simp only [World.size_alloc, World.size_setCell, World.size_drew, size_drewN]; omega) | (simp; done) | (simp; omega) | (simp only [World.size_alloc, World.size_setCell, World.size_drew, size_drewN] at *; omega) | (simp at *; omega)) (fun k hk => (HO3.out.lt k hk).1)
                have hn' : v'.ownBlock ≠ some Wm.heap.size := by
                  rcases hloc with h | h
                  · rw [h]; exact HN.out
                  · rw [h]; simp; omega
                have hown2 : w7.ownsRow w.heap.size 24 2 v' (innT l n i j (c + 1)).length (vS (innT l n i j (c + 1))) := by
                  rw [innT_succ, List.length_append, vS_append]; exact hown'
                clear hown' hgrow hloc
                go_wp2
                go_roundw
                case rel => exact ⟨c + 1, by omega, by go_num, hown2, hn', by omega, e0, e1, hbel'⟩
                case measure => simp [intOf]; omega
              · obtain rfl : c = m.toNat := by omega
                have hrow : wr.ownsRow w.heap.size 24 2 u5 (midT l n i (j + 1)).length (vS (midT l n i (j + 1))) := by
                  rw [← innT_last, ← HM.out]
                  exact hown3
                clear hown3
                go_wp2
                go_roundw
                case rel => first | exact ⟨j + 1, hlj, by go_num, hrow, hbel3⟩ | exact ⟨j + 1, hlj, by go_num, hrow⟩
                case measure => simp [intOf]; omega
          · obtain rfl : j = 7 := by omega
            go_wp2
            go_roundw
            case rel => first | exact ⟨i + 1, hlt, by go_num, by rw [← midT_last]; exact hown1, hbel1⟩ | exact ⟨i + 1, hlt, by go_num, by rw [← midT_last]; exact hown1⟩
            case measure => simp [intOf]; omega
      · obtain rfl : i = 6 := by omega
        go_wp2
        go_ret
        exact ⟨_, rfl, hown, hbel⟩
end Go.Proofs.YtlbmdicfoiehgaaDoor
