/-
  The walks of LevelsOf (impl and spec): the levels of a term, in new memory. Conditions: none.
-/
import Derived.Test.YtljkjnlghcogbaaCouple
import Derived.Test.YtljkjnlghcogbaaLevel
import Derived.Deep.RegionHeld3
import Derived.Deep.AppendLies
namespace Go.Proofs.Ytljkjnlghcogbaa
set_option linter.unusedSimpArgs false
set_option linter.unusedVariables false
open Go.RowKit

theorem infoL : (Try.prog.info? 31).map (fun i => (i.zero, i.size, i.bytes)) = some (some (.agg #[.int .i64 0, .int .i64 0, .int .i64 0]), 3, 24) := by kernel_rfl

theorem iCoupled_some (a b : Int) (w : World) (h1 : spB a = true) (h2 : spB b = true) (h3 : a + b ≤ 24) :
    Calls Try.prog 13 #[.int .i64 a, .int .i64 b] w fun e w' => ∃ g cap, e = .returned (.slice (some ⟨g, 0, none⟩) (cMany a b) cap) ∧
      (∀ k, k < cMany a b → w'.cell? ⟨g, k, none⟩ = some (.int .i64 (absd a b + 2 * (k : Int)))) ∧ w.heap.size ≤ g ∧ g < w'.heap.size ∧ Below w.heap.size w w' := by
  refine (iCoupled_any a b w).mono ?_
  rintro e w' ⟨v, rfl, ho, hb⟩
  rw [coupled_yes h1 h2 h3, steps_length] at ho
  have hm := (cMany_bd h1 h2).1
  obtain ⟨g, cap, rfl, g1, g2, hc, -⟩ := row_form ho (by omega)
  exact ⟨g, cap, rfl, fun k hk => by rw [hc k (by omega), vI_steps _ _ _ hk], g1, g2, hb⟩
theorem sCoupled_some (a b : Int) (w : World) (h1 : spB a = true) (h2 : spB b = true) (h3 : a + b ≤ 24) :
    Calls Try.prog 15 #[.int .i64 a, .int .i64 b] w fun e w' => ∃ g cap, e = .returned (.slice (some ⟨g, 0, none⟩) (cMany a b) cap) ∧
      (∀ k, k < cMany a b → w'.cell? ⟨g, k, none⟩ = some (.int .i64 (absd a b + 2 * (k : Int)))) ∧ w.heap.size ≤ g ∧ g < w'.heap.size ∧ Below w.heap.size w w' := by
  refine (sCoupled_any a b w).mono ?_
  rintro e w' ⟨v, rfl, ho, hb⟩
  rw [coupled_yes h1 h2 h3, steps_length] at ho
  have hm := (cMany_bd h1 h2).1
  obtain ⟨g, cap, rfl, g1, g2, hc, -⟩ := row_form ho (by omega)
  exact ⟨g, cap, rfl, fun k hk => by rw [hc k (by omega), vI_steps _ _ _ hk], g1, g2, hb⟩
set_option maxHeartbeats 1000000 in
theorem iLevels_any (s l : Int) (w : World) :
    Calls Try.prog 5 #[.agg #[.int .i64 s, .int .i64 l]] w fun e w' => ∃ v, e = .returned v ∧ w'.ownsRow w.heap.size 31 3 v (lvJs s l).length (vL s l (lvJs s l)) ∧ Below w.heap.size w w' := by
  obtain ⟨i0, ihi, iz0, iz1, iz2⟩ := info_parts infoL
  cases h1 : tvB s l
  · rw [show lvJs s l = [] by simp [lvJs, h1]]
    go_enter Try.func5, Try.ntmps5
    go_wp2_with (go_at_call 12; refine (iTermValid_any _ _ _).mono ?_; rintro e w1 ⟨rfl, hb1⟩; obtain ⟨hc1, hf1⟩ := bcell hb1; have hz1 := hb1.size; (try simp only [World.size_alloc, World.size_setCell, World.size_drew, size_drewN] at hz1 hc1 hf1); (have g1a : w.heap.size < w1.heap.size := by omega))
    go_ret
    exact ⟨_, rfl, World.ownsRow_nil _ _ _ _, by (repeat' first | (with_reducible exact Below.refl _ _) | (with_reducible assumption) | (with_reducible refine below_drewN ?_ _) | (with_reducible refine Below.drew ?_) | (with_reducible refine Below.alloc ?_ ?_ _) | (with_reducible refine Below.setCell ?_ ?_ _) | (with_reducible refine Below.trans ?_ (Below.mono (by assumption) ?_)) | first | omega | (simp only [World.size_alloc, World.size_setCell, World.size_drew, size_drewN]; omega) | (simp; done) | (simp; omega) | (simp only [World.size_alloc, World.size_setCell, World.size_drew, size_drewN] at *; omega) | (simp at *; omega))⟩
  · obtain ⟨q1, q2, q3, q4⟩ := lvJs_yes h1
    rw [q4]
    clear q4
    have bt := tvB_true h1
    obtain ⟨m1, m2, m3, m4⟩ := cMany_bd q1 q2
    clear m3
    go_enter Try.func5, Try.ntmps5
    go_wp2_with (first | (go_at_call 12; refine (iTermValid_any _ _ _).mono ?_; rintro e w1 ⟨rfl, hb1⟩; obtain ⟨hc1, hf1⟩ := bcell hb1; have hz1 := hb1.size; (try simp only [World.size_alloc, World.size_setCell, World.size_drew, size_drewN] at hz1 hc1 hf1); (have g1a : w.heap.size < w1.heap.size := by omega)) | (go_at_call 13; refine (iCoupled_some _ _ _ q1 q2 q3).mono ?_; rintro e w2 ⟨g, cap, rfl, hcell, hg1, hg2, hb2⟩; obtain ⟨hc2, hf2⟩ := bcell hb2; have hz2 := hb2.size; (try simp only [World.size_alloc, World.size_setCell, World.size_drew, size_drewN] at hz2 hc2 hf2); (have g2a : w.heap.size < w2.heap.size := by omega)))
    have k0 : w2.cell? ⟨w.heap.size, 0, none⟩ = some (.int .i64 s) := by (simp (disch := first | omega | (simp; done) | (simp; omega)) [go_sem, *]; done)
    have k1 : w2.cell? ⟨w.heap.size, 1, none⟩ = some (.int .i64 l) := by (simp (disch := first | omega | (simp; done) | (simp; omega)) [go_sem, *]; done)
    have hB : Below w.heap.size w w2 := by (repeat' first | (with_reducible exact Below.refl _ _) | (with_reducible assumption) | (with_reducible refine below_drewN ?_ _) | (with_reducible refine Below.drew ?_) | (with_reducible refine Below.alloc ?_ ?_ _) | (with_reducible refine Below.setCell ?_ ?_ _) | (with_reducible refine Below.trans ?_ (Below.mono (by assumption) ?_)) | first | omega | (simp only [World.size_alloc, World.size_setCell, World.size_drew, size_drewN]; omega) | (simp; done) | (simp; omega) | (simp only [World.size_alloc, World.size_setCell, World.size_drew, size_drewN] at *; omega) | (simp at *; omega))
    clear hc1 hf1 hc2 hf2 q1 q2
    go_loopw [3, 16] (fun v i wr => ∃ k : Nat, k ≤ cMany (2 * l) s ∧ i = .int .i64 k ∧ wr.ownsRow w2.heap.size 31 3 v k (vL s l (steps (absd (2 * l) s) k)) ∧ Below w2.heap.size w2 wr)
      (fun _ i _ => cMany (2 * l) s - (intOf i).toNat)
    case atStart => exact ⟨0, Nat.zero_le _, rfl, World.ownsRow_nil _ _ _ _, Below.refl _ _⟩
    case round =>
      obtain ⟨k, hk, rfl, hown, hbel⟩ := hrel
      have hbz := hbel.size
      have r0 := (hbel.cell (p := ⟨w.heap.size, 0, none⟩) g2a).trans k0
      have r1 := (hbel.cell (p := ⟨w.heap.size, 1, none⟩) g2a).trans k1
      by_cases hlt : k < cMany (2 * l) s
      · have rk := (hbel.cell (p := ⟨g, k, none⟩) hg2).trans (hcell k hlt)
        clear hcell
        go_wp2_with (first | (at_builtin; refine wpList_append_own _ rfl _ _ 26 rfl w2.heap.size 31 i0 (.agg #[.int .i64 0, .int .i64 0, .int .i64 0]) 3 24 Try.underlying26 ihi iz0 iz1 iz2 rfl (by decide) _ _ _ rfl (hown.alloc _) ⟨wr.heap.size, 0, none⟩ 1 1 [.int .i64 s, .int .i64 l, .int .i64 (absd (2 * l) s + 2 * (k : Int))] rfl rfl ?c1 ?c2 ?c3 ?c4 ?c5 ?_))
        case c1 =>
          intro j u hj
          match j, hj with
          | 0, hj => simp at hj; subst hj; simp [Addr.add]
          | 1, hj => simp at hj; subst hj; simp [Addr.add]
          | 2, hj => simp at hj; subst hj; simp [Addr.add]
        case c2 => intro u hu; simp at hu; rcases hu with rfl | rfl | rfl <;> rfl
        case c3 => unfold maxLen; omega
        case c4 => omega
        case c5 => simp; omega
        intro v' w3 hown' hgrow _
        have hbel' : Below w2.heap.size w2 w3 := (hbel.alloc hbz _).grown hgrow (by simp; omega) (fun k hk => (hown.lt k hk).1)
        have hown2 : w3.ownsRow w2.heap.size 31 3 v' (k + 1) (vL s l (steps (absd (2 * l) s) (k + 1))) := by rw [steps_succ, vL_append]; exact hown'
        clear hown' hgrow hown hbel r0 r1 rk
        go_wp2
        go_roundw
        case rel => exact ⟨k + 1, by omega, by go_num, hown2, hbel'⟩
        case measure => simp [intOf]; omega
      · obtain rfl : k = cMany (2 * l) s := by omega
        clear hcell
        go_wp2
        go_ret
        exact ⟨_, rfl, by rw [steps_length]; exact row_mono hown (by omega), hB.trans (hbel.mono (by omega))⟩
set_option maxHeartbeats 1000000 in
theorem sLevels_any (s l : Int) (w : World) :
    Calls Try.prog 6 #[.agg #[.int .i64 s, .int .i64 l]] w fun e w' => ∃ v, e = .returned v ∧ w'.ownsRow w.heap.size 31 3 v (lvJs s l).length (vL s l (lvJs s l)) ∧ Below w.heap.size w w' := by
  obtain ⟨i0, ihi, iz0, iz1, iz2⟩ := info_parts infoL
  have hemp : ((w.alloc (.cells #[.int .i64 s, .int .i64 l] 24)).alloc (.cells #[] 31)).ownsRow w.heap.size 31 3 (.slice (some ⟨w.heap.size + 1, 0, none⟩) 0 0) ([] : List Int).length (vL s l []) := by
    have := World.ownsRow_made (base := w.heap.size) (e := 31) (size := 3) (w.alloc (.cells #[.int .i64 s, .int .i64 l] 24)) #[] 0 (by simp) (by unfold maxLen; omega) rfl
    simpa [vL] using this
  cases h1 : tvB s l
  · rw [show lvJs s l = [] by simp [lvJs, h1]]
    go_enter Try.func6, Try.ntmps6
    go_wp2_with (go_at_call 14; refine (sTermValid_any _ _ _).mono ?_; rintro e w1 ⟨rfl, hb1⟩; obtain ⟨hc1, hf1⟩ := bcell hb1; have hz1 := hb1.size; (try simp only [World.size_alloc, World.size_setCell, World.size_drew, size_drewN] at hz1 hc1 hf1); (have g1a : w.heap.size < w1.heap.size := by omega); (have g1b : w.heap.size + 1 < w1.heap.size := by omega))
    go_ret
    exact ⟨_, rfl, row_below hemp hb1, by (repeat' first | (with_reducible exact Below.refl _ _) | (with_reducible assumption) | (with_reducible refine below_drewN ?_ _) | (with_reducible refine Below.drew ?_) | (with_reducible refine Below.alloc ?_ ?_ _) | (with_reducible refine Below.setCell ?_ ?_ _) | (with_reducible refine Below.trans ?_ (Below.mono (by assumption) ?_)) | first | omega | (simp only [World.size_alloc, World.size_setCell, World.size_drew, size_drewN]; omega) | (simp; done) | (simp; omega) | (simp only [World.size_alloc, World.size_setCell, World.size_drew, size_drewN] at *; omega) | (simp at *; omega))⟩
  · obtain ⟨q1, q2, q3, q4⟩ := lvJs_yes h1
    rw [q4]
    clear q4
    have bt := tvB_true h1
    obtain ⟨m1, m2, m3, m4⟩ := cMany_bd q1 q2
    clear m3
    go_enter Try.func6, Try.ntmps6
    go_wp2_with (first | (go_at_call 14; refine (sTermValid_any _ _ _).mono ?_; rintro e w1 ⟨rfl, hb1⟩; obtain ⟨hc1, hf1⟩ := bcell hb1; have hz1 := hb1.size; (try simp only [World.size_alloc, World.size_setCell, World.size_drew, size_drewN] at hz1 hc1 hf1); (have g1a : w.heap.size < w1.heap.size := by omega); (have g1b : w.heap.size + 1 < w1.heap.size := by omega)) | (go_at_call 15; refine (sCoupled_some _ _ _ q1 q2 q3).mono ?_; rintro e w2 ⟨g, cap, rfl, hcell, hg1, hg2, hb2⟩; obtain ⟨hc2, hf2⟩ := bcell hb2; have hz2 := hb2.size; (try simp only [World.size_alloc, World.size_setCell, World.size_drew, size_drewN] at hz2 hc2 hf2); (have g2a : w.heap.size < w2.heap.size := by omega); (have g2b : w.heap.size + 1 < w2.heap.size := by omega)))
    have k0 : w2.cell? ⟨w.heap.size, 0, none⟩ = some (.int .i64 s) := by (simp (disch := first | omega | (simp; done) | (simp; omega)) [go_sem, *]; done)
    have k1 : w2.cell? ⟨w.heap.size, 1, none⟩ = some (.int .i64 l) := by (simp (disch := first | omega | (simp; done) | (simp; omega)) [go_sem, *]; done)
    have hB : Below w.heap.size w w2 := by (repeat' first | (with_reducible exact Below.refl _ _) | (with_reducible assumption) | (with_reducible refine below_drewN ?_ _) | (with_reducible refine Below.drew ?_) | (with_reducible refine Below.alloc ?_ ?_ _) | (with_reducible refine Below.setCell ?_ ?_ _) | (with_reducible refine Below.trans ?_ (Below.mono (by assumption) ?_)) | first | omega | (simp only [World.size_alloc, World.size_setCell, World.size_drew, size_drewN]; omega) | (simp; done) | (simp; omega) | (simp only [World.size_alloc, World.size_setCell, World.size_drew, size_drewN] at *; omega) | (simp at *; omega))
    clear hc1 hf1 hc2 hf2 q1 q2
    go_loopw [3, 5] (fun v i wr => ∃ k : Nat, k ≤ cMany (2 * l) s ∧ i = .int .i64 k ∧ wr.ownsRow w.heap.size 31 3 v k (vL s l (steps (absd (2 * l) s) k)) ∧ Grow (w.heap.size + 1) w2 wr v)
      (fun _ i _ => cMany (2 * l) s - (intOf i).toNat)
    case atStart => exact ⟨0, Nat.zero_le _, rfl, row_below (row_below hemp hb1) hb2, Grow.start _ _ _ _⟩
    case round =>
      obtain ⟨k, hk, rfl, hown, hbel⟩ := hrel
      have hbz := hbel.grown.size
      have r0 := (hbel.cell (b := w.heap.size) (o := 0) g2a (by omega)).trans k0
      have r1 := (hbel.cell (b := w.heap.size) (o := 1) g2a (by omega)).trans k1
      by_cases hlt : k < cMany (2 * l) s
      · have rk := (hbel.cell (b := g) (o := k) hg2 (by omega)).trans (hcell k hlt)
        clear hcell
        have hi0 : (0 : Int) ≤ (k : Int) := Int.natCast_nonneg _
        have hi1 : (k : Int) < ((cMany (2 * l) s : Nat) : Int) := by omega
        have ag : u3.ownBlock ≠ some w.heap.size := fun h => by have := hbel.lies _ h; omega
        have ak : u3.ownBlock ≠ some g := fun h => by have := hbel.lies _ h; omega
        go_wp2_with fail
        go_region_held3 (fun w' => w'.cell? ⟨w.heap.size, 0, none⟩ = some (.int .i64 s) ∧ w'.cell? ⟨w.heap.size, 1, none⟩ = some (.int .i64 l) ∧ w'.cell? ⟨g, k, none⟩ = some (.int .i64 (absd (2 * l) s + 2 * (k : Int))))
          (first | (simp (disch := first | omega | (simp; done) | (simp; omega)) [go_sem, *]; done) | (go_split_ands; refine ⟨?_, ?_, ?_⟩ <;> first | (rw [hgrow.cell_far _ (by simp; omega) (Ne.symm ag)]; assumption) | (rw [hgrow.cell_far _ (by simp; omega) (Ne.symm ak)]; assumption)))
          ((refine step_append_lies _ (by rfl) _ _ _ (by rfl) w.heap.size 31 i0 _ 3 24 Try.underlying26 ihi iz0 iz1 iz2 rfl (by omega) u3 k (vL s l (steps (absd (2 * l) s) k)) (by rfl) ((hown.alloc _).drew) ⟨wr.heap.size, 0, none⟩ 1 1 [.int .i64 s, .int .i64 l, .int .i64 (absd (2 * l) s + 2 * (k : Int))] (by rfl) (by rfl) (World.news_of_block (cs := #[.int .i64 s, .int .i64 l, .int .i64 (absd (2 * l) s + 2 * (k : Int))]) (t := 31) (fr := (0, 0)) (heap_alloc_new wr _)) (by simp [Value.oneCell']) (by omega) (by unfold maxLen; omega) (by omega) (by simp; omega) (wr.heap.size + 1) (by simp) ?_; intro gg cap1 w3 hown' hgrow hat hlt'))
        have hbel' : Grow (w.heap.size + 1) w2 w3 (.slice (some ⟨gg, 0, none⟩) (k + 1) cap1) := hbel.step (o := .cells #[.int .i64 s, .int .i64 l, .int .i64 (absd (2 * l) s + 2 * (k : Int))] 31) ⟨hgrow.os, hgrow.tape, hgrow.output, hgrow.size, hgrow.block⟩ (hat.imp id fun h => by omega)
        have hown2 : w3.ownsRow w.heap.size 31 3 (.slice (some ⟨gg, 0, none⟩) (k + 1) cap1) (k + 1) (vL s l (steps (absd (2 * l) s) (k + 1))) := by rw [steps_succ, vL_append]; exact hown'
        clear hown' hgrow hown hbel r0 r1 rk ag ak hat
        go_wp2
        go_roundw
        case rel => exact ⟨k + 1, by omega, by go_num, hown2, hbel'⟩
        case measure => simp [intOf]; omega
      · obtain rfl : k = cMany (2 * l) s := by omega
        clear hcell
        go_wp2
        go_ret
        exact ⟨_, rfl, by rw [steps_length]; exact hown, hB.trans (hbel.below (by omega) (by omega))⟩
theorem sLevels_some (s l : Int) (w : World) (h : 0 < (lvJs s l).length) :
    Calls Try.prog 6 #[.agg #[.int .i64 s, .int .i64 l]] w fun e w' => ∃ g cap, e = .returned (.slice (some ⟨g, 0, none⟩) (lvJs s l).length cap) ∧
      (∀ k j, (lvJs s l)[k]? = some j → w'.cell? ⟨g, k * 3, none⟩ = some (.int .i64 s) ∧ w'.cell? ⟨g, k * 3 + 1, none⟩ = some (.int .i64 l) ∧ w'.cell? ⟨g, k * 3 + 2, none⟩ = some (.int .i64 j)) ∧
      w'.ownsRow w.heap.size 31 3 (.slice (some ⟨g, 0, none⟩) (lvJs s l).length cap) (lvJs s l).length (vL s l (lvJs s l)) ∧ (∀ j, w'.frozen? ⟨g, j, none⟩ = false) ∧ w.heap.size ≤ g ∧ g < w'.heap.size ∧ Below w.heap.size w w' := by
  refine (sLevels_any s l w).mono ?_
  rintro e w' ⟨v, rfl, ho, hb⟩
  obtain ⟨g, cap, rfl, g1, g2, hc, hf⟩ := row_form ho h
  refine ⟨g, cap, rfl, fun k j hj => ?_, ho, hf, g1, g2, hb⟩
  have hk : k < (lvJs s l).length := (List.getElem?_eq_some_iff.1 hj).1
  have hv := vL_get s l _ k j hj
  exact ⟨by rw [hc _ (by omega)]; exact hv.1, by rw [hc _ (by omega)]; exact hv.2.1, by rw [hc _ (by omega)]; exact hv.2.2⟩
theorem iLevels_some (s l : Int) (w : World) (h : 0 < (lvJs s l).length) :
    Calls Try.prog 5 #[.agg #[.int .i64 s, .int .i64 l]] w fun e w' => ∃ g cap, e = .returned (.slice (some ⟨g, 0, none⟩) (lvJs s l).length cap) ∧
      (∀ k j, (lvJs s l)[k]? = some j → w'.cell? ⟨g, k * 3, none⟩ = some (.int .i64 s) ∧ w'.cell? ⟨g, k * 3 + 1, none⟩ = some (.int .i64 l) ∧ w'.cell? ⟨g, k * 3 + 2, none⟩ = some (.int .i64 j)) ∧
      w'.ownsRow w.heap.size 31 3 (.slice (some ⟨g, 0, none⟩) (lvJs s l).length cap) (lvJs s l).length (vL s l (lvJs s l)) ∧ (∀ j, w'.frozen? ⟨g, j, none⟩ = false) ∧ w.heap.size ≤ g ∧ g < w'.heap.size ∧ Below w.heap.size w w' := by
  refine (iLevels_any s l w).mono ?_
  rintro e w' ⟨v, rfl, ho, hb⟩
  obtain ⟨g, cap, rfl, g1, g2, hc, hf⟩ := row_form ho h
  refine ⟨g, cap, rfl, fun k j hj => ?_, ho, hf, g1, g2, hb⟩
  have hk : k < (lvJs s l).length := (List.getElem?_eq_some_iff.1 hj).1
  have hv := vL_get s l _ k j hj
  exact ⟨by rw [hc _ (by omega)]; exact hv.1, by rw [hc _ (by omega)]; exact hv.2.1, by rw [hc _ (by omega)]; exact hv.2.2⟩
end Go.Proofs.Ytljkjnlghcogbaa

