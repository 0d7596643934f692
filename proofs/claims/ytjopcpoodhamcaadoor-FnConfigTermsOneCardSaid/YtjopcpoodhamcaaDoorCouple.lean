/-
  The walks of SpinCoupled (impl and spec): the list of the coupled angular momenta, in new memory. Conditions: none.
-/
import Derived.Test.YtjopcpoodhamcaaDoorValid
import Derived.Handy
namespace Go.Proofs.YtjopcpoodhamcaaDoor
set_option linter.unusedSimpArgs false
set_option linter.unusedVariables false
open Go.RowKit

theorem infoI : (Tryd.prog.info? 3).map (fun i => (i.zero, i.size, i.bytes)) = some (some (.int .i64 0), 1, 8) := by kernel_rfl

set_option maxRecDepth 20000 in
set_option maxHeartbeats 1000000 in
theorem iAbs_any (a b : Int) (w : World) (ha : spB a = true) (hb : spB b = true) :
    Calls Tryd.prog 74 #[.int .i64 (a - b)] w fun e w' => e = .returned (.int .i64 (absd a b)) ∧ w = w' := by
  have := spB_true ha
  have := spB_true hb
  clear ha hb
  by_cases h : a ≤ b
  · rw [show absd a b = b - a by simp [absd, h]]
    go_enter Tryd.func74, Tryd.ntmps74
    go_wp2
    all_goals (go_ret; exact ⟨ret_int (by omega), rfl⟩)
  · rw [show absd a b = a - b by simp [absd, h]]
    go_enter Tryd.func74, Tryd.ntmps74
    go_wp2
    all_goals (go_ret; exact ⟨ret_int (by omega), rfl⟩)
set_option maxRecDepth 20000 in
set_option maxHeartbeats 1000000 in
theorem sAbs_any (a b : Int) (w : World) (ha : spB a = true) (hb : spB b = true) :
    Calls Tryd.prog 66 #[.int .i64 (a - b)] w fun e w' => e = .returned (.int .i64 (absd a b)) ∧ w = w' := by
  have := spB_true ha
  have := spB_true hb
  clear ha hb
  by_cases h : a < b
  · rw [show absd a b = b - a by simp [absd]; omega]
    go_enter Tryd.func66, Tryd.ntmps66
    go_wp2
    all_goals (go_ret; exact ⟨ret_int (by omega), rfl⟩)
  · rw [show absd a b = a - b by simp [absd]; omega]
    go_enter Tryd.func66, Tryd.ntmps66
    go_wp2
    all_goals (go_ret; exact ⟨ret_int (by omega), rfl⟩)
set_option maxRecDepth 20000 in
set_option maxHeartbeats 1000000 in
theorem iCoupled_any (a b : Int) (w : World) :
    Calls Tryd.prog 62 #[.int .i64 a, .int .i64 b] w fun e w' => ∃ v, e = .returned v ∧ w'.ownsRow w.heap.size 3 1 v (coupled a b).length (vI (coupled a b)) ∧ Below w.heap.size w w' := by
  obtain ⟨i0, ihi, iz0, iz1, iz2⟩ := info_parts infoI
  have nil : ∀ W : World, W.ownsRow w.heap.size 3 1 (.slice none 0 0) ([] : List Int).length (vI []) := fun W => World.ownsRow_nil _ _ _ _
  cases h1 : spB a
  · rw [show coupled a b = [] by simp [coupled, h1]]
    go_enter Tryd.func62, Tryd.ntmps62
    go_wp2_with (go_at_call 73; refine (iSpinValid_any _ _).mono ?_; rintro e w' ⟨rfl, rfl⟩)
    go_ret
    exact ⟨_, rfl, nil _, by (repeat' first | (with_reducible exact Below.refl _ _) | (with_reducible assumption) | (with_reducible refine below_drewN ?_ _) | (with_reducible refine Below.drew ?_) | (with_reducible refine Below.alloc ?_ ?_ _) | (with_reducible refine Below.setCell ?_ ?_ _) | (with_reducible refine Below.trans ?_ (Below.mono (by assumption) ?_)) | first | omega | (simp only [World.size_alloc, World.size_setCell, World.size_drew, size_drewN]; omega) | (simp; done) | (simp; omega) | (simp only [World.size_alloc, World.size_setCell, World.size_drew, size_drewN] at *; omega) | (simp at *; omega))⟩
  cases h2 : spB b
  · rw [show coupled a b = [] by simp [coupled, h2]]
    go_enter Tryd.func62, Tryd.ntmps62
    go_wp2_with (go_at_call 73; refine (iSpinValid_any _ _).mono ?_; rintro e w' ⟨rfl, rfl⟩)
    go_ret
    exact ⟨_, rfl, nil _, by (repeat' first | (with_reducible exact Below.refl _ _) | (with_reducible assumption) | (with_reducible refine below_drewN ?_ _) | (with_reducible refine Below.drew ?_) | (with_reducible refine Below.alloc ?_ ?_ _) | (with_reducible refine Below.setCell ?_ ?_ _) | (with_reducible refine Below.trans ?_ (Below.mono (by assumption) ?_)) | first | omega | (simp only [World.size_alloc, World.size_setCell, World.size_drew, size_drewN]; omega) | (simp; done) | (simp; omega) | (simp only [World.size_alloc, World.size_setCell, World.size_drew, size_drewN] at *; omega) | (simp at *; omega))⟩
  have ba := spB_true h1
  have bb := spB_true h2
  by_cases h3 : a + b ≤ 24
  · rw [show coupled a b = steps (absd a b) (cMany a b) by simp [coupled, h1, h2, h3]]
    obtain ⟨m1, m2, m3, m4⟩ := cMany_bd h1 h2
    have m3a : absd a b + 2 * ((cMany a b : Nat) : Int) ≤ a + b + 2 := by omega
    have m3b : a + b + 2 ≤ absd a b + 2 * ((cMany a b : Nat) : Int) := by omega
    clear m3
    go_enter Tryd.func62, Tryd.ntmps62
    go_wp2_with (first | (go_at_call 73; refine (iSpinValid_any _ _).mono ?_; rintro e w' ⟨rfl, rfl⟩) | (go_at_call 74; refine (iAbs_any _ _ _ h1 h2).mono ?_; rintro e w' ⟨rfl, rfl⟩))
    clear h1 h2
    go_loopw [5, 6] (fun v c wr => ∃ k : Nat, k ≤ cMany a b ∧ c = .int .i64 (absd a b + 2 * (k : Int)) ∧ wr.ownsRow w.heap.size 3 1 v k (vI (steps (absd a b) k)) ∧ Below w.heap.size w wr)
      (fun _ c _ => (a + b + 2 - intOf c).toNat)
    case atStart => exact ⟨0, Nat.zero_le _, by simp, World.ownsRow_nil _ _ _ _, Below.refl _ _⟩
    case round =>
      obtain ⟨k, hk, rfl, hown, hbel⟩ := hrel
      have hbz := hbel.size
      by_cases hlt : k < cMany a b
      · go_wp2_with (first | (at_builtin; refine wpList_append_own _ rfl _ _ 75 rfl w.heap.size 3 i0 (.int .i64 0) 1 8 Tryd.underlying75 ihi iz0 iz1 iz2 rfl (by decide) _ _ _ rfl (hown.alloc _) ⟨wr.heap.size, 0, none⟩ 1 1 [.int .i64 (absd a b + 2 * (k : Int))] rfl rfl ?c1 ?c2 ?c3 ?c4 ?c5 ?_))
        case c1 =>
          intro j u hj
          match j, hj with
          | 0, hj => simp at hj; subst hj; simp [Addr.add]
        case c2 => intro u hu; simp at hu; subst hu; rfl
        case c3 => unfold maxLen; omega
        case c4 => omega
        case c5 => simp; omega
        intro v' w1 hown' hgrow _
        have hbel' : Below w.heap.size w w1 := (hbel.alloc hbz _).grown hgrow (by simp; omega) (fun k hk => (hown.lt k hk).1)
        have hown2 : w1.ownsRow w.heap.size 3 1 v' (k + 1) (vI (steps (absd a b) (k + 1))) := by rw [steps_succ, vI_append]; exact hown'
        clear hown' hgrow hown hbel
        go_wp2
        go_roundw
        case rel => exact ⟨k + 1, by omega, by go_num, hown2, hbel'⟩
        case measure => simp [intOf]; omega
      · obtain rfl : k = cMany a b := by omega
        go_wp2
        go_ret
        exact ⟨_, rfl, by rw [steps_length]; exact hown, hbel⟩
  · rw [show coupled a b = [] by simp [coupled]; omega]
    go_enter Tryd.func62, Tryd.ntmps62
    go_wp2_with (go_at_call 73; refine (iSpinValid_any _ _).mono ?_; rintro e w' ⟨rfl, rfl⟩)
    go_ret
    exact ⟨_, rfl, nil _, by (repeat' first | (with_reducible exact Below.refl _ _) | (with_reducible assumption) | (with_reducible refine below_drewN ?_ _) | (with_reducible refine Below.drew ?_) | (with_reducible refine Below.alloc ?_ ?_ _) | (with_reducible refine Below.setCell ?_ ?_ _) | (with_reducible refine Below.trans ?_ (Below.mono (by assumption) ?_)) | first | omega | (simp only [World.size_alloc, World.size_setCell, World.size_drew, size_drewN]; omega) | (simp; done) | (simp; omega) | (simp only [World.size_alloc, World.size_setCell, World.size_drew, size_drewN] at *; omega) | (simp at *; omega))⟩
end Go.Proofs.YtjopcpoodhamcaaDoor
