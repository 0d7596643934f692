/-
  The walks of impl.TermsWeight, impl.Choose and of the laws' inOrder. Conditions: none.
-/
import Derived.Test.YtlbmdicfoiehgaaDoorTsame
import Derived.Test.YtlbmdicfoiehgaaDoorLevel
namespace Go.Proofs.YtlbmdicfoiehgaaDoor
set_option linter.unusedSimpArgs false
set_option linter.unusedVariables false
open Go.RowKit

def twF (s l : Int) : Int := if tvB s l = true then (s + 1) * (2 * l + 1) else 0
set_option maxHeartbeats 400000 in
theorem iTermWeight_any (s l : Int) (w : World) (hv : tvB s l = true) :
    Calls Tryd.prog 41 #[.agg #[.int .i64 s, .int .i64 l]] w fun e w' => e = .returned (.int .i64 ((s + 1) * (2 * l + 1))) ∧ Below w.heap.size w w' := by
  have bt := tvB_true hv
  have hm : 0 ≤ (s + 1) * (2 * l + 1) ∧ (s + 1) * (2 * l + 1) ≤ 9 * 17 := by
    constructor
    · exact Int.mul_nonneg (by omega) (by omega)
    · exact Int.mul_le_mul (by omega) (by omega) (by omega) (by omega)
  have q1 : IntKind.i64.wrap ((s + 1) * (2 * l + 1)) = (s + 1) * (2 * l + 1) := IntWalk.i64_in _ (by omega)
  go_enter Tryd.func41, Tryd.ntmps41
  go_wp2_with (go_at_call 25; refine (iTermValid_any _ _ _).mono ?_; rintro e w1 ⟨rfl, hb1⟩; obtain ⟨hc1, hf1⟩ := bcell hb1; have hz1 := hb1.size; (try simp only [World.size_alloc, World.size_setCell, World.size_drew, size_drewN] at hz1 hc1 hf1); (have g1a : w.heap.size < w1.heap.size := by omega))
  go_ret
  exact ⟨rfl, by (repeat' first | (with_reducible exact Below.refl _ _) | (with_reducible assumption) | (with_reducible refine below_drewN ?_ _) | (with_reducible refine Below.drew ?_) | (with_reducible refine Below.alloc ?_ ?_ _) | (with_reducible refine Below.setCell ?_ ?_ _) | (with_reducible refine Below.trans ?_ (Below.mono (by assumption) ?_)) | first | omega | (simp only [World.size_alloc, World.size_setCell, World.size_drew, size_drewN]; omega) | (simp; done) | (simp; omega) | (simp only [World.size_alloc, World.size_setCell, World.size_drew, size_drewN] at *; omega) | (simp at *; omega))⟩
def wgtK (T : List (Int × Int)) (k : Nat) : Int := wgt (T.take k)
theorem wgt_app (xs ys : List (Int × Int)) : wgt (xs ++ ys) = wgt xs + wgt ys := by
  induction xs with
  | nil => simp [wgt]
  | cons p r ih => simp [wgt, ih]; omega
theorem wgtK_step {T : List (Int × Int)} {k : Nat} {p : Int × Int} (h : T[k]? = some p) : wgtK T (k + 1) = wgtK T k + (p.1 + 1) * (2 * p.2 + 1) := by
  unfold wgtK
  rw [List.take_add_one, h, wgt_app]
  simp [wgt]
theorem wgtK_bd {T : List (Int × Int)} (h : ∀ (k : Nat) (p : Int × Int), T[k]? = some p → tvB p.1 p.2 = true) : ∀ k : Nat, 0 ≤ wgtK T k ∧ wgtK T k ≤ 153 * k
  | 0 => by simp [wgtK, wgt]
  | k + 1 => by
    have ih := wgtK_bd h k
    cases e : T[k]? with
    | none =>
      have : wgtK T (k + 1) = wgtK T k := by unfold wgtK; rw [List.take_add_one, e]; simp
      omega
    | some p =>
      rw [wgtK_step e]
      have bt := tvB_true (h k p e)
      have h1 : 0 ≤ (p.1 + 1) * (2 * p.2 + 1) := Int.mul_nonneg (by omega) (by omega)
      have h2 : (p.1 + 1) * (2 * p.2 + 1) ≤ 9 * 17 := Int.mul_le_mul (by omega) (by omega) (by omega) (by omega)
      omega
set_option maxHeartbeats 800000 in
theorem iWeight_some (g c : Nat) (xs : List (Int × Int)) (w : World) (hs : xs.length ≤ 1000) (hg : g < w.heap.size) (h1 : TmAt w g xs) (hv : ∀ (k : Nat) (p : Int × Int), xs[k]? = some p → tvB p.1 p.2 = true) :
    Calls Tryd.prog 27 #[.slice (some ⟨g, 0, none⟩) xs.length c] w fun e w' => e = .returned (.int .i64 (wgt xs)) ∧ Below w.heap.size w w' := by
  have H1 := Lib.hid h1
  have HV := Lib.hid hv
  have HW := Lib.hid (show wgtK xs xs.length = wgt xs by unfold wgtK; rw [List.take_length])
  clear h1 hv
  go_enter Tryd.func27, Tryd.ntmps27
  go_wp2
  go_loopw [3, 8] (fun n i wr => ∃ k : Nat, k ≤ xs.length ∧ i = .int .i64 k ∧ n = .int .i64 (wgtK xs k) ∧ Below w.heap.size w wr) (fun _ i _ => xs.length - (intOf i).toNat)
  case atStart => exact ⟨0, Nat.zero_le _, rfl, rfl, Below.refl _ _⟩
  case round =>
    obtain ⟨k, hk, rfl, rfl, hbel⟩ := hrel
    have hbz := hbel.size
    have wb := wgtK_bd HV.out k
    by_cases hlt : k < xs.length
    · obtain ⟨p, hp⟩ : ∃ p, xs[k]? = some p := ⟨_, List.getElem?_eq_getElem hlt⟩
      obtain ⟨a0, a1⟩ := H1.out k p hp
      have r0 := (hbel.cell (p := ⟨g, k * 2, none⟩) hg).trans a0
      have r1 := (hbel.cell (p := ⟨g, k * 2 + 1, none⟩) hg).trans a1
      have ht := HV.out k p hp
      have HT := Lib.hid ht
      have bt := tvB_true ht
      have S := Lib.hid (wgtK_step hp)
      have hm : 0 ≤ (p.1 + 1) * (2 * p.2 + 1) ∧ (p.1 + 1) * (2 * p.2 + 1) ≤ 9 * 17 := by
        constructor
        · exact Int.mul_nonneg (by omega) (by omega)
        · exact Int.mul_le_mul (by omega) (by omega) (by omega) (by omega)
      obtain ⟨y, hy⟩ : ∃ y, y = (p.1 + 1) * (2 * p.2 + 1) := ⟨_, rfl⟩
      rw [← hy] at hm
      have HY := Lib.hid hy
      clear hp a0 a1 hy
      have i0 : (0 : Int) ≤ (k : Int) := Int.natCast_nonneg _
      have i1 : (k : Int) < (xs.length : Int) := by omega
      go_wp2_with (first
        | (go_at_call 25; refine (iTermValid_any _ _ _).mono ?_; rintro e w5 ⟨rfl, hb5⟩; obtain ⟨hc5, hf5⟩ := bcell hb5; have hz5 := hb5.size; (try simp only [World.size_alloc, World.size_setCell, World.size_drew, size_drewN] at hz5 hc5 hf5); (have g5a : wr.heap.size < w5.heap.size := by omega); rw [HT.out])
        | (go_at_call 41; refine (iTermWeight_any _ _ _ HT.out).mono ?_; rintro e w6 ⟨rfl, hb6⟩; obtain ⟨hc6, hf6⟩ := bcell hb6; have hz6 := hb6.size; (try simp only [World.size_alloc, World.size_setCell, World.size_drew, size_drewN] at hz6 hc6 hf6); rw [← HY.out]))
      have hB6 : Below w.heap.size w w6 := by (repeat' first | (with_reducible exact Below.refl _ _) | (with_reducible assumption) | (with_reducible refine below_drewN ?_ _) | (with_reducible refine Below.drew ?_) | (with_reducible refine Below.alloc ?_ ?_ _) | (with_reducible refine Below.setCell ?_ ?_ _) | (with_reducible refine Below.trans ?_ (Below.mono (by assumption) ?_)) | first | omega | (simp only [World.size_alloc, World.size_setCell, World.size_drew, size_drewN]; omega) | (simp; done) | (simp; omega) | (simp only [World.size_alloc, World.size_setCell, World.size_drew, size_drewN] at *; omega) | (simp at *; omega))
      go_roundw
      case rel => exact ⟨k + 1, by omega, by go_num, by rw [S.out, HY.out], hB6⟩
      case measure => simp [intOf]; omega
    · obtain rfl : k = xs.length := by omega
      go_wp2
      go_ret
      exact ⟨by have h := HW.out; simp only [h]; rfl, hbel⟩
theorem ordB_at : ∀ (xs : List (Int × Int)) (i : Nat) (a b : Int × Int), ordB xs = true → xs[i]? = some a → xs[i + 1]? = some b → b.1 < a.1 ∨ (a.1 = b.1 ∧ b.2 ≤ a.2)
  | [], i, a, b, _, h, _ => by simp at h
  | [x], 0, a, b, _, _, h => by simp at h
  | [x], i + 1, a, b, _, h, _ => by simp at h
  | x :: y :: r, 0, a, b, ho, ha, hb => by
    simp only [List.getElem?_cons_zero, Option.some.injEq] at ha
    simp only [Nat.zero_add, List.getElem?_cons_succ, List.getElem?_cons_zero, Option.some.injEq] at hb
    subst ha hb
    simp only [ordB, Bool.and_eq_true, Bool.not_eq_true', Bool.or_eq_false_iff, Bool.and_eq_false_iff, decide_eq_false_iff_not] at ho
    omega
  | x :: y :: r, i + 1, a, b, ho, ha, hb => by
    simp only [ordB, Bool.and_eq_true] at ho
    exact ordB_at (y :: r) i a b ho.2 (by simpa using ha) (by simpa using hb)
set_option maxHeartbeats 800000 in
theorem inOrder_some (g c : Nat) (xs : List (Int × Int)) (w : World) (hs : xs.length ≤ 1000) (hpos : 0 < xs.length) (hg : g < w.heap.size) (h1 : TmAt w g xs) (ho : ordB xs = true) :
    Calls Tryd.prog 26 #[.slice (some ⟨g, 0, none⟩) xs.length c] w fun e w' => e = .returned (.bool true) ∧ Below w.heap.size w w' := by
  have H1 := Lib.hid h1
  have HO := Lib.hid ho
  clear h1 ho
  go_enter Tryd.func26, Tryd.ntmps26
  go_wp2
  go_loopw [3] (fun i wr => ∃ k : Nat, k + 1 ≤ xs.length ∧ i = .int .i64 ((k : Int) + 1) ∧ Below w.heap.size w wr) (fun i _ => xs.length - (intOf i).toNat)
  case atStart => exact ⟨0, by omega, by go_num, Below.refl _ _⟩
  case round =>
    obtain ⟨k, hk, rfl, hbel⟩ := hrel
    have hbz := hbel.size
    have i0 : (0 : Int) ≤ (k : Int) := Int.natCast_nonneg _
    by_cases hlt : k + 1 < xs.length
    · obtain ⟨p, hp⟩ : ∃ p, xs[k]? = some p := ⟨_, List.getElem?_eq_getElem (by omega)⟩
      obtain ⟨q, hq⟩ : ∃ q, xs[k + 1]? = some q := ⟨_, List.getElem?_eq_getElem hlt⟩
      obtain ⟨a0, a1⟩ := H1.out k p hp
      obtain ⟨b0, b1⟩ := H1.out (k + 1) q hq
      have r0 := (hbel.cell (p := ⟨g, k * 2, none⟩) hg).trans a0
      have r1 := (hbel.cell (p := ⟨g, k * 2 + 1, none⟩) hg).trans a1
      have t0 := (hbel.cell (p := ⟨g, (k + 1) * 2, none⟩) hg).trans b0
      have t1 := (hbel.cell (p := ⟨g, (k + 1) * 2 + 1, none⟩) hg).trans b1
      have hor := ordB_at xs k p q HO.out hp hq
      clear hp hq a0 a1 b0 b1
      have i1 : (k : Int) + 1 < (xs.length : Int) := by omega
      have e1 : (k : Int) + 1 - 1 = (k : Int) := by omega
      have hgw : g < wr.heap.size := by omega
      rcases hor with h1 | ⟨h1, h2⟩
      · have f1 : decide (p.1 < q.1) = false := by first | (simp; done) | (simp; omega)
        have f2 : (p.1 == q.1) = false := by rw [beq_eq_false_iff_ne]; omega
        have f3 : decide (p.1 = q.1) = false := by first | (simp; done) | (simp; omega)
        go_wp2
        go_roundw
        case rel => exact ⟨k + 1, by omega, by go_num, by (repeat' first | (with_reducible exact Below.refl _ _) | (with_reducible assumption) | (with_reducible refine below_drewN ?_ _) | (with_reducible refine Below.drew ?_) | (with_reducible refine Below.alloc ?_ ?_ _) | (with_reducible refine Below.setCell ?_ ?_ _) | (with_reducible refine Below.trans ?_ (Below.mono (by assumption) ?_)) | first | omega | (simp only [World.size_alloc, World.size_setCell, World.size_drew, size_drewN]; omega) | (simp; done) | (simp; omega) | (simp only [World.size_alloc, World.size_setCell, World.size_drew, size_drewN] at *; omega) | (simp at *; omega))⟩
        case measure => simp [intOf]; omega
      · have f1 : decide (p.1 < q.1) = false := by first | (simp; done) | (simp; omega)
        have f2 : (p.1 == q.1) = true := by rw [beq_iff_eq]; exact h1
        have f3 : decide (p.2 < q.2) = false := by first | (simp; done) | (simp; omega)
        go_wp2
        go_roundw
        case rel => exact ⟨k + 1, by omega, by go_num, by (repeat' first | (with_reducible exact Below.refl _ _) | (with_reducible assumption) | (with_reducible refine below_drewN ?_ _) | (with_reducible refine Below.drew ?_) | (with_reducible refine Below.alloc ?_ ?_ _) | (with_reducible refine Below.setCell ?_ ?_ _) | (with_reducible refine Below.trans ?_ (Below.mono (by assumption) ?_)) | first | omega | (simp only [World.size_alloc, World.size_setCell, World.size_drew, size_drewN]; omega) | (simp; done) | (simp; omega) | (simp only [World.size_alloc, World.size_setCell, World.size_drew, size_drewN] at *; omega) | (simp at *; omega))⟩
        case measure => simp [intOf]; omega
    · have hk1 : (xs.length : Int) = (k : Int) + 1 := by omega
      go_wp2
      go_ret
      exact ⟨rfl, hbel⟩
end Go.Proofs.YtlbmdicfoiehgaaDoor
