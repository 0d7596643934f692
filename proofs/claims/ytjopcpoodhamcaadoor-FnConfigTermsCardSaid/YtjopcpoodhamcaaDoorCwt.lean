/-
  The walk of impl.ConfigWeight. Conditions: none.
-/
import Derived.Test.YtjopcpoodhamcaaDoorCfo
import Derived.Test.YtjopcpoodhamcaaDoorChoose
namespace Go.Proofs.YtjopcpoodhamcaaDoor
set_option linter.unusedSimpArgs false
set_option linter.unusedVariables false
open Go.RowKit

theorem wC_append : ∀ (xs ys : List Sh), wC (xs ++ ys) = wC xs * wC ys
  | [], ys => by simp [wC]
  | x :: xs, ys => by simp only [List.cons_append, wC]; rw [wC_append xs ys, Int.mul_assoc]
theorem wC_take {cs : List Sh} {i : Nat} {s : Sh} (hs : cs[i]? = some s) : wC (cs.take (i + 1)) = wC (cs.take i) * wS s := by
  have : cs.take (i + 1) = cs.take i ++ [s] := by rw [List.take_add_one, hs]; rfl
  rw [this, wC_append]
  simp [wC]
theorem wS_fin : ((List.range 3).all fun l => (List.range 11).all fun n => !(decide (1 ≤ n ∧ n ≤ 4 * l + 2)) || (((pasc (4 * l + 2))[n]? == some (wS (0, (l : Int), (n : Int)))) && decide (1 ≤ wS (0, (l : Int), (n : Int))))) = true := by decide +kernel
theorem wS_is {s : Sh} (h0 : 0 ≤ s.2.1) (h1 : s.2.1 ≤ 2) (h2 : 1 ≤ s.2.2) (h3 : s.2.2 ≤ 4 * s.2.1 + 2) : (pasc (4 * s.2.1 + 2).toNat)[s.2.2.toNat]? = some (wS s) ∧ 1 ≤ wS s := by
  obtain ⟨k, l, n⟩ := s
  simp only at h0 h1 h2 h3 ⊢
  obtain ⟨l, rfl⟩ := Int.eq_ofNat_of_zero_le h0
  obtain ⟨n, rfl⟩ := Int.eq_ofNat_of_zero_le (show 0 ≤ n by omega)
  have := List.all_eq_true.1 (List.all_eq_true.1 wS_fin l (List.mem_range.2 (by omega))) n (List.mem_range.2 (by omega))
  have hd : decide (1 ≤ n ∧ n ≤ 4 * l + 2) = true := by simp; omega
  rw [hd] at this
  simp only [Bool.not_true, Bool.false_or, Bool.and_eq_true, beq_iff_eq, decide_eq_true_eq] at this
  have e : (4 * (l : Int) + 2).toNat = 4 * l + 2 := by omega
  rw [e, Int.toNat_natCast]
  exact this
theorem wC_pos : ∀ {cs : List Sh}, (∀ s ∈ cs, 1 ≤ wS s) → 1 ≤ wC cs
  | [], _ => by simp [wC]
  | s :: r, h => by
    have a := h s (by simp)
    have b := wC_pos (cs := r) fun t ht => h t (by simp [ht])
    simp only [wC]
    have := Int.mul_le_mul a b (by omega) (by omega)
    omega
theorem wC_take_le {cs : List Sh} (h : ∀ s ∈ cs, 1 ≤ wS s) (i : Nat) : 1 ≤ wC (cs.take i) ∧ wC (cs.take i) ≤ wC cs := by
  have a := wC_pos (cs := cs.take i) fun t ht => h t (List.mem_of_mem_take ht)
  have b := wC_pos (cs := cs.drop i) fun t ht => h t (List.mem_of_mem_drop ht)
  have e : wC cs = wC (cs.take i) * wC (cs.drop i) := by rw [← wC_append, List.take_append_drop]
  have := Int.mul_le_mul (Int.le_refl (wC (cs.take i))) b (by omega) (by omega)
  omega
set_option maxRecDepth 20000 in
set_option maxHeartbeats 2000000 in
theorem iCwt_any (v : Value) (cs : List Sh) (w : World) (hs : cs.length ≤ 1000000) (h : RwI w v cs) (hv : cfgB cs = true) (hl : ∀ s ∈ cs, s.2.1 ≤ 2) (hw : wC cs ≤ 1000000) :
    Calls Tryd.prog 15 #[v] w fun e w' => e = .returned (.int .i64 (wC cs)) ∧ Below w.heap.size w w' := by
  have HI := Lib.hid h
  have hsv : ∀ s ∈ cs, (0 ≤ s.2.1 ∧ s.2.1 ≤ 2 ∧ 1 ≤ s.2.2 ∧ s.2.2 ≤ 4 * s.2.1 + 2) := fun s hm => by
    have a := shV_true ((cfgB_iff.1 hv).1 s hm)
    exact ⟨a.2.2.1, hl s hm, a.2.2.2.2.2.1, a.2.2.2.2.2.2⟩
  have HP := Lib.hid fun i => wC_take_le (fun s hm => (wS_is (hsv s hm).1 (hsv s hm).2.1 (hsv s hm).2.2.1 (hsv s hm).2.2.2).2) i
  have HSV := Lib.hid hsv
  have HV := Lib.hid hv
  obtain ⟨a, c, rfl⟩ := h.form
  clear h hsv hv hl
  go_enter Tryd.func15, Tryd.ntmps15
  go_wp2_with fail
  refine (iCfgV_any _ cs _ (by omega) HI.out).mono ?_
  rintro e w1 ⟨rfl, hb1⟩
  rw [HV.out]
  have hz1 := hb1.size
  go_wp2
  go_loopw [3, 11] (fun v ii wr => ∃ i : Nat, i ≤ cs.length ∧ ii = .int .i64 i ∧ v = .int .i64 (wC (cs.take i)) ∧ Below w.heap.size w wr) (fun _ ii _ => cs.length - (intOf ii).toNat)
  case atStart => exact ⟨0, Nat.zero_le _, rfl, by simp [wC], hb1⟩
  case round =>
    obtain ⟨i, hi, rfl, rfl, hbel⟩ := hrel
    have i0' : (0 : Int) ≤ (i : Int) := Int.natCast_nonneg _
    have hbz := hbel.size
    have HBEL := Lib.hid hbel
    by_cases hlt : i < cs.length
    · obtain ⟨ga, oa, ca', s, hva, hx, hga, r0, r1, r2⟩ := (HI.out.below hbel).get hlt
      simp only [Value.slice.injEq, true_and] at hva
      obtain ⟨rfl, rfl⟩ := hva
      have HT := Lib.hid (wC_take hx)
      have i1' : (i : Int) < (cs.length : Int) := by omega
      obtain ⟨s0, s1, s2, s3⟩ := HSV.out s (List.mem_of_getElem? hx)
      have HW := Lib.hid (wS_is s0 s1 s2 s3).1
      have HCAP := Lib.hid (show capI s.2.1 = 4 * s.2.1 + 2 by unfold capI; rw [if_pos (by omega)])
      obtain ⟨y, hy⟩ : ∃ y, y = wC (cs.take i) := ⟨_, rfl⟩
      obtain ⟨z, hz⟩ : ∃ z, z = wC (cs.take (i + 1)) := ⟨_, rfl⟩
      have hz2 : z ≤ 1000000 := by have := (HP.out (i + 1)).2; omega
      have hz0 : 1 ≤ z := by have := (HP.out (i + 1)).1; omega
      have q1 : wrap64 (y * wS s) = z := by rw [hy, ← HT.out, ← hz]; exact IntWalk.wrap64_in _ (by omega)
      have Q2 : Hid (IntKind.i64.wrap (y * wS s) = z) := Lib.hid (by rw [hy, ← HT.out, ← hz]; exact IntWalk.i64_in _ (by omega))
      have eN : (((4 * s.2.1 + 2).toNat : Nat) : Int) = 4 * s.2.1 + 2 := by omega
      have en : ((s.2.2.toNat : Nat) : Int) = s.2.2 := by omega
      have hCh := fun W => iChoose_any (4 * s.2.1 + 2).toNat s.2.2.toNat (wS s) W (by omega) (by omega) HW.out
      simp only [eN, en] at hCh
      have HCh := Lib.hid hCh
      have HZ := Lib.hid hz
      rw [← hy]
      clear hx hbel hCh hz hy
      go_wp2
      go_region_held3 (fun w' => w'.cell? ⟨wr.heap.size, 0, none⟩ = some (.int .i64 s.1) ∧ w'.cell? ⟨wr.heap.size, 1, none⟩ = some (.int .i64 s.2.1) ∧ w'.cell? ⟨wr.heap.size, 2, none⟩ = some (.int .i64 s.2.2) ∧ wr.heap.size < w'.heap.size ∧ Below wr.heap.size wr w')
        (first | (simp (disch := first | omega | (simp; done) | (simp; omega)) [go_sem, *]; done) | ((repeat' first | (with_reducible exact Below.refl _ _) | (with_reducible assumption) | (with_reducible refine below_drewN ?_ _) | (with_reducible refine Below.drew ?_) | (with_reducible refine Below.alloc ?_ ?_ _) | (with_reducible refine Below.setCell ?_ ?_ _) | (with_reducible refine Below.trans ?_ (Below.mono (by assumption) ?_)) | first | omega | (simp only [World.size_alloc, World.size_setCell, World.size_drew, size_drewN]; omega) | (simp; done) | (simp; omega) | (simp only [World.size_alloc, World.size_setCell, World.size_drew, size_drewN] at *; omega) | (simp at *; omega)); done) | ((try go_split_ands); (refine ⟨?_, ?_, ?_, ?_, ?_⟩ <;> first | omega | (simp only [World.size_alloc, World.size_setCell, World.size_drew, size_drewN]; omega) | (simp (disch := first | omega | (simp; done) | (simp; omega)) [go_sem, *]; done) | ((repeat' first | (with_reducible exact Below.refl _ _) | (with_reducible assumption) | (with_reducible refine below_drewN ?_ _) | (with_reducible refine Below.drew ?_) | (with_reducible refine Below.alloc ?_ ?_ _) | (with_reducible refine Below.setCell ?_ ?_ _) | (with_reducible refine Below.trans ?_ (Below.mono (by assumption) ?_)) | first | omega | (simp only [World.size_alloc, World.size_setCell, World.size_drew, size_drewN]; omega) | (simp; done) | (simp; omega) | (simp only [World.size_alloc, World.size_setCell, World.size_drew, size_drewN] at *; omega) | (simp at *; omega)); done))))
        (first | (go_at_call 24; refine (iCap_b _ _).mono ?_; rintro e w5 ⟨rfl, hb5⟩; obtain ⟨hc5, hf5⟩ := bcell hb5; have hz5 := hb5.size; (try simp only [World.size_alloc, World.size_setCell, World.size_drew, size_drewN] at hz5 hc5 hf5); rw [HCAP.out]) | (go_at_call 36; refine (HCh.out _).mono ?_; rintro e w6 ⟨rfl, hb6⟩; obtain ⟨hc6, hf6⟩ := bcell hb6; have hz6 := hb6.size; (try simp only [World.size_alloc, World.size_setCell, World.size_drew, size_drewN] at hz6 hc6 hf6)))
      all_goals go_wp2
      all_goals go_roundw
      case rel => exact ⟨i + 1, hlt, by go_num, by rw [← HZ.out]; first | rfl | rw [Q2.out] | (rw [← Q2.out]; rfl), HBEL.out.trans ((show Below wr.heap.size wr _ by (repeat' first | (with_reducible exact Below.refl _ _) | (with_reducible assumption) | (with_reducible refine below_drewN ?_ _) | (with_reducible refine Below.drew ?_) | (with_reducible refine Below.alloc ?_ ?_ _) | (with_reducible refine Below.setCell ?_ ?_ _) | (with_reducible refine Below.trans ?_ (Below.mono (by assumption) ?_)) | first | omega | (simp only [World.size_alloc, World.size_setCell, World.size_drew, size_drewN]; omega) | (simp; done) | (simp; omega) | (simp only [World.size_alloc, World.size_setCell, World.size_drew, size_drewN] at *; omega) | (simp at *; omega))).mono (by omega))⟩
      case measure => simp [intOf]; omega
    · obtain rfl : i = cs.length := by omega
      rw [List.take_length]
      go_wp2
      go_ret
      exact ⟨rfl, hbel⟩
end Go.Proofs.YtjopcpoodhamcaaDoor
