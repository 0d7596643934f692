/-
  The walks of ConfigOpen (impl and spec). Conditions: none.
-/
import Derived.Test.YtjopcpoodhamcaaDoorCfg
import Derived.Test.YtjopcpoodhamcaaDoorCfs
namespace Go.Proofs.YtjopcpoodhamcaaDoor
set_option linter.unusedSimpArgs false
set_option linter.unusedVariables false
open Go.RowKit

theorem opn_len (cs : List Sh) : (opn cs).length ≤ cs.length := List.length_filter_le _ _
theorem iCap_b (l : Int) (w : World) : Calls Tryd.prog 24 #[.int .i64 l] w fun e w' => e = .returned (.int .i64 (capI l)) ∧ Below w.heap.size w w' := by
  refine (iCap_any l w).mono ?_
  rintro e w' ⟨rfl, rfl⟩
  exact ⟨rfl, Below.refl _ _⟩
theorem sCap_b (l : Int) (w : World) : Calls Tryd.prog 52 #[.int .i64 l] w fun e w' => e = .returned (.int .i64 (capI l)) ∧ Below w.heap.size w w' := by
  refine (sCap_any l w).mono ?_
  rintro e w' ⟨rfl, rfl⟩
  exact ⟨rfl, Below.refl _ _⟩
set_option maxRecDepth 20000 in
set_option maxHeartbeats 2000000 in
theorem iCfgO_any (v : Value) (cs : List Sh) (w : World) (hs : cs.length ≤ 2000000) (h : RwI w v cs) :
    Calls Tryd.prog 13 #[v] w fun e w' => ∃ v', e = .returned v' ∧ w'.ownsRow w.heap.size 45 3 v' (opnP cs).length (vH (opnP cs)) ∧ Below w.heap.size w w' := by
  have HI := Lib.hid h
  obtain ⟨a, c, rfl⟩ := h.form
  clear h
  cases hv : cfgB cs
  · have HV := Lib.hid hv
    have HP := Lib.hid (show opnP cs = [] by simp [opnP, hv])
    clear hv
    go_enter Tryd.func13, Tryd.ntmps13
    go_wp2_with fail
    refine (iCfgV_any _ cs _ (by omega) HI.out).mono ?_
    rintro e w1 ⟨rfl, hb1⟩
    rw [HV.out]
    go_wp2
    go_ret
    exact ⟨_, rfl, by rw [HP.out]; exact World.ownsRow_nil _ _ _ _, hb1⟩
  · have HV := Lib.hid hv
    have HP := Lib.hid (show opnP cs = opn cs by simp [opnP, hv])
    clear hv
    go_enter Tryd.func13, Tryd.ntmps13
    go_wp2_with fail
    refine (iCfgV_any _ cs _ (by omega) HI.out).mono ?_
    rintro e w1 ⟨rfl, hb1⟩
    rw [HV.out]
    have hz1 := hb1.size
    go_wp2
    go_loopw [3, 11] (fun v ii wr => ∃ i : Nat, i ≤ cs.length ∧ ii = .int .i64 i ∧ wr.ownsRow w.heap.size 45 3 v (opn (cs.take i)).length (vH (opn (cs.take i))) ∧ Below w.heap.size w wr) (fun _ ii _ => cs.length - (intOf ii).toNat)
    case atStart => exact ⟨0, Nat.zero_le _, rfl, World.ownsRow_nil _ _ _ _, hb1⟩
    case round =>
      obtain ⟨i, hi, rfl, hown, hbel⟩ := hrel
      have i0' : (0 : Int) ≤ (i : Int) := Int.natCast_nonneg _
      have hbz := hbel.size
      have HOW := Lib.hid hown
      have HBEL := Lib.hid hbel
      have hol := opn_len (cs.take i)
      have htl := List.length_take_le i cs
      clear hown
      by_cases hlt : i < cs.length
      · obtain ⟨ga, oa, ca', s, hva, hx, hga, r0, r1, r2⟩ := (HI.out.below hbel).get hlt
        simp only [Value.slice.injEq, true_and] at hva
        obtain ⟨rfl, rfl⟩ := hva
        have HT := Lib.hid (opn_take hx)
        have i1' : (i : Int) < (cs.length : Int) := by omega
        have hll : (opn (cs.take i)).length ≤ 2000000 := by omega
        have HLL := Lib.hid hll
        clear hx hbel hol htl
        obtain ⟨y, hy⟩ : ∃ y, y = capI s.2.1 := ⟨_, rfl⟩
        have HY := Lib.hid hy
        cases ho : opnB s
        · have d0 : decide (s.2.2 < y) = false := by rw [hy]; exact ho
          have HS : Hid (opn (cs.take (i + 1)) = opn (cs.take i)) := Lib.hid (by rw [HT.out, ho]; simp)
          clear hy ho
          go_wp2
          go_region_held3 (fun w' => w'.cell? ⟨wr.heap.size, 0, none⟩ = some (.int .i64 s.1) ∧ w'.cell? ⟨wr.heap.size, 1, none⟩ = some (.int .i64 s.2.1) ∧ w'.cell? ⟨wr.heap.size, 2, none⟩ = some (.int .i64 s.2.2) ∧ wr.heap.size < w'.heap.size ∧ Below wr.heap.size wr w')
            (first | (simp (disch := first | omega | (simp; done) | (simp; omega)) [go_sem, *]; done) | ((repeat' first | (with_reducible exact Below.refl _ _) | (with_reducible assumption) | (with_reducible refine below_drewN ?_ _) | (with_reducible refine Below.drew ?_) | (with_reducible refine Below.alloc ?_ ?_ _) | (with_reducible refine Below.setCell ?_ ?_ _) | (with_reducible refine Below.trans ?_ (Below.mono (by assumption) ?_)) | first | omega | (simp only [World.size_alloc, World.size_setCell, World.size_drew, size_drewN]; omega) | (simp; done) | (simp; omega) | (simp only [World.size_alloc, World.size_setCell, World.size_drew, size_drewN] at *; omega) | (simp at *; omega)); done) | ((try go_split_ands); (refine ⟨?_, ?_, ?_, ?_, ?_⟩ <;> first | omega | (simp only [World.size_alloc, World.size_setCell, World.size_drew, size_drewN]; omega) | (simp (disch := first | omega | (simp; done) | (simp; omega)) [go_sem, *]; done) | ((repeat' first | (with_reducible exact Below.refl _ _) | (with_reducible assumption) | (with_reducible refine below_drewN ?_ _) | (with_reducible refine Below.drew ?_) | (with_reducible refine Below.alloc ?_ ?_ _) | (with_reducible refine Below.setCell ?_ ?_ _) | (with_reducible refine Below.trans ?_ (Below.mono (by assumption) ?_)) | first | omega | (simp only [World.size_alloc, World.size_setCell, World.size_drew, size_drewN]; omega) | (simp; done) | (simp; omega) | (simp only [World.size_alloc, World.size_setCell, World.size_drew, size_drewN] at *; omega) | (simp at *; omega)); done))))
            (first | (go_at_call 24; refine (iCap_b _ _).mono ?_; rintro e w5 ⟨rfl, hb5⟩; obtain ⟨hc5, hf5⟩ := bcell hb5; have hz5 := hb5.size; (try simp only [World.size_alloc, World.size_setCell, World.size_drew, size_drewN] at hz5 hc5 hf5); rw [← HY.out]))
          all_goals go_wp2
          all_goals go_roundw
          case rel => exact ⟨i + 1, hlt, by go_num, by rw [HS.out]; exact row_belowH HOW.out (by (repeat' first | (with_reducible exact Below.refl _ _) | (with_reducible assumption) | (with_reducible refine below_drewN ?_ _) | (with_reducible refine Below.drew ?_) | (with_reducible refine Below.alloc ?_ ?_ _) | (with_reducible refine Below.setCell ?_ ?_ _) | (with_reducible refine Below.trans ?_ (Below.mono (by assumption) ?_)) | first | omega | (simp only [World.size_alloc, World.size_setCell, World.size_drew, size_drewN]; omega) | (simp; done) | (simp; omega) | (simp only [World.size_alloc, World.size_setCell, World.size_drew, size_drewN] at *; omega) | (simp at *; omega))), HBEL.out.trans ((show Below wr.heap.size wr _ by (repeat' first | (with_reducible exact Below.refl _ _) | (with_reducible assumption) | (with_reducible refine below_drewN ?_ _) | (with_reducible refine Below.drew ?_) | (with_reducible refine Below.alloc ?_ ?_ _) | (with_reducible refine Below.setCell ?_ ?_ _) | (with_reducible refine Below.trans ?_ (Below.mono (by assumption) ?_)) | first | omega | (simp only [World.size_alloc, World.size_setCell, World.size_drew, size_drewN]; omega) | (simp; done) | (simp; omega) | (simp only [World.size_alloc, World.size_setCell, World.size_drew, size_drewN] at *; omega) | (simp at *; omega))).mono (by omega))⟩
          case measure => simp [intOf]; omega
        · have d0 : decide (s.2.2 < y) = true := by rw [hy]; exact ho
          have HS : Hid (opn (cs.take (i + 1)) = opn (cs.take i) ++ [s]) := Lib.hid (by rw [HT.out, ho]; simp)
          clear hy ho
          go_wp2
          go_region_held3 (fun w' => w'.cell? ⟨wr.heap.size, 0, none⟩ = some (.int .i64 s.1) ∧ w'.cell? ⟨wr.heap.size, 1, none⟩ = some (.int .i64 s.2.1) ∧ w'.cell? ⟨wr.heap.size, 2, none⟩ = some (.int .i64 s.2.2) ∧ wr.heap.size < w'.heap.size ∧ Below wr.heap.size wr w')
            (first | (simp (disch := first | omega | (simp; done) | (simp; omega)) [go_sem, *]; done) | ((repeat' first | (with_reducible exact Below.refl _ _) | (with_reducible assumption) | (with_reducible refine below_drewN ?_ _) | (with_reducible refine Below.drew ?_) | (with_reducible refine Below.alloc ?_ ?_ _) | (with_reducible refine Below.setCell ?_ ?_ _) | (with_reducible refine Below.trans ?_ (Below.mono (by assumption) ?_)) | first | omega | (simp only [World.size_alloc, World.size_setCell, World.size_drew, size_drewN]; omega) | (simp; done) | (simp; omega) | (simp only [World.size_alloc, World.size_setCell, World.size_drew, size_drewN] at *; omega) | (simp at *; omega)); done) | ((try go_split_ands); (refine ⟨?_, ?_, ?_, ?_, ?_⟩ <;> first | omega | (simp only [World.size_alloc, World.size_setCell, World.size_drew, size_drewN]; omega) | (simp (disch := first | omega | (simp; done) | (simp; omega)) [go_sem, *]; done) | ((repeat' first | (with_reducible exact Below.refl _ _) | (with_reducible assumption) | (with_reducible refine below_drewN ?_ _) | (with_reducible refine Below.drew ?_) | (with_reducible refine Below.alloc ?_ ?_ _) | (with_reducible refine Below.setCell ?_ ?_ _) | (with_reducible refine Below.trans ?_ (Below.mono (by assumption) ?_)) | first | omega | (simp only [World.size_alloc, World.size_setCell, World.size_drew, size_drewN]; omega) | (simp; done) | (simp; omega) | (simp only [World.size_alloc, World.size_setCell, World.size_drew, size_drewN] at *; omega) | (simp at *; omega)); done))))
            (first | (go_at_call 24; refine (iCap_b _ _).mono ?_; rintro e w5 ⟨rfl, hb5⟩; obtain ⟨hc5, hf5⟩ := bcell hb5; have hz5 := hb5.size; (try simp only [World.size_alloc, World.size_setCell, World.size_drew, size_drewN] at hz5 hc5 hf5); rw [← HY.out]))
          have hb6 : Below wr.heap.size wr w5 := by (repeat' first | (with_reducible exact Below.refl _ _) | (with_reducible assumption) | (with_reducible refine below_drewN ?_ _) | (with_reducible refine Below.drew ?_) | (with_reducible refine Below.alloc ?_ ?_ _) | (with_reducible refine Below.setCell ?_ ?_ _) | (with_reducible refine Below.trans ?_ (Below.mono (by assumption) ?_)) | first | omega | (simp only [World.size_alloc, World.size_setCell, World.size_drew, size_drewN]; omega) | (simp; done) | (simp; omega) | (simp only [World.size_alloc, World.size_setCell, World.size_drew, size_drewN] at *; omega) | (simp at *; omega))
          have gR : wr.heap.size < w5.heap.size := by omega
          (have p0 : w5.cell? ⟨wr.heap.size, 0, none⟩ = some (.int .i64 s.1) := by (simp (disch := first | omega | (simp; done) | (simp; omega)) [go_sem, *]; done)); (have p1 : w5.cell? ⟨wr.heap.size, 1, none⟩ = some (.int .i64 s.2.1) := by (simp (disch := first | omega | (simp; done) | (simp; omega)) [go_sem, *]; done)); (have p2 : w5.cell? ⟨wr.heap.size, 2, none⟩ = some (.int .i64 s.2.2) := by (simp (disch := first | omega | (simp; done) | (simp; omega)) [go_sem, *]; done))
          have HO5 := Lib.hid (row_belowH HOW.out hb6)
          have HB5 := Lib.hid (HBEL.out.trans (hb6.mono hbz))
          clear hb5 hc5 hf5 hb6
          go_wp2_with (first | (at_builtin; refine wph_app rfl _ _ rfl w.heap.size _ _ (opn (cs.take i)) [s] rfl (HO5.out.alloc _) rfl (one_rowH _ s) ?c1 ?c2 ?_))
          case c1 => have := HLL.out; simp; omega
          case c2 => first | omega | (simp; done) | (simp; omega)
          intro v' w9 hown' hgrow _ _
          have hz9 := hgrow.size
          simp only [World.size_alloc] at hz9
          have hB9 : Below w.heap.size w w9 := Below.grown (HB5.out.alloc (by omega) _) hgrow (by simp; omega) (fun k hk => (HO5.out.lt k hk).1)
          have HR := Lib.hid (show w9.ownsRow w.heap.size 45 3 v' (opn (cs.take (i + 1))).length (vH (opn (cs.take (i + 1)))) by rw [HS.out]; exact own_lenH hown')
          clear hown' hgrow
          go_wp2
          go_roundw
          case rel => exact ⟨i + 1, hlt, by go_num, HR.out, hB9⟩
          case measure => simp [intOf]; omega
      · obtain rfl : i = cs.length := by omega
        have hown := HOW.out
        rw [List.take_length] at hown
        have HR := Lib.hid hown
        go_wp2
        go_ret
        exact ⟨_, rfl, by rw [HP.out]; exact HR.out, hbel⟩
set_option maxRecDepth 20000 in
set_option maxHeartbeats 2000000 in
theorem sCfgO_any (v : Value) (cs : List Sh) (w : World) (hs : cs.length ≤ 2000000) (h : RwI w v cs) :
    Calls Tryd.prog 31 #[v] w fun e w' => ∃ v', e = .returned v' ∧ w'.ownsRow w.heap.size 45 3 v' (opnP cs).length (vH (opnP cs)) ∧ Below w.heap.size w w' := by
  obtain ⟨We, hWe⟩ : ∃ W, W = w.alloc (.cells #[] 45) := ⟨_, rfl⟩
  have hbe : Below w.heap.size w We := by rw [hWe]; (repeat' first | (with_reducible exact Below.refl _ _) | (with_reducible assumption) | (with_reducible refine below_drewN ?_ _) | (with_reducible refine Below.drew ?_) | (with_reducible refine Below.alloc ?_ ?_ _) | (with_reducible refine Below.setCell ?_ ?_ _) | (with_reducible refine Below.trans ?_ (Below.mono (by assumption) ?_)) | first | omega | (simp only [World.size_alloc, World.size_setCell, World.size_drew, size_drewN]; omega) | (simp; done) | (simp; omega) | (simp only [World.size_alloc, World.size_setCell, World.size_drew, size_drewN] at *; omega) | (simp at *; omega))
  have HI := Lib.hid (h.below hbe)
  have hemp : We.ownsRow w.heap.size 45 3 (.slice (some ⟨w.heap.size, 0, none⟩) 0 0) ([] : List Sh).length (vH []) := by rw [hWe]; exact emp_ownH (Nat.le_refl _)
  have HIW := Lib.hid h
  have HE := Lib.hid hemp
  have HBe := Lib.hid hbe
  have hze := hbe.size
  obtain ⟨a, c, rfl⟩ := h.form
  clear h hemp hbe
  cases hv : cfgB cs
  · have HV := Lib.hid hv
    have HP := Lib.hid (show opnP cs = [] by simp [opnP, hv])
    clear hv
    go_enter Tryd.func31, Tryd.ntmps31
    go_wp2_with fail
    rw [← hWe]
    refine (sCfgV_any _ cs _ (by omega) HI.out).mono ?_
    rintro e w1 ⟨rfl, hb1⟩
    rw [HV.out]
    have HE1 := Lib.hid (row_belowH HE.out hb1)
    go_wp2
    go_ret
    exact ⟨_, rfl, by rw [HP.out]; exact HE1.out, HBe.out.trans (hb1.mono hze)⟩
  · have HV := Lib.hid hv
    have HP := Lib.hid (show opnP cs = opn cs by simp [opnP, hv])
    clear hv
    go_enter Tryd.func31, Tryd.ntmps31
    go_wp2_with fail
    rw [← hWe]
    refine (sCfgV_any _ cs _ (by omega) HI.out).mono ?_
    rintro e w1 ⟨rfl, hb1⟩
    rw [HV.out]
    have hz1 := hb1.size
    have HE1 := Lib.hid (row_belowH HE.out hb1)
    have HB1 := Lib.hid (HBe.out.trans (hb1.mono hze))
    have HI1 := Lib.hid (HI.out.below hb1)
    clear hb1
    go_wp2
    go_loopw [3, 4] (fun v ii wr => ∃ i : Nat, i ≤ cs.length ∧ ii = .int .i64 i ∧ wr.ownsRow w.heap.size 45 3 v (opn (cs.take i)).length (vH (opn (cs.take i))) ∧ Below w.heap.size w wr ∧ RwI wr (.slice a cs.length c) cs) (fun _ ii _ => cs.length - (intOf ii).toNat)
    case atStart => exact ⟨0, Nat.zero_le _, rfl, HE1.out, HB1.out, HI1.out⟩
    case round =>
      obtain ⟨i, hi, rfl, hown, hbel, hri⟩ := hrel
      have i0' : (0 : Int) ≤ (i : Int) := Int.natCast_nonneg _
      have hbz := hbel.size
      have HOW := Lib.hid hown
      have HBEL := Lib.hid hbel
      have HRI := Lib.hid hri
      have hol := opn_len (cs.take i)
      have htl := List.length_take_le i cs
      have hwz : wr.heap.size ≤ wr.heap.size := Nat.le_refl _
      clear hown
      by_cases hlt : i < cs.length
      · obtain ⟨ga, oa, ca', s, hva, hx, hga, r0, r1, r2⟩ := hri.get hlt
        simp only [Value.slice.injEq, true_and] at hva
        obtain ⟨rfl, rfl⟩ := hva
        have HT := Lib.hid (opn_take hx)
        have i1' : (i : Int) < (cs.length : Int) := by omega
        have hll : (opn (cs.take i)).length ≤ 2000000 := by omega
        have HLL := Lib.hid hll
        clear hx hbel hol htl hri
        obtain ⟨y, hy⟩ : ∃ y, y = capI s.2.1 := ⟨_, rfl⟩
        have HY := Lib.hid hy
        cases ho : opnB s
        · have d0 : decide (s.2.2 < y) = false := by rw [hy]; exact ho
          have HS : Hid (opn (cs.take (i + 1)) = opn (cs.take i)) := Lib.hid (by rw [HT.out, ho]; simp)
          clear hy ho
          go_wp2
          go_region_held3 (fun w' => w'.cell? ⟨ga, oa + i * 3, none⟩ = some (.int .i64 s.1) ∧ w'.cell? ⟨ga, oa + i * 3 + 1, none⟩ = some (.int .i64 s.2.1) ∧ w'.cell? ⟨ga, oa + i * 3 + 2, none⟩ = some (.int .i64 s.2.2) ∧ wr.heap.size ≤ w'.heap.size ∧ Below wr.heap.size wr w')
            (first | (simp (disch := first | omega | (simp; done) | (simp; omega)) [go_sem, *]; done) | ((repeat' first | (with_reducible exact Below.refl _ _) | (with_reducible assumption) | (with_reducible refine below_drewN ?_ _) | (with_reducible refine Below.drew ?_) | (with_reducible refine Below.alloc ?_ ?_ _) | (with_reducible refine Below.setCell ?_ ?_ _) | (with_reducible refine Below.trans ?_ (Below.mono (by assumption) ?_)) | first | omega | (simp only [World.size_alloc, World.size_setCell, World.size_drew, size_drewN]; omega) | (simp; done) | (simp; omega) | (simp only [World.size_alloc, World.size_setCell, World.size_drew, size_drewN] at *; omega) | (simp at *; omega)); done) | ((try go_split_ands); (refine ⟨?_, ?_, ?_, ?_, ?_⟩ <;> first | omega | (simp only [World.size_alloc, World.size_setCell, World.size_drew, size_drewN]; omega) | (simp (disch := first | omega | (simp; done) | (simp; omega)) [go_sem, *]; done) | ((repeat' first | (with_reducible exact Below.refl _ _) | (with_reducible assumption) | (with_reducible refine below_drewN ?_ _) | (with_reducible refine Below.drew ?_) | (with_reducible refine Below.alloc ?_ ?_ _) | (with_reducible refine Below.setCell ?_ ?_ _) | (with_reducible refine Below.trans ?_ (Below.mono (by assumption) ?_)) | first | omega | (simp only [World.size_alloc, World.size_setCell, World.size_drew, size_drewN]; omega) | (simp; done) | (simp; omega) | (simp only [World.size_alloc, World.size_setCell, World.size_drew, size_drewN] at *; omega) | (simp at *; omega)); done))))
            (first | (go_at_call 52; refine (sCap_b _ _).mono ?_; rintro e w5 ⟨rfl, hb5⟩; obtain ⟨hc5, hf5⟩ := bcell hb5; have hz5 := hb5.size; (try simp only [World.size_alloc, World.size_setCell, World.size_drew, size_drewN] at hz5 hc5 hf5); rw [← HY.out]))
          have hb6 : Below wr.heap.size wr w5 := by (repeat' first | (with_reducible exact Below.refl _ _) | (with_reducible assumption) | (with_reducible refine below_drewN ?_ _) | (with_reducible refine Below.drew ?_) | (with_reducible refine Below.alloc ?_ ?_ _) | (with_reducible refine Below.setCell ?_ ?_ _) | (with_reducible refine Below.trans ?_ (Below.mono (by assumption) ?_)) | first | omega | (simp only [World.size_alloc, World.size_setCell, World.size_drew, size_drewN]; omega) | (simp; done) | (simp; omega) | (simp only [World.size_alloc, World.size_setCell, World.size_drew, size_drewN] at *; omega) | (simp at *; omega))
          have HREL := Lib.hid (show w5.ownsRow w.heap.size 45 3 _ (opn (cs.take (i + 1))).length (vH (opn (cs.take (i + 1)))) ∧ Below w.heap.size w w5 ∧ RwI w5 (.slice (some ⟨ga, oa, none⟩) cs.length c) cs from ⟨by rw [HS.out]; exact row_belowH HOW.out hb6, HBEL.out.trans (hb6.mono hbz), HRI.out.below hb6⟩)
          clear hb5 hc5 hf5 hb6
          go_wp2
          go_roundw
          case rel => exact ⟨i + 1, hlt, by go_num, HREL.out.1, HREL.out.2.1, HREL.out.2.2⟩
          case measure => simp [intOf]; omega
        · have d0 : decide (s.2.2 < y) = true := by rw [hy]; exact ho
          have HS : Hid (opn (cs.take (i + 1)) = opn (cs.take i) ++ [s]) := Lib.hid (by rw [HT.out, ho]; simp)
          clear hy ho
          go_wp2
          go_region_held3 (fun w' => w'.cell? ⟨ga, oa + i * 3, none⟩ = some (.int .i64 s.1) ∧ w'.cell? ⟨ga, oa + i * 3 + 1, none⟩ = some (.int .i64 s.2.1) ∧ w'.cell? ⟨ga, oa + i * 3 + 2, none⟩ = some (.int .i64 s.2.2) ∧ wr.heap.size ≤ w'.heap.size ∧ Below wr.heap.size wr w')
            (first | (simp (disch := first | omega | (simp; done) | (simp; omega)) [go_sem, *]; done) | ((repeat' first | (with_reducible exact Below.refl _ _) | (with_reducible assumption) | (with_reducible refine below_drewN ?_ _) | (with_reducible refine Below.drew ?_) | (with_reducible refine Below.alloc ?_ ?_ _) | (with_reducible refine Below.setCell ?_ ?_ _) | (with_reducible refine Below.trans ?_ (Below.mono (by assumption) ?_)) | first | omega | (simp only [World.size_alloc, World.size_setCell, World.size_drew, size_drewN]; omega) | (simp; done) | (simp; omega) | (simp only [World.size_alloc, World.size_setCell, World.size_drew, size_drewN] at *; omega) | (simp at *; omega)); done) | ((try go_split_ands); (refine ⟨?_, ?_, ?_, ?_, ?_⟩ <;> first | omega | (simp only [World.size_alloc, World.size_setCell, World.size_drew, size_drewN]; omega) | (simp (disch := first | omega | (simp; done) | (simp; omega)) [go_sem, *]; done) | ((repeat' first | (with_reducible exact Below.refl _ _) | (with_reducible assumption) | (with_reducible refine below_drewN ?_ _) | (with_reducible refine Below.drew ?_) | (with_reducible refine Below.alloc ?_ ?_ _) | (with_reducible refine Below.setCell ?_ ?_ _) | (with_reducible refine Below.trans ?_ (Below.mono (by assumption) ?_)) | first | omega | (simp only [World.size_alloc, World.size_setCell, World.size_drew, size_drewN]; omega) | (simp; done) | (simp; omega) | (simp only [World.size_alloc, World.size_setCell, World.size_drew, size_drewN] at *; omega) | (simp at *; omega)); done))))
            (first | (go_at_call 52; refine (sCap_b _ _).mono ?_; rintro e w5 ⟨rfl, hb5⟩; obtain ⟨hc5, hf5⟩ := bcell hb5; have hz5 := hb5.size; (try simp only [World.size_alloc, World.size_setCell, World.size_drew, size_drewN] at hz5 hc5 hf5); rw [← HY.out]))
          have hb6 : Below wr.heap.size wr w5 := by (repeat' first | (with_reducible exact Below.refl _ _) | (with_reducible assumption) | (with_reducible refine below_drewN ?_ _) | (with_reducible refine Below.drew ?_) | (with_reducible refine Below.alloc ?_ ?_ _) | (with_reducible refine Below.setCell ?_ ?_ _) | (with_reducible refine Below.trans ?_ (Below.mono (by assumption) ?_)) | first | omega | (simp only [World.size_alloc, World.size_setCell, World.size_drew, size_drewN]; omega) | (simp; done) | (simp; omega) | (simp only [World.size_alloc, World.size_setCell, World.size_drew, size_drewN] at *; omega) | (simp at *; omega))
          have r0' := (hb6.cell (p := ⟨ga, oa + i * 3, none⟩) hga).trans r0
          have r1' := (hb6.cell (p := ⟨ga, oa + i * 3 + 1, none⟩) hga).trans r1
          have r2' := (hb6.cell (p := ⟨ga, oa + i * 3 + 2, none⟩) hga).trans r2
          have HO5 := Lib.hid (row_belowH HOW.out hb6)
          have HB5 := Lib.hid (HBEL.out.trans (hb6.mono hbz))
          have HR5 := Lib.hid (HRI.out.below hb6)
          clear hb5 hc5 hf5 hb6 r0 r1 r2
          go_wp2_with (first | (at_builtin; refine wph_app rfl _ _ rfl w.heap.size _ _ (opn (cs.take i)) [s] rfl (HO5.out.alloc _) rfl (one_rowH _ s) ?c1 ?c2 ?_))
          case c1 => have := HLL.out; simp; omega
          case c2 => first | omega | (simp; done) | (simp; omega)
          intro v' w9 hown' hgrow _ _
          have hz9 := hgrow.size
          simp only [World.size_alloc] at hz9
          have hB9 : Below w.heap.size w w9 := Below.grown (HB5.out.alloc (by omega) _) hgrow (by simp; omega) (fun k hk => (HO5.out.lt k hk).1)
          have HR := Lib.hid (show w9.ownsRow w.heap.size 45 3 v' (opn (cs.take (i + 1))).length (vH (opn (cs.take (i + 1)))) by rw [HS.out]; exact own_lenH hown')
          have HIW9 := Lib.hid (HIW.out.below hB9)
          clear hown' hgrow
          go_wp2
          go_roundw
          case rel => exact ⟨i + 1, hlt, by go_num, HR.out, hB9, HIW9.out⟩
          case measure => simp [intOf]; omega
      · obtain rfl : i = cs.length := by omega
        have hown := HOW.out
        rw [List.take_length] at hown
        have HR := Lib.hid hown
        go_wp2
        go_ret
        exact ⟨_, rfl, by rw [HP.out]; exact HR.out, hbel⟩
end Go.Proofs.YtjopcpoodhamcaaDoor
