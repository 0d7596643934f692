/-
  The walks of TermsConfig (impl and spec). Conditions: the tables of the library.
-/
import Derived.Test.YtjopcpoodhamcaaDoorCfo
import Derived.Test.YtjopcpoodhamcaaDoorSjo
import Derived.Test.YtjopcpoodhamcaaDoorTmk
namespace Go.Proofs.YtjopcpoodhamcaaDoor
set_option linter.unusedSimpArgs false
set_option linter.unusedVariables false
open Go.RowKit

theorem one_rowL {w : World} {base : Nat} (hb : base ≤ w.heap.size) (x : Tm) : RowL (w.alloc (.cells #[.int .i64 x.1, .int .i64 x.2] 31)) base (.slice (some ⟨w.heap.size, 0, none⟩) 1 1) [x] := by
  refine ⟨w.heap.size, 1, rfl, hb, by simp, fun j p hp => ?_, fun i => by simp⟩
  match j, hp with
  | 0, hp => simp at hp; subst hp; exact ⟨by simp, by simp⟩
  | j + 1, hp => simp at hp
def resT (cs : List Sh) : List Tm := (cfgT cs).getD []
theorem cfgK_400 {os : List Sh} {T : List Tm} (h : cfgK os [(0, 0)] = some T) : T.length ≤ 400 := (lstB_iff.1 (cfgK_ok ⟨rfl, by decide⟩ h).2).1
theorem resT_400 (cs : List Sh) : (resT cs).length ≤ 400 := by
  unfold resT
  cases h : cfgT cs with
  | none => simp
  | some T =>
    unfold cfgT at h
    split at h
    · exact cfgK_400 h
    · cases h
theorem termsP_16 (l n : Int) : (termsP l n).length ≤ 16 := by
  cases hv : eOk l n
  · simp [termsP, hv]
  · have h := tchk hv
    simp only [chkTm, Bool.and_eq_true, List.all_eq_true, decide_eq_true_eq] at h
    exact h.1.1.1.1.1.2
set_option maxRecDepth 20000 in
set_option maxHeartbeats 4000000 in
theorem iTcf_any (v : Value) (cs : List Sh) (w : World) (hT : Tab w) (hsz : 1 < w.heap.size) (hs : cs.length ≤ 2000000) (h : RwI w v cs) :
    Calls Tryd.prog 10 #[v] w fun e w' => ∃ v', e = .returned (.tuple #[v', .bool (cfgT cs).isSome]) ∧ RowR w' w.heap.size v' (resT cs) ∧ Below w.heap.size w w' := by
  have HI := Lib.hid h
  have HTB := Lib.hid hT
  obtain ⟨a, c, rfl⟩ := h.form
  clear h hT
  cases hv : cfgB cs
  · have HV := Lib.hid hv
    have HN := Lib.hid (show cfgT cs = none by simp [cfgT, hv])
    clear hv
    go_enter Tryd.func10, Tryd.ntmps10
    go_wp2_with fail
    refine (iCfgV_any _ cs _ (by omega) HI.out).mono ?_
    rintro e w1 ⟨rfl, hb1⟩
    rw [HV.out]
    go_wp2
    refine bodyPost_ret (v := .tuple #[.slice none 0 0, .bool false]) (by simp (disch := first | omega | (simp; done) | (simp; omega)) [results, Tryd.results10, go_sem, cell_set, *]) rfl ?_
    exact ⟨_, by rw [HN.out]; rfl, .inl ⟨rfl, by simp [resT, HN.out]⟩, hb1⟩
  · have HV := Lib.hid hv
    have HP := Lib.hid (show opnP cs = opn cs by simp [opnP, hv])
    have HK := Lib.hid (show cfgT cs = cfgK (opn cs) [(0, 0)] by simp [cfgT, hv])
    have hol := opn_len cs
    clear hv
    obtain ⟨os, hos⟩ : ∃ os, os = opn cs := ⟨_, rfl⟩
    rw [← hos] at HP HK hol
    clear hos
    go_enter Tryd.func10, Tryd.ntmps10
    go_wp2_with fail
    refine (iCfgV_any _ cs _ (by omega) HI.out).mono ?_
    rintro e w1 ⟨rfl, hb1⟩
    rw [HV.out]
    have hz1 := hb1.size
    have HI1 := Lib.hid (HI.out.below hb1)
    have HB1 := Lib.hid hb1
    clear hb1
    go_wp2_with fail
    refine (iCfgO_any _ cs _ hs (HI1.out.below (by (repeat' first | (with_reducible exact Below.refl _ _) | (with_reducible assumption) | (with_reducible refine below_drewN ?_ _) | (with_reducible refine Below.drew ?_) | (with_reducible refine Below.alloc ?_ ?_ _) | (with_reducible refine Below.setCell ?_ ?_ _) | (with_reducible refine Below.trans ?_ (Below.mono (by assumption) ?_)) | first | omega | (simp only [World.size_alloc, World.size_setCell, World.size_drew, size_drewN]; omega) | (simp; done) | (simp; omega) | (simp only [World.size_alloc, World.size_setCell, World.size_drew, size_drewN] at *; omega) | (simp at *; omega))))).mono ?_
    rintro e w2 ⟨vo, rfl, hown2, hb2⟩
    rw [HP.out] at hown2
    have hz2 := hb2.size
    simp only [World.size_alloc] at hz2
    have HO2 := Lib.hid (rwI_own hown2)
    have HR2 : Hid (RowR w2 w.heap.size (.slice (some ⟨w1.heap.size, 0, none⟩) 1 1) [(0, 0)]) := Lib.hid (.inr ((one_rowL (w := w1) hz1 (0, 0)).below hb2 (Nat.le_refl _)))
    have hk2 : Below w1.heap.size w1 w2 := by (repeat' first | (with_reducible exact Below.refl _ _) | (with_reducible assumption) | (with_reducible refine below_drewN ?_ _) | (with_reducible refine Below.drew ?_) | (with_reducible refine Below.alloc ?_ ?_ _) | (with_reducible refine Below.setCell ?_ ?_ _) | (with_reducible refine Below.trans ?_ (Below.mono (by assumption) ?_)) | first | omega | (simp only [World.size_alloc, World.size_setCell, World.size_drew, size_drewN]; omega) | (simp; done) | (simp; omega) | (simp only [World.size_alloc, World.size_setCell, World.size_drew, size_drewN] at *; omega) | (simp at *; omega))
    have HB2 := Lib.hid (HB1.out.trans (hk2.mono hz1))
    obtain ⟨ao, co, rfl⟩ := (rwI_own hown2).form
    clear hown2 hb2 hk2
    go_wp2
    go_loopw [4, 16] (fun v ii wr => ∃ (i : Nat) (T : List Tm), i ≤ os.length ∧ ii = .int .i64 i ∧ cfgK (os.take i) [(0, 0)] = some T ∧ RowR wr w.heap.size v T ∧ RwI wr (.slice ao os.length co) os ∧ Below w.heap.size w wr) (fun _ ii _ => os.length - (intOf ii).toNat)
    case atStart => exact ⟨0, [(0, 0)], Nat.zero_le _, rfl, rfl, HR2.out, HO2.out, HB2.out⟩
    case round =>
      obtain ⟨i, T, hi, rfl, hk, hrow, hro, hbel⟩ := hrel
      have i0' : (0 : Int) ≤ (i : Int) := Int.natCast_nonneg _
      have hbz := hbel.size
      have HKT := Lib.hid hk
      have HROW := Lib.hid hrow
      have HRO := Lib.hid hro
      have HBEL := Lib.hid hbel
      have hT4 := cfgK_400 hk
      clear hk hrow
      by_cases hlt : i < os.length
      · obtain ⟨ga, oa, ca', s, hva, hx, hga, r0, r1, r2⟩ := hro.get hlt
        simp only [Value.slice.injEq, true_and] at hva
        obtain ⟨rfl, rfl⟩ := hva
        have HST := Lib.hid (cfgK_take hx HKT.out)
        have i1' : (i : Int) < (os.length : Int) := by omega
        clear hx hro hbel
        by_cases hl : s.2.1 ≤ 2
        · have HL : Hid (decide (s.2.1 ≤ 2) = true) := Lib.hid (by simp [hl])
          have hl2 : ¬ 2 < s.2.1 := by omega
          have h16 := termsP_16 s.2.1 s.2.2
          go_wp2_with fail
          refine (iTerms_any s.2.1 s.2.2 _ (HTB.out.of fun j => (HBEL.out.alloc (by omega) _).cell (p := ⟨1, j, none⟩) hsz) (by simp; omega)).mono ?_
          rintro e w5 ⟨v5, rfl, hown5, hb5⟩
          obtain ⟨hc5, hf5⟩ := bcell hb5; have hz5 := hb5.size; (try simp only [World.size_alloc, World.size_setCell, World.size_drew, size_drewN] at hz5 hc5 hf5); (have g5a : wr.heap.size < w5.heap.size := by omega)
          have hk5 : Below wr.heap.size wr w5 := by (repeat' first | (with_reducible exact Below.refl _ _) | (with_reducible assumption) | (with_reducible refine below_drewN ?_ _) | (with_reducible refine Below.drew ?_) | (with_reducible refine Below.alloc ?_ ?_ _) | (with_reducible refine Below.setCell ?_ ?_ _) | (with_reducible refine Below.trans ?_ (Below.mono (by assumption) ?_)) | first | omega | (simp only [World.size_alloc, World.size_setCell, World.size_drew, size_drewN]; omega) | (simp; done) | (simp; omega) | (simp only [World.size_alloc, World.size_setCell, World.size_drew, size_drewN] at *; omega) | (simp at *; omega))
          have HB5 := Lib.hid (HBEL.out.trans (hk5.mono hbz))
          have HR5 := Lib.hid (rowI_own hown5)
          have HROW5 := Lib.hid (HROW.out.step hk5)
          have HRO5 := Lib.hid (HRO.out.below hk5)
          clear hown5 hb5 hc5 hf5 hk5 r0 r1 r2
          go_wp2_with fail
          refine (iJoin_any _ v5 T (termsP s.2.1 s.2.2) _ (by omega) (by omega) HROW5.out.inp HR5.out).mono ?_
          rintro e w6 ⟨v6, rfl, hrow6, hb6⟩
          have hz6 := hb6.size
          have HB6 := Lib.hid (HB5.out.trans (hb6.mono HB5.out.size))
          have HRO6 := Lib.hid (HRO5.out.below hb6)
          have HROW6 := Lib.hid (hrow6.mono HB5.out.size)
          clear hrow6 hb6
          cases hj : joinB T (termsP s.2.1 s.2.2)
          · have HN : Hid (cfgT cs = none) := Lib.hid (by
              rw [HK.out]
              refine cfgK_none (k := i + 1) ?_
              rw [HST.out, hj, Bool.and_false]; rfl)
            clear hj
            go_wp2
            refine bodyPost_ret (v := .tuple #[.slice none 0 0, .bool false]) (by simp (disch := first | omega | (simp; done) | (simp; omega)) [results, Tryd.results10, go_sem, cell_set, *]) rfl ?_
            exact ⟨_, by rw [HN.out]; rfl, .inl ⟨rfl, by simp [resT, HN.out]⟩, HB6.out⟩
          · have HN := Lib.hid (show cfgK (os.take (i + 1)) [(0, 0)] = some (joinP T (termsP s.2.1 s.2.2)) by rw [HST.out, hj, HL.out]; rfl)
            clear hj
            go_wp2
            go_roundw
            case rel => exact ⟨i + 1, _, hlt, by go_num, HN.out, HROW6.out, HRO6.out, HB6.out⟩
            case measure => simp [intOf]; omega
        · have hl2 : 2 < s.2.1 := by omega
          have HN : Hid (cfgT cs = none) := Lib.hid (by
            rw [HK.out]
            refine cfgK_none (k := i + 1) ?_
            rw [HST.out, show decide (s.2.1 ≤ 2) = false by simp; omega, Bool.false_and]; rfl)
          go_wp2
          refine bodyPost_ret (v := .tuple #[.slice none 0 0, .bool false]) (by simp (disch := first | omega | (simp; done) | (simp; omega)) [results, Tryd.results10, go_sem, cell_set, *]) rfl ?_
          exact ⟨_, by rw [HN.out]; rfl, .inl ⟨rfl, by simp [resT, HN.out]⟩, by have := HBEL.out; (repeat' first | (with_reducible exact Below.refl _ _) | (with_reducible assumption) | (with_reducible refine below_drewN ?_ _) | (with_reducible refine Below.drew ?_) | (with_reducible refine Below.alloc ?_ ?_ _) | (with_reducible refine Below.setCell ?_ ?_ _) | (with_reducible refine Below.trans ?_ (Below.mono (by assumption) ?_)) | first | omega | (simp only [World.size_alloc, World.size_setCell, World.size_drew, size_drewN]; omega) | (simp; done) | (simp; omega) | (simp only [World.size_alloc, World.size_setCell, World.size_drew, size_drewN] at *; omega) | (simp at *; omega))⟩
      · obtain rfl : i = os.length := by omega
        have HN : Hid (cfgT cs = some T) := Lib.hid (by
          have := HKT.out
          rw [List.take_length] at this
          rw [HK.out]; exact this)
        go_wp2
        refine bodyPost_ret (v := .tuple #[u4, .bool true]) (by simp (disch := first | omega | (simp; done) | (simp; omega)) [results, Tryd.results10, go_sem, cell_set, *]) rfl ?_
        exact ⟨_, by rw [HN.out]; rfl, by simpa [resT, HN.out] using HROW.out, hbel⟩
set_option maxRecDepth 20000 in
set_option maxHeartbeats 4000000 in
theorem sTcf_any (v : Value) (cs : List Sh) (w : World) (hs : cs.length ≤ 2000000) (h : RwI w v cs) :
    Calls Tryd.prog 11 #[v] w fun e w' => ∃ v', e = .returned (.tuple #[v', .bool (cfgT cs).isSome]) ∧ RowR w' w.heap.size v' (resT cs) ∧ Below w.heap.size w w' := by
  have HI := Lib.hid h
  obtain ⟨a, c, rfl⟩ := h.form
  clear h
  cases hv : cfgB cs
  · have HV := Lib.hid hv
    have HN := Lib.hid (show cfgT cs = none by simp [cfgT, hv])
    clear hv
    go_enter Tryd.func11, Tryd.ntmps11
    go_wp2_with fail
    refine (sCfgV_any _ cs _ (by omega) HI.out).mono ?_
    rintro e w1 ⟨rfl, hb1⟩
    rw [HV.out]
    have hz1 := hb1.size
    go_wp2
    refine bodyPost_ret (v := .tuple #[.slice (some ⟨w1.heap.size, 0, none⟩) 0 0, .bool false]) (by simp (disch := first | omega | (simp; done) | (simp; omega)) [results, Tryd.results11, go_sem, cell_set, *]) rfl ?_
    exact ⟨_, by rw [HN.out]; rfl, by simpa [resT, HN.out] using rowR_empty hz1, by (repeat' first | (with_reducible exact Below.refl _ _) | (with_reducible assumption) | (with_reducible refine below_drewN ?_ _) | (with_reducible refine Below.drew ?_) | (with_reducible refine Below.alloc ?_ ?_ _) | (with_reducible refine Below.setCell ?_ ?_ _) | (with_reducible refine Below.trans ?_ (Below.mono (by assumption) ?_)) | first | omega | (simp only [World.size_alloc, World.size_setCell, World.size_drew, size_drewN]; omega) | (simp; done) | (simp; omega) | (simp only [World.size_alloc, World.size_setCell, World.size_drew, size_drewN] at *; omega) | (simp at *; omega))⟩
  · have HV := Lib.hid hv
    have HP := Lib.hid (show opnP cs = opn cs by simp [opnP, hv])
    have HK := Lib.hid (show cfgT cs = cfgK (opn cs) [(0, 0)] by simp [cfgT, hv])
    have hol := opn_len cs
    clear hv
    obtain ⟨os, hos⟩ : ∃ os, os = opn cs := ⟨_, rfl⟩
    rw [← hos] at HP HK hol
    clear hos
    go_enter Tryd.func11, Tryd.ntmps11
    go_wp2_with fail
    refine (sCfgV_any _ cs _ (by omega) HI.out).mono ?_
    rintro e w1 ⟨rfl, hb1⟩
    rw [HV.out]
    have hz1 := hb1.size
    have HI1 := Lib.hid (HI.out.below hb1)
    have HB1 := Lib.hid hb1
    clear hb1
    go_wp2_with fail
    refine (sCfgO_any _ cs _ hs HI1.out).mono ?_
    rintro e w2 ⟨vo, rfl, hown2, hb2⟩
    rw [HP.out] at hown2
    have hz2 := hb2.size
    have hb2a : Below w2.heap.size w2 (w2.alloc (.cells #[.int .i64 0, .int .i64 0] 31)) := by (repeat' first | (with_reducible exact Below.refl _ _) | (with_reducible assumption) | (with_reducible refine below_drewN ?_ _) | (with_reducible refine Below.drew ?_) | (with_reducible refine Below.alloc ?_ ?_ _) | (with_reducible refine Below.setCell ?_ ?_ _) | (with_reducible refine Below.trans ?_ (Below.mono (by assumption) ?_)) | first | omega | (simp only [World.size_alloc, World.size_setCell, World.size_drew, size_drewN]; omega) | (simp; done) | (simp; omega) | (simp only [World.size_alloc, World.size_setCell, World.size_drew, size_drewN] at *; omega) | (simp at *; omega))
    have HO2 := Lib.hid ((rwI_own hown2).below hb2a)
    have HR2 : Hid (RowR (w2.alloc (.cells #[.int .i64 0, .int .i64 0] 31)) w.heap.size (.slice (some ⟨w2.heap.size, 0, none⟩) 1 1) [(0, 0)]) := Lib.hid (.inr (one_rowL (w := w2) (by omega) (0, 0)))
    have HB2 : Hid (Below w.heap.size w (w2.alloc (.cells #[.int .i64 0, .int .i64 0] 31))) := Lib.hid ((HB1.out.trans (hb2.mono hz1)).trans (hb2a.mono (by omega)))
    obtain ⟨ao, co, rfl⟩ := (rwI_own hown2).form
    clear hown2 hb2 hb2a
    go_wp2
    go_loopw [5, 6] (fun v ii wr => ∃ (i : Nat) (T : List Tm), i ≤ os.length ∧ ii = .int .i64 i ∧ cfgK (os.take i) [(0, 0)] = some T ∧ RowR wr w.heap.size v T ∧ RwI wr (.slice ao os.length co) os ∧ Below w.heap.size w wr) (fun _ ii _ => os.length - (intOf ii).toNat)
    case atStart => exact ⟨0, [(0, 0)], Nat.zero_le _, rfl, rfl, HR2.out, HO2.out, HB2.out⟩
    case round =>
      obtain ⟨i, T, hi, rfl, hk, hrow, hro, hbel⟩ := hrel
      have i0' : (0 : Int) ≤ (i : Int) := Int.natCast_nonneg _
      have hbz := hbel.size
      have HKT := Lib.hid hk
      have HROW := Lib.hid hrow
      have HRO := Lib.hid hro
      have HBEL := Lib.hid hbel
      have hT4 := cfgK_400 hk
      have hwz : wr.heap.size ≤ wr.heap.size := Nat.le_refl _
      clear hk hrow
      by_cases hlt : i < os.length
      · obtain ⟨ga, oa, ca', s, hva, hx, hga, r0, r1, r2⟩ := hro.get hlt
        simp only [Value.slice.injEq, true_and] at hva
        obtain ⟨rfl, rfl⟩ := hva
        have HST := Lib.hid (cfgK_take hx HKT.out)
        have i1' : (i : Int) < (os.length : Int) := by omega
        clear hx hro hbel
        by_cases hl : s.2.1 ≤ 2
        · have HL : Hid (decide (s.2.1 ≤ 2) = true) := Lib.hid (by simp [hl])
          have hl2 : ¬ 2 < s.2.1 := by omega
          have h16 := termsP_16 s.2.1 s.2.2
          have H16 := Lib.hid h16
          have KJ : Hid (∀ W v5, Below wr.heap.size wr W → W.ownsRow wr.heap.size 31 2 v5 (termsP s.2.1 s.2.2).length (vS (termsP s.2.1 s.2.2)) → Calls Tryd.prog 32 #[u5, v5] W fun e w' => ∃ v', e = .returned (.tuple #[v', .bool (joinB T (termsP s.2.1 s.2.2))]) ∧ RowR w' W.heap.size v' (joinP T (termsP s.2.1 s.2.2)) ∧ Below W.heap.size W w') := Lib.hid (fun W v5 hb hown => sJoin_any u5 v5 T (termsP s.2.1 s.2.2) W (by omega) (by omega) ((HROW.out.step hb).inp) (rowI_own hown))
          clear h16
          go_wp2
          go_region_held3 (fun w' => w'.cell? ⟨ga, oa + i * 3, none⟩ = some (.int .i64 s.1) ∧ w'.cell? ⟨ga, oa + i * 3 + 1, none⟩ = some (.int .i64 s.2.1) ∧ w'.cell? ⟨ga, oa + i * 3 + 2, none⟩ = some (.int .i64 s.2.2) ∧ wr.heap.size ≤ w'.heap.size ∧ Below wr.heap.size wr w')
            (first | (simp (disch := first | omega | (simp; done) | (simp; omega)) [go_sem, *]; done) | ((repeat' first | (with_reducible exact Below.refl _ _) | (with_reducible assumption) | (with_reducible refine below_drewN ?_ _) | (with_reducible refine Below.drew ?_) | (with_reducible refine Below.alloc ?_ ?_ _) | (with_reducible refine Below.setCell ?_ ?_ _) | (with_reducible refine Below.trans ?_ (Below.mono (by assumption) ?_)) | first | omega | (simp only [World.size_alloc, World.size_setCell, World.size_drew, size_drewN]; omega) | (simp; done) | (simp; omega) | (simp only [World.size_alloc, World.size_setCell, World.size_drew, size_drewN] at *; omega) | (simp at *; omega)); done) | ((try go_split_ands); (refine ⟨?_, ?_, ?_, ?_, ?_⟩ <;> first | omega | (simp only [World.size_alloc, World.size_setCell, World.size_drew, size_drewN]; omega) | (simp (disch := first | omega | (simp; done) | (simp; omega)) [go_sem, *]; done) | ((repeat' first | (with_reducible exact Below.refl _ _) | (with_reducible assumption) | (with_reducible refine below_drewN ?_ _) | (with_reducible refine Below.drew ?_) | (with_reducible refine Below.alloc ?_ ?_ _) | (with_reducible refine Below.setCell ?_ ?_ _) | (with_reducible refine Below.trans ?_ (Below.mono (by assumption) ?_)) | first | omega | (simp only [World.size_alloc, World.size_setCell, World.size_drew, size_drewN]; omega) | (simp; done) | (simp; omega) | (simp only [World.size_alloc, World.size_setCell, World.size_drew, size_drewN] at *; omega) | (simp at *; omega)); done))))
            (first
              | (go_at_call 33; refine (sTerms_any s.2.1 s.2.2 _).mono ?_; rintro e w5 ⟨v5, rfl, hown5, hb5⟩; obtain ⟨hc5, hf5⟩ := bcell hb5; have hz5 := hb5.size; (try simp only [World.size_alloc, World.size_setCell, World.size_drew, size_drewN] at hz5 hc5 hf5); (have HW5 := Lib.hid (row_mono (base' := wr.heap.size) hown5 (by omega))); clear hown5)
              | (go_at_call 32; refine (KJ.out _ _ (by (repeat' first | (with_reducible exact Below.refl _ _) | (with_reducible assumption) | (with_reducible refine below_drewN ?_ _) | (with_reducible refine Below.drew ?_) | (with_reducible refine Below.alloc ?_ ?_ _) | (with_reducible refine Below.setCell ?_ ?_ _) | (with_reducible refine Below.trans ?_ (Below.mono (by assumption) ?_)) | first | omega | (simp only [World.size_alloc, World.size_setCell, World.size_drew, size_drewN]; omega) | (simp; done) | (simp; omega) | (simp only [World.size_alloc, World.size_setCell, World.size_drew, size_drewN] at *; omega) | (simp at *; omega))) HW5.out).mono ?_; rintro e w6 ⟨v6, rfl, hrow6, hb6⟩; obtain ⟨hc6, hf6⟩ := bcell hb6; have hz6 := hb6.size; (try simp only [World.size_alloc, World.size_setCell, World.size_drew, size_drewN] at hz6 hc6 hf6); (have HW6 := Lib.hid hrow6); clear hrow6))
          have hk6 : Below wr.heap.size wr w6 := by (repeat' first | (with_reducible exact Below.refl _ _) | (with_reducible assumption) | (with_reducible refine below_drewN ?_ _) | (with_reducible refine Below.drew ?_) | (with_reducible refine Below.alloc ?_ ?_ _) | (with_reducible refine Below.setCell ?_ ?_ _) | (with_reducible refine Below.trans ?_ (Below.mono (by assumption) ?_)) | first | omega | (simp only [World.size_alloc, World.size_setCell, World.size_drew, size_drewN]; omega) | (simp; done) | (simp; omega) | (simp only [World.size_alloc, World.size_setCell, World.size_drew, size_drewN] at *; omega) | (simp at *; omega))
          have HB6 := Lib.hid (HBEL.out.trans (hk6.mono hbz))
          have HRO6 := Lib.hid (HRO.out.below hk6)
          have HROW6 := Lib.hid (RowR.mono HW6.out (show w.heap.size ≤ _ by omega))
          have hz6w := HB6.out.size
          clear hb5 hb6 hc5 hf5 hc6 hf6 hk6 r0 r1 r2
          cases hj : joinB T (termsP s.2.1 s.2.2)
          · have HN : Hid (cfgT cs = none) := Lib.hid (by
              rw [HK.out]
              refine cfgK_none (k := i + 1) ?_
              rw [HST.out, hj, Bool.and_false]; rfl)
            clear hj
            go_wp2
            refine bodyPost_ret (v := .tuple #[.slice (some ⟨w6.heap.size, 0, none⟩) 0 0, .bool false]) (by simp (disch := first | omega | (simp; done) | (simp; omega)) [results, Tryd.results11, go_sem, cell_set, *]) rfl ?_
            exact ⟨_, by rw [HN.out]; rfl, by simpa [resT, HN.out] using rowR_empty hz6w, by have := HB6.out; (repeat' first | (with_reducible exact Below.refl _ _) | (with_reducible assumption) | (with_reducible refine below_drewN ?_ _) | (with_reducible refine Below.drew ?_) | (with_reducible refine Below.alloc ?_ ?_ _) | (with_reducible refine Below.setCell ?_ ?_ _) | (with_reducible refine Below.trans ?_ (Below.mono (by assumption) ?_)) | first | omega | (simp only [World.size_alloc, World.size_setCell, World.size_drew, size_drewN]; omega) | (simp; done) | (simp; omega) | (simp only [World.size_alloc, World.size_setCell, World.size_drew, size_drewN] at *; omega) | (simp at *; omega))⟩
          · have HN := Lib.hid (show cfgK (os.take (i + 1)) [(0, 0)] = some (joinP T (termsP s.2.1 s.2.2)) by rw [HST.out, hj, HL.out]; rfl)
            clear hj
            go_wp2
            go_roundw
            case rel => exact ⟨i + 1, _, hlt, by go_num, HN.out, HROW6.out, HRO6.out, HB6.out⟩
            case measure => simp [intOf]; omega
        · have hl2 : 2 < s.2.1 := by omega
          have HN : Hid (cfgT cs = none) := Lib.hid (by
            rw [HK.out]
            refine cfgK_none (k := i + 1) ?_
            rw [HST.out, show decide (s.2.1 ≤ 2) = false by simp; omega, Bool.false_and]; rfl)
          go_wp2
          refine bodyPost_ret (v := .tuple #[.slice (some ⟨wr.heap.size, 0, none⟩) 0 0, .bool false]) (by simp (disch := first | omega | (simp; done) | (simp; omega)) [results, Tryd.results11, go_sem, cell_set, *]) rfl ?_
          exact ⟨_, by rw [HN.out]; rfl, by simpa [resT, HN.out] using rowR_empty hbz, by have := HBEL.out; (repeat' first | (with_reducible exact Below.refl _ _) | (with_reducible assumption) | (with_reducible refine below_drewN ?_ _) | (with_reducible refine Below.drew ?_) | (with_reducible refine Below.alloc ?_ ?_ _) | (with_reducible refine Below.setCell ?_ ?_ _) | (with_reducible refine Below.trans ?_ (Below.mono (by assumption) ?_)) | first | omega | (simp only [World.size_alloc, World.size_setCell, World.size_drew, size_drewN]; omega) | (simp; done) | (simp; omega) | (simp only [World.size_alloc, World.size_setCell, World.size_drew, size_drewN] at *; omega) | (simp at *; omega))⟩
      · obtain rfl : i = os.length := by omega
        have HN : Hid (cfgT cs = some T) := Lib.hid (by
          have := HKT.out
          rw [List.take_length] at this
          rw [HK.out]; exact this)
        go_wp2
        refine bodyPost_ret (v := .tuple #[u5, .bool true]) (by simp (disch := first | omega | (simp; done) | (simp; omega)) [results, Tryd.results11, go_sem, cell_set, *]) rfl ?_
        exact ⟨_, by rw [HN.out]; rfl, by simpa [resT, HN.out] using HROW.out, hbel⟩
end Go.Proofs.YtjopcpoodhamcaaDoor
