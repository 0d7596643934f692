/-
  The walk of the law FnConfigTermsNumber. Conditions: none.
-/
import Derived.Test.YtjopcpoodhamcaaDoorDsi
import Derived.Test.YtjopcpoodhamcaaDoorHlp
import Derived.Test.YtjopcpoodhamcaaDoorTcf
import Derived.Test.YtjopcpoodhamcaaDoorHol
namespace Go.Proofs.YtjopcpoodhamcaaDoor
set_option linter.unusedSimpArgs false
set_option linter.unusedVariables false
open Go.RowKit


set_option maxRecDepth 20000 in
set_option maxHeartbeats 4000000 in
theorem walk_FnConfigTermsNumber (a : Option Addr) (len cap : Nat) (w : World) (hT : Tab w) (hsz : 1 < w.heap.size) (hb : BytesAt w a len cap) :
    Calls Tryd.prog 7 #[.slice a len cap] w fun e w' => e = .returned (.bool true) ∧ Below w.heap.size w w' := by
  by_cases hlen : 1048576 < len
  · clear hb
    go_enter Tryd.func7, Tryd.ntmps7
    go_wp2
    go_ret
    exact ⟨rfl, Below.refl _ _⟩
  have hlen' : len ≤ 1048576 := by omega
  clear hlen
  have HB := Lib.hid hb
  have HT := Lib.hid hT
  clear hb hT
  have HB0 : Hid (Below w.heap.size w w) := Lib.hid (Below.refl _ _)
  have KI : Hid (∀ W v cs, Below w.heap.size w W → cs.length ≤ 4 → RwI W v cs → Calls Tryd.prog 10 #[v] W fun e w' => ∃ v', e = .returned (.tuple #[v', .bool (cfgT cs).isSome]) ∧ RowR w' W.heap.size v' (resT cs) ∧ Below W.heap.size W w') := Lib.hid (fun W v cs hb hl h => iTcf_any v cs W (HT.out.of fun j => hb.cell (p := ⟨1, j, none⟩) hsz) (Nat.lt_of_lt_of_le hsz hb.size) (by omega) h)
  go_enter Tryd.func7, Tryd.ntmps7
  go_wp2_with fail
  refine (dSim_any a len cap _ HB.out).mono ?_
  rintro e w1 ⟨v1, cs, rfl, hr1, hS, hb1⟩
  have hk1 : Below w.heap.size w w1 := by (repeat' first | (with_reducible exact Below.refl _ _) | (with_reducible assumption) | (with_reducible refine below_drewN ?_ _) | (with_reducible refine Below.drew ?_) | (with_reducible refine Below.alloc ?_ ?_ _) | (with_reducible refine Below.setCell ?_ ?_ _) | (with_reducible refine Below.trans ?_ (Below.mono (by assumption) ?_)) | first | omega | (simp only [World.size_alloc, World.size_setCell, World.size_drew, size_drewN]; omega) | (simp; done) | (simp; omega) | (simp only [World.size_alloc, World.size_setCell, World.size_drew, size_drewN] at *; omega) | (simp at *; omega))
  have hz1 := hk1.size
  have HB1 : Hid (Below w.heap.size w w1) := Lib.hid (HB0.out.trans (hk1.mono HB0.out.size))
  have HI1_1 : Hid (RwI w1 v1 cs) := Lib.hid (hr1)
  clear hb1 hk1 hr1
  have HS := Lib.hid hS
  have hcl : cs.length ≤ 4 := hS.1
  clear hS
  go_wp2_with fail
  refine (KI.out _ _ cs HB1.out hcl HI1_1.out).mono ?_
  rintro e w2 ⟨v2, rfl, hr2, hb2⟩
  have hk2 : Below w1.heap.size w1 w2 := by (repeat' first | (with_reducible exact Below.refl _ _) | (with_reducible assumption) | (with_reducible refine below_drewN ?_ _) | (with_reducible refine Below.drew ?_) | (with_reducible refine Below.alloc ?_ ?_ _) | (with_reducible refine Below.setCell ?_ ?_ _) | (with_reducible refine Below.trans ?_ (Below.mono (by assumption) ?_)) | first | omega | (simp only [World.size_alloc, World.size_setCell, World.size_drew, size_drewN]; omega) | (simp; done) | (simp; omega) | (simp only [World.size_alloc, World.size_setCell, World.size_drew, size_drewN] at *; omega) | (simp at *; omega))
  have hz2 := hk2.size
  have HB2 : Hid (Below w.heap.size w w2) := Lib.hid (HB1.out.trans (hk2.mono HB1.out.size))
  have HI1_2 : Hid (RwI w2 v1 cs) := Lib.hid (HI1_1.out.below hk2)
  have HI2_2 : Hid (RowI w2 v2 (resT cs)) := Lib.hid (hr2.inp)
  clear hb2 hk2 HI1_1 hr2
  go_wp2_with fail
  refine (sTcf_any v1 cs _ (by omega) HI1_2.out).mono ?_
  rintro e w3 ⟨v3, rfl, hr3, hb3⟩
  have hk3 : Below w2.heap.size w2 w3 := by (repeat' first | (with_reducible exact Below.refl _ _) | (with_reducible assumption) | (with_reducible refine below_drewN ?_ _) | (with_reducible refine Below.drew ?_) | (with_reducible refine Below.alloc ?_ ?_ _) | (with_reducible refine Below.setCell ?_ ?_ _) | (with_reducible refine Below.trans ?_ (Below.mono (by assumption) ?_)) | first | omega | (simp only [World.size_alloc, World.size_setCell, World.size_drew, size_drewN]; omega) | (simp; done) | (simp; omega) | (simp only [World.size_alloc, World.size_setCell, World.size_drew, size_drewN] at *; omega) | (simp at *; omega))
  have hz3 := hk3.size
  have HB3 : Hid (Below w.heap.size w w3) := Lib.hid (HB2.out.trans (hk3.mono HB2.out.size))
  have HI1_3 : Hid (RwI w3 v1 cs) := Lib.hid (HI1_2.out.below hk3)
  have HI2_3 : Hid (RowI w3 v2 (resT cs)) := Lib.hid (HI2_2.out.below hk3)
  have HI3_3 : Hid (RowI w3 v3 (resT cs)) := Lib.hid (hr3.inp)
  clear hb3 hk3 HI1_2 HI2_2 hr3
  have hpl := resT_400 cs
  rcases hc : cfgT cs with _ | T
  · have HC := Lib.hid hc
    simp only [hc, Option.isSome_none]
    clear hc
    go_wp2_with fail
    refine (same_b v2 v3 _ _ (by omega) HI2_3.out HI3_3.out).mono ?_
    rintro e w4 ⟨rfl, hb4⟩
    have hk4 : Below w3.heap.size w3 w4 := by (repeat' first | (with_reducible exact Below.refl _ _) | (with_reducible assumption) | (with_reducible refine below_drewN ?_ _) | (with_reducible refine Below.drew ?_) | (with_reducible refine Below.alloc ?_ ?_ _) | (with_reducible refine Below.setCell ?_ ?_ _) | (with_reducible refine Below.trans ?_ (Below.mono (by assumption) ?_)) | first | omega | (simp only [World.size_alloc, World.size_setCell, World.size_drew, size_drewN]; omega) | (simp; done) | (simp; omega) | (simp only [World.size_alloc, World.size_setCell, World.size_drew, size_drewN] at *; omega) | (simp at *; omega))
    have hz4 := hk4.size
    have HB4 : Hid (Below w.heap.size w w4) := Lib.hid (HB3.out.trans (hk4.mono HB3.out.size))
    have HI1_4 : Hid (RwI w4 v1 cs) := Lib.hid (HI1_3.out.below hk4)
    have HI2_4 : Hid (RowI w4 v2 (resT cs)) := Lib.hid (HI2_3.out.below hk4)
    have HI3_4 : Hid (RowI w4 v3 (resT cs)) := Lib.hid (HI3_3.out.below hk4)
    clear hb4 hk4 HI1_3 HI2_3 HI3_3
    go_wp2_with fail
    refine (same_b v2 v3 _ _ (by omega) HI2_4.out HI3_4.out).mono ?_
    rintro e w5 ⟨rfl, hb5⟩
    have hk5 : Below w4.heap.size w4 w5 := by (repeat' first | (with_reducible exact Below.refl _ _) | (with_reducible assumption) | (with_reducible refine below_drewN ?_ _) | (with_reducible refine Below.drew ?_) | (with_reducible refine Below.alloc ?_ ?_ _) | (with_reducible refine Below.setCell ?_ ?_ _) | (with_reducible refine Below.trans ?_ (Below.mono (by assumption) ?_)) | first | omega | (simp only [World.size_alloc, World.size_setCell, World.size_drew, size_drewN]; omega) | (simp; done) | (simp; omega) | (simp only [World.size_alloc, World.size_setCell, World.size_drew, size_drewN] at *; omega) | (simp at *; omega))
    have hz5 := hk5.size
    have HB5 : Hid (Below w.heap.size w w5) := Lib.hid (HB4.out.trans (hk5.mono HB4.out.size))
    have HI1_5 : Hid (RwI w5 v1 cs) := Lib.hid (HI1_4.out.below hk5)
    have HI2_5 : Hid (RowI w5 v2 (resT cs)) := Lib.hid (HI2_4.out.below hk5)
    have HI3_5 : Hid (RowI w5 v3 (resT cs)) := Lib.hid (HI3_4.out.below hk5)
    clear hb5 hk5 HI1_4 HI2_4 HI3_4
    go_wp2
    go_ret
    exact ⟨rfl, HB5.out⟩
  have HC := Lib.hid hc
  have HV : Hid (cfgB cs = true) := Lib.hid (by cases hv : cfgB cs with | true => rfl | false => simp [cfgT, hv] at hc)
  have HP : Hid (opnP cs = opn cs) := Lib.hid (by simp [opnP, HV.out])
  have HR : Hid (resT cs = T) := Lib.hid (by simp [resT, hc])
  have holn := opn_len cs
  simp only [Option.isSome_some]
  clear hc
  go_wp2_with fail
  refine (same_b v2 v3 _ _ (by omega) HI2_3.out HI3_3.out).mono ?_
  rintro e w4 ⟨rfl, hb4⟩
  have hk4 : Below w3.heap.size w3 w4 := by (repeat' first | (with_reducible exact Below.refl _ _) | (with_reducible assumption) | (with_reducible refine below_drewN ?_ _) | (with_reducible refine Below.drew ?_) | (with_reducible refine Below.alloc ?_ ?_ _) | (with_reducible refine Below.setCell ?_ ?_ _) | (with_reducible refine Below.trans ?_ (Below.mono (by assumption) ?_)) | first | omega | (simp only [World.size_alloc, World.size_setCell, World.size_drew, size_drewN]; omega) | (simp; done) | (simp; omega) | (simp only [World.size_alloc, World.size_setCell, World.size_drew, size_drewN] at *; omega) | (simp at *; omega))
  have hz4 := hk4.size
  have HB4 : Hid (Below w.heap.size w w4) := Lib.hid (HB3.out.trans (hk4.mono HB3.out.size))
  have HI1_4 : Hid (RwI w4 v1 cs) := Lib.hid (HI1_3.out.below hk4)
  have HI2_4 : Hid (RowI w4 v2 (resT cs)) := Lib.hid (HI2_3.out.below hk4)
  have HI3_4 : Hid (RowI w4 v3 (resT cs)) := Lib.hid (HI3_3.out.below hk4)
  clear hb4 hk4 HI1_3 HI2_3 HI3_3
  clear HI3_4
  have hc0 : 0 < cs.length := (cfgB_iff.1 HV.out).2.2
  go_wp2_with (first | (at_builtin; refine wph_app rfl _ _ rfl w4.heap.size _ _ [] cs rfl (emp_ownH (Nat.le_refl _)) rfl (HI1_4.out.below (by (repeat' first | (with_reducible exact Below.refl _ _) | (with_reducible assumption) | (with_reducible refine below_drewN ?_ _) | (with_reducible refine Below.drew ?_) | (with_reducible refine Below.alloc ?_ ?_ _) | (with_reducible refine Below.setCell ?_ ?_ _) | (with_reducible refine Below.trans ?_ (Below.mono (by assumption) ?_)) | first | omega | (simp only [World.size_alloc, World.size_setCell, World.size_drew, size_drewN]; omega) | (simp; done) | (simp; omega) | (simp only [World.size_alloc, World.size_setCell, World.size_drew, size_drewN] at *; omega) | (simp at *; omega)))) ?c1 ?c2 ?_))
  case c1 => first | omega | (simp; done) | (simp; omega) | (simp at *; omega)
  case c2 => first | omega | (simp; done) | (simp; omega)
  intro vx wx hown hgrow _ _
  have hzx := hgrow.size
  simp only [World.size_alloc] at hzx
  have HBX : Hid (Below w4.heap.size w4 wx) := Lib.hid (Below.grown ((Below.refl _ _).alloc (by omega) _) hgrow (by simp) (fun k hk => ((emp_ownH (Nat.le_refl w4.heap.size)).lt k hk).1))
  replace hown : wx.ownsRow w4.heap.size 45 3 vx cs.length (vH cs) := hown
  obtain ⟨g, cg, rfl, hg0, hg1, hsh, hfz⟩ := own_rwb hown hc0
  have HSH := Lib.hid hsh
  have HFZ := Lib.hid hfz
  clear hown hgrow hsh hfz
  go_wp2
  go_loopw [9] (fun ii wr => ∃ i : Nat, i ≤ cs.length ∧ ii = .int .i64 i ∧ ShOf wr g 0 (mixL inc cs i) ∧ (∀ j, wr.frozen? ⟨g, j, none⟩ = false) ∧ g < wr.heap.size ∧ Below w4.heap.size w4 wr ∧ (∀ (j : Nat) (t : Sh), j < i → cs[j]? = some t → t.1 ≠ 7)) (fun ii _ => cs.length - (intOf ii).toNat)
  case atStart => exact ⟨0, Nat.zero_le _, rfl, by rw [mix_zero]; exact HSH.out, HFZ.out, hg1, HBX.out, fun j t h => absurd h (by omega)⟩
  case round =>
    obtain ⟨i, hi, rfl, hsh, hfz, hgw, hbel, hno⟩ := hrel
    have i0' : (0 : Int) ≤ (i : Int) := Int.natCast_nonneg _
    have hbz := hbel.size
    have HBEL := Lib.hid hbel
    have HSR := Lib.hid hsh
    have HFR := Lib.hid hfz
    have HBW : Hid (Below w.heap.size w wr) := Lib.hid (HB4.out.trans (hbel.mono HB4.out.size))
    have HNO := Lib.hid hno
    clear hno
    by_cases hlt : i < cs.length
    · obtain ⟨s, hx⟩ : ∃ s, cs[i]? = some s := ⟨cs[i], List.getElem?_eq_getElem hlt⟩
      have HX := Lib.hid hx
      obtain ⟨r0, r1, r2⟩ := hsh i s (mix_get hx)
      simp only [Nat.zero_add] at r0 r1 r2
      have hsv := (cfgB_iff.1 HV.out).1 s (List.mem_of_getElem? hx)
      have HSV := Lib.hid hsv
      have hcap := Lib.hid (shV_cap hsv)
      obtain ⟨s1, s2, s3, s4, s5, s6, s7⟩ := shV_true hsv
      have i1' : (i : Int) < (cs.length : Int) := by omega
      have f2 := hfz (i * 3)
      by_cases h7 : s.1 = 7
      · clear hx hsh hfz hbel hsv
        go_wp2_with fail
        refine (iCfgV_any v1 cs _ (by omega) (HI1_4.out.below HBEL.out)).mono ?_
        rintro e w6 ⟨rfl, hb6⟩
        rw [HV.out]
        have HB6 := Lib.hid (HBW.out.trans (hb6.mono HBW.out.size))
        clear hb6
        go_wp2
        go_ret
        exact ⟨rfl, HB6.out⟩
      · have q1 : wrap64 (s.1 + 1) = s.1 + 1 := IntWalk.wrap64_in _ (by omega)
        have e7 : (s.1 == 7) = false := by rw [beq_eq_false_iff_ne]; exact h7
        clear hx hsh hfz hbel hsv
        go_wp2
        go_roundw
        case rel => exact ⟨i + 1, hlt, by go_num, by have h := shOf_putN (u := s.1 + 1) HSR.out (mix_get HX.out); rwa [show (s.1 + 1, s.2.1, s.2.2) = inc s from rfl, mix_set HX.out] at h, fun j => by simp [HFR.out j], by simpa using hgw, HBEL.out.setCell (by simp; omega) _, fun j t hj ht => by
          by_cases e : j = i
          · subst e; rw [HX.out] at ht; simp at ht; rw [← ht]; exact h7
          · exact HNO.out j t (by omega) ht⟩
        case measure => simp [intOf]; omega
    · obtain rfl : i = cs.length := by omega
      have hn7 : ∀ s ∈ cs, s.1 ≠ 7 := fun s hs => by
        obtain ⟨j, hj, e⟩ := List.getElem_of_mem hs
        exact HNO.out j s hj (by rw [← e]; exact List.getElem?_eq_getElem hj)
      have HQ : Hid ((cfgT (cs.map inc)).isSome = true) := Lib.hid (by rw [cfgT_inc HV.out hn7, HC.out]; rfl)
      have HQR : Hid (resT (cs.map inc) = resT cs) := Lib.hid (by unfold resT; rw [cfgT_inc HV.out hn7])
      have HRX : Hid (RwI wr (.slice (some ⟨g, 0, none⟩) cs.length cg) (cs.map inc)) := Lib.hid (by rw [mix_end] at hsh; exact hsh.rwI hgw (by simp))
      have HI2_r := Lib.hid (HI2_4.out.below HBEL.out)
      clear hsh hfz hbel
      go_wp2_with fail
      refine (KI.out _ _ (cs.map inc) HBW.out (by simp; omega) HRX.out).mono ?_
      rintro e w7 ⟨v7, rfl, hr7, hb7⟩
      rw [HQ.out]
      have hz7 := hb7.size
      have HB7 := Lib.hid (HBW.out.trans (hb7.mono HBW.out.size))
      have HI7 : Hid (RowI w7 v7 (resT cs)) := Lib.hid (by have h := hr7.inp; rwa [HQR.out] at h)
      have HI2_7 := Lib.hid (HI2_r.out.below hb7)
      clear hr7 hb7
      go_wp2_with fail
      refine (same_b v7 v2 _ _ (by omega) HI7.out HI2_7.out).mono ?_
      rintro e w8 ⟨rfl, hb8⟩
      have HB8 := Lib.hid (HB7.out.trans (hb8.mono HB7.out.size))
      clear hb8
      go_wp2
      go_ret
      exact ⟨rfl, HB8.out⟩
end Go.Proofs.YtjopcpoodhamcaaDoor
