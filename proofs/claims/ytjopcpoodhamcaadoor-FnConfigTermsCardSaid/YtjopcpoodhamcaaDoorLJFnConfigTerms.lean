/-
  The walk of the law FnConfigTerms. Conditions: none.
-/
import Derived.Test.YtjopcpoodhamcaaDoorDsi
import Derived.Test.YtjopcpoodhamcaaDoorHlp
import Derived.Test.YtjopcpoodhamcaaDoorTcf
import Derived.Test.YtjopcpoodhamcaaDoorCwt
namespace Go.Proofs.YtjopcpoodhamcaaDoor
set_option linter.unusedSimpArgs false
set_option linter.unusedVariables false
open Go.RowKit

theorem wgt_le : ∀ {T : List Tm}, allV T = true → wgt T ≤ 153 * T.length
  | [], _ => by simp [wgt]
  | p :: r, h => by
    have hp := allV_iff.1 h p (by simp)
    have ih := wgt_le (T := r) (allV_iff.2 fun x hx => allV_iff.1 h x (by simp [hx]))
    obtain ⟨a1, a2, a3, a4⟩ := tvB_true hp
    have : (p.1 + 1) * (2 * p.2 + 1) ≤ 9 * 17 := Int.mul_le_mul (show p.1 + 1 ≤ 9 by omega) (show 2 * p.2 + 1 ≤ 17 by omega) (by omega) (by omega)
    simp only [wgt, List.length_cons]
    push_cast
    omega

set_option maxRecDepth 20000 in
set_option maxHeartbeats 4000000 in
theorem walk_FnConfigTerms (a : Option Addr) (len cap : Nat) (w : World) (hT : Tab w) (hsz : 1 < w.heap.size) (hb : BytesAt w a len cap) :
    Calls Tryd.prog 4 #[.slice a len cap] w fun e w' => e = .returned (.bool true) ∧ Below w.heap.size w w' := by
  by_cases hlen : 1048576 < len
  · clear hb
    go_enter Tryd.func4, Tryd.ntmps4
    go_wp2
    go_ret
    exact ⟨rfl, Below.refl _ _⟩
  have hlen' : len ≤ 1048576 := by omega
  clear hlen
  have HB := Lib.hid hb
  have HT := Lib.hid hT
  clear hb hT
  have HB0 : Hid (Below w.heap.size w w) := Lib.hid (Below.refl _ _)
  have KI : Hid (∀ W v cs, Below w.heap.size w W → cs.length ≤ 4 → RwI W v cs → Calls Tryd.prog 10 #[v] W fun e w' => ∃ v', e = .returned (.tuple #[v', .bool (cfgT cs).isSome]) ∧ RowR w' W.heap.size v' (resT cs) ∧ Below W.heap.size W w') := Lib.hid (fun W v cs hb hl h => iTcf_any v cs W (HT.out.of fun j => hb.cell (p := ⟨1, j, none⟩) hsz) (Nat.lt_of_lt_of_le hsz hb.size) (by omega) h)
  go_enter Tryd.func4, Tryd.ntmps4
  go_wp2_with fail
  refine (dSim_any a len cap _ HB.out).mono ?_
  rintro e w1 ⟨v1, cs, rfl, hr1, hS, hb1⟩
  have hk1 : Below w.heap.size w w1 := by (repeat' first | (with_reducible exact Below.refl _ _) | (with_reducible assumption) | (with_reducible refine below_drewN ?_ _) | (with_reducible refine Below.drew ?_) | (with_reducible refine Below.alloc ?_ ?_ _) | (with_reducible refine Below.setCell ?_ ?_ _) | (with_reducible refine Below.trans ?_ (Below.mono (by assumption) ?_)) | first | omega | (simp only [World.size_alloc, World.size_setCell, World.size_drew, size_drewN]; omega) | (simp; done) | (simp; omega) | (simp only [World.size_alloc, World.size_setCell, World.size_drew, size_drewN] at *; omega) | (simp at *; omega))
  have hz1 := hk1.size
  have HB1 : Hid (Below w.heap.size w w1) := Lib.hid (HB0.out.trans (hk1.mono HB0.out.size))
  have HI1_1 : Hid (RwI w1 v1 cs) := Lib.hid (hr1)
  clear hb1 hk1 hr1
  have HS := Lib.hid hS
  have hcl : cs.length ≤ 4 := hS.1
  clear hS
  go_wp2_with fail
  refine (KI.out _ _ cs HB1.out hcl HI1_1.out).mono ?_
  rintro e w2 ⟨v2, rfl, hr2, hb2⟩
  have hk2 : Below w1.heap.size w1 w2 := by (repeat' first | (with_reducible exact Below.refl _ _) | (with_reducible assumption) | (with_reducible refine below_drewN ?_ _) | (with_reducible refine Below.drew ?_) | (with_reducible refine Below.alloc ?_ ?_ _) | (with_reducible refine Below.setCell ?_ ?_ _) | (with_reducible refine Below.trans ?_ (Below.mono (by assumption) ?_)) | first | omega | (simp only [World.size_alloc, World.size_setCell, World.size_drew, size_drewN]; omega) | (simp; done) | (simp; omega) | (simp only [World.size_alloc, World.size_setCell, World.size_drew, size_drewN] at *; omega) | (simp at *; omega))
  have hz2 := hk2.size
  have HB2 : Hid (Below w.heap.size w w2) := Lib.hid (HB1.out.trans (hk2.mono HB1.out.size))
  have HI1_2 : Hid (RwI w2 v1 cs) := Lib.hid (HI1_1.out.below hk2)
  have HI2_2 : Hid (RowI w2 v2 (resT cs)) := Lib.hid (hr2.inp)
  clear hb2 hk2 HI1_1 hr2
  go_wp2_with fail
  refine (sTcf_any v1 cs _ (by omega) HI1_2.out).mono ?_
  rintro e w3 ⟨v3, rfl, hr3, hb3⟩
  have hk3 : Below w2.heap.size w2 w3 := by (repeat' first | (with_reducible exact Below.refl _ _) | (with_reducible assumption) | (with_reducible refine below_drewN ?_ _) | (with_reducible refine Below.drew ?_) | (with_reducible refine Below.alloc ?_ ?_ _) | (with_reducible refine Below.setCell ?_ ?_ _) | (with_reducible refine Below.trans ?_ (Below.mono (by assumption) ?_)) | first | omega | (simp only [World.size_alloc, World.size_setCell, World.size_drew, size_drewN]; omega) | (simp; done) | (simp; omega) | (simp only [World.size_alloc, World.size_setCell, World.size_drew, size_drewN] at *; omega) | (simp at *; omega))
  have hz3 := hk3.size
  have HB3 : Hid (Below w.heap.size w w3) := Lib.hid (HB2.out.trans (hk3.mono HB2.out.size))
  have HI1_3 : Hid (RwI w3 v1 cs) := Lib.hid (HI1_2.out.below hk3)
  have HI2_3 : Hid (RowI w3 v2 (resT cs)) := Lib.hid (HI2_2.out.below hk3)
  have HI3_3 : Hid (RowI w3 v3 (resT cs)) := Lib.hid (hr3.inp)
  clear hb3 hk3 HI1_2 HI2_2 hr3
  have hpl := resT_400 cs
  rcases hc : cfgT cs with _ | T
  · have HC := Lib.hid hc
    simp only [hc, Option.isSome_none]
    clear hc
    go_wp2_with fail
    refine (same_b v2 v3 _ _ (by omega) HI2_3.out HI3_3.out).mono ?_
    rintro e w4 ⟨rfl, hb4⟩
    have hk4 : Below w3.heap.size w3 w4 := by (repeat' first | (with_reducible exact Below.refl _ _) | (with_reducible assumption) | (with_reducible refine below_drewN ?_ _) | (with_reducible refine Below.drew ?_) | (with_reducible refine Below.alloc ?_ ?_ _) | (with_reducible refine Below.setCell ?_ ?_ _) | (with_reducible refine Below.trans ?_ (Below.mono (by assumption) ?_)) | first | omega | (simp only [World.size_alloc, World.size_setCell, World.size_drew, size_drewN]; omega) | (simp; done) | (simp; omega) | (simp only [World.size_alloc, World.size_setCell, World.size_drew, size_drewN] at *; omega) | (simp at *; omega))
    have hz4 := hk4.size
    have HB4 : Hid (Below w.heap.size w w4) := Lib.hid (HB3.out.trans (hk4.mono HB3.out.size))
    have HI1_4 : Hid (RwI w4 v1 cs) := Lib.hid (HI1_3.out.below hk4)
    have HI2_4 : Hid (RowI w4 v2 (resT cs)) := Lib.hid (HI2_3.out.below hk4)
    have HI3_4 : Hid (RowI w4 v3 (resT cs)) := Lib.hid (HI3_3.out.below hk4)
    clear hb4 hk4 HI1_3 HI2_3 HI3_3
    go_wp2_with fail
    refine (same_b v2 v3 _ _ (by omega) HI2_4.out HI3_4.out).mono ?_
    rintro e w5 ⟨rfl, hb5⟩
    have hk5 : Below w4.heap.size w4 w5 := by (repeat' first | (with_reducible exact Below.refl _ _) | (with_reducible assumption) | (with_reducible refine below_drewN ?_ _) | (with_reducible refine Below.drew ?_) | (with_reducible refine Below.alloc ?_ ?_ _) | (with_reducible refine Below.setCell ?_ ?_ _) | (with_reducible refine Below.trans ?_ (Below.mono (by assumption) ?_)) | first | omega | (simp only [World.size_alloc, World.size_setCell, World.size_drew, size_drewN]; omega) | (simp; done) | (simp; omega) | (simp only [World.size_alloc, World.size_setCell, World.size_drew, size_drewN] at *; omega) | (simp at *; omega))
    have hz5 := hk5.size
    have HB5 : Hid (Below w.heap.size w w5) := Lib.hid (HB4.out.trans (hk5.mono HB4.out.size))
    have HI1_5 : Hid (RwI w5 v1 cs) := Lib.hid (HI1_4.out.below hk5)
    have HI2_5 : Hid (RowI w5 v2 (resT cs)) := Lib.hid (HI2_4.out.below hk5)
    have HI3_5 : Hid (RowI w5 v3 (resT cs)) := Lib.hid (HI3_4.out.below hk5)
    clear hb5 hk5 HI1_4 HI2_4 HI3_4
    go_wp2
    go_ret
    exact ⟨rfl, HB5.out⟩
  have HC := Lib.hid hc
  have HV : Hid (cfgB cs = true) := Lib.hid (by cases hv : cfgB cs with | true => rfl | false => simp [cfgT, hv] at hc)
  have HP : Hid (opnP cs = opn cs) := Lib.hid (by simp [opnP, HV.out])
  have HR : Hid (resT cs = T) := Lib.hid (by simp [resT, hc])
  have holn := opn_len cs
  simp only [Option.isSome_some]
  clear hc
  go_wp2_with fail
  refine (same_b v2 v3 _ _ (by omega) HI2_3.out HI3_3.out).mono ?_
  rintro e w4 ⟨rfl, hb4⟩
  have hk4 : Below w3.heap.size w3 w4 := by (repeat' first | (with_reducible exact Below.refl _ _) | (with_reducible assumption) | (with_reducible refine below_drewN ?_ _) | (with_reducible refine Below.drew ?_) | (with_reducible refine Below.alloc ?_ ?_ _) | (with_reducible refine Below.setCell ?_ ?_ _) | (with_reducible refine Below.trans ?_ (Below.mono (by assumption) ?_)) | first | omega | (simp only [World.size_alloc, World.size_setCell, World.size_drew, size_drewN]; omega) | (simp; done) | (simp; omega) | (simp only [World.size_alloc, World.size_setCell, World.size_drew, size_drewN] at *; omega) | (simp at *; omega))
  have hz4 := hk4.size
  have HB4 : Hid (Below w.heap.size w w4) := Lib.hid (HB3.out.trans (hk4.mono HB3.out.size))
  have HI1_4 : Hid (RwI w4 v1 cs) := Lib.hid (HI1_3.out.below hk4)
  have HI2_4 : Hid (RowI w4 v2 (resT cs)) := Lib.hid (HI2_3.out.below hk4)
  have HI3_4 : Hid (RowI w4 v3 (resT cs)) := Lib.hid (HI3_3.out.below hk4)
  clear hb4 hk4 HI1_3 HI2_3 HI3_3
  clear HI3_4
  have hK : ordB T = true ∧ lstB T = true := by
    have h := HC.out
    unfold cfgT at h
    rw [if_pos HV.out] at h
    exact cfgK_ok ⟨rfl, by decide⟩ h
  obtain ⟨hl400, hallV⟩ := lstB_iff.1 hK.2
  obtain ⟨hW, hL2⟩ := cfgT_wgt HV.out HC.out
  have hwM : wgtM T = wC cs := by rw [← hW]; unfold wgtM; rw [hallV]; rfl
  have hw1 : wC cs ≤ 1000000 := by have := wgt_le hallV; omega
  have hL : ∀ s ∈ cs, s.2.1 ≤ 2 := fun s hs => by
    rcases HS.out.2 s hs with h | rfl
    · exact h
    · exact hL2 _ hs (by decide)
  have KW : Hid (∀ W, RowI W v2 (resT cs) → Calls Tryd.prog 14 #[v2] W fun e w' => e = .returned (.int .i64 (wC cs)) ∧ Below W.heap.size W w') := Lib.hid (fun W h => by
    have := iWeight_any v2 _ W (by omega) h
    rwa [HR.out, hwM] at this)
  have KC : Hid (∀ W, RwI W v1 cs → Calls Tryd.prog 15 #[v1] W fun e w' => e = .returned (.int .i64 (wC cs)) ∧ Below W.heap.size W w') := Lib.hid (fun W h => iCwt_any v1 cs W (by omega) h HV.out hL hw1)
  have KO : Hid (∀ W, RowI W v2 (resT cs) → Calls Tryd.prog 16 #[v2] W fun e w' => e = .returned (.bool true) ∧ Below W.heap.size W w') := Lib.hid (fun W h => order_any v2 _ W (by omega) h (by rw [HR.out]; exact hK.1))
  obtain ⟨P, hP⟩ : ∃ P, P = wC cs := ⟨_, rfl⟩
  rw [← hP] at KW KC
  clear hK hl400 hallV hW hL2 hwM hw1 hL hP
  have qEq : (P == P) = true := by simp
  go_wp2_with fail
  refine (KW.out _ HI2_4.out).mono ?_
  rintro e w5 ⟨rfl, hb5⟩
  have hk5 : Below w4.heap.size w4 w5 := by (repeat' first | (with_reducible exact Below.refl _ _) | (with_reducible assumption) | (with_reducible refine below_drewN ?_ _) | (with_reducible refine Below.drew ?_) | (with_reducible refine Below.alloc ?_ ?_ _) | (with_reducible refine Below.setCell ?_ ?_ _) | (with_reducible refine Below.trans ?_ (Below.mono (by assumption) ?_)) | first | omega | (simp only [World.size_alloc, World.size_setCell, World.size_drew, size_drewN]; omega) | (simp; done) | (simp; omega) | (simp only [World.size_alloc, World.size_setCell, World.size_drew, size_drewN] at *; omega) | (simp at *; omega))
  have hz5 := hk5.size
  have HB5 : Hid (Below w.heap.size w w5) := Lib.hid (HB4.out.trans (hk5.mono HB4.out.size))
  have HI1_5 : Hid (RwI w5 v1 cs) := Lib.hid (HI1_4.out.below hk5)
  have HI2_5 : Hid (RowI w5 v2 (resT cs)) := Lib.hid (HI2_4.out.below hk5)
  clear hb5 hk5 HI1_4 HI2_4
  go_wp2_with fail
  refine (KC.out _ HI1_5.out).mono ?_
  rintro e w6 ⟨rfl, hb6⟩
  have hk6 : Below w5.heap.size w5 w6 := by (repeat' first | (with_reducible exact Below.refl _ _) | (with_reducible assumption) | (with_reducible refine below_drewN ?_ _) | (with_reducible refine Below.drew ?_) | (with_reducible refine Below.alloc ?_ ?_ _) | (with_reducible refine Below.setCell ?_ ?_ _) | (with_reducible refine Below.trans ?_ (Below.mono (by assumption) ?_)) | first | omega | (simp only [World.size_alloc, World.size_setCell, World.size_drew, size_drewN]; omega) | (simp; done) | (simp; omega) | (simp only [World.size_alloc, World.size_setCell, World.size_drew, size_drewN] at *; omega) | (simp at *; omega))
  have hz6 := hk6.size
  have HB6 : Hid (Below w.heap.size w w6) := Lib.hid (HB5.out.trans (hk6.mono HB5.out.size))
  have HI1_6 : Hid (RwI w6 v1 cs) := Lib.hid (HI1_5.out.below hk6)
  have HI2_6 : Hid (RowI w6 v2 (resT cs)) := Lib.hid (HI2_5.out.below hk6)
  clear hb6 hk6 HI1_5 HI2_5
  go_wp2_with fail
  refine (KO.out _ HI2_6.out).mono ?_
  rintro e w7 ⟨rfl, hb7⟩
  have hk7 : Below w6.heap.size w6 w7 := by (repeat' first | (with_reducible exact Below.refl _ _) | (with_reducible assumption) | (with_reducible refine below_drewN ?_ _) | (with_reducible refine Below.drew ?_) | (with_reducible refine Below.alloc ?_ ?_ _) | (with_reducible refine Below.setCell ?_ ?_ _) | (with_reducible refine Below.trans ?_ (Below.mono (by assumption) ?_)) | first | omega | (simp only [World.size_alloc, World.size_setCell, World.size_drew, size_drewN]; omega) | (simp; done) | (simp; omega) | (simp only [World.size_alloc, World.size_setCell, World.size_drew, size_drewN] at *; omega) | (simp at *; omega))
  have hz7 := hk7.size
  have HB7 : Hid (Below w.heap.size w w7) := Lib.hid (HB6.out.trans (hk7.mono HB6.out.size))
  have HI1_7 : Hid (RwI w7 v1 cs) := Lib.hid (HI1_6.out.below hk7)
  have HI2_7 : Hid (RowI w7 v2 (resT cs)) := Lib.hid (HI2_6.out.below hk7)
  clear hb7 hk7 HI1_6 HI2_6
  go_wp2
  go_ret
  exact ⟨rfl, HB7.out⟩
end Go.Proofs.YtjopcpoodhamcaaDoor
