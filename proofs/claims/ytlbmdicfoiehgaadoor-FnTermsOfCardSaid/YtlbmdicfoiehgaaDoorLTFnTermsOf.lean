/-
  The walk of the law FnTermsOf. Conditions: the table of the library.
-/
import Derived.Test.YtlbmdicfoiehgaaDoorTsame
import Derived.Test.YtlbmdicfoiehgaaDoorTmk
import Derived.Test.YtlbmdicfoiehgaaDoorDrawU
import Derived.Test.YtlbmdicfoiehgaaDoorTwgt
import Derived.Test.YtlbmdicfoiehgaaDoorCnt
namespace Go.Proofs.YtlbmdicfoiehgaaDoor
set_option linter.unusedSimpArgs false
set_option linter.unusedVariables false
open Go.RowKit

set_option maxRecDepth 20000 in
set_option maxHeartbeats 4000000 in
theorem walk_FnTermsOf (a : Option Addr) (len cap : Nat) (w : World) (hT : Tab w) (hsz : 1 < w.heap.size) (hb : BytesAt w a len cap) :
    Calls Tryd.prog 11 #[.slice a len cap] w fun e w' => e = .returned (.bool true) ∧ Below w.heap.size w w' := by
  by_cases hlen : 1048576 < len
  · clear hb
    go_enter Tryd.func11, Tryd.ntmps11
    go_wp2
    go_ret
    exact ⟨rfl, Below.refl _ _⟩
  · have hlen' : len ≤ 1048576 := by omega
    clear hlen
    have HB := Lib.hid hb
    have HT := Lib.hid hT
    clear hb hT
    go_enter Tryd.func11, Tryd.ntmps11
    go_wp2_with fail
    refine (dTermsOf_any a len cap _ HB.out).mono ?_
    rintro e w1 ⟨l, n, rfl, hl0, hl1, hn0, hn1, hb1⟩
    have hz1 := hb1.size
    have HT1 : Hid (Tab w1) := Lib.hid (HT.out.of fun i => hb1.cell (p := ⟨1, i, none⟩) hsz)
    go_wp2_with fail
    refine (iTerms_any l n _ HT1.out (by omega)).mono ?_
    rintro e w2 ⟨v2, rfl, hown2, hb2⟩
    have hz2 := hb2.size
    have HO2 := Lib.hid hown2
    have HB2 := Lib.hid hb2
    have HB1 := Lib.hid hb1
    clear hown2 hb2 hb1
    go_wp2_with fail
    refine (sTerms_any l n _).mono ?_
    rintro e w3 ⟨v3, rfl, hown3, hb3⟩
    have hz3 := hb3.size
    have hown2 := HO2.out
    have hB : Below w.heap.size w w3 := HB1.out.trans ((HB2.out.mono hz1).trans (hb3.mono (by omega)))
    cases hv : eOk l n
    · have e0 : termsP l n = [] := by simp [termsP, hv]
      rw [e0] at hown2 hown3
      obtain ⟨a2', c2', rfl⟩ := row_len hown2
      obtain ⟨a3', c3', rfl⟩ := row_len hown3
      clear hown2 hown3 hb3 HO2 HB2 HB1 e0 hv
      simp only [List.length_nil]
      go_wp2_with (go_at_call 23; refine (sameTerms_nil _ _ _ _ _).mono ?_; rintro e w' ⟨rfl, rfl⟩)
      go_ret
      exact ⟨rfl, hB⟩
    · have bl := eOk_true hv
      have HC := Lib.hid (tchk hv)
      have HV := Lib.hid hv
      have hT16 := termsP_le l n
      obtain ⟨T, hTT⟩ : ∃ T, T = termsP l n := ⟨_, rfl⟩
      have hpos : 0 < T.length := by
        have := HC.out
        rw [← hTT] at this
        simp only [chkTm, Bool.and_eq_true, decide_eq_true_eq] at this
        exact this.1.1.1.1.1.1
      rw [← hTT] at hown2 hown3 hT16
      have HTT := Lib.hid hTT
      clear hTT hv
      obtain ⟨g2, c2', rfl, hg2, hg2', t2, hce2, hfr2⟩ := tmAt_of hown2 hpos
      obtain ⟨g3, c3', rfl, hg3, hg3', t3, -, -⟩ := tmAt_of hown3 hpos
      have T2 : Hid (TmAt w3 g2 T) := Lib.hid (t2.below hb3 hg2')
      have T3 := Lib.hid t3
      have HBB := Lib.hid hB
      have hg23 : g2 < w3.heap.size := by omega
      have hp0 : ((T.length : Int) == 0) = false := by rw [beq_eq_false_iff_ne]; omega
      have hp1 : (T.length == 0) = false := by rw [beq_eq_false_iff_ne]; omega
      clear hown2 hown3 t2 t3 hce2 hfr2 hb3 HO2 HB2 HB1 hB
      go_wp2_with fail
      refine (sameTerms_some _ _ _ _ _ _ (by omega) T2.out T3.out).mono ?_
      rintro e w4 ⟨rfl, hm4⟩
      have hb4 : Below w3.heap.size w3 w4 := by obtain ⟨m, rfl⟩ := hm4; (repeat' first | (with_reducible exact Below.refl _ _) | (with_reducible assumption) | (with_reducible refine below_drewN ?_ _) | (with_reducible refine Below.drew ?_) | (with_reducible refine Below.alloc ?_ ?_ _) | (with_reducible refine Below.setCell ?_ ?_ _) | (with_reducible refine Below.trans ?_ (Below.mono (by assumption) ?_)) | first | omega | (simp only [World.size_alloc, World.size_setCell, World.size_drew, size_drewN]; omega) | (simp; done) | (simp; omega) | (simp only [World.size_alloc, World.size_setCell, World.size_drew, size_drewN] at *; omega) | (simp at *; omega))
      have hz4 := hb4.size
      have T4 : Hid (TmAt w4 g2 T) := Lib.hid (T2.out.below hb4 hg23)
      have HB4 : Hid (Below w.heap.size w w4) := Lib.hid (HBB.out.trans (hb4.mono (by omega)))
      have HT4 : Hid (Tab w4) := Lib.hid (HT.out.of fun i => HB4.out.cell (p := ⟨1, i, none⟩) hsz)
      clear hm4 hb4 T2 T3 HBB HT1
      have hfact : (∀ (k : Nat) (p : Int × Int), T[k]? = some p → tvB p.1 p.2 = true ∧ tcF l n p.1 p.2 = (cntT p T : Int)) ∧ ordB T = true := by
        have := HC.out
        rw [← HTT.out] at this
        simp only [chkTm, Bool.and_eq_true, List.all_eq_true, decide_eq_true_eq] at this
        refine ⟨fun k p hp => ?_, this.1.2⟩
        have q := this.1.1.1.1.2 p (List.mem_of_getElem? hp)
        have ht : tvB p.1 p.2 = true := by simp [tvB]; omega
        refine ⟨ht, ?_⟩
        rw [q.2.2.2.2.2.2.2, ← tcI_L]
        simp [tcF, ht, HV.out]
      have HF := Lib.hid hfact.1
      have HOR := Lib.hid hfact.2
      clear hfact
      go_wp2
      go_loopw [7] (fun i wr => ∃ k : Nat, k ≤ T.length ∧ i = .int .i64 k ∧ Below w4.heap.size w4 wr) (fun i _ => T.length - (intOf i).toNat)
      case atStart => exact ⟨0, Nat.zero_le _, rfl, Below.refl _ _⟩
      case round =>
        obtain ⟨k, hk, rfl, hbel⟩ := hrel
        have hbz := hbel.size
        have HBL := Lib.hid hbel
        by_cases hlt : k < T.length
        · obtain ⟨p, hp⟩ : ∃ p, T[k]? = some p := ⟨_, List.getElem?_eq_getElem hlt⟩
          obtain ⟨a0, a1⟩ := T4.out k p hp
          obtain ⟨ht, hc⟩ := HF.out k p hp
          have r0 := (hbel.cell (p := ⟨g2, k * 2, none⟩) (by show g2 < _; omega)).trans a0
          have r1 := (hbel.cell (p := ⟨g2, k * 2 + 1, none⟩) (by show g2 < _; omega)).trans a1
          have HTV := Lib.hid ht
          have HTC := Lib.hid hc
          obtain ⟨y, hy⟩ : ∃ y : Int, y = (cntT p T : Int) := ⟨_, rfl⟩
          have HY := Lib.hid hy
          have hyy : (y == y) = true := by simp
          have i0 : (0 : Int) ≤ (k : Int) := Int.natCast_nonneg _
          have i1 : (k : Int) < (T.length : Int) := by omega
          have TT : ∀ W, Below w4.heap.size w4 W → Tab W := fun W h => HT4.out.of fun i => h.cell (p := ⟨1, i, none⟩) (by show 1 < _; omega)
          have TU : ∀ W, Below w4.heap.size w4 W → TmAt W g2 T := fun W h => T4.out.below h (by omega)
          have HTT2 := Lib.hid TT
          have HTU := Lib.hid TU
          have kV : ∀ W, Calls Tryd.prog 25 #[.agg #[.int .i64 p.1, .int .i64 p.2]] W fun e w' => e = .returned (.bool true) ∧ Below W.heap.size W w' := fun W => by
            have := iTermValid_any p.1 p.2 W
            rw [HTV.out] at this
            exact this
          have kM : ∀ W c, Below w4.heap.size w4 W → Calls Tryd.prog 24 #[.slice (some ⟨g2, 0, none⟩) T.length c, .agg #[.int .i64 p.1, .int .i64 p.2]] W fun e w' => e = .returned (.int .i64 y) ∧ Below W.heap.size W w' := fun W c h => by
            have := termsMany_some g2 c p T W (by omega) (by have := h.size; omega) (HTU.out W h)
            rw [← HY.out] at this
            exact this
          have kC : ∀ W, Below w4.heap.size w4 W → Calls Tryd.prog 14 #[.int .i64 l, .int .i64 n, .agg #[.int .i64 p.1, .int .i64 p.2]] W fun e w' => e = .returned (.int .i64 y) ∧ Below W.heap.size W w' := fun W h => by
            have := iTermCount_any l n p.1 p.2 W (HTT2.out W h) (by have := h.size; omega)
            rw [HTC.out, ← HY.out] at this
            exact this
          have KV := Lib.hid kV
          have KM := Lib.hid kM
          have KC := Lib.hid kC
          clear hp a0 a1 ht hc hy TT TU kV kM kC
          go_wp2
          go_region_held3 (fun w' => w'.cell? ⟨g2, k * 2, none⟩ = some (.int .i64 p.1) ∧ w'.cell? ⟨g2, k * 2 + 1, none⟩ = some (.int .i64 p.2) ∧ w4.heap.size ≤ w'.heap.size ∧ Below w4.heap.size w4 w')
            (first | (simp (disch := first | omega | (simp; done) | (simp; omega)) [go_sem, *]; done) | ((repeat' first | (with_reducible exact Below.refl _ _) | (with_reducible assumption) | (with_reducible refine below_drewN ?_ _) | (with_reducible refine Below.drew ?_) | (with_reducible refine Below.alloc ?_ ?_ _) | (with_reducible refine Below.setCell ?_ ?_ _) | (with_reducible refine Below.trans ?_ (Below.mono (by assumption) ?_)) | first | omega | (simp only [World.size_alloc, World.size_setCell, World.size_drew, size_drewN]; omega) | (simp; done) | (simp; omega) | (simp only [World.size_alloc, World.size_setCell, World.size_drew, size_drewN] at *; omega) | (simp at *; omega)); done) | ((try go_split_ands); (refine ⟨?_, ?_, ?_, ?_⟩ <;> first | omega | (simp only [World.size_alloc, World.size_setCell, World.size_drew, size_drewN]; omega) | (simp (disch := first | omega | (simp; done) | (simp; omega)) [go_sem, *]; done) | ((repeat' first | (with_reducible exact Below.refl _ _) | (with_reducible assumption) | (with_reducible refine below_drewN ?_ _) | (with_reducible refine Below.drew ?_) | (with_reducible refine Below.alloc ?_ ?_ _) | (with_reducible refine Below.setCell ?_ ?_ _) | (with_reducible refine Below.trans ?_ (Below.mono (by assumption) ?_)) | first | omega | (simp only [World.size_alloc, World.size_setCell, World.size_drew, size_drewN]; omega) | (simp; done) | (simp; omega) | (simp only [World.size_alloc, World.size_setCell, World.size_drew, size_drewN] at *; omega) | (simp at *; omega)); done))))
            (first
              | (go_at_call 25; refine (KV.out _).mono ?_; rintro e w5 ⟨rfl, hb5⟩; obtain ⟨hc5, hf5⟩ := bcell hb5; have hz5 := hb5.size; (try simp only [World.size_alloc, World.size_setCell, World.size_drew, size_drewN] at hz5 hc5 hf5))
              | (go_at_call 24; refine (KM.out _ _ (by (repeat' first | (with_reducible exact Below.refl _ _) | (with_reducible assumption) | (with_reducible refine below_drewN ?_ _) | (with_reducible refine Below.drew ?_) | (with_reducible refine Below.alloc ?_ ?_ _) | (with_reducible refine Below.setCell ?_ ?_ _) | (with_reducible refine Below.trans ?_ (Below.mono (by assumption) ?_)) | first | omega | (simp only [World.size_alloc, World.size_setCell, World.size_drew, size_drewN]; omega) | (simp; done) | (simp; omega) | (simp only [World.size_alloc, World.size_setCell, World.size_drew, size_drewN] at *; omega) | (simp at *; omega)))).mono ?_; rintro e w6 ⟨rfl, hb6⟩; obtain ⟨hc6, hf6⟩ := bcell hb6; have hz6 := hb6.size; (try simp only [World.size_alloc, World.size_setCell, World.size_drew, size_drewN] at hz6 hc6 hf6))
              | (go_at_call 14; refine (KC.out _ (by (repeat' first | (with_reducible exact Below.refl _ _) | (with_reducible assumption) | (with_reducible refine below_drewN ?_ _) | (with_reducible refine Below.drew ?_) | (with_reducible refine Below.alloc ?_ ?_ _) | (with_reducible refine Below.setCell ?_ ?_ _) | (with_reducible refine Below.trans ?_ (Below.mono (by assumption) ?_)) | first | omega | (simp only [World.size_alloc, World.size_setCell, World.size_drew, size_drewN]; omega) | (simp; done) | (simp; omega) | (simp only [World.size_alloc, World.size_setCell, World.size_drew, size_drewN] at *; omega) | (simp at *; omega)))).mono ?_; rintro e w7 ⟨rfl, hb7⟩; obtain ⟨hc7, hf7⟩ := bcell hb7; have hz7 := hb7.size; (try simp only [World.size_alloc, World.size_setCell, World.size_drew, size_drewN] at hz7 hc7 hf7)))
          have hB7 : Below w4.heap.size w4 w7 := by (repeat' first | (with_reducible exact Below.refl _ _) | (with_reducible assumption) | (with_reducible refine below_drewN ?_ _) | (with_reducible refine Below.drew ?_) | (with_reducible refine Below.alloc ?_ ?_ _) | (with_reducible refine Below.setCell ?_ ?_ _) | (with_reducible refine Below.trans ?_ (Below.mono (by assumption) ?_)) | first | omega | (simp only [World.size_alloc, World.size_setCell, World.size_drew, size_drewN]; omega) | (simp; done) | (simp; omega) | (simp only [World.size_alloc, World.size_setCell, World.size_drew, size_drewN] at *; omega) | (simp at *; omega))
          clear hbel r0 r1
          go_wp2
          go_roundw
          case rel => exact ⟨k + 1, hlt, by go_num, hB7⟩
          case measure => simp [intOf]; omega
        · obtain rfl : k = T.length := by omega
          clear hbel
          go_wp2_with fail
          refine (inOrder_some g2 _ T _ (by omega) hpos (by omega) (T4.out.below HBL.out (by omega)) HOR.out).mono ?_
          rintro e w5 ⟨rfl, hb5⟩
          go_wp2
          go_ret
          exact ⟨rfl, HB4.out.trans ((HBL.out.mono (by omega)).trans (hb5.mono (by omega)))⟩
end Go.Proofs.YtlbmdicfoiehgaaDoor
