/-
  The walk of the law FnTermsMicro. Conditions: the table of the library.
-/
import Derived.Test.YtlbmdicfoiehgaaDoorTsame
import Derived.Test.YtlbmdicfoiehgaaDoorTmk
import Derived.Test.YtlbmdicfoiehgaaDoorDrawU
namespace Go.Proofs.YtlbmdicfoiehgaaDoor
set_option linter.unusedSimpArgs false
set_option linter.unusedVariables false
open Go.RowKit

def cntK2 (s k : Int) (T : List (Int × Int)) (i : Nat) : Nat := cntG s k (T.take i)
theorem cntK2_bd (s k : Int) (T : List (Int × Int)) (i : Nat) : cntK2 s k T i ≤ i := by
  have := List.countP_le_length (p := fun q : Int × Int => decide (k ≤ q.2 ∧ -k ≤ q.2 ∧ s ≤ q.1 ∧ -s ≤ q.1)) (l := T.take i)
  have := List.length_take_le i T
  unfold cntK2 cntG; omega
theorem cntK2_step {s k : Int} {q : Int × Int} {T : List (Int × Int)} {i : Nat} (h : T[i]? = some q) : cntK2 s k T (i + 1) = cntK2 s k T i + (if k ≤ q.2 ∧ -k ≤ q.2 ∧ s ≤ q.1 ∧ -s ≤ q.1 then 1 else 0) := by
  unfold cntK2 cntG
  rw [List.take_add_one, h, List.countP_append]
  simp
theorem cntK2_all (s k : Int) (T : List (Int × Int)) : cntK2 s k T T.length = cntG s k T := by unfold cntK2; rw [List.take_length]
theorem abs_ge (k q : Int) : (k ≤ q ∧ -k ≤ q) ↔ (if -k > k then -k else k) ≤ q := by split <;> omega
set_option maxRecDepth 20000 in
set_option maxHeartbeats 4000000 in
theorem walk_FnTermsMicro (a : Option Addr) (len cap : Nat) (a2 : Option Addr) (len2 cap2 : Nat) (w : World) (hT : Tab w) (hsz : 1 < w.heap.size) (hb : BytesAt w a len cap) (hb2 : BytesAt w a2 len2 cap2) :
    Calls Tryd.prog 9 #[.slice a len cap, .slice a2 len2 cap2] w fun e w' => e = .returned (.bool true) ∧ Below w.heap.size w w' := by
  clear hb2
  by_cases hlen : 1048576 < len
  · clear hb
    go_enter Tryd.func9, Tryd.ntmps9
    go_wp2
    go_ret
    exact ⟨rfl, Below.refl _ _⟩
  · have hlen' : len ≤ 1048576 := by omega
    by_cases hlm : 1048576 < len2
    · clear hb
      go_enter Tryd.func9, Tryd.ntmps9
      go_wp2
      go_ret
      exact ⟨rfl, Below.refl _ _⟩
    have hlm' : len2 ≤ 1048576 := by omega
    clear hlm
    clear hlen
    have HB := Lib.hid hb
    have HT := Lib.hid hT
    clear hb hT
    go_enter Tryd.func9, Tryd.ntmps9
    go_wp2_with fail
    refine (dTermsOf_any a len cap _ HB.out).mono ?_
    rintro e w1 ⟨l, n, rfl, hl0, hl1, hn0, hn1, hb1⟩
    have hz1 := hb1.size
    have HT1 : Hid (Tab w1) := Lib.hid (HT.out.of fun i => hb1.cell (p := ⟨1, i, none⟩) hsz)
    go_wp2_with fail
    refine (iTerms_any l n _ HT1.out (by omega)).mono ?_
    rintro e w2 ⟨v2, rfl, hown2, hb2⟩
    have hz2 := hb2.size
    have HO2 := Lib.hid hown2
    have HB2 := Lib.hid hb2
    have HB1 := Lib.hid hb1
    clear hown2 hb2 hb1
    go_wp2_with fail
    refine (sTerms_any l n _).mono ?_
    rintro e w3 ⟨v3, rfl, hown3, hb3⟩
    have hz3 := hb3.size
    have hown2 := HO2.out
    have hB : Below w.heap.size w w3 := HB1.out.trans ((HB2.out.mono hz1).trans (hb3.mono (by omega)))
    cases hv : eOk l n
    · have e0 : termsP l n = [] := by simp [termsP, hv]
      rw [e0] at hown2 hown3
      obtain ⟨a2', c2', rfl⟩ := row_len hown2
      obtain ⟨a3', c3', rfl⟩ := row_len hown3
      clear hown2 hown3 hb3 HO2 HB2 HB1 e0 hv
      simp only [List.length_nil]
      go_wp2_with (go_at_call 23; refine (sameTerms_nil _ _ _ _ _).mono ?_; rintro e w' ⟨rfl, rfl⟩)
      go_ret
      exact ⟨rfl, hB⟩
    · have bl := eOk_true hv
      have HC := Lib.hid (tchk hv)
      have HV := Lib.hid hv
      have hT16 := termsP_le l n
      obtain ⟨T, hTT⟩ : ∃ T, T = termsP l n := ⟨_, rfl⟩
      have hpos : 0 < T.length := by
        have := HC.out
        rw [← hTT] at this
        simp only [chkTm, Bool.and_eq_true, decide_eq_true_eq] at this
        exact this.1.1.1.1.1.1
      rw [← hTT] at hown2 hown3 hT16
      have HTT := Lib.hid hTT
      clear hTT hv
      obtain ⟨g2, c2', rfl, hg2, hg2', t2, hce2, hfr2⟩ := tmAt_of hown2 hpos
      obtain ⟨g3, c3', rfl, hg3, hg3', t3, -, -⟩ := tmAt_of hown3 hpos
      have T2 : Hid (TmAt w3 g2 T) := Lib.hid (t2.below hb3 hg2')
      have T3 := Lib.hid t3
      have HBB := Lib.hid hB
      have hg23 : g2 < w3.heap.size := by omega
      have hp0 : ((T.length : Int) == 0) = false := by rw [beq_eq_false_iff_ne]; omega
      have hp1 : (T.length == 0) = false := by rw [beq_eq_false_iff_ne]; omega
      clear hown2 hown3 t2 t3 hce2 hfr2 hb3 HO2 HB2 HB1 hB
      go_wp2_with fail
      refine (sameTerms_some _ _ _ _ _ _ (by omega) T2.out T3.out).mono ?_
      rintro e w4 ⟨rfl, hm4⟩
      have hb4 : Below w3.heap.size w3 w4 := by obtain ⟨m, rfl⟩ := hm4; (repeat' first | (with_reducible exact Below.refl _ _) | (with_reducible assumption) | (with_reducible refine below_drewN ?_ _) | (with_reducible refine Below.drew ?_) | (with_reducible refine Below.alloc ?_ ?_ _) | (with_reducible refine Below.setCell ?_ ?_ _) | (with_reducible refine Below.trans ?_ (Below.mono (by assumption) ?_)) | first | omega | (simp only [World.size_alloc, World.size_setCell, World.size_drew, size_drewN]; omega) | (simp; done) | (simp; omega) | (simp only [World.size_alloc, World.size_setCell, World.size_drew, size_drewN] at *; omega) | (simp at *; omega))
      have hz4 := hb4.size
      have T4 : Hid (TmAt w4 g2 T) := Lib.hid (T2.out.below hb4 hg23)
      have HB4 : Hid (Below w.heap.size w w4) := Lib.hid (HBB.out.trans (hb4.mono (by omega)))
      have HT4 : Hid (Tab w4) := Lib.hid (HT.out.of fun i => HB4.out.cell (p := ⟨1, i, none⟩) hsz)
      clear hm4 hb4 T2 T3 HBB HT1
      obtain ⟨ob, hob⟩ : ∃ ob : Int, ob = (len2 : Int) % 9 - 4 := ⟨_, rfl⟩
      obtain ⟨sb, hsb⟩ : ∃ sb : Int, sb = (len2 : Int) / 9 % 5 * 2 - 4 + n % 2 := ⟨_, rfl⟩
      have hcount : cntM l n ob sb = (cntG sb ob T : Int) := by
        have := HC.out
        rw [← HTT.out] at this
        simp only [chkTm, Bool.and_eq_true, List.all_eq_true, decide_eq_true_eq, List.mem_range] at this
        have q := this.1.1.1.2 (len2 % 9) (by omega) (len2 / 9 % 5) (by omega)
        rw [show ((len2 % 9 : Nat) : Int) - 4 = ob by omega, show ((len2 / 9 % 5 : Nat) : Int) * 2 - 4 + n % 2 = sb by omega] at q
        rw [cntM_in, q]
      have HCN := Lib.hid hcount
      have HK := Lib.hid (cntK2_all sb ob T)
      have ob0 : -4 ≤ ob := by omega
      have ob1 : ob ≤ 4 := by omega
      have sb0 : -4 ≤ sb := by omega
      have sb1 : sb ≤ 5 := by omega
      obtain ⟨mo, hmo⟩ : ∃ mo : Int, mo = (if -ob > ob then -ob else ob) := ⟨_, rfl⟩
      obtain ⟨ms, hms⟩ : ∃ ms : Int, ms = (if -sb > sb then -sb else sb) := ⟨_, rfl⟩
      have hmob : 0 ≤ mo ∧ mo ≤ 4 := by rw [hmo]; split <;> omega
      have hmsb : 0 ≤ ms ∧ ms ≤ 5 := by rw [hms]; split <;> omega
      have HMO := Lib.hid hmo
      have HMS := Lib.hid hms
      have hmo1 : (if ob < 0 - ob then 0 - ob else ob) = mo := by first | exact hmo.symm | (rw [hmo]; (split <;> first | omega | (split <;> omega)))
      have hmo2 : (if 0 - ob > ob then 0 - ob else ob) = mo := by first | exact hmo.symm | (rw [hmo]; (split <;> first | omega | (split <;> omega)))
      have hmo3 : (if ob < -ob then -ob else ob) = mo := by first | exact hmo.symm | (rw [hmo]; (split <;> first | omega | (split <;> omega)))
      have hms1 : (if sb < 0 - sb then 0 - sb else sb) = ms := by first | exact hms.symm | (rw [hms]; (split <;> first | omega | (split <;> omega)))
      have hms2 : (if 0 - sb > sb then 0 - sb else sb) = ms := by first | exact hms.symm | (rw [hms]; (split <;> first | omega | (split <;> omega)))
      have hms3 : (if sb < -sb then -sb else sb) = ms := by first | exact hms.symm | (rw [hms]; (split <;> first | omega | (split <;> omega)))
      have HOB := Lib.hid hob
      have HSB := Lib.hid hsb
      have l2 : (0 : Int) ≤ (len2 : Int) := Int.natCast_nonneg _
      clear hcount hmo hms hob hsb
      go_wp2
      rw [← HOB.out, ← HSB.out]
      go_loopw [11, 12] (fun m i wr => ∃ k : Nat, k ≤ T.length ∧ i = .int .i64 k ∧ m = .int .i64 (cntK2 sb ob T k) ∧ wr = w4) (fun _ i _ => T.length - (intOf i).toNat)
      case atStart => exact ⟨0, Nat.zero_le _, rfl, rfl, rfl⟩
      case round =>
        obtain ⟨k, hk, rfl, rfl, rfl⟩ := hrel
        have kb := cntK2_bd sb ob T k
        have k0 : (0 : Int) ≤ (cntK2 sb ob T k : Int) := Int.natCast_nonneg _
        by_cases hlt : k < T.length
        · obtain ⟨p, hp⟩ : ∃ p, T[k]? = some p := ⟨_, List.getElem?_eq_getElem hlt⟩
          obtain ⟨a0, a1⟩ := T4.out k p hp
          have S := cntK2_step (s := sb) (k := ob) hp
          have i0 : (0 : Int) ≤ (k : Int) := Int.natCast_nonneg _
          have i1 : (k : Int) < (T.length : Int) := by omega
          have q1 : (ob ≤ p.2 ∧ -ob ≤ p.2) ↔ mo ≤ p.2 := by rw [HMO.out]; exact abs_ge ob p.2
          have q2 : (sb ≤ p.1 ∧ -sb ≤ p.1) ↔ ms ≤ p.1 := by rw [HMS.out]; exact abs_ge sb p.1
          clear hp
          by_cases c1 : mo ≤ p.2
          · by_cases c2 : ms ≤ p.1
            · have S1 := Lib.hid (show cntK2 sb ob T (k + 1) = cntK2 sb ob T k + 1 by rw [S, if_pos ⟨(q1.2 c1).1, (q1.2 c1).2, (q2.2 c2).1, (q2.2 c2).2⟩])
              clear S q1 q2
              go_wp2
              go_roundw
              case rel => exact ⟨k + 1, by omega, by go_num, by rw [S1.out]; go_num, by first | rfl | trivial⟩
              case measure => simp [intOf]; omega
            · have S1 := Lib.hid (show cntK2 sb ob T (k + 1) = cntK2 sb ob T k by rw [S, if_neg fun h => c2 (q2.1 h.2.2)]; rfl)
              clear S q1 q2
              go_wp2
              go_roundw
              case rel => exact ⟨k + 1, by omega, by go_num, by rw [S1.out], by first | rfl | trivial⟩
              case measure => simp [intOf]; omega
          · have S1 := Lib.hid (show cntK2 sb ob T (k + 1) = cntK2 sb ob T k by rw [S, if_neg fun h => c1 (q1.1 ⟨h.1, h.2.1⟩)]; rfl)
            clear S q1 q2
            go_wp2
            go_roundw
            case rel => exact ⟨k + 1, by omega, by go_num, by rw [S1.out], by first | rfl | trivial⟩
            case measure => simp [intOf]; omega
        · obtain rfl : k = T.length := by omega
          rw [HK.out]
          go_wp2_with fail
          refine (iMicroCount_any l n ob sb _ HV.out HT4.out (by omega)).mono ?_
          rintro e w5 ⟨rfl, hb5⟩
          rw [HCN.out]
          go_wp2
          go_ret
          exact ⟨rfl, HB4.out.trans (hb5.mono (by omega))⟩
end Go.Proofs.YtlbmdicfoiehgaaDoor
