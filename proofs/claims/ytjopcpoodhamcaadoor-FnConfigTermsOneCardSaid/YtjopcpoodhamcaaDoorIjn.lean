import Derived.Test.YtjopcpoodhamcaaDoorGk
import Derived.Test.YtjopcpoodhamcaaDoorGl
/-
  The walk of impl.TermsJoin. Conditions: none.
-/
namespace Go.Proofs.YtjopcpoodhamcaaDoor
set_option linter.unusedSimpArgs false
set_option linter.unusedVariables false
open Go.RowKit

/-- The i-th term of a list in memory. -/
theorem RowI.get {w : World} {v : Value} {xs : List Tm} (h : RowI w v xs) {i : Nat} (hi : i < xs.length) :
    ∃ g o c p, v = .slice (some ⟨g, o, none⟩) xs.length c ∧ xs[i]? = some p ∧ g < w.heap.size ∧ w.cell? ⟨g, o + i * 2, none⟩ = some (.int .i64 p.1) ∧ w.cell? ⟨g, o + i * 2 + 1, none⟩ = some (.int .i64 p.2) := by
  rcases h with ⟨rfl, rfl⟩ | ⟨g, o, c, rfl, h1, h2⟩
  · cases hi
  · obtain ⟨p, hp⟩ : ∃ p, xs[i]? = some p := ⟨_, List.getElem?_eq_getElem hi⟩
    exact ⟨g, o, c, p, rfl, hp, h1, h2 i p hp⟩
set_option maxRecDepth 20000 in
set_option maxHeartbeats 4000000 in
theorem iJoin_ok (va vb : Value) (A B : List Tm) (w : World) (ha : lstB A = true) (hb : lstB B = true) (h1 : RowI w va A) (h2 : RowI w vb B) :
    Calls Tryd.prog 29 #[va, vb] w fun e w' => ∃ v', e = .returned (.tuple #[v', .bool (joinB A B)]) ∧ RowR w' w.heap.size v' (joinP A B) ∧ Below w.heap.size w w' := by
  have na := (lstB_iff.1 ha).1
  have nb := (lstB_iff.1 hb).1
  have HLA := Lib.hid ha
  have HLB := Lib.hid hb
  have HI1 := Lib.hid h1
  have HI2 := Lib.hid h2
  obtain ⟨aa, ca, rfl⟩ := h1.form
  obtain ⟨ab, cb, rfl⟩ := h2.form
  clear ha hb h1 h2
  go_enter Tryd.func29, Tryd.ntmps29
  go_wp2_with fail
  refine (iList_any _ A _ (by omega) HI1.out).mono ?_
  rintro e w1 ⟨rfl, hb1⟩
  rw [HLA.out]
  have HJ2 := Lib.hid (HI2.out.below hb1)
  have hz1 := hb1.size
  go_wp2_with fail
  refine (iList_any _ B _ (by omega) HJ2.out).mono ?_
  rintro e w2 ⟨rfl, hb2⟩
  rw [HLB.out]
  have hz2 := hb2.size
  have hB2 : Below w.heap.size w w2 := hb1.trans (hb2.mono hz1)
  clear hb1 hb2 HJ2
  go_wp2
  go_loopw [6, 23] (fun v ii wr => ∃ i : Nat, i ≤ A.length ∧ ii = .int .i64 i ∧ wr.ownsRow w.heap.size 31 2 v (flatT (A.take i) B).length (vS (flatT (A.take i) B)) ∧ (flatT (A.take i) B).length ≤ 400 ∧ cplAll (A.take i) B = true ∧ Below w.heap.size w wr)
    (fun _ ii _ => A.length - (intOf ii).toNat)
  case atStart => exact ⟨0, Nat.zero_le _, by go_num, World.ownsRow_nil _ _ _ _, Nat.zero_le _, rfl, hB2⟩
  case round =>
    obtain ⟨i, hi, rfl, hown, hl4, hall, hbel⟩ := hrel
    obtain ⟨Wo, hWo⟩ : ∃ W, W = wr := ⟨wr, rfl⟩
    subst hWo
    have i0' : (0 : Int) ≤ (i : Int) := Int.natCast_nonneg _
    have hbz := hbel.size
    have HOW := Lib.hid hown
    have HALL := Lib.hid hall
    have HBel := Lib.hid hbel
    clear hown hall
    by_cases hlt : i < A.length
    · have hia := (HI1.out.below hbel).get hlt
      obtain ⟨ga, oa, ca', s, hva, hs, hga, r0, r1⟩ := hia
      simp only [Value.slice.injEq, true_and] at hva
      obtain ⟨rfl, rfl⟩ := hva
      have HS := Lib.hid hs
      have hn1 : ∀ b, u6.ownBlock = some b → b ≠ Wo.heap.size := fun b hb => by have := (HOW.out.lt b hb).2; omega
      have HN1 := Lib.hid hn1
      have i1' : (i : Int) < (A.length : Int) := by omega
      clear hs hn1 hbel
      go_wp2
      go_loopw [6, 29] (fun v kk wr => ∃ j : Nat, j ≤ B.length ∧ kk = .int .i64 j ∧ wr.ownsRow w.heap.size 31 2 v (flatK A B i j s).length (vS (flatK A B i j s)) ∧ (flatK A B i j s).length ≤ 400 ∧ (∀ u ∈ B.take j, cplB s u = true) ∧ Below w.heap.size w wr ∧
          (∀ b, v.ownBlock = some b → b ≠ Wo.heap.size) ∧ Wo.heap.size < wr.heap.size ∧ wr.cell? ⟨Wo.heap.size, 0, none⟩ = some (.int .i64 s.1) ∧ wr.cell? ⟨Wo.heap.size, 1, none⟩ = some (.int .i64 s.2))
        (fun _ kk _ => B.length - (intOf kk).toNat)
      case atStart =>
        refine ⟨0, Nat.zero_le _, by go_num, ?_, ?_, fun u hu => by simp at hu, ?_, HN1.out, ?_, ?_, ?_⟩
        · rw [flatK_zero]
          have := row_below HOW.out (w1 := (Wo.alloc (.cells #[.int .i64 s.1, .int .i64 s.2] 31))) (by (repeat' first | (with_reducible exact Below.refl _ _) | (with_reducible assumption) | (with_reducible refine below_drewN ?_ _) | (with_reducible refine Below.drew ?_) | (with_reducible refine Below.alloc ?_ ?_ _) | (with_reducible refine Below.setCell ?_ ?_ _) | (with_reducible refine Below.trans ?_ (Below.mono (by assumption) ?_)) | first | omega | (simp only [World.size_alloc, World.size_setCell, World.size_drew, size_drewN]; omega) | (simp; done) | (simp; omega) | (simp only [World.size_alloc, World.size_setCell, World.size_drew, size_drewN] at *; omega) | (simp at *; omega)))
          simpa using this
        · rw [flatK_zero]; exact hl4
        · have := HBel.out
          (repeat' first | (with_reducible exact Below.refl _ _) | (with_reducible assumption) | (with_reducible refine below_drewN ?_ _) | (with_reducible refine Below.drew ?_) | (with_reducible refine Below.alloc ?_ ?_ _) | (with_reducible refine Below.setCell ?_ ?_ _) | (with_reducible refine Below.trans ?_ (Below.mono (by assumption) ?_)) | first | omega | (simp only [World.size_alloc, World.size_setCell, World.size_drew, size_drewN]; omega) | (simp; done) | (simp; omega) | (simp only [World.size_alloc, World.size_setCell, World.size_drew, size_drewN] at *; omega) | (simp at *; omega))
        · exact (by first | omega | (simp only [World.size_alloc, World.size_setCell, World.size_drew, size_drewN]; omega) | (simp; done) | (simp; omega) | (simp only [World.size_alloc, World.size_setCell, World.size_drew, size_drewN] at *; omega) | (simp at *; omega))
        · first | (simp (disch := first | omega | (simp; done) | (simp; omega)) [go_sem, *]; done) | (simp; done)
        · first | (simp (disch := first | omega | (simp; done) | (simp; omega)) [go_sem, *]; done) | (simp; done)
      case round =>
        obtain ⟨j, hj, rfl, hown1, hl5, hallj, hbel1, hne1, hgw1, hcs0, hcs1⟩ := hrel
        obtain ⟨Wi, hWi⟩ : ∃ W, W = wr := ⟨wr, rfl⟩
        subst hWi
        have hb1z := hbel1.size
        have j0' : (0 : Int) ≤ (j : Int) := Int.natCast_nonneg _
        have HO1 := Lib.hid hown1
        have HN2 := Lib.hid hne1
        have HALJ := Lib.hid hallj
        have HB1 := Lib.hid hbel1
        clear hown1 hne1 hallj
        by_cases hlj : j < B.length
        · obtain ⟨gb, ob, cb', t, hvb, ht, hgb, t0, t1⟩ := (HI2.out.below hbel1).get hlj
          simp only [Value.slice.injEq, true_and] at hvb
          obtain ⟨rfl, rfl⟩ := hvb
          have HT := Lib.hid ht
          have j1' : (j : Int) < (B.length : Int) := by omega
          clear ht hbel1
          go_wp2_with fail
          refine (iCouple_all s t _).mono ?_
          rintro e w7 ⟨v7, rfl, hrow7, hb7⟩
          obtain ⟨hc7, hf7⟩ := bcell hb7; have hz7 := hb7.size; (try simp only [World.size_alloc, World.size_setCell, World.size_drew, size_drewN] at hz7 hc7 hf7)
          have hBi : Below Wi.heap.size Wi w7 := by (repeat' first | (with_reducible exact Below.refl _ _) | (with_reducible assumption) | (with_reducible refine below_drewN ?_ _) | (with_reducible refine Below.drew ?_) | (with_reducible refine Below.alloc ?_ ?_ _) | (with_reducible refine Below.setCell ?_ ?_ _) | (with_reducible refine Below.trans ?_ (Below.mono (by assumption) ?_)) | first | omega | (simp only [World.size_alloc, World.size_setCell, World.size_drew, size_drewN]; omega) | (simp; done) | (simp; omega) | (simp only [World.size_alloc, World.size_setCell, World.size_drew, size_drewN] at *; omega) | (simp at *; omega))
          have HO7 := Lib.hid (row_below HO1.out hBi)
          have hB7 : Below w.heap.size w w7 := HB1.out.trans (hBi.mono (by omega))
          have hcs0' : w7.cell? ⟨Wo.heap.size, 0, none⟩ = some (.int .i64 s.1) := by (simp (disch := first | omega | (simp; done) | (simp; omega)) [go_sem, *]; done)
          have hcs1' : w7.cell? ⟨Wo.heap.size, 1, none⟩ = some (.int .i64 s.2) := by (simp (disch := first | omega | (simp; done) | (simp; omega)) [go_sem, *]; done)
          have hgw7 : Wo.heap.size < w7.heap.size := by omega
          have HR7 := Lib.hid hrow7
          have HB7 := Lib.hid hB7
          have ple := cplP_len_le s t
          clear hb7 hBi hc7 hf7 hcs0 hcs1 t0 t1 hrow7 hB7
          cases hc : cplB s t
          · have HJ := Lib.hid (joinB_pair HS.out HT.out hc)
            clear hc
            go_wp2
            refine bodyPost_ret (v := .tuple #[.slice none 0 0, .bool false]) (by simp (disch := first | omega | (simp; done) | (simp; omega)) [results, Tryd.results29, go_sem, cell_set, *]) rfl ?_
            rw [HJ.out]
            exact ⟨_, rfl, .inl ⟨rfl, by simp [joinP, HJ.out]⟩, HB7.out⟩
          · have HC := Lib.hid hc
            clear hc
            obtain ⟨a7, c7, rfl⟩ := HR7.out.inp.form
            obtain ⟨k1, hk1⟩ : ∃ k, k = (flatK A B i j s).length := ⟨_, rfl⟩
            obtain ⟨k2, hk2⟩ : ∃ k, k = (cplP s t).length := ⟨_, rfl⟩
            obtain ⟨au, cu, hu⟩ := (rowI_own HO7.out).form
            rw [hu]
            rw [hu] at HO7 HN2
            rw [← hk1] at hl5 hu ⊢
            rw [← hk2] at ple ⊢
            have HK1 := Lib.hid hk1
            have HK2 := Lib.hid hk2
            clear hk1 hk2
            by_cases hlong : 400 < k1 + k2
            · have HJ := Lib.hid (joinB_long HS.out HT.out (by rw [← HK1.out, ← HK2.out]; exact hlong))
              have q1 : decide (400 < (k1 : Int) + (k2 : Int)) = true := by simp; omega
              clear hu
              go_wp2
              refine bodyPost_ret (v := .tuple #[.slice none 0 0, .bool false]) (by simp (disch := first | omega | (simp; done) | (simp; omega)) [results, Tryd.results29, go_sem, cell_set, *]) rfl ?_
              rw [HJ.out]
              exact ⟨_, rfl, .inl ⟨rfl, by simp [joinP, HJ.out]⟩, HB7.out⟩
            · have q1 : decide (400 < (k1 : Int) + (k2 : Int)) = false := by simp; omega
              clear hu
              have HOW7 : Hid (w7.ownsRow w.heap.size 31 2 (.slice au k1 cu) (flatK A B i j s).length (vS (flatK A B i j s))) := Lib.hid (by rw [HK1.out]; exact HO7.out)
              have HIN7 : Hid (RowI w7 (.slice a7 k2 c7) (cplP s t)) := Lib.hid (by rw [HK2.out]; exact HR7.out.inp)
              have HN3 : Hid (∀ b, (Value.slice au k1 cu).ownBlock = some b → b ≠ Wo.heap.size) := Lib.hid (by rw [HK1.out]; exact HN2.out)
              clear HO7 HR7
              go_wp2_with (first | (at_builtin; refine wpl_app rfl _ _ rfl w.heap.size _ _ (flatK A B i j s) (cplP s t) rfl HOW7.out rfl HIN7.out ?c1 ?c2 ?_))
              case c1 => rw [← HK1.out, ← HK2.out]; omega
              case c2 => first | omega | (simp; omega)
              intro v' w9 hown' hgrow hat _
              have HST := Lib.hid (flatK_step (a := A) (i := i) (s := s) HT.out)
              have hz9 := hgrow.size
              have hown2 : w9.ownsRow w.heap.size 31 2 v' (flatK A B i (j + 1) s).length (vS (flatK A B i (j + 1) s)) := by rw [HST.out, List.length_append]; exact hown'
              have hbel2 : Below w.heap.size w w9 := Below.grown HB7.out hgrow (by omega) (fun k hk => (HOW7.out.lt k hk).1)
              have hl6 : (flatK A B i (j + 1) s).length ≤ 400 := by rw [HST.out, List.length_append, ← HK1.out, ← HK2.out]; omega
              have hall2 := okj_step HT.out HALJ.out HC.out
              have hne2 : ∀ b, v'.ownBlock = some b → b ≠ Wo.heap.size := fun b hb => by
                rcases hat with h | h
                · exact HN3.out b (h.symm.trans hb)
                · rw [h] at hb; simp at hb; omega
              have hk0 : w9.cell? ⟨Wo.heap.size, 0, none⟩ = some (.int .i64 s.1) := by
                rw [grown_cell hgrow hgw7 (fun e => HN3.out _ e rfl)]; exact hcs0'
              have hk1 : w9.cell? ⟨Wo.heap.size, 1, none⟩ = some (.int .i64 s.2) := by
                rw [grown_cell hgrow hgw7 (fun e => HN3.out _ e rfl)]; exact hcs1'
              have hgw9 : Wo.heap.size < w9.heap.size := by omega
              have HREL := Lib.hid (show (flatK A B i (j + 1) s).length ≤ 400 ∧ (∀ u ∈ B.take (j + 1), cplB s u = true) ∧ Below w.heap.size w w9 ∧ (∀ b, v'.ownBlock = some b → b ≠ Wo.heap.size) from ⟨hl6, hall2, hbel2, hne2⟩)
              have HOW2 := Lib.hid hown2
              clear hown' hgrow hat hown2 hbel2 hl6 hall2 hne2
              go_wp2
              go_roundw
              case rel => exact ⟨j + 1, hlj, by go_num, HOW2.out, HREL.out.1, HREL.out.2.1, HREL.out.2.2.1, HREL.out.2.2.2, hgw9, hk0, hk1⟩
              case measure => simp [intOf]; omega
        · obtain rfl : j = B.length := by omega
          have HST := Lib.hid (flatT_step (b := B) HS.out)
          have HALN := Lib.hid (cplAll_step HS.out HALL.out (b := B) (fun t ht => HALJ.out t (by rw [List.take_length]; exact ht)))
          go_wp2
          go_roundw
          case rel => exact ⟨i + 1, hlt, by go_num, by rw [HST.out]; exact HO1.out, by rw [HST.out]; exact hl5, HALN.out, hbel1⟩
          case measure => simp [intOf]; omega
    · obtain rfl : i = A.length := by omega
      have hJ : joinB A B = true := by
        have := HALL.out
        rw [List.take_length] at this hl4
        exact joinB_end HLA.out HLB.out this hl4
      have HJ := Lib.hid hJ
      have hown := HOW.out
      rw [List.take_length] at hown hl4
      have HRI := Lib.hid (rowI_own hown)
      have HP := Lib.hid (joinP_yes hJ)
      obtain ⟨au, cu, rfl⟩ := (rowI_own hown).form
      clear hJ hown HOW
      go_wp2_with fail
      refine (ordered_any (flatT A B) _ _ (by omega) HRI.out flat_ok).mono ?_
      rintro e w8 ⟨v8, rfl, hrow8, hb8⟩
      have HR8 := Lib.hid hrow8
      clear hrow8
      go_wp2
      refine bodyPost_ret (v := .tuple #[v8, .bool true]) (by simp (disch := first | omega | (simp; done) | (simp; omega)) [results, Tryd.results29, go_sem, cell_set, *]) rfl ?_
      rw [HJ.out, HP.out]
      exact ⟨_, rfl, .inr (RowL.mono HR8.out (by omega)), hbel.trans (hb8.mono (by omega))⟩
set_option maxHeartbeats 1000000 in
theorem iJoin_any (va vb : Value) (A B : List Tm) (w : World) (sa : A.length ≤ 1000000000) (sb : B.length ≤ 1000000000) (h1 : RowI w va A) (h2 : RowI w vb B) :
    Calls Tryd.prog 29 #[va, vb] w fun e w' => ∃ v', e = .returned (.tuple #[v', .bool (joinB A B)]) ∧ RowR w' w.heap.size v' (joinP A B) ∧ Below w.heap.size w w' := by
  cases ha : lstB A
  · have HJ := Lib.hid (show joinB A B = false by simp [joinB, ha])
    have HL := Lib.hid ha
    have HI1 := Lib.hid h1
    obtain ⟨aa, ca, rfl⟩ := h1.form
    obtain ⟨ab, cb, rfl⟩ := h2.form
    clear ha h1 h2
    go_enter Tryd.func29, Tryd.ntmps29
    go_wp2_with fail
    refine (iList_any _ A _ (by omega) HI1.out).mono ?_
    rintro e w1 ⟨rfl, hb1⟩
    rw [HL.out]
    go_wp2
    refine bodyPost_ret (v := .tuple #[.slice none 0 0, .bool false]) (by simp (disch := first | omega | (simp; done) | (simp; omega)) [results, Tryd.results29, go_sem, cell_set, *]) rfl ?_
    rw [HJ.out]
    exact ⟨_, rfl, .inl ⟨rfl, by simp [joinP, HJ.out]⟩, hb1⟩
  cases hb : lstB B
  · have HJ := Lib.hid (show joinB A B = false by simp [joinB, hb])
    have HLA := Lib.hid ha
    have HLB := Lib.hid hb
    have HI1 := Lib.hid h1
    have HI2 := Lib.hid h2
    obtain ⟨aa, ca, rfl⟩ := h1.form
    obtain ⟨ab, cb, rfl⟩ := h2.form
    clear ha hb h1 h2
    go_enter Tryd.func29, Tryd.ntmps29
    go_wp2_with fail
    refine (iList_any _ A _ (by omega) HI1.out).mono ?_
    rintro e w1 ⟨rfl, hb1⟩
    rw [HLA.out]
    have HJ2 := Lib.hid (HI2.out.below hb1)
    have hz1 := hb1.size
    go_wp2_with fail
    refine (iList_any _ B _ (by omega) HJ2.out).mono ?_
    rintro e w2 ⟨rfl, hb2⟩
    rw [HLB.out]
    go_wp2
    refine bodyPost_ret (v := .tuple #[.slice none 0 0, .bool false]) (by simp (disch := first | omega | (simp; done) | (simp; omega)) [results, Tryd.results29, go_sem, cell_set, *]) rfl ?_
    rw [HJ.out]
    exact ⟨_, rfl, .inl ⟨rfl, by simp [joinP, HJ.out]⟩, hb1.trans (hb2.mono hz1)⟩
  exact iJoin_ok va vb A B w ha hb h1 h2
end Go.Proofs.YtjopcpoodhamcaaDoor
