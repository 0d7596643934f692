/-
  The walk of the law FnTermCount. Conditions: the table of the library.
-/
import Derived.Test.YtlbmdicfoiehgaaDoorMcnt
namespace Go.Proofs.YtlbmdicfoiehgaaDoor
set_option linter.unusedSimpArgs false
set_option linter.unusedVariables false
open Go.RowKit

theorem mics_hi {l n : Int} (hv : eOk l n = true) : (mics l n).all (fun p => decide (p.1 ≤ 8 ∧ p.2 ≤ 6)) = true := by
  have := fin_ln (fun l n => (mics l n).all (fun p => decide (p.1 ≤ 8 ∧ p.2 ≤ 6))) (by decide +kernel) hv
  exact this
theorem cntM_zero {l n o s : Int} (hv : eOk l n = true) (h : 9 ≤ o ∨ 7 ≤ s) : cntM l n o s = 0 := by
  unfold cntM cntK
  rw [List.take_length]
  have : (mics l n).countP (fun p => decide (p.1 = o ∧ p.2 = s)) = 0 := by
    rw [List.countP_eq_zero]
    intro p hp
    have b := List.all_eq_true.1 (mics_hi hv) p hp
    have b' : p.1 ≤ 8 ∧ p.2 ≤ 6 := by simpa using b
    simp
    omega
  rw [this]; rfl
theorem tcF_is {l n s k : Int} (hv : eOk l n = true) (h0 : 0 ≤ s) (h1 : s ≤ 8) (h2 : 0 ≤ k) (h3 : k ≤ 8) : tcF l n s k = cntM l n k s - cntM l n (k + 1) s - cntM l n k (s + 2) + cntM l n (k + 1) (s + 2) := by
  have ht : tvB s k = true := by simp [tvB]; omega
  simp [tcF, ht, hv, tcI]
set_option maxRecDepth 20000 in
set_option maxHeartbeats 4000000 in
theorem walk_FnTermCount (a : Option Addr) (len cap : Nat) (w : World) (hT : Tab w) (hsz : 1 < w.heap.size) (hb : BytesAt w a len cap) :
    Calls Tryd.prog 4 #[.slice a len cap] w fun e w' => e = .returned (.bool true) ∧ Below w.heap.size w w' := by
  by_cases hlen : 1048576 < len
  · clear hb
    go_enter Tryd.func4, Tryd.ntmps4
    go_wp2
    go_ret
    exact ⟨rfl, Below.refl _ _⟩
  · have hlen' : len ≤ 1048576 := by omega
    clear hlen
    have HB := Lib.hid hb
    have HT := Lib.hid hT
    clear hb hT
    go_enter Tryd.func4, Tryd.ntmps4
    go_wp2_with fail
    refine (dTermCount_any a len cap _ HB.out).mono ?_
    rintro e w1 ⟨l, n, s, k, rfl, hl0, hl1, hn0, hn1, hs0, hs1, hk0, hk1, hb1⟩
    have hz1 := hb1.size
    have HT1 : Hid (Tab w1) := Lib.hid (HT.out.of fun i => hb1.cell (p := ⟨1, i, none⟩) hsz)
    go_wp2_with fail
    refine (iTermCount_any l n s k _ (HT1.out.of fun i => by (simp (disch := first | omega | (simp; done) | (simp; omega)) [go_sem, *]; done)) (by simp; omega)).mono ?_
    rintro e w2 ⟨rfl, hb2⟩
    obtain ⟨hc2, hf2⟩ := bcell hb2; have hz2 := hb2.size; (try simp only [World.size_alloc, World.size_setCell, World.size_drew, size_drewN] at hz2 hc2 hf2); (have g2a : w1.heap.size < w2.heap.size := by omega)
    go_wp2_with fail
    refine (sTermCount_any l n s k _).mono ?_
    rintro e w3 ⟨rfl, hb3⟩
    obtain ⟨hc3, hf3⟩ := bcell hb3; have hz3 := hb3.size; (try simp only [World.size_alloc, World.size_setCell, World.size_drew, size_drewN] at hz3 hc3 hf3); (have g3a : w1.heap.size < w3.heap.size := by omega)
    (have q0 : w3.cell? ⟨w1.heap.size, 0, none⟩ = some (.int .i64 s) := by (simp (disch := first | omega | (simp; done) | (simp; omega)) [go_sem, *]; done)); (have q1 : w3.cell? ⟨w1.heap.size, 1, none⟩ = some (.int .i64 k) := by (simp (disch := first | omega | (simp; done) | (simp; omega)) [go_sem, *]; done))
    have hB : Below w.heap.size w w3 := by (repeat' first | (with_reducible exact Below.refl _ _) | (with_reducible assumption) | (with_reducible refine below_drewN ?_ _) | (with_reducible refine Below.drew ?_) | (with_reducible refine Below.alloc ?_ ?_ _) | (with_reducible refine Below.setCell ?_ ?_ _) | (with_reducible refine Below.trans ?_ (Below.mono (by assumption) ?_)) | first | omega | (simp only [World.size_alloc, World.size_setCell, World.size_drew, size_drewN]; omega) | (simp; done) | (simp; omega) | (simp only [World.size_alloc, World.size_setCell, World.size_drew, size_drewN] at *; omega) | (simp at *; omega))
    have HT3 : Hid (Tab w3) := Lib.hid (HT.out.of fun i => hB.cell (p := ⟨1, i, none⟩) hsz)
    have hz03 : w.heap.size ≤ w3.heap.size := hB.size
    clear hc2 hf2 hc3 hf3 hb2 hb3 hb1 HT1
    by_cases hneg : tcF l n s k < 0
    · go_wp2
      go_ret
      exact ⟨rfl, by (repeat' first | (with_reducible exact Below.refl _ _) | (with_reducible assumption) | (with_reducible refine below_drewN ?_ _) | (with_reducible refine Below.drew ?_) | (with_reducible refine Below.alloc ?_ ?_ _) | (with_reducible refine Below.setCell ?_ ?_ _) | (with_reducible refine Below.trans ?_ (Below.mono (by assumption) ?_)) | first | omega | (simp only [World.size_alloc, World.size_setCell, World.size_drew, size_drewN]; omega) | (simp; done) | (simp; omega) | (simp only [World.size_alloc, World.size_setCell, World.size_drew, size_drewN] at *; omega) | (simp at *; omega))⟩
    · have hok : tvB s k = true ∧ eOk l n = true := Classical.byContradiction fun h => by have := tcF_neg h; omega
      have bl := eOk_true hok.2
      have bt := tvB_true hok.1
      have HV := Lib.hid hok.2
      have low := tcF_low l n s k
      clear hok
      go_wp2_with fail
      go_loopw [8, 9] (fun sm sp wr => ∃ u : Int, sp = .int .i64 u ∧ s ≤ u ∧ u ≤ 8 ∧ sm = .int .i64 (cntM l n k s - cntM l n k u) ∧ Below w3.heap.size w3 wr) (fun _ sp _ => (8 - intOf sp).toNat)
      case atStart => exact ⟨s, rfl, by omega, by omega, by simp, Below.refl _ _⟩
      case round =>
        obtain ⟨u, rfl, hsu, hu8, rfl, hbel⟩ := hrel
        obtain ⟨Wo, hWo⟩ : ∃ W, W = wr := ⟨wr, rfl⟩
        subst hWo
        have hboz := hbel.size
        have r0 := (hbel.cell (p := ⟨w1.heap.size, 0, none⟩) g3a).trans q0
        have r1 := (hbel.cell (p := ⟨w1.heap.size, 1, none⟩) g3a).trans q1
        have b1 := cntM_bd HV.out k s
        have b2 := cntM_bd HV.out k u
        have b3 := cntM_bd HV.out k (u + 2)
        by_cases hu : u ≤ 6
        · go_wp2
          go_loopw [8, 10] (fun sm kk wr => ∃ j : Int, kk = .int .i64 j ∧ k ≤ j ∧ j ≤ 9 ∧ sm = .int .i64 (cntM l n k s - cntM l n k u + (cntM l n k u - cntM l n j u - cntM l n k (u + 2) + cntM l n j (u + 2))) ∧ Below w3.heap.size w3 wr) (fun _ kk _ => (9 - intOf kk).toNat)
          case atStart => exact ⟨k, rfl, by omega, by omega, by congr 1; omega, hbel⟩
          case round =>
            obtain ⟨j, rfl, hkj, hj9, rfl, hbel1⟩ := hrel
            have hb1z := hbel1.size
            have c1 := cntM_bd HV.out j u
            have c2 := cntM_bd HV.out j (u + 2)
            have c3 := cntM_bd HV.out (j + 1) u
            have c4 := cntM_bd HV.out (j + 1) (u + 2)
            by_cases hj : j ≤ 8
            · have E := tcF_is HV.out (s := u) (k := j) (by omega) (by omega) (by omega) hj
              obtain ⟨x, hx⟩ : ∃ x, x = tcF l n u j := ⟨_, rfl⟩
              have hx1 : x = cntM l n j u - cntM l n (j + 1) u - cntM l n j (u + 2) + cntM l n (j + 1) (u + 2) := hx.trans E
              have HX := Lib.hid hx1
              have xb : -1000 ≤ x ∧ x ≤ 1000 := by omega
              have hbw : Below w.heap.size w wr := hB.trans (hbel1.mono hz03)
              have HTr : Hid (Tab wr) := Lib.hid (HT.out.of fun i => hbw.cell (p := ⟨1, i, none⟩) hsz)
              have hwz := hbw.size
              clear E hx1
              go_wp2_with fail
              refine (iTermCount_any l n u j _ HTr.out (by omega)).mono ?_
              rintro e w5 ⟨rfl, hb5⟩
              rw [← hx]
              have hB5 : Below w3.heap.size w3 w5 := hbel1.trans (hb5.mono hb1z)
              clear hx hb5 hbel1 r0 r1
              go_wp2
              go_roundw
              case rel => exact ⟨j + 1, by go_num, by omega, by omega, by have := HX.out; congr 1; omega, hB5⟩
              case measure => simp [intOf]; omega
            · obtain rfl : j = 9 := by omega
              have z1 := cntM_zero HV.out (o := 9) (s := u) (Or.inl (by omega))
              have z2 := cntM_zero HV.out (o := 9) (s := u + 2) (Or.inl (by omega))
              have Z1 := Lib.hid z1
              have Z2 := Lib.hid z2
              clear z1 z2
              go_wp2
              go_roundw
              case rel => exact ⟨u + 2, by go_num, by omega, by omega, by have := Z1.out; have := Z2.out; congr 1; omega, hbel1⟩
              case measure => simp [intOf]; omega
        · have z := cntM_zero HV.out (o := k) (s := u) (Or.inr (by omega))
          have hbw : Below w.heap.size w Wo := hB.trans (hbel.mono hz03)
          have HTr : Hid (Tab Wo) := Lib.hid (HT.out.of fun i => hbw.cell (p := ⟨1, i, none⟩) hsz)
          have hwz := hbw.size
          rw [z, Int.sub_zero]
          go_wp2_with fail
          refine (iMicroCount_any l n k s _ HV.out HTr.out (by omega)).mono ?_
          rintro e w5 ⟨rfl, hb5⟩
          go_wp2
          go_ret
          exact ⟨rfl, hbw.trans (hb5.mono hwz)⟩
end Go.Proofs.YtlbmdicfoiehgaaDoor
