/-
  The walk of the law FnCoupleEach. Conditions: none.
-/
import Derived.Test.YtmcjabfnlpohaaaHlp
import Derived.Test.YtmcjabfnlpohaaaDrs
import Derived.Test.YtmcjabfnlpohaaaJoinQ
namespace Go.Proofs.Ytmcjabfnlpohaaa
set_option linter.unusedSimpArgs false
set_option linter.unusedVariables false
open Go.RowKit


set_option maxRecDepth 20000 in
set_option maxHeartbeats 4000000 in
theorem walk_FnCoupleEach (a : Option Addr) (len cap : Nat) (w : World) (hb : BytesAt w a len cap) :
    Calls Try.prog 6 #[.slice a len cap] w fun e w' => e = .returned (.bool true) ∧ Below w.heap.size w w' := by
  by_cases hlen : 1048576 < len
  · clear hb
    go_enter Try.func6, Try.ntmps6
    go_wp2
    go_ret
    exact ⟨rfl, Below.refl _ _⟩
  have hlen' : len ≤ 1048576 := by omega
  clear hlen
  have HB := Lib.hid hb
  clear hb
  have HB0 : Hid (Below w.heap.size w w) := Lib.hid (Below.refl _ _)
  go_enter Try.func6, Try.ntmps6
  go_wp2_with fail
  refine (dCouple_any a len cap _ HB.out).mono ?_
  rintro e w1 ⟨s, t, rfl, hb1⟩
  have hk1 : Below w.heap.size w w1 := by (repeat' first | (with_reducible exact Below.refl _ _) | (with_reducible assumption) | (with_reducible refine below_drewN ?_ _) | (with_reducible refine Below.drew ?_) | (with_reducible refine Below.alloc ?_ ?_ _) | (with_reducible refine Below.setCell ?_ ?_ _) | (with_reducible refine Below.trans ?_ (Below.mono (by assumption) ?_)) | first | omega | (simp only [World.size_alloc, World.size_setCell, World.size_drew, size_drewN]; omega) | (simp; done) | (simp; omega) | (simp only [World.size_alloc, World.size_setCell, World.size_drew, size_drewN] at *; omega) | (simp at *; omega))
  have hz1 := hk1.size
  have HB1 : Hid (Below w.heap.size w w1) := Lib.hid (HB0.out.trans (hk1.mono (by omega)))
  clear hb1 hk1
  go_wp2_with fail
  refine (iCouple_all s t _).mono ?_
  rintro e w2 ⟨v2, rfl, hr2, hb2⟩
  obtain ⟨hc2, hf2⟩ := bcell hb2; have hz2 := hb2.size; (try simp only [World.size_alloc, World.size_setCell, World.size_drew, size_drewN] at hz2 hc2 hf2); (have g2a : w1.heap.size < w2.heap.size := by omega); (have g2b : w1.heap.size + 1 < w2.heap.size := by omega)
  (have x0 : w2.cell? ⟨w1.heap.size, 0, none⟩ = some (.int .i64 s.1) := by (simp (disch := first | omega | (simp; done) | (simp; omega)) [go_sem, *]; done)); (have x1 : w2.cell? ⟨w1.heap.size, 1, none⟩ = some (.int .i64 s.2) := by (simp (disch := first | omega | (simp; done) | (simp; omega)) [go_sem, *]; done))
  (have y0 : w2.cell? ⟨w1.heap.size + 1, 0, none⟩ = some (.int .i64 t.1) := by (simp (disch := first | omega | (simp; done) | (simp; omega)) [go_sem, *]; done)); (have y1 : w2.cell? ⟨w1.heap.size + 1, 1, none⟩ = some (.int .i64 t.2) := by (simp (disch := first | omega | (simp; done) | (simp; omega)) [go_sem, *]; done))
  have hk2 : Below w1.heap.size w1 w2 := by (repeat' first | (with_reducible exact Below.refl _ _) | (with_reducible assumption) | (with_reducible refine below_drewN ?_ _) | (with_reducible refine Below.drew ?_) | (with_reducible refine Below.alloc ?_ ?_ _) | (with_reducible refine Below.setCell ?_ ?_ _) | (with_reducible refine Below.trans ?_ (Below.mono (by assumption) ?_)) | first | omega | (simp only [World.size_alloc, World.size_setCell, World.size_drew, size_drewN]; omega) | (simp; done) | (simp; omega) | (simp only [World.size_alloc, World.size_setCell, World.size_drew, size_drewN] at *; omega) | (simp at *; omega))
  have HB2 : Hid (Below w.heap.size w w2) := Lib.hid (HB1.out.trans (hk2.mono (by omega)))
  have HI2_2 : Hid (RowI w2 v2 (cplP s t)) := Lib.hid hr2.inp
  have x0_2 := x0
  have x1_2 := x1
  have y0_2 := y0
  have y1_2 := y1
  clear hb2 hk2 hc2 hf2 hr2 x0 x1 y0 y1
  go_wp2_with fail
  refine (sCouple_all s t _).mono ?_
  rintro e w3 ⟨v3, rfl, hr3, hb3⟩
  have hk3 : Below w2.heap.size w2 w3 := by (repeat' first | (with_reducible exact Below.refl _ _) | (with_reducible assumption) | (with_reducible refine below_drewN ?_ _) | (with_reducible refine Below.drew ?_) | (with_reducible refine Below.alloc ?_ ?_ _) | (with_reducible refine Below.setCell ?_ ?_ _) | (with_reducible refine Below.trans ?_ (Below.mono (by assumption) ?_)) | first | omega | (simp only [World.size_alloc, World.size_setCell, World.size_drew, size_drewN]; omega) | (simp; done) | (simp; omega) | (simp only [World.size_alloc, World.size_setCell, World.size_drew, size_drewN] at *; omega) | (simp at *; omega))
  have hz3 := hk3.size
  have HB3 : Hid (Below w.heap.size w w3) := Lib.hid (HB2.out.trans (hk3.mono (by omega)))
  have HI2_3 : Hid (RowI w3 v2 (cplP s t)) := Lib.hid (HI2_2.out.below hk3)
  have x0_3 := (hk3.cell (p := ⟨w1.heap.size, 0, none⟩) (by show w1.heap.size < _; omega)).trans x0_2
  have x1_3 := (hk3.cell (p := ⟨w1.heap.size, 1, none⟩) (by show w1.heap.size < _; omega)).trans x1_2
  have y0_3 := (hk3.cell (p := ⟨w1.heap.size + 1, 0, none⟩) (by show w1.heap.size + 1 < _; omega)).trans y0_2
  have y1_3 := (hk3.cell (p := ⟨w1.heap.size + 1, 1, none⟩) (by show w1.heap.size + 1 < _; omega)).trans y1_2
  have HI3_3 : Hid (RowI w3 v3 (cplP s t)) := Lib.hid (hr3.inp)
  clear hb3 hk3 HI2_2 x0_2 x1_2 y0_2 y1_2 hr3
  have hln := cplP_len_le s t
  cases hc : cplB s t
  · clear hc
    go_wp2_with fail
    refine (same_b v2 v3 _ _ (by omega) HI2_3.out HI3_3.out).mono ?_
    rintro e w4 ⟨rfl, hb4⟩
    have hk4 : Below w3.heap.size w3 w4 := by (repeat' first | (with_reducible exact Below.refl _ _) | (with_reducible assumption) | (with_reducible refine below_drewN ?_ _) | (with_reducible refine Below.drew ?_) | (with_reducible refine Below.alloc ?_ ?_ _) | (with_reducible refine Below.setCell ?_ ?_ _) | (with_reducible refine Below.trans ?_ (Below.mono (by assumption) ?_)) | first | omega | (simp only [World.size_alloc, World.size_setCell, World.size_drew, size_drewN]; omega) | (simp; done) | (simp; omega) | (simp only [World.size_alloc, World.size_setCell, World.size_drew, size_drewN] at *; omega) | (simp at *; omega))
    have hz4 := hk4.size
    have HB4 : Hid (Below w.heap.size w w4) := Lib.hid (HB3.out.trans (hk4.mono (by omega)))
    have HI2_4 : Hid (RowI w4 v2 (cplP s t)) := Lib.hid (HI2_3.out.below hk4)
    have HI3_4 : Hid (RowI w4 v3 (cplP s t)) := Lib.hid (HI3_3.out.below hk4)
    have x0_4 := (hk4.cell (p := ⟨w1.heap.size, 0, none⟩) (by show w1.heap.size < _; omega)).trans x0_3
    have x1_4 := (hk4.cell (p := ⟨w1.heap.size, 1, none⟩) (by show w1.heap.size < _; omega)).trans x1_3
    have y0_4 := (hk4.cell (p := ⟨w1.heap.size + 1, 0, none⟩) (by show w1.heap.size + 1 < _; omega)).trans y0_3
    have y1_4 := (hk4.cell (p := ⟨w1.heap.size + 1, 1, none⟩) (by show w1.heap.size + 1 < _; omega)).trans y1_3
    clear hb4 hk4 HI2_3 HI3_3 x0_3 x1_3 y0_3 y1_3
    go_wp2_with fail
    refine (same_b v2 v3 _ _ (by omega) HI2_4.out HI3_4.out).mono ?_
    rintro e w5 ⟨rfl, hb5⟩
    have hk5 : Below w4.heap.size w4 w5 := by (repeat' first | (with_reducible exact Below.refl _ _) | (with_reducible assumption) | (with_reducible refine below_drewN ?_ _) | (with_reducible refine Below.drew ?_) | (with_reducible refine Below.alloc ?_ ?_ _) | (with_reducible refine Below.setCell ?_ ?_ _) | (with_reducible refine Below.trans ?_ (Below.mono (by assumption) ?_)) | first | omega | (simp only [World.size_alloc, World.size_setCell, World.size_drew, size_drewN]; omega) | (simp; done) | (simp; omega) | (simp only [World.size_alloc, World.size_setCell, World.size_drew, size_drewN] at *; omega) | (simp at *; omega))
    have hz5 := hk5.size
    have HB5 : Hid (Below w.heap.size w w5) := Lib.hid (HB4.out.trans (hk5.mono (by omega)))
    have HI2_5 : Hid (RowI w5 v2 (cplP s t)) := Lib.hid (HI2_4.out.below hk5)
    have HI3_5 : Hid (RowI w5 v3 (cplP s t)) := Lib.hid (HI3_4.out.below hk5)
    have x0_5 := (hk5.cell (p := ⟨w1.heap.size, 0, none⟩) (by show w1.heap.size < _; omega)).trans x0_4
    have x1_5 := (hk5.cell (p := ⟨w1.heap.size, 1, none⟩) (by show w1.heap.size < _; omega)).trans x1_4
    have y0_5 := (hk5.cell (p := ⟨w1.heap.size + 1, 0, none⟩) (by show w1.heap.size + 1 < _; omega)).trans y0_4
    have y1_5 := (hk5.cell (p := ⟨w1.heap.size + 1, 1, none⟩) (by show w1.heap.size + 1 < _; omega)).trans y1_4
    clear hb5 hk5 HI2_4 HI3_4 x0_4 x1_4 y0_4 y1_4
    go_wp2
    go_ret
    exact ⟨rfl, HB5.out⟩
  have HC := Lib.hid hc
  clear hc
  go_wp2_with fail
  refine (same_b v2 v3 _ _ (by omega) HI2_3.out HI3_3.out).mono ?_
  rintro e w4 ⟨rfl, hb4⟩
  have hk4 : Below w3.heap.size w3 w4 := by (repeat' first | (with_reducible exact Below.refl _ _) | (with_reducible assumption) | (with_reducible refine below_drewN ?_ _) | (with_reducible refine Below.drew ?_) | (with_reducible refine Below.alloc ?_ ?_ _) | (with_reducible refine Below.setCell ?_ ?_ _) | (with_reducible refine Below.trans ?_ (Below.mono (by assumption) ?_)) | first | omega | (simp only [World.size_alloc, World.size_setCell, World.size_drew, size_drewN]; omega) | (simp; done) | (simp; omega) | (simp only [World.size_alloc, World.size_setCell, World.size_drew, size_drewN] at *; omega) | (simp at *; omega))
  have hz4 := hk4.size
  have HB4 : Hid (Below w.heap.size w w4) := Lib.hid (HB3.out.trans (hk4.mono (by omega)))
  have HI2_4 : Hid (RowI w4 v2 (cplP s t)) := Lib.hid (HI2_3.out.below hk4)
  have HI3_4 : Hid (RowI w4 v3 (cplP s t)) := Lib.hid (HI3_3.out.below hk4)
  have x0_4 := (hk4.cell (p := ⟨w1.heap.size, 0, none⟩) (by show w1.heap.size < _; omega)).trans x0_3
  have x1_4 := (hk4.cell (p := ⟨w1.heap.size, 1, none⟩) (by show w1.heap.size < _; omega)).trans x1_3
  have y0_4 := (hk4.cell (p := ⟨w1.heap.size + 1, 0, none⟩) (by show w1.heap.size + 1 < _; omega)).trans y0_3
  have y1_4 := (hk4.cell (p := ⟨w1.heap.size + 1, 1, none⟩) (by show w1.heap.size + 1 < _; omega)).trans y1_3
  clear hb4 hk4 HI2_3 HI3_3 x0_3 x1_3 y0_3 y1_3
  have HCE := Lib.hid (fun (u k : Int) (u0 : 0 ≤ u) (u8 : u ≤ 8) (k0 : 0 ≤ k) (k8 : k ≤ 8) => cpl_each HC.out u0 u8 k0 k8)
  obtain ⟨t1, t2, t3, t4⟩ := cplB_and HC.out
  obtain ⟨a1, a2', a3, a4⟩ := tvB_true t1
  obtain ⟨b1, b2', b3, b4⟩ := tvB_true t2
  clear t1 t2 t3 t4
  go_wp2
  go_loopw [9] (fun ii wr => ∃ i : Nat, i ≤ 9 ∧ ii = .int .i64 i ∧ Below w4.heap.size w4 wr) (fun ii _ => 9 - (intOf ii).toNat)
  case atStart => exact ⟨0, Nat.zero_le _, rfl, Below.refl _ _⟩
  case round =>
    obtain ⟨i, hi, rfl, hbel⟩ := hrel
    have i0 : (0 : Int) ≤ (i : Int) := Int.natCast_nonneg _
    obtain ⟨Wo, hWo⟩ : ∃ W, W = wr := ⟨wr, rfl⟩
    subst hWo
    by_cases hlt : i < 9
    · have i1 : (i : Int) ≤ 8 := by omega
      go_wp2
      go_loopw [10] (fun jj wr => ∃ j : Nat, j ≤ 9 ∧ jj = .int .i64 j ∧ Below w4.heap.size w4 wr) (fun jj _ => 9 - (intOf jj).toNat)
      case atStart => exact ⟨0, Nat.zero_le _, rfl, hbel⟩
      case round =>
        obtain ⟨j, hj, rfl, hbel1⟩ := hrel
        have j0 : (0 : Int) ≤ (j : Int) := Int.natCast_nonneg _
        by_cases hlj : j < 9
        · have j1 : (j : Int) ≤ 8 := by omega
          have hbz := hbel1.size
          have p0 := (hbel1.cell (p := ⟨w1.heap.size, 0, none⟩) (by show w1.heap.size < _; omega)).trans x0_4
          have p1 := (hbel1.cell (p := ⟨w1.heap.size, 1, none⟩) (by show w1.heap.size < _; omega)).trans x1_4
          have r0 := (hbel1.cell (p := ⟨w1.heap.size + 1, 0, none⟩) (by show w1.heap.size + 1 < _; omega)).trans y0_4
          have r1 := (hbel1.cell (p := ⟨w1.heap.size + 1, 1, none⟩) (by show w1.heap.size + 1 < _; omega)).trans y1_4
          have HV2 := Lib.hid (HI2_4.out.below hbel1)
          have hE := HCE.out i j (by omega) (by omega) (by omega) (by omega)
          have q1 : IntKind.i64.wrap (2 * s.2) = 2 * s.2 := IntWalk.i64_in _ (by omega)
          have q2 : IntKind.i64.wrap (2 * t.2) = 2 * t.2 := IntWalk.i64_in _ (by omega)
          have q3 : IntKind.i64.wrap (2 * (j : Int)) = 2 * (j : Int) := IntWalk.i64_in _ (by omega)
          have kM : ∀ n : Nat, cntT ((i : Int), (j : Int)) (cplP s t) = n → Calls Try.prog 24 #[v2, .agg #[.int .i64 (i : Int), .int .i64 (j : Int)]] wr fun e w' => e = .returned (.int .i64 (n : Int)) ∧ Below wr.heap.size wr w' := fun n hn => by
            have := many_any v2 ((i : Int), (j : Int)) (cplP s t) wr (by omega) HV2.out
            rw [hn] at this
            exact this
          have KM := Lib.hid kM
          clear kM
          cases hA : triB s.1 t.1 i
          · have HA := Lib.hid hA
            have HN : Hid (cntT ((i : Int), (j : Int)) (cplP s t) = 0) := Lib.hid (by rw [hE, hA]; rfl)
            clear hE hA
            go_wp2_with (first
              | (go_at_call 23; refine (iTri_any _ _ _ _).mono ?_; rintro e w' ⟨rfl, rfl⟩; rw [HA.out])
              | (go_at_call 24; refine (KM.out 0 HN.out).mono ?_; rintro e w5 ⟨rfl, hb5⟩))
            go_roundw
            case rel => exact ⟨j + 1, by omega, by go_num, hbel1.trans (hb5.mono (by omega))⟩
            case measure => simp [intOf]; omega
          · cases hB : triB (2 * s.2) (2 * t.2) (2 * (j : Int))
            · have HA := Lib.hid hA
              have HBb := Lib.hid hB
              have HN : Hid (cntT ((i : Int), (j : Int)) (cplP s t) = 0) := Lib.hid (by rw [hE, hA, hB]; rfl)
              clear hE hA hB
              go_wp2_with (first
                | (go_at_call 23; refine (iTri_any _ _ _ _).mono ?_; rintro e w' ⟨rfl, rfl⟩; (first | rw [HA.out] | rw [HBb.out]))
                | (go_at_call 24; refine (KM.out 0 HN.out).mono ?_; rintro e w5 ⟨rfl, hb5⟩))
              go_roundw
              case rel => exact ⟨j + 1, by omega, by go_num, hbel1.trans (hb5.mono (by omega))⟩
              case measure => simp [intOf]; omega
            · have HA := Lib.hid hA
              have HBb := Lib.hid hB
              have HN : Hid (cntT ((i : Int), (j : Int)) (cplP s t) = 1) := Lib.hid (by rw [hE, hA, hB]; rfl)
              clear hE hA hB
              go_wp2_with (first
                | (go_at_call 23; refine (iTri_any _ _ _ _).mono ?_; rintro e w' ⟨rfl, rfl⟩; (first | rw [HA.out] | rw [HBb.out]))
                | (go_at_call 24; refine (KM.out 1 HN.out).mono ?_; rintro e w5 ⟨rfl, hb5⟩))
              go_roundw
              case rel => exact ⟨j + 1, by omega, by go_num, hbel1.trans (hb5.mono (by omega))⟩
              case measure => simp [intOf]; omega
        · obtain rfl : j = 9 := by omega
          go_wp2
          go_roundw
          case rel => exact ⟨i + 1, by omega, by go_num, hbel1⟩
          case measure => simp [intOf]; omega
    · obtain rfl : i = 9 := by omega
      go_wp2
      go_ret
      exact ⟨rfl, HB4.out.trans (hbel.mono (by omega))⟩
end Go.Proofs.Ytmcjabfnlpohaaa
