import Derived.Test.YtjopcpoodhamcaaDoorGj
import Derived.Test.YtjopcpoodhamcaaDoorGg
/-
  The walk of slices' stable sort at terms, given what symMerge does. Conditions: none.
-/
namespace Go.Proofs.YtjopcpoodhamcaaDoor
set_option linter.unusedSimpArgs false
set_option linter.unusedVariables false
open Go.RowKit

set_option maxRecDepth 100000 in
set_option maxHeartbeats 4000000 in
theorem stable_core (g n c : Nat) (f : Nat → Tm) (w : World) (hn : n ≤ 400000) (hR : RowF w g n f) (hg : g < w.heap.size) (hok : ∀ k, okT (f k)) (hM : ∀ d, MergeOk g n c d) :
    Calls Tryd.prog 75 #[.slice (some ⟨g, 0, none⟩) n c, .int .i64 n, cmpF] w fun e w' => e = .returned (.tuple #[]) ∧ ∃ f', RowF w' g n f' ∧ But w.heap.size g w w' ∧ Step 0 n f f' ∧ Srt 0 n f' := by
  have HR := Lib.hid hR
  have HK := Lib.hid hok
  have HM := Lib.hid hM
  clear hR hok hM
  have n0 : (0 : Int) ≤ (n : Int) := Int.natCast_nonneg _
  have n1 : (n : Int) ≤ 400000 := by omega
  go_enter Tryd.func75, Tryd.ntmps75
  go_wp2
  go_loopw [7, 8] (fun x y wr => ∃ (a : Nat) (f' : Nat → Tm), x = .int .i64 a ∧ y = .int .i64 ((a : Int) + 20) ∧ a ≤ n ∧ RowF wr g n f' ∧ But w.heap.size g w wr ∧ Step 0 n f f' ∧ Low 20 a n f') (fun x _ _ => n - (intOf x).toNat)
  case atStart => exact ⟨0, f, rfl, rfl, Nat.zero_le _, HR.out, But.refl _ _ _, Step.refl _ _ _, Low.start _ _ _⟩
  case round =>
    obtain ⟨a, f1, rfl, rfl, han, hrow, hbut, hst, hlow⟩ := hrel
    have hbz := hbut.size
    have hgw : g < wr.heap.size := by omega
    have a0 : (0 : Int) ≤ (a : Int) := Int.natCast_nonneg _
    have a1 : (a : Int) ≤ (n : Int) := by omega
    have HW := Lib.hid hrow
    have HB := Lib.hid hbut
    have HS := Lib.hid hst
    have HL := Lib.hid hlow
    clear hrow hbut hst hlow
    by_cases hb : a + 20 ≤ n
    · have hb' : (a : Int) + 20 ≤ (n : Int) := by omega
      have hc : ∀ W, RowF W g n f1 → g < W.heap.size → Calls Tryd.prog 81 #[.slice (some ⟨g, 0, none⟩) n c, .int .i64 a, .int .i64 ((a : Int) + 20), cmpF] W fun e w' => e = .returned (.tuple #[]) ∧ ∃ f', RowF w' g n f' ∧ But W.heap.size g W w' ∧ Step a (a + 20) f1 f' ∧ Srt a (a + 20) f' := fun W hW hgW => by
        have := insertion_any g n c a (a + 20) f1 W (by omega) (by omega) hb hW hgW (fun k => HS.out.all HK.out k)
        rw [show ((a + 20 : Nat) : Int) = (a : Int) + 20 by omega] at this
        exact this
      have HC := Lib.hid hc
      clear hc
      go_wp2_with fail
      refine (HC.out _ HW.out hgw).mono ?_
      rintro ee w5 ⟨rfl, f5, hr5, hb5, hs5, hq5⟩
      have HFin := Lib.hid (show RowF w5 g n f5 ∧ But w.heap.size g w w5 ∧ Step 0 n f f5 ∧ Low 20 (a + 20) n f5 from ⟨hr5, HB.out.trans (hb5.mono hbz), HS.out.trans (hs5.wide (Nat.zero_le _) hb), HL.out.step (by omega) hb hs5 hq5⟩)
      clear hr5 hb5 hs5 hq5
      go_wp2
      go_roundw
      case rel => exact ⟨a + 20, f5, by go_num, by go_num, hb, HFin.out.1, HFin.out.2.1, HFin.out.2.2.1, HFin.out.2.2.2⟩
      case measure => simp [intOf]; omega
    · have hb' : ¬ (a : Int) + 20 ≤ (n : Int) := by omega
      have hc : ∀ W, RowF W g n f1 → g < W.heap.size → Calls Tryd.prog 81 #[.slice (some ⟨g, 0, none⟩) n c, .int .i64 a, .int .i64 n, cmpF] W fun e w' => e = .returned (.tuple #[]) ∧ ∃ f', RowF w' g n f' ∧ But W.heap.size g W w' ∧ Step a n f1 f' ∧ Srt a n f' := fun W hW hgW =>
        insertion_any g n c a n f1 W (by omega) han (Nat.le_refl _) hW hgW (fun k => HS.out.all HK.out k)
      have HC := Lib.hid hc
      clear hc
      go_wp2_with fail
      refine (HC.out _ HW.out hgw).mono ?_
      rintro ee w5 ⟨rfl, f5, hr5, hb5, hs5, hq5⟩
      have HFin := Lib.hid (show RowF w5 g n f5 ∧ But w.heap.size g w w5 ∧ Step 0 n f f5 ∧ Blk 20 n f5 from ⟨hr5, HB.out.trans (hb5.mono hbz), HS.out.trans (hs5.wide (Nat.zero_le _) (Nat.le_refl _)), HL.out.last (by omega) (by omega) hs5 hq5⟩)
      clear hr5 hb5 hs5 hq5
      go_wp2
      go_loopw [6] (fun x wr => ∃ (s : Nat) (f' : Nat → Tm), x = .int .i64 s ∧ 20 ≤ s ∧ s ≤ 800020 ∧ RowF wr g n f' ∧ But w.heap.size g w wr ∧ Step 0 n f f' ∧ Blk s n f') (fun x _ => n - (intOf x).toNat)
      case atStart => exact ⟨20, f5, rfl, by omega, by omega, HFin.out.1, HFin.out.2.1, HFin.out.2.2.1, HFin.out.2.2.2⟩
      case round =>
        obtain ⟨s, f6, rfl, hs20, hsz, hrow, hbut, hst, hblk⟩ := hrel
        obtain ⟨Wo, hWo⟩ : ∃ W, W = wr := ⟨wr, rfl⟩
        subst hWo
        have s0 : (20 : Int) ≤ (s : Int) := by omega
        have s1 : (s : Int) ≤ 800020 := by omega
        have HR6 := Lib.hid hrow
        have HB6 := Lib.hid hbut
        have HS6 := Lib.hid hst
        have HK6 := Lib.hid hblk
        clear hrow hbut hst hblk
        by_cases hlt : s < n
        · have hlt' : (s : Int) < (n : Int) := by omega
          go_wp2
          go_loopw [7, 8] (fun x y wr => ∃ (a : Nat) (f' : Nat → Tm), x = .int .i64 a ∧ y = .int .i64 ((a : Int) + 2 * (s : Int)) ∧ a ≤ n ∧ RowF wr g n f' ∧ But w.heap.size g w wr ∧ Step 0 n f f' ∧ Half s a n f') (fun x _ _ => n - (intOf x).toNat)
          case atStart => exact ⟨0, f6, rfl, by go_num, Nat.zero_le _, HR6.out, HB6.out, HS6.out, Half.start HK6.out⟩
          case round =>
            obtain ⟨a, f7, rfl, rfl, han, hrow, hbut, hst, hhalf⟩ := hrel
            have hbz := hbut.size
            have hgw : g < wr.heap.size := by omega
            have a0 : (0 : Int) ≤ (a : Int) := Int.natCast_nonneg _
            have a1 : (a : Int) ≤ (n : Int) := by omega
            have HW := Lib.hid hrow
            have HB := Lib.hid hbut
            have HS := Lib.hid hst
            have HL := Lib.hid hhalf
            clear hrow hbut hst hhalf
            by_cases hb : a + 2 * s ≤ n
            · have hb' : (a : Int) + 2 * (s : Int) ≤ (n : Int) := by omega
              have hc : ∀ W, RowF W g n f7 → g < W.heap.size → Calls Tryd.prog 82 #[.slice (some ⟨g, 0, none⟩) n c, .int .i64 a, .int .i64 ((a : Int) + (s : Int)), .int .i64 ((a : Int) + 2 * (s : Int)), cmpF] W fun e w' => e = .returned (.tuple #[]) ∧ ∃ f', RowF w' g n f' ∧ But W.heap.size g W w' ∧ Step a (a + 2 * s) f7 f' ∧ Srt a (a + 2 * s) f' := fun W hW hgW => by
                have t := HL.out.two (by omega) hb
                have := HM.out (a + 2 * s - a + 1) a (a + s) (a + 2 * s) f7 W (by omega) (by omega) (by omega) hb hW hgW (fun k => HS.out.all HK.out k) t.1 t.2
                rw [show ((a + s : Nat) : Int) = (a : Int) + (s : Int) by omega, show ((a + 2 * s : Nat) : Int) = (a : Int) + 2 * (s : Int) by omega] at this
                exact this
              have HC := Lib.hid hc
              clear hc
              go_wp2_with fail
              refine (HC.out _ HW.out hgw).mono ?_
              rintro ee w8 ⟨rfl, f8, hr8, hb8, hs8, hq8⟩
              have HFin := Lib.hid (show RowF w8 g n f8 ∧ But w.heap.size g w w8 ∧ Step 0 n f f8 ∧ Half s (a + 2 * s) n f8 from ⟨hr8, HB.out.trans (hb8.mono hbz), HS.out.trans (hs8.wide (Nat.zero_le _) hb), HL.out.step (by omega) hb hs8 hq8⟩)
              clear hr8 hb8 hs8 hq8
              go_wp2
              go_roundw
              case rel => exact ⟨a + 2 * s, f8, by go_num, by go_num, hb, HFin.out.1, HFin.out.2.1, HFin.out.2.2.1, HFin.out.2.2.2⟩
              case measure => simp [intOf]; omega
            · have hb' : ¬ (a : Int) + 2 * (s : Int) ≤ (n : Int) := by omega
              by_cases hm : a + s < n
              · have hm' : (a : Int) + (s : Int) < (n : Int) := by omega
                have hc : ∀ W, RowF W g n f7 → g < W.heap.size → Calls Tryd.prog 82 #[.slice (some ⟨g, 0, none⟩) n c, .int .i64 a, .int .i64 ((a : Int) + (s : Int)), .int .i64 n, cmpF] W fun e w' => e = .returned (.tuple #[]) ∧ ∃ f', RowF w' g n f' ∧ But W.heap.size g W w' ∧ Step a n f7 f' ∧ Srt a n f' := fun W hW hgW => by
                  have t := HL.out.rest (by omega) hm (by omega)
                  have := HM.out (n - a + 1) a (a + s) n f7 W (by omega) (by omega) hm (Nat.le_refl _) hW hgW (fun k => HS.out.all HK.out k) t.1 t.2
                  rw [show ((a + s : Nat) : Int) = (a : Int) + (s : Int) by omega] at this
                  exact this
                have HC := Lib.hid hc
                clear hc
                go_wp2_with fail
                refine (HC.out _ HW.out hgw).mono ?_
                rintro ee w8 ⟨rfl, f8, hr8, hb8, hs8, hq8⟩
                have HFin := Lib.hid (show RowF w8 g n f8 ∧ But w.heap.size g w w8 ∧ Step 0 n f f8 ∧ Blk (2 * s) n f8 from ⟨hr8, HB.out.trans (hb8.mono hbz), HS.out.trans (hs8.wide (Nat.zero_le _) (Nat.le_refl _)), HL.out.last (by omega) (by omega) hs8 hq8⟩)
                clear hr8 hb8 hs8 hq8
                go_wp2
                go_roundw
                case rel => exact ⟨2 * s, f8, by go_num, by omega, by omega, HFin.out.1, HFin.out.2.1, HFin.out.2.2.1, HFin.out.2.2.2⟩
                case measure => simp [intOf]; omega
              · have hm' : ¬ (a : Int) + (s : Int) < (n : Int) := by omega
                have HFin := Lib.hid (show RowF wr g n f7 ∧ But w.heap.size g w wr ∧ Step 0 n f f7 ∧ Blk (2 * s) n f7 from ⟨HW.out, HB.out, HS.out, HL.out.none (by omega) (by omega)⟩)
                go_wp2
                go_roundw
                case rel => exact ⟨2 * s, f7, by go_num, by omega, by omega, HFin.out.1, HFin.out.2.1, HFin.out.2.2.1, HFin.out.2.2.2⟩
                case measure => simp [intOf]; omega
        · have hlt' : ¬ (s : Int) < (n : Int) := by omega
          have hfin := HK6.out.all (by omega)
          have HFF := Lib.hid hfin
          clear hfin
          go_wp2
          go_end0
          exact ⟨rfl, f6, HR6.out, HB6.out, HS6.out, HFF.out⟩
end Go.Proofs.YtjopcpoodhamcaaDoor
