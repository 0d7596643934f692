import Derived.Test.YtjopcpoodhamcaaDoorGj
/-
  The walk of slices' symMerge at terms: the main case; the contract. Conditions: none.
-/
namespace Go.Proofs.YtjopcpoodhamcaaDoor
set_option linter.unusedSimpArgs false
set_option linter.unusedVariables false
open Go.RowKit

set_option maxRecDepth 100000 in
set_option maxHeartbeats 8000000 in
theorem merge_main (g n c a m b : Nat) (f : Nat → Tm) (w : World) (hn : n ≤ 1000000) (h1 : a + 1 < m) (h2 : m + 1 < b) (h3 : b ≤ n) (hR : RowF w g n f) (hg : g < w.heap.size) (hok : ∀ k, okT (f k)) (hs1 : Srt a m f) (hs2 : Srt m b f) (ih : MergeOk g n c (b - a)) :
    Calls Tryd.prog 82 #[.slice (some ⟨g, 0, none⟩) n c, .int .i64 a, .int .i64 m, .int .i64 b, cmpF] w fun e w' => e = .returned (.tuple #[]) ∧ ∃ f', RowF w' g n f' ∧ But w.heap.size g w w' ∧ Step a b f f' ∧ Srt a b f' := by
  have HR := Lib.hid hR
  have HK := Lib.hid hok
  have HS1 := Lib.hid hs1
  have HS2 := Lib.hid hs2
  have IH := Lib.hid ih
  obtain ⟨mid, hmid⟩ : ∃ mid, mid = (a + b) / 2 := ⟨_, rfl⟩
  clear hR hok hs1 hs2 ih
  have a0 : (0 : Int) ≤ (a : Int) := Int.natCast_nonneg _
  have m0 : (0 : Int) ≤ (m : Int) := Int.natCast_nonneg _
  have b0 : (0 : Int) ≤ (b : Int) := Int.natCast_nonneg _
  have d0 : (0 : Int) ≤ (mid : Int) := Int.natCast_nonneg _
  have z1 : (a : Int) + 1 < (m : Int) := by omega
  have z2 : (m : Int) + 1 < (b : Int) := by omega
  have z3 : (b : Int) ≤ 1000000 := by omega
  have z4 : (b : Int) ≤ (n : Int) := by omega
  have e2 : ¬ (m : Int) - (a : Int) = 1 := by omega
  have e3 : ((m : Int) - (a : Int) == 1) = false := by rw [beq_eq_false_iff_ne]; exact e2
  have e4 : ¬ (b : Int) - (m : Int) = 1 := by omega
  have e5 : ((b : Int) - (m : Int) == 1) = false := by rw [beq_eq_false_iff_ne]; exact e4
  have hd : ((a : Int) + (b : Int)) / 2 = (mid : Int) := by omega
  have hdt : ((a : Int) + (b : Int)).tdiv 2 = (mid : Int) := by rw [Int.tdiv_eq_ediv_of_nonneg (by omega)]; omega
  have hw1 : IntKind.u64.wrap ((a : Int) + (b : Int)) = (a : Int) + (b : Int) := by rw [IntKind.wrap_u64]; omega
  have hw2 : IntKind.u64.wrap (mid : Int) = (mid : Int) := by rw [IntKind.wrap_u64]; omega
  have hw3 : IntKind.i64.wrap (mid : Int) = (mid : Int) := IntWalk.i64_in _ (by omega)
  have z5 : (mid : Int) ≤ (b : Int) := by omega
  have hma : a < mid := by omega
  have hmb : mid < b := by omega
  have HMid := Lib.hid hmid
  clear hmid
  by_cases hmm : mid < m
  · have g1 : (mid : Int) < (m : Int) := by omega
    have g2 : (mid : Int) + (m : Int) - (b : Int) = ((mid + m - b : Nat) : Int) := by have := HMid.out; omega
    go_wp2
    clear e2 e3 e4 e5
    go_loopw [20, 21] (fun x y wr => ∃ (s r : Nat), x = .int .i64 s ∧ y = .int .i64 r ∧ (mid + m - b) ≤ s ∧ s ≤ r ∧ r ≤ mid ∧ RowF wr g n f ∧ But w.heap.size g w wr ∧ (s = (mid + m - b) ∨ key (f (s - 1)) ≤ key (f (mid + m - 1 - (s - 1)))) ∧ (r = mid ∨ key (f (mid + m - 1 - r)) < key (f r))) (fun x y _ => ((intOf y) - (intOf x)).toNat)
    case atStart => exact ⟨(mid + m - b), mid, by congr 1, rfl, Nat.le_refl _, by omega, Nat.le_refl _, HR.out, But.refl _ _ _, .inl rfl, .inl rfl⟩
    case round =>
      obtain ⟨s, r, rfl, rfl, hs0, hsr, hr0, hrow, hbut, hl, hh⟩ := hrel
      have hbz := hbut.size
      have hgw : g < wr.heap.size := by omega
      have s0' : (0 : Int) ≤ (s : Int) := Int.natCast_nonneg _
      by_cases hlt : s < r
      · obtain ⟨h, hhh⟩ : ∃ h : Nat, h = (s + r) / 2 := ⟨_, rfl⟩
        obtain ⟨pc, hpc⟩ : ∃ pc : Nat, pc = mid + m - 1 - h := ⟨_, rfl⟩
        have r0' : (0 : Int) ≤ (r : Int) := Int.natCast_nonneg _
        have q0 : (0 : Int) ≤ (h : Int) := Int.natCast_nonneg _
        have p0 : (0 : Int) ≤ (pc : Int) := Int.natCast_nonneg _
        have hij' : (s : Int) < (r : Int) := by omega
        have hjz : (r : Int) ≤ 1000000 := by omega
        have k1 : ((s : Int) + (r : Int)) / 2 = (h : Int) := by omega
        have k2 : ((s : Int) + (r : Int)).tdiv 2 = (h : Int) := by rw [Int.tdiv_eq_ediv_of_nonneg (by omega)]; omega
        have k3 : IntKind.u64.wrap ((s : Int) + (r : Int)) = (s : Int) + (r : Int) := by rw [IntKind.wrap_u64]; omega
        have k4 : IntKind.u64.wrap (h : Int) = (h : Int) := by rw [IntKind.wrap_u64]; omega
        have k5 : IntKind.i64.wrap (h : Int) = (h : Int) := IntWalk.i64_in _ (by omega)
        have k6 : (mid : Int) + (m : Int) - 1 - (h : Int) = (pc : Int) := by omega
        have k7 : IntKind.i64.wrap (pc : Int) = (pc : Int) := IntWalk.i64_in _ (by omega)
        have k8 : IntKind.i64.wrap ((mid : Int) + (m : Int) - 1 - (h : Int)) = (pc : Int) := by rw [k6]; exact k7
        have hhn : (h : Int) < (n : Int) := by omega
        have k9 : IntKind.i64.wrap ((h : Int) + 1) = (h : Int) + 1 := IntWalk.i64_in _ (by omega)
        have hpn : (pc : Int) < (n : Int) := by omega
        obtain ⟨x0, x1⟩ := hrow.1 h (by omega)
        obtain ⟨y0, y1⟩ := hrow.1 pc (by omega)
        obtain ⟨cv, hcv, c0, c1, kC⟩ := cmp_named (HK.out pc) (HK.out h)
        have HC := Lib.hid kC
        have HW := Lib.hid hrow
        have HB := Lib.hid hbut
        have HL := Lib.hid hl
        have HHi := Lib.hid hh
        have HHH := Lib.hid hhh
        have HPC := Lib.hid hpc
        clear hrow hbut hl hh kC hhh hpc
        go_wp2
        by_cases hk : key (f pc) < key (f h)
        · have hneg : decide (cv < 0) = true := decide_eq_true (hcv.2 hk)
          have HHi2 : Hid (h = mid ∨ key (f (mid + m - 1 - h)) < key (f h)) := Lib.hid (.inr (by rw [← HPC.out]; exact hk))
          clear hcv
          go_region_held3 (fun w' => w'.cell? ⟨g, h * 2, none⟩ = some (.int .i64 (f h).1) ∧ w'.cell? ⟨g, h * 2 + 1, none⟩ = some (.int .i64 (f h).2) ∧ w'.cell? ⟨g, pc * 2, none⟩ = some (.int .i64 (f pc).1) ∧ w'.cell? ⟨g, pc * 2 + 1, none⟩ = some (.int .i64 (f pc).2) ∧ wr.heap.size ≤ w'.heap.size ∧ Below wr.heap.size wr w')
            (first | (simp (disch := first | omega | (simp; done) | (simp; omega)) [go_sem, *]; done) | ((repeat' first | (with_reducible exact Below.refl _ _) | (with_reducible assumption) | (with_reducible refine below_drewN ?_ _) | (with_reducible refine Below.drew ?_) | (with_reducible refine Below.alloc ?_ ?_ _) | (with_reducible refine Below.setCell ?_ ?_ _) | (with_reducible refine Below.trans ?_ (Below.mono (by assumption) ?_)) | first | omega | (simp only [World.size_alloc, World.size_setCell, World.size_drew, size_drewN]; omega) | (simp; done) | (simp; omega) | (simp only [World.size_alloc, World.size_setCell, World.size_drew, size_drewN] at *; omega) | (simp at *; omega)); done) | ((try go_split_ands); (refine ⟨?_, ?_, ?_, ?_, ?_, ?_⟩ <;> first | omega | (simp only [World.size_alloc, World.size_setCell, World.size_drew, size_drewN]; omega) | (simp (disch := first | omega | (simp; done) | (simp; omega)) [go_sem, *]; done) | ((repeat' first | (with_reducible exact Below.refl _ _) | (with_reducible assumption) | (with_reducible refine below_drewN ?_ _) | (with_reducible refine Below.drew ?_) | (with_reducible refine Below.alloc ?_ ?_ _) | (with_reducible refine Below.setCell ?_ ?_ _) | (with_reducible refine Below.trans ?_ (Below.mono (by assumption) ?_)) | first | omega | (simp only [World.size_alloc, World.size_setCell, World.size_drew, size_drewN]; omega) | (simp; done) | (simp; omega) | (simp only [World.size_alloc, World.size_setCell, World.size_drew, size_drewN] at *; omega) | (simp at *; omega)); done))))
            (first | (go_at_call 49; refine (HC.out _).mono ?_; rintro e w5 ⟨rfl, hb5⟩; obtain ⟨hc5, hf5⟩ := bcell hb5; have hz5 := hb5.size; (try simp only [World.size_alloc, World.size_setCell, World.size_drew, size_drewN] at hz5 hc5 hf5)))
          have hB5 : Below wr.heap.size wr w5 := by (repeat' first | (with_reducible exact Below.refl _ _) | (with_reducible assumption) | (with_reducible refine below_drewN ?_ _) | (with_reducible refine Below.drew ?_) | (with_reducible refine Below.alloc ?_ ?_ _) | (with_reducible refine Below.setCell ?_ ?_ _) | (with_reducible refine Below.trans ?_ (Below.mono (by assumption) ?_)) | first | omega | (simp only [World.size_alloc, World.size_setCell, World.size_drew, size_drewN]; omega) | (simp; done) | (simp; omega) | (simp only [World.size_alloc, World.size_setCell, World.size_drew, size_drewN] at *; omega) | (simp at *; omega))
          clear hb5 hc5 hf5 x0 x1 y0 y1 hk c0 c1
          go_wp2
          go_roundw
          case rel => exact ⟨s, h, rfl, by go_num, hs0, by have := HHH.out; omega, by have := HHH.out; omega, HW.out.below hB5 hgw, HB.out.below hB5 (by omega), HL.out, HHi2.out⟩
          case measure => have := HHH.out; simp [intOf]; omega
        · have hneg : decide (cv < 0) = false := decide_eq_false (fun x => hk (hcv.1 x))
          have HL2 : Hid (h + 1 = (mid + m - b) ∨ key (f (h + 1 - 1)) ≤ key (f (mid + m - 1 - (h + 1 - 1)))) := Lib.hid (.inr (by rw [Nat.add_sub_cancel, ← HPC.out]; omega))
          clear hcv
          go_region_held3 (fun w' => w'.cell? ⟨g, h * 2, none⟩ = some (.int .i64 (f h).1) ∧ w'.cell? ⟨g, h * 2 + 1, none⟩ = some (.int .i64 (f h).2) ∧ w'.cell? ⟨g, pc * 2, none⟩ = some (.int .i64 (f pc).1) ∧ w'.cell? ⟨g, pc * 2 + 1, none⟩ = some (.int .i64 (f pc).2) ∧ wr.heap.size ≤ w'.heap.size ∧ Below wr.heap.size wr w')
            (first | (simp (disch := first | omega | (simp; done) | (simp; omega)) [go_sem, *]; done) | ((repeat' first | (with_reducible exact Below.refl _ _) | (with_reducible assumption) | (with_reducible refine below_drewN ?_ _) | (with_reducible refine Below.drew ?_) | (with_reducible refine Below.alloc ?_ ?_ _) | (with_reducible refine Below.setCell ?_ ?_ _) | (with_reducible refine Below.trans ?_ (Below.mono (by assumption) ?_)) | first | omega | (simp only [World.size_alloc, World.size_setCell, World.size_drew, size_drewN]; omega) | (simp; done) | (simp; omega) | (simp only [World.size_alloc, World.size_setCell, World.size_drew, size_drewN] at *; omega) | (simp at *; omega)); done) | ((try go_split_ands); (refine ⟨?_, ?_, ?_, ?_, ?_, ?_⟩ <;> first | omega | (simp only [World.size_alloc, World.size_setCell, World.size_drew, size_drewN]; omega) | (simp (disch := first | omega | (simp; done) | (simp; omega)) [go_sem, *]; done) | ((repeat' first | (with_reducible exact Below.refl _ _) | (with_reducible assumption) | (with_reducible refine below_drewN ?_ _) | (with_reducible refine Below.drew ?_) | (with_reducible refine Below.alloc ?_ ?_ _) | (with_reducible refine Below.setCell ?_ ?_ _) | (with_reducible refine Below.trans ?_ (Below.mono (by assumption) ?_)) | first | omega | (simp only [World.size_alloc, World.size_setCell, World.size_drew, size_drewN]; omega) | (simp; done) | (simp; omega) | (simp only [World.size_alloc, World.size_setCell, World.size_drew, size_drewN] at *; omega) | (simp at *; omega)); done))))
            (first | (go_at_call 49; refine (HC.out _).mono ?_; rintro e w5 ⟨rfl, hb5⟩; obtain ⟨hc5, hf5⟩ := bcell hb5; have hz5 := hb5.size; (try simp only [World.size_alloc, World.size_setCell, World.size_drew, size_drewN] at hz5 hc5 hf5)))
          have hB5 : Below wr.heap.size wr w5 := by (repeat' first | (with_reducible exact Below.refl _ _) | (with_reducible assumption) | (with_reducible refine below_drewN ?_ _) | (with_reducible refine Below.drew ?_) | (with_reducible refine Below.alloc ?_ ?_ _) | (with_reducible refine Below.setCell ?_ ?_ _) | (with_reducible refine Below.trans ?_ (Below.mono (by assumption) ?_)) | first | omega | (simp only [World.size_alloc, World.size_setCell, World.size_drew, size_drewN]; omega) | (simp; done) | (simp; omega) | (simp only [World.size_alloc, World.size_setCell, World.size_drew, size_drewN] at *; omega) | (simp at *; omega))
          clear hb5 hc5 hf5 x0 x1 y0 y1 hk c0 c1
          go_wp2
          go_roundw
          case rel => exact ⟨h + 1, r, by go_num, rfl, by have := HHH.out; omega, by have := HHH.out; omega, hr0, HW.out.below hB5 hgw, HB.out.below hB5 (by omega), HL2.out, HHi.out⟩
          case measure => have := HHH.out; simp [intOf]; omega
      · obtain rfl : s = r := by omega
        obtain ⟨e, hE⟩ : ∃ e, e = mid + m - s := ⟨_, rfl⟩
        have hcut : Cut f a m b mid s e := by rw [hE]; exact cut_of (r := s) (s0 := (mid + m - b)) (r0 := mid) HMid.out (by omega) (by omega) (.inr ⟨hmm, rfl, rfl⟩) hs0 hr0 hl hh
        have cc1 := hcut.as
        have cc2 := hcut.sm
        have cc3 := hcut.smid
        have cc4 := hcut.me
        have cc5 := hcut.eb
        have cc6 := hcut.mide
        have HCut := Lib.hid hcut
        obtain ⟨F1, hF1⟩ : ∃ F1, F1 = rotR f s m e := ⟨_, rfl⟩
        have hhalf := hcut.halves (by omega) (by omega) HS1.out HS2.out
        rw [← hF1] at hhalf
        have HH := Lib.hid hhalf
        have HF1 := Lib.hid hF1
        have hee : (mid : Int) + (m : Int) - (s : Int) = (e : Int) := by omega
        have heW : IntKind.i64.wrap (e : Int) = (e : Int) := IntWalk.i64_in _ (by omega)
        have HW := Lib.hid hrow
        have HB := Lib.hid hbut
        have HEE := Lib.hid hE
        clear hrow hbut hl hh hcut hhalf hF1 hE
        by_cases hro : s < m ∧ m < e
        · have o1 : (s : Int) < (m : Int) := by omega
          have o2 : (m : Int) < (e : Int) := by omega
          have hc : ∀ W, RowF W g n f → g < W.heap.size → Calls Tryd.prog 83 #[.slice (some ⟨g, 0, none⟩) n c, .int .i64 s, .int .i64 m, .int .i64 e, cmpF] W fun ee w' => ee = .returned (.tuple #[]) ∧ RowF w' g n F1 ∧ But W.heap.size g W w' ∧ Step s e f F1 := fun W hW hgW => by
            rw [HF1.out]
            exact (rotate_any g n c s m e cmpF f W hn hro.1 hro.2 (by omega) hW hgW).mono fun e w' h => by
              exact h
          have HC0 := Lib.hid hc
          clear hc
          go_wp2_with fail
          all_goals (
            refine (HC0.out _ HW.out (by omega)).mono ?_
            rintro ee w6 ⟨rfl, hr6, hb6, hs6⟩
            have hz6 := hb6.size
            have HR1 := Lib.hid hr6
            have HB1 := Lib.hid (HB.out.trans (hb6.mono (by have := HB.out.size; omega)))
            have HSt1 := Lib.hid (hs6.wide (a' := a) (b' := b) (by omega) (by omega))
            clear hr6 hb6 hs6
            by_cases hr1 : a < s ∧ s < mid
            · have l1 : (a : Int) < (s : Int) := by omega
              have l2 : (s : Int) < (mid : Int) := by omega
              have hc : ∀ W, RowF W g n F1 → g < W.heap.size → Calls Tryd.prog 82 #[.slice (some ⟨g, 0, none⟩) n c, .int .i64 a, .int .i64 s, .int .i64 mid, cmpF] W fun e w' => e = .returned (.tuple #[]) ∧ ∃ f', RowF w' g n f' ∧ But W.heap.size g W w' ∧ Step a mid F1 f' ∧ Srt a mid f' := fun W hW hgW => IH.out a s mid F1 W (by omega) hr1.1 hr1.2 (by omega) hW hgW (fun k => HSt1.out.all HK.out k) HH.out.1 HH.out.2.1
              have HC1 := Lib.hid hc
              clear hc
              go_wp2_with fail
              all_goals (
                refine (HC1.out _ HR1.out (by omega)).mono ?_
                rintro ee w7 ⟨rfl, f7, hr7, hb7, hs7, hq7⟩
                have hz7 := hb7.size
                have HRW := Lib.hid hr7
                have HBW := Lib.hid (HB1.out.trans (hb7.mono (by have := HB1.out.size; omega)))
                have HSW := Lib.hid (HSt1.out.trans (hs7.wide (Nat.le_refl _) (by omega)))
                have HST := Lib.hid hs7
                have HRM := Lib.hid hq7
                have HE1 : Hid (Srt mid e f7) := Lib.hid (HH.out.2.2.1.congr fun k k1 k2 => HST.out.out k (by omega))
                have HE2 : Hid (Srt e b f7) := Lib.hid (HH.out.2.2.2.1.congr fun k k1 k2 => HST.out.out k (by have := HCut.out.mide; omega))
                have HLE := Lib.hid HH.out.2.2.2.2
                clear hr7 hb7 hs7 hq7
                by_cases hr2 : mid < e ∧ e < b
                · have r1 : (mid : Int) < (e : Int) := by omega
                  have r2 : (e : Int) < (b : Int) := by omega
                  have hc : ∀ W, RowF W g n f7 → g < W.heap.size → Calls Tryd.prog 82 #[.slice (some ⟨g, 0, none⟩) n c, .int .i64 mid, .int .i64 e, .int .i64 b, cmpF] W fun e w' => e = .returned (.tuple #[]) ∧ ∃ f', RowF w' g n f' ∧ But W.heap.size g W w' ∧ Step mid b f7 f' ∧ Srt mid b f' := fun W hW hgW => IH.out mid e b f7 W (by omega) hr2.1 hr2.2 h3 hW hgW (fun k => HSW.out.all HK.out k) HE1.out HE2.out
                  have HC2 := Lib.hid hc
                  clear hc
                  go_wp2_with fail
                  all_goals (
                   refine (HC2.out _ HRW.out (by omega)).mono ?_
                   rintro ee w8 ⟨rfl, f8, hr8, hb8, hs8, hq8⟩
                   have HFin := Lib.hid (show RowF w8 g n f8 ∧ But w.heap.size g w w8 ∧ Step a b f f8 ∧ Srt a b f8 from ⟨hr8, HBW.out.trans (hb8.mono (by have := HBW.out.size; omega)), HSW.out.trans (hs8.wide (by omega) (Nat.le_refl _)), halves_join HLE.out HST.out hs8 HRM.out hq8⟩)
                   clear hr8 hb8 hs8 hq8
                   go_wp2
                   all_goals go_end0
                   all_goals exact ⟨rfl, f8, HFin.out⟩)
                · have hcase : e = mid ∨ e = b := by have := HCut.out.mide; have := HCut.out.eb; omega
                  have hq : Srt mid b f7 := by
                    rcases hcase with h | h
                    · rw [← h]; exact HE2.out
                    · rw [← h]; exact HE1.out
                  have HFin := Lib.hid (show RowF w7 g n f7 ∧ But w.heap.size g w w7 ∧ Step a b f f7 ∧ Srt a b f7 from ⟨HRW.out, HBW.out, HSW.out, halves_join HLE.out HST.out (Step.refl _ _ _) HRM.out hq⟩)
                  rcases Nat.lt_or_ge mid e with c1 | c1
                  · have r1 : (mid : Int) < (e : Int) := by omega
                    have r2 : ¬ (e : Int) < (b : Int) := by omega
                    go_wp2
                    all_goals go_end0
                    all_goals exact ⟨rfl, f7, HFin.out⟩
                  · have r1 : ¬ (mid : Int) < (e : Int) := by omega
                    go_wp2
                    all_goals go_end0
                    all_goals exact ⟨rfl, f7, HFin.out⟩
                )
            · have hcase : s = a ∨ s = mid := by have := HCut.out.as; have := HCut.out.smid; omega
              have HRM : Hid (Srt a mid F1) := Lib.hid (by
                rcases hcase with h | h
                · rw [← h]; exact HH.out.2.1
                · rw [← h]; exact HH.out.1)
              have HRW := HR1
              have HBW := HB1
              have HSW := HSt1
              have HST : Hid (Step a mid F1 F1) := Lib.hid (Step.refl _ _ _)
              have HE1 := Lib.hid HH.out.2.2.1
              have HE2 := Lib.hid HH.out.2.2.2.1
              have HLE := Lib.hid HH.out.2.2.2.2
              rcases Nat.lt_or_ge a s with c0 | c0
              · have l1 : (a : Int) < (s : Int) := by omega
                have l2 : ¬ (s : Int) < (mid : Int) := by omega
                by_cases hr2 : mid < e ∧ e < b
                · have r1 : (mid : Int) < (e : Int) := by omega
                  have r2 : (e : Int) < (b : Int) := by omega
                  have hc : ∀ W, RowF W g n F1 → g < W.heap.size → Calls Tryd.prog 82 #[.slice (some ⟨g, 0, none⟩) n c, .int .i64 mid, .int .i64 e, .int .i64 b, cmpF] W fun e w' => e = .returned (.tuple #[]) ∧ ∃ f', RowF w' g n f' ∧ But W.heap.size g W w' ∧ Step mid b F1 f' ∧ Srt mid b f' := fun W hW hgW => IH.out mid e b F1 W (by omega) hr2.1 hr2.2 h3 hW hgW (fun k => HSW.out.all HK.out k) HE1.out HE2.out
                  have HC2 := Lib.hid hc
                  clear hc
                  go_wp2_with fail
                  all_goals (
                   refine (HC2.out _ HRW.out (by omega)).mono ?_
                   rintro ee w8 ⟨rfl, f8, hr8, hb8, hs8, hq8⟩
                   have HFin := Lib.hid (show RowF w8 g n f8 ∧ But w.heap.size g w w8 ∧ Step a b f f8 ∧ Srt a b f8 from ⟨hr8, HBW.out.trans (hb8.mono (by have := HBW.out.size; omega)), HSW.out.trans (hs8.wide (by omega) (Nat.le_refl _)), halves_join HLE.out HST.out hs8 HRM.out hq8⟩)
                   clear hr8 hb8 hs8 hq8
                   go_wp2
                   all_goals go_end0
                   all_goals exact ⟨rfl, f8, HFin.out⟩)
                · have hcase : e = mid ∨ e = b := by have := HCut.out.mide; have := HCut.out.eb; omega
                  have hq : Srt mid b F1 := by
                    rcases hcase with h | h
                    · rw [← h]; exact HE2.out
                    · rw [← h]; exact HE1.out
                  have HFin := Lib.hid (show RowF w6 g n F1 ∧ But w.heap.size g w w6 ∧ Step a b f F1 ∧ Srt a b F1 from ⟨HRW.out, HBW.out, HSW.out, halves_join HLE.out HST.out (Step.refl _ _ _) HRM.out hq⟩)
                  rcases Nat.lt_or_ge mid e with c1 | c1
                  · have r1 : (mid : Int) < (e : Int) := by omega
                    have r2 : ¬ (e : Int) < (b : Int) := by omega
                    go_wp2
                    all_goals go_end0
                    all_goals exact ⟨rfl, F1, HFin.out⟩
                  · have r1 : ¬ (mid : Int) < (e : Int) := by omega
                    go_wp2
                    all_goals go_end0
                    all_goals exact ⟨rfl, F1, HFin.out⟩
              · have l1 : ¬ (a : Int) < (s : Int) := by omega
                by_cases hr2 : mid < e ∧ e < b
                · have r1 : (mid : Int) < (e : Int) := by omega
                  have r2 : (e : Int) < (b : Int) := by omega
                  have hc : ∀ W, RowF W g n F1 → g < W.heap.size → Calls Tryd.prog 82 #[.slice (some ⟨g, 0, none⟩) n c, .int .i64 mid, .int .i64 e, .int .i64 b, cmpF] W fun e w' => e = .returned (.tuple #[]) ∧ ∃ f', RowF w' g n f' ∧ But W.heap.size g W w' ∧ Step mid b F1 f' ∧ Srt mid b f' := fun W hW hgW => IH.out mid e b F1 W (by omega) hr2.1 hr2.2 h3 hW hgW (fun k => HSW.out.all HK.out k) HE1.out HE2.out
                  have HC2 := Lib.hid hc
                  clear hc
                  go_wp2_with fail
                  all_goals (
                   refine (HC2.out _ HRW.out (by omega)).mono ?_
                   rintro ee w8 ⟨rfl, f8, hr8, hb8, hs8, hq8⟩
                   have HFin := Lib.hid (show RowF w8 g n f8 ∧ But w.heap.size g w w8 ∧ Step a b f f8 ∧ Srt a b f8 from ⟨hr8, HBW.out.trans (hb8.mono (by have := HBW.out.size; omega)), HSW.out.trans (hs8.wide (by omega) (Nat.le_refl _)), halves_join HLE.out HST.out hs8 HRM.out hq8⟩)
                   clear hr8 hb8 hs8 hq8
                   go_wp2
                   all_goals go_end0
                   all_goals exact ⟨rfl, f8, HFin.out⟩)
                · have hcase : e = mid ∨ e = b := by have := HCut.out.mide; have := HCut.out.eb; omega
                  have hq : Srt mid b F1 := by
                    rcases hcase with h | h
                    · rw [← h]; exact HE2.out
                    · rw [← h]; exact HE1.out
                  have HFin := Lib.hid (show RowF w6 g n F1 ∧ But w.heap.size g w w6 ∧ Step a b f F1 ∧ Srt a b F1 from ⟨HRW.out, HBW.out, HSW.out, halves_join HLE.out HST.out (Step.refl _ _ _) HRM.out hq⟩)
                  rcases Nat.lt_or_ge mid e with c1 | c1
                  · have r1 : (mid : Int) < (e : Int) := by omega
                    have r2 : ¬ (e : Int) < (b : Int) := by omega
                    go_wp2
                    all_goals go_end0
                    all_goals exact ⟨rfl, F1, HFin.out⟩
                  · have r1 : ¬ (mid : Int) < (e : Int) := by omega
                    go_wp2
                    all_goals go_end0
                    all_goals exact ⟨rfl, F1, HFin.out⟩
            )
        · have hcase : s = m ∨ e = m := by have := HCut.out.sm; have := HCut.out.me; omega
          have hF : F1 = f := by rw [HF1.out]; exact rot_none hcase
          have HR1 : Hid (RowF wr g n F1) := Lib.hid (by rw [hF]; exact HW.out)
          have HB1 := HB
          have HSt1 : Hid (Step a b f F1) := Lib.hid (by rw [hF]; exact Step.refl _ _ _)
          clear hF
          rcases Nat.lt_or_ge s m with c9 | c9
          · have o1 : (s : Int) < (m : Int) := by omega
            have o2 : ¬ (m : Int) < (e : Int) := by omega
            by_cases hr1 : a < s ∧ s < mid
            · have l1 : (a : Int) < (s : Int) := by omega
              have l2 : (s : Int) < (mid : Int) := by omega
              have hc : ∀ W, RowF W g n F1 → g < W.heap.size → Calls Tryd.prog 82 #[.slice (some ⟨g, 0, none⟩) n c, .int .i64 a, .int .i64 s, .int .i64 mid, cmpF] W fun e w' => e = .returned (.tuple #[]) ∧ ∃ f', RowF w' g n f' ∧ But W.heap.size g W w' ∧ Step a mid F1 f' ∧ Srt a mid f' := fun W hW hgW => IH.out a s mid F1 W (by omega) hr1.1 hr1.2 (by omega) hW hgW (fun k => HSt1.out.all HK.out k) HH.out.1 HH.out.2.1
              have HC1 := Lib.hid hc
              clear hc
              go_wp2_with fail
              all_goals (
                refine (HC1.out _ HR1.out (by omega)).mono ?_
                rintro ee w7 ⟨rfl, f7, hr7, hb7, hs7, hq7⟩
                have hz7 := hb7.size
                have HRW := Lib.hid hr7
                have HBW := Lib.hid (HB1.out.trans (hb7.mono (by have := HB1.out.size; omega)))
                have HSW := Lib.hid (HSt1.out.trans (hs7.wide (Nat.le_refl _) (by omega)))
                have HST := Lib.hid hs7
                have HRM := Lib.hid hq7
                have HE1 : Hid (Srt mid e f7) := Lib.hid (HH.out.2.2.1.congr fun k k1 k2 => HST.out.out k (by omega))
                have HE2 : Hid (Srt e b f7) := Lib.hid (HH.out.2.2.2.1.congr fun k k1 k2 => HST.out.out k (by have := HCut.out.mide; omega))
                have HLE := Lib.hid HH.out.2.2.2.2
                clear hr7 hb7 hs7 hq7
                by_cases hr2 : mid < e ∧ e < b
                · have r1 : (mid : Int) < (e : Int) := by omega
                  have r2 : (e : Int) < (b : Int) := by omega
                  have hc : ∀ W, RowF W g n f7 → g < W.heap.size → Calls Tryd.prog 82 #[.slice (some ⟨g, 0, none⟩) n c, .int .i64 mid, .int .i64 e, .int .i64 b, cmpF] W fun e w' => e = .returned (.tuple #[]) ∧ ∃ f', RowF w' g n f' ∧ But W.heap.size g W w' ∧ Step mid b f7 f' ∧ Srt mid b f' := fun W hW hgW => IH.out mid e b f7 W (by omega) hr2.1 hr2.2 h3 hW hgW (fun k => HSW.out.all HK.out k) HE1.out HE2.out
                  have HC2 := Lib.hid hc
                  clear hc
                  go_wp2_with fail
                  all_goals (
                   refine (HC2.out _ HRW.out (by omega)).mono ?_
                   rintro ee w8 ⟨rfl, f8, hr8, hb8, hs8, hq8⟩
                   have HFin := Lib.hid (show RowF w8 g n f8 ∧ But w.heap.size g w w8 ∧ Step a b f f8 ∧ Srt a b f8 from ⟨hr8, HBW.out.trans (hb8.mono (by have := HBW.out.size; omega)), HSW.out.trans (hs8.wide (by omega) (Nat.le_refl _)), halves_join HLE.out HST.out hs8 HRM.out hq8⟩)
                   clear hr8 hb8 hs8 hq8
                   go_wp2
                   all_goals go_end0
                   all_goals exact ⟨rfl, f8, HFin.out⟩)
                · have hcase : e = mid ∨ e = b := by have := HCut.out.mide; have := HCut.out.eb; omega
                  have hq : Srt mid b f7 := by
                    rcases hcase with h | h
                    · rw [← h]; exact HE2.out
                    · rw [← h]; exact HE1.out
                  have HFin := Lib.hid (show RowF w7 g n f7 ∧ But w.heap.size g w w7 ∧ Step a b f f7 ∧ Srt a b f7 from ⟨HRW.out, HBW.out, HSW.out, halves_join HLE.out HST.out (Step.refl _ _ _) HRM.out hq⟩)
                  rcases Nat.lt_or_ge mid e with c1 | c1
                  · have r1 : (mid : Int) < (e : Int) := by omega
                    have r2 : ¬ (e : Int) < (b : Int) := by omega
                    go_wp2
                    all_goals go_end0
                    all_goals exact ⟨rfl, f7, HFin.out⟩
                  · have r1 : ¬ (mid : Int) < (e : Int) := by omega
                    go_wp2
                    all_goals go_end0
                    all_goals exact ⟨rfl, f7, HFin.out⟩
                )
            · have hcase : s = a ∨ s = mid := by have := HCut.out.as; have := HCut.out.smid; omega
              have HRM : Hid (Srt a mid F1) := Lib.hid (by
                rcases hcase with h | h
                · rw [← h]; exact HH.out.2.1
                · rw [← h]; exact HH.out.1)
              have HRW := HR1
              have HBW := HB1
              have HSW := HSt1
              have HST : Hid (Step a mid F1 F1) := Lib.hid (Step.refl _ _ _)
              have HE1 := Lib.hid HH.out.2.2.1
              have HE2 := Lib.hid HH.out.2.2.2.1
              have HLE := Lib.hid HH.out.2.2.2.2
              rcases Nat.lt_or_ge a s with c0 | c0
              · have l1 : (a : Int) < (s : Int) := by omega
                have l2 : ¬ (s : Int) < (mid : Int) := by omega
                by_cases hr2 : mid < e ∧ e < b
                · have r1 : (mid : Int) < (e : Int) := by omega
                  have r2 : (e : Int) < (b : Int) := by omega
                  have hc : ∀ W, RowF W g n F1 → g < W.heap.size → Calls Tryd.prog 82 #[.slice (some ⟨g, 0, none⟩) n c, .int .i64 mid, .int .i64 e, .int .i64 b, cmpF] W fun e w' => e = .returned (.tuple #[]) ∧ ∃ f', RowF w' g n f' ∧ But W.heap.size g W w' ∧ Step mid b F1 f' ∧ Srt mid b f' := fun W hW hgW => IH.out mid e b F1 W (by omega) hr2.1 hr2.2 h3 hW hgW (fun k => HSW.out.all HK.out k) HE1.out HE2.out
                  have HC2 := Lib.hid hc
                  clear hc
                  go_wp2_with fail
                  all_goals (
                   refine (HC2.out _ HRW.out (by omega)).mono ?_
                   rintro ee w8 ⟨rfl, f8, hr8, hb8, hs8, hq8⟩
                   have HFin := Lib.hid (show RowF w8 g n f8 ∧ But w.heap.size g w w8 ∧ Step a b f f8 ∧ Srt a b f8 from ⟨hr8, HBW.out.trans (hb8.mono (by have := HBW.out.size; omega)), HSW.out.trans (hs8.wide (by omega) (Nat.le_refl _)), halves_join HLE.out HST.out hs8 HRM.out hq8⟩)
                   clear hr8 hb8 hs8 hq8
                   go_wp2
                   all_goals go_end0
                   all_goals exact ⟨rfl, f8, HFin.out⟩)
                · have hcase : e = mid ∨ e = b := by have := HCut.out.mide; have := HCut.out.eb; omega
                  have hq : Srt mid b F1 := by
                    rcases hcase with h | h
                    · rw [← h]; exact HE2.out
                    · rw [← h]; exact HE1.out
                  have HFin := Lib.hid (show RowF wr g n F1 ∧ But w.heap.size g w wr ∧ Step a b f F1 ∧ Srt a b F1 from ⟨HRW.out, HBW.out, HSW.out, halves_join HLE.out HST.out (Step.refl _ _ _) HRM.out hq⟩)
                  rcases Nat.lt_or_ge mid e with c1 | c1
                  · have r1 : (mid : Int) < (e : Int) := by omega
                    have r2 : ¬ (e : Int) < (b : Int) := by omega
                    go_wp2
                    all_goals go_end0
                    all_goals exact ⟨rfl, F1, HFin.out⟩
                  · have r1 : ¬ (mid : Int) < (e : Int) := by omega
                    go_wp2
                    all_goals go_end0
                    all_goals exact ⟨rfl, F1, HFin.out⟩
              · have l1 : ¬ (a : Int) < (s : Int) := by omega
                by_cases hr2 : mid < e ∧ e < b
                · have r1 : (mid : Int) < (e : Int) := by omega
                  have r2 : (e : Int) < (b : Int) := by omega
                  have hc : ∀ W, RowF W g n F1 → g < W.heap.size → Calls Tryd.prog 82 #[.slice (some ⟨g, 0, none⟩) n c, .int .i64 mid, .int .i64 e, .int .i64 b, cmpF] W fun e w' => e = .returned (.tuple #[]) ∧ ∃ f', RowF w' g n f' ∧ But W.heap.size g W w' ∧ Step mid b F1 f' ∧ Srt mid b f' := fun W hW hgW => IH.out mid e b F1 W (by omega) hr2.1 hr2.2 h3 hW hgW (fun k => HSW.out.all HK.out k) HE1.out HE2.out
                  have HC2 := Lib.hid hc
                  clear hc
                  go_wp2_with fail
                  all_goals (
                   refine (HC2.out _ HRW.out (by omega)).mono ?_
                   rintro ee w8 ⟨rfl, f8, hr8, hb8, hs8, hq8⟩
                   have HFin := Lib.hid (show RowF w8 g n f8 ∧ But w.heap.size g w w8 ∧ Step a b f f8 ∧ Srt a b f8 from ⟨hr8, HBW.out.trans (hb8.mono (by have := HBW.out.size; omega)), HSW.out.trans (hs8.wide (by omega) (Nat.le_refl _)), halves_join HLE.out HST.out hs8 HRM.out hq8⟩)
                   clear hr8 hb8 hs8 hq8
                   go_wp2
                   all_goals go_end0
                   all_goals exact ⟨rfl, f8, HFin.out⟩)
                · have hcase : e = mid ∨ e = b := by have := HCut.out.mide; have := HCut.out.eb; omega
                  have hq : Srt mid b F1 := by
                    rcases hcase with h | h
                    · rw [← h]; exact HE2.out
                    · rw [← h]; exact HE1.out
                  have HFin := Lib.hid (show RowF wr g n F1 ∧ But w.heap.size g w wr ∧ Step a b f F1 ∧ Srt a b F1 from ⟨HRW.out, HBW.out, HSW.out, halves_join HLE.out HST.out (Step.refl _ _ _) HRM.out hq⟩)
                  rcases Nat.lt_or_ge mid e with c1 | c1
                  · have r1 : (mid : Int) < (e : Int) := by omega
                    have r2 : ¬ (e : Int) < (b : Int) := by omega
                    go_wp2
                    all_goals go_end0
                    all_goals exact ⟨rfl, F1, HFin.out⟩
                  · have r1 : ¬ (mid : Int) < (e : Int) := by omega
                    go_wp2
                    all_goals go_end0
                    all_goals exact ⟨rfl, F1, HFin.out⟩
          · have o1 : ¬ (s : Int) < (m : Int) := by omega
            by_cases hr1 : a < s ∧ s < mid
            · have l1 : (a : Int) < (s : Int) := by omega
              have l2 : (s : Int) < (mid : Int) := by omega
              have hc : ∀ W, RowF W g n F1 → g < W.heap.size → Calls Tryd.prog 82 #[.slice (some ⟨g, 0, none⟩) n c, .int .i64 a, .int .i64 s, .int .i64 mid, cmpF] W fun e w' => e = .returned (.tuple #[]) ∧ ∃ f', RowF w' g n f' ∧ But W.heap.size g W w' ∧ Step a mid F1 f' ∧ Srt a mid f' := fun W hW hgW => IH.out a s mid F1 W (by omega) hr1.1 hr1.2 (by omega) hW hgW (fun k => HSt1.out.all HK.out k) HH.out.1 HH.out.2.1
              have HC1 := Lib.hid hc
              clear hc
              go_wp2_with fail
              all_goals (
                refine (HC1.out _ HR1.out (by omega)).mono ?_
                rintro ee w7 ⟨rfl, f7, hr7, hb7, hs7, hq7⟩
                have hz7 := hb7.size
                have HRW := Lib.hid hr7
                have HBW := Lib.hid (HB1.out.trans (hb7.mono (by have := HB1.out.size; omega)))
                have HSW := Lib.hid (HSt1.out.trans (hs7.wide (Nat.le_refl _) (by omega)))
                have HST := Lib.hid hs7
                have HRM := Lib.hid hq7
                have HE1 : Hid (Srt mid e f7) := Lib.hid (HH.out.2.2.1.congr fun k k1 k2 => HST.out.out k (by omega))
                have HE2 : Hid (Srt e b f7) := Lib.hid (HH.out.2.2.2.1.congr fun k k1 k2 => HST.out.out k (by have := HCut.out.mide; omega))
                have HLE := Lib.hid HH.out.2.2.2.2
                clear hr7 hb7 hs7 hq7
                by_cases hr2 : mid < e ∧ e < b
                · have r1 : (mid : Int) < (e : Int) := by omega
                  have r2 : (e : Int) < (b : Int) := by omega
                  have hc : ∀ W, RowF W g n f7 → g < W.heap.size → Calls Tryd.prog 82 #[.slice (some ⟨g, 0, none⟩) n c, .int .i64 mid, .int .i64 e, .int .i64 b, cmpF] W fun e w' => e = .returned (.tuple #[]) ∧ ∃ f', RowF w' g n f' ∧ But W.heap.size g W w' ∧ Step mid b f7 f' ∧ Srt mid b f' := fun W hW hgW => IH.out mid e b f7 W (by omega) hr2.1 hr2.2 h3 hW hgW (fun k => HSW.out.all HK.out k) HE1.out HE2.out
                  have HC2 := Lib.hid hc
                  clear hc
                  go_wp2_with fail
                  all_goals (
                   refine (HC2.out _ HRW.out (by omega)).mono ?_
                   rintro ee w8 ⟨rfl, f8, hr8, hb8, hs8, hq8⟩
                   have HFin := Lib.hid (show RowF w8 g n f8 ∧ But w.heap.size g w w8 ∧ Step a b f f8 ∧ Srt a b f8 from ⟨hr8, HBW.out.trans (hb8.mono (by have := HBW.out.size; omega)), HSW.out.trans (hs8.wide (by omega) (Nat.le_refl _)), halves_join HLE.out HST.out hs8 HRM.out hq8⟩)
                   clear hr8 hb8 hs8 hq8
                   go_wp2
                   all_goals go_end0
                   all_goals exact ⟨rfl, f8, HFin.out⟩)
                · have hcase : e = mid ∨ e = b := by have := HCut.out.mide; have := HCut.out.eb; omega
                  have hq : Srt mid b f7 := by
                    rcases hcase with h | h
                    · rw [← h]; exact HE2.out
                    · rw [← h]; exact HE1.out
                  have HFin := Lib.hid (show RowF w7 g n f7 ∧ But w.heap.size g w w7 ∧ Step a b f f7 ∧ Srt a b f7 from ⟨HRW.out, HBW.out, HSW.out, halves_join HLE.out HST.out (Step.refl _ _ _) HRM.out hq⟩)
                  rcases Nat.lt_or_ge mid e with c1 | c1
                  · have r1 : (mid : Int) < (e : Int) := by omega
                    have r2 : ¬ (e : Int) < (b : Int) := by omega
                    go_wp2
                    all_goals go_end0
                    all_goals exact ⟨rfl, f7, HFin.out⟩
                  · have r1 : ¬ (mid : Int) < (e : Int) := by omega
                    go_wp2
                    all_goals go_end0
                    all_goals exact ⟨rfl, f7, HFin.out⟩
                )
            · have hcase : s = a ∨ s = mid := by have := HCut.out.as; have := HCut.out.smid; omega
              have HRM : Hid (Srt a mid F1) := Lib.hid (by
                rcases hcase with h | h
                · rw [← h]; exact HH.out.2.1
                · rw [← h]; exact HH.out.1)
              have HRW := HR1
              have HBW := HB1
              have HSW := HSt1
              have HST : Hid (Step a mid F1 F1) := Lib.hid (Step.refl _ _ _)
              have HE1 := Lib.hid HH.out.2.2.1
              have HE2 := Lib.hid HH.out.2.2.2.1
              have HLE := Lib.hid HH.out.2.2.2.2
              rcases Nat.lt_or_ge a s with c0 | c0
              · have l1 : (a : Int) < (s : Int) := by omega
                have l2 : ¬ (s : Int) < (mid : Int) := by omega
                by_cases hr2 : mid < e ∧ e < b
                · have r1 : (mid : Int) < (e : Int) := by omega
                  have r2 : (e : Int) < (b : Int) := by omega
                  have hc : ∀ W, RowF W g n F1 → g < W.heap.size → Calls Tryd.prog 82 #[.slice (some ⟨g, 0, none⟩) n c, .int .i64 mid, .int .i64 e, .int .i64 b, cmpF] W fun e w' => e = .returned (.tuple #[]) ∧ ∃ f', RowF w' g n f' ∧ But W.heap.size g W w' ∧ Step mid b F1 f' ∧ Srt mid b f' := fun W hW hgW => IH.out mid e b F1 W (by omega) hr2.1 hr2.2 h3 hW hgW (fun k => HSW.out.all HK.out k) HE1.out HE2.out
                  have HC2 := Lib.hid hc
                  clear hc
                  go_wp2_with fail
                  all_goals (
                   refine (HC2.out _ HRW.out (by omega)).mono ?_
                   rintro ee w8 ⟨rfl, f8, hr8, hb8, hs8, hq8⟩
                   have HFin := Lib.hid (show RowF w8 g n f8 ∧ But w.heap.size g w w8 ∧ Step a b f f8 ∧ Srt a b f8 from ⟨hr8, HBW.out.trans (hb8.mono (by have := HBW.out.size; omega)), HSW.out.trans (hs8.wide (by omega) (Nat.le_refl _)), halves_join HLE.out HST.out hs8 HRM.out hq8⟩)
                   clear hr8 hb8 hs8 hq8
                   go_wp2
                   all_goals go_end0
                   all_goals exact ⟨rfl, f8, HFin.out⟩)
                · have hcase : e = mid ∨ e = b := by have := HCut.out.mide; have := HCut.out.eb; omega
                  have hq : Srt mid b F1 := by
                    rcases hcase with h | h
                    · rw [← h]; exact HE2.out
                    · rw [← h]; exact HE1.out
                  have HFin := Lib.hid (show RowF wr g n F1 ∧ But w.heap.size g w wr ∧ Step a b f F1 ∧ Srt a b F1 from ⟨HRW.out, HBW.out, HSW.out, halves_join HLE.out HST.out (Step.refl _ _ _) HRM.out hq⟩)
                  rcases Nat.lt_or_ge mid e with c1 | c1
                  · have r1 : (mid : Int) < (e : Int) := by omega
                    have r2 : ¬ (e : Int) < (b : Int) := by omega
                    go_wp2
                    all_goals go_end0
                    all_goals exact ⟨rfl, F1, HFin.out⟩
                  · have r1 : ¬ (mid : Int) < (e : Int) := by omega
                    go_wp2
                    all_goals go_end0
                    all_goals exact ⟨rfl, F1, HFin.out⟩
              · have l1 : ¬ (a : Int) < (s : Int) := by omega
                by_cases hr2 : mid < e ∧ e < b
                · have r1 : (mid : Int) < (e : Int) := by omega
                  have r2 : (e : Int) < (b : Int) := by omega
                  have hc : ∀ W, RowF W g n F1 → g < W.heap.size → Calls Tryd.prog 82 #[.slice (some ⟨g, 0, none⟩) n c, .int .i64 mid, .int .i64 e, .int .i64 b, cmpF] W fun e w' => e = .returned (.tuple #[]) ∧ ∃ f', RowF w' g n f' ∧ But W.heap.size g W w' ∧ Step mid b F1 f' ∧ Srt mid b f' := fun W hW hgW => IH.out mid e b F1 W (by omega) hr2.1 hr2.2 h3 hW hgW (fun k => HSW.out.all HK.out k) HE1.out HE2.out
                  have HC2 := Lib.hid hc
                  clear hc
                  go_wp2_with fail
                  all_goals (
                   refine (HC2.out _ HRW.out (by omega)).mono ?_
                   rintro ee w8 ⟨rfl, f8, hr8, hb8, hs8, hq8⟩
                   have HFin := Lib.hid (show RowF w8 g n f8 ∧ But w.heap.size g w w8 ∧ Step a b f f8 ∧ Srt a b f8 from ⟨hr8, HBW.out.trans (hb8.mono (by have := HBW.out.size; omega)), HSW.out.trans (hs8.wide (by omega) (Nat.le_refl _)), halves_join HLE.out HST.out hs8 HRM.out hq8⟩)
                   clear hr8 hb8 hs8 hq8
                   go_wp2
                   all_goals go_end0
                   all_goals exact ⟨rfl, f8, HFin.out⟩)
                · have hcase : e = mid ∨ e = b := by have := HCut.out.mide; have := HCut.out.eb; omega
                  have hq : Srt mid b F1 := by
                    rcases hcase with h | h
                    · rw [← h]; exact HE2.out
                    · rw [← h]; exact HE1.out
                  have HFin := Lib.hid (show RowF wr g n F1 ∧ But w.heap.size g w wr ∧ Step a b f F1 ∧ Srt a b F1 from ⟨HRW.out, HBW.out, HSW.out, halves_join HLE.out HST.out (Step.refl _ _ _) HRM.out hq⟩)
                  rcases Nat.lt_or_ge mid e with c1 | c1
                  · have r1 : (mid : Int) < (e : Int) := by omega
                    have r2 : ¬ (e : Int) < (b : Int) := by omega
                    go_wp2
                    all_goals go_end0
                    all_goals exact ⟨rfl, F1, HFin.out⟩
                  · have r1 : ¬ (mid : Int) < (e : Int) := by omega
                    go_wp2
                    all_goals go_end0
                    all_goals exact ⟨rfl, F1, HFin.out⟩
  · have g1 : ¬ (mid : Int) < (m : Int) := by omega
    go_wp2
    clear e2 e3 e4 e5
    go_loopw [20, 21] (fun x y wr => ∃ (s r : Nat), x = .int .i64 s ∧ y = .int .i64 r ∧ a ≤ s ∧ s ≤ r ∧ r ≤ m ∧ RowF wr g n f ∧ But w.heap.size g w wr ∧ (s = a ∨ key (f (s - 1)) ≤ key (f (mid + m - 1 - (s - 1)))) ∧ (r = m ∨ key (f (mid + m - 1 - r)) < key (f r))) (fun x y _ => ((intOf y) - (intOf x)).toNat)
    case atStart => exact ⟨a, m, rfl, rfl, Nat.le_refl _, by omega, Nat.le_refl _, HR.out, But.refl _ _ _, .inl rfl, .inl rfl⟩
    case round =>
      obtain ⟨s, r, rfl, rfl, hs0, hsr, hr0, hrow, hbut, hl, hh⟩ := hrel
      have hbz := hbut.size
      have hgw : g < wr.heap.size := by omega
      have s0' : (0 : Int) ≤ (s : Int) := Int.natCast_nonneg _
      by_cases hlt : s < r
      · obtain ⟨h, hhh⟩ : ∃ h : Nat, h = (s + r) / 2 := ⟨_, rfl⟩
        obtain ⟨pc, hpc⟩ : ∃ pc : Nat, pc = mid + m - 1 - h := ⟨_, rfl⟩
        have r0' : (0 : Int) ≤ (r : Int) := Int.natCast_nonneg _
        have q0 : (0 : Int) ≤ (h : Int) := Int.natCast_nonneg _
        have p0 : (0 : Int) ≤ (pc : Int) := Int.natCast_nonneg _
        have hij' : (s : Int) < (r : Int) := by omega
        have hjz : (r : Int) ≤ 1000000 := by omega
        have k1 : ((s : Int) + (r : Int)) / 2 = (h : Int) := by omega
        have k2 : ((s : Int) + (r : Int)).tdiv 2 = (h : Int) := by rw [Int.tdiv_eq_ediv_of_nonneg (by omega)]; omega
        have k3 : IntKind.u64.wrap ((s : Int) + (r : Int)) = (s : Int) + (r : Int) := by rw [IntKind.wrap_u64]; omega
        have k4 : IntKind.u64.wrap (h : Int) = (h : Int) := by rw [IntKind.wrap_u64]; omega
        have k5 : IntKind.i64.wrap (h : Int) = (h : Int) := IntWalk.i64_in _ (by omega)
        have k6 : (mid : Int) + (m : Int) - 1 - (h : Int) = (pc : Int) := by omega
        have k7 : IntKind.i64.wrap (pc : Int) = (pc : Int) := IntWalk.i64_in _ (by omega)
        have k8 : IntKind.i64.wrap ((mid : Int) + (m : Int) - 1 - (h : Int)) = (pc : Int) := by rw [k6]; exact k7
        have hhn : (h : Int) < (n : Int) := by omega
        have k9 : IntKind.i64.wrap ((h : Int) + 1) = (h : Int) + 1 := IntWalk.i64_in _ (by omega)
        have hpn : (pc : Int) < (n : Int) := by omega
        obtain ⟨x0, x1⟩ := hrow.1 h (by omega)
        obtain ⟨y0, y1⟩ := hrow.1 pc (by omega)
        obtain ⟨cv, hcv, c0, c1, kC⟩ := cmp_named (HK.out pc) (HK.out h)
        have HC := Lib.hid kC
        have HW := Lib.hid hrow
        have HB := Lib.hid hbut
        have HL := Lib.hid hl
        have HHi := Lib.hid hh
        have HHH := Lib.hid hhh
        have HPC := Lib.hid hpc
        clear hrow hbut hl hh kC hhh hpc
        go_wp2
        by_cases hk : key (f pc) < key (f h)
        · have hneg : decide (cv < 0) = true := decide_eq_true (hcv.2 hk)
          have HHi2 : Hid (h = m ∨ key (f (mid + m - 1 - h)) < key (f h)) := Lib.hid (.inr (by rw [← HPC.out]; exact hk))
          clear hcv
          go_region_held3 (fun w' => w'.cell? ⟨g, h * 2, none⟩ = some (.int .i64 (f h).1) ∧ w'.cell? ⟨g, h * 2 + 1, none⟩ = some (.int .i64 (f h).2) ∧ w'.cell? ⟨g, pc * 2, none⟩ = some (.int .i64 (f pc).1) ∧ w'.cell? ⟨g, pc * 2 + 1, none⟩ = some (.int .i64 (f pc).2) ∧ wr.heap.size ≤ w'.heap.size ∧ Below wr.heap.size wr w')
            (first | (simp (disch := first | omega | (simp; done) | (simp; omega)) [go_sem, *]; done) | ((repeat' first | (with_reducible exact Below.refl _ _) | (with_reducible assumption) | (with_reducible refine below_drewN ?_ _) | (with_reducible refine Below.drew ?_) | (with_reducible refine Below.alloc ?_ ?_ _) | (with_reducible refine Below.setCell ?_ ?_ _) | (with_reducible refine Below.trans ?_ (Below.mono (by assumption) ?_)) | first | omega | (simp only [World.size_alloc, World.size_setCell, World.size_drew, size_drewN]; omega) | (simp; done) | (simp; omega) | (simp only [World.size_alloc, World.size_setCell, World.size_drew, size_drewN] at *; omega) | (simp at *; omega)); done) | ((try go_split_ands); (refine ⟨?_, ?_, ?_, ?_, ?_, ?_⟩ <;> first | omega | (simp only [World.size_alloc, World.size_setCell, World.size_drew, size_drewN]; omega) | (simp (disch := first | omega | (simp; done) | (simp; omega)) [go_sem, *]; done) | ((repeat' first | (with_reducible exact Below.refl _ _) | (with_reducible assumption) | (with_reducible refine below_drewN ?_ _) | (with_reducible refine Below.drew ?_) | (with_reducible refine Below.alloc ?_ ?_ _) | (with_reducible refine Below.setCell ?_ ?_ _) | (with_reducible refine Below.trans ?_ (Below.mono (by assumption) ?_)) | first | omega | (simp only [World.size_alloc, World.size_setCell, World.size_drew, size_drewN]; omega) | (simp; done) | (simp; omega) | (simp only [World.size_alloc, World.size_setCell, World.size_drew, size_drewN] at *; omega) | (simp at *; omega)); done))))
            (first | (go_at_call 49; refine (HC.out _).mono ?_; rintro e w5 ⟨rfl, hb5⟩; obtain ⟨hc5, hf5⟩ := bcell hb5; have hz5 := hb5.size; (try simp only [World.size_alloc, World.size_setCell, World.size_drew, size_drewN] at hz5 hc5 hf5)))
          have hB5 : Below wr.heap.size wr w5 := by (repeat' first | (with_reducible exact Below.refl _ _) | (with_reducible assumption) | (with_reducible refine below_drewN ?_ _) | (with_reducible refine Below.drew ?_) | (with_reducible refine Below.alloc ?_ ?_ _) | (with_reducible refine Below.setCell ?_ ?_ _) | (with_reducible refine Below.trans ?_ (Below.mono (by assumption) ?_)) | first | omega | (simp only [World.size_alloc, World.size_setCell, World.size_drew, size_drewN]; omega) | (simp; done) | (simp; omega) | (simp only [World.size_alloc, World.size_setCell, World.size_drew, size_drewN] at *; omega) | (simp at *; omega))
          clear hb5 hc5 hf5 x0 x1 y0 y1 hk c0 c1
          go_wp2
          go_roundw
          case rel => exact ⟨s, h, rfl, by go_num, hs0, by have := HHH.out; omega, by have := HHH.out; omega, HW.out.below hB5 hgw, HB.out.below hB5 (by omega), HL.out, HHi2.out⟩
          case measure => have := HHH.out; simp [intOf]; omega
        · have hneg : decide (cv < 0) = false := decide_eq_false (fun x => hk (hcv.1 x))
          have HL2 : Hid (h + 1 = a ∨ key (f (h + 1 - 1)) ≤ key (f (mid + m - 1 - (h + 1 - 1)))) := Lib.hid (.inr (by rw [Nat.add_sub_cancel, ← HPC.out]; omega))
          clear hcv
          go_region_held3 (fun w' => w'.cell? ⟨g, h * 2, none⟩ = some (.int .i64 (f h).1) ∧ w'.cell? ⟨g, h * 2 + 1, none⟩ = some (.int .i64 (f h).2) ∧ w'.cell? ⟨g, pc * 2, none⟩ = some (.int .i64 (f pc).1) ∧ w'.cell? ⟨g, pc * 2 + 1, none⟩ = some (.int .i64 (f pc).2) ∧ wr.heap.size ≤ w'.heap.size ∧ Below wr.heap.size wr w')
            (first | (simp (disch := first | omega | (simp; done) | (simp; omega)) [go_sem, *]; done) | ((repeat' first | (with_reducible exact Below.refl _ _) | (with_reducible assumption) | (with_reducible refine below_drewN ?_ _) | (with_reducible refine Below.drew ?_) | (with_reducible refine Below.alloc ?_ ?_ _) | (with_reducible refine Below.setCell ?_ ?_ _) | (with_reducible refine Below.trans ?_ (Below.mono (by assumption) ?_)) | first | omega | (simp only [World.size_alloc, World.size_setCell, World.size_drew, size_drewN]; omega) | (simp; done) | (simp; omega) | (simp only [World.size_alloc, World.size_setCell, World.size_drew, size_drewN] at *; omega) | (simp at *; omega)); done) | ((try go_split_ands); (refine ⟨?_, ?_, ?_, ?_, ?_, ?_⟩ <;> first | omega | (simp only [World.size_alloc, World.size_setCell, World.size_drew, size_drewN]; omega) | (simp (disch := first | omega | (simp; done) | (simp; omega)) [go_sem, *]; done) | ((repeat' first | (with_reducible exact Below.refl _ _) | (with_reducible assumption) | (with_reducible refine below_drewN ?_ _) | (with_reducible refine Below.drew ?_) | (with_reducible refine Below.alloc ?_ ?_ _) | (with_reducible refine Below.setCell ?_ ?_ _) | (with_reducible refine Below.trans ?_ (Below.mono (by assumption) ?_)) | first | omega | (simp only [World.size_alloc, World.size_setCell, World.size_drew, size_drewN]; omega) | (simp; done) | (simp; omega) | (simp only [World.size_alloc, World.size_setCell, World.size_drew, size_drewN] at *; omega) | (simp at *; omega)); done))))
            (first | (go_at_call 49; refine (HC.out _).mono ?_; rintro e w5 ⟨rfl, hb5⟩; obtain ⟨hc5, hf5⟩ := bcell hb5; have hz5 := hb5.size; (try simp only [World.size_alloc, World.size_setCell, World.size_drew, size_drewN] at hz5 hc5 hf5)))
          have hB5 : Below wr.heap.size wr w5 := by (repeat' first | (with_reducible exact Below.refl _ _) | (with_reducible assumption) | (with_reducible refine below_drewN ?_ _) | (with_reducible refine Below.drew ?_) | (with_reducible refine Below.alloc ?_ ?_ _) | (with_reducible refine Below.setCell ?_ ?_ _) | (with_reducible refine Below.trans ?_ (Below.mono (by assumption) ?_)) | first | omega | (simp only [World.size_alloc, World.size_setCell, World.size_drew, size_drewN]; omega) | (simp; done) | (simp; omega) | (simp only [World.size_alloc, World.size_setCell, World.size_drew, size_drewN] at *; omega) | (simp at *; omega))
          clear hb5 hc5 hf5 x0 x1 y0 y1 hk c0 c1
          go_wp2
          go_roundw
          case rel => exact ⟨h + 1, r, by go_num, rfl, by have := HHH.out; omega, by have := HHH.out; omega, hr0, HW.out.below hB5 hgw, HB.out.below hB5 (by omega), HL2.out, HHi.out⟩
          case measure => have := HHH.out; simp [intOf]; omega
      · obtain rfl : s = r := by omega
        obtain ⟨e, hE⟩ : ∃ e, e = mid + m - s := ⟨_, rfl⟩
        have hcut : Cut f a m b mid s e := by rw [hE]; exact cut_of (r := s) (s0 := a) (r0 := m) HMid.out (by omega) (by omega) (.inl ⟨by omega, rfl, rfl⟩) hs0 hr0 hl hh
        have cc1 := hcut.as
        have cc2 := hcut.sm
        have cc3 := hcut.smid
        have cc4 := hcut.me
        have cc5 := hcut.eb
        have cc6 := hcut.mide
        have HCut := Lib.hid hcut
        obtain ⟨F1, hF1⟩ : ∃ F1, F1 = rotR f s m e := ⟨_, rfl⟩
        have hhalf := hcut.halves (by omega) (by omega) HS1.out HS2.out
        rw [← hF1] at hhalf
        have HH := Lib.hid hhalf
        have HF1 := Lib.hid hF1
        have hee : (mid : Int) + (m : Int) - (s : Int) = (e : Int) := by omega
        have heW : IntKind.i64.wrap (e : Int) = (e : Int) := IntWalk.i64_in _ (by omega)
        have HW := Lib.hid hrow
        have HB := Lib.hid hbut
        have HEE := Lib.hid hE
        clear hrow hbut hl hh hcut hhalf hF1 hE
        by_cases hro : s < m ∧ m < e
        · have o1 : (s : Int) < (m : Int) := by omega
          have o2 : (m : Int) < (e : Int) := by omega
          have hc : ∀ W, RowF W g n f → g < W.heap.size → Calls Tryd.prog 83 #[.slice (some ⟨g, 0, none⟩) n c, .int .i64 s, .int .i64 m, .int .i64 e, cmpF] W fun ee w' => ee = .returned (.tuple #[]) ∧ RowF w' g n F1 ∧ But W.heap.size g W w' ∧ Step s e f F1 := fun W hW hgW => by
            rw [HF1.out]
            exact (rotate_any g n c s m e cmpF f W hn hro.1 hro.2 (by omega) hW hgW).mono fun e w' h => by
              exact h
          have HC0 := Lib.hid hc
          clear hc
          go_wp2_with fail
          all_goals (
            refine (HC0.out _ HW.out (by omega)).mono ?_
            rintro ee w6 ⟨rfl, hr6, hb6, hs6⟩
            have hz6 := hb6.size
            have HR1 := Lib.hid hr6
            have HB1 := Lib.hid (HB.out.trans (hb6.mono (by have := HB.out.size; omega)))
            have HSt1 := Lib.hid (hs6.wide (a' := a) (b' := b) (by omega) (by omega))
            clear hr6 hb6 hs6
            by_cases hr1 : a < s ∧ s < mid
            · have l1 : (a : Int) < (s : Int) := by omega
              have l2 : (s : Int) < (mid : Int) := by omega
              have hc : ∀ W, RowF W g n F1 → g < W.heap.size → Calls Tryd.prog 82 #[.slice (some ⟨g, 0, none⟩) n c, .int .i64 a, .int .i64 s, .int .i64 mid, cmpF] W fun e w' => e = .returned (.tuple #[]) ∧ ∃ f', RowF w' g n f' ∧ But W.heap.size g W w' ∧ Step a mid F1 f' ∧ Srt a mid f' := fun W hW hgW => IH.out a s mid F1 W (by omega) hr1.1 hr1.2 (by omega) hW hgW (fun k => HSt1.out.all HK.out k) HH.out.1 HH.out.2.1
              have HC1 := Lib.hid hc
              clear hc
              go_wp2_with fail
              all_goals (
                refine (HC1.out _ HR1.out (by omega)).mono ?_
                rintro ee w7 ⟨rfl, f7, hr7, hb7, hs7, hq7⟩
                have hz7 := hb7.size
                have HRW := Lib.hid hr7
                have HBW := Lib.hid (HB1.out.trans (hb7.mono (by have := HB1.out.size; omega)))
                have HSW := Lib.hid (HSt1.out.trans (hs7.wide (Nat.le_refl _) (by omega)))
                have HST := Lib.hid hs7
                have HRM := Lib.hid hq7
                have HE1 : Hid (Srt mid e f7) := Lib.hid (HH.out.2.2.1.congr fun k k1 k2 => HST.out.out k (by omega))
                have HE2 : Hid (Srt e b f7) := Lib.hid (HH.out.2.2.2.1.congr fun k k1 k2 => HST.out.out k (by have := HCut.out.mide; omega))
                have HLE := Lib.hid HH.out.2.2.2.2
                clear hr7 hb7 hs7 hq7
                by_cases hr2 : mid < e ∧ e < b
                · have r1 : (mid : Int) < (e : Int) := by omega
                  have r2 : (e : Int) < (b : Int) := by omega
                  have hc : ∀ W, RowF W g n f7 → g < W.heap.size → Calls Tryd.prog 82 #[.slice (some ⟨g, 0, none⟩) n c, .int .i64 mid, .int .i64 e, .int .i64 b, cmpF] W fun e w' => e = .returned (.tuple #[]) ∧ ∃ f', RowF w' g n f' ∧ But W.heap.size g W w' ∧ Step mid b f7 f' ∧ Srt mid b f' := fun W hW hgW => IH.out mid e b f7 W (by omega) hr2.1 hr2.2 h3 hW hgW (fun k => HSW.out.all HK.out k) HE1.out HE2.out
                  have HC2 := Lib.hid hc
                  clear hc
                  go_wp2_with fail
                  all_goals (
                   refine (HC2.out _ HRW.out (by omega)).mono ?_
                   rintro ee w8 ⟨rfl, f8, hr8, hb8, hs8, hq8⟩
                   have HFin := Lib.hid (show RowF w8 g n f8 ∧ But w.heap.size g w w8 ∧ Step a b f f8 ∧ Srt a b f8 from ⟨hr8, HBW.out.trans (hb8.mono (by have := HBW.out.size; omega)), HSW.out.trans (hs8.wide (by omega) (Nat.le_refl _)), halves_join HLE.out HST.out hs8 HRM.out hq8⟩)
                   clear hr8 hb8 hs8 hq8
                   go_wp2
                   all_goals go_end0
                   all_goals exact ⟨rfl, f8, HFin.out⟩)
                · have hcase : e = mid ∨ e = b := by have := HCut.out.mide; have := HCut.out.eb; omega
                  have hq : Srt mid b f7 := by
                    rcases hcase with h | h
                    · rw [← h]; exact HE2.out
                    · rw [← h]; exact HE1.out
                  have HFin := Lib.hid (show RowF w7 g n f7 ∧ But w.heap.size g w w7 ∧ Step a b f f7 ∧ Srt a b f7 from ⟨HRW.out, HBW.out, HSW.out, halves_join HLE.out HST.out (Step.refl _ _ _) HRM.out hq⟩)
                  rcases Nat.lt_or_ge mid e with c1 | c1
                  · have r1 : (mid : Int) < (e : Int) := by omega
                    have r2 : ¬ (e : Int) < (b : Int) := by omega
                    go_wp2
                    all_goals go_end0
                    all_goals exact ⟨rfl, f7, HFin.out⟩
                  · have r1 : ¬ (mid : Int) < (e : Int) := by omega
                    go_wp2
                    all_goals go_end0
                    all_goals exact ⟨rfl, f7, HFin.out⟩
                )
            · have hcase : s = a ∨ s = mid := by have := HCut.out.as; have := HCut.out.smid; omega
              have HRM : Hid (Srt a mid F1) := Lib.hid (by
                rcases hcase with h | h
                · rw [← h]; exact HH.out.2.1
                · rw [← h]; exact HH.out.1)
              have HRW := HR1
              have HBW := HB1
              have HSW := HSt1
              have HST : Hid (Step a mid F1 F1) := Lib.hid (Step.refl _ _ _)
              have HE1 := Lib.hid HH.out.2.2.1
              have HE2 := Lib.hid HH.out.2.2.2.1
              have HLE := Lib.hid HH.out.2.2.2.2
              rcases Nat.lt_or_ge a s with c0 | c0
              · have l1 : (a : Int) < (s : Int) := by omega
                have l2 : ¬ (s : Int) < (mid : Int) := by omega
                by_cases hr2 : mid < e ∧ e < b
                · have r1 : (mid : Int) < (e : Int) := by omega
                  have r2 : (e : Int) < (b : Int) := by omega
                  have hc : ∀ W, RowF W g n F1 → g < W.heap.size → Calls Tryd.prog 82 #[.slice (some ⟨g, 0, none⟩) n c, .int .i64 mid, .int .i64 e, .int .i64 b, cmpF] W fun e w' => e = .returned (.tuple #[]) ∧ ∃ f', RowF w' g n f' ∧ But W.heap.size g W w' ∧ Step mid b F1 f' ∧ Srt mid b f' := fun W hW hgW => IH.out mid e b F1 W (by omega) hr2.1 hr2.2 h3 hW hgW (fun k => HSW.out.all HK.out k) HE1.out HE2.out
                  have HC2 := Lib.hid hc
                  clear hc
                  go_wp2_with fail
                  all_goals (
                   refine (HC2.out _ HRW.out (by omega)).mono ?_
                   rintro ee w8 ⟨rfl, f8, hr8, hb8, hs8, hq8⟩
                   have HFin := Lib.hid (show RowF w8 g n f8 ∧ But w.heap.size g w w8 ∧ Step a b f f8 ∧ Srt a b f8 from ⟨hr8, HBW.out.trans (hb8.mono (by have := HBW.out.size; omega)), HSW.out.trans (hs8.wide (by omega) (Nat.le_refl _)), halves_join HLE.out HST.out hs8 HRM.out hq8⟩)
                   clear hr8 hb8 hs8 hq8
                   go_wp2
                   all_goals go_end0
                   all_goals exact ⟨rfl, f8, HFin.out⟩)
                · have hcase : e = mid ∨ e = b := by have := HCut.out.mide; have := HCut.out.eb; omega
                  have hq : Srt mid b F1 := by
                    rcases hcase with h | h
                    · rw [← h]; exact HE2.out
                    · rw [← h]; exact HE1.out
                  have HFin := Lib.hid (show RowF w6 g n F1 ∧ But w.heap.size g w w6 ∧ Step a b f F1 ∧ Srt a b F1 from ⟨HRW.out, HBW.out, HSW.out, halves_join HLE.out HST.out (Step.refl _ _ _) HRM.out hq⟩)
                  rcases Nat.lt_or_ge mid e with c1 | c1
                  · have r1 : (mid : Int) < (e : Int) := by omega
                    have r2 : ¬ (e : Int) < (b : Int) := by omega
                    go_wp2
                    all_goals go_end0
                    all_goals exact ⟨rfl, F1, HFin.out⟩
                  · have r1 : ¬ (mid : Int) < (e : Int) := by omega
                    go_wp2
                    all_goals go_end0
                    all_goals exact ⟨rfl, F1, HFin.out⟩
              · have l1 : ¬ (a : Int) < (s : Int) := by omega
                by_cases hr2 : mid < e ∧ e < b
                · have r1 : (mid : Int) < (e : Int) := by omega
                  have r2 : (e : Int) < (b : Int) := by omega
                  have hc : ∀ W, RowF W g n F1 → g < W.heap.size → Calls Tryd.prog 82 #[.slice (some ⟨g, 0, none⟩) n c, .int .i64 mid, .int .i64 e, .int .i64 b, cmpF] W fun e w' => e = .returned (.tuple #[]) ∧ ∃ f', RowF w' g n f' ∧ But W.heap.size g W w' ∧ Step mid b F1 f' ∧ Srt mid b f' := fun W hW hgW => IH.out mid e b F1 W (by omega) hr2.1 hr2.2 h3 hW hgW (fun k => HSW.out.all HK.out k) HE1.out HE2.out
                  have HC2 := Lib.hid hc
                  clear hc
                  go_wp2_with fail
                  all_goals (
                   refine (HC2.out _ HRW.out (by omega)).mono ?_
                   rintro ee w8 ⟨rfl, f8, hr8, hb8, hs8, hq8⟩
                   have HFin := Lib.hid (show RowF w8 g n f8 ∧ But w.heap.size g w w8 ∧ Step a b f f8 ∧ Srt a b f8 from ⟨hr8, HBW.out.trans (hb8.mono (by have := HBW.out.size; omega)), HSW.out.trans (hs8.wide (by omega) (Nat.le_refl _)), halves_join HLE.out HST.out hs8 HRM.out hq8⟩)
                   clear hr8 hb8 hs8 hq8
                   go_wp2
                   all_goals go_end0
                   all_goals exact ⟨rfl, f8, HFin.out⟩)
                · have hcase : e = mid ∨ e = b := by have := HCut.out.mide; have := HCut.out.eb; omega
                  have hq : Srt mid b F1 := by
                    rcases hcase with h | h
                    · rw [← h]; exact HE2.out
                    · rw [← h]; exact HE1.out
                  have HFin := Lib.hid (show RowF w6 g n F1 ∧ But w.heap.size g w w6 ∧ Step a b f F1 ∧ Srt a b F1 from ⟨HRW.out, HBW.out, HSW.out, halves_join HLE.out HST.out (Step.refl _ _ _) HRM.out hq⟩)
                  rcases Nat.lt_or_ge mid e with c1 | c1
                  · have r1 : (mid : Int) < (e : Int) := by omega
                    have r2 : ¬ (e : Int) < (b : Int) := by omega
                    go_wp2
                    all_goals go_end0
                    all_goals exact ⟨rfl, F1, HFin.out⟩
                  · have r1 : ¬ (mid : Int) < (e : Int) := by omega
                    go_wp2
                    all_goals go_end0
                    all_goals exact ⟨rfl, F1, HFin.out⟩
            )
        · have hcase : s = m ∨ e = m := by have := HCut.out.sm; have := HCut.out.me; omega
          have hF : F1 = f := by rw [HF1.out]; exact rot_none hcase
          have HR1 : Hid (RowF wr g n F1) := Lib.hid (by rw [hF]; exact HW.out)
          have HB1 := HB
          have HSt1 : Hid (Step a b f F1) := Lib.hid (by rw [hF]; exact Step.refl _ _ _)
          clear hF
          rcases Nat.lt_or_ge s m with c9 | c9
          · have o1 : (s : Int) < (m : Int) := by omega
            have o2 : ¬ (m : Int) < (e : Int) := by omega
            by_cases hr1 : a < s ∧ s < mid
            · have l1 : (a : Int) < (s : Int) := by omega
              have l2 : (s : Int) < (mid : Int) := by omega
              have hc : ∀ W, RowF W g n F1 → g < W.heap.size → Calls Tryd.prog 82 #[.slice (some ⟨g, 0, none⟩) n c, .int .i64 a, .int .i64 s, .int .i64 mid, cmpF] W fun e w' => e = .returned (.tuple #[]) ∧ ∃ f', RowF w' g n f' ∧ But W.heap.size g W w' ∧ Step a mid F1 f' ∧ Srt a mid f' := fun W hW hgW => IH.out a s mid F1 W (by omega) hr1.1 hr1.2 (by omega) hW hgW (fun k => HSt1.out.all HK.out k) HH.out.1 HH.out.2.1
              have HC1 := Lib.hid hc
              clear hc
              go_wp2_with fail
              all_goals (
                refine (HC1.out _ HR1.out (by omega)).mono ?_
                rintro ee w7 ⟨rfl, f7, hr7, hb7, hs7, hq7⟩
                have hz7 := hb7.size
                have HRW := Lib.hid hr7
                have HBW := Lib.hid (HB1.out.trans (hb7.mono (by have := HB1.out.size; omega)))
                have HSW := Lib.hid (HSt1.out.trans (hs7.wide (Nat.le_refl _) (by omega)))
                have HST := Lib.hid hs7
                have HRM := Lib.hid hq7
                have HE1 : Hid (Srt mid e f7) := Lib.hid (HH.out.2.2.1.congr fun k k1 k2 => HST.out.out k (by omega))
                have HE2 : Hid (Srt e b f7) := Lib.hid (HH.out.2.2.2.1.congr fun k k1 k2 => HST.out.out k (by have := HCut.out.mide; omega))
                have HLE := Lib.hid HH.out.2.2.2.2
                clear hr7 hb7 hs7 hq7
                by_cases hr2 : mid < e ∧ e < b
                · have r1 : (mid : Int) < (e : Int) := by omega
                  have r2 : (e : Int) < (b : Int) := by omega
                  have hc : ∀ W, RowF W g n f7 → g < W.heap.size → Calls Tryd.prog 82 #[.slice (some ⟨g, 0, none⟩) n c, .int .i64 mid, .int .i64 e, .int .i64 b, cmpF] W fun e w' => e = .returned (.tuple #[]) ∧ ∃ f', RowF w' g n f' ∧ But W.heap.size g W w' ∧ Step mid b f7 f' ∧ Srt mid b f' := fun W hW hgW => IH.out mid e b f7 W (by omega) hr2.1 hr2.2 h3 hW hgW (fun k => HSW.out.all HK.out k) HE1.out HE2.out
                  have HC2 := Lib.hid hc
                  clear hc
                  go_wp2_with fail
                  all_goals (
                   refine (HC2.out _ HRW.out (by omega)).mono ?_
                   rintro ee w8 ⟨rfl, f8, hr8, hb8, hs8, hq8⟩
                   have HFin := Lib.hid (show RowF w8 g n f8 ∧ But w.heap.size g w w8 ∧ Step a b f f8 ∧ Srt a b f8 from ⟨hr8, HBW.out.trans (hb8.mono (by have := HBW.out.size; omega)), HSW.out.trans (hs8.wide (by omega) (Nat.le_refl _)), halves_join HLE.out HST.out hs8 HRM.out hq8⟩)
                   clear hr8 hb8 hs8 hq8
                   go_wp2
                   all_goals go_end0
                   all_goals exact ⟨rfl, f8, HFin.out⟩)
                · have hcase : e = mid ∨ e = b := by have := HCut.out.mide; have := HCut.out.eb; omega
                  have hq : Srt mid b f7 := by
                    rcases hcase with h | h
                    · rw [← h]; exact HE2.out
                    · rw [← h]; exact HE1.out
                  have HFin := Lib.hid (show RowF w7 g n f7 ∧ But w.heap.size g w w7 ∧ Step a b f f7 ∧ Srt a b f7 from ⟨HRW.out, HBW.out, HSW.out, halves_join HLE.out HST.out (Step.refl _ _ _) HRM.out hq⟩)
                  rcases Nat.lt_or_ge mid e with c1 | c1
                  · have r1 : (mid : Int) < (e : Int) := by omega
                    have r2 : ¬ (e : Int) < (b : Int) := by omega
                    go_wp2
                    all_goals go_end0
                    all_goals exact ⟨rfl, f7, HFin.out⟩
                  · have r1 : ¬ (mid : Int) < (e : Int) := by omega
                    go_wp2
                    all_goals go_end0
                    all_goals exact ⟨rfl, f7, HFin.out⟩
                )
            · have hcase : s = a ∨ s = mid := by have := HCut.out.as; have := HCut.out.smid; omega
              have HRM : Hid (Srt a mid F1) := Lib.hid (by
                rcases hcase with h | h
                · rw [← h]; exact HH.out.2.1
                · rw [← h]; exact HH.out.1)
              have HRW := HR1
              have HBW := HB1
              have HSW := HSt1
              have HST : Hid (Step a mid F1 F1) := Lib.hid (Step.refl _ _ _)
              have HE1 := Lib.hid HH.out.2.2.1
              have HE2 := Lib.hid HH.out.2.2.2.1
              have HLE := Lib.hid HH.out.2.2.2.2
              rcases Nat.lt_or_ge a s with c0 | c0
              · have l1 : (a : Int) < (s : Int) := by omega
                have l2 : ¬ (s : Int) < (mid : Int) := by omega
                by_cases hr2 : mid < e ∧ e < b
                · have r1 : (mid : Int) < (e : Int) := by omega
                  have r2 : (e : Int) < (b : Int) := by omega
                  have hc : ∀ W, RowF W g n F1 → g < W.heap.size → Calls Tryd.prog 82 #[.slice (some ⟨g, 0, none⟩) n c, .int .i64 mid, .int .i64 e, .int .i64 b, cmpF] W fun e w' => e = .returned (.tuple #[]) ∧ ∃ f', RowF w' g n f' ∧ But W.heap.size g W w' ∧ Step mid b F1 f' ∧ Srt mid b f' := fun W hW hgW => IH.out mid e b F1 W (by omega) hr2.1 hr2.2 h3 hW hgW (fun k => HSW.out.all HK.out k) HE1.out HE2.out
                  have HC2 := Lib.hid hc
                  clear hc
                  go_wp2_with fail
                  all_goals (
                   refine (HC2.out _ HRW.out (by omega)).mono ?_
                   rintro ee w8 ⟨rfl, f8, hr8, hb8, hs8, hq8⟩
                   have HFin := Lib.hid (show RowF w8 g n f8 ∧ But w.heap.size g w w8 ∧ Step a b f f8 ∧ Srt a b f8 from ⟨hr8, HBW.out.trans (hb8.mono (by have := HBW.out.size; omega)), HSW.out.trans (hs8.wide (by omega) (Nat.le_refl _)), halves_join HLE.out HST.out hs8 HRM.out hq8⟩)
                   clear hr8 hb8 hs8 hq8
                   go_wp2
                   all_goals go_end0
                   all_goals exact ⟨rfl, f8, HFin.out⟩)
                · have hcase : e = mid ∨ e = b := by have := HCut.out.mide; have := HCut.out.eb; omega
                  have hq : Srt mid b F1 := by
                    rcases hcase with h | h
                    · rw [← h]; exact HE2.out
                    · rw [← h]; exact HE1.out
                  have HFin := Lib.hid (show RowF wr g n F1 ∧ But w.heap.size g w wr ∧ Step a b f F1 ∧ Srt a b F1 from ⟨HRW.out, HBW.out, HSW.out, halves_join HLE.out HST.out (Step.refl _ _ _) HRM.out hq⟩)
                  rcases Nat.lt_or_ge mid e with c1 | c1
                  · have r1 : (mid : Int) < (e : Int) := by omega
                    have r2 : ¬ (e : Int) < (b : Int) := by omega
                    go_wp2
                    all_goals go_end0
                    all_goals exact ⟨rfl, F1, HFin.out⟩
                  · have r1 : ¬ (mid : Int) < (e : Int) := by omega
                    go_wp2
                    all_goals go_end0
                    all_goals exact ⟨rfl, F1, HFin.out⟩
              · have l1 : ¬ (a : Int) < (s : Int) := by omega
                by_cases hr2 : mid < e ∧ e < b
                · have r1 : (mid : Int) < (e : Int) := by omega
                  have r2 : (e : Int) < (b : Int) := by omega
                  have hc : ∀ W, RowF W g n F1 → g < W.heap.size → Calls Tryd.prog 82 #[.slice (some ⟨g, 0, none⟩) n c, .int .i64 mid, .int .i64 e, .int .i64 b, cmpF] W fun e w' => e = .returned (.tuple #[]) ∧ ∃ f', RowF w' g n f' ∧ But W.heap.size g W w' ∧ Step mid b F1 f' ∧ Srt mid b f' := fun W hW hgW => IH.out mid e b F1 W (by omega) hr2.1 hr2.2 h3 hW hgW (fun k => HSW.out.all HK.out k) HE1.out HE2.out
                  have HC2 := Lib.hid hc
                  clear hc
                  go_wp2_with fail
                  all_goals (
                   refine (HC2.out _ HRW.out (by omega)).mono ?_
                   rintro ee w8 ⟨rfl, f8, hr8, hb8, hs8, hq8⟩
                   have HFin := Lib.hid (show RowF w8 g n f8 ∧ But w.heap.size g w w8 ∧ Step a b f f8 ∧ Srt a b f8 from ⟨hr8, HBW.out.trans (hb8.mono (by have := HBW.out.size; omega)), HSW.out.trans (hs8.wide (by omega) (Nat.le_refl _)), halves_join HLE.out HST.out hs8 HRM.out hq8⟩)
                   clear hr8 hb8 hs8 hq8
                   go_wp2
                   all_goals go_end0
                   all_goals exact ⟨rfl, f8, HFin.out⟩)
                · have hcase : e = mid ∨ e = b := by have := HCut.out.mide; have := HCut.out.eb; omega
                  have hq : Srt mid b F1 := by
                    rcases hcase with h | h
                    · rw [← h]; exact HE2.out
                    · rw [← h]; exact HE1.out
                  have HFin := Lib.hid (show RowF wr g n F1 ∧ But w.heap.size g w wr ∧ Step a b f F1 ∧ Srt a b F1 from ⟨HRW.out, HBW.out, HSW.out, halves_join HLE.out HST.out (Step.refl _ _ _) HRM.out hq⟩)
                  rcases Nat.lt_or_ge mid e with c1 | c1
                  · have r1 : (mid : Int) < (e : Int) := by omega
                    have r2 : ¬ (e : Int) < (b : Int) := by omega
                    go_wp2
                    all_goals go_end0
                    all_goals exact ⟨rfl, F1, HFin.out⟩
                  · have r1 : ¬ (mid : Int) < (e : Int) := by omega
                    go_wp2
                    all_goals go_end0
                    all_goals exact ⟨rfl, F1, HFin.out⟩
          · have o1 : ¬ (s : Int) < (m : Int) := by omega
            by_cases hr1 : a < s ∧ s < mid
            · have l1 : (a : Int) < (s : Int) := by omega
              have l2 : (s : Int) < (mid : Int) := by omega
              have hc : ∀ W, RowF W g n F1 → g < W.heap.size → Calls Tryd.prog 82 #[.slice (some ⟨g, 0, none⟩) n c, .int .i64 a, .int .i64 s, .int .i64 mid, cmpF] W fun e w' => e = .returned (.tuple #[]) ∧ ∃ f', RowF w' g n f' ∧ But W.heap.size g W w' ∧ Step a mid F1 f' ∧ Srt a mid f' := fun W hW hgW => IH.out a s mid F1 W (by omega) hr1.1 hr1.2 (by omega) hW hgW (fun k => HSt1.out.all HK.out k) HH.out.1 HH.out.2.1
              have HC1 := Lib.hid hc
              clear hc
              go_wp2_with fail
              all_goals (
                refine (HC1.out _ HR1.out (by omega)).mono ?_
                rintro ee w7 ⟨rfl, f7, hr7, hb7, hs7, hq7⟩
                have hz7 := hb7.size
                have HRW := Lib.hid hr7
                have HBW := Lib.hid (HB1.out.trans (hb7.mono (by have := HB1.out.size; omega)))
                have HSW := Lib.hid (HSt1.out.trans (hs7.wide (Nat.le_refl _) (by omega)))
                have HST := Lib.hid hs7
                have HRM := Lib.hid hq7
                have HE1 : Hid (Srt mid e f7) := Lib.hid (HH.out.2.2.1.congr fun k k1 k2 => HST.out.out k (by omega))
                have HE2 : Hid (Srt e b f7) := Lib.hid (HH.out.2.2.2.1.congr fun k k1 k2 => HST.out.out k (by have := HCut.out.mide; omega))
                have HLE := Lib.hid HH.out.2.2.2.2
                clear hr7 hb7 hs7 hq7
                by_cases hr2 : mid < e ∧ e < b
                · have r1 : (mid : Int) < (e : Int) := by omega
                  have r2 : (e : Int) < (b : Int) := by omega
                  have hc : ∀ W, RowF W g n f7 → g < W.heap.size → Calls Tryd.prog 82 #[.slice (some ⟨g, 0, none⟩) n c, .int .i64 mid, .int .i64 e, .int .i64 b, cmpF] W fun e w' => e = .returned (.tuple #[]) ∧ ∃ f', RowF w' g n f' ∧ But W.heap.size g W w' ∧ Step mid b f7 f' ∧ Srt mid b f' := fun W hW hgW => IH.out mid e b f7 W (by omega) hr2.1 hr2.2 h3 hW hgW (fun k => HSW.out.all HK.out k) HE1.out HE2.out
                  have HC2 := Lib.hid hc
                  clear hc
                  go_wp2_with fail
                  all_goals (
                   refine (HC2.out _ HRW.out (by omega)).mono ?_
                   rintro ee w8 ⟨rfl, f8, hr8, hb8, hs8, hq8⟩
                   have HFin := Lib.hid (show RowF w8 g n f8 ∧ But w.heap.size g w w8 ∧ Step a b f f8 ∧ Srt a b f8 from ⟨hr8, HBW.out.trans (hb8.mono (by have := HBW.out.size; omega)), HSW.out.trans (hs8.wide (by omega) (Nat.le_refl _)), halves_join HLE.out HST.out hs8 HRM.out hq8⟩)
                   clear hr8 hb8 hs8 hq8
                   go_wp2
                   all_goals go_end0
                   all_goals exact ⟨rfl, f8, HFin.out⟩)
                · have hcase : e = mid ∨ e = b := by have := HCut.out.mide; have := HCut.out.eb; omega
                  have hq : Srt mid b f7 := by
                    rcases hcase with h | h
                    · rw [← h]; exact HE2.out
                    · rw [← h]; exact HE1.out
                  have HFin := Lib.hid (show RowF w7 g n f7 ∧ But w.heap.size g w w7 ∧ Step a b f f7 ∧ Srt a b f7 from ⟨HRW.out, HBW.out, HSW.out, halves_join HLE.out HST.out (Step.refl _ _ _) HRM.out hq⟩)
                  rcases Nat.lt_or_ge mid e with c1 | c1
                  · have r1 : (mid : Int) < (e : Int) := by omega
                    have r2 : ¬ (e : Int) < (b : Int) := by omega
                    go_wp2
                    all_goals go_end0
                    all_goals exact ⟨rfl, f7, HFin.out⟩
                  · have r1 : ¬ (mid : Int) < (e : Int) := by omega
                    go_wp2
                    all_goals go_end0
                    all_goals exact ⟨rfl, f7, HFin.out⟩
                )
            · have hcase : s = a ∨ s = mid := by have := HCut.out.as; have := HCut.out.smid; omega
              have HRM : Hid (Srt a mid F1) := Lib.hid (by
                rcases hcase with h | h
                · rw [← h]; exact HH.out.2.1
                · rw [← h]; exact HH.out.1)
              have HRW := HR1
              have HBW := HB1
              have HSW := HSt1
              have HST : Hid (Step a mid F1 F1) := Lib.hid (Step.refl _ _ _)
              have HE1 := Lib.hid HH.out.2.2.1
              have HE2 := Lib.hid HH.out.2.2.2.1
              have HLE := Lib.hid HH.out.2.2.2.2
              rcases Nat.lt_or_ge a s with c0 | c0
              · have l1 : (a : Int) < (s : Int) := by omega
                have l2 : ¬ (s : Int) < (mid : Int) := by omega
                by_cases hr2 : mid < e ∧ e < b
                · have r1 : (mid : Int) < (e : Int) := by omega
                  have r2 : (e : Int) < (b : Int) := by omega
                  have hc : ∀ W, RowF W g n F1 → g < W.heap.size → Calls Tryd.prog 82 #[.slice (some ⟨g, 0, none⟩) n c, .int .i64 mid, .int .i64 e, .int .i64 b, cmpF] W fun e w' => e = .returned (.tuple #[]) ∧ ∃ f', RowF w' g n f' ∧ But W.heap.size g W w' ∧ Step mid b F1 f' ∧ Srt mid b f' := fun W hW hgW => IH.out mid e b F1 W (by omega) hr2.1 hr2.2 h3 hW hgW (fun k => HSW.out.all HK.out k) HE1.out HE2.out
                  have HC2 := Lib.hid hc
                  clear hc
                  go_wp2_with fail
                  all_goals (
                   refine (HC2.out _ HRW.out (by omega)).mono ?_
                   rintro ee w8 ⟨rfl, f8, hr8, hb8, hs8, hq8⟩
                   have HFin := Lib.hid (show RowF w8 g n f8 ∧ But w.heap.size g w w8 ∧ Step a b f f8 ∧ Srt a b f8 from ⟨hr8, HBW.out.trans (hb8.mono (by have := HBW.out.size; omega)), HSW.out.trans (hs8.wide (by omega) (Nat.le_refl _)), halves_join HLE.out HST.out hs8 HRM.out hq8⟩)
                   clear hr8 hb8 hs8 hq8
                   go_wp2
                   all_goals go_end0
                   all_goals exact ⟨rfl, f8, HFin.out⟩)
                · have hcase : e = mid ∨ e = b := by have := HCut.out.mide; have := HCut.out.eb; omega
                  have hq : Srt mid b F1 := by
                    rcases hcase with h | h
                    · rw [← h]; exact HE2.out
                    · rw [← h]; exact HE1.out
                  have HFin := Lib.hid (show RowF wr g n F1 ∧ But w.heap.size g w wr ∧ Step a b f F1 ∧ Srt a b F1 from ⟨HRW.out, HBW.out, HSW.out, halves_join HLE.out HST.out (Step.refl _ _ _) HRM.out hq⟩)
                  rcases Nat.lt_or_ge mid e with c1 | c1
                  · have r1 : (mid : Int) < (e : Int) := by omega
                    have r2 : ¬ (e : Int) < (b : Int) := by omega
                    go_wp2
                    all_goals go_end0
                    all_goals exact ⟨rfl, F1, HFin.out⟩
                  · have r1 : ¬ (mid : Int) < (e : Int) := by omega
                    go_wp2
                    all_goals go_end0
                    all_goals exact ⟨rfl, F1, HFin.out⟩
              · have l1 : ¬ (a : Int) < (s : Int) := by omega
                by_cases hr2 : mid < e ∧ e < b
                · have r1 : (mid : Int) < (e : Int) := by omega
                  have r2 : (e : Int) < (b : Int) := by omega
                  have hc : ∀ W, RowF W g n F1 → g < W.heap.size → Calls Tryd.prog 82 #[.slice (some ⟨g, 0, none⟩) n c, .int .i64 mid, .int .i64 e, .int .i64 b, cmpF] W fun e w' => e = .returned (.tuple #[]) ∧ ∃ f', RowF w' g n f' ∧ But W.heap.size g W w' ∧ Step mid b F1 f' ∧ Srt mid b f' := fun W hW hgW => IH.out mid e b F1 W (by omega) hr2.1 hr2.2 h3 hW hgW (fun k => HSW.out.all HK.out k) HE1.out HE2.out
                  have HC2 := Lib.hid hc
                  clear hc
                  go_wp2_with fail
                  all_goals (
                   refine (HC2.out _ HRW.out (by omega)).mono ?_
                   rintro ee w8 ⟨rfl, f8, hr8, hb8, hs8, hq8⟩
                   have HFin := Lib.hid (show RowF w8 g n f8 ∧ But w.heap.size g w w8 ∧ Step a b f f8 ∧ Srt a b f8 from ⟨hr8, HBW.out.trans (hb8.mono (by have := HBW.out.size; omega)), HSW.out.trans (hs8.wide (by omega) (Nat.le_refl _)), halves_join HLE.out HST.out hs8 HRM.out hq8⟩)
                   clear hr8 hb8 hs8 hq8
                   go_wp2
                   all_goals go_end0
                   all_goals exact ⟨rfl, f8, HFin.out⟩)
                · have hcase : e = mid ∨ e = b := by have := HCut.out.mide; have := HCut.out.eb; omega
                  have hq : Srt mid b F1 := by
                    rcases hcase with h | h
                    · rw [← h]; exact HE2.out
                    · rw [← h]; exact HE1.out
                  have HFin := Lib.hid (show RowF wr g n F1 ∧ But w.heap.size g w wr ∧ Step a b f F1 ∧ Srt a b F1 from ⟨HRW.out, HBW.out, HSW.out, halves_join HLE.out HST.out (Step.refl _ _ _) HRM.out hq⟩)
                  rcases Nat.lt_or_ge mid e with c1 | c1
                  · have r1 : (mid : Int) < (e : Int) := by omega
                    have r2 : ¬ (e : Int) < (b : Int) := by omega
                    go_wp2
                    all_goals go_end0
                    all_goals exact ⟨rfl, F1, HFin.out⟩
                  · have r1 : ¬ (mid : Int) < (e : Int) := by omega
                    go_wp2
                    all_goals go_end0
                    all_goals exact ⟨rfl, F1, HFin.out⟩
end Go.Proofs.YtjopcpoodhamcaaDoor
