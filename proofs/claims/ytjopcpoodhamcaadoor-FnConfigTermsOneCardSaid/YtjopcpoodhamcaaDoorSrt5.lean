import Derived.Test.YtjopcpoodhamcaaDoorGj
/-
  The walk of slices' symMerge at terms, where the second part is a single term. Conditions: none.
-/
namespace Go.Proofs.YtjopcpoodhamcaaDoor
set_option linter.unusedSimpArgs false
set_option linter.unusedVariables false
open Go.RowKit

set_option maxRecDepth 100000 in
set_option maxHeartbeats 2000000 in
theorem merge_last (g n c a m : Nat) (f : Nat → Tm) (w : World) (hn : n ≤ 1000000) (h1 : a + 1 < m) (h2 : m + 1 ≤ n) (hR : RowF w g n f) (hg : g < w.heap.size) (hok : ∀ k, okT (f k)) (hs : Srt a m f) :
    Calls Tryd.prog 82 #[.slice (some ⟨g, 0, none⟩) n c, .int .i64 a, .int .i64 m, .int .i64 ((m : Int) + 1), cmpF] w fun e w' => e = .returned (.tuple #[]) ∧ ∃ f', RowF w' g n f' ∧ But w.heap.size g w w' ∧ Step a (m + 1) f f' ∧ Srt a (m + 1) f' := by
  have HR := Lib.hid hR
  have HK := Lib.hid hok
  have HS := Lib.hid hs
  clear hR hok hs
  have a0 : (0 : Int) ≤ (a : Int) := Int.natCast_nonneg _
  have m0 : (0 : Int) ≤ (m : Int) := Int.natCast_nonneg _
  have z1 : (a : Int) + 1 < (m : Int) := by omega
  have z2 : (m : Int) + 1 ≤ 1000000 := by omega
  have zn : (m : Int) < (n : Int) := by omega
  have e1 : (m : Int) + 1 - (m : Int) = 1 := by omega
  have ew : IntKind.i64.wrap ((m : Int) + 1 - (m : Int)) = 1 := by rw [e1]; rfl
  have e2 : ¬ (m : Int) - (a : Int) = 1 := by omega
  have e3 : ((m : Int) - (a : Int) == 1) = false := by rw [beq_eq_false_iff_ne]; exact e2
  go_enter Tryd.func82, Tryd.ntmps82
  go_wp2
  clear e1 ew e2 e3
  go_loopw [14, 15] (fun x y wr => ∃ (i j : Nat), x = .int .i64 i ∧ y = .int .i64 j ∧ a ≤ i ∧ i ≤ j ∧ j ≤ m ∧ RowF wr g n f ∧ But w.heap.size g w wr ∧ (∀ k, a ≤ k → k < i → key (f k) ≤ key (f m)) ∧ (∀ k, j ≤ k → k < m → key (f m) < key (f k))) (fun x y _ => ((intOf y) - (intOf x)).toNat)
  case atStart => exact ⟨a, m, rfl, rfl, by omega, by omega, by omega, HR.out, But.refl _ _ _, fun k k1 k2 => by omega, fun k k1 k2 => by omega⟩
  case round =>
    obtain ⟨i, j, rfl, rfl, hi, hij, hj, hrow, hbut, hlo, hhi⟩ := hrel
    have hbz := hbut.size
    have hgw : g < wr.heap.size := by omega
    by_cases hlt : i < j
    · obtain ⟨h, hh⟩ : ∃ h : Nat, h = (i + j) / 2 := ⟨_, rfl⟩
      have i0 : (0 : Int) ≤ (i : Int) := Int.natCast_nonneg _
      have j0 : (0 : Int) ≤ (j : Int) := Int.natCast_nonneg _
      have q0 : (0 : Int) ≤ (h : Int) := Int.natCast_nonneg _
      have hij' : (i : Int) < (j : Int) := by omega
      have hjz : (j : Int) ≤ 1000000 := by omega
      have hd : ((i : Int) + (j : Int)) / 2 = (h : Int) := by omega
      have hdt : ((i : Int) + (j : Int)).tdiv 2 = (h : Int) := by rw [Int.tdiv_eq_ediv_of_nonneg (by omega)]; omega
      have hw1 : IntKind.u64.wrap ((i : Int) + (j : Int)) = (i : Int) + (j : Int) := by rw [IntKind.wrap_u64]; omega
      have hw2 : IntKind.u64.wrap (h : Int) = (h : Int) := by rw [IntKind.wrap_u64]; omega
      have hw3 : IntKind.i64.wrap (h : Int) = (h : Int) := IntWalk.i64_in _ (by omega)
      have hhn : (h : Int) < (n : Int) := by omega
      have hhm : (h : Int) < (m : Int) := by omega
      have hw5 : IntKind.i64.wrap ((h : Int) + 1) = (h : Int) + 1 := IntWalk.i64_in _ (by omega)
      obtain ⟨x0, x1⟩ := hrow.1 h (by omega)
      obtain ⟨y0, y1⟩ := hrow.1 m (by omega)
      obtain ⟨cv, hcv, c0, c1, kC⟩ := cmp_named (HK.out m) (HK.out h)
      have HC := Lib.hid kC
      have HW := Lib.hid hrow
      have HB := Lib.hid hbut
      have HLo := Lib.hid hlo
      have HHi := Lib.hid hhi
      have HH := Lib.hid hh
      clear hrow hbut hlo hhi kC hh
      go_wp2
      by_cases hk : key (f m) < key (f h)
      · have hneg : decide (cv < 0) = true := decide_eq_true (hcv.2 hk)
        have HHi2 : Hid (∀ k, h ≤ k → k < m → key (f m) < key (f k)) := Lib.hid fun k k1 k2 => by
          have := HS.out h k (by have := HH.out; omega) k1 k2
          omega
        clear hcv
        go_region_held3 (fun w' => w'.cell? ⟨g, h * 2, none⟩ = some (.int .i64 (f h).1) ∧ w'.cell? ⟨g, h * 2 + 1, none⟩ = some (.int .i64 (f h).2) ∧ w'.cell? ⟨g, m * 2, none⟩ = some (.int .i64 (f m).1) ∧ w'.cell? ⟨g, m * 2 + 1, none⟩ = some (.int .i64 (f m).2) ∧ wr.heap.size ≤ w'.heap.size ∧ Below wr.heap.size wr w')
          (first | (simp (disch := first | omega | (simp; done) | (simp; omega)) [go_sem, *]; done) | ((repeat' first | (with_reducible exact Below.refl _ _) | (with_reducible assumption) | (with_reducible refine below_drewN ?_ _) | (with_reducible refine Below.drew ?_) | (with_reducible refine Below.alloc ?_ ?_ _) | (with_reducible refine Below.setCell ?_ ?_ _) | (with_reducible refine Below.trans ?_ (Below.mono (by assumption) ?_)) | first | omega | (simp only [World.size_alloc, World.size_setCell, World.size_drew, size_drewN]; omega) | (simp; done) | (simp; omega) | (simp only [World.size_alloc, World.size_setCell, World.size_drew, size_drewN] at *; omega) | (simp at *; omega)); done) | ((try go_split_ands); (refine ⟨?_, ?_, ?_, ?_, ?_, ?_⟩ <;> first | omega | (simp only [World.size_alloc, World.size_setCell, World.size_drew, size_drewN]; omega) | (simp (disch := first | omega | (simp; done) | (simp; omega)) [go_sem, *]; done) | ((repeat' first | (with_reducible exact Below.refl _ _) | (with_reducible assumption) | (with_reducible refine below_drewN ?_ _) | (with_reducible refine Below.drew ?_) | (with_reducible refine Below.alloc ?_ ?_ _) | (with_reducible refine Below.setCell ?_ ?_ _) | (with_reducible refine Below.trans ?_ (Below.mono (by assumption) ?_)) | first | omega | (simp only [World.size_alloc, World.size_setCell, World.size_drew, size_drewN]; omega) | (simp; done) | (simp; omega) | (simp only [World.size_alloc, World.size_setCell, World.size_drew, size_drewN] at *; omega) | (simp at *; omega)); done))))
          (first | (go_at_call 49; refine (HC.out _).mono ?_; rintro e w5 ⟨rfl, hb5⟩; obtain ⟨hc5, hf5⟩ := bcell hb5; have hz5 := hb5.size; (try simp only [World.size_alloc, World.size_setCell, World.size_drew, size_drewN] at hz5 hc5 hf5)))
        have hB5 : Below wr.heap.size wr w5 := by (repeat' first | (with_reducible exact Below.refl _ _) | (with_reducible assumption) | (with_reducible refine below_drewN ?_ _) | (with_reducible refine Below.drew ?_) | (with_reducible refine Below.alloc ?_ ?_ _) | (with_reducible refine Below.setCell ?_ ?_ _) | (with_reducible refine Below.trans ?_ (Below.mono (by assumption) ?_)) | first | omega | (simp only [World.size_alloc, World.size_setCell, World.size_drew, size_drewN]; omega) | (simp; done) | (simp; omega) | (simp only [World.size_alloc, World.size_setCell, World.size_drew, size_drewN] at *; omega) | (simp at *; omega))
        clear hb5 hc5 hf5 x0 x1 y0 y1 hk c0 c1
        go_wp2
        go_roundw
        case rel => exact ⟨i, h, rfl, by go_num, hi, by have := HH.out; omega, by have := HH.out; omega, HW.out.below hB5 hgw, HB.out.below hB5 (by omega), HLo.out, HHi2.out⟩
        case measure => have := HH.out; simp [intOf]; omega
      · have hneg : decide (cv < 0) = false := decide_eq_false (fun x => hk (hcv.1 x))
        have HLo2 : Hid (∀ k, a ≤ k → k < h + 1 → key (f k) ≤ key (f m)) := Lib.hid fun k k1 k2 => by
          have := HS.out k h k1 (by omega) (by have := HH.out; omega)
          omega
        clear hcv
        go_region_held3 (fun w' => w'.cell? ⟨g, h * 2, none⟩ = some (.int .i64 (f h).1) ∧ w'.cell? ⟨g, h * 2 + 1, none⟩ = some (.int .i64 (f h).2) ∧ w'.cell? ⟨g, m * 2, none⟩ = some (.int .i64 (f m).1) ∧ w'.cell? ⟨g, m * 2 + 1, none⟩ = some (.int .i64 (f m).2) ∧ wr.heap.size ≤ w'.heap.size ∧ Below wr.heap.size wr w')
          (first | (simp (disch := first | omega | (simp; done) | (simp; omega)) [go_sem, *]; done) | ((repeat' first | (with_reducible exact Below.refl _ _) | (with_reducible assumption) | (with_reducible refine below_drewN ?_ _) | (with_reducible refine Below.drew ?_) | (with_reducible refine Below.alloc ?_ ?_ _) | (with_reducible refine Below.setCell ?_ ?_ _) | (with_reducible refine Below.trans ?_ (Below.mono (by assumption) ?_)) | first | omega | (simp only [World.size_alloc, World.size_setCell, World.size_drew, size_drewN]; omega) | (simp; done) | (simp; omega) | (simp only [World.size_alloc, World.size_setCell, World.size_drew, size_drewN] at *; omega) | (simp at *; omega)); done) | ((try go_split_ands); (refine ⟨?_, ?_, ?_, ?_, ?_, ?_⟩ <;> first | omega | (simp only [World.size_alloc, World.size_setCell, World.size_drew, size_drewN]; omega) | (simp (disch := first | omega | (simp; done) | (simp; omega)) [go_sem, *]; done) | ((repeat' first | (with_reducible exact Below.refl _ _) | (with_reducible assumption) | (with_reducible refine below_drewN ?_ _) | (with_reducible refine Below.drew ?_) | (with_reducible refine Below.alloc ?_ ?_ _) | (with_reducible refine Below.setCell ?_ ?_ _) | (with_reducible refine Below.trans ?_ (Below.mono (by assumption) ?_)) | first | omega | (simp only [World.size_alloc, World.size_setCell, World.size_drew, size_drewN]; omega) | (simp; done) | (simp; omega) | (simp only [World.size_alloc, World.size_setCell, World.size_drew, size_drewN] at *; omega) | (simp at *; omega)); done))))
          (first | (go_at_call 49; refine (HC.out _).mono ?_; rintro e w5 ⟨rfl, hb5⟩; obtain ⟨hc5, hf5⟩ := bcell hb5; have hz5 := hb5.size; (try simp only [World.size_alloc, World.size_setCell, World.size_drew, size_drewN] at hz5 hc5 hf5)))
        have hB5 : Below wr.heap.size wr w5 := by (repeat' first | (with_reducible exact Below.refl _ _) | (with_reducible assumption) | (with_reducible refine below_drewN ?_ _) | (with_reducible refine Below.drew ?_) | (with_reducible refine Below.alloc ?_ ?_ _) | (with_reducible refine Below.setCell ?_ ?_ _) | (with_reducible refine Below.trans ?_ (Below.mono (by assumption) ?_)) | first | omega | (simp only [World.size_alloc, World.size_setCell, World.size_drew, size_drewN]; omega) | (simp; done) | (simp; omega) | (simp only [World.size_alloc, World.size_setCell, World.size_drew, size_drewN] at *; omega) | (simp at *; omega))
        clear hb5 hc5 hf5 x0 x1 y0 y1 hk c0 c1
        go_wp2
        go_roundw
        case rel => exact ⟨h + 1, j, by go_num, rfl, by have := HH.out; omega, by have := HH.out; omega, hj, HW.out.below hB5 hgw, HB.out.below hB5 (by omega), HLo2.out, HHi.out⟩
        case measure => have := HH.out; simp [intOf]; omega
    · obtain rfl : i = j := by omega
      have hfin := shB_srt (f := f) (a := a) (m := m) (i := i) hi hj HS.out hlo hhi
      have HFin := Lib.hid hfin
      have HSt := Lib.hid (shB_step' f (a := a) (m := m) (m - i) i (by omega) hi)
      have t0 : (0 : Int) ≤ (i : Int) := Int.natCast_nonneg _
      have ta : (a : Int) ≤ (i : Int) := by omega
      have tb : (i : Int) ≤ (m : Int) := by omega
      have HW := Lib.hid hrow
      have HB := Lib.hid hbut
      clear hrow hbut hlo hhi hfin
      go_wp2
      go_loopw [17] (fun x wr => ∃ q : Nat, x = .int .i64 q ∧ i ≤ q ∧ q ≤ m ∧ RowF wr g n (shB f m q) ∧ But w.heap.size g w wr) (fun x _ => ((intOf x).toNat))
      case atStart => exact ⟨m, rfl, hj, Nat.le_refl _, by rw [shB_start]; exact HW.out, HB.out⟩
      case round =>
        obtain ⟨q', rfl, qa, qt, hrow, hbut⟩ := hrel
        have hbz2 := hbut.size
        have hgw2 : g < wr.heap.size := by omega
        by_cases hqt : i < q'
        · obtain ⟨q, rfl⟩ : ∃ q, q' = q + 1 := ⟨q' - 1, by omega⟩
          have q0 : (0 : Int) ≤ (q : Int) := Int.natCast_nonneg _
          obtain ⟨P, hP⟩ : ∃ P, P = shB f m (q + 1) (q + 1) := ⟨_, rfl⟩
          obtain ⟨Q, hQ⟩ : ∃ Q, Q = shB f m (q + 1) q := ⟨_, rfl⟩
          obtain ⟨x0, x1⟩ := hrow.1 (q + 1) (by omega)
          obtain ⟨y0, y1⟩ := hrow.1 q (by omega)
          rw [← hP] at x0 x1
          rw [← hQ] at y0 y1
          have f0 := hrow.2 (q * 2)
          have f1 := hrow.2 (q * 2 + 1)
          have f2 := hrow.2 ((q + 1) * 2)
          have f3 := hrow.2 ((q + 1) * 2 + 1)
          have s1 := (hrow.of (w' := wr.drew) rfl).swap (i := q + 1) (j := q) (by omega) (by omega) (by omega)
          have s2 := (hrow.of (w' := wr.drew) rfl).swap' (i := q + 1) (j := q) (by omega) (by omega) (by omega)
          rw [shB_step f (by omega), ← hP, ← hQ] at s1 s2
          have t1 := (hbut.drew.set2 (q + 1) Q).set2 q P
          have t2 := (hbut.drew.set2 q P).set2 (q + 1) Q
          have H1 := Lib.hid (And.intro s1 t1)
          have H2 := Lib.hid (And.intro s2 t2)
          have ejc : ((q + 1 : Nat) : Int) = (q : Int) + 1 := by omega
          have hqt' : (i : Int) < (q : Int) + 1 := by omega
          have i1 : (q : Int) < (n : Int) := by omega
          have i2 : (q : Int) + 1 < (n : Int) := by omega
          have i3 : (q : Int) ≤ 1000000 := by omega
          have qe : (q : Int) + 1 - 1 = (q : Int) := by omega
          have hne : ¬ (q + 1) * 2 = q * 2 := by omega
          have hne1 : ¬ (q + 1) * 2 + 1 = q * 2 := by omega
          have hne2 : ¬ (q + 1) * 2 = q * 2 + 1 := by omega
          have hne3 : ¬ (q + 1) * 2 + 1 = q * 2 + 1 := by omega
          clear hrow hbut s1 s2 t1 t2 hP hQ
          rw [ejc]
          go_wp2
          go_region
          all_goals go_wp2
          all_goals go_roundw
          all_goals first
            | (case rel => first | exact ⟨q, by go_num, by omega, by omega, H1.out.1, H1.out.2⟩ | exact ⟨q, by go_num, by omega, by omega, H2.out.1, H2.out.2⟩)
            | (case measure => first | (simp [intOf]; done) | (simp [intOf]; omega))
            | skip
        · obtain rfl : q' = i := by omega
          have HR2 := Lib.hid hrow
          have HB2 := Lib.hid hbut
          clear hrow hbut
          go_wp2
          refine bodyPost_ret (results_none rfl _ _ _) rfl ?_
          exact ⟨rfl, _, HR2.out, HB2.out, HSt.out, HFin.out⟩
end Go.Proofs.YtjopcpoodhamcaaDoor
