/-
  The walk of the reference's TermFrom. Conditions: none.
-/
import Derived.Test.YtpggbfpjofcgnaaDoorTxt4
namespace Go.Proofs.YtpggbfpjofcgnaaDoor
set_option linter.unusedSimpArgs false
set_option linter.unusedVariables false
open Go.RowKit

/-- The place that has been found among the first i letters. -/
def fnd (K : Int) (i : Nat) : Int := if 0 ≤ K ∧ K < (i : Int) then K else -1
set_option maxRecDepth 20000 in
set_option maxHeartbeats 4000000 in
theorem sTermFrom_any (bs : ByteArray) (w : World) (hbs : bs.size ≤ 9000000) :
    Calls Tryd.prog 14 #[.string bs] w fun e w' => e = .returned (frT bs) ∧ Below w.heap.size w w' := by
  by_cases h2 : bs.size = 2
  · have hi0 := idx_at bs 0 0 rfl (by omega)
    have hi1 := idx_at bs 1 1 rfl (by omega)
    have hz : (bs.size : Int) = 2 := by omega
    have aB := UInt8.toNat_lt (chA bs)
    have cB := UInt8.toNat_lt (chC bs)
    have q := (ixL_at (chC bs)).1
    have qk := (ixL_at (chC bs)).2.2
    obtain ⟨S, hS⟩ : ∃ S, S = chS bs := ⟨_, rfl⟩
    obtain ⟨K, hK⟩ : ∃ K, K = chK bs := ⟨_, rfl⟩
    obtain ⟨A, hA⟩ : ∃ A : Int, A = ((chA bs).toNat : Int) := ⟨_, rfl⟩
    obtain ⟨C, hC⟩ : ∃ C : Int, C = ((chC bs).toNat : Int) := ⟨_, rfl⟩
    have hi0' : ∀ w, (Instr.index 9 (.string bs) (.int .i64 0)).run Tryd.prog w = .ok (.int .u8 A) w := fun w => by rw [hA]; exact hi0 w
    have hi1' : ∀ w, (Instr.index 9 (.string bs) (.int .i64 1)).run Tryd.prog w = .ok (.int .u8 C) w := fun w => by rw [hC]; exact hi1 w
    have hSA : A - 49 = S := by rw [hS, hA]; rfl
    have hA0 : 0 ≤ A ∧ A ≤ 255 := by omega
    have hC0 : 0 ≤ C ∧ C ≤ 255 := by omega
    have hK0 : -1 ≤ K ∧ K ≤ 8 := by rw [hK]; exact q
    have hw1 : IntKind.i64.wrap A = A := IntWalk.i64_in _ (by omega)
    have hw2 : IntKind.i64.wrap (A - 49) = S := by rw [hSA]; exact IntWalk.i64_in _ (by omega)
    have hw3 : IntKind.i64.wrap S = S := IntWalk.i64_in _ (by omega)
    have hlet : ∀ k : Nat, k < 9 → ((((LET.data.toList.getD k 0).toNat : Int) == C) = decide (K = (k : Int))) := fun k hk => by
      have := qk k hk
      rw [hC, Bool.eq_iff_iff, beq_iff_eq, decide_eq_true_eq, hK]
      unfold chK
      rw [← this]
      constructor
      · intro e
        have : (LET.data.toList.getD k 0).toNat = (chC bs).toNat := by omega
        exact UInt8.toNat_inj.1 this
      · intro e; rw [e]
    have HL := Lib.hid hlet
    have hne2 := ba_some (a := bs) (by omega)
    have hrest : ∃ X v, (∀ W, Calls Tryd.prog 11 #[.agg #[.int .i64 S, .int .i64 K]] W fun e w' => e = .returned (.string X) ∧ Below W.heap.size W w') ∧
        ((X.toList == bs.toList) = true ∧ X = bs ∧ v = (Value.tuple #[.agg #[.int .i64 S, .int .i64 K], .bool true]) ∨ (X.toList == bs.toList) = false ∧ X = ⟨#[]⟩ ∧ v = .tuple #[.agg #[.int .i64 0, .int .i64 0], .bool false]) ∧ frT bs = v := by
      cases hv : tvB S K
      · refine ⟨⟨#[]⟩, _, fun W => ?_, .inr ⟨ba_ne (empty_ne h2), rfl, rfl⟩, ?_⟩
        · have := sTermText_any S K W
          rw [if_neg (by rw [hv]; decide)] at this
          exact this
        · unfold frT okB
          rw [← hS, ← hK, hv]; simp
      · refine ⟨bs, _, fun W => ?_, .inl ⟨by simp, rfl, rfl⟩, ?_⟩
        · have := sTermText_ok S K W hv
          rw [show txT S K = bs by rw [hS, hK]; exact txT_back h2 (by rw [← hS, ← hK]; exact hv)] at this
          exact this
        · unfold frT okB
          rw [← hS, ← hK, hv]; simp [h2]
    obtain ⟨X, v, kT, hor, hfr⟩ := hrest
    have HT := Lib.hid kT
    have HF := Lib.hid hfr
    have HO := Lib.hid hor
    clear hi0 hi1 hfr hS hK hA hC kT hor q qk aB cB hSA h2 hlet
    go_enter Tryd.func14, Tryd.ntmps14
    go_wp2
    obtain ⟨w1, hw⟩ : ∃ W, W = (w.alloc (.cells #[.int .i64 0, .int .i64 0] 25)).alloc (.cells #[.int .i64 S, .int .i64 (-1)] 25) := ⟨_, rfl⟩
    have hB1 : Below w.heap.size w w1 := by rw [hw]; (repeat' first | (with_reducible exact Below.refl _ _) | (with_reducible assumption) | (with_reducible refine below_drewN ?_ _) | (with_reducible refine Below.drew ?_) | (with_reducible refine Below.alloc ?_ ?_ _) | (with_reducible refine Below.setCell ?_ ?_ _) | (with_reducible refine Below.trans ?_ (Below.mono (by assumption) ?_)) | first | omega | (simp only [World.size_alloc, World.size_setCell, World.size_drew, size_drewN]; omega) | (simp; done) | (simp; omega) | (simp only [World.size_alloc, World.size_setCell, World.size_drew, size_drewN] at *; omega) | (simp at *; omega))
    have hz1 : w1.heap.size = w.heap.size + 2 := by rw [hw]; simp
    have k0 : w1.cell? ⟨w.heap.size, 0, none⟩ = some (.int .i64 0) := by rw [hw]; (simp (disch := first | omega | (simp; done) | (simp; omega)) [go_sem, *]; done)
    have k1 : w1.cell? ⟨w.heap.size, 1, none⟩ = some (.int .i64 0) := by rw [hw]; (simp (disch := first | omega | (simp; done) | (simp; omega)) [go_sem, *]; done)
    have m0 : w1.frozen? ⟨w.heap.size, 0, none⟩ = false := by rw [hw]; (simp (disch := first | omega | (simp; done) | (simp; omega)) [go_sem, *]; done)
    have m1 : w1.frozen? ⟨w.heap.size, 1, none⟩ = false := by rw [hw]; (simp (disch := first | omega | (simp; done) | (simp; omega)) [go_sem, *]; done)
    have j0 : w1.cell? ⟨w.heap.size + 1, 0, none⟩ = some (.int .i64 S) := by rw [hw]; (simp (disch := first | omega | (simp; done) | (simp; omega)) [go_sem, *]; done)
    have j1 : w1.cell? ⟨w.heap.size + 1, 1, none⟩ = some (.int .i64 (-1)) := by rw [hw]; (simp (disch := first | omega | (simp; done) | (simp; omega)) [go_sem, *]; done)
    have n0 : w1.frozen? ⟨w.heap.size + 1, 0, none⟩ = false := by rw [hw]; (simp (disch := first | omega | (simp; done) | (simp; omega)) [go_sem, *]; done)
    have n1 : w1.frozen? ⟨w.heap.size + 1, 1, none⟩ = false := by rw [hw]; (simp (disch := first | omega | (simp; done) | (simp; omega)) [go_sem, *]; done)
    try rw [← hw]
    clear hw
    go_loopw [5] (fun i wr => ∃ k : Nat, k ≤ 9 ∧ i = .int .i64 k ∧ Below w.heap.size w wr ∧ wr.heap.size = w.heap.size + 2 ∧
        wr.cell? ⟨w.heap.size, 0, none⟩ = some (.int .i64 0) ∧ wr.cell? ⟨w.heap.size, 1, none⟩ = some (.int .i64 0) ∧ wr.frozen? ⟨w.heap.size, 0, none⟩ = false ∧ wr.frozen? ⟨w.heap.size, 1, none⟩ = false ∧
        wr.cell? ⟨w.heap.size + 1, 0, none⟩ = some (.int .i64 S) ∧ wr.cell? ⟨w.heap.size + 1, 1, none⟩ = some (.int .i64 (fnd K k)) ∧ wr.frozen? ⟨w.heap.size + 1, 0, none⟩ = false ∧ wr.frozen? ⟨w.heap.size + 1, 1, none⟩ = false) (fun i _ => 9 - (intOf i).toNat)
    case atStart => exact ⟨0, by omega, rfl, hB1, hz1, k0, k1, m0, m1, j0, by rw [j1]; unfold fnd; rw [if_neg (by omega)], n0, n1⟩
    case round =>
      clear hB1 hz1 k0 k1 m0 m1 j0 j1 n0 n1
      obtain ⟨k, hk, rfl, hbel, hz1, k0, k1, m0, m1, j0, j1, n0, n1⟩ := hrel
      have i0 : (0 : Int) ≤ (k : Int) := Int.natCast_nonneg _
      by_cases hlt : k < 9
      · have hik := idx_at LET (k : Int) k rfl (by show k < 9; exact hlt)
        obtain ⟨Y, hY⟩ : ∃ Y : Int, Y = ((LET.data.toList.getD k 0).toNat : Int) := ⟨_, rfl⟩
        have hLY := HL.out k hlt
        rw [← hY] at hLY
        have hik' : ∀ w, (Instr.index 9 (.string ⟨#[83, 80, 68, 70, 71, 72, 73, 75, 76]⟩) (.int .i64 (k : Int))).run Tryd.prog w = .ok (.int .u8 Y) w := fun w => by rw [hY]; exact hik w
        have i1 : (k : Int) ≤ 8 := by omega
        clear hik hY
        by_cases hkk : K = (k : Int)
        · have hyc : (Y == C) = true := by rw [hLY]; simp [hkk]
          have e1 : fnd K (k + 1) = (k : Int) := by unfold fnd; rw [if_pos (by omega)]; exact hkk
          have E1 := Lib.hid e1
          clear hLY e1 hkk
          go_wp2
          go_quiet (fail)
          go_wp2
          go_roundw
          case rel => exact ⟨k + 1, by omega, by go_num, by (repeat' first | (with_reducible exact Below.refl _ _) | (with_reducible assumption) | (with_reducible refine below_drewN ?_ _) | (with_reducible refine Below.drew ?_) | (with_reducible refine Below.alloc ?_ ?_ _) | (with_reducible refine Below.setCell ?_ ?_ _) | (with_reducible refine Below.trans ?_ (Below.mono (by assumption) ?_)) | first | omega | (simp only [World.size_alloc, World.size_setCell, World.size_drew, size_drewN]; omega) | (simp; done) | (simp; omega) | (simp only [World.size_alloc, World.size_setCell, World.size_drew, size_drewN] at *; omega) | (simp at *; omega)), by simp [hz1, size_drewN], by (simp (disch := first | omega | (simp; done) | (simp; omega)) [go_sem, *]; done), by (simp (disch := first | omega | (simp; done) | (simp; omega)) [go_sem, *]; done), by (simp (disch := first | omega | (simp; done) | (simp; omega)) [go_sem, *]; done), by (simp (disch := first | omega | (simp; done) | (simp; omega)) [go_sem, *]; done), by (simp (disch := first | omega | (simp; done) | (simp; omega)) [go_sem, *]; done), by rw [E1.out]; first | exact j1 | exact World.cell?_setCell_same' _ _ _ (by rw [show (wr.drewN nq).cell? ⟨w.heap.size + 1, 1, none⟩ = wr.cell? ⟨w.heap.size + 1, 1, none⟩ from rfl, j1]; rfl) | ((simp (disch := first | omega | (simp; done) | (simp; omega)) [go_sem, *]; done)), by (simp (disch := first | omega | (simp; done) | (simp; omega)) [go_sem, *]; done), by (simp (disch := first | omega | (simp; done) | (simp; omega)) [go_sem, *]; done)⟩
          case measure => simp [intOf]; omega
        · have hyc : (Y == C) = false := by rw [hLY]; simp [hkk]
          have e1 : fnd K (k + 1) = fnd K k := by unfold fnd; split <;> split <;> omega
          have E1 := Lib.hid e1
          clear hLY e1 hkk
          go_wp2
          go_quiet (fail)
          go_wp2
          go_roundw
          case rel => exact ⟨k + 1, by omega, by go_num, by (repeat' first | (with_reducible exact Below.refl _ _) | (with_reducible assumption) | (with_reducible refine below_drewN ?_ _) | (with_reducible refine Below.drew ?_) | (with_reducible refine Below.alloc ?_ ?_ _) | (with_reducible refine Below.setCell ?_ ?_ _) | (with_reducible refine Below.trans ?_ (Below.mono (by assumption) ?_)) | first | omega | (simp only [World.size_alloc, World.size_setCell, World.size_drew, size_drewN]; omega) | (simp; done) | (simp; omega) | (simp only [World.size_alloc, World.size_setCell, World.size_drew, size_drewN] at *; omega) | (simp at *; omega)), by simp [hz1, size_drewN], by (simp (disch := first | omega | (simp; done) | (simp; omega)) [go_sem, *]; done), by (simp (disch := first | omega | (simp; done) | (simp; omega)) [go_sem, *]; done), by (simp (disch := first | omega | (simp; done) | (simp; omega)) [go_sem, *]; done), by (simp (disch := first | omega | (simp; done) | (simp; omega)) [go_sem, *]; done), by (simp (disch := first | omega | (simp; done) | (simp; omega)) [go_sem, *]; done), by rw [E1.out]; first | exact j1 | exact World.cell?_setCell_same' _ _ _ (by rw [show (wr.drewN nq).cell? ⟨w.heap.size + 1, 1, none⟩ = wr.cell? ⟨w.heap.size + 1, 1, none⟩ from rfl, j1]; rfl) | ((simp (disch := first | omega | (simp; done) | (simp; omega)) [go_sem, *]; done)), by (simp (disch := first | omega | (simp; done) | (simp; omega)) [go_sem, *]; done), by (simp (disch := first | omega | (simp; done) | (simp; omega)) [go_sem, *]; done)⟩
          case measure => simp [intOf]; omega
      · obtain rfl : k = 9 := by omega
        have e1 : fnd K 9 = K := by unfold fnd; split <;> omega
        rw [e1] at j1
        clear e1
        obtain ⟨g0, g1⟩ : w.heap.size < wr.heap.size ∧ w.heap.size + 1 < wr.heap.size := by omega
        rcases HO.out with ⟨x1, rfl, rfl⟩ | ⟨x1, rfl, rfl⟩
        · go_wp2_with (go_at_call 11; refine (HT.out _).mono ?_; rintro e w2 ⟨rfl, hb2⟩; obtain ⟨hc2, hf2⟩ := bcell hb2; have hz2 := hb2.size; (try simp only [World.size_alloc, World.size_setCell, World.size_drew, size_drewN] at hz2 hc2 hf2); (have y0 : w2.cell? ⟨w.heap.size, 0, none⟩ = some (.int .i64 0) := by (simp (disch := first | omega | (simp; done) | (simp; omega)) [go_sem, *]; done)); (have y1 : w2.cell? ⟨w.heap.size, 1, none⟩ = some (.int .i64 0) := by (simp (disch := first | omega | (simp; done) | (simp; omega)) [go_sem, *]; done)); (have u0 : w2.cell? ⟨w.heap.size + 1, 0, none⟩ = some (.int .i64 S) := by (simp (disch := first | omega | (simp; done) | (simp; omega)) [go_sem, *]; done)); (have u1 : w2.cell? ⟨w.heap.size + 1, 1, none⟩ = some (.int .i64 K) := by (simp (disch := first | omega | (simp; done) | (simp; omega)) [go_sem, *]; done)); (have z0 : w2.frozen? ⟨w.heap.size, 0, none⟩ = false := by (simp (disch := first | omega | (simp; done) | (simp; omega)) [go_sem, *]; done)); (have z1 : w2.frozen? ⟨w.heap.size, 1, none⟩ = false := by (simp (disch := first | omega | (simp; done) | (simp; omega)) [go_sem, *]; done)); clear hc2 hf2)
          refine bodyPost_ret (v := .tuple #[.agg #[.int .i64 S, .int .i64 K], .bool true]) (by simp (disch := first | omega | (simp; done) | (simp; omega)) [results, Tryd.results14, go_sem, cell_set, *]) rfl ?_
          exact ⟨by rw [HF.out], by (repeat' first | (with_reducible exact Below.refl _ _) | (with_reducible assumption) | (with_reducible refine below_drewN ?_ _) | (with_reducible refine Below.drew ?_) | (with_reducible refine Below.alloc ?_ ?_ _) | (with_reducible refine Below.setCell ?_ ?_ _) | (with_reducible refine Below.trans ?_ (Below.mono (by assumption) ?_)) | first | omega | (simp only [World.size_alloc, World.size_setCell, World.size_drew, size_drewN]; omega) | (simp; done) | (simp; omega) | (simp only [World.size_alloc, World.size_setCell, World.size_drew, size_drewN] at *; omega) | (simp at *; omega))⟩
        · go_wp2_with (go_at_call 11; refine (HT.out _).mono ?_; rintro e w2 ⟨rfl, hb2⟩; obtain ⟨hc2, hf2⟩ := bcell hb2; have hz2 := hb2.size; (try simp only [World.size_alloc, World.size_setCell, World.size_drew, size_drewN] at hz2 hc2 hf2); (have y0 : w2.cell? ⟨w.heap.size, 0, none⟩ = some (.int .i64 0) := by (simp (disch := first | omega | (simp; done) | (simp; omega)) [go_sem, *]; done)); (have y1 : w2.cell? ⟨w.heap.size, 1, none⟩ = some (.int .i64 0) := by (simp (disch := first | omega | (simp; done) | (simp; omega)) [go_sem, *]; done)); (have z0 : w2.frozen? ⟨w.heap.size, 0, none⟩ = false := by (simp (disch := first | omega | (simp; done) | (simp; omega)) [go_sem, *]; done)); (have z1 : w2.frozen? ⟨w.heap.size, 1, none⟩ = false := by (simp (disch := first | omega | (simp; done) | (simp; omega)) [go_sem, *]; done)); clear hc2 hf2)
          refine bodyPost_ret (v := .tuple #[.agg #[.int .i64 0, .int .i64 0], .bool false]) (by simp (disch := first | omega | (simp; done) | (simp; omega)) [results, Tryd.results14, go_sem, cell_set, *]) rfl ?_
          exact ⟨by rw [HF.out], by (repeat' first | (with_reducible exact Below.refl _ _) | (with_reducible assumption) | (with_reducible refine below_drewN ?_ _) | (with_reducible refine Below.drew ?_) | (with_reducible refine Below.alloc ?_ ?_ _) | (with_reducible refine Below.setCell ?_ ?_ _) | (with_reducible refine Below.trans ?_ (Below.mono (by assumption) ?_)) | first | omega | (simp only [World.size_alloc, World.size_setCell, World.size_drew, size_drewN]; omega) | (simp; done) | (simp; omega) | (simp only [World.size_alloc, World.size_setCell, World.size_drew, size_drewN] at *; omega) | (simp at *; omega))⟩
  · have hfr : frT bs = .tuple #[.agg #[.int .i64 0, .int .i64 0], .bool false] := by
      unfold frT okB
      simp [h2]
    have HF := Lib.hid hfr
    have hz : ¬ (bs.size : Int) = 2 := by omega
    have hz2 : ((bs.size : Int) == 2) = false := by rw [beq_eq_false_iff_ne]; exact hz
    clear hfr
    go_enter Tryd.func14, Tryd.ntmps14
    go_wp2
    refine bodyPost_ret (v := .tuple #[.agg #[.int .i64 0, .int .i64 0], .bool false]) (by simp (disch := first | omega | (simp; done) | (simp; omega)) [results, Tryd.results14, go_sem, cell_set, *]) rfl ?_
    exact ⟨by rw [HF.out], by (repeat' first | (with_reducible exact Below.refl _ _) | (with_reducible assumption) | (with_reducible refine below_drewN ?_ _) | (with_reducible refine Below.drew ?_) | (with_reducible refine Below.alloc ?_ ?_ _) | (with_reducible refine Below.setCell ?_ ?_ _) | (with_reducible refine Below.trans ?_ (Below.mono (by assumption) ?_)) | first | omega | (simp only [World.size_alloc, World.size_setCell, World.size_drew, size_drewN]; omega) | (simp; done) | (simp; omega) | (simp only [World.size_alloc, World.size_setCell, World.size_drew, size_drewN] at *; omega) | (simp at *; omega))⟩
end Go.Proofs.YtpggbfpjofcgnaaDoor
