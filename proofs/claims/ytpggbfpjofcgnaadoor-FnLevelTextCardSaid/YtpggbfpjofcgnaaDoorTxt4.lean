/-
  The walks that read a term. Conditions: none.
-/
import Derived.Test.YtpggbfpjofcgnaaDoorTxt3
import Derived.Laws.StructEq
namespace Go.Proofs.YtpggbfpjofcgnaaDoor
set_option linter.unusedSimpArgs false
set_option linter.unusedVariables false
open Go.RowKit

theorem ba_ne {a b : ByteArray} (h : a ≠ b) : (a.toList == b.toList) = false := by
  rw [beq_eq_false_iff_ne, ByteArray.toList_eq, ByteArray.toList_eq]
  intro e
  exact h (ByteArray.ext (Array.ext' e))
theorem ba_some {a : ByteArray} (h : 0 < a.size) : a.toList.isEmpty = false := by
  rw [ByteArray.toList_eq]
  obtain ⟨⟨l⟩⟩ := a
  cases l with
  | nil => exact absurd h (by decide)
  | cons x r => rfl
theorem idx_at (bs : ByteArray) (z : Int) (i : Nat) (hz : z = (i : Int)) (hi : i < bs.size) (w : World) :
    (Instr.index 9 (.string bs) (.int .i64 z)).run Tryd.prog w = .ok (.int .u8 ((bs.data.toList.getD i 0).toNat : Int)) w := by
  subst hz
  rw [run_index_string w 9 bs .i64 _ Tryd.underlying9, dif_pos ⟨by omega, by omega⟩]
  have e : ((i : Int)).toNat = i := by omega
  simp only [e]
  rw [Lib.getD_at bs i hi]
abbrev LET : ByteArray := ⟨#[83, 80, 68, 70, 71, 72, 73, 75, 76]⟩
def ixL (c : UInt8) : Int := Lib.indexByte LET.data.toList c
def chA (bs : ByteArray) : UInt8 := bs.data.toList.getD 0 0
def chC (bs : ByteArray) : UInt8 := bs.data.toList.getD 1 0
def chS (bs : ByteArray) : Int := ((chA bs).toNat : Int) - 49
def chK (bs : ByteArray) : Int := ixL (chC bs)
def okB (bs : ByteArray) : Bool := decide (bs.size = 2) && tvB (chS bs) (chK bs)
theorem ixL_fin : ((List.range 256).all fun n => decide (-1 ≤ ixL (UInt8.ofNat n) ∧ ixL (UInt8.ofNat n) ≤ 8) && (decide (ixL (UInt8.ofNat n) = -1) || decide (ltr (ixL (UInt8.ofNat n)) = ⟨#[UInt8.ofNat n]⟩)) && (List.range 9).all fun k => decide ((LET.data.toList.getD k 0 = UInt8.ofNat n) ↔ (ixL (UInt8.ofNat n) = (k : Int)))) = true := by decide +kernel
theorem ixL_at (c : UInt8) : (-1 ≤ ixL c ∧ ixL c ≤ 8) ∧ (ixL c = -1 ∨ ltr (ixL c) = ⟨#[c]⟩) ∧ ∀ k : Nat, k < 9 → ((LET.data.toList.getD k 0 = c) ↔ (ixL c = (k : Int))) := by
  have h := List.all_eq_true.1 ixL_fin c.toNat (List.mem_range.2 (UInt8.toNat_lt c))
  rw [show UInt8.ofNat c.toNat = c by simp] at h
  simp only [Bool.and_eq_true, Bool.or_eq_true, List.all_eq_true, decide_eq_true_eq, List.mem_range] at h
  exact ⟨h.1.1, h.1.2, h.2⟩
theorem two_of {bs : ByteArray} (h : bs.size = 2) : bs = ⟨#[chA bs, chC bs]⟩ := by
  obtain ⟨⟨l⟩⟩ := bs
  have hl : l.length = 2 := h
  match l, hl with
  | [a, c], _ => rfl
theorem txT_back {bs : ByteArray} (h : bs.size = 2) (hv : tvB (chS bs) (chK bs) = true) : txT (chS bs) (chK bs) = bs := by
  have b := tvB_true hv
  obtain ⟨b1, b2, b3, b4⟩ := b
  have q := ixL_at (chC bs)
  have hk : ixL (chC bs) ≠ -1 := by unfold chK at b3; omega
  have hl : ltr (chK bs) = ⟨#[chC bs]⟩ := q.2.1.resolve_left hk
  unfold chS at b1 b2
  have hd : dec (chS bs + 1).toNat = ⟨#[chA bs]⟩ := by
    unfold chS dec
    rw [Lib.decDigits_one (by omega)]
    have e : 48 + (((chA bs).toNat : Int) - 49 + 1).toNat = (chA bs).toNat := by omega
    rw [e]
    simp
  unfold txT
  rw [hd, hl]
  exact (two_of h).symm
theorem empty_ne {bs : ByteArray} (h : bs.size = 2) : (⟨#[]⟩ : ByteArray) ≠ bs := by
  rintro rfl
  exact absurd h (by decide)
/-- What TermFrom tells: the term, and whether it is one. -/
def frT (bs : ByteArray) : Value := if okB bs = true then .tuple #[.agg #[.int .i64 (chS bs), .int .i64 (chK bs)], .bool true] else .tuple #[.agg #[.int .i64 0, .int .i64 0], .bool false]
set_option maxRecDepth 20000 in
set_option maxHeartbeats 2000000 in
theorem iTermFrom_any (bs : ByteArray) (w : World) (hbs : bs.size ≤ 9000000) :
    Calls Tryd.prog 15 #[.string bs] w fun e w' => e = .returned (frT bs) ∧ Below w.heap.size w w' := by
  by_cases h2 : bs.size = 2
  · have hi0 := idx_at bs 0 0 rfl (by omega)
    have hi1 := idx_at bs 1 1 rfl (by omega)
    have hz : (bs.size : Int) = 2 := by omega
    have aB := UInt8.toNat_lt (chA bs)
    have cB := UInt8.toNat_lt (chC bs)
    have q := (ixL_at (chC bs)).1
    obtain ⟨S, hS⟩ : ∃ S, S = chS bs := ⟨_, rfl⟩
    obtain ⟨K, hK⟩ : ∃ K, K = chK bs := ⟨_, rfl⟩
    obtain ⟨A, hA⟩ : ∃ A : Int, A = ((chA bs).toNat : Int) := ⟨_, rfl⟩
    obtain ⟨C, hC⟩ : ∃ C : Int, C = ((chC bs).toNat : Int) := ⟨_, rfl⟩
    have hi0' : ∀ w, (Instr.index 9 (.string bs) (.int .i64 0)).run Tryd.prog w = .ok (.int .u8 A) w := fun w => by rw [hA]; exact hi0 w
    have hi1' : ∀ w, (Instr.index 9 (.string bs) (.int .i64 1)).run Tryd.prog w = .ok (.int .u8 C) w := fun w => by rw [hC]; exact hi1 w
    have hSA : A - 49 = S := by rw [hS, hA]; rfl
    have hA0 : 0 ≤ A ∧ A ≤ 255 := by omega
    have hC0 : 0 ≤ C ∧ C ≤ 255 := by omega
    have hK0 : -1 ≤ K ∧ K ≤ 8 := by rw [hK]; exact q
    have hw1 : IntKind.i64.wrap A = A := IntWalk.i64_in _ (by omega)
    have hw2 : IntKind.i64.wrap (A - 49) = S := by rw [hSA]; exact IntWalk.i64_in _ (by omega)
    have hw3 : IntKind.i64.wrap S = S := IntWalk.i64_in _ (by omega)
    have kI : ∀ W, Calls Tryd.prog 32 #[.string LET, .int .u8 C] W fun e w' => e = .returned (.int .i64 K) ∧ w' = W := fun W => by
      have := index_any LET C W
      rw [show C.toNat.toUInt8 = chC bs by rw [hC]; simp] at this
      rw [hK]
      exact this
    have HI := Lib.hid kI
    have hne2 := ba_some (a := bs) (by omega)
    cases hv : tvB S K
    · have hfr : frT bs = .tuple #[.agg #[.int .i64 0, .int .i64 0], .bool false] := by
        unfold frT okB
        rw [← hS, ← hK, hv]; simp
      have HF := Lib.hid hfr
      have hne := ba_ne (empty_ne h2)
      clear hi0 hi1 hfr hS hK hA hC kI q aB cB hSA h2
      go_enter Tryd.func15, Tryd.ntmps15
      go_wp2
      go_region_with (first | (go_at_call 32; refine (HI.out _).mono ?_; rintro e w' ⟨rfl, rfl⟩))
      all_goals go_wp2_with (go_at_call 13; refine (iTermText_any _ _ _).mono ?_; rintro e w2 ⟨rfl, hb2⟩; obtain ⟨hc2, hf2⟩ := bcell hb2; have hz2 := hb2.size; (try simp only [World.size_alloc, World.size_setCell, World.size_drew, size_drewN] at hz2 hc2 hf2); (have g2a : w.heap.size < w2.heap.size := by omega); (have g2b : w.heap.size + 1 < w2.heap.size := by omega); rw [if_neg (by rw [hv]; decide)]; (have k0 : w2.cell? ⟨w.heap.size, 0, none⟩ = some (.int .i64 0) := by (simp (disch := first | omega | (simp; done) | (simp; omega)) [go_sem, *]; done)); (have k1 : w2.cell? ⟨w.heap.size, 1, none⟩ = some (.int .i64 0) := by (simp (disch := first | omega | (simp; done) | (simp; omega)) [go_sem, *]; done)); (have m0 : w2.frozen? ⟨w.heap.size, 0, none⟩ = false := by (simp (disch := first | omega | (simp; done) | (simp; omega)) [go_sem, *]; done)); (have m1 : w2.frozen? ⟨w.heap.size, 1, none⟩ = false := by (simp (disch := first | omega | (simp; done) | (simp; omega)) [go_sem, *]; done)); clear hc2 hf2)
      all_goals refine bodyPost_ret (v := .tuple #[.agg #[.int .i64 0, .int .i64 0], .bool false]) (by simp (disch := first | omega | (simp; done) | (simp; omega)) [results, Tryd.results15, go_sem, cell_set, *]) rfl ?_
      all_goals exact ⟨by rw [HF.out], by (repeat' first | (with_reducible exact Below.refl _ _) | (with_reducible assumption) | (with_reducible refine below_drewN ?_ _) | (with_reducible refine Below.drew ?_) | (with_reducible refine Below.alloc ?_ ?_ _) | (with_reducible refine Below.setCell ?_ ?_ _) | (with_reducible refine Below.trans ?_ (Below.mono (by assumption) ?_)) | first | omega | (simp only [World.size_alloc, World.size_setCell, World.size_drew, size_drewN]; omega) | (simp; done) | (simp; omega) | (simp only [World.size_alloc, World.size_setCell, World.size_drew, size_drewN] at *; omega) | (simp at *; omega))⟩
    · have hfr : frT bs = .tuple #[.agg #[.int .i64 S, .int .i64 K], .bool true] := by
        unfold frT okB
        rw [← hS, ← hK, hv]; simp [h2]
      have HF := Lib.hid hfr
      have kT : ∀ W, Calls Tryd.prog 13 #[.agg #[.int .i64 S, .int .i64 K]] W fun e w' => e = .returned (.string bs) ∧ Below W.heap.size W w' := fun W => by
        have := iTermText_ok S K W hv
        rw [show txT S K = bs by rw [hS, hK]; exact txT_back h2 (by rw [← hS, ← hK]; exact hv)] at this
        exact this
      have HT := Lib.hid kT
      clear hi0 hi1 hfr hS hK hA hC kI kT q aB cB hSA h2
      go_enter Tryd.func15, Tryd.ntmps15
      go_wp2
      go_region_with (first | (go_at_call 32; refine (HI.out _).mono ?_; rintro e w' ⟨rfl, rfl⟩))
      all_goals go_wp2_with (go_at_call 13; refine (HT.out _).mono ?_; rintro e w2 ⟨rfl, hb2⟩; obtain ⟨hc2, hf2⟩ := bcell hb2; have hz2 := hb2.size; (try simp only [World.size_alloc, World.size_setCell, World.size_drew, size_drewN] at hz2 hc2 hf2); (have g2a : w.heap.size < w2.heap.size := by omega); (have g2b : w.heap.size + 1 < w2.heap.size := by omega); (have k0 : w2.cell? ⟨w.heap.size, 0, none⟩ = some (.int .i64 0) := by (simp (disch := first | omega | (simp; done) | (simp; omega)) [go_sem, *]; done)); (have k1 : w2.cell? ⟨w.heap.size, 1, none⟩ = some (.int .i64 0) := by (simp (disch := first | omega | (simp; done) | (simp; omega)) [go_sem, *]; done)); (have j0 : w2.cell? ⟨w.heap.size + 1, 0, none⟩ = some (.int .i64 S) := by (simp (disch := first | omega | (simp; done) | (simp; omega)) [go_sem, *]; done)); (have j1 : w2.cell? ⟨w.heap.size + 1, 1, none⟩ = some (.int .i64 K) := by (simp (disch := first | omega | (simp; done) | (simp; omega)) [go_sem, *]; done)); (have m0 : w2.frozen? ⟨w.heap.size, 0, none⟩ = false := by (simp (disch := first | omega | (simp; done) | (simp; omega)) [go_sem, *]; done)); (have m1 : w2.frozen? ⟨w.heap.size, 1, none⟩ = false := by (simp (disch := first | omega | (simp; done) | (simp; omega)) [go_sem, *]; done)); clear hc2 hf2)
      all_goals refine bodyPost_ret (v := .tuple #[.agg #[.int .i64 S, .int .i64 K], .bool true]) (by simp (disch := first | omega | (simp; done) | (simp; omega)) [results, Tryd.results15, go_sem, cell_set, *]) rfl ?_
      all_goals exact ⟨by rw [HF.out], by (repeat' first | (with_reducible exact Below.refl _ _) | (with_reducible assumption) | (with_reducible refine below_drewN ?_ _) | (with_reducible refine Below.drew ?_) | (with_reducible refine Below.alloc ?_ ?_ _) | (with_reducible refine Below.setCell ?_ ?_ _) | (with_reducible refine Below.trans ?_ (Below.mono (by assumption) ?_)) | first | omega | (simp only [World.size_alloc, World.size_setCell, World.size_drew, size_drewN]; omega) | (simp; done) | (simp; omega) | (simp only [World.size_alloc, World.size_setCell, World.size_drew, size_drewN] at *; omega) | (simp at *; omega))⟩
  · have hfr : frT bs = .tuple #[.agg #[.int .i64 0, .int .i64 0], .bool false] := by
      unfold frT okB
      simp [h2]
    have HF := Lib.hid hfr
    have hz : ¬ (bs.size : Int) = 2 := by omega
    have hz2 : ((bs.size : Int) == 2) = false := by rw [beq_eq_false_iff_ne]; exact hz
    clear hfr
    go_enter Tryd.func15, Tryd.ntmps15
    go_wp2
    refine bodyPost_ret (v := .tuple #[.agg #[.int .i64 0, .int .i64 0], .bool false]) (by simp (disch := first | omega | (simp; done) | (simp; omega)) [results, Tryd.results15, go_sem, cell_set, *]) rfl ?_
    exact ⟨by rw [HF.out], by (repeat' first | (with_reducible exact Below.refl _ _) | (with_reducible assumption) | (with_reducible refine below_drewN ?_ _) | (with_reducible refine Below.drew ?_) | (with_reducible refine Below.alloc ?_ ?_ _) | (with_reducible refine Below.setCell ?_ ?_ _) | (with_reducible refine Below.trans ?_ (Below.mono (by assumption) ?_)) | first | omega | (simp only [World.size_alloc, World.size_setCell, World.size_drew, size_drewN]; omega) | (simp; done) | (simp; omega) | (simp only [World.size_alloc, World.size_setCell, World.size_drew, size_drewN] at *; omega) | (simp at *; omega))⟩
end Go.Proofs.YtpggbfpjofcgnaaDoor
