/-
  The walk of the law FnTermCountNone. Conditions: the table of the library.
-/
import Derived.Test.YtlbmdicfoiehgaaDoorDrawU
namespace Go.Proofs.YtlbmdicfoiehgaaDoor
set_option linter.unusedSimpArgs false
set_option linter.unusedVariables false
open Go.RowKit

def countIn (o s : Int) : List (Int × Int) → Nat → Nat
  | [], c => c
  | p :: r, c => countIn o s r (if decide (p.1 = o) && decide (p.2 = s) then c + 1 else c)
theorem countIn_is (o s : Int) : ∀ (xs : List (Int × Int)) (c : Nat), countIn o s xs c = c + xs.countP fun p => decide (p.1 = o ∧ p.2 = s)
  | [], c => by simp [countIn]
  | p :: r, c => by
    unfold countIn
    rw [countIn_is o s r]
    by_cases h : p.1 = o ∧ p.2 = s
    · simp [h]; omega
    · have h' : (decide (p.1 = o) && decide (p.2 = s)) = false := by simpa using h
      simp [h, h']
def tcL (L : List (Int × Int)) (s k : Int) : Int := (countIn k s L 0 : Int) - (countIn (k + 1) s L 0 : Int) - (countIn k (s + 2) L 0 : Int) + (countIn (k + 1) (s + 2) L 0 : Int)
theorem cntM_in (l n o s : Int) : cntM l n o s = (countIn o s (mics l n) 0 : Int) := by
  rw [countIn_is]
  unfold cntM cntK
  rw [List.take_length]
  simp
theorem tcI_L (l n s k : Int) : tcI l n s k = tcL (mics l n) s k := by
  unfold tcI tcL
  rw [cntM_in, cntM_in, cntM_in, cntM_in]
def chk (L : List (Int × Int)) (f : Int → Int → Int) : Bool := (List.range 9).all fun s => (List.range 9).all fun k => decide (tcL L s k = f s k)
theorem chk_of {L : List (Int × Int)} {f : Int → Int → Int} (h : chk L f = true) {s k : Int} (hv : tvB s k = true) : tcL L s k = f s k := by
  have b := tvB_true hv
  obtain ⟨s, rfl⟩ := Int.eq_ofNat_of_zero_le b.1
  obtain ⟨k, rfl⟩ := Int.eq_ofNat_of_zero_le b.2.2.1
  have h1 := List.all_eq_true.1 (List.all_eq_true.1 h s (List.mem_range.2 (by omega))) k (List.mem_range.2 (by omega))
  simpa using h1
def zF (s k : Int) : Int := if s = 0 ∧ k = 0 then 1 else 0
def oF (l s k : Int) : Int := if s = 1 ∧ k = l then 1 else 0
theorem mics_none {l : Int} (h0 : 0 ≤ l) (h2 : l ≤ 2) : mics l 0 = [(0, 0)] := by
  refine three (p := fun l => mics l 0 = [(0, 0)]) h0 h2 ?_ ?_ ?_ <;> decide +kernel
theorem mics_full {l : Int} (h0 : 0 ≤ l) (h2 : l ≤ 2) : mics l (4 * l + 2) = [(0, 0)] := by
  refine three (p := fun l => mics l (4 * l + 2) = [(0, 0)]) h0 h2 ?_ ?_ ?_ <;> decide +kernel
theorem mics_one0 : mics 0 1 = [(0, -1), (0, 1)] := by decide +kernel
theorem mics_one1 : mics 1 1 = [(-1, -1), (-1, 1), (0, -1), (0, 1), (1, -1), (1, 1)] := by decide +kernel
theorem mics_one2 : mics 2 1 = [(-2, -1), (-2, 1), (-1, -1), (-1, 1), (0, -1), (0, 1), (1, -1), (1, 1), (2, -1), (2, 1)] := by decide +kernel
theorem tc_none {l s k : Int} (h0 : 0 ≤ l) (h2 : l ≤ 2) (hv : tvB s k = true) : tcF l 0 s k = zF s k := by
  have e : eOk l 0 = true := by simp [eOk]; omega
  rw [show tcF l 0 s k = tcI l 0 s k by simp [tcF, hv, e], tcI_L, mics_none h0 h2]
  exact chk_of (by decide +kernel) hv
theorem tc_full {l s k : Int} (h0 : 0 ≤ l) (h2 : l ≤ 2) (hv : tvB s k = true) : tcF l (4 * l + 2) s k = zF s k := by
  have e : eOk l (4 * l + 2) = true := by simp [eOk]; omega
  rw [show tcF l (4 * l + 2) s k = tcI l (4 * l + 2) s k by simp [tcF, hv, e], tcI_L, mics_full h0 h2]
  exact chk_of (by decide +kernel) hv
theorem tc_one {l s k : Int} (h0 : 0 ≤ l) (h2 : l ≤ 2) (hv : tvB s k = true) : tcF l 1 s k = oF l s k := by
  have e : eOk l 1 = true := by simp [eOk]; omega
  rw [show tcF l 1 s k = tcI l 1 s k by simp [tcF, hv, e], tcI_L]
  refine three (p := fun l => tcL (mics l 1) s k = oF l s k) h0 h2 ?_ ?_ ?_
  · show tcL (mics 0 1) s k = oF 0 s k
    rw [mics_one0]; exact chk_of (f := oF 0) (by decide +kernel) hv
  · show tcL (mics 1 1) s k = oF 1 s k
    rw [mics_one1]; exact chk_of (f := oF 1) (by decide +kernel) hv
  · show tcL (mics 2 1) s k = oF 2 s k
    rw [mics_one2]; exact chk_of (f := oF 2) (by decide +kernel) hv
theorem tcF_neg {l n s k : Int} (h : ¬ (tvB s k = true ∧ eOk l n = true)) : tcF l n s k = -1 := by simp [tcF, h]
theorem tcF_low (l n s k : Int) : -1000 ≤ tcF l n s k := by
  unfold tcF
  split
  · rename_i h
    have b1 := cntM_bd h.2 k s
    have b2 := cntM_bd h.2 (k + 1) s
    have b3 := cntM_bd h.2 k (s + 2)
    have b4 := cntM_bd h.2 (k + 1) (s + 2)
    unfold tcI
    omega
  · omega
set_option maxRecDepth 20000 in
set_option maxHeartbeats 4000000 in
theorem walk_FnTermCountNone (a : Option Addr) (len cap : Nat) (w : World) (hT : Tab w) (hsz : 1 < w.heap.size) (hb : BytesAt w a len cap) :
    Calls Tryd.prog 3 #[.slice a len cap] w fun e w' => e = .returned (.bool true) ∧ Below w.heap.size w w' := by
  by_cases hlen : 1048576 < len
  · clear hb
    go_enter Tryd.func3, Tryd.ntmps3
    go_wp2
    go_ret
    exact ⟨rfl, Below.refl _ _⟩
  · have hlen' : len ≤ 1048576 := by omega
    clear hlen
    have HB := Lib.hid hb
    have HT := Lib.hid hT
    clear hb hT
    go_enter Tryd.func3, Tryd.ntmps3
    go_wp2_with fail
    refine (dTermCount_any a len cap _ HB.out).mono ?_
    rintro e w1 ⟨l, n, s, k, rfl, hl0, hl1, hn0, hn1, hs0, hs1, hk0, hk1, hb1⟩
    have hz1 := hb1.size
    have HT1 : Hid (Tab w1) := Lib.hid (HT.out.of fun i => hb1.cell (p := ⟨1, i, none⟩) hsz)
    go_wp2_with fail
    refine (iTermCount_any l n s k _ (HT1.out.of fun i => by (simp (disch := first | omega | (simp; done) | (simp; omega)) [go_sem, *]; done)) (by simp; omega)).mono ?_
    rintro e w2 ⟨rfl, hb2⟩
    obtain ⟨hc2, hf2⟩ := bcell hb2; have hz2 := hb2.size; (try simp only [World.size_alloc, World.size_setCell, World.size_drew, size_drewN] at hz2 hc2 hf2); (have g2a : w1.heap.size < w2.heap.size := by omega)
    go_wp2_with fail
    refine (sTermCount_any l n s k _).mono ?_
    rintro e w3 ⟨rfl, hb3⟩
    obtain ⟨hc3, hf3⟩ := bcell hb3; have hz3 := hb3.size; (try simp only [World.size_alloc, World.size_setCell, World.size_drew, size_drewN] at hz3 hc3 hf3); (have g3a : w1.heap.size < w3.heap.size := by omega)
    (have q0 : w3.cell? ⟨w1.heap.size, 0, none⟩ = some (.int .i64 s) := by (simp (disch := first | omega | (simp; done) | (simp; omega)) [go_sem, *]; done)); (have q1 : w3.cell? ⟨w1.heap.size, 1, none⟩ = some (.int .i64 k) := by (simp (disch := first | omega | (simp; done) | (simp; omega)) [go_sem, *]; done))
    have hB : Below w.heap.size w w3 := by (repeat' first | (with_reducible exact Below.refl _ _) | (with_reducible assumption) | (with_reducible refine below_drewN ?_ _) | (with_reducible refine Below.drew ?_) | (with_reducible refine Below.alloc ?_ ?_ _) | (with_reducible refine Below.setCell ?_ ?_ _) | (with_reducible refine Below.trans ?_ (Below.mono (by assumption) ?_)) | first | omega | (simp only [World.size_alloc, World.size_setCell, World.size_drew, size_drewN]; omega) | (simp; done) | (simp; omega) | (simp only [World.size_alloc, World.size_setCell, World.size_drew, size_drewN] at *; omega) | (simp at *; omega))
    have HT3 : Hid (Tab w3) := Lib.hid (HT.out.of fun i => hB.cell (p := ⟨1, i, none⟩) hsz)
    have hz03 : w.heap.size ≤ w3.heap.size := hB.size
    clear hc2 hf2 hc3 hf3 hb2 hb3 hb1 HT1
    by_cases hneg : tcF l n s k < 0
    · go_wp2
      go_ret
      exact ⟨rfl, by (repeat' first | (with_reducible exact Below.refl _ _) | (with_reducible assumption) | (with_reducible refine below_drewN ?_ _) | (with_reducible refine Below.drew ?_) | (with_reducible refine Below.alloc ?_ ?_ _) | (with_reducible refine Below.setCell ?_ ?_ _) | (with_reducible refine Below.trans ?_ (Below.mono (by assumption) ?_)) | first | omega | (simp only [World.size_alloc, World.size_setCell, World.size_drew, size_drewN]; omega) | (simp; done) | (simp; omega) | (simp only [World.size_alloc, World.size_setCell, World.size_drew, size_drewN] at *; omega) | (simp at *; omega))⟩
    · have hok : tvB s k = true ∧ eOk l n = true := Classical.byContradiction fun h => by have := tcF_neg h; omega
      have bl := eOk_true hok.2
      have E0 := tc_none bl.1 bl.2.1 hok.1
      have EF := tc_full bl.1 bl.2.1 hok.1
      have E1 := tc_one bl.1 bl.2.1 hok.1
      have low := tcF_low l n s k
      clear hok
      by_cases hs : s = 0
      · subst hs
        by_cases hk : k = 0
        · subst hk
          have fl : ((0 : Int) == l) = false ∨ True := Or.inr trivial
          rw [show zF 0 0 = 1 by simp [zF, *]] at E0 EF
          rw [show oF l 0 0 = 0 by simp [oF, *]] at E1
          go_wp2_with fail
          refine (iTermCount_any l 0 0 0 _ (HT3.out.of fun i => by first | rfl | (simp (disch := first | omega | (simp; done) | (simp; omega)) [go_sem, *]; done)) (by first | omega | (simp; omega))).mono ?_
          rintro e w4 ⟨rfl, hb4⟩
          rw [E0]
          obtain ⟨hc4, hf4⟩ := bcell hb4; have hz4 := hb4.size; (try simp only [World.size_alloc, World.size_setCell, World.size_drew, size_drewN] at hz4 hc4 hf4); (have g4a : w1.heap.size < w4.heap.size := by omega)
          have hB4 : Below w.heap.size w w4 := by (repeat' first | (with_reducible exact Below.refl _ _) | (with_reducible assumption) | (with_reducible refine below_drewN ?_ _) | (with_reducible refine Below.drew ?_) | (with_reducible refine Below.alloc ?_ ?_ _) | (with_reducible refine Below.setCell ?_ ?_ _) | (with_reducible refine Below.trans ?_ (Below.mono (by assumption) ?_)) | first | omega | (simp only [World.size_alloc, World.size_setCell, World.size_drew, size_drewN]; omega) | (simp; done) | (simp; omega) | (simp only [World.size_alloc, World.size_setCell, World.size_drew, size_drewN] at *; omega) | (simp at *; omega))
          have HT4 : Hid (Tab w4) := Lib.hid (HT.out.of fun i => hB4.cell (p := ⟨1, i, none⟩) hsz)
          go_wp2_with fail
          refine (iTermCount_any l (4 * l + 2) 0 0 _ (HT4.out.of fun i => by first | rfl | (simp (disch := first | omega | (simp; done) | (simp; omega)) [go_sem, *]; done)) (by first | omega | (simp; omega))).mono ?_
          rintro e w5 ⟨rfl, hb5⟩
          rw [EF]
          obtain ⟨hc5, hf5⟩ := bcell hb5; have hz5 := hb5.size; (try simp only [World.size_alloc, World.size_setCell, World.size_drew, size_drewN] at hz5 hc5 hf5); (have g5a : w1.heap.size < w5.heap.size := by omega)
          have hB5 : Below w.heap.size w w5 := by (repeat' first | (with_reducible exact Below.refl _ _) | (with_reducible assumption) | (with_reducible refine below_drewN ?_ _) | (with_reducible refine Below.drew ?_) | (with_reducible refine Below.alloc ?_ ?_ _) | (with_reducible refine Below.setCell ?_ ?_ _) | (with_reducible refine Below.trans ?_ (Below.mono (by assumption) ?_)) | first | omega | (simp only [World.size_alloc, World.size_setCell, World.size_drew, size_drewN]; omega) | (simp; done) | (simp; omega) | (simp only [World.size_alloc, World.size_setCell, World.size_drew, size_drewN] at *; omega) | (simp at *; omega))
          have HT5 : Hid (Tab w5) := Lib.hid (HT.out.of fun i => hB5.cell (p := ⟨1, i, none⟩) hsz)
          go_wp2_with fail
          refine (iTermCount_any l 1 0 0 _ (HT5.out.of fun i => by first | rfl | (simp (disch := first | omega | (simp; done) | (simp; omega)) [go_sem, *]; done)) (by first | omega | (simp; omega))).mono ?_
          rintro e w6 ⟨rfl, hb6⟩
          rw [E1]
          obtain ⟨hc6, hf6⟩ := bcell hb6; have hz6 := hb6.size; (try simp only [World.size_alloc, World.size_setCell, World.size_drew, size_drewN] at hz6 hc6 hf6); (have g6a : w1.heap.size < w6.heap.size := by omega)
          have hB6 : Below w.heap.size w w6 := by (repeat' first | (with_reducible exact Below.refl _ _) | (with_reducible assumption) | (with_reducible refine below_drewN ?_ _) | (with_reducible refine Below.drew ?_) | (with_reducible refine Below.alloc ?_ ?_ _) | (with_reducible refine Below.setCell ?_ ?_ _) | (with_reducible refine Below.trans ?_ (Below.mono (by assumption) ?_)) | first | omega | (simp only [World.size_alloc, World.size_setCell, World.size_drew, size_drewN]; omega) | (simp; done) | (simp; omega) | (simp only [World.size_alloc, World.size_setCell, World.size_drew, size_drewN] at *; omega) | (simp at *; omega))
          have HT6 : Hid (Tab w6) := Lib.hid (HT.out.of fun i => hB6.cell (p := ⟨1, i, none⟩) hsz)
          go_wp2
          go_ret
          exact ⟨rfl, by (repeat' first | (with_reducible exact Below.refl _ _) | (with_reducible assumption) | (with_reducible refine below_drewN ?_ _) | (with_reducible refine Below.drew ?_) | (with_reducible refine Below.alloc ?_ ?_ _) | (with_reducible refine Below.setCell ?_ ?_ _) | (with_reducible refine Below.trans ?_ (Below.mono (by assumption) ?_)) | first | omega | (simp only [World.size_alloc, World.size_setCell, World.size_drew, size_drewN]; omega) | (simp; done) | (simp; omega) | (simp only [World.size_alloc, World.size_setCell, World.size_drew, size_drewN] at *; omega) | (simp at *; omega))⟩
        · have fk : (k == 0) = false := by rw [beq_eq_false_iff_ne]; omega
          rw [show zF 0 k = 0 by simp [zF, *]] at E0 EF
          rw [show oF l 0 k = 0 by simp [oF, *]] at E1
          go_wp2_with fail
          refine (iTermCount_any l 0 0 k _ (HT3.out.of fun i => by first | rfl | (simp (disch := first | omega | (simp; done) | (simp; omega)) [go_sem, *]; done)) (by first | omega | (simp; omega))).mono ?_
          rintro e w4 ⟨rfl, hb4⟩
          rw [E0]
          obtain ⟨hc4, hf4⟩ := bcell hb4; have hz4 := hb4.size; (try simp only [World.size_alloc, World.size_setCell, World.size_drew, size_drewN] at hz4 hc4 hf4); (have g4a : w1.heap.size < w4.heap.size := by omega)
          have hB4 : Below w.heap.size w w4 := by (repeat' first | (with_reducible exact Below.refl _ _) | (with_reducible assumption) | (with_reducible refine below_drewN ?_ _) | (with_reducible refine Below.drew ?_) | (with_reducible refine Below.alloc ?_ ?_ _) | (with_reducible refine Below.setCell ?_ ?_ _) | (with_reducible refine Below.trans ?_ (Below.mono (by assumption) ?_)) | first | omega | (simp only [World.size_alloc, World.size_setCell, World.size_drew, size_drewN]; omega) | (simp; done) | (simp; omega) | (simp only [World.size_alloc, World.size_setCell, World.size_drew, size_drewN] at *; omega) | (simp at *; omega))
          have HT4 : Hid (Tab w4) := Lib.hid (HT.out.of fun i => hB4.cell (p := ⟨1, i, none⟩) hsz)
          go_wp2_with fail
          refine (iTermCount_any l (4 * l + 2) 0 k _ (HT4.out.of fun i => by first | rfl | (simp (disch := first | omega | (simp; done) | (simp; omega)) [go_sem, *]; done)) (by first | omega | (simp; omega))).mono ?_
          rintro e w5 ⟨rfl, hb5⟩
          rw [EF]
          obtain ⟨hc5, hf5⟩ := bcell hb5; have hz5 := hb5.size; (try simp only [World.size_alloc, World.size_setCell, World.size_drew, size_drewN] at hz5 hc5 hf5); (have g5a : w1.heap.size < w5.heap.size := by omega)
          have hB5 : Below w.heap.size w w5 := by (repeat' first | (with_reducible exact Below.refl _ _) | (with_reducible assumption) | (with_reducible refine below_drewN ?_ _) | (with_reducible refine Below.drew ?_) | (with_reducible refine Below.alloc ?_ ?_ _) | (with_reducible refine Below.setCell ?_ ?_ _) | (with_reducible refine Below.trans ?_ (Below.mono (by assumption) ?_)) | first | omega | (simp only [World.size_alloc, World.size_setCell, World.size_drew, size_drewN]; omega) | (simp; done) | (simp; omega) | (simp only [World.size_alloc, World.size_setCell, World.size_drew, size_drewN] at *; omega) | (simp at *; omega))
          have HT5 : Hid (Tab w5) := Lib.hid (HT.out.of fun i => hB5.cell (p := ⟨1, i, none⟩) hsz)
          go_wp2_with fail
          refine (iTermCount_any l 1 0 k _ (HT5.out.of fun i => by first | rfl | (simp (disch := first | omega | (simp; done) | (simp; omega)) [go_sem, *]; done)) (by first | omega | (simp; omega))).mono ?_
          rintro e w6 ⟨rfl, hb6⟩
          rw [E1]
          obtain ⟨hc6, hf6⟩ := bcell hb6; have hz6 := hb6.size; (try simp only [World.size_alloc, World.size_setCell, World.size_drew, size_drewN] at hz6 hc6 hf6); (have g6a : w1.heap.size < w6.heap.size := by omega)
          have hB6 : Below w.heap.size w w6 := by (repeat' first | (with_reducible exact Below.refl _ _) | (with_reducible assumption) | (with_reducible refine below_drewN ?_ _) | (with_reducible refine Below.drew ?_) | (with_reducible refine Below.alloc ?_ ?_ _) | (with_reducible refine Below.setCell ?_ ?_ _) | (with_reducible refine Below.trans ?_ (Below.mono (by assumption) ?_)) | first | omega | (simp only [World.size_alloc, World.size_setCell, World.size_drew, size_drewN]; omega) | (simp; done) | (simp; omega) | (simp only [World.size_alloc, World.size_setCell, World.size_drew, size_drewN] at *; omega) | (simp at *; omega))
          have HT6 : Hid (Tab w6) := Lib.hid (HT.out.of fun i => hB6.cell (p := ⟨1, i, none⟩) hsz)
          go_wp2
          go_ret
          exact ⟨rfl, by (repeat' first | (with_reducible exact Below.refl _ _) | (with_reducible assumption) | (with_reducible refine below_drewN ?_ _) | (with_reducible refine Below.drew ?_) | (with_reducible refine Below.alloc ?_ ?_ _) | (with_reducible refine Below.setCell ?_ ?_ _) | (with_reducible refine Below.trans ?_ (Below.mono (by assumption) ?_)) | first | omega | (simp only [World.size_alloc, World.size_setCell, World.size_drew, size_drewN]; omega) | (simp; done) | (simp; omega) | (simp only [World.size_alloc, World.size_setCell, World.size_drew, size_drewN] at *; omega) | (simp at *; omega))⟩
      · have fs : (s == 0) = false := by rw [beq_eq_false_iff_ne]; omega
        by_cases hs1' : s = 1
        · subst hs1'
          by_cases hk : k = l
          · subst hk
            rw [show zF 1 k = 0 by simp [zF, *]] at E0 EF
            rw [show oF k 1 k = 1 by simp [oF, *]] at E1
            go_wp2_with fail
            refine (iTermCount_any k 0 1 k _ (HT3.out.of fun i => by first | rfl | (simp (disch := first | omega | (simp; done) | (simp; omega)) [go_sem, *]; done)) (by first | omega | (simp; omega))).mono ?_
            rintro e w4 ⟨rfl, hb4⟩
            rw [E0]
            obtain ⟨hc4, hf4⟩ := bcell hb4; have hz4 := hb4.size; (try simp only [World.size_alloc, World.size_setCell, World.size_drew, size_drewN] at hz4 hc4 hf4); (have g4a : w1.heap.size < w4.heap.size := by omega)
            have hB4 : Below w.heap.size w w4 := by (repeat' first | (with_reducible exact Below.refl _ _) | (with_reducible assumption) | (with_reducible refine below_drewN ?_ _) | (with_reducible refine Below.drew ?_) | (with_reducible refine Below.alloc ?_ ?_ _) | (with_reducible refine Below.setCell ?_ ?_ _) | (with_reducible refine Below.trans ?_ (Below.mono (by assumption) ?_)) | first | omega | (simp only [World.size_alloc, World.size_setCell, World.size_drew, size_drewN]; omega) | (simp; done) | (simp; omega) | (simp only [World.size_alloc, World.size_setCell, World.size_drew, size_drewN] at *; omega) | (simp at *; omega))
            have HT4 : Hid (Tab w4) := Lib.hid (HT.out.of fun i => hB4.cell (p := ⟨1, i, none⟩) hsz)
            go_wp2_with fail
            refine (iTermCount_any k (4 * k + 2) 1 k _ (HT4.out.of fun i => by first | rfl | (simp (disch := first | omega | (simp; done) | (simp; omega)) [go_sem, *]; done)) (by first | omega | (simp; omega))).mono ?_
            rintro e w5 ⟨rfl, hb5⟩
            rw [EF]
            obtain ⟨hc5, hf5⟩ := bcell hb5; have hz5 := hb5.size; (try simp only [World.size_alloc, World.size_setCell, World.size_drew, size_drewN] at hz5 hc5 hf5); (have g5a : w1.heap.size < w5.heap.size := by omega)
            have hB5 : Below w.heap.size w w5 := by (repeat' first | (with_reducible exact Below.refl _ _) | (with_reducible assumption) | (with_reducible refine below_drewN ?_ _) | (with_reducible refine Below.drew ?_) | (with_reducible refine Below.alloc ?_ ?_ _) | (with_reducible refine Below.setCell ?_ ?_ _) | (with_reducible refine Below.trans ?_ (Below.mono (by assumption) ?_)) | first | omega | (simp only [World.size_alloc, World.size_setCell, World.size_drew, size_drewN]; omega) | (simp; done) | (simp; omega) | (simp only [World.size_alloc, World.size_setCell, World.size_drew, size_drewN] at *; omega) | (simp at *; omega))
            have HT5 : Hid (Tab w5) := Lib.hid (HT.out.of fun i => hB5.cell (p := ⟨1, i, none⟩) hsz)
            go_wp2_with fail
            refine (iTermCount_any k 1 1 k _ (HT5.out.of fun i => by first | rfl | (simp (disch := first | omega | (simp; done) | (simp; omega)) [go_sem, *]; done)) (by first | omega | (simp; omega))).mono ?_
            rintro e w6 ⟨rfl, hb6⟩
            rw [E1]
            obtain ⟨hc6, hf6⟩ := bcell hb6; have hz6 := hb6.size; (try simp only [World.size_alloc, World.size_setCell, World.size_drew, size_drewN] at hz6 hc6 hf6); (have g6a : w1.heap.size < w6.heap.size := by omega)
            have hB6 : Below w.heap.size w w6 := by (repeat' first | (with_reducible exact Below.refl _ _) | (with_reducible assumption) | (with_reducible refine below_drewN ?_ _) | (with_reducible refine Below.drew ?_) | (with_reducible refine Below.alloc ?_ ?_ _) | (with_reducible refine Below.setCell ?_ ?_ _) | (with_reducible refine Below.trans ?_ (Below.mono (by assumption) ?_)) | first | omega | (simp only [World.size_alloc, World.size_setCell, World.size_drew, size_drewN]; omega) | (simp; done) | (simp; omega) | (simp only [World.size_alloc, World.size_setCell, World.size_drew, size_drewN] at *; omega) | (simp at *; omega))
            have HT6 : Hid (Tab w6) := Lib.hid (HT.out.of fun i => hB6.cell (p := ⟨1, i, none⟩) hsz)
            go_wp2
            go_ret
            exact ⟨rfl, by (repeat' first | (with_reducible exact Below.refl _ _) | (with_reducible assumption) | (with_reducible refine below_drewN ?_ _) | (with_reducible refine Below.drew ?_) | (with_reducible refine Below.alloc ?_ ?_ _) | (with_reducible refine Below.setCell ?_ ?_ _) | (with_reducible refine Below.trans ?_ (Below.mono (by assumption) ?_)) | first | omega | (simp only [World.size_alloc, World.size_setCell, World.size_drew, size_drewN]; omega) | (simp; done) | (simp; omega) | (simp only [World.size_alloc, World.size_setCell, World.size_drew, size_drewN] at *; omega) | (simp at *; omega))⟩
          · have fk : (k == l) = false := by rw [beq_eq_false_iff_ne]; omega
            rw [show zF 1 k = 0 by simp [zF, *]] at E0 EF
            rw [show oF l 1 k = 0 by simp [oF, *]] at E1
            go_wp2_with fail
            refine (iTermCount_any l 0 1 k _ (HT3.out.of fun i => by first | rfl | (simp (disch := first | omega | (simp; done) | (simp; omega)) [go_sem, *]; done)) (by first | omega | (simp; omega))).mono ?_
            rintro e w4 ⟨rfl, hb4⟩
            rw [E0]
            obtain ⟨hc4, hf4⟩ := bcell hb4; have hz4 := hb4.size; (try simp only [World.size_alloc, World.size_setCell, World.size_drew, size_drewN] at hz4 hc4 hf4); (have g4a : w1.heap.size < w4.heap.size := by omega)
            have hB4 : Below w.heap.size w w4 := by (repeat' first | (with_reducible exact Below.refl _ _) | (with_reducible assumption) | (with_reducible refine below_drewN ?_ _) | (with_reducible refine Below.drew ?_) | (with_reducible refine Below.alloc ?_ ?_ _) | (with_reducible refine Below.setCell ?_ ?_ _) | (with_reducible refine Below.trans ?_ (Below.mono (by assumption) ?_)) | first | omega | (simp only [World.size_alloc, World.size_setCell, World.size_drew, size_drewN]; omega) | (simp; done) | (simp; omega) | (simp only [World.size_alloc, World.size_setCell, World.size_drew, size_drewN] at *; omega) | (simp at *; omega))
            have HT4 : Hid (Tab w4) := Lib.hid (HT.out.of fun i => hB4.cell (p := ⟨1, i, none⟩) hsz)
            go_wp2_with fail
            refine (iTermCount_any l (4 * l + 2) 1 k _ (HT4.out.of fun i => by first | rfl | (simp (disch := first | omega | (simp; done) | (simp; omega)) [go_sem, *]; done)) (by first | omega | (simp; omega))).mono ?_
            rintro e w5 ⟨rfl, hb5⟩
            rw [EF]
            obtain ⟨hc5, hf5⟩ := bcell hb5; have hz5 := hb5.size; (try simp only [World.size_alloc, World.size_setCell, World.size_drew, size_drewN] at hz5 hc5 hf5); (have g5a : w1.heap.size < w5.heap.size := by omega)
            have hB5 : Below w.heap.size w w5 := by (repeat' first | (with_reducible exact Below.refl _ _) | (with_reducible assumption) | (with_reducible refine below_drewN ?_ _) | (with_reducible refine Below.drew ?_) | (with_reducible refine Below.alloc ?_ ?_ _) | (with_reducible refine Below.setCell ?_ ?_ _) | (with_reducible refine Below.trans ?_ (Below.mono (by assumption) ?_)) | first | omega | (simp only [World.size_alloc, World.size_setCell, World.size_drew, size_drewN]; omega) | (simp; done) | (simp; omega) | (simp only [World.size_alloc, World.size_setCell, World.size_drew, size_drewN] at *; omega) | (simp at *; omega))
            have HT5 : Hid (Tab w5) := Lib.hid (HT.out.of fun i => hB5.cell (p := ⟨1, i, none⟩) hsz)
            go_wp2_with fail
            refine (iTermCount_any l 1 1 k _ (HT5.out.of fun i => by first | rfl | (simp (disch := first | omega | (simp; done) | (simp; omega)) [go_sem, *]; done)) (by first | omega | (simp; omega))).mono ?_
            rintro e w6 ⟨rfl, hb6⟩
            rw [E1]
            obtain ⟨hc6, hf6⟩ := bcell hb6; have hz6 := hb6.size; (try simp only [World.size_alloc, World.size_setCell, World.size_drew, size_drewN] at hz6 hc6 hf6); (have g6a : w1.heap.size < w6.heap.size := by omega)
            have hB6 : Below w.heap.size w w6 := by (repeat' first | (with_reducible exact Below.refl _ _) | (with_reducible assumption) | (with_reducible refine below_drewN ?_ _) | (with_reducible refine Below.drew ?_) | (with_reducible refine Below.alloc ?_ ?_ _) | (with_reducible refine Below.setCell ?_ ?_ _) | (with_reducible refine Below.trans ?_ (Below.mono (by assumption) ?_)) | first | omega | (simp only [World.size_alloc, World.size_setCell, World.size_drew, size_drewN]; omega) | (simp; done) | (simp; omega) | (simp only [World.size_alloc, World.size_setCell, World.size_drew, size_drewN] at *; omega) | (simp at *; omega))
            have HT6 : Hid (Tab w6) := Lib.hid (HT.out.of fun i => hB6.cell (p := ⟨1, i, none⟩) hsz)
            go_wp2
            go_ret
            exact ⟨rfl, by (repeat' first | (with_reducible exact Below.refl _ _) | (with_reducible assumption) | (with_reducible refine below_drewN ?_ _) | (with_reducible refine Below.drew ?_) | (with_reducible refine Below.alloc ?_ ?_ _) | (with_reducible refine Below.setCell ?_ ?_ _) | (with_reducible refine Below.trans ?_ (Below.mono (by assumption) ?_)) | first | omega | (simp only [World.size_alloc, World.size_setCell, World.size_drew, size_drewN]; omega) | (simp; done) | (simp; omega) | (simp only [World.size_alloc, World.size_setCell, World.size_drew, size_drewN] at *; omega) | (simp at *; omega))⟩
        · have fs1 : (s == 1) = false := by rw [beq_eq_false_iff_ne]; omega
          rw [show zF s k = 0 by simp [zF, *]] at E0 EF
          rw [show oF l s k = 0 by simp [oF, *]] at E1
          go_wp2_with fail
          refine (iTermCount_any l 0 s k _ (HT3.out.of fun i => by first | rfl | (simp (disch := first | omega | (simp; done) | (simp; omega)) [go_sem, *]; done)) (by first | omega | (simp; omega))).mono ?_
          rintro e w4 ⟨rfl, hb4⟩
          rw [E0]
          obtain ⟨hc4, hf4⟩ := bcell hb4; have hz4 := hb4.size; (try simp only [World.size_alloc, World.size_setCell, World.size_drew, size_drewN] at hz4 hc4 hf4); (have g4a : w1.heap.size < w4.heap.size := by omega)
          have hB4 : Below w.heap.size w w4 := by (repeat' first | (with_reducible exact Below.refl _ _) | (with_reducible assumption) | (with_reducible refine below_drewN ?_ _) | (with_reducible refine Below.drew ?_) | (with_reducible refine Below.alloc ?_ ?_ _) | (with_reducible refine Below.setCell ?_ ?_ _) | (with_reducible refine Below.trans ?_ (Below.mono (by assumption) ?_)) | first | omega | (simp only [World.size_alloc, World.size_setCell, World.size_drew, size_drewN]; omega) | (simp; done) | (simp; omega) | (simp only [World.size_alloc, World.size_setCell, World.size_drew, size_drewN] at *; omega) | (simp at *; omega))
          have HT4 : Hid (Tab w4) := Lib.hid (HT.out.of fun i => hB4.cell (p := ⟨1, i, none⟩) hsz)
          go_wp2_with fail
          refine (iTermCount_any l (4 * l + 2) s k _ (HT4.out.of fun i => by first | rfl | (simp (disch := first | omega | (simp; done) | (simp; omega)) [go_sem, *]; done)) (by first | omega | (simp; omega))).mono ?_
          rintro e w5 ⟨rfl, hb5⟩
          rw [EF]
          obtain ⟨hc5, hf5⟩ := bcell hb5; have hz5 := hb5.size; (try simp only [World.size_alloc, World.size_setCell, World.size_drew, size_drewN] at hz5 hc5 hf5); (have g5a : w1.heap.size < w5.heap.size := by omega)
          have hB5 : Below w.heap.size w w5 := by (repeat' first | (with_reducible exact Below.refl _ _) | (with_reducible assumption) | (with_reducible refine below_drewN ?_ _) | (with_reducible refine Below.drew ?_) | (with_reducible refine Below.alloc ?_ ?_ _) | (with_reducible refine Below.setCell ?_ ?_ _) | (with_reducible refine Below.trans ?_ (Below.mono (by assumption) ?_)) | first | omega | (simp only [World.size_alloc, World.size_setCell, World.size_drew, size_drewN]; omega) | (simp; done) | (simp; omega) | (simp only [World.size_alloc, World.size_setCell, World.size_drew, size_drewN] at *; omega) | (simp at *; omega))
          have HT5 : Hid (Tab w5) := Lib.hid (HT.out.of fun i => hB5.cell (p := ⟨1, i, none⟩) hsz)
          go_wp2_with fail
          refine (iTermCount_any l 1 s k _ (HT5.out.of fun i => by first | rfl | (simp (disch := first | omega | (simp; done) | (simp; omega)) [go_sem, *]; done)) (by first | omega | (simp; omega))).mono ?_
          rintro e w6 ⟨rfl, hb6⟩
          rw [E1]
          obtain ⟨hc6, hf6⟩ := bcell hb6; have hz6 := hb6.size; (try simp only [World.size_alloc, World.size_setCell, World.size_drew, size_drewN] at hz6 hc6 hf6); (have g6a : w1.heap.size < w6.heap.size := by omega)
          have hB6 : Below w.heap.size w w6 := by (repeat' first | (with_reducible exact Below.refl _ _) | (with_reducible assumption) | (with_reducible refine below_drewN ?_ _) | (with_reducible refine Below.drew ?_) | (with_reducible refine Below.alloc ?_ ?_ _) | (with_reducible refine Below.setCell ?_ ?_ _) | (with_reducible refine Below.trans ?_ (Below.mono (by assumption) ?_)) | first | omega | (simp only [World.size_alloc, World.size_setCell, World.size_drew, size_drewN]; omega) | (simp; done) | (simp; omega) | (simp only [World.size_alloc, World.size_setCell, World.size_drew, size_drewN] at *; omega) | (simp at *; omega))
          have HT6 : Hid (Tab w6) := Lib.hid (HT.out.of fun i => hB6.cell (p := ⟨1, i, none⟩) hsz)
          go_wp2
          go_ret
          exact ⟨rfl, by (repeat' first | (with_reducible exact Below.refl _ _) | (with_reducible assumption) | (with_reducible refine below_drewN ?_ _) | (with_reducible refine Below.drew ?_) | (with_reducible refine Below.alloc ?_ ?_ _) | (with_reducible refine Below.setCell ?_ ?_ _) | (with_reducible refine Below.trans ?_ (Below.mono (by assumption) ?_)) | first | omega | (simp only [World.size_alloc, World.size_setCell, World.size_drew, size_drewN]; omega) | (simp; done) | (simp; omega) | (simp only [World.size_alloc, World.size_setCell, World.size_drew, size_drewN] at *; omega) | (simp at *; omega))⟩
end Go.Proofs.YtlbmdicfoiehgaaDoor
