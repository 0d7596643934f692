/-
  The walks of the laws FnTermText and FnTermFrom. Conditions: none.
-/
import Derived.Test.YtpggbfpjofcgnaaDoorTxt5
import Derived.Test.YtpggbfpjofcgnaaDoorDrawX
namespace Go.Proofs.YtpggbfpjofcgnaaDoor
set_option linter.unusedSimpArgs false
set_option linter.unusedVariables false
open Go.RowKit

theorem text_fin : ((List.range 9).all fun s => (List.range 9).all fun k => okB (txT s k) && decide (chS (txT s k) = s) && decide (chK (txT s k) = k)) = true := by decide +kernel
theorem text_back {s l : Int} (h : tvB s l = true) : frT (txT s l) = .tuple #[.agg #[.int .i64 s, .int .i64 l], .bool true] := by
  have b := tvB_true h
  obtain ⟨s, rfl⟩ := Int.eq_ofNat_of_zero_le b.1
  obtain ⟨l, rfl⟩ := Int.eq_ofNat_of_zero_le b.2.2.1
  have h1 := List.all_eq_true.1 (List.all_eq_true.1 text_fin s (List.mem_range.2 (by omega))) l (List.mem_range.2 (by omega))
  simp only [Bool.and_eq_true, decide_eq_true_eq] at h1
  have e : frT (txT ((s : Nat) : Int) ((l : Nat) : Int)) = .tuple #[.agg #[.int .i64 (chS (txT (s : Int) (l : Int))), .int .i64 (chK (txT (s : Int) (l : Int)))], .bool true] := by
    unfold frT; rw [if_pos h1.1.1]
  rw [h1.1.2, h1.2] at e
  exact e
set_option maxRecDepth 20000 in
set_option maxHeartbeats 2000000 in
theorem walk_FnTermText (a : Option Addr) (len cap : Nat) (w : World) (hb : BytesAt w a len cap) :
    Calls Tryd.prog 5 #[.slice a len cap] w fun e w' => e = .returned (.bool true) ∧ Below w.heap.size w w' := by
  by_cases hlen : 1048576 < len
  · clear hb
    go_enter Tryd.func5, Tryd.ntmps5
    go_wp2
    go_ret
    exact ⟨rfl, Below.refl _ _⟩
  · have hlen' : len ≤ 1048576 := by omega
    clear hlen
    have HB := Lib.hid hb
    clear hb
    go_enter Tryd.func5, Tryd.ntmps5
    go_wp2_with fail
    refine (dTermText_any a len cap _ HB.out).mono ?_
    rintro e w1 ⟨s, l, rfl, hs0, hs1, hl0, hl1, hb1⟩
    have hz1 := hb1.size
    cases hv : tvB s l
    · have hX : ∀ W, Calls Tryd.prog 13 #[.agg #[.int .i64 s, .int .i64 l]] W fun e w' => e = .returned (.string ⟨#[]⟩) ∧ Below W.heap.size W w' := fun W => by
        have := iTermText_any s l W
        rw [if_neg (by rw [hv]; decide)] at this
        exact this
      have hY : ∀ W, Calls Tryd.prog 11 #[.agg #[.int .i64 s, .int .i64 l]] W fun e w' => e = .returned (.string ⟨#[]⟩) ∧ Below W.heap.size W w' := fun W => by
        have := sTermText_any s l W
        rw [if_neg (by rw [hv]; decide)] at this
        exact this
      have HX := Lib.hid hX
      have HY := Lib.hid hY
      clear hX hY hv
      go_wp2_with fail
      refine (HX.out _).mono ?_
      rintro e w2 ⟨rfl, hb2⟩
      obtain ⟨hc2, hf2⟩ := bcell hb2; have hz2 := hb2.size; (try simp only [World.size_alloc, World.size_setCell, World.size_drew, size_drewN] at hz2 hc2 hf2); (have g2a : w1.heap.size < w2.heap.size := by omega)
      (have k0 : w2.cell? ⟨w1.heap.size, 0, none⟩ = some (.int .i64 s) := by (simp (disch := first | omega | (simp; done) | (simp; omega)) [go_sem, *]; done)); (have k1 : w2.cell? ⟨w1.heap.size, 1, none⟩ = some (.int .i64 l) := by (simp (disch := first | omega | (simp; done) | (simp; omega)) [go_sem, *]; done))
      have hB2 : Below w.heap.size w w2 := by (repeat' first | (with_reducible exact Below.refl _ _) | (with_reducible assumption) | (with_reducible refine below_drewN ?_ _) | (with_reducible refine Below.drew ?_) | (with_reducible refine Below.alloc ?_ ?_ _) | (with_reducible refine Below.setCell ?_ ?_ _) | (with_reducible refine Below.trans ?_ (Below.mono (by assumption) ?_)) | first | omega | (simp only [World.size_alloc, World.size_setCell, World.size_drew, size_drewN]; omega) | (simp; done) | (simp; omega) | (simp only [World.size_alloc, World.size_setCell, World.size_drew, size_drewN] at *; omega) | (simp at *; omega))
      clear hc2 hf2 hb2 hb1
      go_wp2_with fail
      refine (HY.out _).mono ?_
      rintro e w3 ⟨rfl, hb3⟩
      go_wp2
      go_ret
      exact ⟨rfl, hB2.trans (hb3.mono (by omega))⟩
    · have hX := fun W => iTermText_ok s l W hv
      have hY := fun W => sTermText_ok s l W hv
      have hF := text_back hv
      have hz := txT_size hv
      obtain ⟨X, hXX⟩ : ∃ X, X = txT s l := ⟨_, rfl⟩
      rw [← hXX] at hF hz
      simp only [← hXX] at hX hY
      have HX := Lib.hid hX
      have HY := Lib.hid hY
      have HF := Lib.hid hF
      have hzi : (X.size : Int) = 2 := by omega
      have hne := ba_some (a := X) (by omega)
      have hne2 : (X.toList == ([] : List UInt8)) = false := by
        rw [beq_eq_false_iff_ne]; intro e; rw [e] at hne; exact absurd hne (by decide)
      have hne3 : (X.toList == (⟨#[]⟩ : ByteArray).toList) = false := ba_ne (by rintro rfl; exact absurd hz (by decide))
      clear hX hY hv hF hXX
      go_wp2_with fail
      refine (HX.out _).mono ?_
      rintro e w2 ⟨rfl, hb2⟩
      obtain ⟨hc2, hf2⟩ := bcell hb2; have hz2 := hb2.size; (try simp only [World.size_alloc, World.size_setCell, World.size_drew, size_drewN] at hz2 hc2 hf2); (have g2a : w1.heap.size < w2.heap.size := by omega)
      (have k0 : w2.cell? ⟨w1.heap.size, 0, none⟩ = some (.int .i64 s) := by (simp (disch := first | omega | (simp; done) | (simp; omega)) [go_sem, *]; done)); (have k1 : w2.cell? ⟨w1.heap.size, 1, none⟩ = some (.int .i64 l) := by (simp (disch := first | omega | (simp; done) | (simp; omega)) [go_sem, *]; done))
      have hB2 : Below w.heap.size w w2 := by (repeat' first | (with_reducible exact Below.refl _ _) | (with_reducible assumption) | (with_reducible refine below_drewN ?_ _) | (with_reducible refine Below.drew ?_) | (with_reducible refine Below.alloc ?_ ?_ _) | (with_reducible refine Below.setCell ?_ ?_ _) | (with_reducible refine Below.trans ?_ (Below.mono (by assumption) ?_)) | first | omega | (simp only [World.size_alloc, World.size_setCell, World.size_drew, size_drewN]; omega) | (simp; done) | (simp; omega) | (simp only [World.size_alloc, World.size_setCell, World.size_drew, size_drewN] at *; omega) | (simp at *; omega))
      clear hc2 hf2 hb2 hb1
      go_wp2_with fail
      refine (HY.out _).mono ?_
      rintro e w3 ⟨rfl, hb3⟩
      obtain ⟨hc3, hf3⟩ := bcell hb3; have hz3 := hb3.size; (try simp only [World.size_alloc, World.size_setCell, World.size_drew, size_drewN] at hz3 hc3 hf3)
      have g3a : w1.heap.size < w3.heap.size := by omega
      have g3b : w1.heap.size < w2.heap.size := by omega
      (have q0 : w3.cell? ⟨w1.heap.size, 0, none⟩ = some (.int .i64 s) := by (simp (disch := first | omega | (simp; done) | (simp; omega)) [go_sem, *]; done)); (have q1 : w3.cell? ⟨w1.heap.size, 1, none⟩ = some (.int .i64 l) := by (simp (disch := first | omega | (simp; done) | (simp; omega)) [go_sem, *]; done))
      have hB3 : Below w.heap.size w w3 := by (repeat' first | (with_reducible exact Below.refl _ _) | (with_reducible assumption) | (with_reducible refine below_drewN ?_ _) | (with_reducible refine Below.drew ?_) | (with_reducible refine Below.alloc ?_ ?_ _) | (with_reducible refine Below.setCell ?_ ?_ _) | (with_reducible refine Below.trans ?_ (Below.mono (by assumption) ?_)) | first | omega | (simp only [World.size_alloc, World.size_setCell, World.size_drew, size_drewN]; omega) | (simp; done) | (simp; omega) | (simp only [World.size_alloc, World.size_setCell, World.size_drew, size_drewN] at *; omega) | (simp at *; omega))
      clear hc3 hf3 hb3 hB2 k0 k1
      go_wp2_with fail
      refine (iTermFrom_any X _ (by omega)).mono ?_
      rintro e w4 ⟨rfl, hb4⟩
      rw [HF.out]
      obtain ⟨hc4, hf4⟩ := bcell hb4; have hz4 := hb4.size; (try simp only [World.size_alloc, World.size_setCell, World.size_drew, size_drewN] at hz4 hc4 hf4)
      have g4a : w1.heap.size < w4.heap.size := by omega
      go_wp2
      go_ret
      exact ⟨rfl, by (repeat' first | (with_reducible exact Below.refl _ _) | (with_reducible assumption) | (with_reducible refine below_drewN ?_ _) | (with_reducible refine Below.drew ?_) | (with_reducible refine Below.alloc ?_ ?_ _) | (with_reducible refine Below.setCell ?_ ?_ _) | (with_reducible refine Below.trans ?_ (Below.mono (by assumption) ?_)) | first | omega | (simp only [World.size_alloc, World.size_setCell, World.size_drew, size_drewN]; omega) | (simp; done) | (simp; omega) | (simp only [World.size_alloc, World.size_setCell, World.size_drew, size_drewN] at *; omega) | (simp at *; omega))⟩
set_option maxRecDepth 20000 in
set_option maxHeartbeats 4000000 in
theorem walk_FnTermFrom (a : Option Addr) (len cap : Nat) (w : World) (hb : BytesAt w a len cap) :
    Calls Tryd.prog 7 #[.slice a len cap] w fun e w' => e = .returned (.bool true) ∧ Below w.heap.size w w' := by
  by_cases hlen : 1048576 < len
  · clear hb
    go_enter Tryd.func7, Tryd.ntmps7
    go_wp2
    go_ret
    exact ⟨rfl, Below.refl _ _⟩
  · have hlen' : len ≤ 1048576 := by omega
    clear hlen
    have HB := Lib.hid hb
    clear hb
    go_enter Tryd.func7, Tryd.ntmps7
    go_wp2_with fail
    refine (dTermFrom_any a len cap _ HB.out).mono ?_
    rintro e w1 ⟨bs, rfl, hz, hb1⟩
    have hz1 := hb1.size
    have HB1 := Lib.hid hb1
    clear hb1
    cases ho : okB bs
    · have HF := Lib.hid (show frT bs = .tuple #[.agg #[.int .i64 0, .int .i64 0], .bool false] by unfold frT; rw [if_neg (by rw [ho]; simp)])
      clear ho
      go_wp2_with fail
      refine (iTermFrom_any bs _ (by omega)).mono ?_
      rintro e w2 ⟨rfl, hb2⟩
      rw [HF.out]
      obtain ⟨hc2, hf2⟩ := bcell hb2; have hz2 := hb2.size; (try simp only [World.size_alloc, World.size_setCell, World.size_drew, size_drewN] at hz2 hc2 hf2)
      go_wp2_with fail
      refine (sTermFrom_any bs _ (by omega)).mono ?_
      rintro e w3 ⟨rfl, hb3⟩
      rw [HF.out]
      obtain ⟨hc3, hf3⟩ := bcell hb3; have hz3 := hb3.size; (try simp only [World.size_alloc, World.size_setCell, World.size_drew, size_drewN] at hz3 hc3 hf3); (have g3a : w2.heap.size < w3.heap.size := by omega)
      go_wp2
      go_ret
      exact ⟨rfl, HB1.out.trans ((show Below w1.heap.size w1 _ by (repeat' first | (with_reducible exact Below.refl _ _) | (with_reducible assumption) | (with_reducible refine below_drewN ?_ _) | (with_reducible refine Below.drew ?_) | (with_reducible refine Below.alloc ?_ ?_ _) | (with_reducible refine Below.setCell ?_ ?_ _) | (with_reducible refine Below.trans ?_ (Below.mono (by assumption) ?_)) | first | omega | (simp only [World.size_alloc, World.size_setCell, World.size_drew, size_drewN]; omega) | (simp; done) | (simp; omega) | (simp only [World.size_alloc, World.size_setCell, World.size_drew, size_drewN] at *; omega) | (simp at *; omega))).mono hz1)⟩
    · obtain ⟨S, hS⟩ : ∃ S, S = chS bs := ⟨_, rfl⟩
      obtain ⟨K, hK⟩ : ∃ K, K = chK bs := ⟨_, rfl⟩
      have hF : frT bs = .tuple #[.agg #[.int .i64 S, .int .i64 K], .bool true] := by unfold frT; rw [if_pos ho, hS, hK]
      have hsz : bs.size = 2 := by unfold okB at ho; simp only [Bool.and_eq_true, decide_eq_true_eq] at ho; exact ho.1
      have hv : tvB S K = true := by unfold okB at ho; simp only [Bool.and_eq_true, decide_eq_true_eq] at ho; rw [hS, hK]; exact ho.2
      have hT : txT S K = bs := by rw [hS, hK]; exact txT_back hsz (by rw [← hS, ← hK]; exact hv)
      have kT : ∀ W, Calls Tryd.prog 13 #[.agg #[.int .i64 S, .int .i64 K]] W fun e w' => e = .returned (.string bs) ∧ Below W.heap.size W w' := fun W => by
        have := iTermText_ok S K W hv
        rw [hT] at this
        exact this
      have kV : ∀ W, Calls Tryd.prog 22 #[.agg #[.int .i64 S, .int .i64 K]] W fun e w' => e = .returned (.bool true) ∧ Below W.heap.size W w' := fun W => by
        have := iTermValid_any S K W
        rw [hv] at this
        exact this
      have hx1 : (bs.extract 1 bs.size).size = 1 := by rw [ByteArray.size_extract]; omega
      have hF1 : frT (bs.extract 1 bs.size) = .tuple #[.agg #[.int .i64 0, .int .i64 0], .bool false] := by
        unfold frT okB
        rw [if_neg (by rw [hx1]; simp)]
      obtain ⟨bt, hbt⟩ : ∃ bt, bt = bs.extract 1 bs.size := ⟨_, rfl⟩
      have hbt2 : bs.extract 1 bs.size = bt := hbt.symm
      have hbt3 : bs.extract 1 2 = bt := by rw [← hsz]; exact hbt2
      rw [← hbt] at hx1 hF1
      have HF := Lib.hid hF
      have HF1 := Lib.hid hF1
      have HT := Lib.hid kT
      have HV := Lib.hid kV
      have hz2 : (1 : Int) ≤ (bs.size : Int) := by omega
      clear ho hS hK hF hv hT kT kV hF1 hbt
      go_wp2_with fail
      refine (iTermFrom_any bs _ (by omega)).mono ?_
      rintro e w2 ⟨rfl, hb2⟩
      rw [HF.out]
      obtain ⟨hc2, hf2⟩ := bcell hb2; have hz2 := hb2.size; (try simp only [World.size_alloc, World.size_setCell, World.size_drew, size_drewN] at hz2 hc2 hf2)
      go_wp2_with fail
      refine (sTermFrom_any bs _ (by omega)).mono ?_
      rintro e w3 ⟨rfl, hb3⟩
      rw [HF.out]
      obtain ⟨hc3, hf3⟩ := bcell hb3; have hz3 := hb3.size; (try simp only [World.size_alloc, World.size_setCell, World.size_drew, size_drewN] at hz3 hc3 hf3); (have g3a : w2.heap.size < w3.heap.size := by omega)
      (have k0 : w3.cell? ⟨w2.heap.size, 0, none⟩ = some (.int .i64 S) := by (simp (disch := first | omega | (simp; done) | (simp; omega)) [go_sem, *]; done)); (have k1 : w3.cell? ⟨w2.heap.size, 1, none⟩ = some (.int .i64 K) := by (simp (disch := first | omega | (simp; done) | (simp; omega)) [go_sem, *]; done))
      have hB3 : Below w1.heap.size w1 w3 := by (repeat' first | (with_reducible exact Below.refl _ _) | (with_reducible assumption) | (with_reducible refine below_drewN ?_ _) | (with_reducible refine Below.drew ?_) | (with_reducible refine Below.alloc ?_ ?_ _) | (with_reducible refine Below.setCell ?_ ?_ _) | (with_reducible refine Below.trans ?_ (Below.mono (by assumption) ?_)) | first | omega | (simp only [World.size_alloc, World.size_setCell, World.size_drew, size_drewN]; omega) | (simp; done) | (simp; omega) | (simp only [World.size_alloc, World.size_setCell, World.size_drew, size_drewN] at *; omega) | (simp at *; omega))
      clear hc2 hf2 hc3 hf3 hb2 hb3
      go_wp2_with fail
      refine (iTermFrom_any bt _ (by omega)).mono ?_
      rintro e w4 ⟨rfl, hb4⟩
      rw [HF1.out]
      obtain ⟨hc4, hf4⟩ := bcell hb4; have hz4 := hb4.size; (try simp only [World.size_alloc, World.size_setCell, World.size_drew, size_drewN] at hz4 hc4 hf4)
      have g4a : w2.heap.size < w4.heap.size := by omega
      (have q0 : w4.cell? ⟨w2.heap.size, 0, none⟩ = some (.int .i64 S) := by (simp (disch := first | omega | (simp; done) | (simp; omega)) [go_sem, *]; done)); (have q1 : w4.cell? ⟨w2.heap.size, 1, none⟩ = some (.int .i64 K) := by (simp (disch := first | omega | (simp; done) | (simp; omega)) [go_sem, *]; done))
      have hB4 : Below w1.heap.size w1 w4 := by (repeat' first | (with_reducible exact Below.refl _ _) | (with_reducible assumption) | (with_reducible refine below_drewN ?_ _) | (with_reducible refine Below.drew ?_) | (with_reducible refine Below.alloc ?_ ?_ _) | (with_reducible refine Below.setCell ?_ ?_ _) | (with_reducible refine Below.trans ?_ (Below.mono (by assumption) ?_)) | first | omega | (simp only [World.size_alloc, World.size_setCell, World.size_drew, size_drewN]; omega) | (simp; done) | (simp; omega) | (simp only [World.size_alloc, World.size_setCell, World.size_drew, size_drewN] at *; omega) | (simp at *; omega))
      clear hc4 hf4 hb4 hB3 k0 k1
      go_wp2_with fail
      refine (HV.out _).mono ?_
      rintro e w5 ⟨rfl, hb5⟩
      obtain ⟨hc5, hf5⟩ := bcell hb5; have hz5 := hb5.size; (try simp only [World.size_alloc, World.size_setCell, World.size_drew, size_drewN] at hz5 hc5 hf5)
      have g5a : w2.heap.size < w5.heap.size := by omega
      (have u0 : w5.cell? ⟨w2.heap.size, 0, none⟩ = some (.int .i64 S) := by (simp (disch := first | omega | (simp; done) | (simp; omega)) [go_sem, *]; done)); (have u1 : w5.cell? ⟨w2.heap.size, 1, none⟩ = some (.int .i64 K) := by (simp (disch := first | omega | (simp; done) | (simp; omega)) [go_sem, *]; done))
      have hB5 : Below w1.heap.size w1 w5 := by (repeat' first | (with_reducible exact Below.refl _ _) | (with_reducible assumption) | (with_reducible refine below_drewN ?_ _) | (with_reducible refine Below.drew ?_) | (with_reducible refine Below.alloc ?_ ?_ _) | (with_reducible refine Below.setCell ?_ ?_ _) | (with_reducible refine Below.trans ?_ (Below.mono (by assumption) ?_)) | first | omega | (simp only [World.size_alloc, World.size_setCell, World.size_drew, size_drewN]; omega) | (simp; done) | (simp; omega) | (simp only [World.size_alloc, World.size_setCell, World.size_drew, size_drewN] at *; omega) | (simp at *; omega))
      clear hc5 hf5 hb5 hB4 q0 q1
      go_wp2_with fail
      refine (HT.out _).mono ?_
      rintro e w6 ⟨rfl, hb6⟩
      obtain ⟨hc6, hf6⟩ := bcell hb6; have hz6 := hb6.size; (try simp only [World.size_alloc, World.size_setCell, World.size_drew, size_drewN] at hz6 hc6 hf6)
      have hB6 : Below w1.heap.size w1 w6 := by (repeat' first | (with_reducible exact Below.refl _ _) | (with_reducible assumption) | (with_reducible refine below_drewN ?_ _) | (with_reducible refine Below.drew ?_) | (with_reducible refine Below.alloc ?_ ?_ _) | (with_reducible refine Below.setCell ?_ ?_ _) | (with_reducible refine Below.trans ?_ (Below.mono (by assumption) ?_)) | first | omega | (simp only [World.size_alloc, World.size_setCell, World.size_drew, size_drewN]; omega) | (simp; done) | (simp; omega) | (simp only [World.size_alloc, World.size_setCell, World.size_drew, size_drewN] at *; omega) | (simp at *; omega))
      go_wp2
      go_ret
      exact ⟨rfl, HB1.out.trans (hB6.mono hz1)⟩
end Go.Proofs.YtpggbfpjofcgnaaDoor
