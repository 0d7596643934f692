/-
  The walks that write terms, spins and levels. Conditions: none.
-/
import Derived.Test.YtpggbfpjofcgnaaDoorTxt1
import Derived.Test.YtpggbfpjofcgnaaDoorLevel
namespace Go.Proofs.YtpggbfpjofcgnaaDoor
set_option linter.unusedSimpArgs false
set_option linter.unusedVariables false
open Go.RowKit

def ltr (l : Int) : ByteArray := (⟨#[83, 80, 68, 70, 71, 72, 73, 75, 76]⟩ : ByteArray).extract l.toNat (l.toNat + 1)
def txT (s l : Int) : ByteArray := dec (s + 1).toNat ++ ltr l
def txJ (j : Int) : ByteArray := if j % 2 = 0 then dec (j / 2).toNat else dec j.toNat ++ ⟨#[47, 50]⟩
def txL (s l j : Int) : ByteArray := txT s l ++ txJ j
theorem ltr_size_fin : ∀ l : Fin 9, (ltr ((l.val : Nat) : Int)).size = 1 := by decide +kernel
theorem ltr_size {l : Int} (h0 : 0 ≤ l) (h1 : l ≤ 8) : (ltr l).size = 1 := by
  obtain ⟨k, rfl⟩ := Int.eq_ofNat_of_zero_le h0
  exact ltr_size_fin ⟨k, by omega⟩
theorem slice_ltr {l : Int} (h0 : 0 ≤ l) (h1 : l ≤ 8) (w : World) :
    (Instr.slice 9 (.string ⟨#[83, 80, 68, 70, 71, 72, 73, 75, 76]⟩) (some (.int .i64 l)) (some (.int .i64 (l + 1))) none).run Tryd.prog w = .ok (.string (ltr l)) w := by
  have hz : (⟨#[83, 80, 68, 70, 71, 72, 73, 75, 76]⟩ : ByteArray).size = 9 := rfl
  rw [run_slice_string w 9 _ .i64 .i64 _ _ Tryd.underlying9 (by omega) (by omega) (by rw [hz]; omega), show (l + 1).toNat = l.toNat + 1 by omega]
  rfl
set_option maxHeartbeats 2000000 in
theorem iTermText_any (s l : Int) (w : World) :
    Calls Tryd.prog 13 #[.agg #[.int .i64 s, .int .i64 l]] w fun e w' => e = .returned (.string (if tvB s l = true then txT s l else ⟨#[]⟩)) ∧ Below w.heap.size w w' := by
  cases hv : tvB s l
  · go_enter Tryd.func13, Tryd.ntmps13
    go_wp2_with (go_at_call 22; refine (iTermValid_any _ _ _).mono ?_; rintro e w1 ⟨rfl, hb1⟩; obtain ⟨hc1, hf1⟩ := bcell hb1; have hz1 := hb1.size; (try simp only [World.size_alloc, World.size_setCell, World.size_drew, size_drewN] at hz1 hc1 hf1); (have g1a : w.heap.size < w1.heap.size := by omega); rw [hv])
    go_ret
    exact ⟨rfl, by (repeat' first | (with_reducible exact Below.refl _ _) | (with_reducible assumption) | (with_reducible refine below_drewN ?_ _) | (with_reducible refine Below.drew ?_) | (with_reducible refine Below.alloc ?_ ?_ _) | (with_reducible refine Below.setCell ?_ ?_ _) | (with_reducible refine Below.trans ?_ (Below.mono (by assumption) ?_)) | first | omega | (simp only [World.size_alloc, World.size_setCell, World.size_drew, size_drewN]; omega) | (simp; done) | (simp; omega) | (simp only [World.size_alloc, World.size_setCell, World.size_drew, size_drewN] at *; omega) | (simp at *; omega))⟩
  · have b := tvB_true hv
    obtain ⟨i, hi⟩ : ∃ i : Nat, (i : Int) = s + 1 := ⟨(s + 1).toNat, by omega⟩
    have hi10 : i < 10 := by omega
    have zq : (dec i).size = 1 := dec_size hi10
    have zl := ltr_size b.2.2.1 b.2.2.2
    have hsl := slice_ltr b.2.2.1 b.2.2.2
    obtain ⟨b1, b2, b3, b4⟩ := b
    have hwl : IntKind.i64.wrap (l + 1) = l + 1 := IntWalk.i64_in _ (by omega)
    have b5 : l + 1 ≤ 9 := by omega
    have hst : s = (i : Int) - 1 := by omega
    have e1 : (i : Int) - 1 + 1 = (i : Int) := by omega
    have ht : txT s l = dec i ++ ltr l := by unfold txT; rw [show (s + 1).toNat = i by omega]
    have HT := Lib.hid ht
    subst hst
    have hwi : IntKind.i64.wrap (i : Int) = (i : Int) := IntWalk.i64_in _ (by omega)
    clear hi ht
    go_enter Tryd.func13, Tryd.ntmps13
    go_wp2_with (go_at_call 22; refine (iTermValid_any _ _ _).mono ?_; rintro e w1 ⟨rfl, hb1⟩; obtain ⟨hc1, hf1⟩ := bcell hb1; have hz1 := hb1.size; (try simp only [World.size_alloc, World.size_setCell, World.size_drew, size_drewN] at hz1 hc1 hf1); (have g1a : w.heap.size < w1.heap.size := by omega); rw [hv])
    go_region_held3 (fun w' => w'.cell? ⟨w.heap.size, 0, none⟩ = some (.int .i64 ((i : Int) - 1)) ∧ w'.cell? ⟨w.heap.size, 1, none⟩ = some (.int .i64 l) ∧ w.heap.size + 1 ≤ w'.heap.size ∧ Below w.heap.size w w')
      (first | (simp (disch := first | omega | (simp; done) | (simp; omega)) [go_sem, *]; done) | ((repeat' first | (with_reducible exact Below.refl _ _) | (with_reducible assumption) | (with_reducible refine below_drewN ?_ _) | (with_reducible refine Below.drew ?_) | (with_reducible refine Below.alloc ?_ ?_ _) | (with_reducible refine Below.setCell ?_ ?_ _) | (with_reducible refine Below.trans ?_ (Below.mono (by assumption) ?_)) | first | omega | (simp only [World.size_alloc, World.size_setCell, World.size_drew, size_drewN]; omega) | (simp; done) | (simp; omega) | (simp only [World.size_alloc, World.size_setCell, World.size_drew, size_drewN] at *; omega) | (simp at *; omega)); done) | ((try go_split_ands); (refine ⟨?_, ?_, ?_, ?_⟩ <;> first | omega | (simp only [World.size_alloc, World.size_setCell, World.size_drew, size_drewN]; omega) | (simp (disch := first | omega | (simp; done) | (simp; omega)) [go_sem, *]; done) | ((repeat' first | (with_reducible exact Below.refl _ _) | (with_reducible assumption) | (with_reducible refine below_drewN ?_ _) | (with_reducible refine Below.drew ?_) | (with_reducible refine Below.alloc ?_ ?_ _) | (with_reducible refine Below.setCell ?_ ?_ _) | (with_reducible refine Below.trans ?_ (Below.mono (by assumption) ?_)) | first | omega | (simp only [World.size_alloc, World.size_setCell, World.size_drew, size_drewN]; omega) | (simp; done) | (simp; omega) | (simp only [World.size_alloc, World.size_setCell, World.size_drew, size_drewN] at *; omega) | (simp at *; omega)); done))))
      (first | (go_at_call 31; refine (itoa_any i (by omega) _).mono ?_; rintro e w' ⟨rfl, rfl⟩))
    go_wp2
    go_ret
    exact ⟨by rw [HT.out]; rfl, by (repeat' first | (with_reducible exact Below.refl _ _) | (with_reducible assumption) | (with_reducible refine below_drewN ?_ _) | (with_reducible refine Below.drew ?_) | (with_reducible refine Below.alloc ?_ ?_ _) | (with_reducible refine Below.setCell ?_ ?_ _) | (with_reducible refine Below.trans ?_ (Below.mono (by assumption) ?_)) | first | omega | (simp only [World.size_alloc, World.size_setCell, World.size_drew, size_drewN]; omega) | (simp; done) | (simp; omega) | (simp only [World.size_alloc, World.size_setCell, World.size_drew, size_drewN] at *; omega) | (simp at *; omega))⟩
set_option maxHeartbeats 2000000 in
theorem sTermText_any (s l : Int) (w : World) :
    Calls Tryd.prog 11 #[.agg #[.int .i64 s, .int .i64 l]] w fun e w' => e = .returned (.string (if tvB s l = true then txT s l else ⟨#[]⟩)) ∧ Below w.heap.size w w' := by
  cases hv : tvB s l
  · go_enter Tryd.func11, Tryd.ntmps11
    go_wp2_with (go_at_call 29; refine (sTermValid_any _ _ _).mono ?_; rintro e w1 ⟨rfl, hb1⟩; obtain ⟨hc1, hf1⟩ := bcell hb1; have hz1 := hb1.size; (try simp only [World.size_alloc, World.size_setCell, World.size_drew, size_drewN] at hz1 hc1 hf1); (have g1a : w.heap.size < w1.heap.size := by omega); rw [hv])
    go_ret
    exact ⟨rfl, by (repeat' first | (with_reducible exact Below.refl _ _) | (with_reducible assumption) | (with_reducible refine below_drewN ?_ _) | (with_reducible refine Below.drew ?_) | (with_reducible refine Below.alloc ?_ ?_ _) | (with_reducible refine Below.setCell ?_ ?_ _) | (with_reducible refine Below.trans ?_ (Below.mono (by assumption) ?_)) | first | omega | (simp only [World.size_alloc, World.size_setCell, World.size_drew, size_drewN]; omega) | (simp; done) | (simp; omega) | (simp only [World.size_alloc, World.size_setCell, World.size_drew, size_drewN] at *; omega) | (simp at *; omega))⟩
  · have b := tvB_true hv
    obtain ⟨i, hi⟩ : ∃ i : Nat, (i : Int) = s + 1 := ⟨(s + 1).toNat, by omega⟩
    have hi10 : i < 10 := by omega
    have zq : (dec i).size = 1 := dec_size hi10
    have zl := ltr_size b.2.2.1 b.2.2.2
    have hsl := slice_ltr b.2.2.1 b.2.2.2
    obtain ⟨b1, b2, b3, b4⟩ := b
    have hwl : IntKind.i64.wrap (l + 1) = l + 1 := IntWalk.i64_in _ (by omega)
    have b5 : l + 1 ≤ 9 := by omega
    have hst : s = (i : Int) - 1 := by omega
    have e1 : (i : Int) - 1 + 1 = (i : Int) := by omega
    have ht : txT s l = dec i ++ ltr l := by unfold txT; rw [show (s + 1).toNat = i by omega]
    have HT := Lib.hid ht
    subst hst
    have hwi : IntKind.i64.wrap (i : Int) = (i : Int) := IntWalk.i64_in _ (by omega)
    clear hi ht
    go_enter Tryd.func11, Tryd.ntmps11
    go_wp2_with (go_at_call 29; refine (sTermValid_any _ _ _).mono ?_; rintro e w1 ⟨rfl, hb1⟩; obtain ⟨hc1, hf1⟩ := bcell hb1; have hz1 := hb1.size; (try simp only [World.size_alloc, World.size_setCell, World.size_drew, size_drewN] at hz1 hc1 hf1); (have g1a : w.heap.size < w1.heap.size := by omega); rw [hv])
    go_region_held3 (fun w' => w'.cell? ⟨w.heap.size, 0, none⟩ = some (.int .i64 ((i : Int) - 1)) ∧ w'.cell? ⟨w.heap.size, 1, none⟩ = some (.int .i64 l) ∧ w.heap.size + 1 ≤ w'.heap.size ∧ Below w.heap.size w w')
      (first | (simp (disch := first | omega | (simp; done) | (simp; omega)) [go_sem, *]; done) | ((repeat' first | (with_reducible exact Below.refl _ _) | (with_reducible assumption) | (with_reducible refine below_drewN ?_ _) | (with_reducible refine Below.drew ?_) | (with_reducible refine Below.alloc ?_ ?_ _) | (with_reducible refine Below.setCell ?_ ?_ _) | (with_reducible refine Below.trans ?_ (Below.mono (by assumption) ?_)) | first | omega | (simp only [World.size_alloc, World.size_setCell, World.size_drew, size_drewN]; omega) | (simp; done) | (simp; omega) | (simp only [World.size_alloc, World.size_setCell, World.size_drew, size_drewN] at *; omega) | (simp at *; omega)); done) | ((try go_split_ands); (refine ⟨?_, ?_, ?_, ?_⟩ <;> first | omega | (simp only [World.size_alloc, World.size_setCell, World.size_drew, size_drewN]; omega) | (simp (disch := first | omega | (simp; done) | (simp; omega)) [go_sem, *]; done) | ((repeat' first | (with_reducible exact Below.refl _ _) | (with_reducible assumption) | (with_reducible refine below_drewN ?_ _) | (with_reducible refine Below.drew ?_) | (with_reducible refine Below.alloc ?_ ?_ _) | (with_reducible refine Below.setCell ?_ ?_ _) | (with_reducible refine Below.trans ?_ (Below.mono (by assumption) ?_)) | first | omega | (simp only [World.size_alloc, World.size_setCell, World.size_drew, size_drewN]; omega) | (simp; done) | (simp; omega) | (simp only [World.size_alloc, World.size_setCell, World.size_drew, size_drewN] at *; omega) | (simp at *; omega)); done))))
      (first | (go_at_call 30; refine (l6Dec_any i (by omega) _).mono ?_; rintro e w2 ⟨rfl, hb2⟩; obtain ⟨hc2, hf2⟩ := bcell hb2; have hz2 := hb2.size; (try simp only [World.size_alloc, World.size_setCell, World.size_drew, size_drewN] at hz2 hc2 hf2); (have g2a : w.heap.size < w2.heap.size := by omega)))
    go_wp2
    go_ret
    exact ⟨by rw [HT.out]; rfl, by (repeat' first | (with_reducible exact Below.refl _ _) | (with_reducible assumption) | (with_reducible refine below_drewN ?_ _) | (with_reducible refine Below.drew ?_) | (with_reducible refine Below.alloc ?_ ?_ _) | (with_reducible refine Below.setCell ?_ ?_ _) | (with_reducible refine Below.trans ?_ (Below.mono (by assumption) ?_)) | first | omega | (simp only [World.size_alloc, World.size_setCell, World.size_drew, size_drewN]; omega) | (simp; done) | (simp; omega) | (simp only [World.size_alloc, World.size_setCell, World.size_drew, size_drewN] at *; omega) | (simp at *; omega))⟩
end Go.Proofs.YtpggbfpjofcgnaaDoor
