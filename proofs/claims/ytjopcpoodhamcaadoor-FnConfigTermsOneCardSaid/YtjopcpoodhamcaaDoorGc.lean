import Derived.Test.YtjopcpoodhamcaaDoorMap
import Derived.Test.YtjopcpoodhamcaaDoorGa
import Derived.Test.YtjopcpoodhamcaaDoorValid
import Derived.Deep.QuietTactic
import Derived.BigQuiet
/-
  The walk of impl.newMicroTable. Conditions: the table of the library.
-/
namespace Go.Proofs.YtjopcpoodhamcaaDoor
set_option linter.unusedSimpArgs false
set_option linter.unusedVariables false
open Go.RowKit

def eOk (l n : Int) : Bool := decide (0 ≤ l ∧ l ≤ 2 ∧ 0 ≤ n ∧ n ≤ 4 * l + 2)
theorem eOk_true {l n : Int} (h : eOk l n = true) : 0 ≤ l ∧ l ≤ 2 ∧ 0 ≤ n ∧ n ≤ 4 * l + 2 := by simpa [eOk] using h
theorem fin_ln (p : Int → Int → Bool) (h : ((List.range 3).all fun l => (List.range (4 * l + 3)).all fun n => p l n) = true) {l n : Int} (hv : eOk l n = true) : p l n = true := by
  have b := eOk_true hv
  obtain ⟨l, rfl⟩ := Int.eq_ofNat_of_zero_le b.1
  obtain ⟨n, rfl⟩ := Int.eq_ofNat_of_zero_le b.2.2.1
  exact List.all_eq_true.1 (List.all_eq_true.1 h l (List.mem_range.2 (by omega))) n (List.mem_range.2 (by omega))
/-- The states of n electrons. -/
def mics (l n : Int) : List (Int × Int) := micL l n (cap l)
theorem mics_bd {l n : Int} (hv : eOk l n = true) : 0 < (mics l n).length ∧ (mics l n).length ≤ 252 ∧ (mics l n).all (fun p => decide (-20 ≤ p.1 ∧ p.1 ≤ 20 ∧ -20 ≤ p.2 ∧ p.2 ≤ 20)) = true := by
  have := fin_ln (fun l n => decide (0 < (mics l n).length ∧ (mics l n).length ≤ 252 ∧ (mics l n).all (fun p => decide (-20 ≤ p.1 ∧ p.1 ≤ 20 ∧ -20 ≤ p.2 ∧ p.2 ≤ 20)) = true)) (by decide +kernel) hv
  simpa using this
theorem mics_at {l n : Int} (hv : eOk l n = true) {k : Nat} {p : Int × Int} (h : (mics l n)[k]? = some p) : -20 ≤ p.1 ∧ p.1 ≤ 20 ∧ -20 ≤ p.2 ∧ p.2 ≤ 20 := by
  have := List.all_eq_true.1 (mics_bd hv).2.2 p (List.mem_of_getElem? h)
  simpa using this
def cntK (xs : List (Int × Int)) (k : Nat) : Int → Int → Int := fun o s => (((xs.take k).countP fun p => decide (p.1 = o ∧ p.2 = s) : Nat) : Int)
def cntM (l n : Int) : Int → Int → Int := cntK (mics l n) (mics l n).length
theorem cntK_bd (xs : List (Int × Int)) (k : Nat) (o s : Int) : 0 ≤ cntK xs k o s ∧ cntK xs k o s ≤ k := by
  unfold cntK
  have := List.countP_le_length (p := fun p : Int × Int => decide (p.1 = o ∧ p.2 = s)) (l := xs.take k)
  have := List.length_take_le k xs
  omega
theorem cntK_step {xs : List (Int × Int)} {k : Nat} {p : Int × Int} (h : xs[k]? = some p) : cntK xs (k + 1) = updM (cntK xs k) p.1 p.2 (cntK xs k p.1 p.2 + 1) := by
  funext o s
  have e : xs.take (k + 1) = xs.take k ++ [p] := by rw [List.take_add_one, h]; rfl
  unfold updM cntK
  rw [e, List.countP_append]
  split
  · rename_i he
    obtain ⟨rfl, rfl⟩ := he
    simp
  · rename_i he
    have : ¬ (p.1 = o ∧ p.2 = s) := fun hh => he ⟨hh.1.symm, hh.2.symm⟩
    simp [this]
theorem But.own {B rb : Nat} {a w : World} (h : But B rb a w) (o : Nat) (u : Value) : But B rb a (w.setCell ⟨rb, o, none⟩ u) := by
  refine ⟨h.os, h.tape, h.output, ?_, fun k hk hn => ?_⟩
  · rw [World.size_setCell]; exact h.size
  · rw [Below.heap_setCell _ _ _ _ hn]; exact h.block k hk hn
theorem But.low {B B' rb : Nat} {a w : World} (h : But B rb a w) (h1 : B' ≤ B) (h2 : B' ≤ rb) : Below B' a w := ⟨h.os, h.tape, h.output, h.size, fun k hk => h.block k (by omega) (by omega)⟩
theorem But.cell {B rb : Nat} {a w : World} (h : But B rb a w) {b o : Nat} (hb : b < B) (hn : b ≠ rb) : w.cell? ⟨b, o, none⟩ = a.cell? ⟨b, o, none⟩ := World.cell?_of_block (h.block b hb hn)
set_option maxRecDepth 20000 in
set_option maxHeartbeats 4000000 in
theorem table_any (l n : Int) (w : World) (hv : eOk l n = true) (hT : Tab w) (hsz : 1 < w.heap.size) :
    Calls Tryd.prog 43 #[.int .i64 l, .int .i64 n] w fun e w' => e = .returned (.map (some w.heap.size)) ∧ Mp w' w.heap.size 252 (cntM l n) ∧ Below w.heap.size w w' := by
  have bl := eOk_true hv
  obtain ⟨m0, m1, -⟩ := mics_bd hv
  have HV := Lib.hid hv
  have hmm := @run_makeMap Tryd.prog
  clear hv
  go_enter Tryd.func43, Tryd.ntmps43
  go_wp2_with fail
  refine (micro_any l n _ bl.1 bl.2.1 (hT.of fun i => by (simp (disch := first | omega | (simp; done) | (simp; omega)) [go_sem, *]; done)) (by simp; omega)).mono ?_
  rintro e w1 ⟨v, rfl, hown, hb1⟩
  obtain ⟨g, cp, rfl, hg1, hg2, hc, -⟩ := row_form hown (by show 0 < (mics l n).length; omega)
  have hz1 := hb1.size
  simp only [World.size_alloc] at hz1 hg1
  have HC := Lib.hid hc
  have hM0 : Mp w1 w.heap.size 0 (cntK (mics l n) 0) := (Mp.made w).below hb1 (by simp)
  have hB1 : Below w.heap.size w w1 := by (repeat' first | (with_reducible exact Below.refl _ _) | (with_reducible assumption) | (with_reducible refine below_drewN ?_ _) | (with_reducible refine Below.drew ?_) | (with_reducible refine Below.alloc ?_ ?_ _) | (with_reducible refine Below.setCell ?_ ?_ _) | (with_reducible refine Below.trans ?_ (Below.mono (by assumption) ?_)) | first | omega | (simp only [World.size_alloc, World.size_setCell, World.size_drew, size_drewN]; omega) | (simp; done) | (simp; omega) | (simp only [World.size_alloc, World.size_setCell, World.size_drew, size_drewN] at *; omega) | (simp at *; omega))
  rw [show micL l n (cap l) = mics l n from rfl]
  clear hc hown hb1 hmm hT
  go_wp2_with fail
  go_loopw [13] (fun i wr => ∃ k : Nat, k ≤ (mics l n).length ∧ i = .int .i64 k ∧ Mp wr w.heap.size k (cntK (mics l n) k) ∧ But w1.heap.size w.heap.size w1 wr) (fun i _ => (mics l n).length - (intOf i).toNat)
  case atStart => exact ⟨0, Nat.zero_le _, rfl, hM0, But.refl _ _ _⟩
  case round =>
    obtain ⟨k, hk, rfl, hM, hbut⟩ := hrel
    have hbz := hbut.size
    by_cases hlt : k < (mics l n).length
    · obtain ⟨p, hp⟩ : ∃ p, (mics l n)[k]? = some p := ⟨_, List.getElem?_eq_getElem hlt⟩
      have bp := mics_at HV.out hp
      have hsm : sm p.1 p.2 := ⟨by omega, by omega, by omega, by omega⟩
      obtain ⟨x0, x1⟩ := vS_get (mics l n) k p hp
      have y0 : w1.cell? ⟨g, k * 2, none⟩ = (vS (mics l n))[k * 2]? := HC.out (k * 2) (by show k * 2 < (mics l n).length * 2; omega)
      have y1 : w1.cell? ⟨g, k * 2 + 1, none⟩ = (vS (mics l n))[k * 2 + 1]? := HC.out (k * 2 + 1) (by show k * 2 + 1 < (mics l n).length * 2; omega)
      have r0 := (hbut.cell (b := g) (o := k * 2) hg2 (by omega)).trans (y0.trans x0)
      have r1 := (hbut.cell (b := g) (o := k * 2 + 1) hg2 (by omega)).trans (y1.trans x1)
      have cb := cntK_bd (mics l n) k p.1 p.2
      have i0' : (0 : Int) ≤ (k : Int) := Int.natCast_nonneg _
      have i1 : (k : Int) < ((mics l n).length : Int) := by omega
      have hMX : Mp (wr.alloc (.cells #[.int .i64 p.1, .int .i64 p.2] 66)).drew w.heap.size k (cntK (mics l n) k) := hM.heap (Below.heap_alloc wr _ _ hM.lt)
      have hl := hMX.lookup hsm
      obtain ⟨v0, st, w2, he, hg, hz, hM2, hst⟩ := hMX.entry (by unfold maxLen; omega) hsm
      have hl2 := hM2.lookup hsm
      obtain ⟨w3, hs3, hg3, hz3, hM3⟩ := hst w2 (cntK (mics l n) k p.1 p.2 + 1) rfl (by omega) (by omega)
      have he' : (Instr.mapEntry 63 (.map (some w.heap.size)) (.agg #[.int .i64 p.1, .int .i64 p.2])).run Tryd.prog (wr.alloc (.cells #[.int .i64 p.1, .int .i64 p.2] 66)).drew = .ok (.tuple #[v0, .int .i64 st]) w2 := he
      have hs3' : (Instr.entryStore 63 (.map (some w.heap.size)) (.int .i64 st) (.int .i64 (cntK (mics l n) k p.1 p.2 + 1))).run Tryd.prog w2 = .ok () w3 := hs3
      have hbX : But w1.heap.size w.heap.size w1 (wr.alloc (.cells #[.int .i64 p.1, .int .i64 p.2] 66)).drew := (hbut.alloc hbz _).drew
      have hbXz := hbX.size
      have hb2 := hbX.grown hg hbXz
      have hb3 := hb2.grown hg3 hb2.size
      have HM3 := Lib.hid (show Mp w3 w.heap.size (k + 1) (cntK (mics l n) (k + 1)) by rw [cntK_step hp]; exact hM3)
      have HB3 := Lib.hid hb3
      clear he hs3 hst hMX hM2 hM3 hbX hb2 hb3 hM hbut x0 x1 y0 y1 hg hg3 hz hz3 hbXz
      go_wp2_with fail
      go_region
      all_goals go_wp2
      all_goals go_roundw
      all_goals first
        | (case rel => exact ⟨k + 1, hlt, by go_num, HM3.out, HB3.out⟩)
        | (case measure => simp [intOf]; omega)
        | skip
    · obtain rfl : k = (mics l n).length := by omega
      go_wp2
      go_ret
      exact ⟨rfl, hM.mono (by omega), hB1.trans (hbut.low (by omega) (Nat.le_refl _))⟩
end Go.Proofs.YtjopcpoodhamcaaDoor

/-
  The walks of the functions on terms, triangles and levels (impl and spec). Conditions: none.
-/
namespace Go.Proofs.YtjopcpoodhamcaaDoor
set_option linter.unusedSimpArgs false
set_option linter.unusedVariables false
open Go.RowKit

set_option maxHeartbeats 400000 in
theorem sTermValid_any (s l : Int) (w : World) :
    Calls Tryd.prog 65 #[.agg #[.int .i64 s, .int .i64 l]] w fun e w' => e = .returned (.bool (tvB s l)) ∧ Below w.heap.size w w' := by
  rw [tvB_in]
  cases h1 : inB s 0 8
  · rw [Bool.false_and]
    go_enter Tryd.func65, Tryd.ntmps65
    go_wp2_with (go_at_call 64; refine (l6In_any _ _ _ _).mono ?_; rintro e w' ⟨rfl, rfl⟩)
    go_ret
    exact ⟨rfl, (Below.refl _ _).alloc (Nat.le_refl _) _⟩
  · rw [Bool.true_and]
    go_enter Tryd.func65, Tryd.ntmps65
    go_wp2_with (go_at_call 64; refine (l6In_any _ _ _ _).mono ?_; rintro e w' ⟨rfl, rfl⟩)
    go_ret
    exact ⟨rfl, (Below.refl _ _).alloc (Nat.le_refl _) _⟩
set_option maxHeartbeats 400000 in
theorem iTermValid_any (s l : Int) (w : World) :
    Calls Tryd.prog 34 #[.agg #[.int .i64 s, .int .i64 l]] w fun e w' => e = .returned (.bool (tvB s l)) ∧ Below w.heap.size w w' := by
  by_cases a1 : 0 ≤ s
  · by_cases a2 : s ≤ 8
    · by_cases a3 : 0 ≤ l
      · by_cases a4 : l ≤ 8
        · have hb : tvB s l = true := by simp [tvB]; omega
          rw [hb]
          (go_enter Tryd.func34, Tryd.ntmps34; go_wp2; go_ret; exact ⟨rfl, (Below.refl _ _).alloc (Nat.le_refl _) _⟩)
        · have hb : tvB s l = false := by simp [tvB]; omega
          rw [hb]
          (go_enter Tryd.func34, Tryd.ntmps34; go_wp2; go_ret; exact ⟨rfl, (Below.refl _ _).alloc (Nat.le_refl _) _⟩)
      · have hb : tvB s l = false := by simp [tvB]; omega
        rw [hb]
        (go_enter Tryd.func34, Tryd.ntmps34; go_wp2; go_ret; exact ⟨rfl, (Below.refl _ _).alloc (Nat.le_refl _) _⟩)
    · have hb : tvB s l = false := by simp [tvB]; omega
      rw [hb]
      (go_enter Tryd.func34, Tryd.ntmps34; go_wp2; go_ret; exact ⟨rfl, (Below.refl _ _).alloc (Nat.le_refl _) _⟩)
  · have hb : tvB s l = false := by simp [tvB]; omega
    rw [hb]
    (go_enter Tryd.func34, Tryd.ntmps34; go_wp2; go_ret; exact ⟨rfl, (Below.refl _ _).alloc (Nat.le_refl _) _⟩)

end Go.Proofs.YtjopcpoodhamcaaDoor

/-
  The walks of impl.electronsValid, MicroCount, TermCount. Conditions: the table of the library.
-/
namespace Go.Proofs.YtjopcpoodhamcaaDoor
set_option linter.unusedSimpArgs false
set_option linter.unusedVariables false
open Go.RowKit

theorem eOk_no {l n : Int} (h : eOk l n = false) : ¬ (0 ≤ l ∧ l ≤ 2 ∧ 0 ≤ n ∧ n ≤ 4 * l + 2) := by simpa [eOk] using h
set_option maxHeartbeats 1000000 in
theorem eValid_any (l n : Int) (w : World) :
    Calls Tryd.prog 42 #[.int .i64 l, .int .i64 n] w fun e w' => e = .returned (.bool (eOk l n)) ∧ w = w' := by
  by_cases h0 : 0 ≤ l
  · by_cases h2 : l ≤ 2
    · by_cases n0 : 0 ≤ n
      · by_cases n2 : n ≤ 4 * l + 2
        · rw [show eOk l n = true by simp [eOk]; omega]
          go_enter Tryd.func42, Tryd.ntmps42
          go_wp2_with (go_at_call 24; refine (capacity_any _ _ h0 (by omega)).mono ?_; rintro e w1 ⟨rfl, rfl⟩)
          go_ret
          exact ⟨rfl, rfl⟩
        · rw [show eOk l n = false by simp [eOk]; omega]
          go_enter Tryd.func42, Tryd.ntmps42
          go_wp2_with (go_at_call 24; refine (capacity_any _ _ h0 (by omega)).mono ?_; rintro e w1 ⟨rfl, rfl⟩)
          go_ret
          first | exact ⟨rfl, rfl⟩ | exact ⟨ret_bool (by simp; omega), rfl⟩ | exact ⟨ret_bool (by simp [n2]), rfl⟩
      · rw [show eOk l n = false by simp [eOk]; omega]
        go_enter Tryd.func42, Tryd.ntmps42
        go_wp2
        go_ret
        exact ⟨rfl, rfl⟩
    · rw [show eOk l n = false by simp [eOk]; omega]
      go_enter Tryd.func42, Tryd.ntmps42
      go_wp2
      go_ret
      exact ⟨rfl, rfl⟩
  · rw [show eOk l n = false by simp [eOk]; omega]
    go_enter Tryd.func42, Tryd.ntmps42
    go_wp2
    go_ret
    exact ⟨rfl, rfl⟩
/-- The number of terms. -/
def tcI (l n s k : Int) : Int := cntM l n k s - cntM l n (k + 1) s - cntM l n k (s + 2) + cntM l n (k + 1) (s + 2)
def tcF (l n s k : Int) : Int := if tvB s k = true ∧ eOk l n = true then tcI l n s k else -1
theorem cntM_bd {l n : Int} (hv : eOk l n = true) (o s : Int) : 0 ≤ cntM l n o s ∧ cntM l n o s ≤ 252 := by
  have := cntK_bd (mics l n) (mics l n).length o s
  have := (mics_bd hv).2.1
  unfold cntM
  omega
end Go.Proofs.YtjopcpoodhamcaaDoor
