import Derived.Test.YtjopcpoodhamcaaDoorHlp
import Derived.Handy
import Derived.Test.YtjopcpoodhamcaaDoorGa
/-
  The walks of the laws' own toTermS, szTermS, eqTermS, markTermS, heldTermS. Conditions: none.
-/
namespace Go.Proofs.YtjopcpoodhamcaaDoor
set_option linter.unusedSimpArgs false
set_option linter.unusedVariables false
open Go.RowKit

/-- A list of the laws' own terms that came in. -/
def ArgT (w : World) (a : Option Addr) (len : Nat) (xs : List Tm) : Prop :=
  xs.length = len ∧ (0 < len → ∃ b o, a = some ⟨b, o, none⟩ ∧ b < w.heap.size ∧ TmOf w b o xs)
theorem ArgT.below {w w' : World} {a : Option Addr} {len : Nat} {xs : List Tm} (h : ArgT w a len xs) (hb : Below w.heap.size w w') : ArgT w' a len xs :=
  ⟨h.1, fun h0 => by obtain ⟨b, o, e, h1, h2⟩ := h.2 h0; exact ⟨b, o, e, Nat.lt_of_lt_of_le h1 hb.size, h2.below hb h1⟩⟩
set_option maxHeartbeats 400000 in
theorem eqTm_same (s l : Int) (w : World) :
    Calls Tryd.prog 38 #[.agg #[.int .i64 s, .int .i64 l], .agg #[.int .i64 s, .int .i64 l]] w fun e w' => e = .returned (.bool true) ∧ Below w.heap.size w w' := by
  go_enter Tryd.func38, Tryd.ntmps38
  go_wp2
  try go_quiet (fail)
  try go_wp2
  try go_quiet (fail)
  try go_wp2
  go_ret
  exact ⟨rfl, by (repeat' first | (with_reducible exact Below.refl _ _) | (with_reducible assumption) | (with_reducible refine below_drewN ?_ _) | (with_reducible refine Below.drew ?_) | (with_reducible refine Below.alloc ?_ ?_ _) | (with_reducible refine Below.setCell ?_ ?_ _) | (with_reducible refine Below.trans ?_ (Below.mono (by assumption) ?_)) | first | omega | (simp only [World.size_alloc, World.size_setCell, World.size_drew, size_drewN]; omega) | (simp; done) | (simp; omega) | (simp only [World.size_alloc, World.size_setCell, World.size_drew, size_drewN] at *; omega) | (simp at *; omega))⟩
set_option maxHeartbeats 1000000 in
theorem eqS_any (v1 v2 : Value) (xs : List Tm) (w : World) (hs : xs.length ≤ 2000000) (h1 : RowI w v1 xs) (h2 : RowI w v2 xs) :
    Calls Tryd.prog 19 #[v1, v2] w fun e w' => e = .returned (.bool true) ∧ Below w.heap.size w w' := by
  have H1 := Lib.hid h1
  have H2 := Lib.hid h2
  obtain ⟨a1, c1, rfl⟩ := h1.form
  obtain ⟨a2, c2, rfl⟩ := h2.form
  clear h1 h2
  go_enter Tryd.func19, Tryd.ntmps19
  go_wp2
  go_loopw [5] (fun i wr => ∃ k : Nat, k ≤ xs.length ∧ i = .int .i64 k ∧ Below w.heap.size w wr) (fun i _ => xs.length - (intOf i).toNat)
  case atStart => exact ⟨0, Nat.zero_le _, rfl, Below.refl _ _⟩
  case round =>
    obtain ⟨k, hk, rfl, hbel⟩ := hrel
    have hbz := hbel.size
    by_cases hlt : k < xs.length
    · obtain ⟨g1, o1, c1', p, hv1, hp, hg1, r0, r1⟩ := (H1.out.below hbel).get hlt
      obtain ⟨g2, o2, c2', p', hv2, hp', hg2, t0, t1⟩ := (H2.out.below hbel).get hlt
      have hpp : p' = p := by have := hp.symm.trans hp'; simpa using this.symm
      subst hpp
      simp only [Value.slice.injEq, true_and] at hv1 hv2
      obtain ⟨rfl, rfl⟩ := hv1
      obtain ⟨rfl, rfl⟩ := hv2
      clear hp hp'
      have i0 : (0 : Int) ≤ (k : Int) := Int.natCast_nonneg _
      have i1 : (k : Int) < (xs.length : Int) := by omega
      go_wp2
      go_region_held3 (fun w' => w'.cell? ⟨g1, o1 + k * 2, none⟩ = some (.int .i64 p'.1) ∧ w'.cell? ⟨g1, o1 + k * 2 + 1, none⟩ = some (.int .i64 p'.2) ∧
          w'.cell? ⟨g2, o2 + k * 2, none⟩ = some (.int .i64 p'.1) ∧ w'.cell? ⟨g2, o2 + k * 2 + 1, none⟩ = some (.int .i64 p'.2) ∧ w.heap.size ≤ w'.heap.size ∧ wr.heap.size ≤ w'.heap.size ∧ Below w.heap.size w w' ∧ Below wr.heap.size wr w')
        (first | (simp (disch := first | omega | (simp; done) | (simp; omega)) [go_sem, *]; done) | ((repeat' first | (with_reducible exact Below.refl _ _) | (with_reducible assumption) | (with_reducible refine below_drewN ?_ _) | (with_reducible refine Below.drew ?_) | (with_reducible refine Below.alloc ?_ ?_ _) | (with_reducible refine Below.setCell ?_ ?_ _) | (with_reducible refine Below.trans ?_ (Below.mono (by assumption) ?_)) | first | omega | (simp only [World.size_alloc, World.size_setCell, World.size_drew, size_drewN]; omega) | (simp; done) | (simp; omega) | (simp only [World.size_alloc, World.size_setCell, World.size_drew, size_drewN] at *; omega) | (simp at *; omega)); done) | ((try go_split_ands); (refine ⟨?_, ?_, ?_, ?_, ?_, ?_, ?_, ?_⟩ <;> first | omega | (simp only [World.size_alloc, World.size_setCell, World.size_drew, size_drewN]; omega) | (simp (disch := first | omega | (simp; done) | (simp; omega)) [go_sem, *]; done) | ((repeat' first | (with_reducible exact Below.refl _ _) | (with_reducible assumption) | (with_reducible refine below_drewN ?_ _) | (with_reducible refine Below.drew ?_) | (with_reducible refine Below.alloc ?_ ?_ _) | (with_reducible refine Below.setCell ?_ ?_ _) | (with_reducible refine Below.trans ?_ (Below.mono (by assumption) ?_)) | first | omega | (simp only [World.size_alloc, World.size_setCell, World.size_drew, size_drewN]; omega) | (simp; done) | (simp; omega) | (simp only [World.size_alloc, World.size_setCell, World.size_drew, size_drewN] at *; omega) | (simp at *; omega)); done))))
        (first | (go_at_call 38; refine (eqTm_same _ _ _).mono ?_; rintro e w5 ⟨rfl, hb5⟩; obtain ⟨hc5, hf5⟩ := bcell hb5; have hz5 := hb5.size; (try simp only [World.size_alloc, World.size_setCell, World.size_drew, size_drewN] at hz5 hc5 hf5)))
      have hB5 : Below w.heap.size w w5 := by (repeat' first | (with_reducible exact Below.refl _ _) | (with_reducible assumption) | (with_reducible refine below_drewN ?_ _) | (with_reducible refine Below.drew ?_) | (with_reducible refine Below.alloc ?_ ?_ _) | (with_reducible refine Below.setCell ?_ ?_ _) | (with_reducible refine Below.trans ?_ (Below.mono (by assumption) ?_)) | first | omega | (simp only [World.size_alloc, World.size_setCell, World.size_drew, size_drewN]; omega) | (simp; done) | (simp; omega) | (simp only [World.size_alloc, World.size_setCell, World.size_drew, size_drewN] at *; omega) | (simp at *; omega))
      clear hbel hb5 r0 r1 t0 t1 hc5 hf5
      go_wp2
      go_roundw
      case rel => exact ⟨k + 1, by omega, by go_num, hB5⟩
      case measure => simp [intOf]; omega
    · obtain rfl : k = xs.length := by omega
      go_wp2
      go_ret
      exact ⟨rfl, hbel⟩
/-- The n cells of block g bear the numbers from q on. -/
def Marked (w : World) (g n : Nat) (q : Int) : Prop := ∀ i, i < n → w.cell? ⟨g, i, none⟩ = some (.int .i64 (q + (i : Int)))
theorem mark_step {w wr : World} {g n k : Nat} (hk : k < n) (hm : Marked wr g (k * 2) 1) (hc : ∀ i, i < n * 2 → ∃ v, wr.cell? ⟨g, i, none⟩ = some v) (hf : ∀ i, wr.frozen? ⟨g, i, none⟩ = false) (hg : w.grownBy wr (some g)) :
    let w' := (wr.setCell ⟨g, k * 2, none⟩ (.int .i64 (1 + 2 * (k : Int)))).setCell ⟨g, k * 2 + 1, none⟩ (.int .i64 (1 + 2 * (k : Int) + 1))
    Marked w' g ((k + 1) * 2) 1 ∧ (∀ i, i < n * 2 → ∃ v, w'.cell? ⟨g, i, none⟩ = some v) ∧ (∀ i, w'.frozen? ⟨g, i, none⟩ = false) ∧ w.grownBy w' (some g) := by
  intro w'
  obtain ⟨x0, e0⟩ := hc (k * 2) (by omega)
  obtain ⟨x1, e1⟩ := hc (k * 2 + 1) (by omega)
  have key : ∀ i, w'.cell? ⟨g, i, none⟩ = if i = k * 2 + 1 then some (.int .i64 (1 + 2 * (k : Int) + 1)) else if i = k * 2 then some (.int .i64 (1 + 2 * (k : Int))) else wr.cell? ⟨g, i, none⟩ := by
    intro i
    by_cases b : i = k * 2 + 1
    · subst b; simp [w', cell_set, e1]
    · rw [if_neg b]
      by_cases d : i = k * 2
      · subst d; simp [w', cell_set, e0]
      · rw [if_neg d]
        have b' : ¬ k * 2 + 1 = i := fun e => b e.symm
        have d' : ¬ k * 2 = i := fun e => d e.symm
        simp [w', cell_set, b', d']
  refine ⟨fun i hi => ?_, fun i hi => ?_, fun i => ?_, ⟨hg.os, hg.tape, hg.output, ?_, fun j hj hne => ?_⟩⟩
  · rw [key i]
    split
    · rename_i h; subst h; congr 2; omega
    split
    · rename_i h; subst h; congr 2; omega
    · exact hm i (by omega)
  · rw [key i]
    split
    · exact ⟨_, rfl⟩
    split
    · exact ⟨_, rfl⟩
    · exact hc i hi
  · simp only [w', World.frozen?_setCell]; exact hf i
  · simp only [w', World.size_setCell]; exact hg.size
  · have hne' : j ≠ g := by simpa using hne
    simp only [w']
    rw [Below.heap_setCell _ _ _ _ hne', Below.heap_setCell _ _ _ _ hne']
    exact hg.block j hj hne
set_option maxHeartbeats 400000 in
theorem mark_nil (q : Int) (w : World) :
    Calls Tryd.prog 22 #[.slice none 0 0, .int .i64 q] w fun e w' => e = .returned (.int .i64 q) ∧ w = w' := by
  go_enter Tryd.func22, Tryd.ntmps22
  go_wp2
  refine wp_loop_rounds 1 ?_
  rw [rounds_succ]
  go_wp2
  go_ret
  exact ⟨rfl, rfl⟩
set_option maxHeartbeats 800000 in
theorem mark_some (g c n : Nat) (w : World) (hn : n ≤ 2000000) (hc : ∀ i, i < n * 2 → ∃ v, w.cell? ⟨g, i, none⟩ = some v) (hf : ∀ i, w.frozen? ⟨g, i, none⟩ = false) :
    Calls Tryd.prog 22 #[.slice (some ⟨g, 0, none⟩) n c, .int .i64 1] w fun e w' => e = .returned (.int .i64 (1 + 2 * (n : Int))) ∧ Marked w' g (n * 2) 1 ∧ w.grownBy w' (some g) := by
  have HC := Lib.hid hc
  have HF := Lib.hid hf
  clear hc hf
  go_enter Tryd.func22, Tryd.ntmps22
  go_wp2
  go_loopw [1, 5] (fun q i wr => ∃ k : Nat, k ≤ n ∧ i = .int .i64 k ∧ q = .int .i64 (1 + 2 * (k : Int)) ∧ Marked wr g (k * 2) 1 ∧ (∀ i, i < n * 2 → ∃ v, wr.cell? ⟨g, i, none⟩ = some v) ∧ (∀ i, wr.frozen? ⟨g, i, none⟩ = false) ∧ w.grownBy wr (some g)) (fun _ i _ => n - (intOf i).toNat)
  case atStart => exact ⟨0, Nat.zero_le _, rfl, rfl, fun i hi => by omega, HC.out, HF.out, ⟨rfl, rfl, rfl, Nat.le_refl _, fun _ _ _ => rfl⟩⟩
  case round =>
    obtain ⟨k, hk, rfl, rfl, hm, hcell, hfree, hgrow⟩ := hrel
    by_cases hlt : k < n
    · obtain ⟨x0, e0⟩ := hcell (k * 2) (by omega)
      obtain ⟨x1, e1⟩ := hcell (k * 2 + 1) (by omega)
      have f0 := hfree (k * 2)
      have f1 := hfree (k * 2 + 1)
      have R := Lib.hid (mark_step hlt hm hcell hfree hgrow)
      clear hm hcell hfree hgrow
      have i0 : (0 : Int) ≤ (k : Int) := Int.natCast_nonneg _
      have i1 : (k : Int) < (n : Int) := by omega
      go_wp2
      have R' := R.out
      exact ⟨⟨k + 1, by omega, by go_num, by go_num, R'.1, R'.2.1, R'.2.2.1, R'.2.2.2⟩, by simp [intOf]; omega⟩
    · obtain rfl : k = n := by omega
      go_wp2
      go_ret
      exact ⟨rfl, hm, hgrow⟩
/-- v is a row of n terms whose numbers were written over, in memory from base on. -/
def Heldr (w : World) (base : Nat) (v : Value) (n : Nat) : Prop := (v = .slice none 0 0 ∧ n = 0) ∨ ∃ g c, v = .slice (some ⟨g, 0, none⟩) n c ∧ base ≤ g ∧ g < w.heap.size ∧ Marked w g (n * 2) 1
theorem Heldr.below {w w' : World} {base n : Nat} {v : Value} (h : Heldr w base v n) (hb : Below w.heap.size w w') : Heldr w' base v n := by
  rcases h with h | ⟨g, c, rfl, h1, h2, h3⟩
  · exact .inl h
  · exact .inr ⟨g, c, rfl, h1, Nat.lt_of_lt_of_le h2 hb.size, fun i hi => (hb.cell (p := ⟨g, i, none⟩) h2).trans (h3 i hi)⟩
theorem RowL.cells {w : World} {base g c : Nat} {xs : List Tm} (h : RowL w base (.slice (some ⟨g, 0, none⟩) xs.length c) xs) : base ≤ g ∧ g < w.heap.size ∧ (∀ i, i < xs.length * 2 → ∃ v, w.cell? ⟨g, i, none⟩ = some v) ∧ ∀ i, w.frozen? ⟨g, i, none⟩ = false := by
  obtain ⟨g', c', e, h1, h2, h3, h4⟩ := h
  simp only [Value.slice.injEq, Option.some.injEq, Addr.mk.injEq, and_true, true_and] at e
  obtain ⟨rfl, -⟩ := e
  refine ⟨h1, h2, fun i hi => ?_, h4⟩
  obtain ⟨p, hp⟩ : ∃ p, xs[i / 2]? = some p := ⟨_, List.getElem?_eq_getElem (by omega)⟩
  obtain ⟨a, b⟩ := h3 (i / 2) p hp
  rcases Nat.mod_two_eq_zero_or_one i with e | e
  · exact ⟨_, by rw [show i = i / 2 * 2 by omega]; exact a⟩
  · exact ⟨_, by rw [show i = i / 2 * 2 + 1 by omega]; exact b⟩
/-- Marking a row that the call made: memory below base is as it was. -/
theorem mark_any (v : Value) (base : Nat) (xs : List Tm) (w : World) (hs : xs.length ≤ 2000000) (h : RowR w base v xs) :
    Calls Tryd.prog 22 #[v, .int .i64 1] w fun e w' => e = .returned (.int .i64 (1 + 2 * (xs.length : Int))) ∧ Heldr w' base v xs.length ∧ w.heap.size ≤ w'.heap.size ∧ (∀ B, B ≤ base → B ≤ w.heap.size → Below B w w') ∧ ∃ g, w.grownBy w' (some g) ∧ (v.ownBlock = some g ∨ w = w') := by
  rcases h with ⟨rfl, rfl⟩ | h
  · refine (mark_nil 1 w).mono ?_
    rintro e w' ⟨rfl, rfl⟩
    exact ⟨rfl, .inl ⟨rfl, rfl⟩, Nat.le_refl _, fun B _ _ => Below.refl _ _, 0, ⟨rfl, rfl, rfl, Nat.le_refl _, fun _ _ _ => rfl⟩, .inr rfl⟩
  · obtain ⟨g, c, rfl, -⟩ := id h
    obtain ⟨h1, h2, h3, h4⟩ := h.cells
    refine (mark_some g c xs.length w hs h3 h4).mono ?_
    rintro e w' ⟨rfl, hm, hg⟩
    exact ⟨rfl, .inr ⟨g, c, rfl, h1, Nat.lt_of_lt_of_le h2 hg.size, hm⟩, hg.size, fun B hB hB2 => Below.grown (Below.refl _ _) hg hB2 (fun k hk => by cases hk; omega), g, hg, .inl rfl⟩
set_option maxHeartbeats 400000 in
theorem held_nil (q : Int) (w : World) :
    Calls Tryd.prog 23 #[.slice none 0 0, .int .i64 q] w fun e w' => e = .returned (.int .i64 q) ∧ w = w' := by
  go_enter Tryd.func23, Tryd.ntmps23
  go_wp2
  refine wp_loop_rounds 1 ?_
  rw [rounds_succ]
  go_wp2
  go_ret
  exact ⟨rfl, rfl⟩
set_option maxHeartbeats 800000 in
theorem held_some (g c n : Nat) (w : World) (hn : n ≤ 2000000) (hm : Marked w g (n * 2) 1) :
    Calls Tryd.prog 23 #[.slice (some ⟨g, 0, none⟩) n c, .int .i64 1] w fun e w' => e = .returned (.int .i64 (1 + 2 * (n : Int))) ∧ w = w' := by
  have HM := Lib.hid hm
  clear hm
  go_enter Tryd.func23, Tryd.ntmps23
  go_wp2
  go_loop [1, 5] (fun q i => ∃ k : Nat, k ≤ n ∧ i = .int .i64 k ∧ q = .int .i64 (1 + 2 * (k : Int))) (fun _ i => n - (intOf i).toNat)
  case atStart => exact ⟨0, Nat.zero_le _, rfl, rfl⟩
  case round =>
    obtain ⟨k, hk, rfl, rfl⟩ := hrel
    by_cases hlt : k < n
    · have e0 : w.cell? ⟨g, k * 2, none⟩ = some (.int .i64 (1 + 2 * (k : Int))) := by rw [HM.out (k * 2) (by omega)]; congr 2; omega
      have e1 : w.cell? ⟨g, k * 2 + 1, none⟩ = some (.int .i64 (1 + 2 * (k : Int) + 1)) := by rw [HM.out (k * 2 + 1) (by omega)]; congr 2; omega
      have i0 : (0 : Int) ≤ (k : Int) := Int.natCast_nonneg _
      have i1 : (k : Int) < (n : Int) := by omega
      go_wp2
      go_round
      case rel => exact ⟨k + 1, by omega, by go_num, by go_num⟩
      case measure => simp [intOf]; omega
    · obtain rfl : k = n := by omega
      go_wp2
      go_ret
      exact ⟨rfl, rfl⟩
theorem held_any (v : Value) (base n : Nat) (w : World) (hs : n ≤ 2000000) (h : Heldr w base v n) :
    Calls Tryd.prog 23 #[v, .int .i64 1] w fun e w' => e = .returned (.int .i64 (1 + 2 * (n : Int))) ∧ Below w.heap.size w w' := by
  rcases h with ⟨rfl, rfl⟩ | ⟨g, c, rfl, h1, h2, h3⟩
  · refine (held_nil 1 w).mono ?_
    rintro e w' ⟨rfl, rfl⟩
    exact ⟨rfl, Below.refl _ _⟩
  · refine (held_some g c n w hs h3).mono ?_
    rintro e w' ⟨rfl, rfl⟩
    exact ⟨rfl, Below.refl _ _⟩
end Go.Proofs.YtjopcpoodhamcaaDoor

/-
  Rows of terms in memory with bounds on where they lie. Conditions: none.
-/
namespace Go.Proofs.YtjopcpoodhamcaaDoor
set_option linter.unusedSimpArgs false
set_option linter.unusedVariables false
open Go.RowKit

/-- v is a row of the terms xs that lies between lo and hi. -/
def RowB (w : World) (lo hi : Nat) (v : Value) (xs : List Tm) : Prop :=
  (v = .slice none 0 0 ∧ xs = []) ∨ ∃ g c, v = .slice (some ⟨g, 0, none⟩) xs.length c ∧ lo ≤ g ∧ g < hi ∧ hi ≤ w.heap.size ∧ TmAt w g xs ∧ ∀ i, w.frozen? ⟨g, i, none⟩ = false
theorem RowR.bnd {w : World} {base : Nat} {v : Value} {xs : List Tm} (h : RowR w base v xs) : RowB w base w.heap.size v xs := by
  rcases h with h | ⟨g, c, e, h1, h2, h3, h4⟩
  · exact .inl h
  · exact .inr ⟨g, c, e, h1, h2, Nat.le_refl _, h3, h4⟩
theorem RowL.bnd {w : World} {base : Nat} {v : Value} {xs : List Tm} (h : RowL w base v xs) : RowB w base w.heap.size v xs := RowR.bnd (.inr h)
theorem RowB.row {w : World} {lo hi : Nat} {v : Value} {xs : List Tm} (h : RowB w lo hi v xs) : RowR w lo v xs := by
  rcases h with h | ⟨g, c, e, h1, h2, h3, h4, h5⟩
  · exact .inl h
  · exact .inr ⟨g, c, e, h1, by omega, h4, h5⟩
theorem RowB.inp {w : World} {lo hi : Nat} {v : Value} {xs : List Tm} (h : RowB w lo hi v xs) : RowI w v xs := h.row.inp
theorem RowB.below {w w' : World} {lo hi : Nat} {v : Value} {xs : List Tm} (h : RowB w lo hi v xs) (hb : Below w.heap.size w w') : RowB w' lo hi v xs := by
  rcases h with h | ⟨g, c, e, h1, h2, h3, h4, h5⟩
  · exact .inl h
  · exact .inr ⟨g, c, e, h1, h2, Nat.le_trans h3 hb.size, h4.below hb (by omega), fun i => (hb.frozen (p := ⟨g, i, none⟩) (by show g < _; omega)).trans (h5 i)⟩
/-- Another row is marked. -/
theorem RowB.mark {w w' : World} {lo hi lo2 hi2 g : Nat} {v v2 : Value} {xs ys : List Tm} (y : RowB w lo2 hi2 v2 ys) (x : RowB w lo hi v xs) (hd : hi ≤ lo2 ∨ hi2 ≤ lo) (hg : w.grownBy w' (some g)) (ho : v.ownBlock = some g ∨ w = w') : RowB w' lo2 hi2 v2 ys := by
  rcases ho with ho | rfl
  · rcases x with ⟨rfl, -⟩ | ⟨gx, c, rfl, h1, h2, h3, h4, h5⟩
    · simp [Value.ownBlock] at ho
    · simp [Value.ownBlock] at ho
      subst ho
      rcases y with h | ⟨gy, c', e, k1, k2, k3, k4, k5⟩
      · exact .inl h
      · have hne : gy ≠ gx := by omega
        have hlt : gy < w.heap.size := by omega
        refine .inr ⟨gy, c', e, k1, k2, Nat.le_trans k3 hg.size, fun k p hp => ?_, fun i => ?_⟩
        · obtain ⟨a, b⟩ := k4 k p hp
          exact ⟨(World.cell?_of_block (hg.block gy hlt (by simpa using hne))).trans a, (World.cell?_of_block (hg.block gy hlt (by simpa using hne))).trans b⟩
        · exact (World.frozen?_of_block (hg.block gy hlt (by simpa using hne))).trans (k5 i)
  · exact y
end Go.Proofs.YtjopcpoodhamcaaDoor

/-
  The opening of arguments that are lists of structs of integers. Conditions: none.
-/
namespace Go.Proofs.YtjopcpoodhamcaaDoor
set_option linter.unusedSimpArgs false
set_option linter.unusedVariables false
open Go.ChangeShapes Go.WideShapes Go.ChangeAt Go.RowKit Go.Joins

theorem argT_of {H : Type} {enc : TypeId × Value → H} {P : Program} {w : World} {spare : Nat → Bool} {held : Bool} {base : Nat} {t e i : TypeId} {f0 f1 : Field} {a : Option Addr} {len cap : Nat} {d : DataW H} {p : List MemPlace}
    (ht : P.underlying t = some (.slice e)) (hs : P.underlying e = some (.struct #[f0, f1])) (hC : P.cellsOf e = 2) (hI : P.underlying i = some (.int .i64)) (hc : P.cellsOf i = 1)
    (e0 : f0.type = i) (o0 : f0.offset = 0) (e1 : f1.type = i) (o1 : f1.offset = 1) (h : DataW.Trod enc P w base spare held t (.slice a len cap) d p) : ∃ xs, ArgT w a len xs ∧ len ≤ maxLen := by
  obtain ⟨fuel, hf⟩ := h
  rcases DataW.trod_slice ht (by simpa [Value.cells] using hf) with ⟨hcs, -⟩ | ⟨x, l, c, elems, rest, n, -, hcs, -, -, hl, hm, hlen, hel, -⟩
  · simp at hcs
    obtain ⟨rfl, rfl, rfl⟩ := hcs
    exact ⟨[], ⟨rfl, fun h => by cases h⟩, by simp [maxLen]⟩
  · simp at hcs
    obtain ⟨rfl, rfl, rfl⟩ := hcs
    have each : ∀ i, i < len → ∃ q : Tm, w.cell? (x.add (i * 2)) = some (.int .i64 q.1) ∧ w.cell? ((x.add (i * 2)).add 1) = some (.int .i64 q.2) := fun i hi => by
      have h1 := hel i hi
      rw [hC] at h1
      have hi' : i < elems.length := by omega
      rw [List.getElem?_eq_getElem hi', Option.bind_eq_some_iff] at h1
      obtain ⟨cs, hcs, hd⟩ := h1
      obtain ⟨u, v, rfl, -, -⟩ := cells_pair hs hC hI hc e0 o0 e1 o1 hd
      obtain ⟨-, -, hat⟩ := World.cells?_some hcs
      have k0 := hat 0 (by omega)
      have k1 := hat 1 (by omega)
      exact ⟨(u, v), by simpa [Addr.add] using k0, by simpa using k1⟩
    have each' : ∀ i, ∃ q : Tm, i < len → w.cell? (x.add (i * 2)) = some (.int .i64 q.1) ∧ w.cell? ((x.add (i * 2)).add 1) = some (.int .i64 q.2) := fun i => by
      by_cases hi : i < len
      · obtain ⟨q, hq⟩ := each i hi; exact ⟨q, fun _ => hq⟩
      · exact ⟨(0, 0), fun h => absurd h hi⟩
    obtain ⟨f, hf'⟩ := Classical.axiomOfChoice each'
    refine ⟨(List.range len).map f, ⟨by simp, fun h0 => ?_⟩, by omega⟩
    have hx0 := (hf' 0 h0).1
    have hsp : x.spot = none := by simpa [Addr.add] using World.cell?_spot hx0
    obtain ⟨b, o, sp⟩ := x
    simp only at hsp
    subst hsp
    have hadd : ∀ j, (⟨b, o, none⟩ : Addr).add j = ⟨b, o + j, none⟩ := fun j => by
      unfold Addr.add; split
      · rename_i h; rw [h]; rfl
      · rfl
    have hadd1 : ∀ j, (⟨b, j, none⟩ : Addr).add 1 = ⟨b, j + 1, none⟩ := fun j => by simp [Addr.add]
    refine ⟨b, o, rfl, ?_, fun k q hq => ?_⟩
    · have := World.block_lt_of_cell? w _ hx0
      rw [hadd] at this
      exact this
    · have hk : k < len := by have := (List.getElem?_eq_some_iff.1 hq).1; simpa using this
      have e : q = f k := by simp [hk] at hq; exact hq.symm
      obtain ⟨c0, c1⟩ := hf' k hk
      rw [hadd] at c0
      rw [hadd, hadd1] at c1
      rw [e]
      exact ⟨c0, c1⟩
end Go.Proofs.YtjopcpoodhamcaaDoor
