/-
  The walks of the draws of lists of terms. Conditions: none.
-/
import Derived.Test.YtmcjabfnlpohaaaRead
import Derived.Test.YtmcjabfnlpohaaaDrawT
import Derived.Test.YtmcjabfnlpohaaaSjn
namespace Go.Proofs.Ytmcjabfnlpohaaa
set_option linter.unusedSimpArgs false
set_option linter.unusedVariables false
open Go.RowKit

theorem bytesAt_al {w : World} {a : Option Addr} {len cap : Nat} (h : BytesAt w a len cap) (o : Obj) : BytesAt (w.alloc o) a len cap := by
  refine ⟨h.1, h.2.1, h.2.2.1, fun x e i hi => ?_⟩
  obtain ⟨c, c0, c1, hc⟩ := h.2.2.2 x e i hi
  exact ⟨c, c0, c1, (((Below.refl w.heap.size w).alloc (Nat.le_refl _) o).cell (World.block_lt_of_cell? w _ hc)).trans hc⟩
theorem Rd.deep {w0 w w' : World} {rb : Nat} {a : Option Addr} {len cap : Nat} {p0 p : Int} (h0 : Rd w0 rb a len cap p0) (h : Rd w rb a len cap p) (hb : Below w0.heap.size w w') : Rd w' rb a len cap p := by
  have hl := h0.lt
  refine ⟨(hb.cell (p := ⟨rb, 0, none⟩) hl).trans h.slice, (hb.cell (p := ⟨rb, 1, none⟩) hl).trans h.place, (hb.frozen (p := ⟨rb, 1, none⟩) hl).trans h.free, fun x e i hi => ?_, h.nil, h.short⟩
  obtain ⟨h1, h2, c, d0, d1, hc⟩ := h.bytes x e i hi
  obtain ⟨_, _, c9, _, _, hc0⟩ := h0.bytes x e i hi
  have hbk := World.block_lt_of_cell? w0 _ hc0
  exact ⟨h1, h2, c, d0, d1, (hb.cell hbk).trans hc⟩
theorem row_but {w w' : World} {rb base : Nat} {v : Value} {n : Nat} {xs : List Value} (h : w.ownsRow base 24 2 v n xs) (hg : w.grownBy w' (some rb)) (hr : rb < base) : w'.ownsRow base 24 2 v n xs := by
  refine h.kept hg ?_
  cases hv : v.ownBlock with
  | none => exact .inl rfl
  | some k =>
    have := (h.lt k hv).1
    exact .inr (by simp; omega)
theorem rowL_but {w w' : World} {rb base : Nat} {v : Value} {xs : List Tm} (h : RowL w base v xs) (hg : w.grownBy w' (some rb)) (hr : rb < base) : RowL w' base v xs := by
  obtain ⟨g, c, rfl, h1, h2, h3, h4⟩ := h
  have hne : g ≠ rb := by omega
  obtain ⟨k1, k2⟩ := ncell hg
  exact ⟨g, c, rfl, h1, Nat.lt_of_lt_of_le h2 hg.size, fun k p hp => by obtain ⟨a, b⟩ := h3 k p hp; exact ⟨(k1 _ _ h2 hne).trans a, (k1 _ _ h2 hne).trans b⟩, fun i => (k2 _ _ h2 hne).trans (h4 i)⟩
theorem own_rowL {w : World} {base n : Nat} {v : Value} {xs : List Tm} (h : w.ownsRow base 24 2 v n (vS xs)) (hn : v ≠ .slice none 0 0) : RowL w base v xs := by
  rcases rowR_own (own_len h) with ⟨e, -⟩ | k
  · exact absurd e hn
  · exact k
/-- The length is no more than the capacity. -/
def CapOk (v : Value) : Prop := ∃ a n c, v = .slice a n c ∧ n ≤ c
theorem own_cap {w : World} {base n : Nat} {v : Value} {xs : List Value} (h : w.ownsRow base 24 2 v n xs) : CapOk v := by
  rcases h.2 with ⟨rfl, -⟩ | ⟨g, cap, cur, rfl, hb, hh, hr, -⟩
  · exact ⟨_, _, _, rfl, Nat.le_refl _⟩
  · exact ⟨_, _, _, rfl, hr⟩
theorem emp_own {w : World} {base : Nat} (hb : base ≤ w.heap.size) : (w.alloc (.cells #[] 24)).ownsRow base 24 2 (.slice (some ⟨w.heap.size, 0, none⟩) 0 0) ([] : List Tm).length (vS []) := by
  have := World.ownsRow_made (base := base) (e := 24) (size := 2) w #[] 0 hb (by unfold maxLen; omega) rfl
  have h2 : (w.alloc (.cells #[] 24)).ownsRow base 24 2 (.slice (some ⟨w.heap.size, 0, none⟩) 0 0) 0 [] := by simpa using this
  exact h2
theorem one_row (w : World) (x : Tm) : RowI (w.alloc (.cells #[.int .i64 x.1, .int .i64 x.2] 24)) (.slice (some ⟨w.heap.size, 0, none⟩) 1 1) [x] := .inr ⟨w.heap.size, 0, 1, rfl, by simp, fun j p hp => by
  match j, hp with
  | 0, hp => simp at hp; subst hp; exact ⟨by simp, by simp⟩
  | j + 1, hp => simp at hp⟩
set_option maxHeartbeats 1000000 in
theorem l92Terms_any (rb : Nat) (a : Option Addr) (len cap : Nat) (p : Int) (w : World) (hr : Rd w rb a len cap p) (p0 : 0 ≤ p) (p1 : p ≤ 800000) :
    Calls Try.prog 46 #[.pointer (some ⟨rb, 0, none⟩)] w fun e w' => ∃ (v : Value) (xs : List Tm) (p' : Int), e = .returned v ∧ RowL w' w.heap.size v xs ∧ CapOk v ∧ xs.length ≤ 5 ∧ p ≤ p' ∧ p' ≤ p + 100 ∧ w.grownBy w' (some rb) ∧ Rd w' rb a len cap p' := by
  have hlt := hr.lt
  have HR := Lib.hid hr
  have HE := Lib.hid (emp_own (Nat.le_refl w.heap.size))
  go_enter Try.func46, Try.ntmps46
  go_wp2_with fail
  refine (pick_any rb a len cap p _ _ (hr.alloc _) (by omega) (by omega) (by omega)).mono ?_
  rintro e w1 ⟨x1, rfl, a0, a1, -, hg1, hr1⟩
  have hz1 := hg1.size
  simp only [World.size_alloc] at hz1
  have HO1 := Lib.hid (row_but HE.out hg1 hlt)
  have a1' := a1 (by omega)
  obtain ⟨N, hN⟩ : ∃ N : Nat, x1 = N := Int.eq_ofNat_of_zero_le a0
  subst hN
  have hN5 : N ≤ 5 := by omega
  have hB1 : But w.heap.size rb w w1 := by (repeat' first | (with_reducible exact But.refl _ _ _) | (with_reducible assumption) | (with_reducible refine But.drew ?_) | (with_reducible refine But.alloc ?_ ?_ _) | (with_reducible refine But.setCell ?_ ?_ _) | (with_reducible refine But.grown ?_ (by assumption) ?_) | (with_reducible refine But.below ?_ (by assumption) ?_) | first | omega | (simp only [World.size_alloc, World.size_setCell, World.size_drew, size_drewN]; omega) | (simp; done) | (simp; omega) | (simp only [World.size_alloc, World.size_setCell, World.size_drew, size_drewN] at *; omega) | (simp at *; omega))
  clear a0 a1 a1' hg1
  go_wp2
  go_loopw [3, 5] (fun v ii wr => ∃ (i : Nat) (xs : List Tm) (q : Int), i ≤ N ∧ ii = .int .i64 i ∧ xs.length = i ∧ wr.ownsRow w.heap.size 24 2 v xs.length (vS xs) ∧ v ≠ .slice none 0 0 ∧ But w.heap.size rb w wr ∧ Rd wr rb a len cap q ∧ p ≤ q ∧ q ≤ p + 1 + 10 * (i : Int))
    (fun _ ii _ => N - (intOf ii).toNat)
  case atStart => exact ⟨0, [], p + 1, Nat.zero_le _, by go_num, rfl, HO1.out, by simp, hB1, hr1, by omega, by omega⟩
  case round =>
    obtain ⟨i, xs, q, hi, rfl, hxl, hown, hnn, hbut, hrq, q0, q1⟩ := hrel
    have i0' : (0 : Int) ≤ (i : Int) := Int.natCast_nonneg _
    have hbz := hbut.size
    have HOW := Lib.hid hown
    have HXL := Lib.hid hxl
    have HNN := Lib.hid hnn
    clear hown hxl hnn
    by_cases hlt2 : i < N
    · have i1' : (i : Int) < (N : Int) := by omega
      go_wp2_with fail
      refine (l92Term_any rb a len cap q _ hrq (by omega) (by omega)).mono ?_
      rintro e w2 ⟨s, l, p', rfl, -, -, -, -, hp0, hp1, hg2, hr2⟩
      have hz2 := hg2.size
      have HO2 := Lib.hid (row_but HOW.out hg2 hlt)
      have hB2 : But w.heap.size rb w w2 := by (repeat' first | (with_reducible exact But.refl _ _ _) | (with_reducible assumption) | (with_reducible refine But.drew ?_) | (with_reducible refine But.alloc ?_ ?_ _) | (with_reducible refine But.setCell ?_ ?_ _) | (with_reducible refine But.grown ?_ (by assumption) ?_) | (with_reducible refine But.below ?_ (by assumption) ?_) | first | omega | (simp only [World.size_alloc, World.size_setCell, World.size_drew, size_drewN]; omega) | (simp; done) | (simp; omega) | (simp only [World.size_alloc, World.size_setCell, World.size_drew, size_drewN] at *; omega) | (simp at *; omega))
      clear hg2 hrq
      go_wp2_with (first | (at_builtin; refine wpl_app rfl _ _ rfl w.heap.size _ _ xs [(s, l)] rfl (HO2.out.alloc _) rfl (one_row _ (s, l)) ?c1 ?c2 ?_))
      case c1 => have := HXL.out; simp; omega
      case c2 => first | omega | (simp; omega)
      intro v9 w9 hown9 hgrow9 _ hnil9
      have hz9 := hgrow9.size
      simp only [World.size_alloc] at hz9
      have hB9a : Below w.heap.size w2 w9 := Below.grown ((Below.refl _ _).alloc (by omega) _) hgrow9 (by simp; omega) (fun k hk => (HO2.out.lt k hk).1)
      have HREL := Lib.hid (show (xs ++ [(s, l)]).length = i + 1 ∧ w9.ownsRow w.heap.size 24 2 v9 (xs ++ [(s, l)]).length (vS (xs ++ [(s, l)])) ∧ v9 ≠ .slice none 0 0 ∧ But w.heap.size rb w w9 ∧ Rd w9 rb a len cap p' from
        ⟨by have := HXL.out; simp; omega, own_len hown9, fun e => HNN.out (hnil9 e), hB2.below hB9a (Nat.le_refl _), HR.out.deep hr2 hB9a⟩)
      clear hown9 hgrow9 hnil9 hB9a hr2
      go_wp2
      go_roundw
      case rel => exact ⟨i + 1, xs ++ [(s, l)], p', hlt2, by go_num, HREL.out.1, HREL.out.2.1, HREL.out.2.2.1, HREL.out.2.2.2.1, HREL.out.2.2.2.2, by omega, by omega⟩
      case measure => simp [intOf]; omega
    · obtain rfl : i = N := by omega
      go_wp2
      go_ret
      exact ⟨_, xs, q, rfl, own_rowL HOW.out HNN.out, own_cap HOW.out, by have := HXL.out; omega, by omega, by omega, hbut.isGrown, hrq⟩
set_option maxHeartbeats 1000000 in
theorem dSort_any (a : Option Addr) (len cap : Nat) (w : World) (hb : BytesAt w a len cap) :
    Calls Try.prog 25 #[.slice a len cap] w fun e w' => ∃ (v : Value) (xs : List Tm), e = .returned v ∧ RowL w' w.heap.size v xs ∧ CapOk v ∧ xs.length ≤ 5 ∧ Below w.heap.size w w' := by
  go_enter Try.func25, Try.ntmps25
  go_wp2_with fail
  refine (l6Open_any a len cap _ hb).mono ?_
  rintro e w1 ⟨rb, m, c, rfl, hr, hrb, hb1⟩
  have hz1 := hb1.size
  go_wp2_with fail
  refine (l92Terms_any rb a m c 0 _ hr (by omega) (by omega)).mono ?_
  rintro e w2 ⟨v, xs, p', rfl, hrow, hcap, hl, -, -, hg2, -⟩
  have hB : Below w.heap.size w w2 := ((show But w.heap.size rb w w2 by (repeat' first | (with_reducible exact But.refl _ _ _) | (with_reducible assumption) | (with_reducible refine But.drew ?_) | (with_reducible refine But.alloc ?_ ?_ _) | (with_reducible refine But.setCell ?_ ?_ _) | (with_reducible refine But.grown ?_ (by assumption) ?_) | (with_reducible refine But.below ?_ (by assumption) ?_) | first | omega | (simp only [World.size_alloc, World.size_setCell, World.size_drew, size_drewN]; omega) | (simp; done) | (simp; omega) | (simp only [World.size_alloc, World.size_setCell, World.size_drew, size_drewN] at *; omega) | (simp at *; omega)))).out (by omega)
  go_wp2
  go_ret
  exact ⟨v, xs, rfl, RowL.mono hrow (by omega), hcap, hl, hB⟩
set_option maxHeartbeats 1000000 in
theorem l92Few_any (rb : Nat) (a : Option Addr) (len cap : Nat) (p : Int) (w : World) (hr : Rd w rb a len cap p) (p0 : 0 ≤ p) (p1 : p ≤ 800000) :
    Calls Try.prog 50 #[.pointer (some ⟨rb, 0, none⟩)] w fun e w' => ∃ (v : Value) (xs : List Tm) (p' : Int), e = .returned v ∧ RowL w' w.heap.size v xs ∧ CapOk v ∧ xs.length ≤ 5 ∧ p ≤ p' ∧ p' ≤ p + 100 ∧ w.grownBy w' (some rb) ∧ Rd w' rb a len cap p' := by
  have hlt := hr.lt
  have HR := Lib.hid hr
  have HE := Lib.hid (emp_own (Nat.le_refl w.heap.size))
  go_enter Try.func50, Try.ntmps50
  go_wp2_with fail
  refine (pick_any rb a len cap p _ _ (hr.alloc _) (by omega) (by omega) (by omega)).mono ?_
  rintro e w1 ⟨x1, rfl, a0, a1, -, hg1, hr1⟩
  have hz1 := hg1.size
  simp only [World.size_alloc] at hz1
  have HO1 := Lib.hid (row_but HE.out hg1 hlt)
  have a1' := a1 (by omega)
  obtain ⟨N, hN⟩ : ∃ N : Nat, x1 = N := Int.eq_ofNat_of_zero_le a0
  subst hN
  have hN5 : N ≤ 3 := by omega
  have hB1 : But w.heap.size rb w w1 := by (repeat' first | (with_reducible exact But.refl _ _ _) | (with_reducible assumption) | (with_reducible refine But.drew ?_) | (with_reducible refine But.alloc ?_ ?_ _) | (with_reducible refine But.setCell ?_ ?_ _) | (with_reducible refine But.grown ?_ (by assumption) ?_) | (with_reducible refine But.below ?_ (by assumption) ?_) | first | omega | (simp only [World.size_alloc, World.size_setCell, World.size_drew, size_drewN]; omega) | (simp; done) | (simp; omega) | (simp only [World.size_alloc, World.size_setCell, World.size_drew, size_drewN] at *; omega) | (simp at *; omega))
  clear a0 a1 a1' hg1
  go_wp2
  go_loopw [3, 5] (fun v ii wr => ∃ (i : Nat) (xs : List Tm) (q : Int), i ≤ N ∧ ii = .int .i64 i ∧ xs.length = i ∧ wr.ownsRow w.heap.size 24 2 v xs.length (vS xs) ∧ v ≠ .slice none 0 0 ∧ But w.heap.size rb w wr ∧ Rd wr rb a len cap q ∧ p ≤ q ∧ q ≤ p + 1 + 10 * (i : Int))
    (fun _ ii _ => N - (intOf ii).toNat)
  case atStart => exact ⟨0, [], p + 1, Nat.zero_le _, by go_num, rfl, HO1.out, by simp, hB1, hr1, by omega, by omega⟩
  case round =>
    obtain ⟨i, xs, q, hi, rfl, hxl, hown, hnn, hbut, hrq, q0, q1⟩ := hrel
    have i0' : (0 : Int) ≤ (i : Int) := Int.natCast_nonneg _
    have hbz := hbut.size
    have HOW := Lib.hid hown
    have HXL := Lib.hid hxl
    have HNN := Lib.hid hnn
    clear hown hxl hnn
    by_cases hlt2 : i < N
    · have i1' : (i : Int) < (N : Int) := by omega
      go_wp2_with fail
      refine (pick_any rb a len cap q _ _ hrq (by omega) (by omega) (by omega)).mono ?_
      rintro e w2 ⟨s, rfl, -, -, -, hg2, hr2⟩
      have hz2 := hg2.size
      have HO2 := Lib.hid (row_but HOW.out hg2 hlt)
      have hB2 : But w.heap.size rb w w2 := by (repeat' first | (with_reducible exact But.refl _ _ _) | (with_reducible assumption) | (with_reducible refine But.drew ?_) | (with_reducible refine But.alloc ?_ ?_ _) | (with_reducible refine But.setCell ?_ ?_ _) | (with_reducible refine But.grown ?_ (by assumption) ?_) | (with_reducible refine But.below ?_ (by assumption) ?_) | first | omega | (simp only [World.size_alloc, World.size_setCell, World.size_drew, size_drewN]; omega) | (simp; done) | (simp; omega) | (simp only [World.size_alloc, World.size_setCell, World.size_drew, size_drewN] at *; omega) | (simp at *; omega))
      clear hg2 hrq
      go_wp2_with fail
      refine (pick_any rb a len cap (q + 1) _ _ hr2 (by omega) (by omega) (by omega)).mono ?_
      rintro e w3 ⟨l, rfl, -, -, -, hg3, hr3⟩
      have hz3 := hg3.size
      have HO3 := Lib.hid (row_but HO2.out hg3 hlt)
      have hB3 : But w.heap.size rb w w3 := by (repeat' first | (with_reducible exact But.refl _ _ _) | (with_reducible assumption) | (with_reducible refine But.drew ?_) | (with_reducible refine But.alloc ?_ ?_ _) | (with_reducible refine But.setCell ?_ ?_ _) | (with_reducible refine But.grown ?_ (by assumption) ?_) | (with_reducible refine But.below ?_ (by assumption) ?_) | first | omega | (simp only [World.size_alloc, World.size_setCell, World.size_drew, size_drewN]; omega) | (simp; done) | (simp; omega) | (simp only [World.size_alloc, World.size_setCell, World.size_drew, size_drewN] at *; omega) | (simp at *; omega))
      clear hg3 hr2 hB2
      go_wp2_with (first | (at_builtin; refine wpl_app rfl _ _ rfl w.heap.size _ _ xs [(s, l)] rfl (HO3.out.alloc _) rfl (one_row _ (s, l)) ?c1 ?c2 ?_))
      case c1 => have := HXL.out; simp; omega
      case c2 => first | omega | (simp; omega)
      intro v9 w9 hown9 hgrow9 _ hnil9
      have hz9 := hgrow9.size
      simp only [World.size_alloc] at hz9
      have hB9a : Below w.heap.size w3 w9 := Below.grown ((Below.refl _ _).alloc (by omega) _) hgrow9 (by simp; omega) (fun k hk => (HO3.out.lt k hk).1)
      have HREL := Lib.hid (show (xs ++ [(s, l)]).length = i + 1 ∧ w9.ownsRow w.heap.size 24 2 v9 (xs ++ [(s, l)]).length (vS (xs ++ [(s, l)])) ∧ v9 ≠ .slice none 0 0 ∧ But w.heap.size rb w w9 ∧ Rd w9 rb a len cap (q + 1 + 1) from
        ⟨by have := HXL.out; simp; omega, own_len hown9, fun e => HNN.out (hnil9 e), hB3.below hB9a (Nat.le_refl _), HR.out.deep hr3 hB9a⟩)
      clear hown9 hgrow9 hnil9 hB9a hr3
      go_wp2
      go_roundw
      case rel => exact ⟨i + 1, xs ++ [(s, l)], q + 1 + 1, hlt2, by go_num, HREL.out.1, HREL.out.2.1, HREL.out.2.2.1, HREL.out.2.2.2.1, HREL.out.2.2.2.2, by omega, by omega⟩
      case measure => simp [intOf]; omega
    · obtain rfl : i = N := by omega
      go_wp2_with fail
      refine (pick_any rb a len cap q _ _ hrq (by omega) (by omega) (by omega)).mono ?_
      rintro e w2 ⟨y, rfl, -, -, -, hg2, hr2⟩
      have hz2 := hg2.size
      have HO2 := Lib.hid (row_but HOW.out hg2 hlt)
      have hB2 : But w.heap.size rb w w2 := by (repeat' first | (with_reducible exact But.refl _ _ _) | (with_reducible assumption) | (with_reducible refine But.drew ?_) | (with_reducible refine But.alloc ?_ ?_ _) | (with_reducible refine But.setCell ?_ ?_ _) | (with_reducible refine But.grown ?_ (by assumption) ?_) | (with_reducible refine But.below ?_ (by assumption) ?_) | first | omega | (simp only [World.size_alloc, World.size_setCell, World.size_drew, size_drewN]; omega) | (simp; done) | (simp; omega) | (simp only [World.size_alloc, World.size_setCell, World.size_drew, size_drewN] at *; omega) | (simp at *; omega))
      clear hg2 hrq
      by_cases hy : y = 0
      · have y1 : (y == 0) = true := by rw [beq_iff_eq]; exact hy
        have y2 : decide (y = 0) = true := by simp [hy]
        clear hy
        go_wp2_with (first | (at_builtin; refine wpl_app rfl _ _ rfl w.heap.size _ _ xs [(8, 8)] rfl (HO2.out.alloc _) rfl (one_row _ (8, 8)) ?c1 ?c2 ?_))
        case c1 => have := HXL.out; simp; omega
        case c2 => first | omega | (simp; omega)
        intro v9 w9 hown9 hgrow9 _ hnil9
        have hz9 := hgrow9.size
        simp only [World.size_alloc] at hz9
        have hB9a : Below w.heap.size w2 w9 := Below.grown ((Below.refl _ _).alloc (by omega) _) hgrow9 (by simp; omega) (fun k hk => (HO2.out.lt k hk).1)
        have HREL := Lib.hid (show (xs ++ [(8, 8)]).length = i + 1 ∧ (RowL w9 w.heap.size v9 (xs ++ [(8, 8)]) ∧ CapOk v9) ∧ But w.heap.size rb w w9 ∧ Rd w9 rb a len cap (q + 1) from
          ⟨by have := HXL.out; simp; omega, ⟨own_rowL (own_len hown9) (fun e => HNN.out (hnil9 e)), own_cap hown9⟩, hB2.below hB9a (Nat.le_refl _), HR.out.deep hr2 hB9a⟩)
        clear hown9 hgrow9 hnil9 hB9a hr2
        go_wp2
        go_ret
        exact ⟨_, xs ++ [(8, 8)], q + 1, rfl, HREL.out.2.1.1, HREL.out.2.1.2, by have := HREL.out.1; omega, by omega, by omega, HREL.out.2.2.1.isGrown, HREL.out.2.2.2⟩
      · have y1 : (y == 0) = false := by rw [beq_eq_false_iff_ne]; exact hy
        have y2 : decide (y = 0) = false := by simp [hy]
        clear hy
        go_wp2
        go_ret
        exact ⟨_, xs, q + 1, rfl, own_rowL HO2.out HNN.out, own_cap HO2.out, by have := HXL.out; omega, by omega, by omega, hB2.isGrown, hr2⟩
set_option maxHeartbeats 1000000 in
theorem dJoin_any (a : Option Addr) (len cap : Nat) (w : World) (hb : BytesAt w a len cap) :
    Calls Try.prog 33 #[.slice a len cap] w fun e w' => ∃ (v1 v2 : Value) (xs ys : List Tm), e = .returned (.tuple #[v1, v2]) ∧ RowL w' w.heap.size v1 xs ∧ CapOk v1 ∧ RowL w' w.heap.size v2 ys ∧ CapOk v2 ∧ xs.length ≤ 5 ∧ ys.length ≤ 5 ∧ Below w.heap.size w w' := by
  go_enter Try.func33, Try.ntmps33
  go_wp2_with fail
  refine (l6Open_any a len cap _ hb).mono ?_
  rintro e w1 ⟨rb, m, c, rfl, hr, hrb, hb1⟩
  have hz1 := hb1.size
  have hlt := hr.lt
  go_wp2_with fail
  refine (l92Few_any rb a m c 0 _ hr (by omega) (by omega)).mono ?_
  rintro e w2 ⟨v, xs, p', rfl, hrow, hcap, hl, hp0, hp1, hg2, hr2⟩
  have hz2 := hg2.size
  have HRW := Lib.hid hrow
  clear hrow
  go_wp2_with fail
  refine (l92Few_any rb a m c p' _ hr2 (by omega) (by omega)).mono ?_
  rintro e w3 ⟨v3, ys, p3, rfl, hrow3, hcap3, hl3, -, -, hg3, -⟩
  have hB : Below w.heap.size w w3 := ((show But w.heap.size rb w w3 by (repeat' first | (with_reducible exact But.refl _ _ _) | (with_reducible assumption) | (with_reducible refine But.drew ?_) | (with_reducible refine But.alloc ?_ ?_ _) | (with_reducible refine But.setCell ?_ ?_ _) | (with_reducible refine But.grown ?_ (by assumption) ?_) | (with_reducible refine But.below ?_ (by assumption) ?_) | first | omega | (simp only [World.size_alloc, World.size_setCell, World.size_drew, size_drewN]; omega) | (simp; done) | (simp; omega) | (simp only [World.size_alloc, World.size_setCell, World.size_drew, size_drewN] at *; omega) | (simp at *; omega)))).out (by omega)
  have HR2 := Lib.hid (rowL_but HRW.out hg3 hlt)
  have HR3 := Lib.hid hrow3
  clear hrow3
  go_wp2
  refine bodyPost_ret (v := .tuple #[v, v3]) (by simp (disch := first | omega | (simp; done) | (simp; omega)) [results, Try.results33, go_sem, cell_set, *]) rfl ?_
  exact ⟨_, _, xs, ys, rfl, RowL.mono HR2.out (by omega), hcap, RowL.mono HR3.out (by omega), hcap3, hl, hl3, hB⟩
set_option maxHeartbeats 1000000 in
theorem dCouple_any (a : Option Addr) (len cap : Nat) (w : World) (hb : BytesAt w a len cap) :
    Calls Try.prog 15 #[.slice a len cap] w fun e w' => ∃ (s t : Tm), e = .returned (.tuple #[.agg #[.int .i64 s.1, .int .i64 s.2], .agg #[.int .i64 t.1, .int .i64 t.2]]) ∧ Below w.heap.size w w' := by
  go_enter Try.func15, Try.ntmps15
  go_wp2_with fail
  refine (l6Open_any a len cap _ (bytesAt_al (bytesAt_al hb _) _)).mono ?_
  rintro e w1 ⟨rb, m, c, rfl, hr, hrb, hb1⟩
  obtain ⟨hc1, hf1⟩ := bcell hb1; have hz1 := hb1.size; (try simp only [World.size_alloc, World.size_setCell, World.size_drew, size_drewN] at hz1 hc1 hf1); (have g1a : w.heap.size < w1.heap.size := by omega); (have g1b : w.heap.size + 1 < w1.heap.size := by omega)
  simp only [World.size_alloc] at hrb
  go_wp2_with fail
  refine (l92Term_any rb a m c 0 _ hr (by omega) (by omega)).mono ?_
  rintro e w2 ⟨s, l, p', rfl, -, -, -, -, hp0, hp1, hg2, hr2⟩
  obtain ⟨hc2, hf2⟩ := ncell hg2; have hz2 := hg2.size; (try simp only [World.size_alloc, World.size_setCell, World.size_drew, size_drewN] at hz2 hc2 hf2); (have g2a : w.heap.size < w2.heap.size := by omega); (have g2b : w.heap.size + 1 < w2.heap.size := by omega)
  have hlt := hr2.lt
  have h2r : ¬ w2.heap.size = rb := by omega
  (have t0 : w2.cell? ⟨w.heap.size, 0, none⟩ = some (.int .i64 0) := by (simp (disch := first | omega | (simp; done) | (simp; omega)) [go_sem, *]; done)); (have t1 : w2.cell? ⟨w.heap.size, 1, none⟩ = some (.int .i64 0) := by (simp (disch := first | omega | (simp; done) | (simp; omega)) [go_sem, *]; done))
  (have u0 : w2.frozen? ⟨w.heap.size, 0, none⟩ = false := by (simp (disch := first | omega | (simp; done) | (simp; omega)) [go_sem, *]; done)); (have u1 : w2.frozen? ⟨w.heap.size, 1, none⟩ = false := by (simp (disch := first | omega | (simp; done) | (simp; omega)) [go_sem, *]; done))
  (have x0 : w2.cell? ⟨w.heap.size + 1, 0, none⟩ = some (.int .i64 0) := by (simp (disch := first | omega | (simp; done) | (simp; omega)) [go_sem, *]; done)); (have x1 : w2.cell? ⟨w.heap.size + 1, 1, none⟩ = some (.int .i64 0) := by (simp (disch := first | omega | (simp; done) | (simp; omega)) [go_sem, *]; done))
  (have y0 : w2.frozen? ⟨w.heap.size + 1, 0, none⟩ = false := by (simp (disch := first | omega | (simp; done) | (simp; omega)) [go_sem, *]; done)); (have y1 : w2.frozen? ⟨w.heap.size + 1, 1, none⟩ = false := by (simp (disch := first | omega | (simp; done) | (simp; omega)) [go_sem, *]; done))
  have hr1 : ¬ w.heap.size = rb := by omega
  have hr1b : ¬ w.heap.size + 1 = rb := by omega
  have hB2 : But w.heap.size rb w w2 := by (repeat' first | (with_reducible exact But.refl _ _ _) | (with_reducible assumption) | (with_reducible refine But.drew ?_) | (with_reducible refine But.alloc ?_ ?_ _) | (with_reducible refine But.setCell ?_ ?_ _) | (with_reducible refine But.grown ?_ (by assumption) ?_) | (with_reducible refine But.below ?_ (by assumption) ?_) | first | omega | (simp only [World.size_alloc, World.size_setCell, World.size_drew, size_drewN]; omega) | (simp; done) | (simp; omega) | (simp only [World.size_alloc, World.size_setCell, World.size_drew, size_drewN] at *; omega) | (simp at *; omega))
  clear hc1 hf1 hc2 hf2 hb1 hg2
  go_wp2
  go_region_with (go_at_call 37; refine (l92Term_any rb a m c p' _ (by (repeat' first | assumption | (with_reducible refine Rd.alloc ?_ _) | (with_reducible refine Rd.drew ?_) | (with_reducible refine Rd.below ?_ (by assumption)) | (with_reducible refine Rd.set hr ?_ ?_) | first | omega | (simp only [World.size_alloc, World.size_setCell, World.size_drew, size_drewN]; omega) | (simp; done) | (simp; omega) | (simp only [World.size_alloc, World.size_setCell, World.size_drew, size_drewN] at *; omega) | (simp at *; omega))) (by omega) (by omega)).mono ?_; rintro e w3 ⟨s3, l3, p3, rfl, -, -, -, -, hp2, hp3, hg3, hr3⟩; obtain ⟨hc3, hf3⟩ := ncell hg3; have hz3 := hg3.size; (try simp only [World.size_alloc, World.size_setCell, World.size_drew, size_drewN] at hz3 hc3 hf3); (have g3a : w.heap.size < w3.heap.size := by omega); (have g3b : w.heap.size + 1 < w3.heap.size := by omega); (have hB3 : But w.heap.size rb w w3 := by (repeat' first | (with_reducible exact But.refl _ _ _) | (with_reducible assumption) | (with_reducible refine But.drew ?_) | (with_reducible refine But.alloc ?_ ?_ _) | (with_reducible refine But.setCell ?_ ?_ _) | (with_reducible refine But.grown ?_ (by assumption) ?_) | (with_reducible refine But.below ?_ (by assumption) ?_) | first | omega | (simp only [World.size_alloc, World.size_setCell, World.size_drew, size_drewN]; omega) | (simp; done) | (simp; omega) | (simp only [World.size_alloc, World.size_setCell, World.size_drew, size_drewN] at *; omega) | (simp at *; omega))); (have p0 : w3.cell? ⟨w.heap.size, 0, none⟩ = some (.int .i64 0) := by (simp (disch := first | omega | (simp; done) | (simp; omega)) [go_sem, *]; done)); (have p1 : w3.cell? ⟨w.heap.size, 1, none⟩ = some (.int .i64 0) := by (simp (disch := first | omega | (simp; done) | (simp; omega)) [go_sem, *]; done)); (have q0 : w3.cell? ⟨w.heap.size + 1, 0, none⟩ = some (.int .i64 0) := by (simp (disch := first | omega | (simp; done) | (simp; omega)) [go_sem, *]; done)); (have q1 : w3.cell? ⟨w.heap.size + 1, 1, none⟩ = some (.int .i64 0) := by (simp (disch := first | omega | (simp; done) | (simp; omega)) [go_sem, *]; done)); (have m0 : w3.frozen? ⟨w.heap.size, 0, none⟩ = false := by (simp (disch := first | omega | (simp; done) | (simp; omega)) [go_sem, *]; done)); (have m1 : w3.frozen? ⟨w.heap.size, 1, none⟩ = false := by (simp (disch := first | omega | (simp; done) | (simp; omega)) [go_sem, *]; done)); (have n0 : w3.frozen? ⟨w.heap.size + 1, 0, none⟩ = false := by (simp (disch := first | omega | (simp; done) | (simp; omega)) [go_sem, *]; done)); (have n1 : w3.frozen? ⟨w.heap.size + 1, 1, none⟩ = false := by (simp (disch := first | omega | (simp; done) | (simp; omega)) [go_sem, *]; done)))
  all_goals clear hc3 hf3 hg3
  all_goals go_wp2
  all_goals refine bodyPost_ret (v := .tuple #[.agg #[.int .i64 s, .int .i64 l], .agg #[.int .i64 s3, .int .i64 l3]]) (by simp (disch := first | omega | (simp; done) | (simp; omega)) [results, Try.results15, go_sem, cell_set, *]) rfl ?_
  all_goals exact ⟨(s, l), (s3, l3), rfl, But.out (rb := rb) (by (repeat' first | (with_reducible exact But.refl _ _ _) | (with_reducible assumption) | (with_reducible refine But.drew ?_) | (with_reducible refine But.alloc ?_ ?_ _) | (with_reducible refine But.setCell ?_ ?_ _) | (with_reducible refine But.grown ?_ (by assumption) ?_) | (with_reducible refine But.below ?_ (by assumption) ?_) | first | omega | (simp only [World.size_alloc, World.size_setCell, World.size_drew, size_drewN]; omega) | (simp; done) | (simp; omega) | (simp only [World.size_alloc, World.size_setCell, World.size_drew, size_drewN] at *; omega) | (simp at *; omega))) (by omega)⟩
end Go.Proofs.Ytmcjabfnlpohaaa
