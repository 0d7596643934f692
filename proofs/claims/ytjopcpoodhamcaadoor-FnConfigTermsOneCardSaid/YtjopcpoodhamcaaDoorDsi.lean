/-
  The walks of spec.l92Simple and DrawTermsConfig. Conditions: none.
-/
import Derived.Test.YtjopcpoodhamcaaDoorHmh
import Derived.Test.YtjopcpoodhamcaaDoorCfo
namespace Go.Proofs.YtjopcpoodhamcaaDoor
set_option linter.unusedSimpArgs false
set_option linter.unusedVariables false
open Go.RowKit

theorem row_but6H {w w' : World} {rb base : Nat} {v : Value} {n : Nat} {xs : List Value} (h : w.ownsRow base 45 3 v n xs) (hg : w.grownBy w' (some rb)) (hr : rb < base) : w'.ownsRow base 45 3 v n xs := by
  refine h.kept hg ?_
  cases hv : v.ownBlock with
  | none => exact .inl rfl
  | some k =>
    have := (h.lt k hv).1
    exact .inr (by simp; omega)
theorem two_own {w : World} {base : Nat} (hb : base ≤ w.heap.size) (s t : Sh) : (w.alloc (.cells #[.int .i64 s.1, .int .i64 s.2.1, .int .i64 s.2.2, .int .i64 t.1, .int .i64 t.2.1, .int .i64 t.2.2] 45)).ownsRow base 45 3 (.slice (some ⟨w.heap.size, 0, none⟩) 2 2) [s, t].length (vH [s, t]) :=
  ⟨rfl, .inr ⟨w.heap.size, 2, #[.int .i64 s.1, .int .i64 s.2.1, .int .i64 s.2.2, .int .i64 t.1, .int .i64 t.2.1, .int .i64 t.2.2], rfl, hb, by show (w.heap.push _)[w.heap.size]? = _; simp, Nat.le_refl 2, by unfold maxLen; decide, rfl, rfl⟩⟩
theorem rd_deep {w0 w w' : World} {rb : Nat} {a : Option Addr} {len cap : Nat} {p0 p : Int} (h0 : Rd w0 rb a len cap p0) (h : Rd w rb a len cap p) (hb : Below w0.heap.size w w') : Rd w' rb a len cap p := by
  have hl := h0.lt
  refine ⟨(hb.cell (p := ⟨rb, 0, none⟩) hl).trans h.slice, (hb.cell (p := ⟨rb, 1, none⟩) hl).trans h.place, (hb.frozen (p := ⟨rb, 1, none⟩) hl).trans h.free, fun x e i hi => ?_, h.nil, h.short⟩
  obtain ⟨h1, h2, c, d0, d1, hc⟩ := h.bytes x e i hi
  obtain ⟨_, _, c9, _, _, hc0⟩ := h0.bytes x e i hi
  have hbk := World.block_lt_of_cell? w0 _ hc0
  exact ⟨h1, h2, c, d0, d1, (hb.cell hbk).trans hc⟩
theorem own_rwb {w : World} {base n : Nat} {v : Value} {xs : List Sh} (h : w.ownsRow base 45 3 v n (vH xs)) (hx : 0 < xs.length) : ∃ g c, v = .slice (some ⟨g, 0, none⟩) xs.length c ∧ base ≤ g ∧ g < w.heap.size ∧ ShOf w g 0 xs ∧ ∀ i, w.frozen? ⟨g, i, none⟩ = false := by
  have hI := rwI_own h
  have e := h.1
  rw [vH_length] at e
  obtain rfl : n = xs.length := by omega
  rcases h.2 with ⟨e1, e2⟩ | ⟨g, cap, cur, rfl, hb, hh, hr⟩
  · omega
  · rcases hI with ⟨e3, -⟩ | ⟨g', o', c', e3, h4, h5⟩
    · simp at e3
    · simp at e3
      obtain ⟨⟨rfl, rfl⟩, rfl⟩ := e3
      exact ⟨g, cap, rfl, hb, h4, h5, fun i => by simp [World.frozen?, hh]⟩
theorem shOf_set {w : World} {g : Nat} {s : Sh} {xs : List Sh} (h : ShOf w g 0 (s :: xs)) : ShOf (w.setCell ⟨g, 2, none⟩ (.int .i64 3)) g 0 ((s.1, s.2.1, 3) :: xs) := by
  intro k t ht
  match k, ht with
  | 0, ht =>
    simp only [List.getElem?_cons_zero, Option.some.injEq] at ht
    subst ht
    obtain ⟨a, b, c⟩ := h 0 s rfl
    exact ⟨(World.cell?_setCell_other w _ _ _ (by simp)).trans a, (World.cell?_setCell_other w _ _ _ (by simp)).trans b, World.cell?_setCell_same w _ _ c⟩
  | k + 1, ht =>
    obtain ⟨a, b, c⟩ := h (k + 1) t ht
    exact ⟨(World.cell?_setCell_other w _ _ _ (by simp <;> omega)).trans a, (World.cell?_setCell_other w _ _ _ (by simp <;> omega)).trans b, (World.cell?_setCell_other w _ _ _ (by simp <;> omega)).trans c⟩
/-- What the draw of a configuration keeps to. -/
def simS (cs : List Sh) : Prop := cs.length ≤ 4 ∧ ∀ s ∈ cs, s.2.1 ≤ 2 ∨ s = (5, 3, 2)
theorem simS_app {cs : List Sh} (h0 : cs.length ≤ 3) (h : simS cs) (s : Sh) (hs : s.2.1 ≤ 2 ∨ s = (5, 3, 2)) : simS (cs ++ [s]) := by
  refine ⟨by simp; omega, fun t ht => ?_⟩
  rcases List.mem_append.1 ht with h1 | h1
  · exact h.2 t h1
  · rw [List.mem_singleton] at h1; subst h1; exact hs
theorem simS_set {s : Sh} {cs : List Sh} (h : simS (s :: cs)) (hs : s.2.1 ≤ 2 := by decide) : simS ((s.1, s.2.1, 3) :: cs) := by
  refine ⟨h.1, fun t ht => ?_⟩
  rcases List.mem_cons.1 ht with rfl | h1
  · exact .inl hs
  · exact h.2 t (List.mem_cons_of_mem _ h1)
theorem simS_two (l c : Int) (h : l ≤ 2) : [((1, 0, 2) : Sh), (3, l, 1 + c)].length ≤ 3 ∧ simS [(1, 0, 2), (3, l, 1 + c)] := by
  refine ⟨by simp, by simp, fun s hs => .inl ?_⟩
  simp at hs
  rcases hs with rfl | rfl <;> simp
  exact h
theorem simS_three (l c m d : Int) (h : l ≤ 2) (hm : m ≤ 2) : ([((1, 0, 2) : Sh), (3, l, 1 + c)] ++ [(4, m, 1 + d)]).length ≤ 3 ∧ simS ([(1, 0, 2), (3, l, 1 + c)] ++ [(4, m, 1 + d)]) :=
  ⟨by simp, simS_app (by simp) (simS_two l c h).2 _ (.inl hm)⟩
set_option maxRecDepth 20000 in
set_option maxHeartbeats 4000000 in
theorem l92Simple_any (rb : Nat) (a : Option Addr) (len cap : Nat) (p : Int) (w : World) (hr : Rd w rb a len cap p) (p0 : 0 ≤ p) (p1 : p ≤ 800000) :
    Calls Tryd.prog 27 #[.pointer (some ⟨rb, 0, none⟩)] w fun e w' => ∃ (v : Value) (cs : List Sh), e = .returned v ∧ RwI w' v cs ∧ simS cs ∧ w.grownBy w' (some rb) := by
  have hlt := hr.lt
  have HRD := Lib.hid hr
  go_enter Tryd.func27, Tryd.ntmps27
  go_wp2_with fail
  refine (pick_any rb a len cap p 3 _ hr (by omega) (by omega) (by omega)).mono ?_
  rintro e w1 ⟨l, rfl, l0, l1, -, hg1, hr1⟩
  have l2 : l < 3 := l1 (by omega)
  have hz1 := hg1.size
  have q1 : wrap64 (4 * l) = 4 * l := IntWalk.wrap64_in _ (by omega)
  have q2 : wrap64 (4 * l + 2) = 4 * l + 2 := IntWalk.wrap64_in _ (by omega)
  have hB1 : But w.heap.size rb w w1 := by (repeat' first | (with_reducible exact But.refl _ _ _) | (with_reducible assumption) | (with_reducible refine But.drew ?_) | (with_reducible refine But.alloc ?_ ?_ _) | (with_reducible refine But.setCell ?_ ?_ _) | (with_reducible refine But.grown ?_ (by assumption) ?_) | (with_reducible refine But.below ?_ (by assumption) ?_) | first | omega | (simp only [World.size_alloc, World.size_setCell, World.size_drew, size_drewN]; omega) | (simp; done) | (simp; omega) | (simp only [World.size_alloc, World.size_setCell, World.size_drew, size_drewN] at *; omega) | (simp at *; omega))
  clear l1 hg1
  go_wp2_with fail
  refine (pick_any rb a len cap (p + 1) (4 * l + 2) _ hr1 (by omega) (by omega) (by omega)).mono ?_
  rintro e w2 ⟨c, rfl, c0, c1, -, hg2, hr2⟩
  have c2 : c < 4 * l + 2 := c1 (by omega)
  have hz2 := hg2.size
  have q3 : wrap64 (1 + c) = 1 + c := IntWalk.wrap64_in _ (by omega)
  have hB2 : But w.heap.size rb w w2 := by (repeat' first | (with_reducible exact But.refl _ _ _) | (with_reducible assumption) | (with_reducible refine But.drew ?_) | (with_reducible refine But.alloc ?_ ?_ _) | (with_reducible refine But.setCell ?_ ?_ _) | (with_reducible refine But.grown ?_ (by assumption) ?_) | (with_reducible refine But.below ?_ (by assumption) ?_) | first | omega | (simp only [World.size_alloc, World.size_setCell, World.size_drew, size_drewN]; omega) | (simp; done) | (simp; omega) | (simp only [World.size_alloc, World.size_setCell, World.size_drew, size_drewN] at *; omega) | (simp at *; omega))
  have HT := Lib.hid (two_own (w := w2) (base := w.heap.size) (by omega) (1, 0, 2) (3, l, 1 + c))
  clear c1 hg2 hr1
  go_wp2_with fail
  refine (pick_any rb a len cap (p + 1 + 1) 2 _ (hr2.alloc _) (by omega) (by omega) (by omega)).mono ?_
  rintro e w3 ⟨y, rfl, -, -, -, hg3, hr3⟩
  have hz3 := hg3.size
  simp only [World.size_alloc] at hz3
  have HO3 := Lib.hid (row_but6H HT.out hg3 hlt)
  have hB3 : But w.heap.size rb w w3 := by (repeat' first | (with_reducible exact But.refl _ _ _) | (with_reducible assumption) | (with_reducible refine But.drew ?_) | (with_reducible refine But.alloc ?_ ?_ _) | (with_reducible refine But.setCell ?_ ?_ _) | (with_reducible refine But.grown ?_ (by assumption) ?_) | (with_reducible refine But.below ?_ (by assumption) ?_) | first | omega | (simp only [World.size_alloc, World.size_setCell, World.size_drew, size_drewN]; omega) | (simp; done) | (simp; omega) | (simp only [World.size_alloc, World.size_setCell, World.size_drew, size_drewN] at *; omega) | (simp at *; omega))
  clear hg3 hr2 HT
  by_cases y0 : y = 0
  · subst y0
    go_wp2_with fail
    refine (pick_any rb a len cap (p + 1 + 1 + 1) 2 _ hr3 (by omega) (by omega) (by omega)).mono ?_
    rintro e w4 ⟨m, rfl, m0, m1, -, hg4, hr4⟩
    have m2 : m < 2 := m1 (by omega)
    have hz4 := hg4.size
    have HO4 := Lib.hid (row_but6H HO3.out hg4 hlt)
    have hB4 : But w.heap.size rb w w4 := by (repeat' first | (with_reducible exact But.refl _ _ _) | (with_reducible assumption) | (with_reducible refine But.drew ?_) | (with_reducible refine But.alloc ?_ ?_ _) | (with_reducible refine But.setCell ?_ ?_ _) | (with_reducible refine But.grown ?_ (by assumption) ?_) | (with_reducible refine But.below ?_ (by assumption) ?_) | first | omega | (simp only [World.size_alloc, World.size_setCell, World.size_drew, size_drewN]; omega) | (simp; done) | (simp; omega) | (simp only [World.size_alloc, World.size_setCell, World.size_drew, size_drewN] at *; omega) | (simp at *; omega))
    have r1 : wrap64 (4 * m) = 4 * m := IntWalk.wrap64_in _ (by omega)
    have r2 : wrap64 (4 * m + 2) = 4 * m + 2 := IntWalk.wrap64_in _ (by omega)
    clear m1 hg4 hr3
    go_wp2_with fail
    refine (pick_any rb a len cap (p + 1 + 1 + 1 + 1) (4 * m + 2) _ hr4 (by omega) (by omega) (by omega)).mono ?_
    rintro e w5 ⟨d, rfl, d0, d1, -, hg5, hr5⟩
    have d2 : d < 4 * m + 2 := d1 (by omega)
    have hz5 := hg5.size
    have HO5 := Lib.hid (row_but6H HO4.out hg5 hlt)
    have hB5 : But w.heap.size rb w w5 := by (repeat' first | (with_reducible exact But.refl _ _ _) | (with_reducible assumption) | (with_reducible refine But.drew ?_) | (with_reducible refine But.alloc ?_ ?_ _) | (with_reducible refine But.setCell ?_ ?_ _) | (with_reducible refine But.grown ?_ (by assumption) ?_) | (with_reducible refine But.below ?_ (by assumption) ?_) | first | omega | (simp only [World.size_alloc, World.size_setCell, World.size_drew, size_drewN]; omega) | (simp; done) | (simp; omega) | (simp only [World.size_alloc, World.size_setCell, World.size_drew, size_drewN] at *; omega) | (simp at *; omega))
    have r3 : wrap64 (1 + d) = 1 + d := IntWalk.wrap64_in _ (by omega)
    clear d1 hg5 hr4
    go_wp2_with (first | (at_builtin; refine wph_app rfl _ _ rfl w.heap.size _ _ [(1, 0, 2), (3, l, 1 + c)] [(4, m, 1 + d)] rfl (HO5.out.alloc _) rfl (one_rowH _ (4, m, 1 + d)) ?c1 ?c2 ?_))
    case c1 => simp
    case c2 => first | omega | (simp; done) | (simp; omega)
    intro v8 w8 hown8 hgrow8 _ _
    have hz8 := hgrow8.size
    simp only [World.size_alloc] at hz8
    have HO8 := Lib.hid (own_lenH hown8)
    have hB8a : Below w.heap.size w5 w8 := Below.grown ((Below.refl _ _).alloc (by omega) _) hgrow8 (by simp; omega) (fun k hk => (HO5.out.lt k hk).1)
    clear hown8 hgrow8
    have hr8 := rd_deep HRD.out hr5 hB8a
    have hB8 : But w.heap.size rb w w8 := hB5.below hB8a (Nat.le_refl _)
    have HS := Lib.hid (simS_three l c m d (by omega) (by omega))
    clear hr5 hB8a
    go_wp2_with fail
    refine (pick_any rb a len cap (p + 1 + 1 + 1 + 1 + 1) 30 _ hr8 (by omega) (by omega) (by omega)).mono ?_
    rintro e w6 ⟨z, rfl, -, -, -, hg6, -⟩
    have hz6 := hg6.size
    have HO6 := Lib.hid (row_but6H HO8.out hg6 hlt)
    have hB6 : But w.heap.size rb w w6 := by (repeat' first | (with_reducible exact But.refl _ _ _) | (with_reducible assumption) | (with_reducible refine But.drew ?_) | (with_reducible refine But.alloc ?_ ?_ _) | (with_reducible refine But.setCell ?_ ?_ _) | (with_reducible refine But.grown ?_ (by assumption) ?_) | (with_reducible refine But.below ?_ (by assumption) ?_) | first | omega | (simp only [World.size_alloc, World.size_setCell, World.size_drew, size_drewN]; omega) | (simp; done) | (simp; omega) | (simp only [World.size_alloc, World.size_setCell, World.size_drew, size_drewN] at *; omega) | (simp at *; omega))
    clear hg6 hr8
    by_cases z0 : z = 0
    · subst z0
      go_wp2_with (first | (at_builtin; refine wph_app rfl _ _ rfl w.heap.size _ _ ([(1, 0, 2), (3, l, 1 + c)] ++ [(4, m, 1 + d)]) [(5, 3, 2)] rfl (HO6.out.alloc _) rfl (one_rowH _ (5, 3, 2)) ?c1 ?c2 ?_))
      case c1 => simp
      case c2 => first | omega | (simp; done) | (simp; omega)
      intro v7 w7 hown7 hgrow7 _ _
      have hz7 := hgrow7.size
      simp only [World.size_alloc] at hz7
      have HO7 := Lib.hid (own_lenH hown7)
      have hB7a : Below w.heap.size w6 w7 := Below.grown ((Below.refl _ _).alloc (by omega) _) hgrow7 (by simp; omega) (fun k hk => (HO6.out.lt k hk).1)
      clear hown7 hgrow7
      go_wp2
      go_ret
      exact ⟨_, _, rfl, rwI_own HO7.out, simS_app HS.out.1 HS.out.2 _ (.inr rfl), (hB6.below hB7a (Nat.le_refl _)).isGrown⟩
    · have z1 : (z == 0) = false := by rw [beq_eq_false_iff_ne]; exact z0
      by_cases z2 : z = 1
      · subst z2
        obtain ⟨g, cg, hv9, hg0, hg1, hsh, hfz⟩ := own_rwb HO6.out (by simp)
        have HSH := Lib.hid hsh
        have g2 := (hsh 0 _ rfl).2.2
        simp only [Nat.zero_add, Nat.zero_mul] at g2
        have f2 := hfz 2
        clear hsh hfz
        subst hv9
        go_wp2
        go_ret
        exact ⟨_, (1, 0, 3) :: [(3, l, 1 + c), (4, m, 1 + d)], rfl, .inr ⟨g, 0, _, rfl, by simp; omega, shOf_set HSH.out⟩, simS_set (s := (1, 0, 2)) HS.out.2, (hB6.setCell (by simp; omega) _).isGrown⟩
      · have z3 : (z == 1) = false := by rw [beq_eq_false_iff_ne]; exact z2
        go_wp2
        go_ret
        exact ⟨_, _, rfl, rwI_own HO6.out, HS.out.2, hB6.isGrown⟩
  · have y1 : (y == 0) = false := by rw [beq_eq_false_iff_ne]; exact y0
    have HS := Lib.hid (simS_two l c (by omega))
    go_wp2_with fail
    refine (pick_any rb a len cap (p + 1 + 1 + 1) 30 _ hr3 (by omega) (by omega) (by omega)).mono ?_
    rintro e w6 ⟨z, rfl, -, -, -, hg6, -⟩
    have hz6 := hg6.size
    have HO6 := Lib.hid (row_but6H HO3.out hg6 hlt)
    have hB6 : But w.heap.size rb w w6 := by (repeat' first | (with_reducible exact But.refl _ _ _) | (with_reducible assumption) | (with_reducible refine But.drew ?_) | (with_reducible refine But.alloc ?_ ?_ _) | (with_reducible refine But.setCell ?_ ?_ _) | (with_reducible refine But.grown ?_ (by assumption) ?_) | (with_reducible refine But.below ?_ (by assumption) ?_) | first | omega | (simp only [World.size_alloc, World.size_setCell, World.size_drew, size_drewN]; omega) | (simp; done) | (simp; omega) | (simp only [World.size_alloc, World.size_setCell, World.size_drew, size_drewN] at *; omega) | (simp at *; omega))
    clear hg6 hr3
    by_cases z0 : z = 0
    · subst z0
      go_wp2_with (first | (at_builtin; refine wph_app rfl _ _ rfl w.heap.size _ _ [(1, 0, 2), (3, l, 1 + c)] [(5, 3, 2)] rfl (HO6.out.alloc _) rfl (one_rowH _ (5, 3, 2)) ?c1 ?c2 ?_))
      case c1 => simp
      case c2 => first | omega | (simp; done) | (simp; omega)
      intro v7 w7 hown7 hgrow7 _ _
      have hz7 := hgrow7.size
      simp only [World.size_alloc] at hz7
      have HO7 := Lib.hid (own_lenH hown7)
      have hB7a : Below w.heap.size w6 w7 := Below.grown ((Below.refl _ _).alloc (by omega) _) hgrow7 (by simp; omega) (fun k hk => (HO6.out.lt k hk).1)
      clear hown7 hgrow7
      go_wp2
      go_ret
      exact ⟨_, _, rfl, rwI_own HO7.out, simS_app HS.out.1 HS.out.2 _ (.inr rfl), (hB6.below hB7a (Nat.le_refl _)).isGrown⟩
    · have z1 : (z == 0) = false := by rw [beq_eq_false_iff_ne]; exact z0
      by_cases z2 : z = 1
      · subst z2
        obtain ⟨g, cg, hv9, hg0, hg1, hsh, hfz⟩ := own_rwb HO6.out (by simp)
        have HSH := Lib.hid hsh
        have g2 := (hsh 0 _ rfl).2.2
        simp only [Nat.zero_add, Nat.zero_mul] at g2
        have f2 := hfz 2
        clear hsh hfz
        simp only [List.length_cons, List.length_nil] at hv9
        injection hv9 with hv9a hv9b hv9c
        subst hv9c
        go_wp2
        go_ret
        exact ⟨_, (1, 0, 3) :: [(3, l, 1 + c)], rfl, .inr ⟨g, 0, _, rfl, by simp; omega, shOf_set HSH.out⟩, simS_set (s := (1, 0, 2)) HS.out.2, (hB6.setCell (by simp; omega) _).isGrown⟩
      · have z3 : (z == 1) = false := by rw [beq_eq_false_iff_ne]; exact z2
        go_wp2
        go_ret
        exact ⟨_, _, rfl, rwI_own HO6.out, HS.out.2, hB6.isGrown⟩
set_option maxHeartbeats 1000000 in
theorem dSim_any (a : Option Addr) (len cap : Nat) (w : World) (hb : BytesAt w a len cap) :
    Calls Tryd.prog 9 #[.slice a len cap] w fun e w' => ∃ (v : Value) (cs : List Sh), e = .returned v ∧ RwI w' v cs ∧ simS cs ∧ Below w.heap.size w w' := by
  go_enter Tryd.func9, Tryd.ntmps9
  go_wp2_with fail
  refine (l6Open_any a len cap _ hb).mono ?_
  rintro e w1 ⟨rb, m, c, rfl, hr, hrb, hb1⟩
  have hz1 := hb1.size
  go_wp2_with fail
  refine (l92Simple_any rb a m c 0 _ hr (by omega) (by omega)).mono ?_
  rintro e w2 ⟨v, cs, rfl, hrow, hs, hg2⟩
  have hB : Below w.heap.size w w2 := ((show But w.heap.size rb w w2 by (repeat' first | (with_reducible exact But.refl _ _ _) | (with_reducible assumption) | (with_reducible refine But.drew ?_) | (with_reducible refine But.alloc ?_ ?_ _) | (with_reducible refine But.setCell ?_ ?_ _) | (with_reducible refine But.grown ?_ (by assumption) ?_) | (with_reducible refine But.below ?_ (by assumption) ?_) | first | omega | (simp only [World.size_alloc, World.size_setCell, World.size_drew, size_drewN]; omega) | (simp; done) | (simp; omega) | (simp only [World.size_alloc, World.size_setCell, World.size_drew, size_drewN] at *; omega) | (simp at *; omega)))).out (by omega)
  go_wp2
  go_ret
  exact ⟨v, cs, rfl, hrow, hs, hB⟩
end Go.Proofs.YtjopcpoodhamcaaDoor
