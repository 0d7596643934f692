import Derived.Test.YtjopcpoodhamcaaDoorSrt8
import Derived.Test.YtjopcpoodhamcaaDoorGg
import Derived.Maps.AppendAt
import Derived.Laws.MakeOwn
import Derived.Test.YtjopcpoodhamcaaDoorGd
/-
  The walk of impl's ordered at terms. Conditions: none.
-/
namespace Go.Proofs.YtjopcpoodhamcaaDoor
set_option linter.unusedSimpArgs false
set_option linter.unusedVariables false
open Go.RowKit

theorem vS_one (xs : List (Int × Int)) : ∀ u ∈ vS xs, ∃ x, u = .int .i64 x := fun u hu => by
  simp only [vS, List.mem_flatMap] at hu
  obtain ⟨p, -, hp⟩ := hu
  simp at hp
  rcases hp with rfl | rfl <;> exact ⟨_, rfl⟩
/-- Block g holds the terms xs. -/
def TmAt (w : World) (g : Nat) (xs : List (Int × Int)) : Prop :=
  ∀ (k : Nat) (p : Int × Int), xs[k]? = some p → w.cell? ⟨g, k * 2, none⟩ = some (.int .i64 p.1) ∧ w.cell? ⟨g, k * 2 + 1, none⟩ = some (.int .i64 p.2)
theorem TmAt.below {B : Nat} {w w' : World} {g : Nat} {xs : List (Int × Int)} (h : TmAt w g xs) (hb : Below B w w') (hg : g < B) : TmAt w' g xs := fun k p hp => by
  obtain ⟨a, b⟩ := h k p hp
  exact ⟨(hb.cell (p := ⟨g, _, none⟩) hg).trans a, (hb.cell (p := ⟨g, _, none⟩) hg).trans b⟩
theorem TmAt.val {w : World} {g : Nat} {xs : List (Int × Int)} (h : TmAt w g xs) (j : Nat) (u : Value) (hu : (vS xs)[j]? = some u) : w.cell? ⟨g, j, none⟩ = some u := by
  have hj : j < xs.length * 2 := by rw [← vS_length]; exact (List.getElem?_eq_some_iff.1 hu).1
  obtain ⟨p, hp⟩ : ∃ p, xs[j / 2]? = some p := ⟨_, List.getElem?_eq_getElem (by omega)⟩
  obtain ⟨a, b⟩ := h _ p hp
  obtain ⟨c, d⟩ := vS_get xs _ p hp
  rcases Nat.mod_two_eq_zero_or_one j with e | e
  · rw [show j = j / 2 * 2 by omega] at hu ⊢
    rw [c] at hu
    rw [a]; exact hu
  · rw [show j = j / 2 * 2 + 1 by omega] at hu ⊢
    rw [d] at hu
    rw [b]; exact hu
theorem atL_get {xs : List Tm} {k : Nat} {p : Tm} (h : xs[k]? = some p) : atL xs k = p := by unfold atL; rw [List.getD_eq_getElem?_getD, h]; rfl
theorem okT_atL {xs : List Tm} (h : ∀ x ∈ xs, okT x) (k : Nat) : okT (atL xs k) := by
  cases e : xs[k]? with
  | none => unfold atL; rw [List.getD_eq_getElem?_getD, e]; exact ⟨by decide, by decide, by decide, by decide⟩
  | some p => rw [atL_get e]; exact h p (List.mem_of_getElem? e)
set_option maxRecDepth 20000 in
set_option maxHeartbeats 2000000 in
theorem ordered_some (xs : List Tm) (gs cs : Nat) (w : World) (hpos : 0 < xs.length) (hlen : xs.length ≤ 1000) (hgs : gs < w.heap.size) (hx : TmAt w gs xs) (ho : ∀ x ∈ xs, okT x) :
    Calls Tryd.prog 48 #[.slice (some ⟨gs, 0, none⟩) xs.length cs, cmpF] w fun e w' => ∃ g c, e = .returned (.slice (some ⟨g, 0, none⟩) xs.length c) ∧ w.heap.size ≤ g ∧ g < w'.heap.size ∧ TmAt w' g (sortT xs) ∧ (∀ i, w'.frozen? ⟨g, i, none⟩ = false) ∧ Below w.heap.size w w' := by
  obtain ⟨i0, ihi, iz0, iz1, iz2⟩ := info_parts infoT
  obtain ⟨wm, hmk, hown, hgm⟩ := run_make_own (P := Tryd.prog) (w := w) w.heap.size 25 31 i0 (.agg #[.int .i64 0, .int .i64 0]) 2 Tryd.underlying25 ihi iz0 iz1 .i64 .i64 xs.length (by rw [iz2]; omega) (by unfold maxLen; omega) (Nat.le_refl _)
  have hbm : Below w.heap.size w wm := ⟨hgm.os, hgm.tape, hgm.output, hgm.size, fun k hk => hgm.block k hk (by simp)⟩
  have hx2 : TmAt wm gs xs := hx.below hbm hgs
  have hzm := hgm.size
  have HX := Lib.hid hx2
  have HO := Lib.hid ho
  have HW := Lib.hid hown
  have HBm := Lib.hid hbm
  have hl2 : (vS xs).length = xs.length * 2 := vS_length xs
  have hsne : (Value.slice (some ⟨w.heap.size, 0, none⟩) 0 xs.length).ownBlock = some w.heap.size := rfl
  clear hx hx2 ho hown hgm hbm
  go_enter Tryd.func48, Tryd.ntmps48
  go_wp2_with (first | (at_builtin; refine wpList_append_own _ rfl _ _ 25 rfl w.heap.size 31 i0 (.agg #[.int .i64 0, .int .i64 0]) 2 16 Tryd.underlying25 ihi iz0 iz1 iz2 rfl (by decide) _ _ _ rfl HW.out ⟨gs, 0, none⟩ xs.length cs (vS xs) rfl hl2 ?c1 ?c2 ?c3 ?c4 ?c5 ?_))
  case c1 =>
    intro j u hj
    have := HX.out.val j u hj
    by_cases h0 : j = 0
    · subst h0; simpa [Addr.add] using this
    · simpa [Addr.add, h0] using this
  case c2 => intro u hu; obtain ⟨x, rfl⟩ := vS_one xs u hu; rfl
  case c3 => unfold maxLen; omega
  case c4 => omega
  case c5 => first | (simp; done) | (simp; omega) | omega
  intro v' w1 hown' hgrow _
  have hz1 := hgrow.size
  have hbel : Below w.heap.size w w1 := HBm.out.grown hgrow hzm (fun k e => by cases e; exact Nat.le_refl _)
  obtain ⟨g, c, rfl, hg1, hg2, hcell, hfree⟩ := row_form hown' hpos
  have hrow : RowF w1 g xs.length (atL xs) := ⟨fun k hk => by
    have e : xs[k]? = some xs[k] := List.getElem?_eq_getElem hk
    obtain ⟨x0, x1⟩ := vS_get xs k _ e
    rw [atL_get e]
    exact ⟨(hcell (k * 2) (by omega)).trans x0, (hcell (k * 2 + 1) (by omega)).trans x1⟩, hfree⟩
  have HS := Lib.hid (sortStable_any g xs.length c (atL xs) w1 (by omega) hrow hg2 (okT_atL HO.out))
  have HB := Lib.hid hbel
  clear hown' hgrow hbel hcell hfree hrow
  go_wp2_with fail
  refine (HS.out).mono ?_
  rintro e w2 ⟨rfl, f', hr, hb, hst, hso⟩
  have hT : TmAt w2 g (sortT xs) := fun k p hp => by
    have hk : k < xs.length := by rw [← sortT_len]; exact (List.getElem?_eq_some_iff.1 hp).1
    have e := sortT_is (f := f') HO.out (fun k _ => hst.all (okT_atL HO.out) k) hso (fun q => by rw [hst.cnt q xs.length (Nat.le_refl _), cnt_at_list]) k hk
    rw [atL_get hp] at e
    have := hr.1 k hk
    rw [e] at this
    exact this
  have HT := Lib.hid (show TmAt w2 g (sortT xs) ∧ (∀ i, w2.frozen? ⟨g, i, none⟩ = false) ∧ Below w.heap.size w w2 from ⟨hT, hr.2, HB.out.trans ⟨hb.os, hb.tape, hb.output, hb.size, fun k hk => hb.block k (by have := HB.out.size; omega) (by omega)⟩⟩)
  have hz2 := hb.size
  clear hT hr hb hst hso
  go_wp2
  go_ret
  exact ⟨g, c, rfl, hg1, by omega, HT.out⟩
end Go.Proofs.YtjopcpoodhamcaaDoor
