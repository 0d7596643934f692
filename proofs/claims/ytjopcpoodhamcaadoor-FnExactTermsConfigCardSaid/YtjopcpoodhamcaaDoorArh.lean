import Derived.Test.YtjopcpoodhamcaaDoorHmh
import Derived.Test.YtjopcpoodhamcaaDoorGa
/-
  The opening of arguments that are lists of shells. Conditions: none.
-/
namespace Go.Proofs.YtjopcpoodhamcaaDoor
set_option linter.unusedSimpArgs false
set_option linter.unusedVariables false
open Go.ChangeShapes Go.WideShapes Go.ChangeAt Go.RowKit Go.Joins

theorem cells_three {H : Type} {enc : TypeId × Value → H} {P : Program} {w : World} {base : Nat} {spare : Nat → Bool} {held : Bool} {t i : TypeId} {f0 f1 f2 : Field} {fuel : Nat} {cs : List Value} {x : DataW H × List MemPlace}
    (hs : P.underlying t = some (.struct #[f0, f1, f2])) (hC : P.cellsOf t = 3) (hI : P.underlying i = some (.int .i64)) (hc : P.cellsOf i = 1)
    (e0 : f0.type = i) (o0 : f0.offset = 0) (e1 : f1.type = i) (o1 : f1.offset = 1) (e2 : f2.type = i) (o2 : f2.offset = 2) (h : DataW.trod enc P w base spare held fuel t cs = some x) :
    ∃ a b c : Int, cs = [.int .i64 a, .int .i64 b, .int .i64 c] := by
  obtain ⟨xs, n, -, -, hl, hn, hf⟩ := DataW.trod_struct hs h
  rw [hC] at hl
  match cs, hl with
  | [c0, c1, c2], _ =>
    match xs, hn with
    | [x0, x1, x2], _ =>
      have g0 := hf 0 f0 rfl
      have g1 := hf 1 f1 rfl
      have g2 := hf 2 f2 rfl
      rw [e0, o0, hc] at g0
      rw [e1, o1, hc] at g1
      rw [e2, o2, hc] at g2
      obtain ⟨a, ha, -, wa⟩ := DataW.trod_int hI (x := x0) (by simpa using g0)
      obtain ⟨b, hb, -, wb⟩ := DataW.trod_int hI (x := x1) (by simpa using g1)
      obtain ⟨c, hc', -, wc⟩ := DataW.trod_int hI (x := x2) (by simpa using g2)
      simp at ha hb hc'
      subst ha hb hc'
      exact ⟨a, b, c, rfl⟩
theorem argH_of {H : Type} {enc : TypeId × Value → H} {P : Program} {w : World} {spare : Nat → Bool} {held : Bool} {base : Nat} {t e i : TypeId} {f0 f1 f2 : Field} {a : Option Addr} {len cap : Nat} {d : DataW H} {p : List MemPlace}
    (ht : P.underlying t = some (.slice e)) (hs : P.underlying e = some (.struct #[f0, f1, f2])) (hC : P.cellsOf e = 3) (hI : P.underlying i = some (.int .i64)) (hc : P.cellsOf i = 1)
    (e0 : f0.type = i) (o0 : f0.offset = 0) (e1 : f1.type = i) (o1 : f1.offset = 1) (e2 : f2.type = i) (o2 : f2.offset = 2) (h : DataW.Trod enc P w base spare held t (.slice a len cap) d p) : ∃ xs, ArgH w a len xs ∧ len ≤ maxLen := by
  obtain ⟨fuel, hf⟩ := h
  rcases DataW.trod_slice ht (by simpa [Value.cells] using hf) with ⟨hcs, -⟩ | ⟨x, l, c, elems, rest, n, -, hcs, -, -, hl, hm, hlen, hel, -⟩
  · simp at hcs
    obtain ⟨rfl, rfl, rfl⟩ := hcs
    exact ⟨[], ⟨rfl, fun h => by cases h⟩, by simp [maxLen]⟩
  · simp at hcs
    obtain ⟨rfl, rfl, rfl⟩ := hcs
    have each : ∀ i, i < len → ∃ q : Sh, w.cell? (x.add (i * 3)) = some (.int .i64 q.1) ∧ w.cell? ((x.add (i * 3)).add 1) = some (.int .i64 q.2.1) ∧ w.cell? ((x.add (i * 3)).add 2) = some (.int .i64 q.2.2) := fun i hi => by
      have h1 := hel i hi
      rw [hC] at h1
      have hi' : i < elems.length := by omega
      rw [List.getElem?_eq_getElem hi', Option.bind_eq_some_iff] at h1
      obtain ⟨cs, hcs, hd⟩ := h1
      obtain ⟨u, v, z, rfl⟩ := cells_three hs hC hI hc e0 o0 e1 o1 e2 o2 hd
      obtain ⟨-, -, hat⟩ := World.cells?_some hcs
      have k0 := hat 0 (by omega)
      have k1 := hat 1 (by omega)
      have k2 := hat 2 (by omega)
      exact ⟨(u, v, z), by simpa [Addr.add] using k0, by simpa using k1, by simpa using k2⟩
    have each' : ∀ i, ∃ q : Sh, i < len → w.cell? (x.add (i * 3)) = some (.int .i64 q.1) ∧ w.cell? ((x.add (i * 3)).add 1) = some (.int .i64 q.2.1) ∧ w.cell? ((x.add (i * 3)).add 2) = some (.int .i64 q.2.2) := fun i => by
      by_cases hi : i < len
      · obtain ⟨q, hq⟩ := each i hi; exact ⟨q, fun _ => hq⟩
      · exact ⟨(0, 0, 0), fun h => absurd h hi⟩
    obtain ⟨f, hf'⟩ := Classical.axiomOfChoice each'
    refine ⟨(List.range len).map f, ⟨by simp, fun h0 => ?_⟩, by omega⟩
    have hx0 := (hf' 0 h0).1
    have hsp : x.spot = none := by simpa [Addr.add] using World.cell?_spot hx0
    obtain ⟨b, o, sp⟩ := x
    simp only at hsp
    subst hsp
    have hadd : ∀ j, (⟨b, o, none⟩ : Addr).add j = ⟨b, o + j, none⟩ := fun j => by
      unfold Addr.add; split
      · rename_i h; rw [h]; rfl
      · rfl
    have hadd1 : ∀ j, (⟨b, j, none⟩ : Addr).add 1 = ⟨b, j + 1, none⟩ := fun j => by simp [Addr.add]
    have hadd2 : ∀ j, (⟨b, j, none⟩ : Addr).add 2 = ⟨b, j + 2, none⟩ := fun j => by simp [Addr.add]
    refine ⟨b, o, rfl, ?_, fun k q hq => ?_⟩
    · have := World.block_lt_of_cell? w _ hx0
      rw [hadd] at this
      exact this
    · have hk : k < len := by have := (List.getElem?_eq_some_iff.1 hq).1; simpa using this
      have e : q = f k := by simp [hk] at hq; exact hq.symm
      obtain ⟨c0, c1, c2⟩ := hf' k hk
      rw [hadd] at c0
      rw [hadd, hadd1] at c1
      rw [hadd, hadd2] at c2
      rw [e]
      exact ⟨c0, c1, c2⟩
end Go.Proofs.YtjopcpoodhamcaaDoor
