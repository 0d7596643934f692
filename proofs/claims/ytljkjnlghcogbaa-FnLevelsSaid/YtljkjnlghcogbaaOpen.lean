/-
  What the laws' shells share: the program's two closed facts, and the opening of arguments that are structs of integers. Conditions: none.
-/
import Derived.Test.YtljkjnlghcogbaaRows
import Derived.WalkKit
import Derived.ProofKit
import Derived.OpenShut
import Derived.Lib.SmallJoins
namespace Go.Proofs.Ytljkjnlghcogbaa
set_option linter.unusedSimpArgs false
set_option linter.unusedVariables false
open Go.ChangeShapes Go.WideShapes Go.ChangeAt Go.RowKit Go.Joins

theorem own : ownKnob Try.prog.godebug = none := by kernel_rfl
theorem laidOut : laidOutB Try.prog = true := by kernel_rfl

section
variable {H : Type} {enc : TypeId × Value → H} {P : Program} {w : World} {base : Nat} {spare : Nat → Bool} {held : Bool}

theorem cells_pair {t i : TypeId} {f0 f1 : Field} {fuel : Nat} {cs : List Value} {x : DataW H × List MemPlace} (hs : P.underlying t = some (.struct #[f0, f1])) (hC : P.cellsOf t = 2) (hI : P.underlying i = some (.int .i64)) (hc : P.cellsOf i = 1)
    (e0 : f0.type = i) (o0 : f0.offset = 0) (e1 : f1.type = i) (o1 : f1.offset = 1) (h : DataW.trod enc P w base spare held fuel t cs = some x) :
    ∃ a b : Int, cs = [.int .i64 a, .int .i64 b] ∧ (Lit.int .i64 a).wf = true ∧ (Lit.int .i64 b).wf = true := by
  obtain ⟨xs, n, -, -, hl, hn, hf⟩ := DataW.trod_struct hs h
  rw [hC] at hl
  match cs, hl with
  | [c0, c1], _ =>
    match xs, hn with
    | [x0, x1], _ =>
      have g0 := hf 0 f0 rfl
      have g1 := hf 1 f1 rfl
      rw [e0, o0, hc] at g0
      rw [e1, o1, hc] at g1
      obtain ⟨a, ha, -, wa⟩ := DataW.trod_int hI (x := x0) (by simpa using g0)
      obtain ⟨b, hb, -, wb⟩ := DataW.trod_int hI (x := x1) (by simpa using g1)
      simp at ha hb
      subst ha hb
      exact ⟨a, b, rfl, wa, wb⟩

theorem open_pair {r : Reach} {b0 : Nat} {t i : TypeId} {f0 f1 : Field} {v : Value} {d : DataW H} {p : List MemPlace} (hs : P.underlying t = some (.struct #[f0, f1])) (hC : P.cellsOf t = 2) (hI : P.underlying i = some (.int .i64)) (hc : P.cellsOf i = 1)
    (e0 : f0.type = i) (o0 : f0.offset = 0) (e1 : f1.type = i) (o1 : f1.offset = 1) (hv : Value.okWide P w r b0 t v) (h : DataW.Trod enc P w base spare held t v d p) :
    ∃ a b : Int, v = .agg #[.int .i64 a, .int .i64 b] ∧ (Lit.int .i64 a).wf = true ∧ (Lit.int .i64 b).wf = true := by
  obtain ⟨cs, rfl, -⟩ := okWide_struct hs hv
  obtain ⟨fuel, hf⟩ := h
  obtain ⟨a, b, hcs, wa, wb⟩ := cells_pair hs hC hI hc e0 o0 e1 o1 hf
  exact ⟨a, b, by simp only [Value.cells] at hcs; rw [← Array.toArray_toList (xs := cs), hcs], wa, wb⟩

theorem open_triple {r : Reach} {b0 : Nat} {t u i : TypeId} {f0 f1 g0 g1 : Field} {v : Value} {d : DataW H} {p : List MemPlace} (hs : P.underlying t = some (.struct #[g0, g1])) (hC : P.cellsOf t = 3) (hu : P.underlying u = some (.struct #[f0, f1])) (hU : P.cellsOf u = 2)
    (hI : P.underlying i = some (.int .i64)) (hc : P.cellsOf i = 1) (d0 : g0.type = u) (q0 : g0.offset = 0) (d1 : g1.type = i) (q1 : g1.offset = 2)
    (e0 : f0.type = i) (o0 : f0.offset = 0) (e1 : f1.type = i) (o1 : f1.offset = 1) (hv : Value.okWide P w r b0 t v) (h : DataW.Trod enc P w base spare held t v d p) :
    ∃ a b c : Int, v = .agg #[.int .i64 a, .int .i64 b, .int .i64 c] ∧ (Lit.int .i64 a).wf = true ∧ (Lit.int .i64 b).wf = true ∧ (Lit.int .i64 c).wf = true := by
  obtain ⟨cs, rfl, -⟩ := okWide_struct hs hv
  obtain ⟨fuel, h⟩ := h
  obtain ⟨xs, n, -, -, hl, hn, hf⟩ := DataW.trod_struct hs h
  rw [hC] at hl
  obtain ⟨cs⟩ := cs
  match cs, hl with
  | [c0, c1, c2], _ =>
    match xs, hn with
    | [x0, x1], _ =>
      have k0 := hf 0 g0 rfl
      have k1 := hf 1 g1 rfl
      rw [d0, q0, hU] at k0
      rw [d1, q1, hc] at k1
      obtain ⟨a, b, hab, wa, wb⟩ := cells_pair hu hU hI hc e0 o0 e1 o1 (x := x0) (by simpa [Value.cells] using k0)
      obtain ⟨c, hc', -, wc⟩ := DataW.trod_int hI (x := x1) (by simpa [Value.cells] using k1)
      simp at hab hc'
      obtain ⟨rfl, rfl⟩ := hab
      subst hc'
      exact ⟨a, b, c, rfl, wa, wb, wc⟩
end

/-- A slice of bytes that came in: nil and empty, or a row whose first len cells are bytes. -/
def BytesAt (w : World) (a : Option Addr) (len cap : Nat) : Prop :=
  (a = none → len = 0 ∧ cap = 0) ∧ len ≤ cap ∧ cap ≤ maxLen ∧ ∀ x, a = some x → ∀ i, i < len → ∃ c : Int, 0 ≤ c ∧ c ≤ 255 ∧ w.cell? (x.add i) = some (.int .u8 c)

theorem bytesAt_of {H : Type} {enc : TypeId × Value → H} {P : Program} {w : World} {spare : Nat → Bool} {held : Bool} {base : Nat} {t e : TypeId} {a : Option Addr} {len cap : Nat} {d : DataW H} {p : List MemPlace}
    (ht : P.underlying t = some (.slice e)) (he : P.underlying e = some (.int .u8)) (hc : P.cellsOf e = 1) (h : DataW.Trod enc P w base spare held t (.slice a len cap) d p) : BytesAt w a len cap := by
  obtain ⟨fuel, hf⟩ := h
  rcases DataW.trod_slice ht (by simpa [Value.cells] using hf) with ⟨hcs, -⟩ | ⟨x, l, c, elems, rest, n, -, hcs, -, -, hl, hm, hlen, hel, -⟩
  · simp at hcs
    obtain ⟨rfl, rfl, rfl⟩ := hcs
    exact ⟨fun _ => ⟨rfl, rfl⟩, Nat.le_refl _, by simp [maxLen], fun x hx => by cases hx⟩
  · simp at hcs
    obtain ⟨rfl, rfl, rfl⟩ := hcs
    refine ⟨(fun h => by cases h), hl, hm, fun y hy i hi => ?_⟩
    cases hy
    have h1 := hel i hi
    rw [hc, Nat.mul_one] at h1
    have hi' : i < elems.length := by omega
    rw [List.getElem?_eq_getElem hi', Option.bind_eq_some_iff] at h1
    obtain ⟨cs, hcs, hd⟩ := h1
    obtain ⟨m, rfl, -, wm⟩ := DataW.trod_int he hd
    obtain ⟨-, -, hat⟩ := World.cells?_some hcs
    have hcell := hat 0 (by omega)
    refine ⟨m, ?_, ?_, by simpa [Addr.add] using hcell⟩
    · simp [Lit.wf, IntKind.min, IntKind.signed] at wm; omega
    · simp [Lit.wf, IntKind.max, IntKind.signed, IntKind.bits] at wm; omega
end Go.Proofs.Ytljkjnlghcogbaa
