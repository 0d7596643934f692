import Derived.Test.YtjopcpoodhamcaaDoorRows
import Derived.WalkKit
import Derived.ProofKit
import Derived.OpenShut
import Derived.Lib.SmallJoins
import Derived.Test.YtjopcpoodhamcaaDoorValid
import Derived.Handy
import Derived.Deep.QuietTactic
import Derived.BigQuiet
/-
  What the laws' shells share: the program's two closed facts, and the opening of arguments that are structs of integers. Conditions: none.
-/
namespace Go.Proofs.YtjopcpoodhamcaaDoor
set_option linter.unusedSimpArgs false
set_option linter.unusedVariables false
open Go.ChangeShapes Go.WideShapes Go.ChangeAt Go.RowKit Go.Joins

theorem own : ownKnob Tryd.prog.godebug = none := by kernel_rfl
theorem laidOut : laidOutB Tryd.prog = true := by kernel_rfl

section
variable {H : Type} {enc : TypeId × Value → H} {P : Program} {w : World} {base : Nat} {spare : Nat → Bool} {held : Bool}

theorem cells_pair {t i : TypeId} {f0 f1 : Field} {fuel : Nat} {cs : List Value} {x : DataW H × List MemPlace} (hs : P.underlying t = some (.struct #[f0, f1])) (hC : P.cellsOf t = 2) (hI : P.underlying i = some (.int .i64)) (hc : P.cellsOf i = 1)
    (e0 : f0.type = i) (o0 : f0.offset = 0) (e1 : f1.type = i) (o1 : f1.offset = 1) (h : DataW.trod enc P w base spare held fuel t cs = some x) :
    ∃ a b : Int, cs = [.int .i64 a, .int .i64 b] ∧ (Lit.int .i64 a).wf = true ∧ (Lit.int .i64 b).wf = true := by
  obtain ⟨xs, n, -, -, hl, hn, hf⟩ := DataW.trod_struct hs h
  rw [hC] at hl
  match cs, hl with
  | [c0, c1], _ =>
    match xs, hn with
    | [x0, x1], _ =>
      have g0 := hf 0 f0 rfl
      have g1 := hf 1 f1 rfl
      rw [e0, o0, hc] at g0
      rw [e1, o1, hc] at g1
      obtain ⟨a, ha, -, wa⟩ := DataW.trod_int hI (x := x0) (by simpa using g0)
      obtain ⟨b, hb, -, wb⟩ := DataW.trod_int hI (x := x1) (by simpa using g1)
      simp at ha hb
      subst ha hb
      exact ⟨a, b, rfl, wa, wb⟩

theorem open_pair {r : Reach} {b0 : Nat} {t i : TypeId} {f0 f1 : Field} {v : Value} {d : DataW H} {p : List MemPlace} (hs : P.underlying t = some (.struct #[f0, f1])) (hC : P.cellsOf t = 2) (hI : P.underlying i = some (.int .i64)) (hc : P.cellsOf i = 1)
    (e0 : f0.type = i) (o0 : f0.offset = 0) (e1 : f1.type = i) (o1 : f1.offset = 1) (hv : Value.okWide P w r b0 t v) (h : DataW.Trod enc P w base spare held t v d p) :
    ∃ a b : Int, v = .agg #[.int .i64 a, .int .i64 b] ∧ (Lit.int .i64 a).wf = true ∧ (Lit.int .i64 b).wf = true := by
  obtain ⟨cs, rfl, -⟩ := okWide_struct hs hv
  obtain ⟨fuel, hf⟩ := h
  obtain ⟨a, b, hcs, wa, wb⟩ := cells_pair hs hC hI hc e0 o0 e1 o1 hf
  exact ⟨a, b, by simp only [Value.cells] at hcs; rw [← Array.toArray_toList (xs := cs), hcs], wa, wb⟩

theorem open_triple {r : Reach} {b0 : Nat} {t u i : TypeId} {f0 f1 g0 g1 : Field} {v : Value} {d : DataW H} {p : List MemPlace} (hs : P.underlying t = some (.struct #[g0, g1])) (hC : P.cellsOf t = 3) (hu : P.underlying u = some (.struct #[f0, f1])) (hU : P.cellsOf u = 2)
    (hI : P.underlying i = some (.int .i64)) (hc : P.cellsOf i = 1) (d0 : g0.type = u) (q0 : g0.offset = 0) (d1 : g1.type = i) (q1 : g1.offset = 2)
    (e0 : f0.type = i) (o0 : f0.offset = 0) (e1 : f1.type = i) (o1 : f1.offset = 1) (hv : Value.okWide P w r b0 t v) (h : DataW.Trod enc P w base spare held t v d p) :
    ∃ a b c : Int, v = .agg #[.int .i64 a, .int .i64 b, .int .i64 c] ∧ (Lit.int .i64 a).wf = true ∧ (Lit.int .i64 b).wf = true ∧ (Lit.int .i64 c).wf = true := by
  obtain ⟨cs, rfl, -⟩ := okWide_struct hs hv
  obtain ⟨fuel, h⟩ := h
  obtain ⟨xs, n, -, -, hl, hn, hf⟩ := DataW.trod_struct hs h
  rw [hC] at hl
  obtain ⟨cs⟩ := cs
  match cs, hl with
  | [c0, c1, c2], _ =>
    match xs, hn with
    | [x0, x1], _ =>
      have k0 := hf 0 g0 rfl
      have k1 := hf 1 g1 rfl
      rw [d0, q0, hU] at k0
      rw [d1, q1, hc] at k1
      obtain ⟨a, b, hab, wa, wb⟩ := cells_pair hu hU hI hc e0 o0 e1 o1 (x := x0) (by simpa [Value.cells] using k0)
      obtain ⟨c, hc', -, wc⟩ := DataW.trod_int hI (x := x1) (by simpa [Value.cells] using k1)
      simp at hab hc'
      obtain ⟨rfl, rfl⟩ := hab
      subst hc'
      exact ⟨a, b, c, rfl, wa, wb, wc⟩
end

/-- A slice of bytes that came in: nil and empty, or a row whose first len cells are bytes. -/
def BytesAt (w : World) (a : Option Addr) (len cap : Nat) : Prop :=
  (a = none → len = 0 ∧ cap = 0) ∧ len ≤ cap ∧ cap ≤ maxLen ∧ ∀ x, a = some x → ∀ i, i < len → ∃ c : Int, 0 ≤ c ∧ c ≤ 255 ∧ w.cell? (x.add i) = some (.int .u8 c)

theorem bytesAt_of {H : Type} {enc : TypeId × Value → H} {P : Program} {w : World} {spare : Nat → Bool} {held : Bool} {base : Nat} {t e : TypeId} {a : Option Addr} {len cap : Nat} {d : DataW H} {p : List MemPlace}
    (ht : P.underlying t = some (.slice e)) (he : P.underlying e = some (.int .u8)) (hc : P.cellsOf e = 1) (h : DataW.Trod enc P w base spare held t (.slice a len cap) d p) : BytesAt w a len cap := by
  obtain ⟨fuel, hf⟩ := h
  rcases DataW.trod_slice ht (by simpa [Value.cells] using hf) with ⟨hcs, -⟩ | ⟨x, l, c, elems, rest, n, -, hcs, -, -, hl, hm, hlen, hel, -⟩
  · simp at hcs
    obtain ⟨rfl, rfl, rfl⟩ := hcs
    exact ⟨fun _ => ⟨rfl, rfl⟩, Nat.le_refl _, by simp [maxLen], fun x hx => by cases hx⟩
  · simp at hcs
    obtain ⟨rfl, rfl, rfl⟩ := hcs
    refine ⟨(fun h => by cases h), hl, hm, fun y hy i hi => ?_⟩
    cases hy
    have h1 := hel i hi
    rw [hc, Nat.mul_one] at h1
    have hi' : i < elems.length := by omega
    rw [List.getElem?_eq_getElem hi', Option.bind_eq_some_iff] at h1
    obtain ⟨cs, hcs, hd⟩ := h1
    obtain ⟨m, rfl, -, wm⟩ := DataW.trod_int he hd
    obtain ⟨-, -, hat⟩ := World.cells?_some hcs
    have hcell := hat 0 (by omega)
    refine ⟨m, ?_, ?_, by simpa [Addr.add] using hcell⟩
    · simp [Lit.wf, IntKind.min, IntKind.signed] at wm; omega
    · simp [Lit.wf, IntKind.max, IntKind.signed, IntKind.bits] at wm; omega
end Go.Proofs.YtjopcpoodhamcaaDoor

/-
  The walks of the reader of codes: l6Open and pick. Conditions: none.
-/
namespace Go.Proofs.YtjopcpoodhamcaaDoor
set_option linter.unusedSimpArgs false
set_option linter.unusedVariables false
open Go.RowKit

theorem add_none (b off i : Nat) : (⟨b, off, none⟩ : Addr).add i = ⟨b, off + i, none⟩ := by
  unfold Addr.add; split
  · rename_i h; rw [h]; rfl
  · rfl
theorem add_block (x : Addr) (i : Nat) : (x.add i).block = x.block := by
  unfold Addr.add; split <;> rfl

/-- A reader at block rb: its bytes, and its place. -/
structure Rd (w : World) (rb : Nat) (a : Option Addr) (len cap : Nat) (p : Int) : Prop where
  slice : w.cell? ⟨rb, 0, none⟩ = some (.slice a len cap)
  place : w.cell? ⟨rb, 1, none⟩ = some (.int .i64 p)
  free : w.frozen? ⟨rb, 1, none⟩ = false
  bytes : ∀ x, a = some x → ∀ i, i < len → x.spot = none ∧ x.block ≠ rb ∧ ∃ c : Int, 0 ≤ c ∧ c ≤ 255 ∧ w.cell? (x.add i) = some (.int .u8 c)
  nil : a = none → len = 0
  short : len ≤ 2000

theorem Rd.lt {w : World} {rb : Nat} {a : Option Addr} {len cap : Nat} {p : Int} (h : Rd w rb a len cap p) : rb < w.heap.size := World.block_lt_of_cell? w _ h.place

theorem xor_i64_nonneg (a b : Int) (ha : 0 ≤ a) (ha1 : a < 9223372036854775808) (hb : 0 ≤ b) (hb1 : b < 9223372036854775808) : 0 ≤ bits .xor .i64 a b := by
  obtain ⟨m, rfl⟩ := Int.eq_ofNat_of_zero_le ha
  obtain ⟨n, rfl⟩ := Int.eq_ofNat_of_zero_le hb
  have hx : m ^^^ n < 2 ^ 63 := Nat.xor_lt_two_pow (by omega) (by omega)
  have h1 : (BitVec.ofInt 64 (m : Int)).toNat = m := by
    rw [BitVec.ofInt_natCast, BitVec.toNat_ofNat]; exact Nat.mod_eq_of_lt (by omega)
  have h2 : (BitVec.ofInt 64 (n : Int)).toNat = n := by
    rw [BitVec.ofInt_natCast, BitVec.toNat_ofNat]; exact Nat.mod_eq_of_lt (by omega)
  show 0 ≤ IntKind.i64.wrap ((BitVec.ofInt 64 (m : Int) ^^^ BitVec.ofInt 64 (n : Int)).toNat : Int)
  rw [BitVec.toNat_xor, h1, h2, IntKind.wrap_i64]
  omega

theorem Rd.alloc {w : World} {rb : Nat} {a : Option Addr} {len cap : Nat} {p : Int} (h : Rd w rb a len cap p) (o : Obj) : Rd (w.alloc o) rb a len cap p := by
  have hb := (Below.refl w.heap.size w).alloc (Nat.le_refl _) o
  have hl := h.lt
  refine ⟨(hb.cell (p := ⟨rb, 0, none⟩) hl).trans h.slice, (hb.cell (p := ⟨rb, 1, none⟩) hl).trans h.place, (hb.frozen (p := ⟨rb, 1, none⟩) hl).trans h.free, fun x e i hi => ?_, h.nil, h.short⟩
  obtain ⟨h1, h2, c, d0, d1, hc⟩ := h.bytes x e i hi
  exact ⟨h1, h2, c, d0, d1, (hb.cell (World.block_lt_of_cell? w _ hc)).trans hc⟩
theorem Rd.set {w0 w : World} {rb : Nat} {a : Option Addr} {len cap : Nat} {p0 p : Int} (h0 : Rd w0 rb a len cap p0) (h : Rd w rb a len cap p) {q : Addr} {u : Value} (hq : w0.heap.size ≤ q.block) : Rd (w.setCell q u) rb a len cap p := by
  have hk : ∀ y : Addr, y.block ≠ q.block → (w.setCell q u).cell? y = w.cell? y := fun y hy => World.cell?_setCell_other w q y u (fun e => hy (by rw [e]))
  have hl := h0.lt
  have hr : rb ≠ q.block := by omega
  refine ⟨(hk _ hr).trans h.slice, (hk _ hr).trans h.place, (World.frozen?_setCell w _ _ _).trans h.free, fun x e i hi => ?_, h.nil, h.short⟩
  obtain ⟨h1, h2, c, d0, d1, hc⟩ := h.bytes x e i hi
  obtain ⟨_, _, c9, _, _, hc0⟩ := h0.bytes x e i hi
  have hb := World.block_lt_of_cell? w0 _ hc0
  rw [add_block] at hb
  exact ⟨h1, h2, c, d0, d1, (hk _ (by rw [add_block]; omega)).trans hc⟩
theorem Rd.drew {w : World} {rb : Nat} {a : Option Addr} {len cap : Nat} {p : Int} (h : Rd w rb a len cap p) : Rd w.drew rb a len cap p := ⟨h.slice, h.place, h.free, h.bytes, h.nil, h.short⟩
theorem Rd.below {w w1 : World} {rb : Nat} {a : Option Addr} {len cap : Nat} {p : Int} (h : Rd w rb a len cap p) (hb : Below w.heap.size w w1) : Rd w1 rb a len cap p := by
  have hl := h.lt
  refine ⟨(hb.cell (p := ⟨rb, 0, none⟩) hl).trans h.slice, (hb.cell (p := ⟨rb, 1, none⟩) hl).trans h.place, (hb.frozen (p := ⟨rb, 1, none⟩) hl).trans h.free, fun x e i hi => ?_, h.nil, h.short⟩
  obtain ⟨h1, h2, c, d0, d1, hc⟩ := h.bytes x e i hi
  exact ⟨h1, h2, c, d0, d1, (hb.cell (World.block_lt_of_cell? w _ hc)).trans hc⟩
/-- Of what the reader alone turns nothing else turns. -/
theorem gcell {W w1 : World} {rb : Nat} (hg : W.grownBy w1 (some rb)) : (∀ b o, b < W.heap.size → rb < b → w1.cell? ⟨b, o, none⟩ = W.cell? ⟨b, o, none⟩) ∧ (∀ b o, b < W.heap.size → rb < b → w1.frozen? ⟨b, o, none⟩ = W.frozen? ⟨b, o, none⟩) :=
  ⟨fun b o h h2 => World.cell?_of_block (hg.block b h (by simp; omega)), fun b o h h2 => World.frozen?_of_block (hg.block b h (by simp; omega))⟩
theorem ncell {W w1 : World} {rb : Nat} (hg : W.grownBy w1 (some rb)) : (∀ b o, b < W.heap.size → b ≠ rb → w1.cell? ⟨b, o, none⟩ = W.cell? ⟨b, o, none⟩) ∧ (∀ b o, b < W.heap.size → b ≠ rb → w1.frozen? ⟨b, o, none⟩ = W.frozen? ⟨b, o, none⟩) :=
  ⟨fun b o h h2 => World.cell?_of_block (hg.block b h (by simpa using h2)), fun b o h h2 => World.frozen?_of_block (hg.block b h (by simpa using h2))⟩
/-- Nothing but the reader has turned of what was there. -/
structure But (B rb : Nat) (w w' : World) : Prop where
  os : w'.os = w.os
  tape : w'.tape = w.tape
  output : w'.output = w.output
  size : w.heap.size ≤ w'.heap.size
  block : ∀ k, k < B → k ≠ rb → w'.heap[k]? = w.heap[k]?
theorem But.refl (B rb : Nat) (w : World) : But B rb w w := ⟨rfl, rfl, rfl, Nat.le_refl _, fun _ _ _ => rfl⟩
theorem But.trans {B rb : Nat} {a b c : World} (h : But B rb a b) (k : But B rb b c) : But B rb a c := ⟨k.os.trans h.os, k.tape.trans h.tape, k.output.trans h.output, Nat.le_trans h.size k.size, fun i hi hn => (k.block i hi hn).trans (h.block i hi hn)⟩
theorem But.below {B B' rb : Nat} {a b c : World} (h : But B rb a b) (k : Below B' b c) (hB : B ≤ B') : But B rb a c := h.trans ⟨k.os, k.tape, k.output, k.size, fun i hi _ => k.block i (by omega)⟩
theorem But.grown {B rb : Nat} {a b c : World} (h : But B rb a b) (k : b.grownBy c (some rb)) (hB : B ≤ b.heap.size) : But B rb a c := h.trans ⟨k.os, k.tape, k.output, k.size, fun i hi hn => k.block i (by omega) (by simpa using hn)⟩
theorem But.alloc {B rb : Nat} {a w : World} (h : But B rb a w) (hB : B ≤ w.heap.size) (o : Obj) : But B rb a (w.alloc o) := h.below ((Below.refl B w).alloc hB o) (Nat.le_refl _)
theorem But.setCell {B rb : Nat} {a w : World} (h : But B rb a w) {p : Addr} (hp : B ≤ p.block) (u : Value) : But B rb a (w.setCell p u) := h.below ((Below.refl B w).setCell hp u) (Nat.le_refl _)
theorem But.drew {B rb : Nat} {a w : World} (h : But B rb a w) : But B rb a w.drew := h.below ((Below.refl B w).drew) (Nat.le_refl _)
theorem But.out {B rb : Nat} {a w : World} (h : But B rb a w) (hb : B ≤ rb) : Below B a w := ⟨h.os, h.tape, h.output, h.size, fun k hk => h.block k hk (by omega)⟩
theorem But.isGrown {rb : Nat} {a w : World} (h : But a.heap.size rb a w) : a.grownBy w (some rb) := ⟨h.os, h.tape, h.output, h.size, fun k hk hn => h.block k hk (by simpa using hn)⟩

set_option maxHeartbeats 1000000 in
theorem pick_any (rb : Nat) (a : Option Addr) (len cap : Nat) (p n : Int) (w : World) (hr : Rd w rb a len cap p) (p0 : 0 ≤ p) (p1 : p ≤ 1000000) (n1 : n ≤ 1000000) :
    Calls Tryd.prog 45 #[.pointer (some ⟨rb, 0, none⟩), .int .i64 n] w fun e w' => ∃ x : Int, e = .returned (.int .i64 x) ∧ 0 ≤ x ∧ (1 ≤ n → x < n) ∧ (n < 1 → x = 0) ∧
      w.grownBy w' (some rb) ∧ Rd w' rb a len cap (p + 1) := by
  have c0 := hr.slice
  have c1 := hr.place
  have f1 := hr.free
  have hlen := hr.short
  have hq0 : (w.setCell ⟨rb, 1, none⟩ (.int .i64 (p + 1))).cell? ⟨rb, 0, none⟩ = some (.slice a len cap) := by rw [cell_set]; simpa using c0
  have hfin : ∀ m : Nat, w.grownBy ((w.setCell ⟨rb, 1, none⟩ (.int .i64 (p + 1))).drewN m) (some rb) ∧ Rd ((w.setCell ⟨rb, 1, none⟩ (.int .i64 (p + 1))).drewN m) rb a len cap (p + 1) := by
    intro m
    refine ⟨⟨rfl, rfl, rfl, by simp [size_drewN], fun k hk hne => Below.heap_setCell _ _ _ _ (by simpa using hne)⟩, ?_⟩
    have hx : ∀ q, ((w.setCell ⟨rb, 1, none⟩ (.int .i64 (p + 1))).drewN m).cell? q = (w.setCell ⟨rb, 1, none⟩ (.int .i64 (p + 1))).cell? q := fun q => rfl
    refine ⟨hq0, by rw [hx, cell_set, if_pos rfl, c1]; rfl, (World.frozen?_setCell w _ _ _).trans f1, fun x e i hi => ?_, hr.nil, hlen⟩
    obtain ⟨h1, h2, c, d0, d1, hc⟩ := hr.bytes x e i hi
    refine ⟨h1, h2, c, d0, d1, ?_⟩
    rw [hx, cell_set, if_neg (fun e => h2 (by rw [← add_block x i, ← e]))]
    exact hc
  have H := Lib.hid hfin
  clear hfin
  by_cases hn : n < 1
  · go_enter Tryd.func45, Tryd.ntmps45
    go_wp2
    go_ret
    exact ⟨0, rfl, by omega, by omega, by omega, (H.out 0).1, (H.out 0).2⟩
  · have hn' : 1 ≤ n := by omega
    clear hn
    by_cases hl : len = 0
    · subst hl
      go_enter Tryd.func45, Tryd.ntmps45
      go_wp2
      go_ret
      exact ⟨0, rfl, by omega, by omega, by omega, (H.out 0).1, (H.out 0).2⟩
    · have hl0 : ((len : Int) == 0) = false := by simp; omega
      cases a with
      | none => exact absurd (hr.nil rfl) hl
      | some x =>
        obtain ⟨b, off, sp⟩ := x
        have hbytes0 := hr.bytes _ rfl
        obtain ⟨hs, hb, -⟩ := hbytes0 0 (by omega)
        simp only at hs hb
        subst hs
        have hbytes : ∀ i, i < len → ∃ c : Int, 0 ≤ c ∧ c ≤ 255 ∧ w.cell? ((⟨b, off, none⟩ : Addr).add i) = some (.int .u8 c) := fun i hi => (hbytes0 i hi).2.2
        clear hbytes0
        by_cases hk : p < len
        · obtain ⟨c, d0, d1, hc⟩ := hbytes p.toNat (by omega)
          have hcell : (w.setCell ⟨rb, 1, none⟩ (.int .i64 (p + 1))).cell? ⟨b, off + p.toNat, none⟩ = some (.int .u8 c) := by
            rw [cell_set, if_neg (by simp; first | done | omega)]; simpa [add_none] using hc
          clear hbytes hc
          go_enter Tryd.func45, Tryd.ntmps45
          go_wp2
          go_ret
          exact ⟨c % n, rfl, Int.emod_nonneg _ (by omega), fun _ => Int.emod_lt_of_pos _ (by omega), fun h => by omega, (H.out 0).1, (H.out 0).2⟩
        · have hk' : (len : Int) ≤ p := by omega
          have l1 : (1 : Int) ≤ (len : Int) := by omega
          have i0 : 0 ≤ p % (len : Int) := Int.emod_nonneg _ (by omega)
          have i1 : p % (len : Int) < (len : Int) := Int.emod_lt_of_pos _ (by omega)
          have j0 : 0 ≤ (p * 7 + 3) % (len : Int) := Int.emod_nonneg _ (by omega)
          have j1 : (p * 7 + 3) % (len : Int) < (len : Int) := Int.emod_lt_of_pos _ (by omega)
          have r0 : 0 ≤ p / (len : Int) := Int.ediv_nonneg p0 (by omega)
          have r1 : p / (len : Int) ≤ p := Int.ediv_le_self _ p0
          obtain ⟨c, d0, d1, hc⟩ := hbytes (p % (len : Int)).toNat (by omega)
          obtain ⟨c', d2, d3, hc'⟩ := hbytes ((p * 7 + 3) % (len : Int)).toNat (by omega)
          have hcell : (w.setCell ⟨rb, 1, none⟩ (.int .i64 (p + 1))).cell? ⟨b, off + (p % (len : Int)).toNat, none⟩ = some (.int .u8 c) := by
            rw [cell_set, if_neg (by simp; first | done | omega)]; simpa [add_none] using hc
          have hcell' : (w.setCell ⟨rb, 1, none⟩ (.int .i64 (p + 1))).cell? ⟨b, off + ((p * 7 + 3) % (len : Int)).toNat, none⟩ = some (.int .u8 c') := by
            rw [cell_set, if_neg (by simp; first | done | omega)]; simpa [add_none] using hc'
          clear hbytes hc hc'
          go_enter Tryd.func45, Tryd.ntmps45
          go_wp2
          go_quiet (fail)
          go_wp2
          go_ret
          have hx : 0 ≤ bits .xor .i64 (c * 131 + c' * 1117 + p * 29 + p / (len : Int) * 53) ((c * 131 + c' * 1117 + p * 29 + p / (len : Int) * 53) / 64) := xor_i64_nonneg _ _ (by omega) (by omega) (by omega) (by omega)
          exact ⟨_, rfl, Int.tmod_nonneg _ hx, fun _ => Int.tmod_lt_of_pos _ (by omega), fun h => by omega, (H.out nq).1, (H.out nq).2⟩
set_option maxHeartbeats 400000 in
theorem l6Open_any (a : Option Addr) (len cap : Nat) (w : World) (hb : BytesAt w a len cap) :
    Calls Tryd.prog 28 #[.slice a len cap] w fun e w' => ∃ (rb : Nat) (m c : Nat), e = .returned (.pointer (some ⟨rb, 0, none⟩)) ∧ Rd w' rb a m c 0 ∧ w.heap.size ≤ rb ∧ Below w.heap.size w w' := by
  obtain ⟨hn, hlc, hcm, hcell⟩ := hb
  have hkey : ∀ (o : Obj) x, a = some x → ∀ i, i < len → x.spot = none ∧ x.block ≠ w.heap.size ∧ ∃ c : Int, 0 ≤ c ∧ c ≤ 255 ∧ (w.alloc o).cell? (x.add i) = some (.int .u8 c) := by
    intro o x e i hi
    obtain ⟨c, c0, c1, hc⟩ := hcell x e i hi
    obtain ⟨c', -, -, hc'⟩ := hcell x e 0 (by omega)
    have hlt := World.block_lt_of_cell? w _ hc
    rw [add_block] at hlt
    refine ⟨by simpa [Addr.add] using World.cell?_spot hc', by omega, c, c0, c1, ?_⟩
    rw [((Below.refl w.heap.size w).alloc (Nat.le_refl _) o).cell (p := x.add i) (by rw [add_block]; exact hlt)]
    exact hc
  have KEY := Lib.hid hkey
  clear hkey
  have HC := Lib.hid hcell
  have HN := Lib.hid hn
  clear hcell hn
  unfold maxLen at hcm
  by_cases h : 2000 < len
  · go_enter Tryd.func28, Tryd.ntmps28
    go_wp2
    go_ret
    exact ⟨w.heap.size, 2000, cap, rfl, ⟨by simp, by simp, by simp, fun x e i hi => KEY.out _ x e i (by omega), fun e => by have := (HN.out e).1; omega, by omega⟩, Nat.le_refl _, by (repeat' first | (with_reducible exact Below.refl _ _) | (with_reducible assumption) | (with_reducible refine below_drewN ?_ _) | (with_reducible refine Below.drew ?_) | (with_reducible refine Below.alloc ?_ ?_ _) | (with_reducible refine Below.setCell ?_ ?_ _) | (with_reducible refine Below.trans ?_ (Below.mono (by assumption) ?_)) | first | omega | (simp only [World.size_alloc, World.size_setCell, World.size_drew, size_drewN]; omega) | (simp; done) | (simp; omega) | (simp only [World.size_alloc, World.size_setCell, World.size_drew, size_drewN] at *; omega) | (simp at *; omega))⟩
  · go_enter Tryd.func28, Tryd.ntmps28
    go_wp2
    go_ret
    exact ⟨w.heap.size, len, cap, rfl, ⟨by simp, by simp, by simp, fun x e i hi => KEY.out _ x e i (by omega), fun e => (HN.out e).1, by omega⟩, Nat.le_refl _, by (repeat' first | (with_reducible exact Below.refl _ _) | (with_reducible assumption) | (with_reducible refine below_drewN ?_ _) | (with_reducible refine Below.drew ?_) | (with_reducible refine Below.alloc ?_ ?_ _) | (with_reducible refine Below.setCell ?_ ?_ _) | (with_reducible refine Below.trans ?_ (Below.mono (by assumption) ?_)) | first | omega | (simp only [World.size_alloc, World.size_setCell, World.size_drew, size_drewN]; omega) | (simp; done) | (simp; omega) | (simp only [World.size_alloc, World.size_setCell, World.size_drew, size_drewN] at *; omega) | (simp at *; omega))⟩
end Go.Proofs.YtjopcpoodhamcaaDoor
