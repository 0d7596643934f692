/-
  The plain laws: numbers, pairs and lists, with no program in sight. Conditions: none.
-/
import Derived.Below
import Derived.Deep.Draws
import Derived.Calls
namespace Go.Proofs.YtjopcpoodhamcaaDoor
set_option linter.unusedSimpArgs false
set_option linter.unusedVariables false
open Go.RowKit

def inB (n lo hi : Int) : Bool := decide (lo ≤ n ∧ n ≤ hi)
def spB (j : Int) : Bool := decide (0 ≤ j ∧ j ≤ 24)
def tvB (s l : Int) : Bool := decide (0 ≤ s ∧ s ≤ 8 ∧ 0 ≤ l ∧ l ≤ 8)
def triB (a b c : Int) : Bool := decide (0 ≤ a ∧ a ≤ 24 ∧ 0 ≤ b ∧ b ≤ 24 ∧ 0 ≤ c ∧ c ≤ 24 ∧ (a + b + c) % 2 = 0 ∧ a ≤ b + c ∧ b ≤ a + c ∧ c ≤ a + b)
def lvB (s l j : Int) : Bool := tvB s l && triB (2 * l) s j
def shiftI (s l j : Int) : Int := if lvB s l j = true then j * (j + 2) - 2 * l * (2 * l + 2) - s * (s + 2) else 0
def intervalI (s l j : Int) : Int := if lvB s l j = true ∧ lvB s l (j - 2) = true then shiftI s l j - shiftI s l (j - 2) else 0

theorem inB_true {n lo hi : Int} (h : inB n lo hi = true) : lo ≤ n ∧ n ≤ hi := by simpa [inB] using h
theorem inB_false {n lo hi : Int} (h : inB n lo hi = false) : n < lo ∨ hi < n := by simp [inB] at h; omega
theorem spB_true {j : Int} (h : spB j = true) : 0 ≤ j ∧ j ≤ 24 := by simpa [spB] using h
theorem spB_false {j : Int} (h : spB j = false) : j < 0 ∨ 24 < j := by simp [spB] at h; omega
theorem spB_in (j : Int) : inB j 0 24 = spB j := rfl
theorem tvB_true {s l : Int} (h : tvB s l = true) : 0 ≤ s ∧ s ≤ 8 ∧ 0 ≤ l ∧ l ≤ 8 := by simpa [tvB] using h
theorem tvB_false {s l : Int} (h : tvB s l = false) : s < 0 ∨ 8 < s ∨ l < 0 ∨ 8 < l := by simp [tvB] at h; omega
theorem tvB_in (s l : Int) : tvB s l = (inB s 0 8 && inB l 0 8) := by
  rw [Bool.eq_iff_iff]; simp [tvB, inB]; omega
theorem triB_true {a b c : Int} (h : triB a b c = true) : 0 ≤ a ∧ a ≤ 24 ∧ 0 ≤ b ∧ b ≤ 24 ∧ 0 ≤ c ∧ c ≤ 24 ∧ (a + b + c) % 2 = 0 ∧ a ≤ b + c ∧ b ≤ a + c ∧ c ≤ a + b := by simpa [triB] using h
theorem triB_of {a b c : Int} (h : 0 ≤ a ∧ a ≤ 24 ∧ 0 ≤ b ∧ b ≤ 24 ∧ 0 ≤ c ∧ c ≤ 24 ∧ (a + b + c) % 2 = 0 ∧ a ≤ b + c ∧ b ≤ a + c ∧ c ≤ a + b) : triB a b c = true := by simpa [triB] using h
theorem triB_no {a b c : Int} (h : ¬ (0 ≤ a ∧ a ≤ 24 ∧ 0 ≤ b ∧ b ≤ 24 ∧ 0 ≤ c ∧ c ≤ 24 ∧ (a + b + c) % 2 = 0 ∧ a ≤ b + c ∧ b ≤ a + c ∧ c ≤ a + b)) : triB a b c = false := by simpa [triB] using h

theorem bcell {W w1 : World} (hb : Below W.heap.size W w1) : (∀ b o, b < W.heap.size → w1.cell? ⟨b, o, none⟩ = W.cell? ⟨b, o, none⟩) ∧ (∀ b o, b < W.heap.size → w1.frozen? ⟨b, o, none⟩ = W.frozen? ⟨b, o, none⟩) :=
  ⟨fun b o h => hb.cell (p := ⟨b, o, none⟩) h, fun b o h => hb.frozen (p := ⟨b, o, none⟩) h⟩

theorem sq_bd (j : Int) (h0 : 0 ≤ j) (h1 : j ≤ 100) : 0 ≤ j * (j + 2) ∧ j * (j + 2) ≤ 10200 :=
  ⟨Int.mul_nonneg h0 (by omega), Int.le_trans (Int.mul_le_mul h1 (show j + 2 ≤ 102 by omega) (by omega) (by omega)) (by decide)⟩
theorem lvB_true {s l j : Int} (h : lvB s l j = true) : tvB s l = true ∧ triB (2 * l) s j = true := by simpa [lvB] using h
theorem lvB_bd {s l j : Int} (h : lvB s l j = true) : 0 ≤ s ∧ s ≤ 8 ∧ 0 ≤ l ∧ l ≤ 8 ∧ 0 ≤ j ∧ j ≤ 24 := by
  obtain ⟨h1, h2⟩ := lvB_true h
  have a := tvB_true h1
  have b := triB_true h2
  omega

theorem below_drewN {B : Nat} {a w : World} (h : Below B a w) (n : Nat) : Below B a (w.drewN n) := ⟨h.os, h.tape, h.output, h.size, h.block⟩

theorem shiftI_bd (s l j : Int) : -30000 ≤ shiftI s l j ∧ shiftI s l j ≤ 30000 := by
  unfold shiftI
  split
  · rename_i h
    have := lvB_bd h
    have m1 := sq_bd j (by omega) (by omega)
    have m2 := sq_bd (2 * l) (by omega) (by omega)
    have m3 := sq_bd s (by omega) (by omega)
    omega
  · omega

theorem size_drewN (w : World) (n : Nat) : (w.drewN n).heap.size = w.heap.size := rfl

theorem cell_set (w : World) (a b : Addr) (v : Value) : (w.setCell a v).cell? b = if a = b then (w.cell? a).map (fun _ => v) else w.cell? b := by
  by_cases e : a = b
  · subst e
    rw [if_pos rfl]
    cases h : w.cell? a with
    | none =>
      cases hh : (w.setCell a v).cell? a with
      | none => rfl
      | some u =>
        exfalso
        unfold World.cell? at h hh
        simp only [World.setCell, Array.getElem?_modify] at hh
        rw [if_pos trivial] at hh
        cases hb : w.heap[a.block]? with
        | none => simp [hb] at hh
        | some o => cases o <;> simp_all
    | some u => exact World.cell?_setCell_same w a v h
  · rw [if_neg e]; exact World.cell?_setCell_other w a b v e

def absd (a b : Int) : Int := if a ≤ b then b - a else a - b
def steps (d : Int) (k : Nat) : List Int := (List.range k).map fun i : Nat => d + 2 * (i : Int)
def cMany (a b : Int) : Nat := (if a ≤ b then a else b).toNat + 1
def coupled (a b : Int) : List Int := if spB a = true ∧ spB b = true ∧ a + b ≤ 24 then steps (absd a b) (cMany a b) else []
theorem steps_succ (d : Int) (k : Nat) : steps d (k + 1) = steps d k ++ [d + 2 * (k : Int)] := by simp [steps, List.range_succ]
theorem steps_length (d : Int) (k : Nat) : (steps d k).length = k := by simp [steps]
theorem cMany_bd {a b : Int} (ha : spB a = true) (hb : spB b = true) : 1 ≤ cMany a b ∧ cMany a b ≤ 25 ∧ absd a b + 2 * ((cMany a b : Nat) : Int) = a + b + 2 ∧ 0 ≤ absd a b := by
  have := spB_true ha
  have := spB_true hb
  unfold cMany absd
  split <;> omega
def vI (xs : List Int) : List Value := xs.map (Value.int .i64)
theorem vI_append (xs ys : List Int) : vI (xs ++ ys) = vI xs ++ vI ys := by simp [vI]
theorem vI_length (xs : List Int) : (vI xs).length = xs.length := by simp [vI]

theorem ret_int {k : IntKind} {a b : Int} (h : a = b) : Ending.returned (.int k a) = .returned (.int k b) := by rw [h]

theorem row_mono {w : World} {base base' : Nat} {e : TypeId} {size : Nat} {v : Value} {n : Nat} {xs : List Value} (h : w.ownsRow base e size v n xs) (hb : base' ≤ base) : w.ownsRow base' e size v n xs := by
  refine ⟨h.1, ?_⟩
  rcases h.2 with h2 | ⟨g, cap, cur, hv, hg, r⟩
  · exact .inl h2
  · exact .inr ⟨g, cap, cur, hv, Nat.le_trans hb hg, r⟩
theorem row_form {w : World} {base : Nat} {e : TypeId} {size : Nat} {v : Value} {n : Nat} {xs : List Value} (h : w.ownsRow base e size v n xs) (hn : 0 < n) :
    ∃ g cap, v = .slice (some ⟨g, 0, none⟩) n cap ∧ base ≤ g ∧ g < w.heap.size ∧ (∀ j, j < n * size → w.cell? ⟨g, j, none⟩ = xs[j]?) ∧ (∀ j, w.frozen? ⟨g, j, none⟩ = false) := by
  rcases h.2 with ⟨-, h0⟩ | ⟨g, cap, cur, rfl, hb, hh, hr⟩
  · omega
  · have h' : w.ownsRow base e size (.slice (some ⟨g, 0, none⟩) n cap) n xs := h
    exact ⟨g, cap, rfl, hb, (Array.getElem?_eq_some_iff.1 hh).1, fun j hj => h'.cellAt j hj, fun j => h'.frozenAt j⟩
theorem vI_steps (d : Int) (n k : Nat) (h : k < n) : (vI (steps d n))[k]? = some (.int .i64 (d + 2 * (k : Int))) := by simp [vI, steps, h]
theorem coupled_yes {a b : Int} (h1 : spB a = true) (h2 : spB b = true) (h3 : a + b ≤ 24) : coupled a b = steps (absd a b) (cMany a b) := by simp [coupled, h1, h2, h3]
/-- The levels of a term: the doubled angular momenta, ascending. -/
def lvJs (s l : Int) : List Int := if tvB s l = true then coupled (2 * l) s else []
theorem lvJs_yes {s l : Int} (h : tvB s l = true) : spB (2 * l) = true ∧ spB s = true ∧ 2 * l + s ≤ 24 ∧ lvJs s l = steps (absd (2 * l) s) (cMany (2 * l) s) := by
  have b := tvB_true h
  have h1 : spB (2 * l) = true := by simp [spB]; omega
  have h2 : spB s = true := by simp [spB]; omega
  exact ⟨h1, h2, by omega, by rw [lvJs, if_pos h, coupled_yes h1 h2 (by omega)]⟩
/-- Their cells. -/
def vL (s l : Int) (js : List Int) : List Value := js.flatMap fun j => [.int .i64 s, .int .i64 l, .int .i64 j]
theorem vL_append (s l : Int) (xs ys : List Int) : vL s l (xs ++ ys) = vL s l xs ++ vL s l ys := by simp [vL]

theorem grown_of_below {a w : World} (h : Below a.heap.size a w) (row : Option Nat) : a.grownBy w row := ⟨h.os, h.tape, h.output, h.size, fun i hi _ => h.block i hi⟩
theorem row_below {W w1 : World} {base : Nat} {e : TypeId} {size : Nat} {v : Value} {n : Nat} {xs : List Value} (h : W.ownsRow base e size v n xs) (hb : Below W.heap.size W w1) : w1.ownsRow base e size v n xs := by
  refine h.kept (grown_of_below hb none) ?_
  cases hv : v.ownBlock with
  | none => exact .inl rfl
  | some k => exact .inr (by simp)
/-- What a row that the call makes may turn: the block r, and new ones. -/
structure Grow (r : Nat) (w2 wr : World) (v : Value) : Prop where
  grown : w2.grownBy wr (some r)
  lies : ∀ j, v.ownBlock = some j → j = r ∨ w2.heap.size ≤ j
theorem Grow.step {r : Nat} {w2 wr w3 : World} {v : Value} {o : Obj} {g n cap : Nat} (h : Grow r w2 wr v) (hg : (wr.alloc o).grownBy w3 v.ownBlock) (hat : v.ownBlock = some g ∨ wr.heap.size ≤ g) : Grow r w2 w3 (.slice (some ⟨g, 0, none⟩) n cap) := by
  have hz := h.grown.size
  have hz2 := hg.size
  rw [World.size_alloc] at hz2
  refine ⟨⟨hg.os.trans h.grown.os, hg.tape.trans h.grown.tape, hg.output.trans h.grown.output, by omega, fun k hk hne => ?_⟩, fun j hj => ?_⟩
  · rw [hg.block k (by rw [World.size_alloc]; omega) (fun e => ?_), Below.heap_alloc _ _ _ (by omega), h.grown.block k hk hne]
    rcases h.lies k e.symm with rfl | h2
    · exact hne rfl
    · omega
  · simp [Value.ownBlock] at hj
    subst hj
    rcases hat with h1 | h1
    · exact h.lies _ h1
    · exact .inr (by omega)
theorem Grow.below {r : Nat} {w2 wr : World} {v : Value} (h : Grow r w2 wr v) {B : Nat} (hB : B ≤ r) (hB2 : B ≤ w2.heap.size) : Below B w2 wr :=
  ⟨h.grown.os, h.grown.tape, h.grown.output, h.grown.size, fun k hk => h.grown.block k (by omega) (by simp; omega)⟩
theorem Grow.cell {r : Nat} {w2 wr : World} {v : Value} (h : Grow r w2 wr v) {b o : Nat} (hb : b < w2.heap.size) (hr : b ≠ r) : wr.cell? ⟨b, o, none⟩ = w2.cell? ⟨b, o, none⟩ :=
  World.cell?_of_block (h.grown.block b hb (by simpa using hr))
theorem Grow.start (w2 : World) (r n cap : Nat) : Grow r w2 w2 (.slice (some ⟨r, 0, none⟩) n cap) :=
  ⟨⟨rfl, rfl, rfl, Nat.le_refl _, fun _ _ _ => rfl⟩, fun j hj => by simp [Value.ownBlock] at hj; exact .inl hj.symm⟩
theorem Grow.nil (w2 : World) (r : Nat) : Grow r w2 w2 (.slice none 0 0) :=
  ⟨⟨rfl, rfl, rfl, Nat.le_refl _, fun _ _ _ => rfl⟩, fun j hj => by simp [Value.ownBlock] at hj⟩
theorem Grow.drew {r : Nat} {w2 wr : World} {v : Value} (h : Grow r w2 wr v) : Grow r w2 wr.drew v := ⟨⟨h.grown.os, h.grown.tape, h.grown.output, h.grown.size, h.grown.block⟩, h.lies⟩

theorem vL_length (s l : Int) : ∀ js : List Int, (vL s l js).length = js.length * 3
  | [] => rfl
  | j :: r => by have := vL_length s l r; simp only [vL, List.flatMap_cons, List.length_append, List.length_cons, List.length_nil] at *; omega
theorem vL_get (s l : Int) : ∀ (js : List Int) (k : Nat) (j : Int), js[k]? = some j → (vL s l js)[k * 3]? = some (.int .i64 s) ∧ (vL s l js)[k * 3 + 1]? = some (.int .i64 l) ∧ (vL s l js)[k * 3 + 2]? = some (.int .i64 j)
  | [], k, j, h => by simp at h
  | j0 :: r, 0, j, h => by simp at h; subst h; exact ⟨rfl, rfl, rfl⟩
  | j0 :: r, k + 1, j, h => by
    have ih := vL_get s l r k j (by simpa using h)
    have e : ∀ i, (vL s l (j0 :: r))[(k + 1) * 3 + i]? = (vL s l r)[k * 3 + i]? := fun i => by
      rw [show (k + 1) * 3 + i = (k * 3 + i) + 1 + 1 + 1 by omega]; rfl
    exact ⟨by have := e 0; simp only [Nat.add_zero] at this; rw [this]; exact ih.1, by rw [e 1]; exact ih.2.1, by rw [e 2]; exact ih.2.2⟩

theorem row_len {w : World} {base : Nat} {e : TypeId} {size : Nat} {v : Value} {n : Nat} {xs : List Value} (h : w.ownsRow base e size v n xs) : ∃ a cap, v = .slice a n cap := by
  rcases h.2 with ⟨rfl, rfl⟩ | ⟨g, cap, cur, rfl, -⟩
  · exact ⟨_, _, rfl⟩
  · exact ⟨_, _, rfl⟩

theorem ret_bool {b c : Bool} (h : b = c) : Ending.returned (.bool b) = .returned (.bool c) := by rw [h]
theorem lvJs_get {s l : Int} {k : Nat} {j : Int} (h : (lvJs s l)[k]? = some j) : tvB s l = true ∧ j = absd (2 * l) s + 2 * (k : Int) ∧ 0 ≤ j ∧ j ≤ 24 ∧ lvB s l j = true ∧ (j - s) % 2 = 0 := by
  cases h1 : tvB s l
  · simp [lvJs, h1] at h
  · obtain ⟨q1, q2, q3, q4⟩ := lvJs_yes h1
    obtain ⟨m1, m2, m3, m4⟩ := cMany_bd q1 q2
    have b := tvB_true h1
    rw [q4] at h
    simp [steps] at h
    obtain ⟨i, hi, rfl⟩ := h
    obtain ⟨e1, e2⟩ := List.getElem?_eq_some_iff.1 hi
    simp at e1 e2
    subst e2
    refine ⟨rfl, rfl, by omega, by omega, ?_, ?_⟩
    · rw [lvB, h1, Bool.true_and]
      apply triB_of
      unfold absd cMany at *
      split at m3 <;> simp_all <;> omega
    · unfold absd at *
      split <;> omega

end Go.Proofs.YtjopcpoodhamcaaDoor
