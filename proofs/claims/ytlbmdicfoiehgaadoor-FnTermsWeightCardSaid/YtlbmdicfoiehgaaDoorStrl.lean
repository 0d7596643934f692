/-
  The walk of impl's strike. Conditions: none.
-/
import Derived.Test.YtlbmdicfoiehgaaDoorStrk
namespace Go.Proofs.YtlbmdicfoiehgaaDoor
set_option linter.unusedSimpArgs false
set_option linter.unusedVariables false
open Go.RowKit Go.Shelf
attribute [local go_sem] Oper.semAt_some

def hits (pre : List I8) (m : Int) : Nat := pre.countP fun x => decide (x.1 = m)
/-- One row of the table, struck at what has come. -/
def rowG (F : Int → Int → Int) (o : Int) (pre : List I8) : Int → Int → Int := fun o' m => if o' = o then F o' m - hits pre m else F o' m
theorem rowG_nil (F : Int → Int → Int) (o : Int) : rowG F o [] = F := by
  funext o' m
  unfold rowG hits
  simp
theorem rowG_step (F : Int → Int → Int) (o : Int) (pre : List I8) (x : I8) : updM (rowG F o pre) o x.1 (rowG F o pre o x.1 - 1) = rowG F o (pre ++ [x]) := by
  funext o' m
  unfold updM rowG hits
  rw [List.countP_append]
  by_cases h : o' = o
  · subst h
    by_cases hm : m = x.1
    · subst hm; simp; omega
    · have : ¬ x.1 = m := fun e => hm e.symm
      simp [hm, this]
  · simp [h]
theorem hits_le (pre : List I8) (m : Int) : hits pre m ≤ pre.length := List.countP_le_length
theorem hits_prL (s : Nat) (hs : s ≤ 8) (m : Int) : ∀ i : Nat, i ≤ s + 1 → hits (prL s i) m = if -(s : Int) ≤ m ∧ m < -(s : Int) + 2 * (i : Int) ∧ (m - s) % 2 = 0 then 1 else 0
  | 0, _ => by
    rw [if_neg (by omega)]; rfl
  | i + 1, hi => by
    have h := hits_prL s hs m i (by omega)
    have e : hits (prL s (i + 1)) m = hits (prL s i) m + (if -(s : Int) + 2 * (i : Int) = m then 1 else 0) := by
      unfold hits
      rw [show prL s (i + 1) = prL s i ++ [mk8 (-(s : Int) + 2 * (i : Int))] from rfl, List.countP_append]
      simp only [List.countP_cons, List.countP_nil, mk8_val (x := -(s : Int) + 2 * (i : Int)) ⟨by omega, by omega⟩]
      simp
    rw [e, h]
    split <;> split <;> split <;> omega
/-- i rows of the table struck. -/
def rowN (F : Int → Int → Int) (s k : Int) (i : Int) : Int → Int → Int := fun o m => if -k ≤ o ∧ o < -k + i ∧ -s ≤ m ∧ m ≤ s ∧ (m - s) % 2 = 0 then F o m - 1 else F o m
theorem rowN_zero (F : Int → Int → Int) (s k : Int) : rowN F s k 0 = F := by
  funext o m
  unfold rowN
  rw [if_neg (by omega)]
theorem rowN_step (F : Int → Int → Int) (s k : Nat) (hs : s ≤ 8) (i : Nat) : rowG (rowN F s k i) (-(k : Int) + i) (prL s (s + 1)) = rowN F s k ((i + 1 : Nat) : Int) := by
  funext o m
  unfold rowG
  rw [hits_prL s hs m (s + 1) (Nat.le_refl _)]
  unfold rowN
  by_cases ho : o = -(k : Int) + i
  · rw [if_pos ho, if_neg (by omega)]
    split <;> split <;> first | omega | (exfalso; omega)
  · rw [if_neg ho]
    split <;> split <;> first | omega | (exfalso; omega)
theorem rowN_last (F : Int → Int → Int) (s k : Nat) : rowN F s k ((2 * k + 1 : Nat) : Int) = strN F s k 1 := by
  funext o m
  unfold rowN strN
  by_cases h : cov s k o m
  · have h' : -(k : Int) ≤ o ∧ o < -(k : Int) + ((2 * k + 1 : Nat) : Int) ∧ -(s : Int) ≤ m ∧ m ≤ s ∧ (m - s) % 2 = 0 := by
      obtain ⟨a, b, c, d, e⟩ := h
      exact ⟨a, by omega, c, d, e⟩
    rw [if_pos h, if_pos h']
  · have h' : ¬ (-(k : Int) ≤ o ∧ o < -(k : Int) + ((2 * k + 1 : Nat) : Int) ∧ -(s : Int) ≤ m ∧ m ≤ s ∧ (m - s) % 2 = 0) := by
      rintro ⟨a, b, c, d, e⟩
      exact h ⟨a, by omega, c, d, e⟩
    rw [if_neg h, if_neg h']
theorem rowN_bd {K : Int} {F : Int → Int → Int} (h : FBd K F) (s k i : Int) : FBd (K + 1) (rowN F s k i) := by
  intro o m
  have := h o m
  unfold rowN
  split <;> omega
theorem rowG_bd {K : Int} {F : Int → Int → Int} (h : FBd K F) (o : Int) (pre : List I8) (hp : pre.length ≤ 10) (o' m : Int) : -K - 10 ≤ rowG F o pre o' m ∧ rowG F o pre o' m ≤ 1000 := by
  have := h o' m
  have := hits_le pre m
  unfold rowG
  split <;> omega

/-- The marks that the loops over the iterator have left: each names a block that holds no call. -/
def MarksOk (B : Nat) (W : World) : List Deferred → Prop
  | [] => True
  | d :: ds => (∃ D, d = { target := .collected D, args := #[] } ∧ B ≤ D ∧ W.heap[D]? = some (.deferred (some [])) ∧ ∀ d' ∈ ds, d'.target ≠ .collected D) ∧ MarksOk B W ds
theorem MarksOk.keep {B : Nat} {W W' : World} : ∀ {ds : List Deferred}, MarksOk B W ds → (∀ D, B ≤ D → W.heap[D]? = some (.deferred (some [])) → (∃ d ∈ ds, d.target = .collected D) → W'.heap[D]? = some (.deferred (some []))) → MarksOk B W' ds
  | [], _, _ => trivial
  | d :: ds, ⟨⟨D, e, hB, hD, hn⟩, hr⟩, hk => ⟨⟨D, e, hB, hk D hB hD ⟨d, by simp, by rw [e]⟩, hn⟩, hr.keep fun D' hB' hD' ⟨d', h1, h2⟩ => hk D' hB' hD' ⟨d', by simp [h1], h2⟩⟩
theorem MarksOk.lt {B : Nat} {W : World} : ∀ {ds : List Deferred}, MarksOk B W ds → ∀ d ∈ ds, ∀ D, d.target = .collected D → D < W.heap.size
  | [], _, d, hd, _, _ => by simp at hd
  | d :: ds, ⟨⟨D, e, hB, hD, hn⟩, hr⟩, d', hd', D', h' => by
    rcases List.mem_cons.1 hd' with rfl | hm
    · rw [e] at h'
      cases h'
      exact (Array.getElem?_eq_some_iff.1 hD).1
    · exact hr.lt d' hm D' h'
theorem marks_leave {F : Fence} {n : Nat} {P : Program} {fn : Func} {tmps : Array Value} {R : Ending → World → Prop} {B b : Nat} {w0 : World} (hb : b < B) (hB : B ≤ w0.heap.size) (N : Nat) (G : Int → Int → Int)
    (hR : ∀ W, Mp W b N G → But B b w0 W → LeavesIn F n P fn tmps R [] .returning W) : ∀ (ds : List Deferred) (W : World), MarksOk B W ds → Mp W b N G → But B b w0 W → LeavesInM F n P fn tmps R ds .returning W
  | [], W, _, hM, hbut => hR W hM hbut
  | d :: ds, W, ⟨⟨D, e, hBD, hD, hn⟩, hr⟩, hM, hbut => by
    have hg := grownBy_putObj' W D (.deferred none)
    have hbz := hbut.size
    refine ⟨by simp, .inl ⟨D, _, by rw [e], run_takeDeferred hD, marks_leave hb hB N G hR ds _ ?_ (hM.kept hg (fun e => by cases e; omega)) ?_⟩⟩
    · exact hr.keep fun D' hB' hD' ⟨d', h1, h2⟩ => (World.putObj_heap_other (fun e => hn d' h1 (by rw [h2, e]))).trans hD'
    · exact ⟨hbut.os, hbut.tape, hbut.output, by have := hg.size; omega, fun k hk hne => (hg.block k (by omega) (fun e => by cases e; omega)).trans (hbut.block k hk hne)⟩
end Go.Proofs.YtlbmdicfoiehgaaDoor
