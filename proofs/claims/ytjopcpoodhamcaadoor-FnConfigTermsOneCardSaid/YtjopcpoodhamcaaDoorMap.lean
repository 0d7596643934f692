import Derived.Test.YtjopcpoodhamcaaDoorGb
import Derived.Maps.Own
import Derived.Maps.Views
import Derived.Maps.OwnSet
import Derived.WideKeyEntry
import Derived.DeepKeys4
/-
  A map keyed by the sums of a microstate: what it holds, looked up and counted on. Conditions: none.
-/
namespace Go.Proofs.YtjopcpoodhamcaaDoor
set_option linter.unusedSimpArgs false
set_option linter.unusedVariables false
open Go.RowKit Go.ChangeMaps Go.WideElems
open Go.Maps (Keyed)

theorem laidOutM : laidOutB Tryd.prog = true := by kernel_rfl
theorem mapT : Tryd.prog.underlying 63 = some (.map 66 3) := by kernel_rfl
theorem rowS : (66 : TypeId) < Tryd.prog.types.size := of_decide_eq_true (by kernel_rfl)
theorem wideS : (match Tryd.prog.underlying 66 with | some (.array _ _) | some (.struct _) => true | _ => false) = true := by rw [Tryd.underlying66]
theorem lawS : WideMaps.KeyLaw Tryd.prog 66 := deep_law_laid laidOutM (m := 2) (by omega) rowS (by kernel_rfl) wideS
theorem keyedS : Keyed Tryd.prog 66 := Keyed.of_law lawS
theorem zeroI (w : World) : (zeroValue 3).run Tryd.prog w = .ok (.int .i64 0) w := by kernel_rfl
def sm (o s : Int) : Prop := -1000 ≤ o ∧ o ≤ 1000 ∧ -1000 ≤ s ∧ s ≤ 1000
noncomputable def kl (o s : Int) : Lit := (keyOf Tryd.prog 66 (.agg #[.int .i64 o, .int .i64 s])).getD (.bool false)
theorem cellsS : Tryd.prog.cellsOf 66 = 2 := by kernel_rfl
theorem cellsI : Tryd.prog.cellsOf 3 = 1 := by kernel_rfl
theorem keyTS : Tryd.prog.keyType 66 = true := by kernel_rfl
set_option maxRecDepth 100000 in
theorem keyOf_kl {o s : Int} (h : sm o s) : keyOf Tryd.prog 66 (.agg #[.int .i64 o, .int .i64 s]) = some (kl o s) := by
  obtain ⟨a, b, c, d⟩ := h
  have wo : (Lit.int .i64 o).wf = true := WalkArith.wf_i64 (by omega)
  have ws : (Lit.int .i64 s).wf = true := WalkArith.wf_i64 (by omega)
  have : ∃ x, keyOf Tryd.prog 66 (.agg #[.int .i64 o, .int .i64 s]) = some x := by
    have r : (66 : Nat) < Tryd.prog.types.size := rowS
    obtain ⟨m, hm⟩ : ∃ m, Tryd.prog.types.size = m + 1 := ⟨Tryd.prog.types.size - 1, by omega⟩
    have hf : (Value.agg #[.int .i64 o, .int .i64 s]).formed Tryd.prog 66 = true := by simp [Value.formed, Tryd.underlying66, cellsS]
    unfold keyOf
    rw [Tryd.underlying66]
    simp only [keyTS, hf, Bool.and_self, if_true]
    rw [hm]
    simp [Program.keyLits, Tryd.underlying66, cellsS, Value.cells, cellsI, Tryd.underlying3, wo, ws]
  obtain ⟨x, hx⟩ := this
  unfold kl
  rw [hx]; rfl
theorem kl_inj {o s o' s' : Int} (h : sm o s) (h' : sm o' s') (e : kl o s = kl o' s') : o = o' ∧ s = s' := by
  have := lawS.inj (keyOf_kl h) (e ▸ keyOf_kl h')
  simpa using this


/-- What the map says of a key. -/
def SaysM (D : DataW Unit) (F : Int → Int → Int) : Prop := ∀ o s, sm o s → D.atKey (kl o s) (.lit (.int .i64 0)) = .lit (.int .i64 (F o s))
/-- Block b is a map of at most n entries that holds F. -/
def Mp (w : World) (b n : Nat) (F : Int → Int → Int) : Prop := ∃ D : DataW Unit, w.ownsMap Tryd.prog 66 (plainElem Tryd.prog 3) b n D ∧ SaysM D F
def updM (F : Int → Int → Int) (o s c : Int) : Int → Int → Int := fun o' s' => if o' = o ∧ s' = s then c else F o' s'
theorem Mp.lt {w : World} {b n : Nat} {F : Int → Int → Int} (h : Mp w b n F) : b < w.heap.size := by obtain ⟨D, h1, -⟩ := h; exact h1.lt
theorem Mp.kept {w w' : World} {b n : Nat} {F : Int → Int → Int} {row : Option Nat} (h : Mp w b n F) (hg : w.grownBy w' row) (hne : some b ≠ row) : Mp w' b n F := by
  obtain ⟨D, h1, h2⟩ := h
  exact ⟨D, h1.kept hg hne, h2⟩
theorem Mp.below {w w' : World} {b n B : Nat} {F : Int → Int → Int} (h : Mp w b n F) (hb : Below B w w') (hB : b < B) : Mp w' b n F := by
  obtain ⟨D, ⟨es, clock, h1, h2⟩, h3⟩ := h
  exact ⟨D, ⟨es, clock, (hb.block b hB).trans h1, h2⟩, h3⟩
theorem Mp.heap {w w' : World} {b n : Nat} {F : Int → Int → Int} (h : Mp w b n F) (he : w'.heap[b]? = w.heap[b]?) : Mp w' b n F := by
  obtain ⟨D, ⟨es, clock, h1, h2⟩, h3⟩ := h
  exact ⟨D, ⟨es, clock, he.trans h1, h2⟩, h3⟩
theorem Mp.mono {w : World} {b n m : Nat} {F : Int → Int → Int} (h : Mp w b n F) (hn : n ≤ m) : Mp w b m F := by
  obtain ⟨D, h1, h2⟩ := h
  exact ⟨D, h1.mono hn, h2⟩
theorem Mp.made (w : World) : Mp (w.alloc (.map #[] 0)) w.heap.size 0 (fun _ _ => 0) := ⟨.map [], World.ownsMap_made _ _ _ _, fun o s _ => by rfl⟩
theorem Mp.lookup {w : World} {b n : Nat} {F : Int → Int → Int} (h : Mp w b n F) {o s : Int} (hs : sm o s) :
    (Instr.lookup 63 (.map (some b)) (.agg #[.int .i64 o, .int .i64 s]) false).run Tryd.prog w = .ok (.int .i64 (F o s)) w := by
  obtain ⟨D, h1, h2⟩ := h
  obtain ⟨c, hr, hat, -⟩ := h1.lookup_int keyedS mapT Tryd.underlying3 (zeroI w) (keyOf_kl hs)
  have e := (h2 o s hs).symm.trans hat
  simp only [DataW.lit.injEq, Lit.int.injEq, true_and] at e
  rw [hr, e]
theorem Says.put {D : DataW Unit} {F : Int → Int → Int} (h : SaysM D F) (hm : Maps.IsMap D) {o s : Int} (hs : sm o s) (c : Int) : SaysM (D.put (kl o s) (.lit (.int .i64 c))) (updM F o s c) := by
  intro o' s' hs'
  unfold updM
  split
  · rename_i e
    obtain ⟨rfl, rfl⟩ := e
    exact Maps.atKey_put_same hm (keyedS.key (keyOf_kl hs)) _ _
  · rename_i e
    rw [Maps.atKey_put_other (fun hk => e (kl_inj hs' hs hk)), h o' s' hs']
/-- 'm[k] op= v' by its two steps. -/
theorem Mp.entry {w : World} {b n : Nat} {F : Int → Int → Int} (h : Mp w b n F) (hn : n < maxLen) {o s : Int} (hs : sm o s) :
    ∃ (v0 : Value) (st : Nat) (w1 : World), (Instr.mapEntry 63 (.map (some b)) (.agg #[.int .i64 o, .int .i64 s])).run Tryd.prog w = .ok (.tuple #[v0, goInt st]) w1 ∧ w.grownBy w1 (some b) ∧ w1.heap.size = w.heap.size ∧ Mp w1 b (n + 1) F ∧
      ∀ (w2 : World) (c : Int), w2.heap[b]? = w1.heap[b]? → -1000000 ≤ c → c ≤ 1000000 → ∃ w3, (Instr.entryStore 63 (.map (some b)) (goInt st) (.int .i64 c)).run Tryd.prog w2 = .ok () w3 ∧ w2.grownBy w3 (some b) ∧ w3.heap.size = w2.heap.size ∧ Mp w3 b (n + 1) (updM F o s c) := by
  obtain ⟨D, hown, hsay⟩ := h
  have hm : Maps.IsMap D := (hown.tidy keyedS).isMap
  have hown0 := hown
  obtain ⟨es, clock, hb, Ft, hes, hD⟩ := hown
  have hkey := keyOf_kl hs
  obtain ⟨v0, st, es1, clock1, hrun, hv0, hst⟩ := entry_then_store lawS mapT zeroI hb Ft hkey
  have hsize : ∀ (u : World) (x : Obj), (setBlock u b x).heap.size = u.heap.size := fun u x => by simp [setBlock]
  have hgrow : ∀ (u : World) (x : Obj), b < u.heap.size → u.grownBy (setBlock u b x) (some b) := fun u x hlt => ⟨rfl, rfl, rfl, by simp [setBlock], fun i _ hi => by
    simp [setBlock, Array.getElem?_setIfInBounds]
    intro e
    exact absurd (by rw [e]) hi⟩
  have hlt := (Array.getElem?_eq_some_iff.1 hb).1
  have hat1 : (setBlock w b (.map es1 clock1)).heap[b]? = some (.map es1 clock1) := by simp [setBlock, Array.getElem?_setIfInBounds, hlt]
  refine ⟨v0, st, setBlock w b (.map es1 clock1), hrun, hgrow _ _ hlt, hsize _ _, ?_, ?_⟩
  · rcases lawS.find w hkey es.toList Ft.keys with ⟨h1, h2⟩ | ⟨j, e0, h1, h2, h3⟩
    · have hr : (Instr.mapEntry 63 (.map (some b)) (.agg #[.int .i64 o, .int .i64 s])).run Tryd.prog w = .ok (.tuple #[.int .i64 0, goInt clock]) (setBlock w b (.map (es.push ⟨.agg #[.int .i64 o, .int .i64 s], .int .i64 0, clock⟩) (clock + 1))) := by
        simp [Instr.mapEntry, run_underlying mapT, MapKept.run_getObj_map hb, lawS.check w false hkey, h1, zeroI, MapKept.run_setObj_map _ hb, Result.andThen, setBlock]
      have hu : (Instr.mapUpdate 63 (.map (some b)) (.agg #[.int .i64 o, .int .i64 s]) (.int .i64 0)).run Tryd.prog w = .ok () (setBlock w b (.map (es.push ⟨.agg #[.int .i64 o, .int .i64 s], .int .i64 0, clock⟩) (clock + 1))) := by
        simp [Instr.mapUpdate, run_underlying mapT, MapKept.run_getObj_map hb, lawS.check w false hkey, h1, MapKept.run_setObj_map _ hb, Result.andThen, setBlock]
      have ew : setBlock w b (.map es1 clock1) = setBlock w b (.map (es.push ⟨.agg #[.int .i64 o, .int .i64 s], .int .i64 0, clock⟩) (clock + 1)) := by
        have := hrun.symm.trans hr
        injection this
      obtain ⟨w', hu', ho', -⟩ := hown0.update keyedS mapT hn hkey (plainElem_int Tryd.underlying3 (a := 0) (by decide))
      have ew' : w' = setBlock w b (.map (es.push ⟨.agg #[.int .i64 o, .int .i64 s], .int .i64 0, clock⟩) (clock + 1)) := by
        have := hu'.symm.trans hu
        injection this
      rw [ew, ← ew']
      refine ⟨_, ho', ?_⟩
      have hz : F o s = 0 := by
        have hl := Mp.lookup (w := w) ⟨D, hown0, hsay⟩ hs
        have hl2 : (Instr.lookup 63 (.map (some b)) (.agg #[.int .i64 o, .int .i64 s]) false).run Tryd.prog w = .ok (.int .i64 0) w := by
          simp [Instr.lookup, run_underlying mapT, MapKept.run_getObj_map hb, lawS.check w _ hkey, h1, zeroI, Result.andThen]
        have := hl.symm.trans hl2
        simpa using this
      have hp := Says.put hsay hm hs 0
      intro o' s' hs'
      rw [hp o' s' hs']
      unfold updM
      split
      · rename_i e
        obtain ⟨rfl, rfl⟩ := e
        rw [hz]
      · rfl
    · have hj : es[j]? = some e0 := by simpa using h2
      have hsame : es.modify j (fun e => { e with key := .agg #[.int .i64 o, .int .i64 s] }) = es := by
        apply Array.ext'
        rw [Array.toList_modify]
        have e1 : ({ e0 with key := .agg #[.int .i64 o, .int .i64 s] } : MapEntry) = e0 := by rw [← h3]
        apply List.ext_getElem?
        intro i
        rw [List.getElem?_modify]
        by_cases hi : j = i
        · subst hi
          rw [h2]
          simp [e1]
        · simp [hi]
      have hr : (Instr.mapEntry 63 (.map (some b)) (.agg #[.int .i64 o, .int .i64 s])).run Tryd.prog w = .ok (.tuple #[e0.val, goInt e0.born]) (setBlock w b (.map es clock)) := by
        simp [Instr.mapEntry, run_underlying mapT, MapKept.run_getObj_map hb, lawS.check w false hkey, h1, hj, h3, lawS.stays w hkey, hsame, MapKept.run_setObj_map _ hb, Result.andThen, setBlock]
      have ew : setBlock w b (.map es1 clock1) = setBlock w b (.map es clock) := by
        have := hrun.symm.trans hr
        injection this
      refine ⟨D, ?_, hsay⟩
      rw [ew]
      exact ⟨es, clock, by simp [setBlock, Array.getElem?_setIfInBounds, hlt], Ft, by omega, hD⟩
  · intro w2 c hw2 c0 c1
    rw [hat1] at hw2
    have hlt2 := (Array.getElem?_eq_some_iff.1 hw2).1
    obtain ⟨es', clock', hr2, hu2⟩ := hst w2 (.int .i64 c) hw2
    obtain ⟨w', hu', ho', -⟩ := hown0.update keyedS mapT hn hkey (plainElem_int Tryd.underlying3 (a := c) (WalkArith.wf_i64 (by omega)))
    have ew' : w' = setBlock w b (.map es' clock') := by
      have := hu'.symm.trans hu2
      injection this
    rw [ew'] at ho'
    refine ⟨_, hr2, hgrow _ _ hlt2, hsize _ _, _, ?_, Says.put hsay hm hs c⟩
    obtain ⟨es3, clock3, hb3, F3, h3⟩ := ho'
    have e3 : (setBlock w b (.map es' clock')).heap[b]? = some (.map es' clock') := by simp [setBlock, Array.getElem?_setIfInBounds, hlt]
    rw [e3] at hb3
    obtain ⟨rfl, rfl⟩ : es' = es3 ∧ clock' = clock3 := by simpa using hb3
    exact ⟨es', clock', by simp [setBlock, Array.getElem?_setIfInBounds, hlt2], F3, h3⟩
end Go.Proofs.YtjopcpoodhamcaaDoor
