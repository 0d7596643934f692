/-
  What the rows' list gives of the two package-level errors, and a world for the witness. Conditions: none.
-/
import Derived.Test.YtdghihinednenaaDoorMom
import Derived.Test.YtdghihinednenaaDoorOpen
import Derived.Test.YtdghihinednenaaDoorCards
import Derived.Test.YtdghihinednenaaDoorTie
import Derived.ChangeSame
import Derived.ChangeVars
import Derived.JoinedOf
import Derived.RowKitTokens
import Derived.LaidLaws
import Derived.Stop.ErrReads
import Derived.Deep.DeepHandedRow
namespace Go.Proofs.YtdghihinednenaaDoor
set_option linter.unusedSimpArgs false
set_option linter.unusedVariables false
open Go.ChangeShapes Go.WideShapes Go.ChangeAt Go.RowKit

abbrev nR : String := "loop.example/atomicspectra/impl.errAtRest"
abbrev nL : String := "loop.example/atomicspectra/impl.errLevel"
abbrev LR : List (String × DataW Unit) := [(nL, Rows.laid_loop_example_atomicspectra_impl_errLevel), (nR, Rows.laid_loop_example_atomicspectra_impl_errAtRest)]
theorem gR : Tryd.prog.globalNamed nR = some 0 := by kernel_rfl
theorem gL : Tryd.prog.globalNamed nL = some 1 := by kernel_rfl
theorem gRT : (Tryd.prog.globals[0]?).map (·.type) = some 54 := by kernel_rfl
theorem gLT : (Tryd.prog.globals[1]?).map (·.type) = some 54 := by kernel_rfl
theorem cellsE : Tryd.prog.cellsOf 117 = 1 := by kernel_rfl
theorem cellsS : Tryd.prog.cellsOf 9 = 1 := by kernel_rfl
theorem starE : "*" ++ "errors.errorString" = "*errors.errorString" := by decide
theorem rowE (u : TypeId) (h : Tryd.prog.typeName? 3 u = some "*errors.errorString") : u = 91 :=
  typeName_ptr_named (nm := "errors.errorString") (by rw [starE]; kernel_rfl) (by kernel_rfl) (by decide) u (by rw [starE]; exact h)

set_option maxRecDepth 100000 in
theorem errs_of_met {W : World} (h : laidMet Tryd.prog LR W) : ∃ aR aL : Addr, ErrW aR aL W ∧ W.var? Tryd.prog nR = some #[.iface 91 (.pointer (some aR))] ∧ W.var? Tryd.prog nL = some #[.iface 91 (.pointer (some aL))] := by
  obtain ⟨ps, ⟨g0, t0, cs0, f0, p0, q0, hg0, ht0, hv0, hd0, ⟨g1, t1, cs1, f1, p1, q1, hg1, ht1, hv1, hd1, hq1, e1⟩, e0⟩, hnd, hrows⟩ := h
  obtain rfl := Option.some.inj (gL.symm.trans hg0)
  obtain rfl := Option.some.inj (gR.symm.trans hg1)
  obtain rfl := Option.some.inj (gLT.symm.trans ht0)
  obtain rfl := Option.some.inj (gRT.symm.trans ht1)
  have hq1' : q1 = [] := hq1
  subst hq1'
  subst e1
  subst e0
  obtain ⟨l0⟩ := cs0
  obtain ⟨l1⟩ := cs1
  have ok0 : ∀ u v, l0 = [.iface u v] → Value.okWide Tryd.prog W .any 0 u v := fun u v e => by
    subst e
    exact (hrows 1 0 (by simp [MemPlace.row])).2 u v (by simpa using World.var?_cell hg0 hv0 0)
  have ok1 : ∀ u v, l1 = [.iface u v] → Value.okWide Tryd.prog W .any 0 u v := fun u v e => by
    subst e
    exact (hrows 0 0 (by simp [MemPlace.row])).2 u v (by simpa using World.var?_cell hg1 hv1 0)
  obtain ⟨a0, s0, rfl, hc0, hs0, hz0, rfl⟩ := errorString_of_trod Tryd.underlying54 rowE Tryd.underlying91 Tryd.underlying117 rfl rfl Tryd.underlying9 cellsE cellsS hd0 ok0
  obtain ⟨a1, s1, rfl, hc1, hs1, hz1, rfl⟩ := errorString_of_trod Tryd.underlying54 rowE Tryd.underlying91 Tryd.underlying117 rfl rfl Tryd.underlying9 cellsE cellsS hd1 ok1
  obtain ⟨c0, t0, hb0⟩ := (hrows a0.block a0.off (by simp [MemPlace.row])).1
  obtain ⟨c1, t1, hb1⟩ := (hrows a1.block a1.off (by simp [MemPlace.row])).1
  have hcL : W.cell? ⟨1, 0, none⟩ = some (.iface 91 (.pointer (some a0))) := by simpa using World.var?_cell hg0 hv0 0
  have hcR : W.cell? ⟨0, 0, none⟩ = some (.iface 91 (.pointer (some a1))) := by simpa using World.var?_cell hg1 hv1 0
  refine ⟨a1, a0, ⟨World.block_lt_of_cell? W _ hcL, World.block_lt_of_cell? W _ hc1, World.block_lt_of_cell? W _ hc0, hcR, hcL, ?_, ⟨c1, t1, hb1⟩, ⟨c0, t0, hb0⟩⟩, hv1, hv0⟩
  rintro rfl
  simp [MemPlace.row] at hnd

theorem metH (W : World) : laidMetH Tryd.prog LR W = laidMet Tryd.prog LR W := by
  have e : (LR.filter fun x => x.2.handleName?.isSome) = [] := by kernel_rfl
  unfold laidMetH
  rw [e]
abbrev atRestS : ByteArray := { data := #[110, 111, 32, 97, 110, 103, 117, 108, 97, 114, 32, 109, 111, 109, 101, 110, 116, 117, 109] }
abbrev levelS : ByteArray := { data := #[110, 111, 32, 108, 101, 118, 101, 108] }
noncomputable def low : Nat := (World.holding Tryd.prog default ⟨#[], #[], []⟩).heap.size
noncomputable def laidWorld (os : Os) : World :=
  let w0 := World.holding Tryd.prog os ⟨#[.cells #[.string atRestS] 117, .cells #[.string levelS] 117], #[], []⟩
  { w0 with heap := (w0.heap.modify 0 fun
      | .cells _ t frozen => .cells #[.iface 91 (.pointer (some ⟨low, 0, none⟩))] t frozen
      | o => o).modify 1 fun
      | .cells _ t frozen => .cells #[.iface 91 (.pointer (some ⟨low + 1, 0, none⟩))] t frozen
      | o => o }
theorem laidWorld_met (os : Os) (args : Array Value) : laidMet Tryd.prog LR ((laidWorld os).forCall (fun _ _ => 0) ⟨#[], args, []⟩).memory :=
  laidMet_of_run (ps := [.cell 1 0, .cell (low + 1) 0, .cell 0 0, .cell low 0]) 8 (by kernel_rfl) (by kernel_rfl) (by kernel_rfl)

theorem var_below {W W' : World} {n : String} {g : Nat} {cs : Array Value} (hg : Tryd.prog.globalNamed n = some g) (hlt : g < W.heap.size) (hb : Below W.heap.size W W') (h : W.var? Tryd.prog n = some cs) : W'.var? Tryd.prog n = some cs := by
  unfold World.var? at h ⊢
  simp only [hg, Option.bind_some] at h ⊢
  rw [hb.block g hlt]
  exact h
set_option maxRecDepth 100000 in
theorem vars_read {H : Type} (enc : TypeId × Value → H) {W : World} {xL xR : Value} (h0 : W.var? Tryd.prog nL = some #[xL]) (h1 : W.var? Tryd.prog nR = some #[xR]) (i0 : IsIface xL) (i1 : IsIface xR) (sp : Nat → Bool) :
    DataW.TrodVars enc Tryd.prog W sp [nL, nR] [tok enc xL, tok enc xR] [.cell 1 0, .cell 0 0] :=
  ⟨1, 54, #[xL], 1, [], [.cell 0 0], gL, gLT, h0, trod_held Tryd.underlying54 i0 0, ⟨0, 54, #[xR], 1, [], [], gR, gRT, h1, trod_held Tryd.underlying54 i1 0, rfl, rfl⟩, rfl⟩
end Go.Proofs.YtdghihinednenaaDoor
