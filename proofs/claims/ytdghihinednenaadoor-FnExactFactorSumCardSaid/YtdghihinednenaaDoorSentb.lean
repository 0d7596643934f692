/-
  The two package-level errors, read in the other order. Conditions: none.
-/
import Derived.Test.YtdghihinednenaaDoorSent
namespace Go.Proofs.YtdghihinednenaaDoor
set_option linter.unusedSimpArgs false
set_option linter.unusedVariables false
open Go.ChangeShapes Go.WideShapes Go.ChangeAt Go.RowKit

set_option maxRecDepth 100000 in
theorem vars_readb {H : Type} (enc : TypeId × Value → H) {W : World} {xL xR : Value} (h0 : W.var? Tryd.prog nL = some #[xL]) (h1 : W.var? Tryd.prog nR = some #[xR]) (i0 : IsIface xL) (i1 : IsIface xR) (sp : Nat → Bool) :
    DataW.TrodVars enc Tryd.prog W sp [nR, nL] [tok enc xR, tok enc xL] [.cell 0 0, .cell 1 0] :=
  ⟨0, 54, #[xR], 1, [], [.cell 1 0], gR, gRT, h1, trod_held Tryd.underlying54 i1 0, ⟨1, 54, #[xL], 1, [], [], gL, gLT, h0, trod_held Tryd.underlying54 i0 0, rfl, rfl⟩, rfl⟩
end Go.Proofs.YtdghihinednenaaDoor
