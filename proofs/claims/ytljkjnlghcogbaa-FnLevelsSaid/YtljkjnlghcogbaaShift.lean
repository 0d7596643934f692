/-
  The walks of squares, shifts and intervals of levels (impl and spec). Conditions: none.
-/
import Derived.Test.YtljkjnlghcogbaaLevel
import Derived.Deep.QuietTactic
import Derived.BigQuiet
import Derived.Deep.RegionHeld3
namespace Go.Proofs.Ytljkjnlghcogbaa
set_option linter.unusedSimpArgs false
set_option linter.unusedVariables false
open Go.RowKit

end Go.Proofs.Ytljkjnlghcogbaa
