/-
  What symMerge does, as a statement. Conditions: none.
-/
import Derived.Test.YtjopcpoodhamcaaSrt4
namespace Go.Proofs.Ytjopcpoodhamcaa
set_option linter.unusedSimpArgs false
set_option linter.unusedVariables false
open Go.RowKit

def MergeOk (g n c d : Nat) : Prop := ∀ (a m b : Nat) (f : Nat → Tm) (w : World), b - a < d → a < m → m < b → b ≤ n → RowF w g n f → g < w.heap.size → (∀ k, okT (f k)) → Srt a m f → Srt m b f →
  Calls Try.prog 36 #[.slice (some ⟨g, 0, none⟩) n c, .int .i64 a, .int .i64 m, .int .i64 b, cmpF] w fun e w' => e = .returned (.tuple #[]) ∧ ∃ f', RowF w' g n f' ∧ But w.heap.size g w w' ∧ Step a b f f' ∧ Srt a b f'
end Go.Proofs.Ytjopcpoodhamcaa
