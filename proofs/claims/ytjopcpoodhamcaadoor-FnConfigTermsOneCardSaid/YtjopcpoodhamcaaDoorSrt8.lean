/-
  The contracts of slices' symMerge and stable sort at terms. Conditions: none.
-/
import Derived.Test.YtjopcpoodhamcaaDoorSrt5
import Derived.Test.YtjopcpoodhamcaaDoorSrt6
import Derived.Test.YtjopcpoodhamcaaDoorSrt7
namespace Go.Proofs.YtjopcpoodhamcaaDoor
set_option linter.unusedSimpArgs false
set_option linter.unusedVariables false
open Go.RowKit

theorem merge_any (g n c : Nat) (hn : n ≤ 1000000) : ∀ d, MergeOk g n c d := by
  intro d
  induction d with
  | zero => intro a m b f w hd; omega
  | succ d ih =>
    intro a m b f w hd h1 h2 h3 hR hg hok hs1 hs2
    by_cases e1 : m = a + 1
    · subst e1
      have := merge_one g n c a b f w hn h2 h3 hR hg hok hs2
      rw [show ((a + 1 : Nat) : Int) = (a : Int) + 1 by omega]
      exact this
    · by_cases e2 : b = m + 1
      · subst e2
        have := merge_last g n c a m f w hn (by omega) h3 hR hg hok hs1
        rw [show ((m + 1 : Nat) : Int) = (m : Int) + 1 by omega]
        exact this
      · exact merge_main g n c a m b f w hn (by omega) (by omega) h3 hR hg hok hs1 hs2 (fun a' m' b' f' w' hd' => ih a' m' b' f' w' (by omega))
theorem stable_any (g n c : Nat) (f : Nat → Tm) (w : World) (hn : n ≤ 400000) (hR : RowF w g n f) (hg : g < w.heap.size) (hok : ∀ k, okT (f k)) :
    Calls Tryd.prog 75 #[.slice (some ⟨g, 0, none⟩) n c, .int .i64 n, cmpF] w fun e w' => e = .returned (.tuple #[]) ∧ ∃ f', RowF w' g n f' ∧ But w.heap.size g w w' ∧ Step 0 n f f' ∧ Srt 0 n f' :=
  stable_core g n c f w hn hR hg hok (merge_any g n c (by omega))
set_option maxHeartbeats 1000000 in
theorem sortStable_any (g n c : Nat) (f : Nat → Tm) (w : World) (hn : n ≤ 400000) (hR : RowF w g n f) (hg : g < w.heap.size) (hok : ∀ k, okT (f k)) :
    Calls Tryd.prog 63 #[.slice (some ⟨g, 0, none⟩) n c, cmpF] w fun e w' => e = .returned (.tuple #[]) ∧ ∃ f', RowF w' g n f' ∧ But w.heap.size g w w' ∧ Step 0 n f f' ∧ Srt 0 n f' := by
  have HC := Lib.hid (stable_any g n c f w hn hR hg hok)
  go_enter Tryd.func63, Tryd.ntmps63
  go_wp2_with fail
  refine (HC.out).mono ?_
  rintro e w1 ⟨rfl, f1, h1, h2, h3, h4⟩
  have HF := Lib.hid (show RowF w1 g n f1 ∧ But w.heap.size g w w1 ∧ Step 0 n f f1 ∧ Srt 0 n f1 from ⟨h1, h2, h3, h4⟩)
  clear h1 h2 h3 h4
  go_wp2
  go_end0
  exact ⟨rfl, f1, HF.out⟩
end Go.Proofs.YtjopcpoodhamcaaDoor
