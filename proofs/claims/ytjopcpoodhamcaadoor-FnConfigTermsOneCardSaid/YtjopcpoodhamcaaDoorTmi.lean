import Derived.Test.YtjopcpoodhamcaaDoorGe
import Derived.Test.YtjopcpoodhamcaaDoorGd
/-
  The walk of impl.TermsOf, given what strike does. Conditions: the table of the library; strike's contract.
-/
namespace Go.Proofs.YtjopcpoodhamcaaDoor
set_option linter.unusedSimpArgs false
set_option linter.unusedVariables false
open Go.RowKit

def FBd (K : Int) (F : Int → Int → Int) : Prop := ∀ o s, -K ≤ F o s ∧ F o s ≤ 1000
theorem FBd.strN {K : Int} {F : Int → Int → Int} (h : FBd K F) (s k : Int) : FBd (K + 1) (strN F s k 1) := by
  intro o m
  have := h o m
  unfold Go.Proofs.YtjopcpoodhamcaaDoor.strN
  split <;> omega
def StrikeOk : Prop := ∀ (b N : Nat) (K : Int) (F : Int → Int → Int) (s k : Int) (w0 : World), Mp w0 b N F → FBd K F → K ≤ 100000 → N ≤ 100000000 → 0 ≤ s → s ≤ 8 → 0 ≤ k → k ≤ 8 →
  Calls Tryd.prog 44 #[.map (some b), .agg #[.int .i64 s, .int .i64 k]] w0 fun e w' => e = .returned (.tuple #[]) ∧ Mp w' b (N + 200) (strN F s k 1) ∧ But w0.heap.size b w0 w'
/-- The table at spin u, j orbits done, c strikes at the next. -/
def HeldC (w : World) (b : Nat) (l n u j : Int) (c : Nat) (M : Nat) : Prop := ∃ (F : Int → Int → Int) (N : Nat), N ≤ 252 + 200 * M ∧ Mp w b N (strN F u (8 - j) c) ∧ FBd M (strN F u (8 - j) c) ∧ InvF l n u j F
theorem HeldC.look {w : World} {b : Nat} {l n u j : Int} {c M : Nat} (h : HeldC w b l n u j c M) (hv : eOk l n = true) (u0 : 0 ≤ u) (u1 : u ≤ 8) (j0 : 0 ≤ j) (j1 : j ≤ 8) :
    (Instr.lookup 63 (.map (some b)) (.agg #[.int .i64 (8 - j), .int .i64 u]) false).run Tryd.prog w = .ok (.int .i64 (tcI l n u (8 - j) - c)) w := by
  obtain ⟨F, N, -, hM, -, hI⟩ := h
  have := hM.lookup (o := 8 - j) (s := u) ⟨by omega, by omega, by omega, by omega⟩
  rw [strN_own F c u0 (by omega), InvF_at hI hv j0 j1 u0] at this
  exact this
theorem HeldC.done {w : World} {b : Nat} {l n u j : Int} {c M : Nat} (h : HeldC w b l n u j c M) (hc : (c : Int) = tcI l n u (8 - j)) (u0 : 0 ≤ u) (j0 : 0 ≤ j) (j1 : j ≤ 8) : HeldC w b l n u (j + 1) 0 M := by
  obtain ⟨F, N, hN, hM, hF, hI⟩ := h
  rw [hc] at hM hF
  exact ⟨_, N, hN, by rw [show ((0 : Nat) : Int) = 0 from rfl, strN_zero]; exact hM, by rw [show ((0 : Nat) : Int) = 0 from rfl, strN_zero]; exact hF, InvF_step hI j0 j1 u0⟩
theorem HeldC.next {w : World} {b : Nat} {l n u : Int} {M : Nat} (h : HeldC w b l n u 9 0 M) (hv : eOk l n = true) (u0 : 0 ≤ u) : HeldC w b l n (u - 1) 0 0 M := by
  obtain ⟨F, N, hN, hM, hF, hI⟩ := h
  rw [show ((0 : Nat) : Int) = 0 from rfl, strN_zero] at hM hF
  exact ⟨F, N, hN, by rw [show ((0 : Nat) : Int) = 0 from rfl, strN_zero]; exact hM, by rw [show ((0 : Nat) : Int) = 0 from rfl, strN_zero]; exact hF, InvF_next hI hv u0⟩
theorem HeldC.kept {w w' : World} {b : Nat} {l n u j : Int} {c M : Nat} {row : Option Nat} (h : HeldC w b l n u j c M) (hg : w.grownBy w' row) (hne : some b ≠ row) : HeldC w' b l n u j c M := by
  obtain ⟨F, N, hN, hM, hF, hI⟩ := h
  exact ⟨F, N, hN, hM.kept hg hne, hF, hI⟩
theorem HeldC.strike {w : World} {b : Nat} {l n u j : Int} {c M : Nat} (hs : StrikeOk) (h : HeldC w b l n u j c M) (hM : M ≤ 60000) (u0 : 0 ≤ u) (u1 : u ≤ 8) (j0 : 0 ≤ j) (j1 : j ≤ 8) :
    Calls Tryd.prog 44 #[.map (some b), .agg #[.int .i64 u, .int .i64 (8 - j)]] w fun e w' => e = .returned (.tuple #[]) ∧ HeldC w' b l n u j (c + 1) (M + 1) ∧ But w.heap.size b w w' := by
  obtain ⟨F, N, hN, hMp, hF, hI⟩ := h
  refine (hs b N M _ u (8 - j) w hMp hF (by omega) (by omega) u0 u1 (by omega) (by omega)).mono ?_
  rintro e w' ⟨rfl, h1, h2⟩
  have hF1 := hF.strN u (8 - j)
  rw [strN_succ] at h1 hF1
  exact ⟨rfl, ⟨F, N + 200, by omega, h1, hF1, hI⟩, h2⟩
end Go.Proofs.YtjopcpoodhamcaaDoor
