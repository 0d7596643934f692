/-
  The walks of the laws' own functions on lists of terms. Conditions: none.
-/
import Derived.Test.YtjopcpoodhamcaaIjn
import Derived.Deep.QuietTactic
import Derived.BigQuiet
import Derived.Deep.RegionHeld3
import Derived.Deep.RegionWith
namespace Go.Proofs.Ytjopcpoodhamcaa
set_option linter.unusedSimpArgs false
set_option linter.unusedVariables false
open Go.RowKit

theorem RowI.drewN {w : World} {v : Value} {xs : List Tm} (h : RowI w v xs) (n : Nat) : RowI (w.drewN n) v xs := h.below (below_drewN (Below.refl _ _) n)
/-- append of a list onto a row of the call's own, at a step of a region that draws its order. -/
theorem step_app {w : World} {ops : Array Oper} {o : Oper} {a : Act} {K : Act → World → Prop} {Q : Exit → Act → World → Prop} {E : Prop} (hgd : o.guard = none) (s x : Operand)
    (ho : o.op = .call { callee := .builtin .append, args := #[s, x], argTypes := #[24, 24] })
    (base : Nat) (v xv : Value) (xs ys : List Tm) (hs : a.eval s = v) (hown : w.ownsRow base 34 2 v xs.length (vS xs)) (hx : a.eval x = xv) (hr : RowI w xv ys)
    (hlen : xs.length + ys.length ≤ 3000000) (hbase : base ≤ w.heap.size)
    (h : ∀ v' w', w'.ownsRow base 34 2 v' (xs ++ ys).length (vS (xs ++ ys)) → w.grownBy w' v.ownBlock → (v'.ownBlock = v.ownBlock ∨ v'.ownBlock = some w.heap.size) → (v' = .slice none 0 0 → v = .slice none 0 0) → K (a.put o.dst v') w') :
    if Region.wanted o (yielded ops a.tmps) = true then Oper.wp Try.prog o a w K Q else E := by
  have hw : Region.wanted o (yielded ops a.tmps) = true := by simp [Region.wanted, hgd]
  rw [if_pos hw]
  obtain ⟨i0, ihi, iz0, iz1, iz2⟩ := info_parts infoT
  rcases hr with ⟨rfl, rfl⟩ | ⟨g, of, c, rfl, h1, h2⟩
  · have hrun := run_append_owned_none (P := Try.prog) (w := w) base 24 o.type 34 i0 2 Try.underlying24 ihi v xs.length (vS xs) hown
    unfold Oper.wp
    simp [execOp, ho, resolve, invoke, builtin, hs, hx, hrun, Result.andThen]
    exact h v w (by rw [List.append_nil]; exact hown) ⟨rfl, rfl, rfl, Nat.le_refl _, fun _ _ _ => rfl⟩ (.inl rfl) id
  · obtain ⟨v', w', hr, k1, k2, k3, k4⟩ := run_append_own_at (P := Try.prog) w base 24 o.type 34 i0 (.agg #[.int .i64 0, .int .i64 0]) 2 16 Try.underlying24 ihi iz0 iz1 iz2 rfl (by decide) v xs.length (vS xs) hown
      ⟨g, of, none⟩ ys.length c (vS ys) (vS_length ys) (fun j u hj => h2.val j u hj) (fun u hu => by obtain ⟨x, rfl⟩ := vS_one ys u hu; rfl) (by unfold maxLen; omega) (by omega) hbase
    unfold Oper.wp execOp
    simp only [ho, resolve, invoke, builtin, Sem.run_bind, Sem.run_pure, Result.andThen_ok, List.map_toArray, List.map_cons, List.map_nil, hs, hx, hr]
    exact h v' w' (by rw [List.length_append, vS_append]; exact k1) k2 k4 (fun e => (k3.1 e).1)
/-- 'v[k:]' and 'v[:k]' -/
theorem RowI.from {w : World} {g o c : Nat} {xs : List Tm} (h : g < w.heap.size ∧ TmOf w g o xs) (k : Nat) (hk : k ≤ xs.length) (hc : xs.length ≤ c) :
    ∃ AD : Addr, (if c = k then some (⟨g, o, none⟩ : Addr) else some ⟨g, o + k * 2, none⟩) = some AD ∧ RowI w (.slice (some AD) (xs.length - k) (c - k)) (xs.drop k) := by
  by_cases hck : c = k
  · refine ⟨⟨g, o, none⟩, by rw [if_pos hck], .inr ⟨g, o, c - k, by rw [List.length_drop], h.1, fun j p hp => ?_⟩⟩
    have := (List.getElem?_eq_some_iff.1 hp).1
    rw [List.length_drop] at this
    omega
  · exact ⟨⟨g, o + k * 2, none⟩, by rw [if_neg hck], .inr ⟨g, o + k * 2, c - k, by rw [List.length_drop], h.1, h.2.drop k⟩⟩
theorem RowI.upto {w : World} {g o c : Nat} {xs : List Tm} (h : g < w.heap.size ∧ TmOf w g o xs) (k : Nat) (hk : k ≤ xs.length) : RowI w (.slice (some ⟨g, o, none⟩) k c) (xs.take k) :=
  .inr ⟨g, o, c, by rw [List.length_take, Nat.min_eq_left hk], h.1, h.2.take k⟩
theorem sortP_len (xs : List Tm) : (sortP xs).length ≤ xs.length := by
  unfold sortP
  split
  · rw [sortT_len]; exact Nat.le_refl _
  · exact Nat.zero_le _
theorem sortP_yes {xs : List Tm} (h : lstB xs = true) : sortP xs = sortT xs := by unfold sortP; rw [if_pos h]
end Go.Proofs.Ytjopcpoodhamcaa
