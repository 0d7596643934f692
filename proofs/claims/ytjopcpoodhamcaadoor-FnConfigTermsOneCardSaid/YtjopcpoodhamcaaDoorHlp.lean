/-
  The walks of the laws' own functions on lists of terms. Conditions: none.
-/
import Derived.Test.YtjopcpoodhamcaaDoorIjn
import Derived.Deep.QuietTactic
import Derived.BigQuiet
import Derived.Deep.RegionHeld3
import Derived.Deep.RegionWith
namespace Go.Proofs.YtjopcpoodhamcaaDoor
set_option linter.unusedSimpArgs false
set_option linter.unusedVariables false
open Go.RowKit

theorem RowI.drewN {w : World} {v : Value} {xs : List Tm} (h : RowI w v xs) (n : Nat) : RowI (w.drewN n) v xs := h.below (below_drewN (Below.refl _ _) n)
/-- append of a list onto a row of the call's own, at a step of a region that draws its order. -/
theorem step_app {w : World} {ops : Array Oper} {o : Oper} {a : Act} {K : Act → World → Prop} {Q : Exit → Act → World → Prop} {E : Prop} (hgd : o.guard = none) (s x : Operand)
    (ho : o.op = .call { callee := .builtin .append, args := #[s, x], argTypes := #[25, 25] })
    (base : Nat) (v xv : Value) (xs ys : List Tm) (hs : a.eval s = v) (hown : w.ownsRow base 31 2 v xs.length (vS xs)) (hx : a.eval x = xv) (hr : RowI w xv ys)
    (hlen : xs.length + ys.length ≤ 3000000) (hbase : base ≤ w.heap.size)
    (h : ∀ v' w', w'.ownsRow base 31 2 v' (xs ++ ys).length (vS (xs ++ ys)) → w.grownBy w' v.ownBlock → (v'.ownBlock = v.ownBlock ∨ v'.ownBlock = some w.heap.size) → (v' = .slice none 0 0 → v = .slice none 0 0) → K (a.put o.dst v') w') :
    if Region.wanted o (yielded ops a.tmps) = true then Oper.wp Tryd.prog o a w K Q else E := by
  have hw : Region.wanted o (yielded ops a.tmps) = true := by simp [Region.wanted, hgd]
  rw [if_pos hw]
  obtain ⟨i0, ihi, iz0, iz1, iz2⟩ := info_parts infoT
  rcases hr with ⟨rfl, rfl⟩ | ⟨g, of, c, rfl, h1, h2⟩
  · have hrun := run_append_owned_none (P := Tryd.prog) (w := w) base 25 o.type 31 i0 2 Tryd.underlying25 ihi v xs.length (vS xs) hown
    unfold Oper.wp
    simp [execOp, ho, resolve, invoke, builtin, hs, hx, hrun, Result.andThen]
    exact h v w (by rw [List.append_nil]; exact hown) ⟨rfl, rfl, rfl, Nat.le_refl _, fun _ _ _ => rfl⟩ (.inl rfl) id
  · obtain ⟨v', w', hr, k1, k2, k3, k4⟩ := run_append_own_at (P := Tryd.prog) w base 25 o.type 31 i0 (.agg #[.int .i64 0, .int .i64 0]) 2 16 Tryd.underlying25 ihi iz0 iz1 iz2 rfl (by decide) v xs.length (vS xs) hown
      ⟨g, of, none⟩ ys.length c (vS ys) (vS_length ys) (fun j u hj => h2.val j u hj) (fun u hu => by obtain ⟨x, rfl⟩ := vS_one ys u hu; rfl) (by unfold maxLen; omega) (by omega) hbase
    unfold Oper.wp execOp
    simp only [ho, resolve, invoke, builtin, Sem.run_bind, Sem.run_pure, Result.andThen_ok, List.map_toArray, List.map_cons, List.map_nil, hs, hx, hr]
    exact h v' w' (by rw [List.length_append, vS_append]; exact k1) k2 k4 (fun e => (k3.1 e).1)
/-- 'v[k:]' and 'v[:k]' -/
theorem RowI.from {w : World} {g o c : Nat} {xs : List Tm} (h : g < w.heap.size ∧ TmOf w g o xs) (k : Nat) (hk : k ≤ xs.length) (hc : xs.length ≤ c) :
    ∃ AD : Addr, (if c = k then some (⟨g, o, none⟩ : Addr) else some ⟨g, o + k * 2, none⟩) = some AD ∧ RowI w (.slice (some AD) (xs.length - k) (c - k)) (xs.drop k) := by
  by_cases hck : c = k
  · refine ⟨⟨g, o, none⟩, by rw [if_pos hck], .inr ⟨g, o, c - k, by rw [List.length_drop], h.1, fun j p hp => ?_⟩⟩
    have := (List.getElem?_eq_some_iff.1 hp).1
    rw [List.length_drop] at this
    omega
  · exact ⟨⟨g, o + k * 2, none⟩, by rw [if_neg hck], .inr ⟨g, o + k * 2, c - k, by rw [List.length_drop], h.1, h.2.drop k⟩⟩
theorem RowI.upto {w : World} {g o c : Nat} {xs : List Tm} (h : g < w.heap.size ∧ TmOf w g o xs) (k : Nat) (hk : k ≤ xs.length) : RowI w (.slice (some ⟨g, o, none⟩) k c) (xs.take k) :=
  .inr ⟨g, o, c, by rw [List.length_take, Nat.min_eq_left hk], h.1, h.2.take k⟩
theorem sortP_len (xs : List Tm) : (sortP xs).length ≤ xs.length := by
  unfold sortP
  split
  · rw [sortT_len]; exact Nat.le_refl _
  · exact Nat.zero_le _
theorem sortP_yes {xs : List Tm} (h : lstB xs = true) : sortP xs = sortT xs := by unfold sortP; rw [if_pos h]
set_option maxHeartbeats 400000 in
theorem same_any (v1 v2 : Value) (xs : List Tm) (w : World) (hs : xs.length ≤ 1000) (h1 : RowI w v1 xs) (h2 : RowI w v2 xs) :
    Calls Tryd.prog 12 #[v1, v2] w fun e w' => e = .returned (.bool true) ∧ ∃ m, w' = w.drewN m := by
  have H1 := Lib.hid h1
  have H2 := Lib.hid h2
  obtain ⟨a1, c1, rfl⟩ := h1.form
  obtain ⟨a2, c2, rfl⟩ := h2.form
  clear h1 h2
  go_enter Tryd.func12, Tryd.ntmps12
  go_wp2
  go_loopw [5] (fun i wr => ∃ k : Nat, k ≤ xs.length ∧ i = .int .i64 k ∧ ∃ m, wr = w.drewN m) (fun i _ => xs.length - (intOf i).toNat)
  case atStart => exact ⟨0, Nat.zero_le _, rfl, 0, rfl⟩
  case round =>
    obtain ⟨k, hk, rfl, m, rfl⟩ := hrel
    by_cases hlt : k < xs.length
    · obtain ⟨g1, o1, c1', p, hv1, hp, -, a0, a1'⟩ := H1.out.get hlt
      obtain ⟨g2, o2, c2', p', hv2, hp', -, b0, b1'⟩ := H2.out.get hlt
      have hpp : p' = p := by have := hp.symm.trans hp'; simpa using this.symm
      subst hpp
      simp only [Value.slice.injEq, true_and] at hv1 hv2
      obtain ⟨rfl, rfl⟩ := hv1
      obtain ⟨rfl, rfl⟩ := hv2
      clear hp hp'
      have i0 : (0 : Int) ≤ (k : Int) := Int.natCast_nonneg _
      have i1 : (k : Int) < (xs.length : Int) := by omega
      go_wp2
      go_quiet (fail)
      go_wp2
      exact ⟨⟨k + 1, by omega, by go_num, m + nq, rfl⟩, by simp [intOf]; omega⟩
    · obtain rfl : k = xs.length := by omega
      go_wp2
      go_ret
      exact ⟨rfl, m, rfl⟩
theorem same_b (v1 v2 : Value) (xs : List Tm) (w : World) (hs : xs.length ≤ 1000) (h1 : RowI w v1 xs) (h2 : RowI w v2 xs) :
    Calls Tryd.prog 12 #[v1, v2] w fun e w' => e = .returned (.bool true) ∧ Below w.heap.size w w' := by
  refine (same_any v1 v2 xs w hs h1 h2).mono ?_
  rintro e w' ⟨rfl, m, rfl⟩
  exact ⟨rfl, below_drewN (Below.refl _ _) m⟩
theorem ordB_at : ∀ (xs : List Tm) (i : Nat) (a b : Tm), ordB xs = true → xs[i]? = some a → xs[i + 1]? = some b → b.1 < a.1 ∨ (a.1 = b.1 ∧ b.2 ≤ a.2)
  | [], i, a, b, _, h, _ => by simp at h
  | [x], 0, a, b, _, _, h => by simp at h
  | [x], i + 1, a, b, _, h, _ => by simp at h
  | x :: y :: r, 0, a, b, ho, ha, hb => by
    simp only [List.getElem?_cons_zero, Option.some.injEq] at ha
    simp only [Nat.zero_add, List.getElem?_cons_succ, List.getElem?_cons_zero, Option.some.injEq] at hb
    subst ha hb
    simp only [ordB, Bool.and_eq_true, Bool.not_eq_true', Bool.or_eq_false_iff, Bool.and_eq_false_iff, decide_eq_false_iff_not] at ho
    omega
  | x :: y :: r, i + 1, a, b, ho, ha, hb => by
    simp only [ordB, Bool.and_eq_true] at ho
    exact ordB_at (y :: r) i a b ho.2 (by simpa using ha) (by simpa using hb)
set_option maxHeartbeats 800000 in
theorem order_any (v : Value) (xs : List Tm) (w : World) (hs : xs.length ≤ 1000) (h1 : RowI w v xs) (ho : ordB xs = true) :
    Calls Tryd.prog 16 #[v] w fun e w' => e = .returned (.bool true) ∧ Below w.heap.size w w' := by
  have H1 := Lib.hid h1
  have HO := Lib.hid ho
  obtain ⟨a, c, rfl⟩ := h1.form
  clear h1 ho
  go_enter Tryd.func16, Tryd.ntmps16
  go_wp2
  go_loopw [3] (fun i wr => ∃ k : Nat, (k + 1 ≤ xs.length ∨ k = 0) ∧ i = .int .i64 ((k : Int) + 1) ∧ Below w.heap.size w wr) (fun i _ => xs.length - (intOf i).toNat)
  case atStart => exact ⟨0, .inr rfl, by go_num, Below.refl _ _⟩
  case round =>
    obtain ⟨k, hk, rfl, hbel⟩ := hrel
    have hbz := hbel.size
    have i0 : (0 : Int) ≤ (k : Int) := Int.natCast_nonneg _
    by_cases hlt : k + 1 < xs.length
    · obtain ⟨g, o, c1', p, hv1, hp, hg, r0, r1⟩ := (H1.out.below hbel).get (show k < xs.length by omega)
      obtain ⟨g', o', c2', q, hv2, hq, hg', t0, t1⟩ := (H1.out.below hbel).get hlt
      simp only [Value.slice.injEq, true_and] at hv1
      obtain ⟨rfl, rfl⟩ := hv1
      simp only [Value.slice.injEq, true_and, Option.some.injEq, Addr.mk.injEq, and_true] at hv2
      obtain ⟨⟨rfl, rfl⟩, rfl⟩ := hv2
      have hor := ordB_at xs k p q HO.out hp hq
      clear hp hq hk
      have i1 : (k : Int) + 1 < (xs.length : Int) := by omega
      have e1 : (k : Int) + 1 - 1 = (k : Int) := by omega
      rcases hor with h1 | ⟨h1, h2⟩
      · have f1 : decide (p.1 < q.1) = false := by first | (simp; done) | (simp; omega)
        have f2 : (p.1 == q.1) = false := by rw [beq_eq_false_iff_ne]; omega
        have f3 : decide (p.1 = q.1) = false := by first | (simp; done) | (simp; omega)
        go_wp2
        go_roundw
        case rel => exact ⟨k + 1, by omega, by go_num, by (repeat' first | (with_reducible exact Below.refl _ _) | (with_reducible assumption) | (with_reducible refine below_drewN ?_ _) | (with_reducible refine Below.drew ?_) | (with_reducible refine Below.alloc ?_ ?_ _) | (with_reducible refine Below.setCell ?_ ?_ _) | (with_reducible refine Below.trans ?_ (Below.mono (by assumption) ?_)) | first | omega | (simp only [World.size_alloc, World.size_setCell, World.size_drew, size_drewN]; omega) | (simp; done) | (simp; omega) | (simp only [World.size_alloc, World.size_setCell, World.size_drew, size_drewN] at *; omega) | (simp at *; omega))⟩
        case measure => simp [intOf]; omega
      · have f1 : decide (p.1 < q.1) = false := by first | (simp; done) | (simp; omega)
        have f2 : (p.1 == q.1) = true := by rw [beq_iff_eq]; exact h1
        have f3 : decide (p.2 < q.2) = false := by first | (simp; done) | (simp; omega)
        go_wp2
        go_roundw
        case rel => exact ⟨k + 1, by omega, by go_num, by (repeat' first | (with_reducible exact Below.refl _ _) | (with_reducible assumption) | (with_reducible refine below_drewN ?_ _) | (with_reducible refine Below.drew ?_) | (with_reducible refine Below.alloc ?_ ?_ _) | (with_reducible refine Below.setCell ?_ ?_ _) | (with_reducible refine Below.trans ?_ (Below.mono (by assumption) ?_)) | first | omega | (simp only [World.size_alloc, World.size_setCell, World.size_drew, size_drewN]; omega) | (simp; done) | (simp; omega) | (simp only [World.size_alloc, World.size_setCell, World.size_drew, size_drewN] at *; omega) | (simp at *; omega))⟩
        case measure => simp [intOf]; omega
    · have hk1 : ¬ (k : Int) + 1 < (xs.length : Int) := by omega
      go_wp2
      go_ret
      exact ⟨rfl, hbel⟩
end Go.Proofs.YtjopcpoodhamcaaDoor
