import Derived.Test.YtjopcpoodhamcaaDoorLst
import Derived.Test.YtjopcpoodhamcaaDoorGl
import Derived.Laws.AppendOwnNone
/-
  Lists of terms as arguments; the walks of impl.TermsWeight, impl.termListValid. Conditions: none.
-/
namespace Go.Proofs.YtjopcpoodhamcaaDoor
set_option linter.unusedSimpArgs false
set_option linter.unusedVariables false
open Go.RowKit

/-- From cell o on, block g holds the terms xs. -/
def TmOf (w : World) (g o : Nat) (xs : List Tm) : Prop :=
  ∀ (k : Nat) (p : Tm), xs[k]? = some p → w.cell? ⟨g, o + k * 2, none⟩ = some (.int .i64 p.1) ∧ w.cell? ⟨g, o + k * 2 + 1, none⟩ = some (.int .i64 p.2)
theorem TmOf.below {B : Nat} {w w' : World} {g o : Nat} {xs : List Tm} (h : TmOf w g o xs) (hb : Below B w w') (hg : g < B) : TmOf w' g o xs := fun k p hp => by
  obtain ⟨a, b⟩ := h k p hp
  exact ⟨(hb.cell (p := ⟨g, _, none⟩) hg).trans a, (hb.cell (p := ⟨g, _, none⟩) hg).trans b⟩
theorem TmAt.off {w : World} {g : Nat} {xs : List Tm} (h : TmAt w g xs) : TmOf w g 0 xs := fun k p hp => by
  have := h k p hp
  simpa using this
theorem TmOf.drop {w : World} {g o : Nat} {xs : List Tm} (h : TmOf w g o xs) (k : Nat) : TmOf w g (o + k * 2) (xs.drop k) := fun j p hp => by
  rw [List.getElem?_drop] at hp
  have := h (k + j) p hp
  rw [show o + (k + j) * 2 = o + k * 2 + j * 2 by omega] at this
  exact this
theorem TmOf.take {w : World} {g o : Nat} {xs : List Tm} (h : TmOf w g o xs) (k : Nat) : TmOf w g o (xs.take k) := fun j p hp => by
  rw [List.getElem?_take] at hp
  split at hp
  · exact h j p hp
  · cases hp
theorem TmOf.keep {w w' : World} {g o : Nat} {xs : List Tm} (h : TmOf w g o xs) (hk : ∀ i, w'.cell? ⟨g, i, none⟩ = w.cell? ⟨g, i, none⟩) : TmOf w' g o xs :=
  fun k p hp => by obtain ⟨a, b⟩ := h k p hp; exact ⟨(hk _).trans a, (hk _).trans b⟩
/-- v is a list of the terms xs, somewhere in memory. -/
def RowI (w : World) (v : Value) (xs : List Tm) : Prop :=
  (v = .slice none 0 0 ∧ xs = []) ∨ ∃ g o c, v = .slice (some ⟨g, o, none⟩) xs.length c ∧ g < w.heap.size ∧ TmOf w g o xs
theorem RowI.below {w w' : World} {v : Value} {xs : List Tm} (h : RowI w v xs) (hb : Below w.heap.size w w') : RowI w' v xs := by
  rcases h with h | ⟨g, o, c, rfl, h1, h2⟩
  · exact .inl h
  · exact .inr ⟨g, o, c, rfl, Nat.lt_of_lt_of_le h1 hb.size, h2.below hb h1⟩
theorem RowL.inp {w : World} {base : Nat} {v : Value} {xs : List Tm} (h : RowL w base v xs) : RowI w v xs := by
  obtain ⟨g, c, rfl, -, h2, h3, -⟩ := h
  exact .inr ⟨g, 0, c, rfl, h2, h3.off⟩
theorem rowI_nil (w : World) : RowI w (.slice none 0 0) [] := .inl ⟨rfl, rfl⟩
theorem RowI.form {w : World} {v : Value} {xs : List Tm} (h : RowI w v xs) : ∃ a c, v = .slice a xs.length c := by
  rcases h with ⟨rfl, rfl⟩ | ⟨g, o, c, rfl, -, -⟩
  · exact ⟨_, _, rfl⟩
  · exact ⟨_, _, rfl⟩
theorem TmOf.val {w : World} {g o : Nat} {xs : List Tm} (h : TmOf w g o xs) (j : Nat) (u : Value) (hu : (vS xs)[j]? = some u) : w.cell? ((⟨g, o, none⟩ : Addr).add j) = some u := by
  have e : (⟨g, o, none⟩ : Addr).add j = ⟨g, o + j, none⟩ := by
    by_cases h0 : j = 0
    · subst h0; rfl
    · simp [Addr.add, h0]
  rw [e]
  have hj : j < xs.length * 2 := by rw [← vS_length]; exact (List.getElem?_eq_some_iff.1 hu).1
  obtain ⟨p, hp⟩ : ∃ p, xs[j / 2]? = some p := ⟨_, List.getElem?_eq_getElem (by omega)⟩
  obtain ⟨a, b⟩ := h _ p hp
  obtain ⟨c, d⟩ := vS_get xs _ p hp
  rcases Nat.mod_two_eq_zero_or_one j with e | e
  · rw [show j = j / 2 * 2 by omega] at hu ⊢
    rw [c] at hu
    rw [a]; exact hu
  · rw [show j = j / 2 * 2 + 1 by omega] at hu ⊢
    rw [d] at hu
    rw [show o + (j / 2 * 2 + 1) = o + j / 2 * 2 + 1 by omega, b]; exact hu
/-- append of a list onto a row of the call's own. -/
theorem wpl_app {w : World} {ops : Array Oper} {rest : List Oper} {o : Oper} {a : Act} {Q : Exit → Act → World → Prop} (hgd : o.guard = none) (s x : Operand)
    (ho : o.op = .call { callee := .builtin .append, args := #[s, x], argTypes := #[25, 25] })
    (base : Nat) (v xv : Value) (xs ys : List Tm) (hs : a.eval s = v) (hown : w.ownsRow base 31 2 v xs.length (vS xs)) (hx : a.eval x = xv) (hr : RowI w xv ys)
    (hlen : xs.length + ys.length ≤ 3000000) (hbase : base ≤ w.heap.size)
    (h : ∀ v' w', w'.ownsRow base 31 2 v' (xs ++ ys).length (vS (xs ++ ys)) → w.grownBy w' v.ownBlock → (v'.ownBlock = v.ownBlock ∨ v'.ownBlock = some w.heap.size) → (v' = .slice none 0 0 → v = .slice none 0 0) → wpList Tryd.prog ops Q rest (a.put o.dst v') w') :
    wpList Tryd.prog ops Q (o :: rest) a w := by
  obtain ⟨i0, ihi, iz0, iz1, iz2⟩ := info_parts infoT
  rcases hr with ⟨rfl, rfl⟩ | ⟨g, of, c, rfl, h1, h2⟩
  · refine wpList_append_own_none hgd s x 25 ho base 31 i0 2 Tryd.underlying25 ihi v xs.length (vS xs) hs hown hx ?_
    refine h v w (by rw [List.append_nil]; exact hown) ⟨rfl, rfl, rfl, Nat.le_refl _, fun _ _ _ => rfl⟩ (.inl rfl) id
  · refine wpList_append_own_at _ hgd s x 25 ho base 31 i0 (.agg #[.int .i64 0, .int .i64 0]) 2 16 Tryd.underlying25 ihi iz0 iz1 iz2 rfl (by decide) v xs.length (vS xs) hs hown
      ⟨g, of, none⟩ ys.length c (vS ys) hx (vS_length ys) (fun j u hj => h2.val j u hj) (fun u hu => by obtain ⟨x, rfl⟩ := vS_one ys u hu; rfl) (by unfold maxLen; omega) (by omega) hbase ?_
    intro v' w' k1 k2 k3 k4
    exact h v' w' (by rw [List.length_append, vS_append]; exact k1) k2 k4 (fun e => (k3.1 e).1)

def twF (s l : Int) : Int := if tvB s l = true then (s + 1) * (2 * l + 1) else 0
set_option maxHeartbeats 400000 in
theorem iTermWeight_any (s l : Int) (w : World) (hv : tvB s l = true) :
    Calls Tryd.prog 35 #[.agg #[.int .i64 s, .int .i64 l]] w fun e w' => e = .returned (.int .i64 ((s + 1) * (2 * l + 1))) ∧ Below w.heap.size w w' := by
  have bt := tvB_true hv
  have hm : 0 ≤ (s + 1) * (2 * l + 1) ∧ (s + 1) * (2 * l + 1) ≤ 9 * 17 := by
    constructor
    · exact Int.mul_nonneg (by omega) (by omega)
    · exact Int.mul_le_mul (by omega) (by omega) (by omega) (by omega)
  have q1 : IntKind.i64.wrap ((s + 1) * (2 * l + 1)) = (s + 1) * (2 * l + 1) := IntWalk.i64_in _ (by omega)
  go_enter Tryd.func35, Tryd.ntmps35
  go_wp2_with (go_at_call 34; refine (iTermValid_any _ _ _).mono ?_; rintro e w1 ⟨rfl, hb1⟩; obtain ⟨hc1, hf1⟩ := bcell hb1; have hz1 := hb1.size; (try simp only [World.size_alloc, World.size_setCell, World.size_drew, size_drewN] at hz1 hc1 hf1); (have g1a : w.heap.size < w1.heap.size := by omega))
  go_ret
  exact ⟨rfl, by (repeat' first | (with_reducible exact Below.refl _ _) | (with_reducible assumption) | (with_reducible refine below_drewN ?_ _) | (with_reducible refine Below.drew ?_) | (with_reducible refine Below.alloc ?_ ?_ _) | (with_reducible refine Below.setCell ?_ ?_ _) | (with_reducible refine Below.trans ?_ (Below.mono (by assumption) ?_)) | first | omega | (simp only [World.size_alloc, World.size_setCell, World.size_drew, size_drewN]; omega) | (simp; done) | (simp; omega) | (simp only [World.size_alloc, World.size_setCell, World.size_drew, size_drewN] at *; omega) | (simp at *; omega))⟩
def wgtK (T : List Tm) (k : Nat) : Int := wgt (T.take k)
theorem wgtK_step {T : List Tm} {k : Nat} {p : Tm} (h : T[k]? = some p) : wgtK T (k + 1) = wgtK T k + (p.1 + 1) * (2 * p.2 + 1) := by
  unfold wgtK
  rw [List.take_add_one, h, wgt_append]
  simp [wgt]
/-- The terms ahead of k are valid. -/
def okK (T : List Tm) (k : Nat) : Prop := allV (T.take k) = true
theorem okK_step {T : List Tm} {k : Nat} {p : Tm} (h : T[k]? = some p) (h1 : okK T k) (h2 : tvB p.1 p.2 = true) : okK T (k + 1) := by
  unfold okK
  rw [List.take_add_one, h, allV_append, h1]
  simp [allV, h2]
theorem okK_bd {T : List Tm} {k : Nat} (h : okK T k) : 0 ≤ wgtK T k ∧ wgtK T k ≤ 153 * k := by
  have := wgt_bd h
  have := List.length_take_le k T
  unfold wgtK
  omega
theorem okK_no {T : List Tm} {k : Nat} {p : Tm} (h : T[k]? = some p) (h2 : tvB p.1 p.2 = false) : wgtM T = -1 := by
  unfold wgtM
  cases e : allV T
  · rfl
  · have := allV_iff.1 e p (List.mem_of_getElem? h)
    rw [h2] at this
    cases this
theorem okK_all {T : List Tm} (h : okK T T.length) : wgtM T = wgtK T T.length ∧ allV T = true := by
  unfold okK at h
  rw [List.take_length] at h
  unfold wgtM wgtK
  rw [h, List.take_length]
  exact ⟨rfl, rfl⟩
set_option maxHeartbeats 400000 in
theorem iWeight_nil (w : World) :
    Calls Tryd.prog 14 #[.slice none 0 0] w fun e w' => e = .returned (.int .i64 0) ∧ w = w' := by
  go_enter Tryd.func14, Tryd.ntmps14
  go_wp2
  refine wp_loop_rounds 1 ?_
  rw [rounds_succ]
  go_wp2
  go_ret
  exact ⟨rfl, rfl⟩
set_option maxHeartbeats 800000 in
theorem iWeight_some (g o c : Nat) (xs : List Tm) (w : World) (hs : xs.length ≤ 1000) (hg : g < w.heap.size) (h1 : TmOf w g o xs) :
    Calls Tryd.prog 14 #[.slice (some ⟨g, o, none⟩) xs.length c] w fun e w' => e = .returned (.int .i64 (wgtM xs)) ∧ Below w.heap.size w w' := by
  have H1 := Lib.hid h1
  clear h1
  go_enter Tryd.func14, Tryd.ntmps14
  go_wp2
  go_loopw [3, 8] (fun n i wr => ∃ k : Nat, k ≤ xs.length ∧ i = .int .i64 k ∧ n = .int .i64 (wgtK xs k) ∧ okK xs k ∧ Below w.heap.size w wr) (fun _ i _ => xs.length - (intOf i).toNat)
  case atStart => exact ⟨0, Nat.zero_le _, rfl, rfl, rfl, Below.refl _ _⟩
  case round =>
    obtain ⟨k, hk, rfl, rfl, hok, hbel⟩ := hrel
    have hbz := hbel.size
    have wb := okK_bd hok
    have HOK := Lib.hid hok
    clear hok
    by_cases hlt : k < xs.length
    · obtain ⟨p, hp⟩ : ∃ p, xs[k]? = some p := ⟨_, List.getElem?_eq_getElem hlt⟩
      obtain ⟨a0, a1⟩ := H1.out k p hp
      have r0 := (hbel.cell (p := ⟨g, o + k * 2, none⟩) hg).trans a0
      have r1 := (hbel.cell (p := ⟨g, o + k * 2 + 1, none⟩) hg).trans a1
      have HP := Lib.hid hp
      clear hp a0 a1
      have i0 : (0 : Int) ≤ (k : Int) := Int.natCast_nonneg _
      have i1 : (k : Int) < (xs.length : Int) := by omega
      cases ht : tvB p.1 p.2
      · have HT := Lib.hid ht
        have HN := Lib.hid (okK_no HP.out ht)
        clear ht
        go_wp2_with (go_at_call 34; refine (iTermValid_any _ _ _).mono ?_; rintro e w5 ⟨rfl, hb5⟩; obtain ⟨hc5, hf5⟩ := bcell hb5; have hz5 := hb5.size; (try simp only [World.size_alloc, World.size_setCell, World.size_drew, size_drewN] at hz5 hc5 hf5); (have g5a : wr.heap.size < w5.heap.size := by omega); rw [HT.out])
        go_ret
        exact ⟨by have h := HN.out; simp only [h]; rfl, by (repeat' first | (with_reducible exact Below.refl _ _) | (with_reducible assumption) | (with_reducible refine below_drewN ?_ _) | (with_reducible refine Below.drew ?_) | (with_reducible refine Below.alloc ?_ ?_ _) | (with_reducible refine Below.setCell ?_ ?_ _) | (with_reducible refine Below.trans ?_ (Below.mono (by assumption) ?_)) | first | omega | (simp only [World.size_alloc, World.size_setCell, World.size_drew, size_drewN]; omega) | (simp; done) | (simp; omega) | (simp only [World.size_alloc, World.size_setCell, World.size_drew, size_drewN] at *; omega) | (simp at *; omega))⟩
      · have HT := Lib.hid ht
        have bt := tvB_true ht
        have S := Lib.hid (wgtK_step HP.out)
        have hm : 0 ≤ (p.1 + 1) * (2 * p.2 + 1) ∧ (p.1 + 1) * (2 * p.2 + 1) ≤ 9 * 17 := by
          constructor
          · exact Int.mul_nonneg (by omega) (by omega)
          · exact Int.mul_le_mul (by omega) (by omega) (by omega) (by omega)
        obtain ⟨y, hy⟩ : ∃ y, y = (p.1 + 1) * (2 * p.2 + 1) := ⟨_, rfl⟩
        rw [← hy] at hm
        have HY := Lib.hid hy
        clear hy ht
        go_wp2_with (first
          | (go_at_call 34; refine (iTermValid_any _ _ _).mono ?_; rintro e w5 ⟨rfl, hb5⟩; obtain ⟨hc5, hf5⟩ := bcell hb5; have hz5 := hb5.size; (try simp only [World.size_alloc, World.size_setCell, World.size_drew, size_drewN] at hz5 hc5 hf5); (have g5a : wr.heap.size < w5.heap.size := by omega); rw [HT.out])
          | (go_at_call 35; refine (iTermWeight_any _ _ _ HT.out).mono ?_; rintro e w6 ⟨rfl, hb6⟩; obtain ⟨hc6, hf6⟩ := bcell hb6; have hz6 := hb6.size; (try simp only [World.size_alloc, World.size_setCell, World.size_drew, size_drewN] at hz6 hc6 hf6); rw [← HY.out]))
        have hB6 : Below w.heap.size w w6 := by (repeat' first | (with_reducible exact Below.refl _ _) | (with_reducible assumption) | (with_reducible refine below_drewN ?_ _) | (with_reducible refine Below.drew ?_) | (with_reducible refine Below.alloc ?_ ?_ _) | (with_reducible refine Below.setCell ?_ ?_ _) | (with_reducible refine Below.trans ?_ (Below.mono (by assumption) ?_)) | first | omega | (simp only [World.size_alloc, World.size_setCell, World.size_drew, size_drewN]; omega) | (simp; done) | (simp; omega) | (simp only [World.size_alloc, World.size_setCell, World.size_drew, size_drewN] at *; omega) | (simp at *; omega))
        go_roundw
        case rel => exact ⟨k + 1, by omega, by go_num, by rw [S.out, HY.out], okK_step HP.out HOK.out HT.out, hB6⟩
        case measure => simp [intOf]; omega
    · obtain rfl : k = xs.length := by omega
      have HW := Lib.hid (okK_all HOK.out).1
      go_wp2
      go_ret
      exact ⟨by have h := HW.out; simp only [h]; rfl, hbel⟩
theorem iWeight_any (v : Value) (xs : List Tm) (w : World) (hs : xs.length ≤ 1000) (h : RowI w v xs) :
    Calls Tryd.prog 14 #[v] w fun e w' => e = .returned (.int .i64 (wgtM xs)) ∧ Below w.heap.size w w' := by
  rcases h with ⟨rfl, rfl⟩ | ⟨g, o, c, rfl, h1, h2⟩
  · refine (iWeight_nil w).mono ?_
    rintro e w' ⟨rfl, rfl⟩
    exact ⟨rfl, Below.refl _ _⟩
  · exact iWeight_some g o c xs w hs h1 h2
theorem iList_any (v : Value) (xs : List Tm) (w : World) (hs : xs.length ≤ 1000000000) (h : RowI w v xs) :
    Calls Tryd.prog 46 #[v] w fun e w' => e = .returned (.bool (lstB xs)) ∧ Below w.heap.size w w' := by
  have hr := h
  obtain ⟨a, c, rfl⟩ := h.form
  by_cases hl : xs.length ≤ 400
  · have HW := Lib.hid (fun W (hb : Below w.heap.size w W) => iWeight_any _ xs W (by omega) (hr.below hb))
    have HE := Lib.hid (show lstB xs = decide (0 ≤ wgtM xs) by rw [wgtM_nonneg]; simp [lstB, hl])
    clear hr
    have l1 : (xs.length : Int) ≤ 400 := by omega
    go_enter Tryd.func46, Tryd.ntmps46
    go_wp2_with (go_at_call 14; refine (HW.out _ (Below.refl _ _)).mono ?_; rintro e w5 ⟨rfl, hb5⟩)
    go_ret
    exact ⟨by have h := HE.out; simp only [h]; rfl, hb5⟩
  · have HE := Lib.hid (show lstB xs = false by simp [lstB, hl])
    clear hr
    have l1 : ¬ (xs.length : Int) ≤ 400 := by omega
    go_enter Tryd.func46, Tryd.ntmps46
    go_wp2
    go_ret
    exact ⟨by have h := HE.out; simp only [h]; rfl, Below.refl _ _⟩
end Go.Proofs.YtjopcpoodhamcaaDoor

/-
  The walk of impl.TermsCouple, and of both where no coupling is. Conditions: none.
-/
namespace Go.Proofs.YtjopcpoodhamcaaDoor
set_option linter.unusedSimpArgs false
set_option linter.unusedVariables false
open Go.RowKit

/-- The inner row. -/
def midU (U L : Int) (M N1 i j : Nat) : List Tm := lstU U L M N1 i ++ rowU (U - 2 * (N1 : Int) + 2 + 2 * (i : Int)) L M j
theorem midU_zero (U L : Int) (M N1 i : Nat) : midU U L M N1 i 0 = lstU U L M N1 i := by simp [midU, rowU]
theorem midU_last (U L : Int) (M N1 i : Nat) : midU U L M N1 i M = lstU U L M N1 (i + 1) := rfl
theorem midU_succ (U L : Int) (M N1 i j : Nat) : midU U L M N1 i (j + 1) = midU U L M N1 i j ++ [(U - 2 * (N1 : Int) + 2 + 2 * (i : Int), L - (M : Int) + 1 + (j : Int))] := by simp [midU, rowU]
theorem midU_len (U L : Int) (M N1 i j : Nat) (hm : M ≤ 9) (hi : i ≤ 5) (hj : j ≤ 9) : (midU U L M N1 i j).length ≤ 54 := by
  have h1 := lstU_len U L M N1 i
  have h2 := rowU_len (U - 2 * (N1 : Int) + 2 + 2 * (i : Int)) L M j
  have : i * M ≤ 5 * 9 := Nat.mul_le_mul hi hm
  simp only [midU, List.length_append]; omega
theorem coup_some (a b : Int) (D : Int) (K : Nat) (w : World) (h1 : spB a = true) (h2 : spB b = true) (h3 : a + b ≤ 24) (hD : absd a b = D) (hK : cMany a b = K) :
    Calls Tryd.prog 62 #[.int .i64 a, .int .i64 b] w fun e w' => ∃ g cap, e = .returned (.slice (some ⟨g, 0, none⟩) K cap) ∧
      (∀ k, k < K → w'.cell? ⟨g, k, none⟩ = some (.int .i64 (D + 2 * (k : Int)))) ∧ w.heap.size ≤ g ∧ g < w'.heap.size ∧ Below w.heap.size w w' := by
  subst hD hK
  refine (iCoupled_any a b w).mono ?_
  rintro e w' ⟨v, rfl, ho, hb⟩
  rw [coupled_yes h1 h2 h3, steps_length] at ho
  have hm := (cMany_bd h1 h2).1
  obtain ⟨g, cap, rfl, g1, g2, hc, -⟩ := row_form ho (by omega)
  exact ⟨g, cap, rfl, fun k hk => by rw [hc k (by omega), vI_steps _ _ _ hk], g1, g2, hb⟩
set_option maxRecDepth 20000 in
set_option maxHeartbeats 2000000 in
theorem iCouple_yes (s t : Tm) (w : World) (hc : cplB s t = true) :
    Calls Tryd.prog 47 #[.agg #[.int .i64 s.1, .int .i64 s.2], .agg #[.int .i64 t.1, .int .i64 t.2]] w fun e w' => ∃ v, e = .returned (.tuple #[v, .bool true]) ∧ RowL w' w.heap.size v (cplP s t) ∧ Below w.heap.size w w' := by
  obtain ⟨U, L, M, N1, hU, hL, hM, hN1, e1, e2, N5, M9, hU0, hU8, hL0, hL8, p1, p2, hcp, hok, hsort, hlenU, hlenP⟩ := cpl_facts hc
  simp only [cplB, Bool.and_eq_true, decide_eq_true_eq] at hc
  obtain ⟨⟨⟨hv1, hv2⟩, hs8⟩, hl8⟩ := hc
  obtain ⟨a1, a2, a3, a4⟩ := tvB_true hv1
  obtain ⟨b1, b2, b3, b4⟩ := tvB_true hv2
  obtain ⟨i0, ihi, iz0, iz1, iz2⟩ := info_parts infoT
  have kA : ∀ W, Calls Tryd.prog 62 #[.int .i64 s.1, .int .i64 t.1] W fun e w' => ∃ g cap, e = .returned (.slice (some ⟨g, 0, none⟩) N1 cap) ∧
      (∀ k, k < N1 → w'.cell? ⟨g, k, none⟩ = some (.int .i64 (U - 2 * (N1 : Int) + 2 + 2 * (k : Int)))) ∧ W.heap.size ≤ g ∧ g < w'.heap.size ∧ Below W.heap.size W w' := fun W =>
    coup_some s.1 t.1 _ N1 W (by simp [spB]; omega) (by simp [spB]; omega) (by omega) (by rw [e1]; omega) (by rw [hN1]; unfold cMany mnI; split <;> omega)
  have kB : ∀ W, Calls Tryd.prog 62 #[.int .i64 (2 * s.2), .int .i64 (2 * t.2)] W fun e w' => ∃ g cap, e = .returned (.slice (some ⟨g, 0, none⟩) M cap) ∧
      (∀ k, k < M → w'.cell? ⟨g, k, none⟩ = some (.int .i64 (2 * (L - (M : Int) + 1) + 2 * (k : Int)))) ∧ W.heap.size ≤ g ∧ g < w'.heap.size ∧ Below W.heap.size W w' := fun W =>
    coup_some (2 * s.2) (2 * t.2) _ M W (by simp [spB]; omega) (by simp [spB]; omega) (by omega) (by
      have : absd (2 * s.2) (2 * t.2) = 2 * absd s.2 t.2 := by unfold absd; split <;> split <;> omega
      omega) (by rw [hM]; unfold cMany mnI; split <;> split <;> omega)
  have hpos : 0 < N1 * M := Nat.mul_pos (by omega) (by omega)
  have hle : N1 * M ≤ 5 * 9 := Nat.mul_le_mul N5 M9
  have HA := Lib.hid kA
  have HB := Lib.hid kB
  have HOK := Lib.hid hok
  have HS := Lib.hid hsort
  have HLU := Lib.hid hlenU
  have HLP := Lib.hid hlenP
  have HPL := Lib.hid (show 0 < N1 * M ∧ N1 * M ≤ 45 from ⟨hpos, hle⟩)
  have HV1 := Lib.hid hv1
  have HV2 := Lib.hid hv2
  have lU0 : 0 ≤ U - 2 * (N1 : Int) + 2 := by omega
  have lU1 : U - 2 * (N1 : Int) + 2 + 2 * ((N1 : Int) - 1) ≤ 8 := by omega
  have lL0 : 0 ≤ L - (M : Int) + 1 := by omega
  have lL1 : L - (M : Int) + 1 + ((M : Int) - 1) ≤ 8 := by omega
  have hsU : s.1 + t.1 = U := hU.symm
  have hsL : s.2 + t.2 = L := hL.symm
  have hdU : decide (8 < U) = false := by simp; omega
  have hdL : decide (8 < L) = false := by simp; omega
  obtain ⟨X, hX⟩ : ∃ X, X = U - 2 * (N1 : Int) + 2 := ⟨_, rfl⟩
  obtain ⟨Y, hY⟩ : ∃ Y, Y = L - (M : Int) + 1 := ⟨_, rfl⟩
  rw [← hX] at lU0 lU1
  rw [← hY] at lL0 lL1
  have HX := Lib.hid hX
  have HY := Lib.hid hY
  rw [← HX.out] at HA
  rw [← HY.out] at HB
  clear hok hsort hlenU hlenP hpos hle hv1 hv2 kA kB e1 e2 hU hL hM hN1 hcp p1 p2 hX hY
  go_enter Tryd.func47, Tryd.ntmps47
  go_wp2_with fail
  refine (iTermValid_any _ _ _).mono ?_
  rintro e w5 ⟨rfl, hb5⟩
  rw [HV1.out]
  obtain ⟨hc5, hf5⟩ := bcell hb5; have hz5 := hb5.size; (try simp only [World.size_alloc, World.size_setCell, World.size_drew, size_drewN] at hz5 hc5 hf5); (have g5a : w.heap.size < w5.heap.size := by omega); (have g5b : w.heap.size + 1 < w5.heap.size := by omega)
  go_wp2_with fail
  refine (iTermValid_any _ _ _).mono ?_
  rintro e w6 ⟨rfl, hb6⟩
  rw [HV2.out]
  obtain ⟨hc6, hf6⟩ := bcell hb6; have hz6 := hb6.size; (try simp only [World.size_alloc, World.size_setCell, World.size_drew, size_drewN] at hz6 hc6 hf6)
  have g6a : w.heap.size < w6.heap.size := by omega
  have g6b : w.heap.size + 1 < w6.heap.size := by omega
  (have x0 : w6.cell? ⟨w.heap.size, 0, none⟩ = some (.int .i64 s.1) := by (simp (disch := first | omega | (simp; done) | (simp; omega)) [go_sem, *]; done)); (have x1 : w6.cell? ⟨w.heap.size, 1, none⟩ = some (.int .i64 s.2) := by (simp (disch := first | omega | (simp; done) | (simp; omega)) [go_sem, *]; done))
  (have y0 : w6.cell? ⟨w.heap.size + 1, 0, none⟩ = some (.int .i64 t.1) := by (simp (disch := first | omega | (simp; done) | (simp; omega)) [go_sem, *]; done)); (have y1 : w6.cell? ⟨w.heap.size + 1, 1, none⟩ = some (.int .i64 t.2) := by (simp (disch := first | omega | (simp; done) | (simp; omega)) [go_sem, *]; done))
  have hB6 : Below w.heap.size w w6 := by (repeat' first | (with_reducible exact Below.refl _ _) | (with_reducible assumption) | (with_reducible refine below_drewN ?_ _) | (with_reducible refine Below.drew ?_) | (with_reducible refine Below.alloc ?_ ?_ _) | (with_reducible refine Below.setCell ?_ ?_ _) | (with_reducible refine Below.trans ?_ (Below.mono (by assumption) ?_)) | first | omega | (simp only [World.size_alloc, World.size_setCell, World.size_drew, size_drewN]; omega) | (simp; done) | (simp; omega) | (simp only [World.size_alloc, World.size_setCell, World.size_drew, size_drewN] at *; omega) | (simp at *; omega))
  clear hc5 hf5 hc6 hf6 hb5 hb6
  go_wp2_with fail
  refine (HA.out _).mono ?_
  rintro e w7 ⟨go, co, rfl, hco, hgo1, hgo2, hb7⟩
  have HC7 := Lib.hid hco
  have hz7 := hb7.size
  have u0 := (hb7.cell (p := ⟨w.heap.size, 0, none⟩) g6a).trans x0
  have u1 := (hb7.cell (p := ⟨w.heap.size, 1, none⟩) g6a).trans x1
  have v0 := (hb7.cell (p := ⟨w.heap.size + 1, 0, none⟩) g6b).trans y0
  have v1 := (hb7.cell (p := ⟨w.heap.size + 1, 1, none⟩) g6b).trans y1
  have hB7 : Below w.heap.size w w7 := hB6.trans (hb7.mono (by omega))
  clear hco hb7 x0 x1 y0 y1 hB6
  have h7a : w.heap.size < w7.heap.size := by omega
  have h7b : w.heap.size + 1 < w7.heap.size := by omega
  go_wp2
  go_loopw [6, 41] (fun v ii wr => ∃ i : Nat, i ≤ N1 ∧ ii = .int .i64 i ∧ wr.ownsRow w7.heap.size 31 2 v (lstU U L M N1 i).length (vS (lstU U L M N1 i)) ∧ Below w7.heap.size w7 wr)
    (fun _ ii _ => N1 - (intOf ii).toNat)
  case atStart => exact ⟨0, Nat.zero_le _, by go_num, World.ownsRow_nil _ _ _ _, Below.refl _ _⟩
  case round =>
    obtain ⟨i, hi, rfl, hown, hbel⟩ := hrel
    have i0' : (0 : Int) ≤ (i : Int) := Int.natCast_nonneg _
    have hbz := hbel.size
    have p0 := (hbel.cell (p := ⟨w.heap.size, 0, none⟩) h7a).trans u0
    have p1 := (hbel.cell (p := ⟨w.heap.size, 1, none⟩) h7a).trans u1
    have r0 := (hbel.cell (p := ⟨w.heap.size + 1, 0, none⟩) h7b).trans v0
    have r1 := (hbel.cell (p := ⟨w.heap.size + 1, 1, none⟩) h7b).trans v1
    by_cases hlt : i < N1
    · have ri := (hbel.cell (p := ⟨go, i, none⟩) hgo2).trans (HC7.out i hlt)
      have HOW := Lib.hid hown
      clear hown
      have i1' : (i : Int) < (N1 : Int) := by omega
      go_wp2_with fail
      refine (HB.out _).mono ?_
      rintro e w8 ⟨gi, ci, rfl, hci, hgi1, hgi2, hb8⟩
      have hz8 := hb8.size
      have hown8 := row_below HOW.out hb8
      have hown8b : ∀ b, u6.ownBlock = some b → b ≠ gi := fun b hb e => by
        have := (HOW.out.lt b hb).2
        omega
      have hbel8 : Below w7.heap.size w7 w8 := hbel.trans (hb8.mono (by omega))
      have Hci := Lib.hid hci
      clear hci hb8 HOW ri
      go_wp2
      go_loopw [6, 53] (fun v kk wr => ∃ j : Nat, j ≤ M ∧ kk = .int .i64 j ∧ wr.ownsRow w7.heap.size 31 2 v (midU U L M N1 i j).length (vS (midU U L M N1 i j)) ∧ Below w7.heap.size w7 wr ∧ (∀ b, v.ownBlock = some b → b ≠ gi) ∧ gi < wr.heap.size ∧ ∀ k, k < M → wr.cell? ⟨gi, k, none⟩ = some (.int .i64 (2 * Y + 2 * (k : Int))))
        (fun _ kk _ => M - (intOf kk).toNat)
      case atStart => exact ⟨0, Nat.zero_le _, by go_num, by rw [midU_zero]; exact hown8, hbel8, hown8b, hgi2, Hci.out⟩
      case round =>
        obtain ⟨j, hj, rfl, hown1, hbel1, hne1, hgw1, hcell1⟩ := hrel
        have hb1z := hbel1.size
        have j0' : (0 : Int) ≤ (j : Int) := Int.natCast_nonneg _
        by_cases hlj : j < M
        · have rj := hcell1 j hlj
          have hlen := midU_len U L M N1 i j M9 (by omega) (by omega)
          have td : (2 * Y + 2 * (j : Int)).tdiv 2 = Y + (j : Int) := by rw [Int.tdiv_eq_ediv_of_nonneg (by omega)]; omega
          have j1' : (j : Int) < (M : Int) := by omega
          have HO1 := Lib.hid hown1
          have HC1 := Lib.hid hcell1
          have HN1 := Lib.hid hne1
          clear hown1 hcell1 hne1
          go_wp2_with (first
            | (at_builtin; refine wpList_append_own_at _ rfl _ _ 25 rfl w7.heap.size 31 i0 (.agg #[.int .i64 0, .int .i64 0]) 2 16 Tryd.underlying25 ihi iz0 iz1 iz2 rfl (by decide) _ _ _ rfl (HO1.out.alloc _) ⟨wr.heap.size, 0, none⟩ 1 1 [.int .i64 (X + 2 * (i : Int)), .int .i64 (Y + (j : Int))] rfl rfl ?c1 ?c2 ?c3 ?c4 ?c5 ?_))
          case c1 =>
            intro q u hq
            match q, hq with
            | 0, hq => simp at hq; subst hq; first | (simp [Addr.add]; done) | (simp (disch := first | omega | (simp; done) | (simp; omega)) [go_sem, Addr.add]; done)
            | 1, hq => simp at hq; subst hq; first | (simp [Addr.add]; done) | (simp (disch := first | omega | (simp; done) | (simp; omega)) [go_sem, Addr.add]; done)
          case c2 => intro u hu; simp at hu; rcases hu with rfl | rfl <;> rfl
          case c3 => unfold maxLen; omega
          case c4 => omega
          case c5 => simp; omega
          intro v' w9 hown' hgrow _ hat
          have hown2 : w9.ownsRow w7.heap.size 31 2 v' (midU U L M N1 i (j + 1)).length (vS (midU U L M N1 i (j + 1))) := by rw [midU_succ, List.length_append, vS_append, ← HX.out, ← HY.out]; exact hown'
          have hbel2 : Below w7.heap.size w7 w9 := Below.grown (by (repeat' first | (with_reducible exact Below.refl _ _) | (with_reducible assumption) | (with_reducible refine below_drewN ?_ _) | (with_reducible refine Below.drew ?_) | (with_reducible refine Below.alloc ?_ ?_ _) | (with_reducible refine Below.setCell ?_ ?_ _) | (with_reducible refine Below.trans ?_ (Below.mono (by assumption) ?_)) | first | omega | (simp only [World.size_alloc, World.size_setCell, World.size_drew, size_drewN]; omega) | (simp; done) | (simp; omega) | (simp only [World.size_alloc, World.size_setCell, World.size_drew, size_drewN] at *; omega) | (simp at *; omega))) hgrow (by first | omega | (simp only [World.size_alloc, World.size_setCell, World.size_drew, size_drewN]; omega) | (simp; done) | (simp; omega) | (simp only [World.size_alloc, World.size_setCell, World.size_drew, size_drewN] at *; omega) | (simp at *; omega)) (fun k hk => (HO1.out.lt k hk).1)
          have hz9 := hgrow.size
          simp only [World.size_alloc] at hz9 hat
          have hgi9 : gi < w9.heap.size := by omega
          have hne2 : ∀ b, v'.ownBlock = some b → b ≠ gi := fun b hb => by
            rcases hat with h | h
            · exact HN1.out b (h.symm.trans hb)
            · rw [h] at hb; simp at hb; omega
          have hcell2 : ∀ k, k < M → w9.cell? ⟨gi, k, none⟩ = some (.int .i64 (2 * Y + 2 * (k : Int))) := fun k hk => by
            rw [grown_cell hgrow (by rw [World.size_alloc]; omega) (fun e => HN1.out gi e rfl), World.cell?_of_block (Below.heap_alloc _ _ _ hgw1)]
            exact HC1.out k hk
          clear hown' hgrow hat
          go_wp2
          go_roundw
          case rel => exact ⟨j + 1, hlj, by go_num, hown2, hbel2, hne2, hgi9, hcell2⟩
          case measure => simp [intOf]; omega
        · obtain rfl : j = M := by omega
          rw [midU_last] at hown1
          have HO1 := Lib.hid hown1
          clear hown1 hcell1
          go_wp2
          go_roundw
          case rel => exact ⟨i + 1, hlt, by go_num, HO1.out, hbel1⟩
          case measure => simp [intOf]; omega
    · obtain rfl : i = N1 := by omega
      have hl0 : 0 < (lstU U L M i i).length := by rw [HLU.out]; exact HPL.out.1
      have hl1 : (lstU U L M i i).length ≤ 1000 := by rw [HLU.out]; have := HPL.out.2; omega
      obtain ⟨g, c, rfl, hg1, hg2, hT, hF⟩ := rowL_of hown hl0
      have HO := Lib.hid (ordered_some (lstU U L M i i) g c wr hl0 hl1 hg2 hT HOK.out)
      clear hown hT hF
      go_wp2_with fail
      refine (HO.out).mono ?_
      rintro e w9 ⟨g', c', rfl, k1, k2, k3, k4, k5⟩
      rw [HS.out] at k3
      have HR := Lib.hid (show RowL w9 w.heap.size (.slice (some ⟨g', 0, none⟩) (cplP s t).length c') (cplP s t) from ⟨g', c', rfl, by omega, k2, k3, k4⟩)
      have hB9 : Below w.heap.size w w9 := hB7.trans ((hbel.trans (k5.mono (by omega))).mono (by omega))
      rw [HLU.out, ← HLP.out]
      clear k3 k4 k5 hbel hB7
      go_wp2
      refine bodyPost_ret (v := .tuple #[.slice (some ⟨g', 0, none⟩) (cplP s t).length c', .bool true]) (by simp (disch := first | omega | (simp; done) | (simp; omega)) [results, Tryd.results47, go_sem, cell_set, *]) rfl ?_
      exact ⟨_, rfl, HR.out, hB9⟩
end Go.Proofs.YtjopcpoodhamcaaDoor

/-
  The walks of impl's ordered at any list, TermsSort, TermsCouple, TermsJoin. Conditions: none.
-/
namespace Go.Proofs.YtjopcpoodhamcaaDoor
set_option linter.unusedSimpArgs false
set_option linter.unusedVariables false
open Go.RowKit

set_option maxRecDepth 20000 in
set_option maxHeartbeats 2000000 in
theorem ordered_any (xs : List Tm) (v : Value) (w : World) (hlen : xs.length ≤ 1000) (hr : RowI w v xs) (ho : ∀ x ∈ xs, okT x) :
    Calls Tryd.prog 48 #[v, cmpF] w fun e w' => ∃ v', e = .returned v' ∧ RowL w' w.heap.size v' (sortT xs) ∧ Below w.heap.size w w' := by
  obtain ⟨i0, ihi, iz0, iz1, iz2⟩ := info_parts infoT
  obtain ⟨wm, hmk, hown, hgm⟩ := run_make_own (P := Tryd.prog) (w := w) w.heap.size 25 31 i0 (.agg #[.int .i64 0, .int .i64 0]) 2 Tryd.underlying25 ihi iz0 iz1 .i64 .i64 xs.length (by rw [iz2]; omega) (by unfold maxLen; omega) (Nat.le_refl _)
  have hbm : Below w.heap.size w wm := ⟨hgm.os, hgm.tape, hgm.output, hgm.size, fun k hk => hgm.block k hk (by simp)⟩
  have hx2 : RowI wm v xs := hr.below hbm
  have hzm := hgm.size
  have HX := Lib.hid hx2
  have HO := Lib.hid ho
  have HW := Lib.hid (show wm.ownsRow w.heap.size 31 2 (.slice (some ⟨w.heap.size, 0, none⟩) 0 xs.length) ([] : List Tm).length (vS []) from hown)
  have HBm := Lib.hid hbm
  have hsne : (Value.slice (some ⟨w.heap.size, 0, none⟩) 0 xs.length).ownBlock = some w.heap.size := rfl
  obtain ⟨av, cv, rfl⟩ := hr.form
  clear hx2 hr ho hown hgm hbm
  go_enter Tryd.func48, Tryd.ntmps48
  go_wp2_with (first | (at_builtin; refine wpl_app rfl _ _ rfl w.heap.size _ _ [] xs rfl HW.out rfl HX.out ?c1 ?c2 ?_))
  case c1 => simp; omega
  case c2 => first | (simp; done) | (simp; omega) | omega
  intro v' w1 hown' hgrow _ hnil
  have hz1 := hgrow.size
  have hbel : Below w.heap.size w w1 := HBm.out.grown hgrow hzm (fun k e => by cases e; exact Nat.le_refl _)
  obtain ⟨g, c, rfl, hg1, hg2, hcell, hfree⟩ : ∃ g cap, v' = .slice (some ⟨g, 0, none⟩) xs.length cap ∧ w.heap.size ≤ g ∧ g < w1.heap.size ∧ (∀ j, j < xs.length * 2 → w1.cell? ⟨g, j, none⟩ = (vS xs)[j]?) ∧ (∀ j, w1.frozen? ⟨g, j, none⟩ = false) := by
    rcases hown'.2 with ⟨e1, e2⟩ | ⟨g, cap, cur, rfl, hb, hh, hr⟩
    · have := hnil e1
      simp at this
    · have h' : w1.ownsRow w.heap.size 31 2 (.slice (some ⟨g, 0, none⟩) xs.length cap) xs.length (vS xs) := hown'
      exact ⟨g, cap, rfl, hb, (Array.getElem?_eq_some_iff.1 hh).1, fun j hj => h'.cellAt j hj, fun j => h'.frozenAt j⟩
  have hrow : RowF w1 g xs.length (atL xs) := ⟨fun k hk => by
    have e : xs[k]? = some xs[k] := List.getElem?_eq_getElem hk
    obtain ⟨x0, x1⟩ := vS_get xs k _ e
    rw [atL_get e]
    exact ⟨(hcell (k * 2) (by omega)).trans x0, (hcell (k * 2 + 1) (by omega)).trans x1⟩, hfree⟩
  have HS := Lib.hid (sortStable_any g xs.length c (atL xs) w1 (by omega) hrow hg2 (okT_atL HO.out))
  have HB := Lib.hid hbel
  clear hown' hgrow hbel hcell hfree hrow
  go_wp2_with fail
  refine (HS.out).mono ?_
  rintro e w2 ⟨rfl, f', hr, hb, hst, hso⟩
  have hT : TmAt w2 g (sortT xs) := fun k p hp => by
    have hk : k < xs.length := by rw [← sortT_len]; exact (List.getElem?_eq_some_iff.1 hp).1
    have e := sortT_is (f := f') HO.out (fun k _ => hst.all (okT_atL HO.out) k) hso (fun q => by rw [hst.cnt q xs.length (Nat.le_refl _), cnt_at_list]) k hk
    rw [atL_get hp] at e
    have := hr.1 k hk
    rw [e] at this
    exact this
  have HT := Lib.hid (show TmAt w2 g (sortT xs) ∧ (∀ i, w2.frozen? ⟨g, i, none⟩ = false) ∧ Below w.heap.size w w2 from ⟨hT, hr.2, HB.out.trans ⟨hb.os, hb.tape, hb.output, hb.size, fun k hk => hb.block k (by have := HB.out.size; omega) (by omega)⟩⟩)
  have hz2 := hb.size
  clear hT hr hb hst hso
  go_wp2
  go_ret
  exact ⟨_, rfl, ⟨g, c, by rw [sortT_len]; rfl, hg1, by omega, HT.out.1, HT.out.2.1⟩, HT.out.2.2⟩
/-- A row as a result: nil, or a list in new memory. -/
def RowR (w : World) (base : Nat) (v : Value) (xs : List Tm) : Prop := (v = .slice none 0 0 ∧ xs = []) ∨ RowL w base v xs
theorem RowR.inp {w : World} {base : Nat} {v : Value} {xs : List Tm} (h : RowR w base v xs) : RowI w v xs := by
  rcases h with h | h
  · exact .inl h
  · exact h.inp
theorem RowL.step {w w' : World} {base : Nat} {v : Value} {xs : List Tm} (h : RowL w base v xs) (hb : Below w.heap.size w w') : RowL w' base v xs := h.below hb (Nat.le_refl _)
theorem RowR.step {w w' : World} {base : Nat} {v : Value} {xs : List Tm} (h : RowR w base v xs) (hb : Below w.heap.size w w') : RowR w' base v xs := by
  rcases h with h | h
  · exact .inl h
  · exact .inr (h.step hb)
theorem RowR.mono {w : World} {b b' : Nat} {v : Value} {xs : List Tm} (h : RowR w b v xs) (hb : b' ≤ b) : RowR w b' v xs := by
  rcases h with h | h
  · exact .inl h
  · exact .inr (RowL.mono h hb)
theorem rowI_own {w : World} {base : Nat} {v : Value} {xs : List Tm} (h : w.ownsRow base 31 2 v xs.length (vS xs)) : RowI w v xs := by
  rcases h.2 with ⟨e1, e2⟩ | ⟨g, cap, cur, rfl, hb, hh, hr⟩
  · exact .inl ⟨e1, List.eq_nil_of_length_eq_zero e2⟩
  · have h' : w.ownsRow base 31 2 (.slice (some ⟨g, 0, none⟩) xs.length cap) xs.length (vS xs) := h
    refine .inr ⟨g, 0, cap, rfl, (Array.getElem?_eq_some_iff.1 hh).1, fun k p hp => ?_⟩
    obtain ⟨x0, x1⟩ := vS_get xs k p hp
    have hk : k < xs.length := (List.getElem?_eq_some_iff.1 hp).1
    rw [Nat.zero_add]
    exact ⟨(h'.cellAt (k * 2) (by omega)).trans x0, (h'.cellAt (k * 2 + 1) (by omega)).trans x1⟩
theorem rowR_own {w : World} {base : Nat} {v : Value} {xs : List Tm} (h : w.ownsRow base 31 2 v xs.length (vS xs)) : RowR w base v xs := by
  rcases h.2 with ⟨e1, e2⟩ | ⟨g, cap, cur, rfl, hb, hh, hr⟩
  · exact .inl ⟨e1, List.eq_nil_of_length_eq_zero e2⟩
  · have h' : w.ownsRow base 31 2 (.slice (some ⟨g, 0, none⟩) xs.length cap) xs.length (vS xs) := h
    refine .inr ⟨g, cap, rfl, hb, (Array.getElem?_eq_some_iff.1 hh).1, fun k p hp => ?_, fun i => h'.frozenAt i⟩
    obtain ⟨x0, x1⟩ := vS_get xs k p hp
    have hk : k < xs.length := (List.getElem?_eq_some_iff.1 hp).1
    exact ⟨(h'.cellAt (k * 2) (by omega)).trans x0, (h'.cellAt (k * 2 + 1) (by omega)).trans x1⟩
def sortP (xs : List Tm) : List Tm := if lstB xs = true then sortT xs else []
set_option maxRecDepth 20000 in
set_option maxHeartbeats 800000 in
theorem iCouple_no (s t : Tm) (w : World) (hc : cplB s t = false) :
    Calls Tryd.prog 47 #[.agg #[.int .i64 s.1, .int .i64 s.2], .agg #[.int .i64 t.1, .int .i64 t.2]] w fun e w' => e = .returned (.tuple #[.slice none 0 0, .bool false]) ∧ Below w.heap.size w w' := by
  cases hv1 : tvB s.1 s.2
  · have HV := Lib.hid hv1
    clear hc hv1
    go_enter Tryd.func47, Tryd.ntmps47
    go_wp2_with fail
    refine (iTermValid_any _ _ _).mono ?_
    rintro e w5 ⟨rfl, hb5⟩
    rw [HV.out]
    obtain ⟨hc5, hf5⟩ := bcell hb5; have hz5 := hb5.size; (try simp only [World.size_alloc, World.size_setCell, World.size_drew, size_drewN] at hz5 hc5 hf5); (have g5a : w.heap.size < w5.heap.size := by omega); (have g5b : w.heap.size + 1 < w5.heap.size := by omega)
    go_wp2
    refine bodyPost_ret (v := .tuple #[.slice none 0 0, .bool false]) (by simp (disch := first | omega | (simp; done) | (simp; omega)) [results, Tryd.results47, go_sem, cell_set, *]) rfl ?_
    exact ⟨rfl, by (repeat' first | (with_reducible exact Below.refl _ _) | (with_reducible assumption) | (with_reducible refine below_drewN ?_ _) | (with_reducible refine Below.drew ?_) | (with_reducible refine Below.alloc ?_ ?_ _) | (with_reducible refine Below.setCell ?_ ?_ _) | (with_reducible refine Below.trans ?_ (Below.mono (by assumption) ?_)) | first | omega | (simp only [World.size_alloc, World.size_setCell, World.size_drew, size_drewN]; omega) | (simp; done) | (simp; omega) | (simp only [World.size_alloc, World.size_setCell, World.size_drew, size_drewN] at *; omega) | (simp at *; omega))⟩
  cases hv2 : tvB t.1 t.2
  · have HV1 := Lib.hid hv1
    have HV2 := Lib.hid hv2
    clear hc hv1 hv2
    go_enter Tryd.func47, Tryd.ntmps47
    go_wp2_with fail
    refine (iTermValid_any _ _ _).mono ?_
    rintro e w5 ⟨rfl, hb5⟩
    rw [HV1.out]
    obtain ⟨hc5, hf5⟩ := bcell hb5; have hz5 := hb5.size; (try simp only [World.size_alloc, World.size_setCell, World.size_drew, size_drewN] at hz5 hc5 hf5); (have g5a : w.heap.size < w5.heap.size := by omega); (have g5b : w.heap.size + 1 < w5.heap.size := by omega)
    go_wp2_with fail
    refine (iTermValid_any _ _ _).mono ?_
    rintro e w6 ⟨rfl, hb6⟩
    rw [HV2.out]
    obtain ⟨hc6, hf6⟩ := bcell hb6; have hz6 := hb6.size; (try simp only [World.size_alloc, World.size_setCell, World.size_drew, size_drewN] at hz6 hc6 hf6)
    go_wp2
    refine bodyPost_ret (v := .tuple #[.slice none 0 0, .bool false]) (by simp (disch := first | omega | (simp; done) | (simp; omega)) [results, Tryd.results47, go_sem, cell_set, *]) rfl ?_
    exact ⟨rfl, by (repeat' first | (with_reducible exact Below.refl _ _) | (with_reducible assumption) | (with_reducible refine below_drewN ?_ _) | (with_reducible refine Below.drew ?_) | (with_reducible refine Below.alloc ?_ ?_ _) | (with_reducible refine Below.setCell ?_ ?_ _) | (with_reducible refine Below.trans ?_ (Below.mono (by assumption) ?_)) | first | omega | (simp only [World.size_alloc, World.size_setCell, World.size_drew, size_drewN]; omega) | (simp; done) | (simp; omega) | (simp only [World.size_alloc, World.size_setCell, World.size_drew, size_drewN] at *; omega) | (simp at *; omega))⟩
  have hsum : 8 < s.1 + t.1 ∨ 8 < s.2 + t.2 := by
    simp only [cplB, hv1, hv2, Bool.true_and, Bool.and_eq_false_iff, decide_eq_false_iff_not] at hc
    omega
  obtain ⟨a1, a2, a3, a4⟩ := tvB_true hv1
  obtain ⟨b1, b2, b3, b4⟩ := tvB_true hv2
  have HV1 := Lib.hid hv1
  have HV2 := Lib.hid hv2
  clear hc hv1 hv2
  obtain ⟨U, hU⟩ : ∃ U, U = s.1 + t.1 := ⟨_, rfl⟩
  obtain ⟨L, hL⟩ : ∃ L, L = s.2 + t.2 := ⟨_, rfl⟩
  have hsU : s.1 + t.1 = U := hU.symm
  have hsL : s.2 + t.2 = L := hL.symm
  have hU0 : 0 ≤ U := by omega
  have hU1 : U ≤ 16 := by omega
  have hL0 : 0 ≤ L := by omega
  have hL1 : L ≤ 16 := by omega
  rw [hsU, hsL] at hsum
  clear hU hL
  by_cases h8 : 8 < U
  · have hdU : decide (8 < U) = true := by simp; omega
    clear hsum
    go_enter Tryd.func47, Tryd.ntmps47
    go_wp2_with fail
    refine (iTermValid_any _ _ _).mono ?_
    rintro e w5 ⟨rfl, hb5⟩
    rw [HV1.out]
    obtain ⟨hc5, hf5⟩ := bcell hb5; have hz5 := hb5.size; (try simp only [World.size_alloc, World.size_setCell, World.size_drew, size_drewN] at hz5 hc5 hf5); (have g5a : w.heap.size < w5.heap.size := by omega); (have g5b : w.heap.size + 1 < w5.heap.size := by omega)
    go_wp2_with fail
    refine (iTermValid_any _ _ _).mono ?_
    rintro e w6 ⟨rfl, hb6⟩
    rw [HV2.out]
    obtain ⟨hc6, hf6⟩ := bcell hb6; have hz6 := hb6.size; (try simp only [World.size_alloc, World.size_setCell, World.size_drew, size_drewN] at hz6 hc6 hf6)
    have g6a : w.heap.size < w6.heap.size := by omega
    have g6b : w.heap.size + 1 < w6.heap.size := by omega
    (have x0 : w6.cell? ⟨w.heap.size, 0, none⟩ = some (.int .i64 s.1) := by (simp (disch := first | omega | (simp; done) | (simp; omega)) [go_sem, *]; done)); (have x1 : w6.cell? ⟨w.heap.size, 1, none⟩ = some (.int .i64 s.2) := by (simp (disch := first | omega | (simp; done) | (simp; omega)) [go_sem, *]; done))
    (have y0 : w6.cell? ⟨w.heap.size + 1, 0, none⟩ = some (.int .i64 t.1) := by (simp (disch := first | omega | (simp; done) | (simp; omega)) [go_sem, *]; done)); (have y1 : w6.cell? ⟨w.heap.size + 1, 1, none⟩ = some (.int .i64 t.2) := by (simp (disch := first | omega | (simp; done) | (simp; omega)) [go_sem, *]; done))
    have hB6 : Below w.heap.size w w6 := by (repeat' first | (with_reducible exact Below.refl _ _) | (with_reducible assumption) | (with_reducible refine below_drewN ?_ _) | (with_reducible refine Below.drew ?_) | (with_reducible refine Below.alloc ?_ ?_ _) | (with_reducible refine Below.setCell ?_ ?_ _) | (with_reducible refine Below.trans ?_ (Below.mono (by assumption) ?_)) | first | omega | (simp only [World.size_alloc, World.size_setCell, World.size_drew, size_drewN]; omega) | (simp; done) | (simp; omega) | (simp only [World.size_alloc, World.size_setCell, World.size_drew, size_drewN] at *; omega) | (simp at *; omega))
    clear hc5 hf5 hc6 hf6 hb5 hb6
    go_wp2
    refine bodyPost_ret (v := .tuple #[.slice none 0 0, .bool false]) (by simp (disch := first | omega | (simp; done) | (simp; omega)) [results, Tryd.results47, go_sem, cell_set, *]) rfl ?_
    exact ⟨rfl, hB6⟩
  · have hdU : decide (8 < U) = false := by simp; omega
    have hdL : decide (8 < L) = true := by simp; omega
    clear hsum
    go_enter Tryd.func47, Tryd.ntmps47
    go_wp2_with fail
    refine (iTermValid_any _ _ _).mono ?_
    rintro e w5 ⟨rfl, hb5⟩
    rw [HV1.out]
    obtain ⟨hc5, hf5⟩ := bcell hb5; have hz5 := hb5.size; (try simp only [World.size_alloc, World.size_setCell, World.size_drew, size_drewN] at hz5 hc5 hf5); (have g5a : w.heap.size < w5.heap.size := by omega); (have g5b : w.heap.size + 1 < w5.heap.size := by omega)
    go_wp2_with fail
    refine (iTermValid_any _ _ _).mono ?_
    rintro e w6 ⟨rfl, hb6⟩
    rw [HV2.out]
    obtain ⟨hc6, hf6⟩ := bcell hb6; have hz6 := hb6.size; (try simp only [World.size_alloc, World.size_setCell, World.size_drew, size_drewN] at hz6 hc6 hf6)
    have g6a : w.heap.size < w6.heap.size := by omega
    have g6b : w.heap.size + 1 < w6.heap.size := by omega
    (have x0 : w6.cell? ⟨w.heap.size, 0, none⟩ = some (.int .i64 s.1) := by (simp (disch := first | omega | (simp; done) | (simp; omega)) [go_sem, *]; done)); (have x1 : w6.cell? ⟨w.heap.size, 1, none⟩ = some (.int .i64 s.2) := by (simp (disch := first | omega | (simp; done) | (simp; omega)) [go_sem, *]; done))
    (have y0 : w6.cell? ⟨w.heap.size + 1, 0, none⟩ = some (.int .i64 t.1) := by (simp (disch := first | omega | (simp; done) | (simp; omega)) [go_sem, *]; done)); (have y1 : w6.cell? ⟨w.heap.size + 1, 1, none⟩ = some (.int .i64 t.2) := by (simp (disch := first | omega | (simp; done) | (simp; omega)) [go_sem, *]; done))
    have hB6 : Below w.heap.size w w6 := by (repeat' first | (with_reducible exact Below.refl _ _) | (with_reducible assumption) | (with_reducible refine below_drewN ?_ _) | (with_reducible refine Below.drew ?_) | (with_reducible refine Below.alloc ?_ ?_ _) | (with_reducible refine Below.setCell ?_ ?_ _) | (with_reducible refine Below.trans ?_ (Below.mono (by assumption) ?_)) | first | omega | (simp only [World.size_alloc, World.size_setCell, World.size_drew, size_drewN]; omega) | (simp; done) | (simp; omega) | (simp only [World.size_alloc, World.size_setCell, World.size_drew, size_drewN] at *; omega) | (simp at *; omega))
    clear hc5 hf5 hc6 hf6 hb5 hb6
    go_wp2
    refine bodyPost_ret (v := .tuple #[.slice none 0 0, .bool false]) (by simp (disch := first | omega | (simp; done) | (simp; omega)) [results, Tryd.results47, go_sem, cell_set, *]) rfl ?_
    exact ⟨rfl, hB6⟩
theorem iCouple_all (s t : Tm) (w : World) :
    Calls Tryd.prog 47 #[.agg #[.int .i64 s.1, .int .i64 s.2], .agg #[.int .i64 t.1, .int .i64 t.2]] w fun e w' => ∃ v, e = .returned (.tuple #[v, .bool (cplB s t)]) ∧ RowR w' w.heap.size v (cplP s t) ∧ Below w.heap.size w w' := by
  cases hc : cplB s t
  · refine (iCouple_no s t w hc).mono ?_
    rintro e w' ⟨rfl, hb⟩
    exact ⟨_, rfl, .inl ⟨rfl, by simp [cplP, hc]⟩, hb⟩
  · refine (iCouple_yes s t w hc).mono ?_
    rintro e w' ⟨v, rfl, hr, hb⟩
    exact ⟨v, rfl, .inr hr, hb⟩
end Go.Proofs.YtjopcpoodhamcaaDoor
