/-
  Lists of terms as arguments; the walks of impl.TermsWeight, impl.termListValid. Conditions: none.
-/
import Derived.Test.YtjopcpoodhamcaaLst
import Derived.Test.YtjopcpoodhamcaaJoinP
import Derived.Laws.AppendOwnNone
namespace Go.Proofs.Ytjopcpoodhamcaa
set_option linter.unusedSimpArgs false
set_option linter.unusedVariables false
open Go.RowKit

/-- From cell o on, block g holds the terms xs. -/
def TmOf (w : World) (g o : Nat) (xs : List Tm) : Prop :=
  ∀ (k : Nat) (p : Tm), xs[k]? = some p → w.cell? ⟨g, o + k * 2, none⟩ = some (.int .i64 p.1) ∧ w.cell? ⟨g, o + k * 2 + 1, none⟩ = some (.int .i64 p.2)
theorem TmOf.below {B : Nat} {w w' : World} {g o : Nat} {xs : List Tm} (h : TmOf w g o xs) (hb : Below B w w') (hg : g < B) : TmOf w' g o xs := fun k p hp => by
  obtain ⟨a, b⟩ := h k p hp
  exact ⟨(hb.cell (p := ⟨g, _, none⟩) hg).trans a, (hb.cell (p := ⟨g, _, none⟩) hg).trans b⟩
theorem TmAt.off {w : World} {g : Nat} {xs : List Tm} (h : TmAt w g xs) : TmOf w g 0 xs := fun k p hp => by
  have := h k p hp
  simpa using this
theorem TmOf.drop {w : World} {g o : Nat} {xs : List Tm} (h : TmOf w g o xs) (k : Nat) : TmOf w g (o + k * 2) (xs.drop k) := fun j p hp => by
  rw [List.getElem?_drop] at hp
  have := h (k + j) p hp
  rw [show o + (k + j) * 2 = o + k * 2 + j * 2 by omega] at this
  exact this
theorem TmOf.take {w : World} {g o : Nat} {xs : List Tm} (h : TmOf w g o xs) (k : Nat) : TmOf w g o (xs.take k) := fun j p hp => by
  rw [List.getElem?_take] at hp
  split at hp
  · exact h j p hp
  · cases hp
theorem TmOf.keep {w w' : World} {g o : Nat} {xs : List Tm} (h : TmOf w g o xs) (hk : ∀ i, w'.cell? ⟨g, i, none⟩ = w.cell? ⟨g, i, none⟩) : TmOf w' g o xs :=
  fun k p hp => by obtain ⟨a, b⟩ := h k p hp; exact ⟨(hk _).trans a, (hk _).trans b⟩
/-- v is a list of the terms xs, somewhere in memory. -/
def RowI (w : World) (v : Value) (xs : List Tm) : Prop :=
  (v = .slice none 0 0 ∧ xs = []) ∨ ∃ g o c, v = .slice (some ⟨g, o, none⟩) xs.length c ∧ g < w.heap.size ∧ TmOf w g o xs
theorem RowI.below {w w' : World} {v : Value} {xs : List Tm} (h : RowI w v xs) (hb : Below w.heap.size w w') : RowI w' v xs := by
  rcases h with h | ⟨g, o, c, rfl, h1, h2⟩
  · exact .inl h
  · exact .inr ⟨g, o, c, rfl, Nat.lt_of_lt_of_le h1 hb.size, h2.below hb h1⟩
theorem RowL.inp {w : World} {base : Nat} {v : Value} {xs : List Tm} (h : RowL w base v xs) : RowI w v xs := by
  obtain ⟨g, c, rfl, -, h2, h3, -⟩ := h
  exact .inr ⟨g, 0, c, rfl, h2, h3.off⟩
theorem rowI_nil (w : World) : RowI w (.slice none 0 0) [] := .inl ⟨rfl, rfl⟩
theorem RowI.form {w : World} {v : Value} {xs : List Tm} (h : RowI w v xs) : ∃ a c, v = .slice a xs.length c := by
  rcases h with ⟨rfl, rfl⟩ | ⟨g, o, c, rfl, -, -⟩
  · exact ⟨_, _, rfl⟩
  · exact ⟨_, _, rfl⟩
theorem TmOf.val {w : World} {g o : Nat} {xs : List Tm} (h : TmOf w g o xs) (j : Nat) (u : Value) (hu : (vS xs)[j]? = some u) : w.cell? ((⟨g, o, none⟩ : Addr).add j) = some u := by
  have e : (⟨g, o, none⟩ : Addr).add j = ⟨g, o + j, none⟩ := by
    by_cases h0 : j = 0
    · subst h0; rfl
    · simp [Addr.add, h0]
  rw [e]
  have hj : j < xs.length * 2 := by rw [← vS_length]; exact (List.getElem?_eq_some_iff.1 hu).1
  obtain ⟨p, hp⟩ : ∃ p, xs[j / 2]? = some p := ⟨_, List.getElem?_eq_getElem (by omega)⟩
  obtain ⟨a, b⟩ := h _ p hp
  obtain ⟨c, d⟩ := vS_get xs _ p hp
  rcases Nat.mod_two_eq_zero_or_one j with e | e
  · rw [show j = j / 2 * 2 by omega] at hu ⊢
    rw [c] at hu
    rw [a]; exact hu
  · rw [show j = j / 2 * 2 + 1 by omega] at hu ⊢
    rw [d] at hu
    rw [show o + (j / 2 * 2 + 1) = o + j / 2 * 2 + 1 by omega, b]; exact hu
/-- append of a list onto a row of the call's own. -/
theorem wpl_app {w : World} {ops : Array Oper} {rest : List Oper} {o : Oper} {a : Act} {Q : Exit → Act → World → Prop} (hgd : o.guard = none) (s x : Operand)
    (ho : o.op = .call { callee := .builtin .append, args := #[s, x], argTypes := #[24, 24] })
    (base : Nat) (v xv : Value) (xs ys : List Tm) (hs : a.eval s = v) (hown : w.ownsRow base 34 2 v xs.length (vS xs)) (hx : a.eval x = xv) (hr : RowI w xv ys)
    (hlen : xs.length + ys.length ≤ 3000000) (hbase : base ≤ w.heap.size)
    (h : ∀ v' w', w'.ownsRow base 34 2 v' (xs ++ ys).length (vS (xs ++ ys)) → w.grownBy w' v.ownBlock → (v'.ownBlock = v.ownBlock ∨ v'.ownBlock = some w.heap.size) → (v' = .slice none 0 0 → v = .slice none 0 0) → wpList Try.prog ops Q rest (a.put o.dst v') w') :
    wpList Try.prog ops Q (o :: rest) a w := by
  obtain ⟨i0, ihi, iz0, iz1, iz2⟩ := info_parts infoT
  rcases hr with ⟨rfl, rfl⟩ | ⟨g, of, c, rfl, h1, h2⟩
  · refine wpList_append_own_none hgd s x 24 ho base 34 i0 2 Try.underlying24 ihi v xs.length (vS xs) hs hown hx ?_
    refine h v w (by rw [List.append_nil]; exact hown) ⟨rfl, rfl, rfl, Nat.le_refl _, fun _ _ _ => rfl⟩ (.inl rfl) id
  · refine wpList_append_own_at _ hgd s x 24 ho base 34 i0 (.agg #[.int .i64 0, .int .i64 0]) 2 16 Try.underlying24 ihi iz0 iz1 iz2 rfl (by decide) v xs.length (vS xs) hs hown
      ⟨g, of, none⟩ ys.length c (vS ys) hx (vS_length ys) (fun j u hj => h2.val j u hj) (fun u hu => by obtain ⟨x, rfl⟩ := vS_one ys u hu; rfl) (by unfold maxLen; omega) (by omega) hbase ?_
    intro v' w' k1 k2 k3 k4
    exact h v' w' (by rw [List.length_append, vS_append]; exact k1) k2 k4 (fun e => (k3.1 e).1)

def twF (s l : Int) : Int := if tvB s l = true then (s + 1) * (2 * l + 1) else 0
set_option maxHeartbeats 400000 in
theorem iTermWeight_any (s l : Int) (w : World) (hv : tvB s l = true) :
    Calls Try.prog 30 #[.agg #[.int .i64 s, .int .i64 l]] w fun e w' => e = .returned (.int .i64 ((s + 1) * (2 * l + 1))) ∧ Below w.heap.size w w' := by
  have bt := tvB_true hv
  have hm : 0 ≤ (s + 1) * (2 * l + 1) ∧ (s + 1) * (2 * l + 1) ≤ 9 * 17 := by
    constructor
    · exact Int.mul_nonneg (by omega) (by omega)
    · exact Int.mul_le_mul (by omega) (by omega) (by omega) (by omega)
  have q1 : IntKind.i64.wrap ((s + 1) * (2 * l + 1)) = (s + 1) * (2 * l + 1) := IntWalk.i64_in _ (by omega)
  go_enter Try.func30, Try.ntmps30
  go_wp2_with (go_at_call 24; refine (iTermValid_any _ _ _).mono ?_; rintro e w1 ⟨rfl, hb1⟩; obtain ⟨hc1, hf1⟩ := bcell hb1; have hz1 := hb1.size; (try simp only [World.size_alloc, World.size_setCell, World.size_drew, size_drewN] at hz1 hc1 hf1); (have g1a : w.heap.size < w1.heap.size := by omega))
  go_ret
  exact ⟨rfl, by (repeat' first | (with_reducible exact Below.refl _ _) | (with_reducible assumption) | (with_reducible refine below_drewN ?_ _) | (with_reducible refine Below.drew ?_) | (with_reducible refine Below.alloc ?_ ?_ _) | (with_reducible refine Below.setCell ?_ ?_ _) | (with_reducible refine Below.trans ?_ (Below.mono (by assumption) ?_)) | first | omega | (simp only [World.size_alloc, World.size_setCell, World.size_drew, size_drewN]; omega) | (simp; done) | (simp; omega) | (simp only [World.size_alloc, World.size_setCell, World.size_drew, size_drewN] at *; omega) | (simp at *; omega))⟩
def wgtK (T : List Tm) (k : Nat) : Int := wgt (T.take k)
theorem wgtK_step {T : List Tm} {k : Nat} {p : Tm} (h : T[k]? = some p) : wgtK T (k + 1) = wgtK T k + (p.1 + 1) * (2 * p.2 + 1) := by
  unfold wgtK
  rw [List.take_add_one, h, wgt_append]
  simp [wgt]
/-- The terms ahead of k are valid. -/
def okK (T : List Tm) (k : Nat) : Prop := allV (T.take k) = true
theorem okK_step {T : List Tm} {k : Nat} {p : Tm} (h : T[k]? = some p) (h1 : okK T k) (h2 : tvB p.1 p.2 = true) : okK T (k + 1) := by
  unfold okK
  rw [List.take_add_one, h, allV_append, h1]
  simp [allV, h2]
theorem okK_bd {T : List Tm} {k : Nat} (h : okK T k) : 0 ≤ wgtK T k ∧ wgtK T k ≤ 153 * k := by
  have := wgt_bd h
  have := List.length_take_le k T
  unfold wgtK
  omega
theorem okK_no {T : List Tm} {k : Nat} {p : Tm} (h : T[k]? = some p) (h2 : tvB p.1 p.2 = false) : wgtM T = -1 := by
  unfold wgtM
  cases e : allV T
  · rfl
  · have := allV_iff.1 e p (List.mem_of_getElem? h)
    rw [h2] at this
    cases this
theorem okK_all {T : List Tm} (h : okK T T.length) : wgtM T = wgtK T T.length ∧ allV T = true := by
  unfold okK at h
  rw [List.take_length] at h
  unfold wgtM wgtK
  rw [h, List.take_length]
  exact ⟨rfl, rfl⟩
set_option maxHeartbeats 400000 in
theorem iWeight_nil (w : World) :
    Calls Try.prog 23 #[.slice none 0 0] w fun e w' => e = .returned (.int .i64 0) ∧ w = w' := by
  go_enter Try.func23, Try.ntmps23
  go_wp2
  refine wp_loop_rounds 1 ?_
  rw [rounds_succ]
  go_wp2
  go_ret
  exact ⟨rfl, rfl⟩
set_option maxHeartbeats 800000 in
theorem iWeight_some (g o c : Nat) (xs : List Tm) (w : World) (hs : xs.length ≤ 1000) (hg : g < w.heap.size) (h1 : TmOf w g o xs) :
    Calls Try.prog 23 #[.slice (some ⟨g, o, none⟩) xs.length c] w fun e w' => e = .returned (.int .i64 (wgtM xs)) ∧ Below w.heap.size w w' := by
  have H1 := Lib.hid h1
  clear h1
  go_enter Try.func23, Try.ntmps23
  go_wp2
  go_loopw [3, 8] (fun n i wr => ∃ k : Nat, k ≤ xs.length ∧ i = .int .i64 k ∧ n = .int .i64 (wgtK xs k) ∧ okK xs k ∧ Below w.heap.size w wr) (fun _ i _ => xs.length - (intOf i).toNat)
  case atStart => exact ⟨0, Nat.zero_le _, rfl, rfl, rfl, Below.refl _ _⟩
  case round =>
    obtain ⟨k, hk, rfl, rfl, hok, hbel⟩ := hrel
    have hbz := hbel.size
    have wb := okK_bd hok
    have HOK := Lib.hid hok
    clear hok
    by_cases hlt : k < xs.length
    · obtain ⟨p, hp⟩ : ∃ p, xs[k]? = some p := ⟨_, List.getElem?_eq_getElem hlt⟩
      obtain ⟨a0, a1⟩ := H1.out k p hp
      have r0 := (hbel.cell (p := ⟨g, o + k * 2, none⟩) hg).trans a0
      have r1 := (hbel.cell (p := ⟨g, o + k * 2 + 1, none⟩) hg).trans a1
      have HP := Lib.hid hp
      clear hp a0 a1
      have i0 : (0 : Int) ≤ (k : Int) := Int.natCast_nonneg _
      have i1 : (k : Int) < (xs.length : Int) := by omega
      cases ht : tvB p.1 p.2
      · have HT := Lib.hid ht
        have HN := Lib.hid (okK_no HP.out ht)
        clear ht
        go_wp2_with (go_at_call 24; refine (iTermValid_any _ _ _).mono ?_; rintro e w5 ⟨rfl, hb5⟩; obtain ⟨hc5, hf5⟩ := bcell hb5; have hz5 := hb5.size; (try simp only [World.size_alloc, World.size_setCell, World.size_drew, size_drewN] at hz5 hc5 hf5); (have g5a : wr.heap.size < w5.heap.size := by omega); rw [HT.out])
        go_ret
        exact ⟨by have h := HN.out; simp only [h]; rfl, by (repeat' first | (with_reducible exact Below.refl _ _) | (with_reducible assumption) | (with_reducible refine below_drewN ?_ _) | (with_reducible refine Below.drew ?_) | (with_reducible refine Below.alloc ?_ ?_ _) | (with_reducible refine Below.setCell ?_ ?_ _) | (with_reducible refine Below.trans ?_ (Below.mono (by assumption) ?_)) | first | omega | (simp only [World.size_alloc, World.size_setCell, World.size_drew, size_drewN]; omega) | (simp; done) | (simp; omega) | (simp only [World.size_alloc, World.size_setCell, World.size_drew, size_drewN] at *; omega) | (simp at *; omega))⟩
      · have HT := Lib.hid ht
        have bt := tvB_true ht
        have S := Lib.hid (wgtK_step HP.out)
        have hm : 0 ≤ (p.1 + 1) * (2 * p.2 + 1) ∧ (p.1 + 1) * (2 * p.2 + 1) ≤ 9 * 17 := by
          constructor
          · exact Int.mul_nonneg (by omega) (by omega)
          · exact Int.mul_le_mul (by omega) (by omega) (by omega) (by omega)
        obtain ⟨y, hy⟩ : ∃ y, y = (p.1 + 1) * (2 * p.2 + 1) := ⟨_, rfl⟩
        rw [← hy] at hm
        have HY := Lib.hid hy
        clear hy ht
        go_wp2_with (first
          | (go_at_call 24; refine (iTermValid_any _ _ _).mono ?_; rintro e w5 ⟨rfl, hb5⟩; obtain ⟨hc5, hf5⟩ := bcell hb5; have hz5 := hb5.size; (try simp only [World.size_alloc, World.size_setCell, World.size_drew, size_drewN] at hz5 hc5 hf5); (have g5a : wr.heap.size < w5.heap.size := by omega); rw [HT.out])
          | (go_at_call 30; refine (iTermWeight_any _ _ _ HT.out).mono ?_; rintro e w6 ⟨rfl, hb6⟩; obtain ⟨hc6, hf6⟩ := bcell hb6; have hz6 := hb6.size; (try simp only [World.size_alloc, World.size_setCell, World.size_drew, size_drewN] at hz6 hc6 hf6); rw [← HY.out]))
        have hB6 : Below w.heap.size w w6 := by (repeat' first | (with_reducible exact Below.refl _ _) | (with_reducible assumption) | (with_reducible refine below_drewN ?_ _) | (with_reducible refine Below.drew ?_) | (with_reducible refine Below.alloc ?_ ?_ _) | (with_reducible refine Below.setCell ?_ ?_ _) | (with_reducible refine Below.trans ?_ (Below.mono (by assumption) ?_)) | first | omega | (simp only [World.size_alloc, World.size_setCell, World.size_drew, size_drewN]; omega) | (simp; done) | (simp; omega) | (simp only [World.size_alloc, World.size_setCell, World.size_drew, size_drewN] at *; omega) | (simp at *; omega))
        go_roundw
        case rel => exact ⟨k + 1, by omega, by go_num, by rw [S.out, HY.out], okK_step HP.out HOK.out HT.out, hB6⟩
        case measure => simp [intOf]; omega
    · obtain rfl : k = xs.length := by omega
      have HW := Lib.hid (okK_all HOK.out).1
      go_wp2
      go_ret
      exact ⟨by have h := HW.out; simp only [h]; rfl, hbel⟩
theorem iWeight_any (v : Value) (xs : List Tm) (w : World) (hs : xs.length ≤ 1000) (h : RowI w v xs) :
    Calls Try.prog 23 #[v] w fun e w' => e = .returned (.int .i64 (wgtM xs)) ∧ Below w.heap.size w w' := by
  rcases h with ⟨rfl, rfl⟩ | ⟨g, o, c, rfl, h1, h2⟩
  · refine (iWeight_nil w).mono ?_
    rintro e w' ⟨rfl, rfl⟩
    exact ⟨rfl, Below.refl _ _⟩
  · exact iWeight_some g o c xs w hs h1 h2
theorem iList_any (v : Value) (xs : List Tm) (w : World) (hs : xs.length ≤ 1000000000) (h : RowI w v xs) :
    Calls Try.prog 15 #[v] w fun e w' => e = .returned (.bool (lstB xs)) ∧ Below w.heap.size w w' := by
  have hr := h
  obtain ⟨a, c, rfl⟩ := h.form
  by_cases hl : xs.length ≤ 400
  · have HW := Lib.hid (fun W (hb : Below w.heap.size w W) => iWeight_any _ xs W (by omega) (hr.below hb))
    have HE := Lib.hid (show lstB xs = decide (0 ≤ wgtM xs) by rw [wgtM_nonneg]; simp [lstB, hl])
    clear hr
    have l1 : (xs.length : Int) ≤ 400 := by omega
    go_enter Try.func15, Try.ntmps15
    go_wp2_with (go_at_call 23; refine (HW.out _ (Below.refl _ _)).mono ?_; rintro e w5 ⟨rfl, hb5⟩)
    go_ret
    exact ⟨by have h := HE.out; simp only [h]; rfl, hb5⟩
  · have HE := Lib.hid (show lstB xs = false by simp [lstB, hl])
    clear hr
    have l1 : ¬ (xs.length : Int) ≤ 400 := by omega
    go_enter Try.func15, Try.ntmps15
    go_wp2
    go_ret
    exact ⟨by have h := HE.out; simp only [h]; rfl, Below.refl _ _⟩
end Go.Proofs.Ytjopcpoodhamcaa
