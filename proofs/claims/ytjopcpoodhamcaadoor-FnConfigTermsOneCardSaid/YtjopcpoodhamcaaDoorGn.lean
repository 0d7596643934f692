import Derived.Test.YtjopcpoodhamcaaDoorGl
import Derived.Test.YtjopcpoodhamcaaDoorTlit
import Derived.Test.YtjopcpoodhamcaaDoorGh
import Derived.Test.YtjopcpoodhamcaaDoorGk
/-
  Plain laws: configurations, their open shells, the terms of a configuration. Conditions: none.
-/
namespace Go.Proofs.YtjopcpoodhamcaaDoor
set_option linter.unusedSimpArgs false
set_option linter.unusedVariables false

abbrev Sh := Int × Int × Int
def capI (l : Int) : Int := if 0 ≤ l ∧ l ≤ 3 then 4 * l + 2 else 0
def shV (s : Sh) : Bool := decide (1 ≤ s.1 ∧ s.1 ≤ 7 ∧ 0 ≤ s.2.1 ∧ s.2.1 ≤ 3 ∧ s.2.1 < s.1 ∧ 1 ≤ s.2.2 ∧ s.2.2 ≤ 4 * s.2.1 + 2)
def shLt (a b : Sh) : Bool := decide (a.1 < b.1 ∨ (a.1 = b.1 ∧ a.2.1 < b.2.1))
/-- Each shell stands ahead of the next one. -/
def chn : List Sh → Bool
  | a :: b :: r => shLt a b && chn (b :: r)
  | _ => true
def cfgB (cs : List Sh) : Bool := cs.all shV && chn cs && decide (0 < cs.length)
def opnB (s : Sh) : Bool := decide (s.2.2 < capI s.2.1)
def opn (cs : List Sh) : List Sh := cs.filter opnB
def cfgK : List Sh → List Tm → Option (List Tm)
  | [], T => some T
  | s :: r, T => if decide (s.2.1 ≤ 2) && joinB T (termsP s.2.1 s.2.2) then cfgK r (joinP T (termsP s.2.1 s.2.2)) else none
def cfgT (cs : List Sh) : Option (List Tm) := if cfgB cs = true then cfgK (opn cs) [(0, 0)] else none
def opnP (cs : List Sh) : List Sh := if cfgB cs = true then opn cs else []

theorem shV_true {s : Sh} (h : shV s = true) : 1 ≤ s.1 ∧ s.1 ≤ 7 ∧ 0 ≤ s.2.1 ∧ s.2.1 ≤ 3 ∧ s.2.1 < s.1 ∧ 1 ≤ s.2.2 ∧ s.2.2 ≤ 4 * s.2.1 + 2 := by simpa [shV] using h
theorem shV_cap {s : Sh} (h : shV s = true) : capI s.2.1 = 4 * s.2.1 + 2 := by have := shV_true h; unfold capI; rw [if_pos (by omega)]
theorem chn_iff : ∀ {cs : List Sh}, chn cs = true ↔ cs.Pairwise fun a b => shLt a b = true
  | [] => by simp [chn]
  | [a] => by simp [chn]
  | a :: b :: r => by
    rw [chn, Bool.and_eq_true, chn_iff (cs := b :: r), List.pairwise_cons (a := a)]
    constructor
    · rintro ⟨h1, h2⟩
      refine ⟨fun x hx => ?_, h2⟩
      rcases List.mem_cons.1 hx with rfl | hx
      · exact h1
      · have h3 := (List.pairwise_cons.1 h2).1 x hx
        simp only [shLt, decide_eq_true_eq] at *
        omega
    · rintro ⟨h1, h2⟩
      exact ⟨h1 b (List.mem_cons_self ..), h2⟩
theorem cfgB_iff {cs : List Sh} : cfgB cs = true ↔ (∀ s ∈ cs, shV s = true) ∧ cs.Pairwise (fun a b => shLt a b = true) ∧ 0 < cs.length := by
  simp only [cfgB, Bool.and_eq_true, List.all_eq_true, chn_iff, decide_eq_true_eq, and_assoc]
theorem chn_at : ∀ {cs : List Sh} {i : Nat} {a b : Sh}, chn cs = true → cs[i]? = some a → cs[i + 1]? = some b → shLt a b = true
  | [], i, a, b, _, h, _ => by simp at h
  | [x], 0, a, b, _, _, h => by simp at h
  | [x], i + 1, a, b, _, h, _ => by simp at h
  | x :: y :: r, 0, a, b, ho, ha, hb => by
    simp only [List.getElem?_cons_zero, Option.some.injEq] at ha
    simp only [Nat.zero_add, List.getElem?_cons_succ, List.getElem?_cons_zero, Option.some.injEq] at hb
    subst ha hb
    simp only [chn, Bool.and_eq_true] at ho
    exact ho.1
  | x :: y :: r, i + 1, a, b, ho, ha, hb => by
    simp only [chn, Bool.and_eq_true] at ho
    exact chn_at (cs := y :: r) ho.2 (by simpa using ha) (by simpa using hb)
/-- The first k shells are as they must be. -/
def okC (cs : List Sh) (k : Nat) : Prop := (∀ i s, i < k → cs[i]? = some s → shV s = true) ∧ ∀ i a b, i + 1 < k → cs[i]? = some a → cs[i + 1]? = some b → shLt a b = true
theorem okC_zero (cs : List Sh) : okC cs 0 := ⟨fun i s h => by omega, fun i a b h => by omega⟩
theorem okC_step {cs : List Sh} {k : Nat} {s : Sh} (h : okC cs k) (hs : cs[k]? = some s) (h1 : shV s = true) (h2 : ∀ a, cs[k - 1]? = some a → 0 < k → shLt a s = true) : okC cs (k + 1) := by
  refine ⟨fun i t hi ht => ?_, fun i a b hi ha hb => ?_⟩
  · by_cases e : i = k
    · subst e; rw [hs] at ht; simp at ht; rw [← ht]; exact h1
    · exact h.1 i t (by omega) ht
  · by_cases e : i + 1 = k
    · subst e; rw [hs] at hb; simp at hb; rw [← hb]; exact h2 a ha (by omega)
    · exact h.2 i a b (by omega) ha hb
theorem chn_of : ∀ {cs : List Sh}, (∀ i a b, cs[i]? = some a → cs[i + 1]? = some b → shLt a b = true) → chn cs = true
  | [], _ => rfl
  | [a], _ => rfl
  | a :: b :: r, h => by
    rw [chn, Bool.and_eq_true]
    exact ⟨h 0 a b rfl rfl, chn_of fun i x y hx hy => h (i + 1) x y (by simpa using hx) (by simpa using hy)⟩
theorem okC_all {cs : List Sh} (h : okC cs cs.length) : cfgB cs = decide (0 < cs.length) := by
  have h1 : cs.all shV = true := List.all_eq_true.2 fun s hs => by
    obtain ⟨i, hi, e⟩ := List.getElem_of_mem hs
    exact h.1 i s hi (by rw [← e]; exact List.getElem?_eq_getElem hi)
  have h2 : chn cs = true := chn_of fun i a b ha hb => h.2 i a b (List.getElem?_eq_some_iff.1 hb).1 ha hb
  unfold cfgB
  rw [h1, h2]
  rfl
theorem cfgB_no1 {cs : List Sh} {k : Nat} {s : Sh} (hs : cs[k]? = some s) (h : shV s = false) : cfgB cs = false := by
  cases e : cfgB cs
  · rfl
  · have := (cfgB_iff.1 e).1 s (List.mem_of_getElem? hs)
    rw [h] at this; cases this
theorem cfgB_no2 {cs : List Sh} {k : Nat} {a b : Sh} (ha : cs[k]? = some a) (hb : cs[k + 1]? = some b) (h : shLt a b = false) : cfgB cs = false := by
  cases e : cfgB cs
  · rfl
  · have := chn_at (chn_iff.2 (cfgB_iff.1 e).2.1) ha hb
    rw [h] at this; cases this
theorem cfgB_nil : cfgB [] = false := rfl
theorem opn_take {cs : List Sh} {k : Nat} {s : Sh} (hs : cs[k]? = some s) : opn (cs.take (k + 1)) = opn (cs.take k) ++ (if opnB s = true then [s] else []) := by
  unfold opn
  rw [List.take_add_one, hs, List.filter_append]
  congr 1
  by_cases h : opnB s = true <;> simp [h]
theorem opn_mem {cs : List Sh} {s : Sh} (h : s ∈ opn cs) : s ∈ cs ∧ opnB s = true := List.mem_filter.1 h

/-- What is behind the first k open shells. -/
theorem cfgK_take {os : List Sh} {k : Nat} {s : Sh} {T0 T : List Tm} (hs : os[k]? = some s) : cfgK (os.take k) T0 = some T →
    cfgK (os.take (k + 1)) T0 = if (decide (s.2.1 ≤ 2) && joinB T (termsP s.2.1 s.2.2)) = true then some (joinP T (termsP s.2.1 s.2.2)) else none := by
  induction os generalizing k T0 with
  | nil => simp at hs
  | cons x r ih =>
    intro h
    cases k with
    | zero =>
      simp at hs
      subst hs
      simp only [List.take_zero, cfgK, Option.some.injEq] at h
      subst h
      simp only [List.take_succ_cons, List.take_zero, cfgK]
    | succ k =>
      simp only [List.getElem?_cons_succ] at hs
      simp only [List.take_succ_cons, cfgK] at h ⊢
      split at h
      · rename_i hc
        rw [if_pos hc]
        exact ih hs h
      · cases h
theorem cfgK_none {os : List Sh} {k : Nat} {T0 : List Tm} (h : cfgK (os.take k) T0 = none) : cfgK os T0 = none := by
  induction os generalizing k T0 with
  | nil => simpa using h
  | cons x r ih =>
    cases k with
    | zero => simp [cfgK] at h
    | succ k =>
      simp only [List.take_succ_cons, cfgK] at h ⊢
      split
      · rename_i hc
        rw [if_pos hc] at h
        exact ih h
      · rfl
theorem cfgK_ok {os : List Sh} {T0 T : List Tm} (h0 : ordB T0 = true ∧ lstB T0 = true) (h : cfgK os T0 = some T) : ordB T = true ∧ lstB T = true := by
  induction os generalizing T0 with
  | nil => simp only [cfgK, Option.some.injEq] at h; subst h; exact h0
  | cons x r ih =>
    simp only [cfgK] at h
    split at h
    · exact ih ⟨joinP_ord _ _, joinP_lst _ _⟩ h
    · cases h

/-! The laws. -/
theorem cfgB_opn {cs : List Sh} (h : cfgB cs = true) (h0 : 0 < (opn cs).length) : cfgB (opn cs) = true := by
  obtain ⟨h1, h2, -⟩ := cfgB_iff.1 h
  exact cfgB_iff.2 ⟨fun s hs => h1 s (opn_mem hs).1, h2.filter _, h0⟩
theorem opn_opn (cs : List Sh) : opn (opn cs) = opn cs := by
  unfold opn
  rw [List.filter_filter]
  congr 1
  funext s
  simp
theorem cfgT_opn {cs : List Sh} (h : cfgB cs = true) (h0 : 0 < (opn cs).length) : cfgT (opn cs) = cfgT cs := by
  unfold cfgT
  rw [if_pos h, if_pos (cfgB_opn h h0), opn_opn]
theorem cfgT_none {cs : List Sh} (h : cfgB cs = true) (h0 : (opn cs).length = 0) : cfgT cs = some [(0, 0)] := by
  unfold cfgT
  rw [if_pos h, List.eq_nil_of_length_eq_zero h0]
  rfl
def hol (s : Sh) : Sh := if opnB s = true then (s.1, s.2.1, 4 * s.2.1 + 2 - s.2.2) else s
theorem hol_ok {s : Sh} (h : shV s = true) : shV (hol s) = true ∧ opnB (hol s) = opnB s ∧ (hol s).1 = s.1 ∧ (hol s).2.1 = s.2.1 := by
  have b := shV_true h
  have c := shV_cap h
  by_cases ho : opnB s = true
  · have ho' := ho
    simp only [opnB, decide_eq_true_eq, c] at ho'
    unfold hol
    rw [if_pos ho]
    refine ⟨by simp only [shV, decide_eq_true_eq]; omega, ?_, rfl, rfl⟩
    rw [ho]
    show decide (4 * s.2.1 + 2 - s.2.2 < capI s.2.1) = true
    rw [c]
    simp
    omega
  · unfold hol
    rw [if_neg ho]
    exact ⟨h, rfl, rfl, rfl⟩
theorem opn_map {f : Sh → Sh} : ∀ {cs : List Sh}, (∀ s ∈ cs, opnB (f s) = opnB s) → opn (cs.map f) = (opn cs).map f
  | [], _ => rfl
  | s :: r, h => by
    have ih := opn_map (cs := r) (fun x hx => h x (List.mem_cons_of_mem _ hx))
    have h1 := h s (List.mem_cons_self ..)
    unfold opn at *
    rw [List.map_cons, List.filter_cons, List.filter_cons, h1]
    split
    · rw [List.map_cons, ih]
    · exact ih
theorem cfgK_map {f : Sh → Sh} : ∀ {os : List Sh} {T : List Tm}, (∀ s ∈ os, (f s).2.1 = s.2.1 ∧ (s.2.1 ≤ 2 → termsP (f s).2.1 (f s).2.2 = termsP s.2.1 s.2.2)) → cfgK (os.map f) T = cfgK os T
  | [], T, _ => rfl
  | s :: r, T, h => by
    obtain ⟨h1, h2⟩ := h s (List.mem_cons_self ..)
    have ih := fun T' => cfgK_map (os := r) (T := T') (fun x hx => h x (List.mem_cons_of_mem _ hx))
    simp only [List.map_cons, cfgK]
    by_cases hl : s.2.1 ≤ 2
    · rw [h2 hl, ih, h1]
    · have e1 : decide ((f s).2.1 ≤ 2) = false := by simp; omega
      have e2 : decide (s.2.1 ≤ 2) = false := by simp; omega
      rw [e1, e2]
      rfl
theorem eOk_sh {s : Sh} (h : shV s = true) (hl : s.2.1 ≤ 2) : eOk s.2.1 s.2.2 = true := by
  have b := shV_true h
  simp [eOk]; omega
theorem cfgB_hol {cs : List Sh} (h : cfgB cs = true) : cfgB (cs.map hol) = true := by
  obtain ⟨h1, h2, h3⟩ := cfgB_iff.1 h
  refine cfgB_iff.2 ⟨fun s hs => ?_, List.pairwise_map.2 (List.Pairwise.imp_of_mem (fun {a b} ha hb hab => ?_) h2), by simpa using h3⟩
  · obtain ⟨t, ht, rfl⟩ := List.mem_map.1 hs
    exact (hol_ok (h1 t ht)).1
  · obtain ⟨-, -, a1, a2⟩ := hol_ok (h1 a ha)
    obtain ⟨-, -, b1, b2⟩ := hol_ok (h1 b hb)
    simp only [shLt, a1, a2, b1, b2] at hab ⊢
    exact hab
/-- Holes have the same terms. -/
theorem cfgT_hol {cs : List Sh} (h : cfgB cs = true) : cfgT (cs.map hol) = cfgT cs := by
  have h1 := (cfgB_iff.1 h).1
  unfold cfgT
  rw [if_pos h, if_pos (cfgB_hol h), opn_map (fun s hs => (hol_ok (h1 s hs)).2.1)]
  refine cfgK_map fun s hs => ?_
  obtain ⟨k1, k2⟩ := opn_mem hs
  refine ⟨(hol_ok (h1 s k1)).2.2.2, fun hl => ?_⟩
  have : hol s = (s.1, s.2.1, 4 * s.2.1 + 2 - s.2.2) := by unfold hol; rw [if_pos k2]
  rw [this]
  exact tholes (eOk_sh (h1 s k1) hl)
def inc (s : Sh) : Sh := (s.1 + 1, s.2.1, s.2.2)
theorem cfgB_inc {cs : List Sh} (h : cfgB cs = true) (h7 : ∀ s ∈ cs, s.1 ≠ 7) : cfgB (cs.map inc) = true := by
  obtain ⟨h1, h2, h3⟩ := cfgB_iff.1 h
  refine cfgB_iff.2 ⟨fun s hs => ?_, List.pairwise_map.2 (h2.imp fun {a b} hab => ?_), by simpa using h3⟩
  · obtain ⟨t, ht, rfl⟩ := List.mem_map.1 hs
    have b := shV_true (h1 t ht)
    have := h7 t ht
    show decide (1 ≤ t.1 + 1 ∧ t.1 + 1 ≤ 7 ∧ 0 ≤ t.2.1 ∧ t.2.1 ≤ 3 ∧ t.2.1 < t.1 + 1 ∧ 1 ≤ t.2.2 ∧ t.2.2 ≤ 4 * t.2.1 + 2) = true
    rw [decide_eq_true_eq]
    omega
  · have hab' : a.1 < b.1 ∨ (a.1 = b.1 ∧ a.2.1 < b.2.1) := by simpa [shLt] using hab
    show decide (a.1 + 1 < b.1 + 1 ∨ (a.1 + 1 = b.1 + 1 ∧ a.2.1 < b.2.1)) = true
    rw [decide_eq_true_eq]
    omega
theorem cfgT_inc {cs : List Sh} (h : cfgB cs = true) (h7 : ∀ s ∈ cs, s.1 ≠ 7) : cfgT (cs.map inc) = cfgT cs := by
  unfold cfgT
  rw [if_pos h, if_pos (cfgB_inc h h7), opn_map (f := inc) (fun s _ => rfl)]
  exact cfgK_map (f := inc) fun s _ => ⟨rfl, fun _ => rfl⟩
theorem ordB_pw : ∀ {xs : List Tm}, (∀ p ∈ xs, okT p) → ordB xs = true → xs.Pairwise fun a b => key a ≤ key b
  | [], _, _ => List.Pairwise.nil
  | [a], _, _ => List.pairwise_singleton _ _
  | a :: b :: r, ho, h => by
    simp only [ordB, Bool.and_eq_true] at h
    have ih := ordB_pw (xs := b :: r) (fun p hp => ho p (List.mem_cons_of_mem _ hp)) h.2
    refine List.pairwise_cons.2 ⟨fun x hx => ?_, ih⟩
    have oa := ho a (List.mem_cons_self ..)
    have ob := ho b (List.mem_cons_of_mem _ (List.mem_cons_self ..))
    have hab : key a ≤ key b := by
      have := h.1
      simp only [Bool.not_eq_true', Bool.or_eq_false_iff, Bool.and_eq_false_iff, decide_eq_false_iff_not] at this
      unfold key okT at *
      omega
    rcases List.mem_cons.1 hx with rfl | hx
    · exact hab
    · exact Int.le_trans hab ((List.pairwise_cons.1 ih).1 x hx)
theorem termsP_ok {l n : Int} (hv : eOk l n = true) : lstB (termsP l n) = true ∧ ordB (termsP l n) = true ∧ wgt (termsP l n) = chNo l n := by
  have h := tchk hv
  simp only [chkTm, Bool.and_eq_true, List.all_eq_true, decide_eq_true_eq] at h
  refine ⟨lstB_iff.2 ⟨by have := h.1.1.1.1.1.2; omega, allV_iff.2 fun p hp => ?_⟩, h.1.2, h.2⟩
  have q := h.1.1.1.1.2 p hp
  simp [tvB]; omega
/-- A single open shell has its terms. -/
theorem cfgT_one {cs : List Sh} {s : Sh} {T : List Tm} (h : cfgB cs = true) (ho : opn cs = [s]) (hT : cfgT cs = some T) : T = termsP s.2.1 s.2.2 := by
  unfold cfgT at hT
  rw [if_pos h, ho] at hT
  simp only [cfgK] at hT
  split at hT
  · rename_i hc
    simp only [Option.some.injEq] at hT
    simp only [Bool.and_eq_true, decide_eq_true_eq] at hc
    have hs : s ∈ opn cs := by rw [ho]; simp
    obtain ⟨q1, q2, -⟩ := termsP_ok (eOk_sh ((cfgB_iff.1 h).1 s (opn_mem hs).1) hc.1)
    rw [← hT, (join_none_l q1).2]
    exact sortT_self (ordB_pw (allV_ok (lstB_iff.1 q1).2) q2)
  · cases hT
/-! Weights. -/
def wS (s : Sh) : Int := if opnB s = true then chNo s.2.1 s.2.2 else 1
def wC : List Sh → Int
  | [] => 1
  | s :: r => wS s * wC r
theorem wC_opn : ∀ cs : List Sh, wC (opn cs) = wC cs
  | [] => rfl
  | s :: r => by
    have ih := wC_opn r
    unfold opn at *
    rw [List.filter_cons]
    split
    · simp only [wC, ih]
    · rename_i hc
      simp only [wC, wS, hc]
      rw [ih]
      simp
theorem cfgK_wgt : ∀ {os : List Sh} {T0 T : List Tm}, (∀ s ∈ os, shV s = true ∧ opnB s = true) → cfgK os T0 = some T → wgt T = wgt T0 * wC os ∧ ∀ s ∈ os, s.2.1 ≤ 2
  | [], T0, T, _, h => by
    simp only [cfgK, Option.some.injEq] at h
    subst h
    exact ⟨by simp [wC], fun s hs => by cases hs⟩
  | s :: r, T0, T, ha, h => by
    simp only [cfgK] at h
    split at h
    · rename_i hc
      simp only [Bool.and_eq_true, decide_eq_true_eq] at hc
      obtain ⟨k1, k2⟩ := ha s (List.mem_cons_self ..)
      obtain ⟨e1, e2⟩ := cfgK_wgt (fun x hx => ha x (List.mem_cons_of_mem _ hx)) h
      refine ⟨?_, fun x hx => ?_⟩
      · rw [e1, joinP_wgt hc.2, (termsP_ok (eOk_sh k1 hc.1)).2.2]
        simp only [wC, wS, if_pos k2]
        rw [Int.mul_assoc]
      · rcases List.mem_cons.1 hx with rfl | hx
        · exact hc.1
        · exact e2 x hx
    · cases h
/-- A configuration has all its states. -/
theorem cfgT_wgt {cs : List Sh} {T : List Tm} (h : cfgB cs = true) (hT : cfgT cs = some T) : wgt T = wC cs ∧ ∀ s ∈ cs, opnB s = true → s.2.1 ≤ 2 := by
  unfold cfgT at hT
  rw [if_pos h] at hT
  obtain ⟨e1, e2⟩ := cfgK_wgt (fun s hs => ⟨(cfgB_iff.1 h).1 s (opn_mem hs).1, (opn_mem hs).2⟩) hT
  refine ⟨?_, fun s hs ho => e2 s (List.mem_filter.2 ⟨hs, ho⟩)⟩
  rw [e1, wC_opn]
  simp [wgt]
end Go.Proofs.YtjopcpoodhamcaaDoor

/-
  The walks of the functions on shells: capacity, validity, order. Conditions: none.
-/
namespace Go.Proofs.YtjopcpoodhamcaaDoor
set_option linter.unusedSimpArgs false
set_option linter.unusedVariables false
open Go.RowKit

set_option maxHeartbeats 400000 in
theorem iCap_any (l : Int) (w : World) : Calls Tryd.prog 24 #[.int .i64 l] w fun e w' => e = .returned (.int .i64 (capI l)) ∧ w = w' := by
  by_cases h1 : 0 ≤ l
  · by_cases h2 : l ≤ 3
    · have e : capI l = 4 * l + 2 := by unfold capI; rw [if_pos ⟨h1, h2⟩]
      have q1 : IntKind.i64.wrap (4 * l) = 4 * l := IntWalk.i64_in _ (by omega)
      have q2 : IntKind.i64.wrap (4 * l + 2) = 4 * l + 2 := IntWalk.i64_in _ (by omega)
      rw [e]
      go_enter Tryd.func24, Tryd.ntmps24
      go_wp2
      go_ret
      exact ⟨rfl, rfl⟩
    · have e : capI l = 0 := by unfold capI; rw [if_neg (by omega)]
      rw [e]
      go_enter Tryd.func24, Tryd.ntmps24
      go_wp2
      go_ret
      exact ⟨rfl, rfl⟩
  · have e : capI l = 0 := by unfold capI; rw [if_neg (by omega)]
    rw [e]
    go_enter Tryd.func24, Tryd.ntmps24
    go_wp2
    go_ret
    exact ⟨rfl, rfl⟩
set_option maxHeartbeats 400000 in
theorem sCap_any (l : Int) (w : World) : Calls Tryd.prog 52 #[.int .i64 l] w fun e w' => e = .returned (.int .i64 (capI l)) ∧ w = w' := by
  cases h : inB l 0 3
  · have e : capI l = 0 := by have := inB_false h; unfold capI; rw [if_neg (by omega)]
    rw [e]
    have H := Lib.hid h
    clear h
    go_enter Tryd.func52, Tryd.ntmps52
    go_wp2_with (go_at_call 64; refine (l6In_any _ _ _ _).mono ?_; rintro e w' ⟨rfl, rfl⟩; rw [H.out])
    go_ret
    exact ⟨rfl, rfl⟩
  · have b := inB_true h
    have e : capI l = 4 * l + 2 := by unfold capI; rw [if_pos b]
    have q1 : IntKind.i64.wrap (4 * l) = 4 * l := IntWalk.i64_in _ (by omega)
    have q2 : IntKind.i64.wrap (4 * l + 2) = 4 * l + 2 := IntWalk.i64_in _ (by omega)
    rw [e]
    have H := Lib.hid h
    clear h
    go_enter Tryd.func52, Tryd.ntmps52
    go_wp2_with (go_at_call 64; refine (l6In_any _ _ _ _).mono ?_; rintro e w' ⟨rfl, rfl⟩; rw [H.out])
    go_ret
    exact ⟨rfl, rfl⟩
set_option maxRecDepth 20000 in
set_option maxHeartbeats 2000000 in
theorem iShell_any (n l c : Int) (w : World) : Calls Tryd.prog 40 #[.agg #[.int .i64 n, .int .i64 l, .int .i64 c]] w fun e w' => e = .returned (.bool (shV (n, l, c))) ∧ Below w.heap.size w w' := by
  have no : ∀ b : Bool, shV (n, l, c) = b → Calls Tryd.prog 40 #[.agg #[.int .i64 n, .int .i64 l, .int .i64 c]] w (fun e w' => e = .returned (.bool b) ∧ Below w.heap.size w w') → Calls Tryd.prog 40 #[.agg #[.int .i64 n, .int .i64 l, .int .i64 c]] w fun e w' => e = .returned (.bool (shV (n, l, c))) ∧ Below w.heap.size w w' := fun b hb h => by rw [hb]; exact h
  by_cases a1 : 1 ≤ n
  · by_cases a2 : n ≤ 7
    · by_cases a3 : 0 ≤ l
      · by_cases a4 : l ≤ 3
        · by_cases a5 : l < n
          · by_cases a6 : 1 ≤ c
            · have e : capI l = 4 * l + 2 := by unfold capI; rw [if_pos ⟨a3, a4⟩]
              by_cases a7 : c ≤ 4 * l + 2
              · refine no true (by simp [shV]; omega) ?_
                have HE := Lib.hid e
                obtain ⟨y, hy⟩ : ∃ y, y = 4 * l + 2 := ⟨_, rfl⟩
                have a8 : c ≤ y := by omega
                have HY := Lib.hid hy
                have KC : Hid (∀ W, Calls Tryd.prog 24 #[.int .i64 l] W fun e w' => e = .returned (.int .i64 y) ∧ W = w') := Lib.hid (fun W => by rw [hy, ← e]; exact iCap_any l W)
                clear e a7 no hy
                go_enter Tryd.func40, Tryd.ntmps40
                go_wp2
                go_quiet ((go_at_call 24; exact Calls.quiet_of_same ((KC.out _).mono fun _ _ h => ⟨h.1, h.2.symm⟩)))
                go_wp2
                go_ret
                exact ⟨rfl, by (repeat' first | (with_reducible exact Below.refl _ _) | (with_reducible assumption) | (with_reducible refine below_drewN ?_ _) | (with_reducible refine Below.drew ?_) | (with_reducible refine Below.alloc ?_ ?_ _) | (with_reducible refine Below.setCell ?_ ?_ _) | (with_reducible refine Below.trans ?_ (Below.mono (by assumption) ?_)) | first | omega | (simp only [World.size_alloc, World.size_setCell, World.size_drew, size_drewN]; omega) | (simp; done) | (simp; omega) | (simp only [World.size_alloc, World.size_setCell, World.size_drew, size_drewN] at *; omega) | (simp at *; omega))⟩
              · refine no false (by simp [shV]; omega) ?_
                have HE := Lib.hid e
                obtain ⟨y, hy⟩ : ∃ y, y = 4 * l + 2 := ⟨_, rfl⟩
                have a8 : ¬ c ≤ y := by omega
                have HY := Lib.hid hy
                have KC : Hid (∀ W, Calls Tryd.prog 24 #[.int .i64 l] W fun e w' => e = .returned (.int .i64 y) ∧ W = w') := Lib.hid (fun W => by rw [hy, ← e]; exact iCap_any l W)
                clear e a7 no hy
                go_enter Tryd.func40, Tryd.ntmps40
                go_wp2
                go_quiet ((go_at_call 24; exact Calls.quiet_of_same ((KC.out _).mono fun _ _ h => ⟨h.1, h.2.symm⟩)))
                go_wp2
                go_ret
                exact ⟨ret_bool (b := decide (c ≤ y)) (c := false) (by simp; omega), by (repeat' first | (with_reducible exact Below.refl _ _) | (with_reducible assumption) | (with_reducible refine below_drewN ?_ _) | (with_reducible refine Below.drew ?_) | (with_reducible refine Below.alloc ?_ ?_ _) | (with_reducible refine Below.setCell ?_ ?_ _) | (with_reducible refine Below.trans ?_ (Below.mono (by assumption) ?_)) | first | omega | (simp only [World.size_alloc, World.size_setCell, World.size_drew, size_drewN]; omega) | (simp; done) | (simp; omega) | (simp only [World.size_alloc, World.size_setCell, World.size_drew, size_drewN] at *; omega) | (simp at *; omega))⟩
            · refine no false (by simp [shV]; omega) ?_
              clear no
              have ff : decide (1 ≤ c) = false := by simp; omega
              (go_enter Tryd.func40, Tryd.ntmps40; go_wp2; go_quiet (fail); go_wp2; go_ret; exact ⟨rfl, by (repeat' first | (with_reducible exact Below.refl _ _) | (with_reducible assumption) | (with_reducible refine below_drewN ?_ _) | (with_reducible refine Below.drew ?_) | (with_reducible refine Below.alloc ?_ ?_ _) | (with_reducible refine Below.setCell ?_ ?_ _) | (with_reducible refine Below.trans ?_ (Below.mono (by assumption) ?_)) | first | omega | (simp only [World.size_alloc, World.size_setCell, World.size_drew, size_drewN]; omega) | (simp; done) | (simp; omega) | (simp only [World.size_alloc, World.size_setCell, World.size_drew, size_drewN] at *; omega) | (simp at *; omega))⟩)
          · refine no false (by simp [shV]; omega) ?_
            clear no
            have ff : decide (l < n) = false := by simp; omega
            (go_enter Tryd.func40, Tryd.ntmps40; go_wp2; go_quiet (fail); go_wp2; go_ret; exact ⟨rfl, by (repeat' first | (with_reducible exact Below.refl _ _) | (with_reducible assumption) | (with_reducible refine below_drewN ?_ _) | (with_reducible refine Below.drew ?_) | (with_reducible refine Below.alloc ?_ ?_ _) | (with_reducible refine Below.setCell ?_ ?_ _) | (with_reducible refine Below.trans ?_ (Below.mono (by assumption) ?_)) | first | omega | (simp only [World.size_alloc, World.size_setCell, World.size_drew, size_drewN]; omega) | (simp; done) | (simp; omega) | (simp only [World.size_alloc, World.size_setCell, World.size_drew, size_drewN] at *; omega) | (simp at *; omega))⟩)
        · refine no false (by simp [shV]; omega) ?_
          clear no
          have ff : decide (l ≤ 3) = false := by simp; omega
          (go_enter Tryd.func40, Tryd.ntmps40; go_wp2; go_quiet (fail); go_wp2; go_ret; exact ⟨rfl, by (repeat' first | (with_reducible exact Below.refl _ _) | (with_reducible assumption) | (with_reducible refine below_drewN ?_ _) | (with_reducible refine Below.drew ?_) | (with_reducible refine Below.alloc ?_ ?_ _) | (with_reducible refine Below.setCell ?_ ?_ _) | (with_reducible refine Below.trans ?_ (Below.mono (by assumption) ?_)) | first | omega | (simp only [World.size_alloc, World.size_setCell, World.size_drew, size_drewN]; omega) | (simp; done) | (simp; omega) | (simp only [World.size_alloc, World.size_setCell, World.size_drew, size_drewN] at *; omega) | (simp at *; omega))⟩)
      · refine no false (by simp [shV]; omega) ?_
        clear no
        have ff : decide (0 ≤ l) = false := by simp; omega
        (go_enter Tryd.func40, Tryd.ntmps40; go_wp2; go_quiet (fail); go_wp2; go_ret; exact ⟨rfl, by (repeat' first | (with_reducible exact Below.refl _ _) | (with_reducible assumption) | (with_reducible refine below_drewN ?_ _) | (with_reducible refine Below.drew ?_) | (with_reducible refine Below.alloc ?_ ?_ _) | (with_reducible refine Below.setCell ?_ ?_ _) | (with_reducible refine Below.trans ?_ (Below.mono (by assumption) ?_)) | first | omega | (simp only [World.size_alloc, World.size_setCell, World.size_drew, size_drewN]; omega) | (simp; done) | (simp; omega) | (simp only [World.size_alloc, World.size_setCell, World.size_drew, size_drewN] at *; omega) | (simp at *; omega))⟩)
    · refine no false (by simp [shV]; omega) ?_
      clear no
      have ff : decide (n ≤ 7) = false := by simp; omega
      (go_enter Tryd.func40, Tryd.ntmps40; go_wp2; go_quiet (fail); go_wp2; go_ret; exact ⟨rfl, by (repeat' first | (with_reducible exact Below.refl _ _) | (with_reducible assumption) | (with_reducible refine below_drewN ?_ _) | (with_reducible refine Below.drew ?_) | (with_reducible refine Below.alloc ?_ ?_ _) | (with_reducible refine Below.setCell ?_ ?_ _) | (with_reducible refine Below.trans ?_ (Below.mono (by assumption) ?_)) | first | omega | (simp only [World.size_alloc, World.size_setCell, World.size_drew, size_drewN]; omega) | (simp; done) | (simp; omega) | (simp only [World.size_alloc, World.size_setCell, World.size_drew, size_drewN] at *; omega) | (simp at *; omega))⟩)
  · refine no false (by simp [shV]; omega) ?_
    clear no
    have ff : decide (1 ≤ n) = false := by simp; omega
    (go_enter Tryd.func40, Tryd.ntmps40; go_wp2; go_quiet (fail); go_wp2; go_ret; exact ⟨rfl, by (repeat' first | (with_reducible exact Below.refl _ _) | (with_reducible assumption) | (with_reducible refine below_drewN ?_ _) | (with_reducible refine Below.drew ?_) | (with_reducible refine Below.alloc ?_ ?_ _) | (with_reducible refine Below.setCell ?_ ?_ _) | (with_reducible refine Below.trans ?_ (Below.mono (by assumption) ?_)) | first | omega | (simp only [World.size_alloc, World.size_setCell, World.size_drew, size_drewN]; omega) | (simp; done) | (simp; omega) | (simp only [World.size_alloc, World.size_setCell, World.size_drew, size_drewN] at *; omega) | (simp at *; omega))⟩)
theorem shV_in (n l c : Int) : shV (n, l, c) = (inB n 1 7 && (inB l 0 (if 3 ≤ n - 1 then 3 else n - 1) && inB c 1 (4 * l + 2))) := by
  rw [Bool.eq_iff_iff]
  simp [shV, inB]
  split <;> omega
set_option maxRecDepth 20000 in
set_option maxHeartbeats 2000000 in
theorem sShell_any (n l c : Int) (w : World) : Calls Tryd.prog 50 #[.agg #[.int .i64 n, .int .i64 l, .int .i64 c]] w fun e w' => e = .returned (.bool (shV (n, l, c))) ∧ Below w.heap.size w w' := by
  rw [shV_in]
  cases h1 : inB n 1 7
  · rw [Bool.false_and]
    have H1 := Lib.hid h1
    clear h1
    go_enter Tryd.func50, Tryd.ntmps50
    go_wp2_with (go_at_call 64; refine (l6In_any _ _ _ _).mono ?_; rintro e w' ⟨rfl, rfl⟩; rw [H1.out])
    go_ret
    exact ⟨rfl, by (repeat' first | (with_reducible exact Below.refl _ _) | (with_reducible assumption) | (with_reducible refine below_drewN ?_ _) | (with_reducible refine Below.drew ?_) | (with_reducible refine Below.alloc ?_ ?_ _) | (with_reducible refine Below.setCell ?_ ?_ _) | (with_reducible refine Below.trans ?_ (Below.mono (by assumption) ?_)) | first | omega | (simp only [World.size_alloc, World.size_setCell, World.size_drew, size_drewN]; omega) | (simp; done) | (simp; omega) | (simp only [World.size_alloc, World.size_setCell, World.size_drew, size_drewN] at *; omega) | (simp at *; omega))⟩
  rw [Bool.true_and]
  have b1 := inB_true h1
  have H1 := Lib.hid h1
  have q0 : IntKind.i64.wrap (n - 1) = n - 1 := IntWalk.i64_in _ (by omega)
  obtain ⟨y, hy⟩ : ∃ y, y = if 3 ≤ n - 1 then 3 else n - 1 := ⟨_, rfl⟩
  rw [← hy]
  have hyb : y ≤ 3 := by rw [hy]; split <;> omega
  clear h1
  cases h2 : inB l 0 y
  · rw [Bool.false_and]
    have H2 := Lib.hid h2
    clear h2
    by_cases hm : 3 ≤ n - 1
    · obtain rfl : y = 3 := by rw [hy, if_pos hm]
      have m2 : ¬ n - 1 < 3 := by omega
      clear hy
      go_enter Tryd.func50, Tryd.ntmps50
      go_wp2_with (go_at_call 64; refine (l6In_any _ _ _ _).mono ?_; rintro e w' ⟨rfl, rfl⟩; (first | rw [H1.out] | rw [H2.out]))
      all_goals go_ret
      all_goals exact ⟨rfl, by (repeat' first | (with_reducible exact Below.refl _ _) | (with_reducible assumption) | (with_reducible refine below_drewN ?_ _) | (with_reducible refine Below.drew ?_) | (with_reducible refine Below.alloc ?_ ?_ _) | (with_reducible refine Below.setCell ?_ ?_ _) | (with_reducible refine Below.trans ?_ (Below.mono (by assumption) ?_)) | first | omega | (simp only [World.size_alloc, World.size_setCell, World.size_drew, size_drewN]; omega) | (simp; done) | (simp; omega) | (simp only [World.size_alloc, World.size_setCell, World.size_drew, size_drewN] at *; omega) | (simp at *; omega))⟩
    · obtain rfl : y = n - 1 := by rw [hy, if_neg hm]
      have m2 : n - 1 < 3 := by omega
      clear hy
      go_enter Tryd.func50, Tryd.ntmps50
      go_wp2_with (go_at_call 64; refine (l6In_any _ _ _ _).mono ?_; rintro e w' ⟨rfl, rfl⟩; (first | rw [H1.out] | rw [H2.out]))
      all_goals go_ret
      all_goals exact ⟨rfl, by (repeat' first | (with_reducible exact Below.refl _ _) | (with_reducible assumption) | (with_reducible refine below_drewN ?_ _) | (with_reducible refine Below.drew ?_) | (with_reducible refine Below.alloc ?_ ?_ _) | (with_reducible refine Below.setCell ?_ ?_ _) | (with_reducible refine Below.trans ?_ (Below.mono (by assumption) ?_)) | first | omega | (simp only [World.size_alloc, World.size_setCell, World.size_drew, size_drewN]; omega) | (simp; done) | (simp; omega) | (simp only [World.size_alloc, World.size_setCell, World.size_drew, size_drewN] at *; omega) | (simp at *; omega))⟩
  · rw [Bool.true_and]
    have b2 := inB_true h2
    have H2 := Lib.hid h2
    have q1 : IntKind.i64.wrap (4 * l) = 4 * l := IntWalk.i64_in _ (by omega)
    have q2 : IntKind.i64.wrap (4 * l + 2) = 4 * l + 2 := IntWalk.i64_in _ (by omega)
    clear h2
    by_cases hm : 3 ≤ n - 1
    · obtain rfl : y = 3 := by rw [hy, if_pos hm]
      have m2 : ¬ n - 1 < 3 := by omega
      clear hy
      go_enter Tryd.func50, Tryd.ntmps50
      go_wp2_with (go_at_call 64; refine (l6In_any _ _ _ _).mono ?_; rintro e w' ⟨rfl, rfl⟩; (first | rw [H1.out] | rw [H2.out] | skip))
      all_goals go_ret
      all_goals exact ⟨rfl, by (repeat' first | (with_reducible exact Below.refl _ _) | (with_reducible assumption) | (with_reducible refine below_drewN ?_ _) | (with_reducible refine Below.drew ?_) | (with_reducible refine Below.alloc ?_ ?_ _) | (with_reducible refine Below.setCell ?_ ?_ _) | (with_reducible refine Below.trans ?_ (Below.mono (by assumption) ?_)) | first | omega | (simp only [World.size_alloc, World.size_setCell, World.size_drew, size_drewN]; omega) | (simp; done) | (simp; omega) | (simp only [World.size_alloc, World.size_setCell, World.size_drew, size_drewN] at *; omega) | (simp at *; omega))⟩
    · obtain rfl : y = n - 1 := by rw [hy, if_neg hm]
      have m2 : n - 1 < 3 := by omega
      clear hy
      go_enter Tryd.func50, Tryd.ntmps50
      go_wp2_with (go_at_call 64; refine (l6In_any _ _ _ _).mono ?_; rintro e w' ⟨rfl, rfl⟩; (first | rw [H1.out] | rw [H2.out] | skip))
      all_goals go_ret
      all_goals exact ⟨rfl, by (repeat' first | (with_reducible exact Below.refl _ _) | (with_reducible assumption) | (with_reducible refine below_drewN ?_ _) | (with_reducible refine Below.drew ?_) | (with_reducible refine Below.alloc ?_ ?_ _) | (with_reducible refine Below.setCell ?_ ?_ _) | (with_reducible refine Below.trans ?_ (Below.mono (by assumption) ?_)) | first | omega | (simp only [World.size_alloc, World.size_setCell, World.size_drew, size_drewN]; omega) | (simp; done) | (simp; omega) | (simp only [World.size_alloc, World.size_setCell, World.size_drew, size_drewN] at *; omega) | (simp at *; omega))⟩
def cmpS (a b : Sh) : Int := orC (cmpC a.1 b.1) (cmpC a.2.1 b.2.1)
theorem cmpS_ge (a b : Sh) : decide (0 ≤ cmpS a b) = !shLt a b := by
  rw [Bool.eq_iff_iff]
  simp only [shLt, decide_eq_true_eq, Bool.not_eq_true', decide_eq_false_iff_not]
  unfold cmpS orC cmpC
  by_cases h1 : a.1 < b.1
  · rw [if_pos h1, if_neg (by omega)]; omega
  · rw [if_neg h1]
    by_cases h2 : b.1 < a.1
    · rw [if_pos h2, if_neg (by omega)]; omega
    · rw [if_neg h2, if_pos rfl]
      by_cases h3 : a.2.1 < b.2.1
      · rw [if_pos h3]; omega
      · rw [if_neg h3]
        by_cases h4 : b.2.1 < a.2.1
        · rw [if_pos h4]; omega
        · rw [if_neg h4]; omega
set_option maxRecDepth 20000 in
set_option maxHeartbeats 600000 in
theorem cmpS_any (a b : Sh) (w : World) :
    Calls Tryd.prog 41 #[.agg #[.int .i64 a.1, .int .i64 a.2.1, .int .i64 a.2.2], .agg #[.int .i64 b.1, .int .i64 b.2.1, .int .i64 b.2.2]] w fun e w' => e = .returned (.int .i64 (cmpS a b)) ∧ Below w.heap.size w w' := by
  have hor := or_any (w.heap.size + 1 + 1) (cmpC a.1 b.1) (cmpC a.2.1 b.2.1) (((w.alloc (.cells #[.int .i64 a.1, .int .i64 a.2.1, .int .i64 a.2.2] 45)).alloc (.cells #[.int .i64 b.1, .int .i64 b.2.1, .int .i64 b.2.2] 45)).alloc (.cells #[.int .i64 (cmpC a.1 b.1), .int .i64 (cmpC a.2.1 b.2.1)] 3)).drew (by (simp (disch := first | omega | (simp; done) | (simp; omega)) [go_sem, *]; done)) (by (simp (disch := first | omega | (simp; done) | (simp; omega)) [go_sem, *]; done))
  rw [show orC (cmpC a.1 b.1) (cmpC a.2.1 b.2.1) = cmpS a b from rfl] at hor
  have HO := Lib.hid hor
  clear hor
  go_enter Tryd.func41, Tryd.ntmps41
  go_wp2
  go_region_held3 (fun w' => w'.cell? ⟨w.heap.size, 0, none⟩ = some (.int .i64 a.1) ∧ w'.cell? ⟨w.heap.size, 1, none⟩ = some (.int .i64 a.2.1) ∧ w'.cell? ⟨w.heap.size + 1, 0, none⟩ = some (.int .i64 b.1) ∧ w'.cell? ⟨w.heap.size + 1, 1, none⟩ = some (.int .i64 b.2.1) ∧ w.heap.size + 2 ≤ w'.heap.size ∧ Below w.heap.size w w')
    (first | (simp (disch := first | omega | (simp; done) | (simp; omega)) [go_sem, *]; done) | ((repeat' first | (with_reducible exact Below.refl _ _) | (with_reducible assumption) | (with_reducible refine below_drewN ?_ _) | (with_reducible refine Below.drew ?_) | (with_reducible refine Below.alloc ?_ ?_ _) | (with_reducible refine Below.setCell ?_ ?_ _) | (with_reducible refine Below.trans ?_ (Below.mono (by assumption) ?_)) | first | omega | (simp only [World.size_alloc, World.size_setCell, World.size_drew, size_drewN]; omega) | (simp; done) | (simp; omega) | (simp only [World.size_alloc, World.size_setCell, World.size_drew, size_drewN] at *; omega) | (simp at *; omega)); done) | ((try go_split_ands); (refine ⟨?_, ?_, ?_, ?_, ?_, ?_⟩ <;> first | omega | (simp only [World.size_alloc, World.size_setCell, World.size_drew, size_drewN]; omega) | (simp (disch := first | omega | (simp; done) | (simp; omega)) [go_sem, *]; done) | ((repeat' first | (with_reducible exact Below.refl _ _) | (with_reducible assumption) | (with_reducible refine below_drewN ?_ _) | (with_reducible refine Below.drew ?_) | (with_reducible refine Below.alloc ?_ ?_ _) | (with_reducible refine Below.setCell ?_ ?_ _) | (with_reducible refine Below.trans ?_ (Below.mono (by assumption) ?_)) | first | omega | (simp only [World.size_alloc, World.size_setCell, World.size_drew, size_drewN]; omega) | (simp; done) | (simp; omega) | (simp only [World.size_alloc, World.size_setCell, World.size_drew, size_drewN] at *; omega) | (simp at *; omega)); done))))
    (first
      | (go_at_call 59; refine (compare_any _ _ _).mono ?_; rintro e w' ⟨rfl, rfl⟩)
      | (go_at_call 58; refine (HO.out).mono ?_; rintro e w' ⟨rfl, rfl⟩))
  go_wp2
  go_ret
  exact ⟨rfl, by (repeat' first | (with_reducible exact Below.refl _ _) | (with_reducible assumption) | (with_reducible refine below_drewN ?_ _) | (with_reducible refine Below.drew ?_) | (with_reducible refine Below.alloc ?_ ?_ _) | (with_reducible refine Below.setCell ?_ ?_ _) | (with_reducible refine Below.trans ?_ (Below.mono (by assumption) ?_)) | first | omega | (simp only [World.size_alloc, World.size_setCell, World.size_drew, size_drewN]; omega) | (simp; done) | (simp; omega) | (simp only [World.size_alloc, World.size_setCell, World.size_drew, size_drewN] at *; omega) | (simp at *; omega))⟩
set_option maxHeartbeats 1000000 in
theorem less_any (a b : Sh) (w : World) :
    Calls Tryd.prog 51 #[.agg #[.int .i64 a.1, .int .i64 a.2.1, .int .i64 a.2.2], .agg #[.int .i64 b.1, .int .i64 b.2.1, .int .i64 b.2.2]] w fun e w' => e = .returned (.bool (shLt a b)) ∧ Below w.heap.size w w' := by
  rcases Int.lt_trichotomy a.1 b.1 with h | h | h
  · have q1 : decide (a.1 < b.1) = true := by simp; omega
    rw [show shLt a b = true by simp [shLt]; omega]
    go_enter Tryd.func51, Tryd.ntmps51
    go_wp2
    go_ret
    exact ⟨rfl, by (repeat' first | (with_reducible exact Below.refl _ _) | (with_reducible assumption) | (with_reducible refine below_drewN ?_ _) | (with_reducible refine Below.drew ?_) | (with_reducible refine Below.alloc ?_ ?_ _) | (with_reducible refine Below.setCell ?_ ?_ _) | (with_reducible refine Below.trans ?_ (Below.mono (by assumption) ?_)) | first | omega | (simp only [World.size_alloc, World.size_setCell, World.size_drew, size_drewN]; omega) | (simp; done) | (simp; omega) | (simp only [World.size_alloc, World.size_setCell, World.size_drew, size_drewN] at *; omega) | (simp at *; omega))⟩
  · have q1 : decide (a.1 < b.1) = false := by simp; omega
    have q2 : (a.1 == b.1) = true := by rw [beq_iff_eq]; omega
    have q3 : decide (a.1 = b.1) = true := by simp; omega
    by_cases h2 : a.2.1 < b.2.1
    · have q4 : decide (a.2.1 < b.2.1) = true := by simp; omega
      rw [show shLt a b = true by simp [shLt]; omega]
      go_enter Tryd.func51, Tryd.ntmps51
      go_wp2
      go_ret
      exact ⟨rfl, by (repeat' first | (with_reducible exact Below.refl _ _) | (with_reducible assumption) | (with_reducible refine below_drewN ?_ _) | (with_reducible refine Below.drew ?_) | (with_reducible refine Below.alloc ?_ ?_ _) | (with_reducible refine Below.setCell ?_ ?_ _) | (with_reducible refine Below.trans ?_ (Below.mono (by assumption) ?_)) | first | omega | (simp only [World.size_alloc, World.size_setCell, World.size_drew, size_drewN]; omega) | (simp; done) | (simp; omega) | (simp only [World.size_alloc, World.size_setCell, World.size_drew, size_drewN] at *; omega) | (simp at *; omega))⟩
    · have q4 : decide (a.2.1 < b.2.1) = false := by simp; omega
      rw [show shLt a b = false by simp [shLt]; omega]
      go_enter Tryd.func51, Tryd.ntmps51
      go_wp2
      go_ret
      exact ⟨rfl, by (repeat' first | (with_reducible exact Below.refl _ _) | (with_reducible assumption) | (with_reducible refine below_drewN ?_ _) | (with_reducible refine Below.drew ?_) | (with_reducible refine Below.alloc ?_ ?_ _) | (with_reducible refine Below.setCell ?_ ?_ _) | (with_reducible refine Below.trans ?_ (Below.mono (by assumption) ?_)) | first | omega | (simp only [World.size_alloc, World.size_setCell, World.size_drew, size_drewN]; omega) | (simp; done) | (simp; omega) | (simp only [World.size_alloc, World.size_setCell, World.size_drew, size_drewN] at *; omega) | (simp at *; omega))⟩
  · have q1 : decide (a.1 < b.1) = false := by simp; omega
    have q2 : (a.1 == b.1) = false := by rw [beq_eq_false_iff_ne]; omega
    have q3 : decide (a.1 = b.1) = false := by simp; omega
    rw [show shLt a b = false by simp [shLt]; omega]
    go_enter Tryd.func51, Tryd.ntmps51
    go_wp2
    go_ret
    exact ⟨rfl, by (repeat' first | (with_reducible exact Below.refl _ _) | (with_reducible assumption) | (with_reducible refine below_drewN ?_ _) | (with_reducible refine Below.drew ?_) | (with_reducible refine Below.alloc ?_ ?_ _) | (with_reducible refine Below.setCell ?_ ?_ _) | (with_reducible refine Below.trans ?_ (Below.mono (by assumption) ?_)) | first | omega | (simp only [World.size_alloc, World.size_setCell, World.size_drew, size_drewN]; omega) | (simp; done) | (simp; omega) | (simp only [World.size_alloc, World.size_setCell, World.size_drew, size_drewN] at *; omega) | (simp at *; omega))⟩
end Go.Proofs.YtjopcpoodhamcaaDoor

/-
  Lists of shells in memory: as arguments, as rows of the call's own, as results. Conditions: none.
-/
namespace Go.Proofs.YtjopcpoodhamcaaDoor
set_option linter.unusedSimpArgs false
set_option linter.unusedVariables false
open Go.RowKit

def vH (xs : List Sh) : List Value := xs.flatMap fun p => [.int .i64 p.1, .int .i64 p.2.1, .int .i64 p.2.2]
theorem vH_append (xs ys : List Sh) : vH (xs ++ ys) = vH xs ++ vH ys := by simp [vH]
theorem vH_length : ∀ xs : List Sh, (vH xs).length = xs.length * 3
  | [] => rfl
  | x :: r => by have := vH_length r; simp only [vH, List.flatMap_cons, List.length_append, List.length_cons, List.length_nil] at *; omega
theorem vH_get : ∀ (xs : List Sh) (k : Nat) (p : Sh), xs[k]? = some p → (vH xs)[k * 3]? = some (.int .i64 p.1) ∧ (vH xs)[k * 3 + 1]? = some (.int .i64 p.2.1) ∧ (vH xs)[k * 3 + 2]? = some (.int .i64 p.2.2)
  | [], k, p, h => by simp at h
  | x :: r, 0, p, h => by simp at h; subst h; exact ⟨rfl, rfl, rfl⟩
  | x :: r, k + 1, p, h => by
    have ih := vH_get r k p (by simpa using h)
    have e : ∀ i, (vH (x :: r))[(k + 1) * 3 + i]? = (vH r)[k * 3 + i]? := fun i => by
      rw [show (k + 1) * 3 + i = (k * 3 + i) + 1 + 1 + 1 by omega]; rfl
    exact ⟨by have := e 0; simp only [Nat.add_zero] at this; rw [this]; exact ih.1, by rw [e 1]; exact ih.2.1, by rw [e 2]; exact ih.2.2⟩
theorem vH_one (xs : List Sh) : ∀ u ∈ vH xs, ∃ x, u = .int .i64 x := fun u hu => by
  simp only [vH, List.mem_flatMap] at hu
  obtain ⟨p, -, hp⟩ := hu
  simp at hp
  rcases hp with rfl | rfl | rfl <;> exact ⟨_, rfl⟩
theorem infoH : (Tryd.prog.info? 45).map (fun i => (i.zero, i.size, i.bytes)) = some (some (.agg #[.int .i64 0, .int .i64 0, .int .i64 0]), 3, 24) := by kernel_rfl
/-- From cell o on, block g holds the shells xs. -/
def ShOf (w : World) (g o : Nat) (xs : List Sh) : Prop :=
  ∀ (k : Nat) (p : Sh), xs[k]? = some p → w.cell? ⟨g, o + k * 3, none⟩ = some (.int .i64 p.1) ∧ w.cell? ⟨g, o + k * 3 + 1, none⟩ = some (.int .i64 p.2.1) ∧ w.cell? ⟨g, o + k * 3 + 2, none⟩ = some (.int .i64 p.2.2)
theorem ShOf.keep {w w' : World} {g o : Nat} {xs : List Sh} (h : ShOf w g o xs) (hk : ∀ i, w'.cell? ⟨g, i, none⟩ = w.cell? ⟨g, i, none⟩) : ShOf w' g o xs :=
  fun k p hp => by obtain ⟨a, b, c⟩ := h k p hp; exact ⟨(hk _).trans a, (hk _).trans b, (hk _).trans c⟩
theorem ShOf.below {B : Nat} {w w' : World} {g o : Nat} {xs : List Sh} (h : ShOf w g o xs) (hb : Below B w w') (hg : g < B) : ShOf w' g o xs := h.keep fun i => hb.cell (p := ⟨g, i, none⟩) hg
theorem ShOf.val {w : World} {g o : Nat} {xs : List Sh} (h : ShOf w g o xs) (j : Nat) (u : Value) (hu : (vH xs)[j]? = some u) : w.cell? ((⟨g, o, none⟩ : Addr).add j) = some u := by
  have e : (⟨g, o, none⟩ : Addr).add j = ⟨g, o + j, none⟩ := by
    by_cases h0 : j = 0
    · subst h0; rfl
    · simp [Addr.add, h0]
  rw [e]
  have hj : j < xs.length * 3 := by rw [← vH_length]; exact (List.getElem?_eq_some_iff.1 hu).1
  obtain ⟨p, hp⟩ : ∃ p, xs[j / 3]? = some p := ⟨_, List.getElem?_eq_getElem (by omega)⟩
  obtain ⟨a, b, c⟩ := h _ p hp
  obtain ⟨d0, d1, d2⟩ := vH_get xs _ p hp
  rcases (show j % 3 = 0 ∨ j % 3 = 1 ∨ j % 3 = 2 by omega) with e | e | e
  · rw [show j = j / 3 * 3 by omega] at hu ⊢
    rw [d0] at hu
    rw [a]; exact hu
  · rw [show j = j / 3 * 3 + 1 by omega] at hu ⊢
    rw [d1] at hu
    rw [show o + (j / 3 * 3 + 1) = o + j / 3 * 3 + 1 by omega, b]; exact hu
  · rw [show j = j / 3 * 3 + 2 by omega] at hu ⊢
    rw [d2] at hu
    rw [show o + (j / 3 * 3 + 2) = o + j / 3 * 3 + 2 by omega, c]; exact hu
/-- v is a list of the shells xs, somewhere in memory. -/
def RwI (w : World) (v : Value) (xs : List Sh) : Prop :=
  (v = .slice none 0 0 ∧ xs = []) ∨ ∃ g o c, v = .slice (some ⟨g, o, none⟩) xs.length c ∧ g < w.heap.size ∧ ShOf w g o xs
theorem RwI.below {w w' : World} {v : Value} {xs : List Sh} (h : RwI w v xs) (hb : Below w.heap.size w w') : RwI w' v xs := by
  rcases h with h | ⟨g, o, c, rfl, h1, h2⟩
  · exact .inl h
  · exact .inr ⟨g, o, c, rfl, Nat.lt_of_lt_of_le h1 hb.size, h2.below hb h1⟩
theorem RwI.form {w : World} {v : Value} {xs : List Sh} (h : RwI w v xs) : ∃ a c, v = .slice a xs.length c := by
  rcases h with ⟨rfl, rfl⟩ | ⟨g, o, c, rfl, -, -⟩
  · exact ⟨_, _, rfl⟩
  · exact ⟨_, _, rfl⟩
theorem RwI.get {w : World} {v : Value} {xs : List Sh} (h : RwI w v xs) {i : Nat} (hi : i < xs.length) :
    ∃ g o c p, v = .slice (some ⟨g, o, none⟩) xs.length c ∧ xs[i]? = some p ∧ g < w.heap.size ∧ w.cell? ⟨g, o + i * 3, none⟩ = some (.int .i64 p.1) ∧ w.cell? ⟨g, o + i * 3 + 1, none⟩ = some (.int .i64 p.2.1) ∧ w.cell? ⟨g, o + i * 3 + 2, none⟩ = some (.int .i64 p.2.2) := by
  rcases h with ⟨rfl, rfl⟩ | ⟨g, o, c, rfl, h1, h2⟩
  · cases hi
  · obtain ⟨p, hp⟩ : ∃ p, xs[i]? = some p := ⟨_, List.getElem?_eq_getElem hi⟩
    exact ⟨g, o, c, p, rfl, hp, h1, h2 i p hp⟩
theorem rwI_own {w : World} {base n : Nat} {v : Value} {xs : List Sh} (h : w.ownsRow base 45 3 v n (vH xs)) : RwI w v xs := by
  have e := h.1
  rw [vH_length] at e
  obtain rfl : n = xs.length := by omega
  rcases h.2 with ⟨e1, e2⟩ | ⟨g, cap, cur, rfl, hb, hh, hr⟩
  · exact .inl ⟨e1, List.eq_nil_of_length_eq_zero e2⟩
  · have h' : w.ownsRow base 45 3 (.slice (some ⟨g, 0, none⟩) xs.length cap) xs.length (vH xs) := h
    refine .inr ⟨g, 0, cap, rfl, (Array.getElem?_eq_some_iff.1 hh).1, fun k p hp => ?_⟩
    obtain ⟨x0, x1, x2⟩ := vH_get xs k p hp
    have hk : k < xs.length := (List.getElem?_eq_some_iff.1 hp).1
    rw [Nat.zero_add]
    exact ⟨(h'.cellAt (k * 3) (by omega)).trans x0, (h'.cellAt (k * 3 + 1) (by omega)).trans x1, (h'.cellAt (k * 3 + 2) (by omega)).trans x2⟩
theorem own_lenH {w : World} {base n : Nat} {v : Value} {xs : List Sh} (h : w.ownsRow base 45 3 v n (vH xs)) : w.ownsRow base 45 3 v xs.length (vH xs) := by
  have e := h.1
  rw [vH_length] at e
  obtain rfl : n = xs.length := by omega
  exact h
/-- append of a list of shells onto a row of the call's own. -/
theorem wph_app {w : World} {ops : Array Oper} {rest : List Oper} {o : Oper} {a : Act} {Q : Exit → Act → World → Prop} (hgd : o.guard = none) (s x : Operand)
    (ho : o.op = .call { callee := .builtin .append, args := #[s, x], argTypes := #[23, 23] })
    (base : Nat) (v xv : Value) (xs ys : List Sh) (hs : a.eval s = v) (hown : w.ownsRow base 45 3 v xs.length (vH xs)) (hx : a.eval x = xv) (hr : RwI w xv ys)
    (hlen : xs.length + ys.length ≤ 3000000) (hbase : base ≤ w.heap.size)
    (h : ∀ v' w', w'.ownsRow base 45 3 v' (xs ++ ys).length (vH (xs ++ ys)) → w.grownBy w' v.ownBlock → (v'.ownBlock = v.ownBlock ∨ v'.ownBlock = some w.heap.size) → (v' = .slice none 0 0 → v = .slice none 0 0) → wpList Tryd.prog ops Q rest (a.put o.dst v') w') :
    wpList Tryd.prog ops Q (o :: rest) a w := by
  obtain ⟨i0, ihi, iz0, iz1, iz2⟩ := info_parts infoH
  rcases hr with ⟨rfl, rfl⟩ | ⟨g, of, c, rfl, h1, h2⟩
  · refine wpList_append_own_none hgd s x 23 ho base 45 i0 3 Tryd.underlying23 ihi v xs.length (vH xs) hs hown hx ?_
    exact h v w (by rw [List.append_nil]; exact hown) ⟨rfl, rfl, rfl, Nat.le_refl _, fun _ _ _ => rfl⟩ (.inl rfl) id
  · refine wpList_append_own_at _ hgd s x 23 ho base 45 i0 (.agg #[.int .i64 0, .int .i64 0, .int .i64 0]) 3 24 Tryd.underlying23 ihi iz0 iz1 iz2 rfl (by decide) v xs.length (vH xs) hs hown
      ⟨g, of, none⟩ ys.length c (vH ys) hx (vH_length ys) (fun j u hj => h2.val j u hj) (fun u hu => by obtain ⟨x, rfl⟩ := vH_one ys u hu; rfl) (by unfold maxLen; omega) (by omega) hbase ?_
    intro v' w' k1 k2 k3 k4
    exact h v' w' (by rw [List.length_append, vH_append]; exact k1) k2 k4 (fun e => (k3.1 e).1)
theorem emp_ownH {w : World} {base : Nat} (hb : base ≤ w.heap.size) : (w.alloc (.cells #[] 45)).ownsRow base 45 3 (.slice (some ⟨w.heap.size, 0, none⟩) 0 0) ([] : List Sh).length (vH []) := by
  have := World.ownsRow_made (base := base) (e := 45) (size := 3) w #[] 0 hb (by unfold maxLen; omega) rfl
  have h2 : (w.alloc (.cells #[] 45)).ownsRow base 45 3 (.slice (some ⟨w.heap.size, 0, none⟩) 0 0) 0 [] := by simpa using this
  exact h2
theorem one_rowH (w : World) (x : Sh) : RwI (w.alloc (.cells #[.int .i64 x.1, .int .i64 x.2.1, .int .i64 x.2.2] 45)) (.slice (some ⟨w.heap.size, 0, none⟩) 1 1) [x] := .inr ⟨w.heap.size, 0, 1, rfl, by simp, fun j p hp => by
  match j, hp with
  | 0, hp => simp at hp; subst hp; exact ⟨by simp, by simp, by simp⟩
  | j + 1, hp => simp at hp⟩
theorem row_belowH {W w1 : World} {base n : Nat} {v : Value} {xs : List Value} (h : W.ownsRow base 45 3 v n xs) (hb : Below W.heap.size W w1) : w1.ownsRow base 45 3 v n xs := row_below h hb
end Go.Proofs.YtjopcpoodhamcaaDoor
