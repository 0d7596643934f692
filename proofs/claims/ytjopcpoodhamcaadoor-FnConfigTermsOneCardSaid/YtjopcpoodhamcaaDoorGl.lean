import Derived.Test.YtjopcpoodhamcaaDoorCplP
import Derived.Test.YtjopcpoodhamcaaDoorTlit
/-
  Plain laws: lists of terms that are checked, weighed, joined. Conditions: none.
-/
namespace Go.Proofs.YtjopcpoodhamcaaDoor
set_option linter.unusedSimpArgs false
set_option linter.unusedVariables false

def allV (xs : List Tm) : Bool := xs.all fun p => tvB p.1 p.2
/-- A list that is taken: not too long, every term valid. -/
def lstB (xs : List Tm) : Bool := decide (xs.length ≤ 400) && allV xs
def wgtM (xs : List Tm) : Int := if allV xs = true then wgt xs else -1
/-- All terms to which a term of the first list and one of the second couple. -/
def flatT (a b : List Tm) : List Tm := a.flatMap fun s => b.flatMap fun t => cplP s t
def cplAll (a b : List Tm) : Bool := a.all fun s => b.all fun t => cplB s t
def joinB (a b : List Tm) : Bool := lstB a && lstB b && cplAll a b && decide ((flatT a b).length ≤ 400)
def joinP (a b : List Tm) : List Tm := if joinB a b = true then sortT (flatT a b) else []

theorem allV_iff {xs : List Tm} : allV xs = true ↔ ∀ p ∈ xs, tvB p.1 p.2 = true := by simp [allV]
theorem okT_tv {p : Tm} : okT p ↔ tvB p.1 p.2 = true := by simp [okT, tvB]
theorem allV_ok {xs : List Tm} (h : allV xs = true) : ∀ p ∈ xs, okT p := fun p hp => okT_tv.2 (allV_iff.1 h p hp)
theorem allV_perm {xs ys : List Tm} (h : xs.Perm ys) : allV xs = allV ys := by
  rw [Bool.eq_iff_iff, allV_iff, allV_iff]
  exact ⟨fun k p hp => k p (h.mem_iff.2 hp), fun k p hp => k p (h.mem_iff.1 hp)⟩
theorem allV_append (xs ys : List Tm) : allV (xs ++ ys) = (allV xs && allV ys) := by simp [allV]
theorem lstB_iff {xs : List Tm} : lstB xs = true ↔ xs.length ≤ 400 ∧ allV xs = true := by simp [lstB]
theorem wgt_append (xs ys : List Tm) : wgt (xs ++ ys) = wgt xs + wgt ys := by
  induction xs with
  | nil => simp [wgt]
  | cons p r ih => simp [wgt, ih]; omega
theorem wgt_perm {xs ys : List Tm} (h : xs.Perm ys) : wgt xs = wgt ys := by
  induction h with
  | nil => rfl
  | cons x _ ih => simp [wgt, ih]
  | swap x y l => simp only [wgt]; omega
  | trans _ _ ih1 ih2 => rw [ih1, ih2]
theorem wgt_bd {xs : List Tm} (h : allV xs = true) : 0 ≤ wgt xs ∧ wgt xs ≤ 153 * xs.length := by
  induction xs with
  | nil => simp [wgt]
  | cons p r ih =>
    simp only [allV, List.all_cons, Bool.and_eq_true] at h
    have ih := ih h.2
    have bt := tvB_true h.1
    have h1 : 0 ≤ (p.1 + 1) * (2 * p.2 + 1) := Int.mul_nonneg (by omega) (by omega)
    have h2 : (p.1 + 1) * (2 * p.2 + 1) ≤ 9 * 17 := Int.mul_le_mul (by omega) (by omega) (by omega) (by omega)
    simp only [wgt, List.length_cons]
    omega
theorem wgtM_nonneg (xs : List Tm) : decide (0 ≤ wgtM xs) = allV xs := by
  unfold wgtM
  cases h : allV xs
  · simp
  · simp [(wgt_bd h).1]
theorem cntT_count (p : Tm) (xs : List Tm) : cntT p xs = xs.count p := by
  have e : (fun q : Tm => decide (q.1 = p.1) && decide (q.2 = p.2)) = (fun q => q == p) := by
    funext q
    rw [Bool.eq_iff_iff]
    simp [Prod.ext_iff]
  unfold cntT List.count
  rw [e]
theorem cntT_perm {xs ys : List Tm} (h : xs.Perm ys) (p : Tm) : cntT p xs = cntT p ys := by rw [cntT_count, cntT_count, h.count_eq]
theorem ordB_of {xs : List Tm} (ho : ∀ p ∈ xs, okT p) (h : xs.Pairwise fun a b => key a ≤ key b) : ordB xs = true := by
  induction xs with
  | nil => rfl
  | cons a r ih =>
    cases r with
    | nil => rfl
    | cons b r =>
      have h2 := ih (fun p hp => ho p (List.mem_cons_of_mem _ hp)) (List.pairwise_cons.1 h).2
      have h1 : key a ≤ key b := (List.pairwise_cons.1 h).1 b (List.mem_cons_self ..)
      have oa := ho a (List.mem_cons_self ..)
      have ob := ho b (List.mem_cons_of_mem _ (List.mem_cons_self ..))
      simp only [ordB, h2, Bool.and_true, Bool.not_eq_true', Bool.or_eq_false_iff, Bool.and_eq_false_iff, decide_eq_false_iff_not]
      unfold key okT at *
      omega
theorem sortT_pw (xs : List Tm) : (sortT xs).Pairwise fun a b => key a ≤ key b := by
  have h : (sortT xs).Pairwise fun a b => decide (key a ≤ key b) = true := List.pairwise_mergeSort (fun a b c h1 h2 => by simp at *; omega) (fun a b => by simp; omega) xs
  exact h.imp (fun h => by simpa using h)
theorem sortT_ok {xs : List Tm} (ho : ∀ p ∈ xs, okT p) : ∀ p ∈ sortT xs, okT p := fun p hp => ho p ((sortT_perm xs).mem_iff.1 hp)
theorem sortT_ord {xs : List Tm} (ho : ∀ p ∈ xs, okT p) : ordB (sortT xs) = true := ordB_of (sortT_ok ho) (sortT_pw xs)
/-- Lists with the same elements have the same sorted list. -/
theorem sortT_congr {xs ys : List Tm} (ho : ∀ p ∈ xs, okT p) (h : xs.Perm ys) : sortT xs = sortT ys :=
  sortT_eq ho ((sortT_perm ys).trans h.symm) (sortT_pw ys)
theorem sortT_self {xs : List Tm} (h : xs.Pairwise fun a b => key a ≤ key b) : sortT xs = xs := by
  unfold sortT
  exact List.mergeSort_of_pairwise (h.imp (fun h => by simpa using h))
theorem sortT_idem (xs : List Tm) : sortT (sortT xs) = sortT xs := sortT_self (sortT_pw xs)
theorem sortT_nil : sortT [] = [] := by unfold sortT; simp

theorem cplB_and {s t : Tm} (h : cplB s t = true) : tvB s.1 s.2 = true ∧ tvB t.1 t.2 = true ∧ s.1 + t.1 ≤ 8 ∧ s.2 + t.2 ≤ 8 := by
  simp only [cplB, Bool.and_eq_true, decide_eq_true_eq] at h
  exact ⟨h.1.1.1, h.1.1.2, h.1.2, h.2⟩
theorem lstD_mem3 {U L : Int} {m : Nat} : ∀ {i : Nat} {p : Tm}, p ∈ lstD U L m i → U - 2 * (i : Int) + 2 ≤ p.1 ∧ p.1 ≤ U ∧ L - (m : Int) + 1 ≤ p.2 ∧ p.2 ≤ L
  | 0, p, h => by simp [lstD] at h
  | i + 1, p, h => by
    rcases List.mem_append.1 h with h | h
    · have := lstD_mem3 h; omega
    · have := rowD_mem h; omega
theorem cplP_ok {s t p : Tm} (hp : p ∈ cplP s t) : okT p := by
  unfold cplP at hp
  split at hp
  · rename_i hc
    obtain ⟨h1, h2, h3, h4⟩ := cplB_and hc
    have b1 := tvB_true h1
    have b2 := tvB_true h2
    have := lstD_mem3 hp
    have m1 : 2 * (mnI s.1 t.1 : Int) ≤ s.1 + t.1 := by unfold mnI; split <;> omega
    have m2 : 2 * (mnI s.2 t.2 : Int) ≤ s.2 + t.2 := by unfold mnI; split <;> omega
    unfold okT
    push_cast at this
    omega
  · cases hp
theorem cplP_pw (s t : Tm) : (cplP s t).Pairwise fun a b => key a ≤ key b := by
  unfold cplP
  split
  · rename_i hc
    obtain ⟨h1, h2, h3, h4⟩ := cplB_and hc
    have b1 := tvB_true h1
    have b2 := tvB_true h2
    have m2 : 2 * mnI s.2 t.2 + 1 ≤ 17 := by unfold mnI; split <;> omega
    exact lstD_pw _ _ _ m2 _
  · exact List.Pairwise.nil
theorem cplP_len {s t : Tm} (h : cplB s t = true) : (cplP s t).length = (mnI s.1 t.1 + 1) * (2 * mnI s.2 t.2 + 1) := by
  unfold cplP
  rw [if_pos h]
  exact lstD_len _ _ _ _
theorem cplP_len_le (s t : Tm) : (cplP s t).length ≤ 45 := by
  cases h : cplB s t
  · simp [cplP, h]
  · rw [cplP_len h]
    obtain ⟨h1, h2, h3, h4⟩ := cplB_and h
    have b1 := tvB_true h1
    have b2 := tvB_true h2
    exact Nat.mul_le_mul (show mnI s.1 t.1 + 1 ≤ 5 by unfold mnI; split <;> omega) (show 2 * mnI s.2 t.2 + 1 ≤ 9 by unfold mnI; split <;> omega)
theorem cplP_pos {s t : Tm} (h : cplB s t = true) : 0 < (cplP s t).length := by
  rw [cplP_len h]
  exact Nat.mul_pos (by omega) (by omega)
theorem cplB_comm (s t : Tm) : cplB s t = cplB t s := by
  unfold cplB
  rw [Int.add_comm t.1 s.1, Int.add_comm t.2 s.2, Bool.and_comm (tvB s.1 s.2)]
theorem mnI_comm (a b : Int) : mnI a b = mnI b a := by unfold mnI; split <;> split <;> omega
theorem cplP_comm (s t : Tm) : cplP s t = cplP t s := by
  unfold cplP
  rw [cplB_comm s t, mnI_comm s.1, mnI_comm s.2, Int.add_comm s.1, Int.add_comm s.2]
theorem cplP_none_r {s : Tm} (h : tvB s.1 s.2 = true) : cplB s (0, 0) = true ∧ cplP s (0, 0) = [s] := by
  have b := tvB_true h
  have hc : cplB s (0, 0) = true := by
    simp only [cplB, h, Bool.true_and, Bool.and_eq_true, decide_eq_true_eq]
    refine ⟨⟨by decide, ?_⟩, ?_⟩
    · show s.1 + 0 ≤ 8; omega
    · show s.2 + 0 ≤ 8; omega
  refine ⟨hc, ?_⟩
  unfold cplP
  rw [if_pos hc]
  have e1 : mnI s.1 0 = 0 := by unfold mnI; split <;> omega
  have e2 : mnI s.2 0 = 0 := by unfold mnI; split <;> omega
  show lstD (s.1 + 0) (s.2 + 0) (2 * mnI s.2 0 + 1) (mnI s.1 0 + 1) = [s]
  rw [e1, e2]
  simp [lstD, rowD]
theorem cplP_none_l {s : Tm} (h : tvB s.1 s.2 = true) : cplB (0, 0) s = true ∧ cplP (0, 0) s = [s] := by
  rw [cplB_comm, cplP_comm]
  exact cplP_none_r h

theorem flat_ok {a b : List Tm} : ∀ p ∈ flatT a b, okT p := fun p hp => by
  simp only [flatT, List.mem_flatMap] at hp
  obtain ⟨s, -, t, -, h⟩ := hp
  exact cplP_ok h
theorem flat_allV (a b : List Tm) : allV (flatT a b) = true := allV_iff.2 fun p hp => okT_tv.1 (flat_ok p hp)
/-- What has been gathered behind i rounds of the outer loop and j of the inner. -/
def flatK (a b : List Tm) (i j : Nat) (s : Tm) : List Tm := flatT (a.take i) b ++ (b.take j).flatMap fun t => cplP s t
theorem flatK_zero (a b : List Tm) (i : Nat) (s : Tm) : flatK a b i 0 s = flatT (a.take i) b := by simp [flatK]
theorem flatK_step {a b : List Tm} {i j : Nat} {s t : Tm} (h : b[j]? = some t) : flatK a b i (j + 1) s = flatK a b i j s ++ cplP s t := by
  unfold flatK
  rw [List.take_add_one, h, List.flatMap_append, List.append_assoc]
  simp
theorem flatT_step {a b : List Tm} {i : Nat} {s : Tm} (h : a[i]? = some s) : flatT (a.take (i + 1)) b = flatK a b i b.length s := by
  unfold flatK flatT
  rw [List.take_add_one, h, List.flatMap_append, List.take_length]
  simp
theorem flatT_append (a a' b : List Tm) : flatT (a ++ a') b = flatT a b ++ flatT a' b := by simp [flatT]
theorem flatT_take_le (a b : List Tm) (i : Nat) : (flatT (a.take i) b).length ≤ (flatT a b).length := by
  have h := flatT_append (a.take i) (a.drop i) b
  rw [List.take_append_drop] at h
  rw [h, List.length_append]
  omega
theorem flatK_le {a b : List Tm} {i : Nat} {s : Tm} (h : a[i]? = some s) (j : Nat) : (flatK a b i j s).length ≤ (flatT a b).length := by
  refine Nat.le_trans ?_ (flatT_take_le a b (i + 1))
  rw [flatT_step h]
  unfold flatK
  rw [List.take_length, List.length_append, List.length_append]
  have e : b.flatMap (fun t => cplP s t) = (b.take j).flatMap (fun t => cplP s t) ++ (b.drop j).flatMap (fun t => cplP s t) := by
    rw [← List.flatMap_append, List.take_append_drop]
  rw [e, List.length_append]
  omega
theorem joinB_iff {a b : List Tm} : joinB a b = true ↔ lstB a = true ∧ lstB b = true ∧ cplAll a b = true ∧ (flatT a b).length ≤ 400 := by
  simp only [joinB, Bool.and_eq_true, decide_eq_true_eq]
  exact ⟨fun h => ⟨h.1.1.1, h.1.1.2, h.1.2, h.2⟩, fun h => ⟨⟨⟨h.1, h.2.1⟩, h.2.2.1⟩, h.2.2.2⟩⟩
theorem cplAll_iff {a b : List Tm} : cplAll a b = true ↔ ∀ s ∈ a, ∀ t ∈ b, cplB s t = true := by simp [cplAll]
theorem joinB_pair {a b : List Tm} {i j : Nat} {s t : Tm} (hs : a[i]? = some s) (ht : b[j]? = some t) (h : cplB s t = false) : joinB a b = false := by
  cases e : joinB a b
  · rfl
  · have := cplAll_iff.1 (joinB_iff.1 e).2.2.1 s (List.mem_of_getElem? hs) t (List.mem_of_getElem? ht)
    rw [h] at this
    cases this
theorem joinB_long {a b : List Tm} {i j : Nat} {s t : Tm} (hs : a[i]? = some s) (ht : b[j]? = some t) (h : 400 < (flatK a b i j s).length + (cplP s t).length) : joinB a b = false := by
  cases e : joinB a b
  · rfl
  · have h1 := (joinB_iff.1 e).2.2.2
    have h2 := flatK_le hs (b := b) (j + 1)
    rw [flatK_step ht, List.length_append] at h2
    omega
theorem joinB_end {a b : List Tm} (ha : lstB a = true) (hb : lstB b = true) (hc : cplAll a b = true) (hl : (flatT a b).length ≤ 400) : joinB a b = true := joinB_iff.2 ⟨ha, hb, hc, hl⟩
/-- All pairs ahead of the i-th term of the first list are ok. -/
theorem cplAll_step {a b : List Tm} {i : Nat} {s : Tm} (h : a[i]? = some s) (h1 : cplAll (a.take i) b = true) (h2 : ∀ t ∈ b, cplB s t = true) : cplAll (a.take (i + 1)) b = true := by
  refine cplAll_iff.2 fun x hx t ht => ?_
  rw [List.take_add_one, h] at hx
  rcases List.mem_append.1 hx with hx | hx
  · exact cplAll_iff.1 h1 x hx t ht
  · simp at hx
    subst hx
    exact h2 t ht
theorem okj_step {b : List Tm} {j : Nat} {s t : Tm} (h : b[j]? = some t) (h1 : ∀ u ∈ b.take j, cplB s u = true) (h2 : cplB s t = true) : ∀ u ∈ b.take (j + 1), cplB s u = true := fun u hu => by
  rw [List.take_add_one, h] at hu
  rcases List.mem_append.1 hu with hu | hu
  · exact h1 u hu
  · simp at hu
    subst hu
    exact h2
end Go.Proofs.YtjopcpoodhamcaaDoor

/-
  Plain laws: what the laws ask of coupled and of joined lists. Conditions: none.
-/
namespace Go.Proofs.YtjopcpoodhamcaaDoor
set_option linter.unusedSimpArgs false
set_option linter.unusedVariables false

/-- All pairs of a number of the first list and one of the second. -/
def prodL (A B : List Int) : List Tm := A.flatMap fun u => B.map fun k => (u, k)
def spL (x y : Int) : List Int := (List.range (mnI x y + 1)).map fun i : Nat => x + y - 2 * (i : Int)
def orL (x y : Int) : List Int := (List.range (2 * mnI x y + 1)).map fun j : Nat => x + y - (j : Int)
theorem rowD_map (u L : Int) : ∀ j, rowD u L j = ((List.range j).map fun i : Nat => L - (i : Int)).map fun k => (u, k)
  | 0 => rfl
  | j + 1 => by simp [rowD, rowD_map u L j, List.range_succ]
theorem lstD_prod (U L : Int) (m : Nat) : ∀ n, lstD U L m n = prodL ((List.range n).map fun i : Nat => U - 2 * (i : Int)) ((List.range m).map fun j : Nat => L - (j : Int))
  | 0 => rfl
  | n + 1 => by
    show lstD U L m n ++ rowD (U - 2 * (n : Int)) L m = _
    rw [lstD_prod U L m n, rowD_map]
    simp [prodL, List.range_succ]
theorem cplP_prod {s t : Tm} (h : cplB s t = true) : cplP s t = prodL (spL s.1 t.1) (orL s.2 t.2) := by
  unfold cplP
  rw [if_pos h, lstD_prod]
  rfl
theorem count_row (u x : Int) (k : Int) : ∀ B : List Int, (B.map fun y => (x, y)).count (u, k) = (if x = u then 1 else 0) * B.count k
  | [] => by simp
  | b :: r => by
    have ih := count_row u x k r
    simp only [List.map_cons, List.count_cons, ih]
    by_cases h1 : x = u <;> by_cases h2 : b = k <;> simp [h1, h2]
theorem count_prod (u k : Int) (B : List Int) : ∀ A : List Int, (prodL A B).count (u, k) = A.count u * B.count k
  | [] => by simp [prodL]
  | a :: r => by
    have ih := count_prod u k B r
    have e : prodL (a :: r) B = (B.map fun y => (a, y)) ++ prodL r B := by simp [prodL]
    rw [e, List.count_append, count_row, ih, List.count_cons]
    by_cases h1 : a = u
    · simp [h1, Nat.add_mul]; omega
    · simp [h1]
theorem count_over (u k : Int) (x : Int) (F G : Int → List Int) : ∀ B : List Int, ((B.map fun y => (x, y)).flatMap fun v : Tm => prodL (F v.1) (G v.2)).count (u, k) = (F x).count u * (B.flatMap G).count k
  | [] => by simp
  | b :: r => by
    have ih := count_over u k x F G r
    simp only [List.map_cons, List.flatMap_cons, List.count_append, ih, count_prod, Nat.mul_add]
theorem count_both (u k : Int) (F G : Int → List Int) (B : List Int) : ∀ A : List Int, ((prodL A B).flatMap fun v : Tm => prodL (F v.1) (G v.2)).count (u, k) = (A.flatMap F).count u * (B.flatMap G).count k
  | [] => by simp [prodL]
  | a :: r => by
    have ih := count_both u k F G B r
    have e : prodL (a :: r) B = (B.map fun y => (a, y)) ++ prodL r B := by simp [prodL]
    rw [e, List.flatMap_append, List.count_append, count_over, ih, List.flatMap_cons, List.count_append, Nat.add_mul]
theorem flatMap_eqOn {α β : Type} {f g : α → List β} : ∀ {xs : List α}, (∀ x ∈ xs, f x = g x) → xs.flatMap f = xs.flatMap g
  | [], _ => rfl
  | x :: r, h => by
    rw [List.flatMap_cons, List.flatMap_cons, h x (List.mem_cons_self ..), flatMap_eqOn (fun y hy => h y (List.mem_cons_of_mem _ hy))]
theorem flatMap_permOn {α β : Type} {f g : α → List β} : ∀ {xs : List α}, (∀ x ∈ xs, (f x).Perm (g x)) → (xs.flatMap f).Perm (xs.flatMap g)
  | [], _ => List.Perm.refl _
  | x :: r, h => by
    rw [List.flatMap_cons, List.flatMap_cons]
    exact (h x (List.mem_cons_self ..)).append (flatMap_permOn (fun y hy => h y (List.mem_cons_of_mem _ hy)))
theorem flatMap_two {α β : Type} (f g : α → List β) : ∀ xs : List α, (xs.flatMap fun x => f x ++ g x).Perm (xs.flatMap f ++ xs.flatMap g)
  | [] => List.Perm.refl _
  | x :: r => by
    simp only [List.flatMap_cons]
    have ih := flatMap_two f g r
    refine ((List.Perm.refl (f x ++ g x)).append ih).trans ?_
    rw [List.append_assoc, List.append_assoc]
    refine (List.Perm.refl (f x)).append ?_
    rw [← List.append_assoc, ← List.append_assoc]
    exact (List.perm_append_comm).append (List.Perm.refl _)
theorem assoc_fin : ((List.range 9).all fun x => (List.range 9).all fun y =>
    ((spL x y).flatMap fun v => spL v 1).isPerm ((spL y 1).flatMap fun v => spL x v) && ((orL x y).flatMap fun v => orL v 1).isPerm ((orL y 1).flatMap fun v => orL x v)) = true := by decide +kernel
theorem assoc_one {x y : Int} (x0 : 0 ≤ x) (x8 : x ≤ 8) (y0 : 0 ≤ y) (y8 : y ≤ 8) : ((spL x y).flatMap fun v => spL v 1).Perm ((spL y 1).flatMap fun v => spL x v) ∧ ((orL x y).flatMap fun v => orL v 1).Perm ((orL y 1).flatMap fun v => orL x v) := by
  obtain ⟨x, rfl⟩ := Int.eq_ofNat_of_zero_le x0
  obtain ⟨y, rfl⟩ := Int.eq_ofNat_of_zero_le y0
  have := List.all_eq_true.1 (List.all_eq_true.1 assoc_fin x (List.mem_range.2 (by omega))) y (List.mem_range.2 (by omega))
  simp only [Bool.and_eq_true, List.isPerm_iff] at this
  exact this
theorem assoc_pair {s t : Tm} (h1 : cplB s t = true) (h2 : cplB t (1, 1) = true) (h3 : ∀ v ∈ cplP s t, cplB v (1, 1) = true) (h4 : ∀ u ∈ cplP t (1, 1), cplB s u = true) :
    ((cplP s t).flatMap fun v => cplP v (1, 1)).Perm ((cplP t (1, 1)).flatMap fun u => cplP s u) := by
  obtain ⟨v1, v2, -, -⟩ := cplB_and h1
  have b1 := tvB_true v1
  have b2 := tvB_true v2
  have e1 : ((cplP s t).flatMap fun v => cplP v (1, 1)) = (prodL (spL s.1 t.1) (orL s.2 t.2)).flatMap fun v : Tm => prodL (spL v.1 1) (orL v.2 1) := by
    rw [← cplP_prod h1]
    exact flatMap_eqOn fun v hv => cplP_prod (h3 v hv)
  have e2 : ((cplP t (1, 1)).flatMap fun u => cplP s u) = (prodL (spL t.1 1) (orL t.2 1)).flatMap fun u : Tm => prodL (spL s.1 u.1) (orL s.2 u.2) := by
    have := cplP_prod h2
    rw [← show cplP t (1, 1) = prodL (spL t.1 1) (orL t.2 1) from this]
    exact flatMap_eqOn fun u hu => cplP_prod (h4 u hu)
  rw [e1, e2, List.perm_iff_count]
  rintro ⟨u, k⟩
  rw [count_both u k (fun v => spL v 1) (fun v => orL v 1), count_both u k (fun v => spL s.1 v) (fun v => orL s.2 v)]
  have p1 := (assoc_one b1.1 b1.2.1 b2.1 b2.2.1).1
  have p2 := (assoc_one b1.2.2.1 b1.2.2.2 b2.2.2.1 b2.2.2.2).2
  rw [p1.count_eq, p2.count_eq]
theorem flat_one (a : List Tm) (c : Tm) : flatT a [c] = a.flatMap fun s => cplP s c := by
  unfold flatT
  exact flatMap_eqOn fun s _ => by simp
theorem flat_perm_l {a a' : List Tm} (b : List Tm) (h : a.Perm a') : (flatT a b).Perm (flatT a' b) := h.flatMap_right _
theorem flat_perm_r (a : List Tm) {b b' : List Tm} (h : b.Perm b') : (flatT a b).Perm (flatT a b') := flatMap_permOn fun s _ => h.flatMap_right _
theorem cplAll_perm_l {a a' : List Tm} (b : List Tm) (h : a.Perm a') : cplAll a b = cplAll a' b := by
  rw [Bool.eq_iff_iff, cplAll_iff, cplAll_iff]
  exact ⟨fun k s hs => k s (h.mem_iff.2 hs), fun k s hs => k s (h.mem_iff.1 hs)⟩
theorem cplAll_perm_r (a : List Tm) {b b' : List Tm} (h : b.Perm b') : cplAll a b = cplAll a b' := by
  rw [Bool.eq_iff_iff, cplAll_iff, cplAll_iff]
  exact ⟨fun k s hs t ht => k s hs t (h.mem_iff.2 ht), fun k s hs t ht => k s hs t (h.mem_iff.1 ht)⟩
/-- Coupling three in any order. -/
theorem flat_assoc {a b : List Tm} (h1 : cplAll a b = true) (h2 : cplAll b [(1, 1)] = true) (h3 : cplAll (flatT a b) [(1, 1)] = true) (h4 : cplAll a (flatT b [(1, 1)]) = true) :
    (flatT (flatT a b) [(1, 1)]).Perm (flatT a (flatT b [(1, 1)])) := by
  rw [flat_one, flat_one]
  rw [flat_one] at h4
  unfold flatT at h3 ⊢
  rw [List.flatMap_assoc]
  refine flatMap_permOn fun s hs => ?_
  rw [List.flatMap_assoc, List.flatMap_assoc]
  refine flatMap_permOn fun t ht => ?_
  refine assoc_pair (cplAll_iff.1 h1 s hs t ht) (cplAll_iff.1 h2 t ht _ (by simp)) (fun v hv => cplAll_iff.1 h3 v ?_ _ (by simp)) (fun u hu => cplAll_iff.1 h4 s hs u ?_)
  · exact List.mem_flatMap.2 ⟨s, hs, List.mem_flatMap.2 ⟨t, ht, hv⟩⟩
  · exact List.mem_flatMap.2 ⟨t, ht, hu⟩
theorem flat_comm (b : List Tm) : ∀ a : List Tm, (flatT b a).Perm (flatT a b)
  | [] => by
    have : flatT b [] = [] := by unfold flatT; induction b with
      | nil => rfl
      | cons x r ih => simp
    rw [this]
    exact List.Perm.refl _
  | s :: a => by
    have ih := flat_comm b a
    have e : flatT b (s :: a) = b.flatMap fun t => cplP s t ++ a.flatMap fun u => cplP t u := by
      unfold flatT
      exact flatMap_eqOn fun t _ => by rw [List.flatMap_cons, cplP_comm t s]
    rw [e]
    refine (flatMap_two _ _ b).trans ?_
    have e2 : flatT (s :: a) b = (b.flatMap fun t => cplP s t) ++ flatT a b := by simp [flatT]
    rw [e2]
    exact (List.Perm.refl _).append ih
theorem cplAll_comm (a b : List Tm) : cplAll a b = cplAll b a := by
  rw [Bool.eq_iff_iff, cplAll_iff, cplAll_iff]
  exact ⟨fun h s hs t ht => by rw [cplB_comm]; exact h t ht s hs, fun h s hs t ht => by rw [cplB_comm]; exact h t ht s hs⟩
theorem joinB_comm (a b : List Tm) : joinB a b = joinB b a := by
  unfold joinB
  rw [cplAll_comm a b, (flat_comm b a).length_eq, Bool.and_comm (lstB a)]
theorem joinP_comm (a b : List Tm) : joinP a b = joinP b a := by
  unfold joinP
  rw [joinB_comm a b]
  split
  · exact sortT_congr flat_ok (flat_comm a b)
  · rfl
theorem flat_none {a : List Tm} (h : allV a = true) : flatT a [(0, 0)] = a ∧ cplAll a [(0, 0)] = true := by
  have hv := allV_iff.1 h
  refine ⟨?_, cplAll_iff.2 fun s hs t ht => ?_⟩
  · rw [flat_one]
    have : a.flatMap (fun s => cplP s (0, 0)) = a.flatMap fun s => [s] := flatMap_eqOn fun s hs => (cplP_none_r (hv s hs)).2
    rw [this]
    induction a with
    | nil => rfl
    | cons x r ih => simp
  · simp at ht
    subst ht
    exact (cplP_none_r (hv s hs)).1
theorem join_none {a : List Tm} (h : lstB a = true) : joinB a [(0, 0)] = true ∧ joinP a [(0, 0)] = sortT a := by
  obtain ⟨h1, h2⟩ := lstB_iff.1 h
  obtain ⟨e1, e2⟩ := flat_none h2
  have hj : joinB a [(0, 0)] = true := joinB_iff.2 ⟨h, by decide, e2, by rw [e1]; exact h1⟩
  exact ⟨hj, by unfold joinP; rw [if_pos hj, e1]⟩
theorem join_none_l {a : List Tm} (h : lstB a = true) : joinB [(0, 0)] a = true ∧ joinP [(0, 0)] a = sortT a := by
  rw [joinB_comm, joinP_comm]
  exact join_none h
def wgtQ (a b c d : Int) : Bool := decide (wgt (lstD (a + c) (b + d) (2 * mnI b d + 1) (mnI a c + 1)) = ((a + 1) * (2 * b + 1)) * ((c + 1) * (2 * d + 1)))
theorem wgt_fin : ((List.range 9).all fun a => (List.range 9).all fun b => (List.range 9).all fun c => (List.range 9).all fun d => !(decide ((a : Int) + (c : Int) ≤ 8) && decide ((b : Int) + (d : Int) ≤ 8)) || wgtQ a b c d) = true := by decide +kernel
theorem fin_nat (q : Int → Int → Int → Int → Bool) (h : ((List.range 9).all fun a => (List.range 9).all fun b => (List.range 9).all fun c => (List.range 9).all fun d => !(decide ((a : Int) + (c : Int) ≤ 8) && decide ((b : Int) + (d : Int) ≤ 8)) || q a b c d) = true) {s t : Tm} (hc : cplB s t = true) : q s.1 s.2 t.1 t.2 = true := by
  obtain ⟨h1, h2, h3, h4⟩ := cplB_and hc
  have b1 := tvB_true h1
  have b2 := tvB_true h2
  obtain ⟨s1, s2⟩ := s
  obtain ⟨t1, t2⟩ := t
  simp only at *
  obtain ⟨a, rfl⟩ := Int.eq_ofNat_of_zero_le b1.1
  obtain ⟨b, rfl⟩ := Int.eq_ofNat_of_zero_le b1.2.2.1
  obtain ⟨c, rfl⟩ := Int.eq_ofNat_of_zero_le b2.1
  obtain ⟨d, rfl⟩ := Int.eq_ofNat_of_zero_le b2.2.2.1
  have k := List.all_eq_true.1 (List.all_eq_true.1 (List.all_eq_true.1 (List.all_eq_true.1 h a (List.mem_range.2 (by omega))) b (List.mem_range.2 (by omega))) c (List.mem_range.2 (by omega))) d (List.mem_range.2 (by omega))
  rw [Bool.or_eq_true] at k
  rcases k with k | k
  · exfalso
    simp only [Bool.not_eq_true', Bool.and_eq_false_iff, decide_eq_false_iff_not] at k
    omega
  · exact k
theorem wgt_cpl {s t : Tm} (h : cplB s t = true) : wgt (cplP s t) = ((s.1 + 1) * (2 * s.2 + 1)) * ((t.1 + 1) * (2 * t.2 + 1)) := by
  have := fin_nat wgtQ wgt_fin h
  unfold cplP
  rw [if_pos h]
  exact of_decide_eq_true this
theorem wgt_row {s : Tm} : ∀ {b : List Tm}, (∀ t ∈ b, cplB s t = true) → wgt (b.flatMap fun t => cplP s t) = ((s.1 + 1) * (2 * s.2 + 1)) * wgt b
  | [], _ => by simp [wgt]
  | t :: r, h => by
    rw [List.flatMap_cons, wgt_append, wgt_cpl (h t (List.mem_cons_self ..)), wgt_row (fun u hu => h u (List.mem_cons_of_mem _ hu))]
    simp only [wgt, Int.mul_add]
theorem wgt_flat {b : List Tm} : ∀ {a : List Tm}, cplAll a b = true → wgt (flatT a b) = wgt a * wgt b
  | [], _ => by simp [wgt, flatT]
  | s :: a, h => by
    have h' := cplAll_iff.1 h
    have e : flatT (s :: a) b = (b.flatMap fun t => cplP s t) ++ flatT a b := by simp [flatT]
    rw [e, wgt_append, wgt_row (h' s (List.mem_cons_self ..)), wgt_flat (cplAll_iff.2 fun x hx => h' x (List.mem_cons_of_mem _ hx))]
    simp only [wgt, Int.add_mul]
theorem each_fin : ((List.range 9).all fun x => (List.range 9).all fun y => (List.range 9).all fun u =>
    decide ((spL x y).count (u : Int) = if triB x y u = true then 1 else 0) && decide ((orL x y).count (u : Int) = if triB (2 * (x : Int)) (2 * (y : Int)) (2 * (u : Int)) = true then 1 else 0)) = true := by decide +kernel
theorem each_one {x y u : Int} (x0 : 0 ≤ x) (x8 : x ≤ 8) (y0 : 0 ≤ y) (y8 : y ≤ 8) (u0 : 0 ≤ u) (u8 : u ≤ 8) :
    (spL x y).count u = (if triB x y u = true then 1 else 0) ∧ (orL x y).count u = if triB (2 * x) (2 * y) (2 * u) = true then 1 else 0 := by
  obtain ⟨x, rfl⟩ := Int.eq_ofNat_of_zero_le x0
  obtain ⟨y, rfl⟩ := Int.eq_ofNat_of_zero_le y0
  obtain ⟨u, rfl⟩ := Int.eq_ofNat_of_zero_le u0
  have := List.all_eq_true.1 (List.all_eq_true.1 (List.all_eq_true.1 each_fin x (List.mem_range.2 (by omega))) y (List.mem_range.2 (by omega))) u (List.mem_range.2 (by omega))
  simp only [Bool.and_eq_true, decide_eq_true_eq] at this
  exact this
/-- Each coupling is there once. -/
theorem cpl_each {s t : Tm} (h : cplB s t = true) {u k : Int} (u0 : 0 ≤ u) (u8 : u ≤ 8) (k0 : 0 ≤ k) (k8 : k ≤ 8) :
    cntT (u, k) (cplP s t) = if (triB s.1 t.1 u && triB (2 * s.2) (2 * t.2) (2 * k)) = true then 1 else 0 := by
  obtain ⟨v1, v2, -, -⟩ := cplB_and h
  have b1 := tvB_true v1
  have b2 := tvB_true v2
  rw [cntT_count, cplP_prod h, count_prod, (each_one b1.1 b1.2.1 b2.1 b2.2.1 u0 u8).1, (each_one b1.2.2.1 b1.2.2.2 b2.2.2.1 b2.2.2.2 k0 k8).2]
  cases triB s.1 t.1 u <;> cases triB (2 * s.2) (2 * t.2) (2 * k) <;> rfl
theorem cpl_ord (s t : Tm) : ordB (cplP s t) = true := ordB_of (fun p hp => cplP_ok hp) (cplP_pw s t)
theorem cpl_allV (s t : Tm) : allV (cplP s t) = true := allV_iff.2 fun p hp => okT_tv.1 (cplP_ok hp)
theorem joinP_yes {a b : List Tm} (h : joinB a b = true) : joinP a b = sortT (flatT a b) := by unfold joinP; rw [if_pos h]
theorem joinP_ok (a b : List Tm) : ∀ p ∈ joinP a b, okT p := by
  unfold joinP
  split
  · exact sortT_ok flat_ok
  · intro p hp; cases hp
theorem joinP_allV (a b : List Tm) : allV (joinP a b) = true := allV_iff.2 fun p hp => okT_tv.1 (joinP_ok a b p hp)
theorem joinP_len (a b : List Tm) : (joinP a b).length ≤ 400 := by
  unfold joinP
  split
  · rename_i h; rw [sortT_len]; exact (joinB_iff.1 h).2.2.2
  · exact Nat.zero_le _
theorem joinP_lst (a b : List Tm) : lstB (joinP a b) = true := lstB_iff.2 ⟨joinP_len a b, joinP_allV a b⟩
theorem joinP_ord (a b : List Tm) : ordB (joinP a b) = true := by
  unfold joinP
  split
  · exact sortT_ord flat_ok
  · rfl
theorem joinP_wgt {a b : List Tm} (h : joinB a b = true) : wgt (joinP a b) = wgt a * wgt b := by
  rw [joinP_yes h, wgt_perm (sortT_perm _), wgt_flat (joinB_iff.1 h).2.2.1]
/-- Coupling three in any order leads to the same. -/
theorem join_three {a b : List Tm} (h1 : joinB a b = true) (h2 : joinB (joinP a b) [(1, 1)] = true) (h3 : joinB b [(1, 1)] = true) (h4 : joinB a (joinP b [(1, 1)]) = true) :
    joinP (joinP a b) [(1, 1)] = joinP a (joinP b [(1, 1)]) := by
  rw [joinP_yes h2, joinP_yes h4]
  have c1 := (joinB_iff.1 h1).2.2.1
  have c2 := (joinB_iff.1 h2).2.2.1
  have c3 := (joinB_iff.1 h3).2.2.1
  have c4 := (joinB_iff.1 h4).2.2.1
  rw [joinP_yes h1] at c2 ⊢
  rw [joinP_yes h3] at c4 ⊢
  refine sortT_congr flat_ok ?_
  rw [cplAll_perm_l _ (sortT_perm _)] at c2
  rw [cplAll_perm_r _ (sortT_perm _)] at c4
  exact (flat_perm_l _ (sortT_perm _)).trans ((flat_assoc c1 c3 c2 c4).trans (flat_perm_r _ (sortT_perm _)).symm)
/-- Lists are joined part by part. -/
theorem join_parts {a b : List Tm} (h : joinB a b = true) (k : Nat) : joinB (a.take k) b = true ∧ joinB (a.drop k) b = true ∧ lstB (joinP (a.take k) b ++ joinP (a.drop k) b) = true ∧
    sortT (joinP (a.take k) b ++ joinP (a.drop k) b) = joinP a b := by
  obtain ⟨l1, l2, c, hl⟩ := joinB_iff.1 h
  obtain ⟨n1, v1⟩ := lstB_iff.1 l1
  have e : flatT a b = flatT (a.take k) b ++ flatT (a.drop k) b := by rw [← flatT_append, List.take_append_drop]
  have hle := hl
  rw [e, List.length_append] at hle
  have p1 : joinB (a.take k) b = true := joinB_iff.2 ⟨lstB_iff.2 ⟨by simp; omega, allV_iff.2 fun p hp => allV_iff.1 v1 p (List.mem_of_mem_take hp)⟩, l2, cplAll_iff.2 fun s hs => cplAll_iff.1 c s (List.mem_of_mem_take hs), by omega⟩
  have p2 : joinB (a.drop k) b = true := joinB_iff.2 ⟨lstB_iff.2 ⟨by simp; omega, allV_iff.2 fun p hp => allV_iff.1 v1 p (List.mem_of_mem_drop hp)⟩, l2, cplAll_iff.2 fun s hs => cplAll_iff.1 c s (List.mem_of_mem_drop hs), by omega⟩
  refine ⟨p1, p2, lstB_iff.2 ⟨?_, ?_⟩, ?_⟩
  · rw [joinP_yes p1, joinP_yes p2, List.length_append, sortT_len, sortT_len]; omega
  · rw [allV_append, joinP_allV, joinP_allV]; rfl
  · rw [joinP_yes p1, joinP_yes p2, joinP_yes h, e]
    refine sortT_congr (fun p hp => ?_) ((sortT_perm _).append (sortT_perm _))
    rcases List.mem_append.1 hp with hp | hp
    · exact sortT_ok flat_ok p hp
    · exact sortT_ok flat_ok p hp
theorem rot_perm (xs : List Tm) (k : Nat) : (xs.drop k ++ xs.take k).Perm xs := by
  have h : (xs.drop k ++ xs.take k).Perm (xs.take k ++ xs.drop k) := List.perm_append_comm
  rwa [List.take_append_drop] at h
theorem rot_lst {xs : List Tm} (h : lstB xs = true) (k : Nat) : lstB (xs.drop k ++ xs.take k) = true := by
  obtain ⟨h1, h2⟩ := lstB_iff.1 h
  exact lstB_iff.2 ⟨by rw [(rot_perm xs k).length_eq]; exact h1, by rw [allV_perm (rot_perm xs k)]; exact h2⟩
theorem rot_sort {xs : List Tm} (h : lstB xs = true) (k : Nat) : sortT (xs.drop k ++ xs.take k) = sortT xs :=
  sortT_congr (fun p hp => allV_ok (lstB_iff.1 (rot_lst h k)).2 p hp) (rot_perm xs k)
theorem sort_lst {xs : List Tm} (h : lstB xs = true) : lstB (sortT xs) = true := by
  obtain ⟨h1, h2⟩ := lstB_iff.1 h
  exact lstB_iff.2 ⟨by rw [sortT_len]; exact h1, by rw [allV_perm (sortT_perm xs)]; exact h2⟩
end Go.Proofs.YtjopcpoodhamcaaDoor
