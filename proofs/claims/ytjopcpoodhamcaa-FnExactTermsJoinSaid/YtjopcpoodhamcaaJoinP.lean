/-
  Plain laws: lists of terms that are checked, weighed, joined. Conditions: none.
-/
import Derived.Test.YtjopcpoodhamcaaCplP
namespace Go.Proofs.Ytjopcpoodhamcaa
set_option linter.unusedSimpArgs false
set_option linter.unusedVariables false

def ordB : List (Int × Int) → Bool
  | a :: b :: r => !(decide (a.1 < b.1) || (decide (a.1 = b.1) && decide (a.2 < b.2))) && ordB (b :: r)
  | _ => true
def wgt : List (Int × Int) → Int
  | [] => 0
  | p :: r => (p.1 + 1) * (2 * p.2 + 1) + wgt r
def cntT (p : Int × Int) (T : List (Int × Int)) : Nat := T.countP fun q => decide (q.1 = p.1) && decide (q.2 = p.2)
def allV (xs : List Tm) : Bool := xs.all fun p => tvB p.1 p.2
/-- A list that is taken: not too long, every term valid. -/
def lstB (xs : List Tm) : Bool := decide (xs.length ≤ 400) && allV xs
def wgtM (xs : List Tm) : Int := if allV xs = true then wgt xs else -1
/-- All terms to which a term of the first list and one of the second couple. -/
def flatT (a b : List Tm) : List Tm := a.flatMap fun s => b.flatMap fun t => cplP s t
def cplAll (a b : List Tm) : Bool := a.all fun s => b.all fun t => cplB s t
def joinB (a b : List Tm) : Bool := lstB a && lstB b && cplAll a b && decide ((flatT a b).length ≤ 400)
def joinP (a b : List Tm) : List Tm := if joinB a b = true then sortT (flatT a b) else []

theorem allV_iff {xs : List Tm} : allV xs = true ↔ ∀ p ∈ xs, tvB p.1 p.2 = true := by simp [allV]
theorem okT_tv {p : Tm} : okT p ↔ tvB p.1 p.2 = true := by simp [okT, tvB]
theorem allV_ok {xs : List Tm} (h : allV xs = true) : ∀ p ∈ xs, okT p := fun p hp => okT_tv.2 (allV_iff.1 h p hp)
theorem allV_perm {xs ys : List Tm} (h : xs.Perm ys) : allV xs = allV ys := by
  rw [Bool.eq_iff_iff, allV_iff, allV_iff]
  exact ⟨fun k p hp => k p (h.mem_iff.2 hp), fun k p hp => k p (h.mem_iff.1 hp)⟩
theorem allV_append (xs ys : List Tm) : allV (xs ++ ys) = (allV xs && allV ys) := by simp [allV]
theorem lstB_iff {xs : List Tm} : lstB xs = true ↔ xs.length ≤ 400 ∧ allV xs = true := by simp [lstB]
theorem wgt_append (xs ys : List Tm) : wgt (xs ++ ys) = wgt xs + wgt ys := by
  induction xs with
  | nil => simp [wgt]
  | cons p r ih => simp [wgt, ih]; omega
theorem wgt_perm {xs ys : List Tm} (h : xs.Perm ys) : wgt xs = wgt ys := by
  induction h with
  | nil => rfl
  | cons x _ ih => simp [wgt, ih]
  | swap x y l => simp only [wgt]; omega
  | trans _ _ ih1 ih2 => rw [ih1, ih2]
theorem wgt_bd {xs : List Tm} (h : allV xs = true) : 0 ≤ wgt xs ∧ wgt xs ≤ 153 * xs.length := by
  induction xs with
  | nil => simp [wgt]
  | cons p r ih =>
    simp only [allV, List.all_cons, Bool.and_eq_true] at h
    have ih := ih h.2
    have bt := tvB_true h.1
    have h1 : 0 ≤ (p.1 + 1) * (2 * p.2 + 1) := Int.mul_nonneg (by omega) (by omega)
    have h2 : (p.1 + 1) * (2 * p.2 + 1) ≤ 9 * 17 := Int.mul_le_mul (by omega) (by omega) (by omega) (by omega)
    simp only [wgt, List.length_cons]
    omega
theorem wgtM_nonneg (xs : List Tm) : decide (0 ≤ wgtM xs) = allV xs := by
  unfold wgtM
  cases h : allV xs
  · simp
  · simp [(wgt_bd h).1]
theorem cntT_count (p : Tm) (xs : List Tm) : cntT p xs = xs.count p := by
  have e : (fun q : Tm => decide (q.1 = p.1) && decide (q.2 = p.2)) = (fun q => q == p) := by
    funext q
    rw [Bool.eq_iff_iff]
    simp [Prod.ext_iff]
  unfold cntT List.count
  rw [e]
theorem cntT_perm {xs ys : List Tm} (h : xs.Perm ys) (p : Tm) : cntT p xs = cntT p ys := by rw [cntT_count, cntT_count, h.count_eq]
theorem ordB_of {xs : List Tm} (ho : ∀ p ∈ xs, okT p) (h : xs.Pairwise fun a b => key a ≤ key b) : ordB xs = true := by
  induction xs with
  | nil => rfl
  | cons a r ih =>
    cases r with
    | nil => rfl
    | cons b r =>
      have h2 := ih (fun p hp => ho p (List.mem_cons_of_mem _ hp)) (List.pairwise_cons.1 h).2
      have h1 : key a ≤ key b := (List.pairwise_cons.1 h).1 b (List.mem_cons_self ..)
      have oa := ho a (List.mem_cons_self ..)
      have ob := ho b (List.mem_cons_of_mem _ (List.mem_cons_self ..))
      simp only [ordB, h2, Bool.and_true, Bool.not_eq_true', Bool.or_eq_false_iff, Bool.and_eq_false_iff, decide_eq_false_iff_not]
      unfold key okT at *
      omega
theorem sortT_pw (xs : List Tm) : (sortT xs).Pairwise fun a b => key a ≤ key b := by
  have h : (sortT xs).Pairwise fun a b => decide (key a ≤ key b) = true := List.pairwise_mergeSort (fun a b c h1 h2 => by simp at *; omega) (fun a b => by simp; omega) xs
  exact h.imp (fun h => by simpa using h)
theorem sortT_ok {xs : List Tm} (ho : ∀ p ∈ xs, okT p) : ∀ p ∈ sortT xs, okT p := fun p hp => ho p ((sortT_perm xs).mem_iff.1 hp)
theorem sortT_ord {xs : List Tm} (ho : ∀ p ∈ xs, okT p) : ordB (sortT xs) = true := ordB_of (sortT_ok ho) (sortT_pw xs)
/-- Lists with the same elements have the same sorted list. -/
theorem sortT_congr {xs ys : List Tm} (ho : ∀ p ∈ xs, okT p) (h : xs.Perm ys) : sortT xs = sortT ys :=
  sortT_eq ho ((sortT_perm ys).trans h.symm) (sortT_pw ys)
theorem sortT_self {xs : List Tm} (h : xs.Pairwise fun a b => key a ≤ key b) : sortT xs = xs := by
  unfold sortT
  exact List.mergeSort_of_pairwise (h.imp (fun h => by simpa using h))
theorem sortT_idem (xs : List Tm) : sortT (sortT xs) = sortT xs := sortT_self (sortT_pw xs)
theorem sortT_nil : sortT [] = [] := by unfold sortT; simp

theorem cplB_and {s t : Tm} (h : cplB s t = true) : tvB s.1 s.2 = true ∧ tvB t.1 t.2 = true ∧ s.1 + t.1 ≤ 8 ∧ s.2 + t.2 ≤ 8 := by
  simp only [cplB, Bool.and_eq_true, decide_eq_true_eq] at h
  exact ⟨h.1.1.1, h.1.1.2, h.1.2, h.2⟩
theorem lstD_mem3 {U L : Int} {m : Nat} : ∀ {i : Nat} {p : Tm}, p ∈ lstD U L m i → U - 2 * (i : Int) + 2 ≤ p.1 ∧ p.1 ≤ U ∧ L - (m : Int) + 1 ≤ p.2 ∧ p.2 ≤ L
  | 0, p, h => by simp [lstD] at h
  | i + 1, p, h => by
    rcases List.mem_append.1 h with h | h
    · have := lstD_mem3 h; omega
    · have := rowD_mem h; omega
theorem cplP_ok {s t p : Tm} (hp : p ∈ cplP s t) : okT p := by
  unfold cplP at hp
  split at hp
  · rename_i hc
    obtain ⟨h1, h2, h3, h4⟩ := cplB_and hc
    have b1 := tvB_true h1
    have b2 := tvB_true h2
    have := lstD_mem3 hp
    have m1 : 2 * (mnI s.1 t.1 : Int) ≤ s.1 + t.1 := by unfold mnI; split <;> omega
    have m2 : 2 * (mnI s.2 t.2 : Int) ≤ s.2 + t.2 := by unfold mnI; split <;> omega
    unfold okT
    push_cast at this
    omega
  · cases hp
theorem cplP_pw (s t : Tm) : (cplP s t).Pairwise fun a b => key a ≤ key b := by
  unfold cplP
  split
  · rename_i hc
    obtain ⟨h1, h2, h3, h4⟩ := cplB_and hc
    have b1 := tvB_true h1
    have b2 := tvB_true h2
    have m2 : 2 * mnI s.2 t.2 + 1 ≤ 17 := by unfold mnI; split <;> omega
    exact lstD_pw _ _ _ m2 _
  · exact List.Pairwise.nil
theorem cplP_len {s t : Tm} (h : cplB s t = true) : (cplP s t).length = (mnI s.1 t.1 + 1) * (2 * mnI s.2 t.2 + 1) := by
  unfold cplP
  rw [if_pos h]
  exact lstD_len _ _ _ _
theorem cplP_len_le (s t : Tm) : (cplP s t).length ≤ 45 := by
  cases h : cplB s t
  · simp [cplP, h]
  · rw [cplP_len h]
    obtain ⟨h1, h2, h3, h4⟩ := cplB_and h
    have b1 := tvB_true h1
    have b2 := tvB_true h2
    exact Nat.mul_le_mul (show mnI s.1 t.1 + 1 ≤ 5 by unfold mnI; split <;> omega) (show 2 * mnI s.2 t.2 + 1 ≤ 9 by unfold mnI; split <;> omega)
theorem cplP_pos {s t : Tm} (h : cplB s t = true) : 0 < (cplP s t).length := by
  rw [cplP_len h]
  exact Nat.mul_pos (by omega) (by omega)
theorem cplB_comm (s t : Tm) : cplB s t = cplB t s := by
  unfold cplB
  rw [Int.add_comm t.1 s.1, Int.add_comm t.2 s.2, Bool.and_comm (tvB s.1 s.2)]
theorem mnI_comm (a b : Int) : mnI a b = mnI b a := by unfold mnI; split <;> split <;> omega
theorem cplP_comm (s t : Tm) : cplP s t = cplP t s := by
  unfold cplP
  rw [cplB_comm s t, mnI_comm s.1, mnI_comm s.2, Int.add_comm s.1, Int.add_comm s.2]
theorem cplP_none_r {s : Tm} (h : tvB s.1 s.2 = true) : cplB s (0, 0) = true ∧ cplP s (0, 0) = [s] := by
  have b := tvB_true h
  have hc : cplB s (0, 0) = true := by
    simp only [cplB, h, Bool.true_and, Bool.and_eq_true, decide_eq_true_eq]
    refine ⟨⟨by decide, ?_⟩, ?_⟩
    · show s.1 + 0 ≤ 8; omega
    · show s.2 + 0 ≤ 8; omega
  refine ⟨hc, ?_⟩
  unfold cplP
  rw [if_pos hc]
  have e1 : mnI s.1 0 = 0 := by unfold mnI; split <;> omega
  have e2 : mnI s.2 0 = 0 := by unfold mnI; split <;> omega
  show lstD (s.1 + 0) (s.2 + 0) (2 * mnI s.2 0 + 1) (mnI s.1 0 + 1) = [s]
  rw [e1, e2]
  simp [lstD, rowD]
theorem cplP_none_l {s : Tm} (h : tvB s.1 s.2 = true) : cplB (0, 0) s = true ∧ cplP (0, 0) s = [s] := by
  rw [cplB_comm, cplP_comm]
  exact cplP_none_r h

theorem flat_ok {a b : List Tm} : ∀ p ∈ flatT a b, okT p := fun p hp => by
  simp only [flatT, List.mem_flatMap] at hp
  obtain ⟨s, -, t, -, h⟩ := hp
  exact cplP_ok h
theorem flat_allV (a b : List Tm) : allV (flatT a b) = true := allV_iff.2 fun p hp => okT_tv.1 (flat_ok p hp)
/-- What has been gathered behind i rounds of the outer loop and j of the inner. -/
def flatK (a b : List Tm) (i j : Nat) (s : Tm) : List Tm := flatT (a.take i) b ++ (b.take j).flatMap fun t => cplP s t
theorem flatK_zero (a b : List Tm) (i : Nat) (s : Tm) : flatK a b i 0 s = flatT (a.take i) b := by simp [flatK]
theorem flatK_step {a b : List Tm} {i j : Nat} {s t : Tm} (h : b[j]? = some t) : flatK a b i (j + 1) s = flatK a b i j s ++ cplP s t := by
  unfold flatK
  rw [List.take_add_one, h, List.flatMap_append, List.append_assoc]
  simp
theorem flatT_step {a b : List Tm} {i : Nat} {s : Tm} (h : a[i]? = some s) : flatT (a.take (i + 1)) b = flatK a b i b.length s := by
  unfold flatK flatT
  rw [List.take_add_one, h, List.flatMap_append, List.take_length]
  simp
theorem flatT_append (a a' b : List Tm) : flatT (a ++ a') b = flatT a b ++ flatT a' b := by simp [flatT]
theorem flatT_take_le (a b : List Tm) (i : Nat) : (flatT (a.take i) b).length ≤ (flatT a b).length := by
  have h := flatT_append (a.take i) (a.drop i) b
  rw [List.take_append_drop] at h
  rw [h, List.length_append]
  omega
theorem flatK_le {a b : List Tm} {i : Nat} {s : Tm} (h : a[i]? = some s) (j : Nat) : (flatK a b i j s).length ≤ (flatT a b).length := by
  refine Nat.le_trans ?_ (flatT_take_le a b (i + 1))
  rw [flatT_step h]
  unfold flatK
  rw [List.take_length, List.length_append, List.length_append]
  have e : b.flatMap (fun t => cplP s t) = (b.take j).flatMap (fun t => cplP s t) ++ (b.drop j).flatMap (fun t => cplP s t) := by
    rw [← List.flatMap_append, List.take_append_drop]
  rw [e, List.length_append]
  omega
theorem joinB_iff {a b : List Tm} : joinB a b = true ↔ lstB a = true ∧ lstB b = true ∧ cplAll a b = true ∧ (flatT a b).length ≤ 400 := by
  simp only [joinB, Bool.and_eq_true, decide_eq_true_eq]
  exact ⟨fun h => ⟨h.1.1.1, h.1.1.2, h.1.2, h.2⟩, fun h => ⟨⟨⟨h.1, h.2.1⟩, h.2.2.1⟩, h.2.2.2⟩⟩
theorem cplAll_iff {a b : List Tm} : cplAll a b = true ↔ ∀ s ∈ a, ∀ t ∈ b, cplB s t = true := by simp [cplAll]
theorem joinB_pair {a b : List Tm} {i j : Nat} {s t : Tm} (hs : a[i]? = some s) (ht : b[j]? = some t) (h : cplB s t = false) : joinB a b = false := by
  cases e : joinB a b
  · rfl
  · have := cplAll_iff.1 (joinB_iff.1 e).2.2.1 s (List.mem_of_getElem? hs) t (List.mem_of_getElem? ht)
    rw [h] at this
    cases this
theorem joinB_long {a b : List Tm} {i j : Nat} {s t : Tm} (hs : a[i]? = some s) (ht : b[j]? = some t) (h : 400 < (flatK a b i j s).length + (cplP s t).length) : joinB a b = false := by
  cases e : joinB a b
  · rfl
  · have h1 := (joinB_iff.1 e).2.2.2
    have h2 := flatK_le hs (b := b) (j + 1)
    rw [flatK_step ht, List.length_append] at h2
    omega
theorem joinB_end {a b : List Tm} (ha : lstB a = true) (hb : lstB b = true) (hc : cplAll a b = true) (hl : (flatT a b).length ≤ 400) : joinB a b = true := joinB_iff.2 ⟨ha, hb, hc, hl⟩
/-- All pairs ahead of the i-th term of the first list are ok. -/
theorem cplAll_step {a b : List Tm} {i : Nat} {s : Tm} (h : a[i]? = some s) (h1 : cplAll (a.take i) b = true) (h2 : ∀ t ∈ b, cplB s t = true) : cplAll (a.take (i + 1)) b = true := by
  refine cplAll_iff.2 fun x hx t ht => ?_
  rw [List.take_add_one, h] at hx
  rcases List.mem_append.1 hx with hx | hx
  · exact cplAll_iff.1 h1 x hx t ht
  · simp at hx
    subst hx
    exact h2 t ht
theorem okj_step {b : List Tm} {j : Nat} {s t : Tm} (h : b[j]? = some t) (h1 : ∀ u ∈ b.take j, cplB s u = true) (h2 : cplB s t = true) : ∀ u ∈ b.take (j + 1), cplB s u = true := fun u hu => by
  rw [List.take_add_one, h] at hu
  rcases List.mem_append.1 hu with hu | hu
  · exact h1 u hu
  · simp at hu
    subst hu
    exact h2
end Go.Proofs.Ytjopcpoodhamcaa
