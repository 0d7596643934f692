/-
  Plain laws: what the laws ask of coupled and of joined lists. Conditions: none.
-/
import Derived.Test.YtjopcpoodhamcaaJoinP
namespace Go.Proofs.Ytjopcpoodhamcaa
set_option linter.unusedSimpArgs false
set_option linter.unusedVariables false

/-- All pairs of a number of the first list and one of the second. -/
def prodL (A B : List Int) : List Tm := A.flatMap fun u => B.map fun k => (u, k)
def spL (x y : Int) : List Int := (List.range (mnI x y + 1)).map fun i : Nat => x + y - 2 * (i : Int)
def orL (x y : Int) : List Int := (List.range (2 * mnI x y + 1)).map fun j : Nat => x + y - (j : Int)
theorem rowD_map (u L : Int) : ∀ j, rowD u L j = ((List.range j).map fun i : Nat => L - (i : Int)).map fun k => (u, k)
  | 0 => rfl
  | j + 1 => by simp [rowD, rowD_map u L j, List.range_succ]
theorem lstD_prod (U L : Int) (m : Nat) : ∀ n, lstD U L m n = prodL ((List.range n).map fun i : Nat => U - 2 * (i : Int)) ((List.range m).map fun j : Nat => L - (j : Int))
  | 0 => rfl
  | n + 1 => by
    show lstD U L m n ++ rowD (U - 2 * (n : Int)) L m = _
    rw [lstD_prod U L m n, rowD_map]
    simp [prodL, List.range_succ]
theorem cplP_prod {s t : Tm} (h : cplB s t = true) : cplP s t = prodL (spL s.1 t.1) (orL s.2 t.2) := by
  unfold cplP
  rw [if_pos h, lstD_prod]
  rfl
theorem count_row (u x : Int) (k : Int) : ∀ B : List Int, (B.map fun y => (x, y)).count (u, k) = (if x = u then 1 else 0) * B.count k
  | [] => by simp
  | b :: r => by
    have ih := count_row u x k r
    simp only [List.map_cons, List.count_cons, ih]
    by_cases h1 : x = u <;> by_cases h2 : b = k <;> simp [h1, h2]
theorem count_prod (u k : Int) (B : List Int) : ∀ A : List Int, (prodL A B).count (u, k) = A.count u * B.count k
  | [] => by simp [prodL]
  | a :: r => by
    have ih := count_prod u k B r
    have e : prodL (a :: r) B = (B.map fun y => (a, y)) ++ prodL r B := by simp [prodL]
    rw [e, List.count_append, count_row, ih, List.count_cons]
    by_cases h1 : a = u
    · simp [h1, Nat.add_mul]; omega
    · simp [h1]
theorem count_over (u k : Int) (x : Int) (F G : Int → List Int) : ∀ B : List Int, ((B.map fun y => (x, y)).flatMap fun v : Tm => prodL (F v.1) (G v.2)).count (u, k) = (F x).count u * (B.flatMap G).count k
  | [] => by simp
  | b :: r => by
    have ih := count_over u k x F G r
    simp only [List.map_cons, List.flatMap_cons, List.count_append, ih, count_prod, Nat.mul_add]
theorem count_both (u k : Int) (F G : Int → List Int) (B : List Int) : ∀ A : List Int, ((prodL A B).flatMap fun v : Tm => prodL (F v.1) (G v.2)).count (u, k) = (A.flatMap F).count u * (B.flatMap G).count k
  | [] => by simp [prodL]
  | a :: r => by
    have ih := count_both u k F G B r
    have e : prodL (a :: r) B = (B.map fun y => (a, y)) ++ prodL r B := by simp [prodL]
    rw [e, List.flatMap_append, List.count_append, count_over, ih, List.flatMap_cons, List.count_append, Nat.add_mul]
theorem flatMap_eqOn {α β : Type} {f g : α → List β} : ∀ {xs : List α}, (∀ x ∈ xs, f x = g x) → xs.flatMap f = xs.flatMap g
  | [], _ => rfl
  | x :: r, h => by
    rw [List.flatMap_cons, List.flatMap_cons, h x (List.mem_cons_self ..), flatMap_eqOn (fun y hy => h y (List.mem_cons_of_mem _ hy))]
theorem flatMap_permOn {α β : Type} {f g : α → List β} : ∀ {xs : List α}, (∀ x ∈ xs, (f x).Perm (g x)) → (xs.flatMap f).Perm (xs.flatMap g)
  | [], _ => List.Perm.refl _
  | x :: r, h => by
    rw [List.flatMap_cons, List.flatMap_cons]
    exact (h x (List.mem_cons_self ..)).append (flatMap_permOn (fun y hy => h y (List.mem_cons_of_mem _ hy)))
theorem flatMap_two {α β : Type} (f g : α → List β) : ∀ xs : List α, (xs.flatMap fun x => f x ++ g x).Perm (xs.flatMap f ++ xs.flatMap g)
  | [] => List.Perm.refl _
  | x :: r => by
    simp only [List.flatMap_cons]
    have ih := flatMap_two f g r
    refine ((List.Perm.refl (f x ++ g x)).append ih).trans ?_
    rw [List.append_assoc, List.append_assoc]
    refine (List.Perm.refl (f x)).append ?_
    rw [← List.append_assoc, ← List.append_assoc]
    exact (List.perm_append_comm).append (List.Perm.refl _)
theorem assoc_fin : ((List.range 9).all fun x => (List.range 9).all fun y =>
    ((spL x y).flatMap fun v => spL v 1).isPerm ((spL y 1).flatMap fun v => spL x v) && ((orL x y).flatMap fun v => orL v 1).isPerm ((orL y 1).flatMap fun v => orL x v)) = true := by decide +kernel
theorem assoc_one {x y : Int} (x0 : 0 ≤ x) (x8 : x ≤ 8) (y0 : 0 ≤ y) (y8 : y ≤ 8) : ((spL x y).flatMap fun v => spL v 1).Perm ((spL y 1).flatMap fun v => spL x v) ∧ ((orL x y).flatMap fun v => orL v 1).Perm ((orL y 1).flatMap fun v => orL x v) := by
  obtain ⟨x, rfl⟩ := Int.eq_ofNat_of_zero_le x0
  obtain ⟨y, rfl⟩ := Int.eq_ofNat_of_zero_le y0
  have := List.all_eq_true.1 (List.all_eq_true.1 assoc_fin x (List.mem_range.2 (by omega))) y (List.mem_range.2 (by omega))
  simp only [Bool.and_eq_true, List.isPerm_iff] at this
  exact this
theorem assoc_pair {s t : Tm} (h1 : cplB s t = true) (h2 : cplB t (1, 1) = true) (h3 : ∀ v ∈ cplP s t, cplB v (1, 1) = true) (h4 : ∀ u ∈ cplP t (1, 1), cplB s u = true) :
    ((cplP s t).flatMap fun v => cplP v (1, 1)).Perm ((cplP t (1, 1)).flatMap fun u => cplP s u) := by
  obtain ⟨v1, v2, -, -⟩ := cplB_and h1
  have b1 := tvB_true v1
  have b2 := tvB_true v2
  have e1 : ((cplP s t).flatMap fun v => cplP v (1, 1)) = (prodL (spL s.1 t.1) (orL s.2 t.2)).flatMap fun v : Tm => prodL (spL v.1 1) (orL v.2 1) := by
    rw [← cplP_prod h1]
    exact flatMap_eqOn fun v hv => cplP_prod (h3 v hv)
  have e2 : ((cplP t (1, 1)).flatMap fun u => cplP s u) = (prodL (spL t.1 1) (orL t.2 1)).flatMap fun u : Tm => prodL (spL s.1 u.1) (orL s.2 u.2) := by
    have := cplP_prod h2
    rw [← show cplP t (1, 1) = prodL (spL t.1 1) (orL t.2 1) from this]
    exact flatMap_eqOn fun u hu => cplP_prod (h4 u hu)
  rw [e1, e2, List.perm_iff_count]
  rintro ⟨u, k⟩
  rw [count_both u k (fun v => spL v 1) (fun v => orL v 1), count_both u k (fun v => spL s.1 v) (fun v => orL s.2 v)]
  have p1 := (assoc_one b1.1 b1.2.1 b2.1 b2.2.1).1
  have p2 := (assoc_one b1.2.2.1 b1.2.2.2 b2.2.2.1 b2.2.2.2).2
  rw [p1.count_eq, p2.count_eq]
theorem flat_one (a : List Tm) (c : Tm) : flatT a [c] = a.flatMap fun s => cplP s c := by
  unfold flatT
  exact flatMap_eqOn fun s _ => by simp
theorem flat_perm_l {a a' : List Tm} (b : List Tm) (h : a.Perm a') : (flatT a b).Perm (flatT a' b) := h.flatMap_right _
theorem flat_perm_r (a : List Tm) {b b' : List Tm} (h : b.Perm b') : (flatT a b).Perm (flatT a b') := flatMap_permOn fun s _ => h.flatMap_right _
theorem cplAll_perm_l {a a' : List Tm} (b : List Tm) (h : a.Perm a') : cplAll a b = cplAll a' b := by
  rw [Bool.eq_iff_iff, cplAll_iff, cplAll_iff]
  exact ⟨fun k s hs => k s (h.mem_iff.2 hs), fun k s hs => k s (h.mem_iff.1 hs)⟩
theorem cplAll_perm_r (a : List Tm) {b b' : List Tm} (h : b.Perm b') : cplAll a b = cplAll a b' := by
  rw [Bool.eq_iff_iff, cplAll_iff, cplAll_iff]
  exact ⟨fun k s hs t ht => k s hs t (h.mem_iff.2 ht), fun k s hs t ht => k s hs t (h.mem_iff.1 ht)⟩
/-- Coupling three in any order. -/
theorem flat_assoc {a b : List Tm} (h1 : cplAll a b = true) (h2 : cplAll b [(1, 1)] = true) (h3 : cplAll (flatT a b) [(1, 1)] = true) (h4 : cplAll a (flatT b [(1, 1)]) = true) :
    (flatT (flatT a b) [(1, 1)]).Perm (flatT a (flatT b [(1, 1)])) := by
  rw [flat_one, flat_one]
  rw [flat_one] at h4
  unfold flatT at h3 ⊢
  rw [List.flatMap_assoc]
  refine flatMap_permOn fun s hs => ?_
  rw [List.flatMap_assoc, List.flatMap_assoc]
  refine flatMap_permOn fun t ht => ?_
  refine assoc_pair (cplAll_iff.1 h1 s hs t ht) (cplAll_iff.1 h2 t ht _ (by simp)) (fun v hv => cplAll_iff.1 h3 v ?_ _ (by simp)) (fun u hu => cplAll_iff.1 h4 s hs u ?_)
  · exact List.mem_flatMap.2 ⟨s, hs, List.mem_flatMap.2 ⟨t, ht, hv⟩⟩
  · exact List.mem_flatMap.2 ⟨t, ht, hu⟩
theorem flat_comm (b : List Tm) : ∀ a : List Tm, (flatT b a).Perm (flatT a b)
  | [] => by
    have : flatT b [] = [] := by unfold flatT; induction b with
      | nil => rfl
      | cons x r ih => simp
    rw [this]
    exact List.Perm.refl _
  | s :: a => by
    have ih := flat_comm b a
    have e : flatT b (s :: a) = b.flatMap fun t => cplP s t ++ a.flatMap fun u => cplP t u := by
      unfold flatT
      exact flatMap_eqOn fun t _ => by rw [List.flatMap_cons, cplP_comm t s]
    rw [e]
    refine (flatMap_two _ _ b).trans ?_
    have e2 : flatT (s :: a) b = (b.flatMap fun t => cplP s t) ++ flatT a b := by simp [flatT]
    rw [e2]
    exact (List.Perm.refl _).append ih
theorem cplAll_comm (a b : List Tm) : cplAll a b = cplAll b a := by
  rw [Bool.eq_iff_iff, cplAll_iff, cplAll_iff]
  exact ⟨fun h s hs t ht => by rw [cplB_comm]; exact h t ht s hs, fun h s hs t ht => by rw [cplB_comm]; exact h t ht s hs⟩
theorem joinB_comm (a b : List Tm) : joinB a b = joinB b a := by
  unfold joinB
  rw [cplAll_comm a b, (flat_comm b a).length_eq, Bool.and_comm (lstB a)]
theorem joinP_comm (a b : List Tm) : joinP a b = joinP b a := by
  unfold joinP
  rw [joinB_comm a b]
  split
  · exact sortT_congr flat_ok (flat_comm a b)
  · rfl
theorem flat_none {a : List Tm} (h : allV a = true) : flatT a [(0, 0)] = a ∧ cplAll a [(0, 0)] = true := by
  have hv := allV_iff.1 h
  refine ⟨?_, cplAll_iff.2 fun s hs t ht => ?_⟩
  · rw [flat_one]
    have : a.flatMap (fun s => cplP s (0, 0)) = a.flatMap fun s => [s] := flatMap_eqOn fun s hs => (cplP_none_r (hv s hs)).2
    rw [this]
    induction a with
    | nil => rfl
    | cons x r ih => simp
  · simp at ht
    subst ht
    exact (cplP_none_r (hv s hs)).1
theorem join_none {a : List Tm} (h : lstB a = true) : joinB a [(0, 0)] = true ∧ joinP a [(0, 0)] = sortT a := by
  obtain ⟨h1, h2⟩ := lstB_iff.1 h
  obtain ⟨e1, e2⟩ := flat_none h2
  have hj : joinB a [(0, 0)] = true := joinB_iff.2 ⟨h, by decide, e2, by rw [e1]; exact h1⟩
  exact ⟨hj, by unfold joinP; rw [if_pos hj, e1]⟩
theorem join_none_l {a : List Tm} (h : lstB a = true) : joinB [(0, 0)] a = true ∧ joinP [(0, 0)] a = sortT a := by
  rw [joinB_comm, joinP_comm]
  exact join_none h
def wgtQ (a b c d : Int) : Bool := decide (wgt (lstD (a + c) (b + d) (2 * mnI b d + 1) (mnI a c + 1)) = ((a + 1) * (2 * b + 1)) * ((c + 1) * (2 * d + 1)))
theorem wgt_fin : ((List.range 9).all fun a => (List.range 9).all fun b => (List.range 9).all fun c => (List.range 9).all fun d => !(decide ((a : Int) + (c : Int) ≤ 8) && decide ((b : Int) + (d : Int) ≤ 8)) || wgtQ a b c d) = true := by decide +kernel
theorem fin_nat (q : Int → Int → Int → Int → Bool) (h : ((List.range 9).all fun a => (List.range 9).all fun b => (List.range 9).all fun c => (List.range 9).all fun d => !(decide ((a : Int) + (c : Int) ≤ 8) && decide ((b : Int) + (d : Int) ≤ 8)) || q a b c d) = true) {s t : Tm} (hc : cplB s t = true) : q s.1 s.2 t.1 t.2 = true := by
  obtain ⟨h1, h2, h3, h4⟩ := cplB_and hc
  have b1 := tvB_true h1
  have b2 := tvB_true h2
  obtain ⟨s1, s2⟩ := s
  obtain ⟨t1, t2⟩ := t
  simp only at *
  obtain ⟨a, rfl⟩ := Int.eq_ofNat_of_zero_le b1.1
  obtain ⟨b, rfl⟩ := Int.eq_ofNat_of_zero_le b1.2.2.1
  obtain ⟨c, rfl⟩ := Int.eq_ofNat_of_zero_le b2.1
  obtain ⟨d, rfl⟩ := Int.eq_ofNat_of_zero_le b2.2.2.1
  have k := List.all_eq_true.1 (List.all_eq_true.1 (List.all_eq_true.1 (List.all_eq_true.1 h a (List.mem_range.2 (by omega))) b (List.mem_range.2 (by omega))) c (List.mem_range.2 (by omega))) d (List.mem_range.2 (by omega))
  rw [Bool.or_eq_true] at k
  rcases k with k | k
  · exfalso
    simp only [Bool.not_eq_true', Bool.and_eq_false_iff, decide_eq_false_iff_not] at k
    omega
  · exact k
theorem wgt_cpl {s t : Tm} (h : cplB s t = true) : wgt (cplP s t) = ((s.1 + 1) * (2 * s.2 + 1)) * ((t.1 + 1) * (2 * t.2 + 1)) := by
  have := fin_nat wgtQ wgt_fin h
  unfold cplP
  rw [if_pos h]
  exact of_decide_eq_true this
theorem wgt_row {s : Tm} : ∀ {b : List Tm}, (∀ t ∈ b, cplB s t = true) → wgt (b.flatMap fun t => cplP s t) = ((s.1 + 1) * (2 * s.2 + 1)) * wgt b
  | [], _ => by simp [wgt]
  | t :: r, h => by
    rw [List.flatMap_cons, wgt_append, wgt_cpl (h t (List.mem_cons_self ..)), wgt_row (fun u hu => h u (List.mem_cons_of_mem _ hu))]
    simp only [wgt, Int.mul_add]
theorem wgt_flat {b : List Tm} : ∀ {a : List Tm}, cplAll a b = true → wgt (flatT a b) = wgt a * wgt b
  | [], _ => by simp [wgt, flatT]
  | s :: a, h => by
    have h' := cplAll_iff.1 h
    have e : flatT (s :: a) b = (b.flatMap fun t => cplP s t) ++ flatT a b := by simp [flatT]
    rw [e, wgt_append, wgt_row (h' s (List.mem_cons_self ..)), wgt_flat (cplAll_iff.2 fun x hx => h' x (List.mem_cons_of_mem _ hx))]
    simp only [wgt, Int.add_mul]
theorem each_fin : ((List.range 9).all fun x => (List.range 9).all fun y => (List.range 9).all fun u =>
    decide ((spL x y).count (u : Int) = if triB x y u = true then 1 else 0) && decide ((orL x y).count (u : Int) = if triB (2 * (x : Int)) (2 * (y : Int)) (2 * (u : Int)) = true then 1 else 0)) = true := by decide +kernel
theorem each_one {x y u : Int} (x0 : 0 ≤ x) (x8 : x ≤ 8) (y0 : 0 ≤ y) (y8 : y ≤ 8) (u0 : 0 ≤ u) (u8 : u ≤ 8) :
    (spL x y).count u = (if triB x y u = true then 1 else 0) ∧ (orL x y).count u = if triB (2 * x) (2 * y) (2 * u) = true then 1 else 0 := by
  obtain ⟨x, rfl⟩ := Int.eq_ofNat_of_zero_le x0
  obtain ⟨y, rfl⟩ := Int.eq_ofNat_of_zero_le y0
  obtain ⟨u, rfl⟩ := Int.eq_ofNat_of_zero_le u0
  have := List.all_eq_true.1 (List.all_eq_true.1 (List.all_eq_true.1 each_fin x (List.mem_range.2 (by omega))) y (List.mem_range.2 (by omega))) u (List.mem_range.2 (by omega))
  simp only [Bool.and_eq_true, decide_eq_true_eq] at this
  exact this
/-- Each coupling is there once. -/
theorem cpl_each {s t : Tm} (h : cplB s t = true) {u k : Int} (u0 : 0 ≤ u) (u8 : u ≤ 8) (k0 : 0 ≤ k) (k8 : k ≤ 8) :
    cntT (u, k) (cplP s t) = if (triB s.1 t.1 u && triB (2 * s.2) (2 * t.2) (2 * k)) = true then 1 else 0 := by
  obtain ⟨v1, v2, -, -⟩ := cplB_and h
  have b1 := tvB_true v1
  have b2 := tvB_true v2
  rw [cntT_count, cplP_prod h, count_prod, (each_one b1.1 b1.2.1 b2.1 b2.2.1 u0 u8).1, (each_one b1.2.2.1 b1.2.2.2 b2.2.2.1 b2.2.2.2 k0 k8).2]
  cases triB s.1 t.1 u <;> cases triB (2 * s.2) (2 * t.2) (2 * k) <;> rfl
theorem cpl_ord (s t : Tm) : ordB (cplP s t) = true := ordB_of (fun p hp => cplP_ok hp) (cplP_pw s t)
theorem cpl_allV (s t : Tm) : allV (cplP s t) = true := allV_iff.2 fun p hp => okT_tv.1 (cplP_ok hp)
theorem joinP_yes {a b : List Tm} (h : joinB a b = true) : joinP a b = sortT (flatT a b) := by unfold joinP; rw [if_pos h]
theorem joinP_ok (a b : List Tm) : ∀ p ∈ joinP a b, okT p := by
  unfold joinP
  split
  · exact sortT_ok flat_ok
  · intro p hp; cases hp
theorem joinP_allV (a b : List Tm) : allV (joinP a b) = true := allV_iff.2 fun p hp => okT_tv.1 (joinP_ok a b p hp)
theorem joinP_len (a b : List Tm) : (joinP a b).length ≤ 400 := by
  unfold joinP
  split
  · rename_i h; rw [sortT_len]; exact (joinB_iff.1 h).2.2.2
  · exact Nat.zero_le _
theorem joinP_lst (a b : List Tm) : lstB (joinP a b) = true := lstB_iff.2 ⟨joinP_len a b, joinP_allV a b⟩
theorem joinP_ord (a b : List Tm) : ordB (joinP a b) = true := by
  unfold joinP
  split
  · exact sortT_ord flat_ok
  · rfl
theorem joinP_wgt {a b : List Tm} (h : joinB a b = true) : wgt (joinP a b) = wgt a * wgt b := by
  rw [joinP_yes h, wgt_perm (sortT_perm _), wgt_flat (joinB_iff.1 h).2.2.1]
/-- Coupling three in any order leads to the same. -/
theorem join_three {a b : List Tm} (h1 : joinB a b = true) (h2 : joinB (joinP a b) [(1, 1)] = true) (h3 : joinB b [(1, 1)] = true) (h4 : joinB a (joinP b [(1, 1)]) = true) :
    joinP (joinP a b) [(1, 1)] = joinP a (joinP b [(1, 1)]) := by
  rw [joinP_yes h2, joinP_yes h4]
  have c1 := (joinB_iff.1 h1).2.2.1
  have c2 := (joinB_iff.1 h2).2.2.1
  have c3 := (joinB_iff.1 h3).2.2.1
  have c4 := (joinB_iff.1 h4).2.2.1
  rw [joinP_yes h1] at c2 ⊢
  rw [joinP_yes h3] at c4 ⊢
  refine sortT_congr flat_ok ?_
  rw [cplAll_perm_l _ (sortT_perm _)] at c2
  rw [cplAll_perm_r _ (sortT_perm _)] at c4
  exact (flat_perm_l _ (sortT_perm _)).trans ((flat_assoc c1 c3 c2 c4).trans (flat_perm_r _ (sortT_perm _)).symm)
/-- Lists are joined part by part. -/
theorem join_parts {a b : List Tm} (h : joinB a b = true) (k : Nat) : joinB (a.take k) b = true ∧ joinB (a.drop k) b = true ∧ lstB (joinP (a.take k) b ++ joinP (a.drop k) b) = true ∧
    sortT (joinP (a.take k) b ++ joinP (a.drop k) b) = joinP a b := by
  obtain ⟨l1, l2, c, hl⟩ := joinB_iff.1 h
  obtain ⟨n1, v1⟩ := lstB_iff.1 l1
  have e : flatT a b = flatT (a.take k) b ++ flatT (a.drop k) b := by rw [← flatT_append, List.take_append_drop]
  have hle := hl
  rw [e, List.length_append] at hle
  have p1 : joinB (a.take k) b = true := joinB_iff.2 ⟨lstB_iff.2 ⟨by simp; omega, allV_iff.2 fun p hp => allV_iff.1 v1 p (List.mem_of_mem_take hp)⟩, l2, cplAll_iff.2 fun s hs => cplAll_iff.1 c s (List.mem_of_mem_take hs), by omega⟩
  have p2 : joinB (a.drop k) b = true := joinB_iff.2 ⟨lstB_iff.2 ⟨by simp; omega, allV_iff.2 fun p hp => allV_iff.1 v1 p (List.mem_of_mem_drop hp)⟩, l2, cplAll_iff.2 fun s hs => cplAll_iff.1 c s (List.mem_of_mem_drop hs), by omega⟩
  refine ⟨p1, p2, lstB_iff.2 ⟨?_, ?_⟩, ?_⟩
  · rw [joinP_yes p1, joinP_yes p2, List.length_append, sortT_len, sortT_len]; omega
  · rw [allV_append, joinP_allV, joinP_allV]; rfl
  · rw [joinP_yes p1, joinP_yes p2, joinP_yes h, e]
    refine sortT_congr (fun p hp => ?_) ((sortT_perm _).append (sortT_perm _))
    rcases List.mem_append.1 hp with hp | hp
    · exact sortT_ok flat_ok p hp
    · exact sortT_ok flat_ok p hp
theorem rot_perm (xs : List Tm) (k : Nat) : (xs.drop k ++ xs.take k).Perm xs := by
  have h : (xs.drop k ++ xs.take k).Perm (xs.take k ++ xs.drop k) := List.perm_append_comm
  rwa [List.take_append_drop] at h
theorem rot_lst {xs : List Tm} (h : lstB xs = true) (k : Nat) : lstB (xs.drop k ++ xs.take k) = true := by
  obtain ⟨h1, h2⟩ := lstB_iff.1 h
  exact lstB_iff.2 ⟨by rw [(rot_perm xs k).length_eq]; exact h1, by rw [allV_perm (rot_perm xs k)]; exact h2⟩
theorem rot_sort {xs : List Tm} (h : lstB xs = true) (k : Nat) : sortT (xs.drop k ++ xs.take k) = sortT xs :=
  sortT_congr (fun p hp => allV_ok (lstB_iff.1 (rot_lst h k)).2 p hp) (rot_perm xs k)
theorem sort_lst {xs : List Tm} (h : lstB xs = true) : lstB (sortT xs) = true := by
  obtain ⟨h1, h2⟩ := lstB_iff.1 h
  exact lstB_iff.2 ⟨by rw [sortT_len]; exact h1, by rw [allV_perm (sortT_perm xs)]; exact h2⟩
end Go.Proofs.Ytjopcpoodhamcaa
