import Derived.Test.YtjopcpoodhamcaaDoorGg
/-
  Plain laws: the list of the terms to which two terms couple. Conditions: none.
-/
namespace Go.Proofs.YtjopcpoodhamcaaDoor
set_option linter.unusedSimpArgs false
set_option linter.unusedVariables false

def mnI (a b : Int) : Nat := if a ≤ b then a.toNat else b.toNat
/-- Two terms may be coupled. -/
def cplB (s t : Tm) : Bool := tvB s.1 s.2 && tvB t.1 t.2 && decide (s.1 + t.1 ≤ 8) && decide (s.2 + t.2 ≤ 8)
/-- One row: the orbits from the greatest down. -/
def rowD (u L : Int) : Nat → List Tm
  | 0 => []
  | j + 1 => rowD u L j ++ [(u, L - (j : Int))]
/-- The list from the greatest spin down. -/
def lstD (U L : Int) (m : Nat) : Nat → List Tm
  | 0 => []
  | i + 1 => lstD U L m i ++ rowD (U - 2 * (i : Int)) L m
def cplP (s t : Tm) : List Tm := if cplB s t = true then lstD (s.1 + t.1) (s.2 + t.2) (2 * mnI s.2 t.2 + 1) (mnI s.1 t.1 + 1) else []
theorem rowD_len (u L : Int) : ∀ j, (rowD u L j).length = j
  | 0 => rfl
  | j + 1 => by simp [rowD, rowD_len u L j]
theorem lstD_len (U L : Int) (m : Nat) : ∀ i, (lstD U L m i).length = i * m
  | 0 => by simp [lstD]
  | i + 1 => by simp [lstD, rowD_len, lstD_len U L m i]; rw [Nat.succ_mul]
/-- The same from the least up. -/
def rowU (u L : Int) (m : Nat) : Nat → List Tm
  | 0 => []
  | j + 1 => rowU u L m j ++ [(u, L - (m : Int) + 1 + (j : Int))]
def lstU (U L : Int) (m n : Nat) : Nat → List Tm
  | 0 => []
  | i + 1 => lstU U L m n i ++ rowU (U - 2 * (n : Int) + 2 + 2 * (i : Int)) L m m
theorem fin_cpl (p : Int → Int → Int → Int → Bool) (h : ((List.range 9).all fun a => (List.range 9).all fun b => (List.range 9).all fun c => (List.range 9).all fun d => !(decide (a + c ≤ 8) && decide (b + d ≤ 8)) || p a b c d) = true) {s t : Tm} (hc : cplB s t = true) : p s.1 s.2 t.1 t.2 = true := by
  simp only [cplB, Bool.and_eq_true, decide_eq_true_eq] at hc
  have b1 := tvB_true hc.1.1.1
  have b2 := tvB_true hc.1.1.2
  obtain ⟨s1, s2⟩ := s
  obtain ⟨t1, t2⟩ := t
  simp only at *
  obtain ⟨a, rfl⟩ := Int.eq_ofNat_of_zero_le b1.1
  obtain ⟨b, rfl⟩ := Int.eq_ofNat_of_zero_le b1.2.2.1
  obtain ⟨c, rfl⟩ := Int.eq_ofNat_of_zero_le b2.1
  obtain ⟨d, rfl⟩ := Int.eq_ofNat_of_zero_le b2.2.2.1
  have h1 := List.all_eq_true.1 (List.all_eq_true.1 (List.all_eq_true.1 (List.all_eq_true.1 h a (List.mem_range.2 (by omega))) b (List.mem_range.2 (by omega))) c (List.mem_range.2 (by omega))) d (List.mem_range.2 (by omega))
  rw [Bool.or_eq_true] at h1
  rcases h1 with h1 | h1
  · exfalso
    simp only [Bool.not_eq_true', Bool.and_eq_false_iff, decide_eq_false_iff_not] at h1
    omega
  · exact h1
theorem rowU_cons (u L : Int) (m : Nat) : ∀ j, rowU u L (m + 1) (j + 1) = (u, L - (m : Int)) :: rowU u L m j
  | 0 => by
    show [] ++ [(u, L - ((m + 1 : Nat) : Int) + 1 + ((0 : Nat) : Int))] = [(u, L - (m : Int))]
    rw [show L - ((m + 1 : Nat) : Int) + 1 + ((0 : Nat) : Int) = L - (m : Int) by omega]
    rfl
  | j + 1 => by
    show rowU u L (m + 1) (j + 1) ++ [(u, L - ((m + 1 : Nat) : Int) + 1 + ((j + 1 : Nat) : Int))] = (u, L - (m : Int)) :: (rowU u L m j ++ [(u, L - (m : Int) + 1 + (j : Int))])
    rw [rowU_cons u L m j, show L - ((m + 1 : Nat) : Int) + 1 + ((j + 1 : Nat) : Int) = L - (m : Int) + 1 + (j : Int) by omega]
    rfl
theorem rowU_perm (u L : Int) : ∀ m, (rowU u L m m).Perm (rowD u L m)
  | 0 => List.Perm.refl _
  | m + 1 => by
    rw [rowU_cons u L m m]
    show ((u, L - (m : Int)) :: rowU u L m m).Perm (rowD u L m ++ [(u, L - (m : Int))])
    exact ((rowU_perm u L m).cons _).trans (List.perm_append_singleton _ _).symm
theorem lstU_cons (U L : Int) (m n : Nat) : ∀ i, lstU U L m (n + 1) (i + 1) = rowU (U - 2 * (n : Int)) L m m ++ lstU U L m n i
  | 0 => by
    show [] ++ rowU (U - 2 * ((n + 1 : Nat) : Int) + 2 + 2 * ((0 : Nat) : Int)) L m m = rowU (U - 2 * (n : Int)) L m m ++ []
    rw [show U - 2 * ((n + 1 : Nat) : Int) + 2 + 2 * ((0 : Nat) : Int) = U - 2 * (n : Int) by omega]
    simp
  | i + 1 => by
    show lstU U L m (n + 1) (i + 1) ++ rowU (U - 2 * ((n + 1 : Nat) : Int) + 2 + 2 * ((i + 1 : Nat) : Int)) L m m = rowU (U - 2 * (n : Int)) L m m ++ (lstU U L m n i ++ rowU (U - 2 * (n : Int) + 2 + 2 * (i : Int)) L m m)
    rw [lstU_cons U L m n i, show U - 2 * ((n + 1 : Nat) : Int) + 2 + 2 * ((i + 1 : Nat) : Int) = U - 2 * (n : Int) + 2 + 2 * (i : Int) by omega, List.append_assoc]
theorem lstU_perm (U L : Int) (m : Nat) : ∀ n, (lstU U L m n n).Perm (lstD U L m n)
  | 0 => List.Perm.refl _
  | n + 1 => by
    rw [lstU_cons U L m n n]
    show (rowU (U - 2 * (n : Int)) L m m ++ lstU U L m n n).Perm (lstD U L m n ++ rowD (U - 2 * (n : Int)) L m)
    exact ((rowU_perm _ _ _).append (lstU_perm U L m n)).trans List.perm_append_comm
theorem rowD_mem {u L : Int} : ∀ {j : Nat} {p : Tm}, p ∈ rowD u L j → p.1 = u ∧ L - (j : Int) < p.2 ∧ p.2 ≤ L
  | 0, p, h => by simp [rowD] at h
  | j + 1, p, h => by
    rcases List.mem_append.1 h with h | h
    · have := rowD_mem h; omega
    · have e : p = (u, L - (j : Int)) := by simpa using h
      rw [e]
      exact ⟨rfl, by show L - ((j + 1 : Nat) : Int) < L - (j : Int); omega, by show L - (j : Int) ≤ L; omega⟩
theorem lstD_mem {U L : Int} {m : Nat} : ∀ {i : Nat} {p : Tm}, p ∈ lstD U L m i → U - 2 * (i : Int) < p.1 ∧ p.1 ≤ U ∧ L - (m : Int) < p.2 ∧ p.2 ≤ L
  | 0, p, h => by simp [lstD] at h
  | i + 1, p, h => by
    rcases List.mem_append.1 h with h | h
    · have := lstD_mem h; omega
    · have := rowD_mem h; omega
theorem rowD_pw (u L : Int) : ∀ j, (rowD u L j).Pairwise fun a b => key a ≤ key b
  | 0 => List.Pairwise.nil
  | j + 1 => by
    show (rowD u L j ++ [(u, L - (j : Int))]).Pairwise _
    refine List.pairwise_append.2 ⟨rowD_pw u L j, List.pairwise_singleton _ _, fun a ha b hb => ?_⟩
    have h1 := rowD_mem ha
    simp at hb
    subst hb
    unfold key
    simp only
    omega
theorem lstD_pw (U L : Int) (m : Nat) (hm : m ≤ 17) : ∀ i, (lstD U L m i).Pairwise fun a b => key a ≤ key b
  | 0 => List.Pairwise.nil
  | i + 1 => by
    show (lstD U L m i ++ rowD (U - 2 * (i : Int)) L m).Pairwise _
    refine List.pairwise_append.2 ⟨lstD_pw U L m hm i, rowD_pw _ _ _, fun a ha b hb => ?_⟩
    have h1 := lstD_mem ha
    have h2 := rowD_mem hb
    unfold key
    omega
/-- A list in order with the elements of xs is the sorted list. -/
theorem sortT_eq {xs ys : List Tm} (ho : ∀ x ∈ xs, okT x) (hp : ys.Perm xs) (hs : ys.Pairwise fun a b => key a ≤ key b) : sortT xs = ys := by
  have hl : ys.length = xs.length := hp.length_eq
  have hoy : ∀ x ∈ ys, okT x := fun x hx => ho x (hp.mem_iff.1 hx)
  have e : ∀ k, (h : k < ys.length) → atL ys k = ys[k] := fun k h => by unfold atL; rw [List.getD_eq_getElem?_getD, List.getElem?_eq_getElem h]; rfl
  have hsr : Srt 0 xs.length (atL ys) := fun i j h1 h2 h3 => by
    rw [e i (by omega), e j (by omega)]
    by_cases c : i = j
    · subst c; exact Int.le_refl _
    · exact List.pairwise_iff_getElem.1 hs i j (by omega) (by omega) (by omega)
  have h := sortT_is (f := atL ys) ho (fun k hk => by rw [e k (by omega)]; exact hoy _ (List.getElem_mem _)) hsr (fun p => by rw [← hl, cnt_at_list p ys, hp.count_eq])
  refine List.ext_getElem (by rw [sortT_len, hl]) fun k h1 h2 => ?_
  have hk := h k (by omega)
  rw [e k h2] at hk
  rw [hk]
  unfold atL
  rw [List.getD_eq_getElem?_getD, List.getElem?_eq_getElem h1]; rfl
end Go.Proofs.YtjopcpoodhamcaaDoor
