/-
  The walks of the reference's l14Ahead, l14Sort. Conditions: none.
-/
import Derived.Test.YtjopcpoodhamcaaDoorIjn
import Derived.Deep.QuietTactic
import Derived.BigQuiet
import Derived.Deep.RegionHeld3
import Derived.Deep.RegionWith
namespace Go.Proofs.YtjopcpoodhamcaaDoor
set_option linter.unusedSimpArgs false
set_option linter.unusedVariables false
open Go.RowKit

set_option maxHeartbeats 1000000 in
theorem ahead_any (x y : Tm) (w : World) (hx : okT x) (hy : okT y) :
    Calls Tryd.prog 67 #[.agg #[.int .i64 x.1, .int .i64 x.2], .agg #[.int .i64 y.1, .int .i64 y.2]] w fun e w' => e = .returned (.bool (decide (key x < key y))) ∧ Below w.heap.size w w' := by
  have e : decide (key x < key y) = (decide (y.1 < x.1) || (decide (x.1 = y.1) && decide (y.2 < x.2))) := by
    rw [Bool.eq_iff_iff]
    unfold key okT at *
    simp
    omega
  rw [e]
  clear e hx hy
  rcases Int.lt_trichotomy y.1 x.1 with h | h | h
  · have q1 : decide (y.1 < x.1) = true := by simp; omega
    rw [show (decide (y.1 < x.1) || (decide (x.1 = y.1) && decide (y.2 < x.2))) = true by simp [q1]]
    go_enter Tryd.func67, Tryd.ntmps67
    go_wp2
    go_ret
    exact ⟨rfl, by (repeat' first | (with_reducible exact Below.refl _ _) | (with_reducible assumption) | (with_reducible refine below_drewN ?_ _) | (with_reducible refine Below.drew ?_) | (with_reducible refine Below.alloc ?_ ?_ _) | (with_reducible refine Below.setCell ?_ ?_ _) | (with_reducible refine Below.trans ?_ (Below.mono (by assumption) ?_)) | first | omega | (simp only [World.size_alloc, World.size_setCell, World.size_drew, size_drewN]; omega) | (simp; done) | (simp; omega) | (simp only [World.size_alloc, World.size_setCell, World.size_drew, size_drewN] at *; omega) | (simp at *; omega))⟩
  · have q1 : decide (y.1 < x.1) = false := by simp; omega
    have q2 : (x.1 == y.1) = true := by rw [beq_iff_eq]; omega
    have q3 : decide (x.1 = y.1) = true := by simp; omega
    by_cases h2 : y.2 < x.2
    · have q4 : decide (y.2 < x.2) = true := by simp; omega
      rw [show (decide (y.1 < x.1) || (decide (x.1 = y.1) && decide (y.2 < x.2))) = true by simp [q1, q3, q4]]
      go_enter Tryd.func67, Tryd.ntmps67
      go_wp2
      go_ret
      exact ⟨rfl, by (repeat' first | (with_reducible exact Below.refl _ _) | (with_reducible assumption) | (with_reducible refine below_drewN ?_ _) | (with_reducible refine Below.drew ?_) | (with_reducible refine Below.alloc ?_ ?_ _) | (with_reducible refine Below.setCell ?_ ?_ _) | (with_reducible refine Below.trans ?_ (Below.mono (by assumption) ?_)) | first | omega | (simp only [World.size_alloc, World.size_setCell, World.size_drew, size_drewN]; omega) | (simp; done) | (simp; omega) | (simp only [World.size_alloc, World.size_setCell, World.size_drew, size_drewN] at *; omega) | (simp at *; omega))⟩
    · have q4 : decide (y.2 < x.2) = false := by simp; omega
      rw [show (decide (y.1 < x.1) || (decide (x.1 = y.1) && decide (y.2 < x.2))) = false by simp [q1, q3, q4]]
      go_enter Tryd.func67, Tryd.ntmps67
      go_wp2
      go_ret
      exact ⟨rfl, by (repeat' first | (with_reducible exact Below.refl _ _) | (with_reducible assumption) | (with_reducible refine below_drewN ?_ _) | (with_reducible refine Below.drew ?_) | (with_reducible refine Below.alloc ?_ ?_ _) | (with_reducible refine Below.setCell ?_ ?_ _) | (with_reducible refine Below.trans ?_ (Below.mono (by assumption) ?_)) | first | omega | (simp only [World.size_alloc, World.size_setCell, World.size_drew, size_drewN]; omega) | (simp; done) | (simp; omega) | (simp only [World.size_alloc, World.size_setCell, World.size_drew, size_drewN] at *; omega) | (simp at *; omega))⟩
  · have q1 : decide (y.1 < x.1) = false := by simp; omega
    have q2 : (x.1 == y.1) = false := by rw [beq_eq_false_iff_ne]; omega
    have q3 : decide (x.1 = y.1) = false := by simp; omega
    rw [show (decide (y.1 < x.1) || (decide (x.1 = y.1) && decide (y.2 < x.2))) = false by simp [q1, q3]]
    go_enter Tryd.func67, Tryd.ntmps67
    go_wp2
    go_ret
    exact ⟨rfl, by (repeat' first | (with_reducible exact Below.refl _ _) | (with_reducible assumption) | (with_reducible refine below_drewN ?_ _) | (with_reducible refine Below.drew ?_) | (with_reducible refine Below.alloc ?_ ?_ _) | (with_reducible refine Below.setCell ?_ ?_ _) | (with_reducible refine Below.trans ?_ (Below.mono (by assumption) ?_)) | first | omega | (simp only [World.size_alloc, World.size_setCell, World.size_drew, size_drewN]; omega) | (simp; done) | (simp; omega) | (simp only [World.size_alloc, World.size_setCell, World.size_drew, size_drewN] at *; omega) | (simp at *; omega))⟩
/-- x at place q of T. -/
def insT (T : List Tm) (q : Nat) (x : Tm) : List Tm := T.take q ++ [x] ++ T.drop q
theorem insT_len {T : List Tm} {q : Nat} {x : Tm} (h : q ≤ T.length) : (insT T q x).length = T.length + 1 := by
  simp [insT]; omega
theorem insT_perm (T : List Tm) (q : Nat) (x : Tm) : (insT T q x).Perm (T ++ [x]) := by
  unfold insT
  have h1 : (T.take q ++ [x] ++ T.drop q).Perm (T.take q ++ (T.drop q ++ [x])) := by
    rw [List.append_assoc]
    exact (List.Perm.refl _).append List.perm_append_comm
  rwa [← List.append_assoc, List.take_append_drop] at h1
/-- The sorted list of one term more. -/
theorem ins_sort {xs : List Tm} {i q : Nat} {x : Tm} (ho : ∀ p ∈ xs, okT p) (hx : xs[i]? = some x) (hq : q ≤ (sortT (xs.take i)).length)
    (h1 : ∀ j p, q ≤ j → (sortT (xs.take i))[j]? = some p → key x < key p) (h2 : ∀ p, (sortT (xs.take i))[q - 1]? = some p → 0 < q → ¬ key x < key p) :
    sortT (xs.take (i + 1)) = insT (sortT (xs.take i)) q x := by
  have hx1 : xs.take (i + 1) = xs.take i ++ [x] := by rw [List.take_add_one, hx]; rfl
  refine sortT_eq (fun p hp => ho p (List.mem_of_mem_take hp)) ?_ ?_
  · rw [hx1]
    exact (insT_perm _ _ _).trans ((sortT_perm _).append (List.Perm.refl _))
  · have hpw := sortT_pw (xs.take i)
    obtain ⟨T, hT⟩ : ∃ T, T = sortT (xs.take i) := ⟨_, rfl⟩
    rw [← hT] at hpw h1 h2 hq ⊢
    unfold insT
    have hd : (T.take q ++ T.drop q).Pairwise fun a b => key a ≤ key b := by rw [List.take_append_drop]; exact hpw
    obtain ⟨d1, d2, d3⟩ := List.pairwise_append.1 hd
    have hA : ∀ a ∈ T.take q, key a ≤ key x := fun a ha => by
      obtain ⟨j, hj, e⟩ := List.getElem_of_mem ha
      have hjq : j < q := by rw [List.length_take] at hj; omega
      have hjT : j < T.length := by rw [List.length_take] at hj; omega
      have e1 : T[j]? = some a := by
        rw [List.getElem_take] at e
        rw [← e]
        exact List.getElem?_eq_getElem hjT
      obtain ⟨p, hp⟩ : ∃ p, T[q - 1]? = some p := ⟨_, List.getElem?_eq_getElem (by omega)⟩
      have h3 := h2 p hp (by omega)
      have e2 : T[j] = a := by have := List.getElem?_eq_getElem hjT; rw [e1] at this; simpa using this.symm
      have e3 : T[q - 1]'(by omega) = p := by have := List.getElem?_eq_getElem (l := T) (i := q - 1) (by omega); rw [hp] at this; simpa using this.symm
      by_cases c : j = q - 1
      · subst c
        rw [hp] at e1
        have : p = a := by simpa using e1
        rw [← this]; omega
      · have := List.pairwise_iff_getElem.1 hpw j (q - 1) hjT (by omega) (by omega)
        rw [e2, e3] at this
        omega
    have hB : ∀ b ∈ T.drop q, key x ≤ key b := fun b hb => by
      obtain ⟨j, hj, e⟩ := List.getElem_of_mem hb
      have hj2 : q + j < T.length := by rw [List.length_drop] at hj; omega
      rw [List.getElem_drop] at e
      have e1 : T[q + j]? = some b := by rw [← e]; exact List.getElem?_eq_getElem hj2
      have := h1 (q + j) b (by omega) e1
      omega
    refine List.pairwise_append.2 ⟨List.pairwise_append.2 ⟨d1, List.pairwise_singleton _ _, fun a ha b hb => ?_⟩, d2, fun a ha b hb => ?_⟩
    · have : b = x := by simpa using hb
      rw [this]; exact hA a ha
    · rcases List.mem_append.1 ha with ha | ha
      · exact d3 a ha b hb
      · have : a = x := by simpa using ha
        rw [this]; exact hB b hb
/-- An own row that is not nil. -/
theorem own_form {w : World} {base n : Nat} {v : Value} {xs : List Value} (h : w.ownsRow base 31 2 v n xs) (hn : v ≠ .slice none 0 0) : ∃ g c, v = .slice (some ⟨g, 0, none⟩) n c ∧ n ≤ c ∧ c ≤ maxLen := by
  rcases h.2 with ⟨e1, e2⟩ | ⟨g, cap, cur, rfl, hb, hh, hr, hm, hr2⟩
  · exact absurd e1 hn
  · exact ⟨g, cap, rfl, hr, hm⟩
theorem own_len {w : World} {base n : Nat} {v : Value} {xs : List Tm} (h : w.ownsRow base 31 2 v n (vS xs)) : w.ownsRow base 31 2 v xs.length (vS xs) := by
  have e := h.1
  rw [vS_length] at e
  obtain rfl : n = xs.length := by omega
  exact h
set_option maxRecDepth 20000 in
set_option maxHeartbeats 4000000 in
theorem sSort_any (v : Value) (xs : List Tm) (w : World) (hs : xs.length ≤ 1000) (h : RowI w v xs) (ho : ∀ p ∈ xs, okT p) :
    Calls Tryd.prog 55 #[v] w fun e w' => ∃ v', e = .returned v' ∧ RowL w' w.heap.size v' (sortT xs) ∧ Below w.heap.size w w' := by
  have HI := Lib.hid h
  have HO := Lib.hid ho
  obtain ⟨a, c, rfl⟩ := h.form
  clear h ho
  have hemp : (w.alloc (.cells #[] 31)).ownsRow w.heap.size 31 2 (.slice (some ⟨w.heap.size, 0, none⟩) 0 0) ([] : List Tm).length (vS []) := by
    have := World.ownsRow_made (base := w.heap.size) (e := 31) (size := 2) w #[] 0 (by simp) (by unfold maxLen; omega) rfl
    have h2 : (w.alloc (.cells #[] 31)).ownsRow w.heap.size 31 2 (.slice (some ⟨w.heap.size, 0, none⟩) 0 0) 0 [] := by simpa using this
    exact h2
  have HEmp := Lib.hid hemp
  clear hemp
  go_enter Tryd.func55, Tryd.ntmps55
  go_wp2
  go_loopw [3, 4] (fun v ii wr => ∃ i : Nat, i ≤ xs.length ∧ ii = .int .i64 i ∧ wr.ownsRow w.heap.size 31 2 v (sortT (xs.take i)).length (vS (sortT (xs.take i))) ∧ v ≠ .slice none 0 0 ∧ Below w.heap.size w wr)
    (fun _ ii _ => xs.length - (intOf ii).toNat)
  case atStart => exact ⟨0, Nat.zero_le _, by go_num, by rw [List.take_zero, sortT_nil]; exact HEmp.out, by simp, by (repeat' first | (with_reducible exact Below.refl _ _) | (with_reducible assumption) | (with_reducible refine below_drewN ?_ _) | (with_reducible refine Below.drew ?_) | (with_reducible refine Below.alloc ?_ ?_ _) | (with_reducible refine Below.setCell ?_ ?_ _) | (with_reducible refine Below.trans ?_ (Below.mono (by assumption) ?_)) | first | omega | (simp only [World.size_alloc, World.size_setCell, World.size_drew, size_drewN]; omega) | (simp; done) | (simp; omega) | (simp only [World.size_alloc, World.size_setCell, World.size_drew, size_drewN] at *; omega) | (simp at *; omega))⟩
  case round =>
    obtain ⟨i, hi, rfl, hown, hnn, hbel⟩ := hrel
    have i0' : (0 : Int) ≤ (i : Int) := Int.natCast_nonneg _
    have hbz := hbel.size
    have HBel := Lib.hid hbel
    obtain ⟨T, hT⟩ : ∃ T, T = sortT (xs.take i) := ⟨_, rfl⟩
    have hTl : T.length = i := by rw [hT, sortT_len, List.length_take]; omega
    rw [← hT] at hown
    have HT := Lib.hid hT
    have HTL := Lib.hid hTl
    have hT1000 : T.length ≤ 1000 := by omega
    obtain ⟨g, cp, rfl, hcap, hmx⟩ := own_form hown hnn
    have HOW := Lib.hid hown
    clear hown hT hTl
    by_cases hlt : i < xs.length
    · obtain ⟨ga, oa, ca', x, hva, hx, hga, r0, r1⟩ := (HI.out.below hbel).get hlt
      simp only [Value.slice.injEq, true_and] at hva
      obtain ⟨rfl, rfl⟩ := hva
      have HX := Lib.hid hx
      have i1' : (i : Int) < (xs.length : Int) := by omega
      clear hx hbel
      obtain ⟨Wo, hWo⟩ : ∃ W, W = wr := ⟨wr, rfl⟩
      subst hWo
      have HTA := Lib.hid (show g < Wo.heap.size ∧ TmOf Wo g 0 T from by
        rcases rowI_own HOW.out with ⟨e, -⟩ | ⟨g', o', c', e, h1, h2⟩
        · simp at e
        · simp only [Value.slice.injEq, Option.some.injEq, Addr.mk.injEq, and_true, true_and] at e
          obtain ⟨⟨rfl, rfl⟩, -⟩ := e
          exact ⟨h1, h2⟩)
      have hgo := HTA.out.1
      have HOX : Hid (okT x) := Lib.hid (HO.out x (List.mem_of_getElem? HX.out))
      have HOT : Hid (∀ p ∈ T, okT p) := Lib.hid (fun p hp => by rw [HT.out] at hp; exact sortT_ok (fun p hp => HO.out p (List.mem_of_mem_take hp)) p hp)
      go_wp2
      go_loopw [5] (fun qq wr => ∃ q : Nat, q ≤ T.length ∧ qq = .int .i64 q ∧ (∀ j p, q ≤ j → T[j]? = some p → key x < key p) ∧ Below Wo.heap.size Wo wr) (fun qq _ => (intOf qq).toNat)
      case atStart =>
        refine ⟨T.length, Nat.le_refl _, by go_num, fun j p hj hp => ?_, Below.refl _ _⟩
        have := (List.getElem?_eq_some_iff.1 hp).1
        omega
      case round =>
        obtain ⟨q, hq, rfl, hbeh, hbel1⟩ := hrel
        have hb1z := hbel1.size
        have HBEH := Lib.hid hbeh
        clear hbeh
        have s0 := (hbel1.cell (p := ⟨ga, oa + i * 2, none⟩) hga).trans r0
        have s1 := (hbel1.cell (p := ⟨ga, oa + i * 2 + 1, none⟩) hga).trans r1
        rcases Nat.eq_zero_or_pos q with hq0 | hqp
        · have d0 : decide (0 < (q : Int)) = false := by simp; omega
          have d0b : decide (0 < q) = false := by simp; omega
          have HQ0 := Lib.hid hq0
          clear hq0
          go_wp2
          go_quiet (fail)
          have HR1 : Hid (∀ W', Below Wo.heap.size Wo W' → RowI W' (.slice (some ⟨g, 0, none⟩) q cp) (T.take q)) := Lib.hid (fun W' hb => .inr ⟨g, 0, cp, by rw [List.length_take, Nat.min_eq_left (by omega)], Nat.lt_of_lt_of_le hgo hb.size, (HTA.out.2.below hb hgo).take q⟩)
          obtain ⟨AD, hAD, HR2⟩ : ∃ AD : Addr, (if cp = q then some (⟨g, 0, none⟩ : Addr) else some ⟨g, q * 2, none⟩) = some AD ∧ Hid (∀ W', Below Wo.heap.size Wo W' → RowI W' (.slice (some AD) (T.length - q) (cp - q)) (T.drop q)) := by
            by_cases hc : cp = q
            · refine ⟨⟨g, 0, none⟩, by rw [if_pos hc], Lib.hid (fun W' hb => .inr ⟨g, 0, cp - q, by rw [List.length_drop], Nat.lt_of_lt_of_le hgo hb.size, fun j p hp => ?_⟩)⟩
              have := (List.getElem?_eq_some_iff.1 hp).1
              rw [List.length_drop] at this
              omega
            · refine ⟨⟨g, q * 2, none⟩, by rw [if_neg hc], Lib.hid (fun W' hb => .inr ⟨g, q * 2, cp - q, by rw [List.length_drop], Nat.lt_of_lt_of_le hgo hb.size, ?_⟩)⟩
              have := (HTA.out.2.below hb hgo).drop q
              rwa [Nat.zero_add] at this
          have HEM : Hid (∀ W : World, Wo.heap.size ≤ W.heap.size → (W.alloc (.cells #[] 31)).ownsRow Wo.heap.size 31 2 (.slice (some ⟨W.heap.size, 0, none⟩) 0 0) ([] : List Tm).length (vS [])) := Lib.hid (fun W hW => by
            have := World.ownsRow_made (base := Wo.heap.size) (e := 31) (size := 2) W #[] 0 hW (by unfold maxLen; omega) rfl
            have h2 : (W.alloc (.cells #[] 31)).ownsRow Wo.heap.size 31 2 (.slice (some ⟨W.heap.size, 0, none⟩) 0 0) 0 [] := by simpa using this
            exact h2)
          have HBX : Hid (Below Wo.heap.size Wo (wr.drewN nq)) := Lib.hid (by have := hbel1; (repeat' first | (with_reducible exact Below.refl _ _) | (with_reducible assumption) | (with_reducible refine below_drewN ?_ _) | (with_reducible refine Below.drew ?_) | (with_reducible refine Below.alloc ?_ ?_ _) | (with_reducible refine Below.setCell ?_ ?_ _) | (with_reducible refine Below.trans ?_ (Below.mono (by assumption) ?_)) | first | omega | (simp only [World.size_alloc, World.size_setCell, World.size_drew, size_drewN]; omega) | (simp; done) | (simp; omega) | (simp only [World.size_alloc, World.size_setCell, World.size_drew, size_drewN] at *; omega) | (simp at *; omega)))
          have HBY : Hid (Below w.heap.size w (wr.drewN nq)) := Lib.hid (HBel.out.trans (HBX.out.mono (by omega)))
          have hWz := HBX.out.size
          have u0 := (HBX.out.cell (p := ⟨ga, oa + i * 2, none⟩) hga).trans r0
          have u1 := (HBX.out.cell (p := ⟨ga, oa + i * 2 + 1, none⟩) hga).trans r1
          have HSRT := Lib.hid (show sortT (xs.take (i + 1)) = insT T q x from by
            rw [HT.out]
            exact ins_sort HO.out HX.out (by rw [← HT.out]; omega) (by rw [← HT.out]; exact HBEH.out) (by rw [← HT.out]; intro p hp h0; have := HQ0.out; omega))
          have c0 : (0 : Int) ≤ (q : Int) := Int.natCast_nonneg _
          have c1 : (q : Int) ≤ (T.length : Int) := by omega
          have c2 : (q : Int) ≤ (cp : Int) := by omega
          clear hbel1
          go_wp2_with (first | (at_builtin; refine wpl_app rfl _ _ rfl Wo.heap.size _ _ [] (T.take q) rfl (HEM.out _ (by omega)) rfl (HR1.out _ (HBX.out.alloc (by omega) _)) ?c1 ?c2 ?_))
          case c1 => simp; omega
          case c2 => first | omega | (simp; omega)
          intro v8 w8 hown8 hgrow8 _ hnil8
          have hz8 := hgrow8.size
          simp only [World.size_alloc] at hz8
          have HB8 : Hid (Below Wo.heap.size Wo w8) := Lib.hid (Below.grown (HBX.out.alloc (by omega) _) hgrow8 (by simp; omega) (fun k hk => by simp [Value.ownBlock] at hk; omega))
          have HO8 : Hid (w8.ownsRow Wo.heap.size 31 2 v8 (T.take q).length (vS (T.take q))) := Lib.hid (own_len hown8)
          have HN8 : Hid (v8 ≠ .slice none 0 0) := Lib.hid (fun e => by have := hnil8 e; simp at this)
          have t8 := (HB8.out.cell (p := ⟨ga, oa + i * 2, none⟩) hga).trans r0
          have t9 := (HB8.out.cell (p := ⟨ga, oa + i * 2 + 1, none⟩) hga).trans r1
          clear hown8 hgrow8 hnil8
          have HIN9 : Hid (RowI (w8.alloc (.cells #[.int .i64 x.1, .int .i64 x.2] 31)) (.slice (some ⟨w8.heap.size, 0, none⟩) 1 1) [x]) := Lib.hid (.inr ⟨w8.heap.size, 0, 1, rfl, by simp, fun j p hp => by
            match j, hp with
            | 0, hp => simp at hp; subst hp; exact ⟨by simp, by simp⟩
            | j + 1, hp => simp at hp⟩)
          go_wp2_with (first | (at_builtin; refine wpl_app rfl _ _ rfl Wo.heap.size _ _ (T.take q) [x] rfl (HO8.out.alloc _) rfl HIN9.out ?c1 ?c2 ?_))
          case c1 => simp; omega
          case c2 => first | omega | (simp; omega)
          intro v9 w9 hown9 hgrow9 _ hnil9
          have hz9 := hgrow9.size
          simp only [World.size_alloc] at hz9
          have HB9 : Hid (Below Wo.heap.size Wo w9) := Lib.hid (Below.grown (HB8.out.alloc (by omega) _) hgrow9 (by simp; omega) (fun k hk => (HO8.out.lt k hk).1))
          have HO9 : Hid (w9.ownsRow Wo.heap.size 31 2 v9 (T.take q ++ [x]).length (vS (T.take q ++ [x]))) := Lib.hid (own_len hown9)
          have HN9 : Hid (v9 ≠ .slice none 0 0) := Lib.hid (fun e => HN8.out (hnil9 e))
          clear hown9 hgrow9 hnil9 t8 t9 u0 u1
          go_wp2_with (first | (at_builtin; refine wpl_app rfl _ _ rfl Wo.heap.size _ _ (T.take q ++ [x]) (T.drop q) rfl HO9.out rfl (HR2.out _ HB9.out) ?c1 ?c2 ?_))
          case c1 => simp; omega
          case c2 => first | omega | (simp; omega)
          intro v10 w10 hown10 hgrow10 _ hnil10
          have hz10 := hgrow10.size
          have HB10 : Hid (Below Wo.heap.size Wo w10) := Lib.hid (Below.grown HB9.out hgrow10 (by omega) (fun k hk => (HO9.out.lt k hk).1))
          have HO10 : Hid (w10.ownsRow Wo.heap.size 31 2 v10 (insT T q x).length (vS (insT T q x))) := Lib.hid (by first | exact own_len hown10 | (have h := own_len hown10; simpa [insT] using h))
          have HN10 : Hid (v10 ≠ .slice none 0 0) := Lib.hid (fun e => HN9.out (hnil10 e))
          clear hown10 hgrow10 hnil10
          go_wp2
          go_roundw
          case rel => exact ⟨i + 1, hlt, by go_num, by rw [HSRT.out]; exact row_mono HO10.out (by omega), HN10.out, HBel.out.trans (HB10.out.mono (by omega))⟩
          case measure => simp [intOf]; omega
        · obtain ⟨k, hk⟩ : ∃ k, k = q - 1 := ⟨_, rfl⟩
          have HKQ := Lib.hid hk
          obtain ⟨y, hy⟩ : ∃ y, T[k]? = some y := ⟨_, List.getElem?_eq_getElem (by omega)⟩
          obtain ⟨t0, t1⟩ := HTA.out.2 k y hy
          rw [Nat.zero_add] at t0 t1
          have t0' := (hbel1.cell (p := ⟨g, k * 2, none⟩) hgo).trans t0
          have t1' := (hbel1.cell (p := ⟨g, k * 2 + 1, none⟩) hgo).trans t1
          have HY := Lib.hid hy
          have KA : ∀ W, Calls Tryd.prog 67 #[.agg #[.int .i64 x.1, .int .i64 x.2], .agg #[.int .i64 y.1, .int .i64 y.2]] W fun e w' => e = .returned (.bool (decide (key x < key y))) ∧ Below W.heap.size W w' := fun W => ahead_any x y W HOX.out (HOT.out y (List.mem_of_getElem? hy))
          have k0 : (0 : Int) ≤ (k : Int) := Int.natCast_nonneg _
          have k1 : (k : Int) < (T.length : Int) := by omega
          have d1 : decide (0 < (q : Int)) = true := by simp; omega
          have d1b : decide (0 < q) = true := by simp; omega
          have e1 : (q : Int) - 1 = (k : Int) := by omega
          have q2 : IntKind.i64.wrap (k : Int) = (k : Int) := IntWalk.i64_in _ (by omega)
          have q1 : IntKind.i64.wrap ((q : Int) - 1) = (k : Int) := by rw [e1]; exact q2
          have HKA := Lib.hid KA
          have HQP := Lib.hid hqp
          clear hy t0 t1 KA hk hqp
          by_cases hk : key x < key y
          · have hkd : decide (key x < key y) = true := by simp [hk]
            rw [hkd] at HKA
            have HK := Lib.hid hk
            clear hk hkd
            go_wp2
            go_region_held3 (fun w' => w'.cell? ⟨g, k * 2, none⟩ = some (.int .i64 y.1) ∧ w'.cell? ⟨g, k * 2 + 1, none⟩ = some (.int .i64 y.2) ∧
                w'.cell? ⟨ga, oa + i * 2, none⟩ = some (.int .i64 x.1) ∧ w'.cell? ⟨ga, oa + i * 2 + 1, none⟩ = some (.int .i64 x.2) ∧ Wo.heap.size ≤ w'.heap.size ∧ Below Wo.heap.size Wo w')
              (first | (simp (disch := first | omega | (simp; done) | (simp; omega)) [go_sem, *]; done) | ((repeat' first | (with_reducible exact Below.refl _ _) | (with_reducible assumption) | (with_reducible refine below_drewN ?_ _) | (with_reducible refine Below.drew ?_) | (with_reducible refine Below.alloc ?_ ?_ _) | (with_reducible refine Below.setCell ?_ ?_ _) | (with_reducible refine Below.trans ?_ (Below.mono (by assumption) ?_)) | first | omega | (simp only [World.size_alloc, World.size_setCell, World.size_drew, size_drewN]; omega) | (simp; done) | (simp; omega) | (simp only [World.size_alloc, World.size_setCell, World.size_drew, size_drewN] at *; omega) | (simp at *; omega)); done) | ((try go_split_ands); (refine ⟨?_, ?_, ?_, ?_, ?_, ?_⟩ <;> first | omega | (simp only [World.size_alloc, World.size_setCell, World.size_drew, size_drewN]; omega) | (simp (disch := first | omega | (simp; done) | (simp; omega)) [go_sem, *]; done) | ((repeat' first | (with_reducible exact Below.refl _ _) | (with_reducible assumption) | (with_reducible refine below_drewN ?_ _) | (with_reducible refine Below.drew ?_) | (with_reducible refine Below.alloc ?_ ?_ _) | (with_reducible refine Below.setCell ?_ ?_ _) | (with_reducible refine Below.trans ?_ (Below.mono (by assumption) ?_)) | first | omega | (simp only [World.size_alloc, World.size_setCell, World.size_drew, size_drewN]; omega) | (simp; done) | (simp; omega) | (simp only [World.size_alloc, World.size_setCell, World.size_drew, size_drewN] at *; omega) | (simp at *; omega)); done))))
              (first | (go_at_call 67; refine (HKA.out _).mono ?_; rintro e w5 ⟨rfl, hb5⟩; obtain ⟨hc5, hf5⟩ := bcell hb5; have hz5 := hb5.size; (try simp only [World.size_alloc, World.size_setCell, World.size_drew, size_drewN] at hz5 hc5 hf5)))
            have hB5 : Below Wo.heap.size Wo w5 := by (repeat' first | (with_reducible exact Below.refl _ _) | (with_reducible assumption) | (with_reducible refine below_drewN ?_ _) | (with_reducible refine Below.drew ?_) | (with_reducible refine Below.alloc ?_ ?_ _) | (with_reducible refine Below.setCell ?_ ?_ _) | (with_reducible refine Below.trans ?_ (Below.mono (by assumption) ?_)) | first | omega | (simp only [World.size_alloc, World.size_setCell, World.size_drew, size_drewN]; omega) | (simp; done) | (simp; omega) | (simp only [World.size_alloc, World.size_setCell, World.size_drew, size_drewN] at *; omega) | (simp at *; omega))
            clear hbel1 hb5 t0' t1' hc5 hf5 s0 s1
            go_wp2
            go_roundw
            case rel =>
              refine ⟨k, by omega, by go_num, fun j p hj hp => ?_, hB5⟩
              by_cases c : j = k
              · subst c
                have := HY.out.symm.trans hp
                simp at this
                rw [← this]; exact HK.out
              · exact HBEH.out j p (by have := HKQ.out; have := HQP.out; omega) hp
            case measure => simp [intOf]; omega
          · have hkd : decide (key x < key y) = false := by simp [hk]
            rw [hkd] at HKA
            have HK := Lib.hid hk
            clear hk hkd
            go_wp2
            go_region_held3 (fun w' => w'.cell? ⟨g, k * 2, none⟩ = some (.int .i64 y.1) ∧ w'.cell? ⟨g, k * 2 + 1, none⟩ = some (.int .i64 y.2) ∧
                w'.cell? ⟨ga, oa + i * 2, none⟩ = some (.int .i64 x.1) ∧ w'.cell? ⟨ga, oa + i * 2 + 1, none⟩ = some (.int .i64 x.2) ∧ Wo.heap.size ≤ w'.heap.size ∧ Below Wo.heap.size Wo w')
              (first | (simp (disch := first | omega | (simp; done) | (simp; omega)) [go_sem, *]; done) | ((repeat' first | (with_reducible exact Below.refl _ _) | (with_reducible assumption) | (with_reducible refine below_drewN ?_ _) | (with_reducible refine Below.drew ?_) | (with_reducible refine Below.alloc ?_ ?_ _) | (with_reducible refine Below.setCell ?_ ?_ _) | (with_reducible refine Below.trans ?_ (Below.mono (by assumption) ?_)) | first | omega | (simp only [World.size_alloc, World.size_setCell, World.size_drew, size_drewN]; omega) | (simp; done) | (simp; omega) | (simp only [World.size_alloc, World.size_setCell, World.size_drew, size_drewN] at *; omega) | (simp at *; omega)); done) | ((try go_split_ands); (refine ⟨?_, ?_, ?_, ?_, ?_, ?_⟩ <;> first | omega | (simp only [World.size_alloc, World.size_setCell, World.size_drew, size_drewN]; omega) | (simp (disch := first | omega | (simp; done) | (simp; omega)) [go_sem, *]; done) | ((repeat' first | (with_reducible exact Below.refl _ _) | (with_reducible assumption) | (with_reducible refine below_drewN ?_ _) | (with_reducible refine Below.drew ?_) | (with_reducible refine Below.alloc ?_ ?_ _) | (with_reducible refine Below.setCell ?_ ?_ _) | (with_reducible refine Below.trans ?_ (Below.mono (by assumption) ?_)) | first | omega | (simp only [World.size_alloc, World.size_setCell, World.size_drew, size_drewN]; omega) | (simp; done) | (simp; omega) | (simp only [World.size_alloc, World.size_setCell, World.size_drew, size_drewN] at *; omega) | (simp at *; omega)); done))))
              (first | (go_at_call 67; refine (HKA.out _).mono ?_; rintro e w5 ⟨rfl, hb5⟩; obtain ⟨hc5, hf5⟩ := bcell hb5; have hz5 := hb5.size; (try simp only [World.size_alloc, World.size_setCell, World.size_drew, size_drewN] at hz5 hc5 hf5)))
            have hB5 : Below Wo.heap.size Wo w5 := by (repeat' first | (with_reducible exact Below.refl _ _) | (with_reducible assumption) | (with_reducible refine below_drewN ?_ _) | (with_reducible refine Below.drew ?_) | (with_reducible refine Below.alloc ?_ ?_ _) | (with_reducible refine Below.setCell ?_ ?_ _) | (with_reducible refine Below.trans ?_ (Below.mono (by assumption) ?_)) | first | omega | (simp only [World.size_alloc, World.size_setCell, World.size_drew, size_drewN]; omega) | (simp; done) | (simp; omega) | (simp only [World.size_alloc, World.size_setCell, World.size_drew, size_drewN] at *; omega) | (simp at *; omega))
            clear hbel1 hb5 t0' t1' hc5 hf5 s0 s1
            have HR1 : Hid (∀ W', Below Wo.heap.size Wo W' → RowI W' (.slice (some ⟨g, 0, none⟩) q cp) (T.take q)) := Lib.hid (fun W' hb => .inr ⟨g, 0, cp, by rw [List.length_take, Nat.min_eq_left (by omega)], Nat.lt_of_lt_of_le hgo hb.size, (HTA.out.2.below hb hgo).take q⟩)
            obtain ⟨AD, hAD, HR2⟩ : ∃ AD : Addr, (if cp = q then some (⟨g, 0, none⟩ : Addr) else some ⟨g, q * 2, none⟩) = some AD ∧ Hid (∀ W', Below Wo.heap.size Wo W' → RowI W' (.slice (some AD) (T.length - q) (cp - q)) (T.drop q)) := by
              by_cases hc : cp = q
              · refine ⟨⟨g, 0, none⟩, by rw [if_pos hc], Lib.hid (fun W' hb => .inr ⟨g, 0, cp - q, by rw [List.length_drop], Nat.lt_of_lt_of_le hgo hb.size, fun j p hp => ?_⟩)⟩
                have := (List.getElem?_eq_some_iff.1 hp).1
                rw [List.length_drop] at this
                omega
              · refine ⟨⟨g, q * 2, none⟩, by rw [if_neg hc], Lib.hid (fun W' hb => .inr ⟨g, q * 2, cp - q, by rw [List.length_drop], Nat.lt_of_lt_of_le hgo hb.size, ?_⟩)⟩
                have := (HTA.out.2.below hb hgo).drop q
                rwa [Nat.zero_add] at this
            have HEM : Hid (∀ W : World, Wo.heap.size ≤ W.heap.size → (W.alloc (.cells #[] 31)).ownsRow Wo.heap.size 31 2 (.slice (some ⟨W.heap.size, 0, none⟩) 0 0) ([] : List Tm).length (vS [])) := Lib.hid (fun W hW => by
              have := World.ownsRow_made (base := Wo.heap.size) (e := 31) (size := 2) W #[] 0 hW (by unfold maxLen; omega) rfl
              have h2 : (W.alloc (.cells #[] 31)).ownsRow Wo.heap.size 31 2 (.slice (some ⟨W.heap.size, 0, none⟩) 0 0) 0 [] := by simpa using this
              exact h2)
            have HBX : Hid (Below Wo.heap.size Wo w5) := Lib.hid (by have := hB5; (repeat' first | (with_reducible exact Below.refl _ _) | (with_reducible assumption) | (with_reducible refine below_drewN ?_ _) | (with_reducible refine Below.drew ?_) | (with_reducible refine Below.alloc ?_ ?_ _) | (with_reducible refine Below.setCell ?_ ?_ _) | (with_reducible refine Below.trans ?_ (Below.mono (by assumption) ?_)) | first | omega | (simp only [World.size_alloc, World.size_setCell, World.size_drew, size_drewN]; omega) | (simp; done) | (simp; omega) | (simp only [World.size_alloc, World.size_setCell, World.size_drew, size_drewN] at *; omega) | (simp at *; omega)))
            have HBY : Hid (Below w.heap.size w w5) := Lib.hid (HBel.out.trans (HBX.out.mono (by omega)))
            have hWz := HBX.out.size
            have u0 := (HBX.out.cell (p := ⟨ga, oa + i * 2, none⟩) hga).trans r0
            have u1 := (HBX.out.cell (p := ⟨ga, oa + i * 2 + 1, none⟩) hga).trans r1
            have HSRT := Lib.hid (show sortT (xs.take (i + 1)) = insT T q x from by
              rw [HT.out]
              exact ins_sort HO.out HX.out (by rw [← HT.out]; omega) (by rw [← HT.out]; exact HBEH.out) (by rw [← HT.out]; intro p hp h0; rw [← HKQ.out, HY.out] at hp; simp at hp; rw [← hp]; have := HK.out; omega))
            have c0 : (0 : Int) ≤ (q : Int) := Int.natCast_nonneg _
            have c1 : (q : Int) ≤ (T.length : Int) := by omega
            have c2 : (q : Int) ≤ (cp : Int) := by omega
            skip
            go_wp2_with (first | (at_builtin; refine wpl_app rfl _ _ rfl Wo.heap.size _ _ [] (T.take q) rfl (HEM.out _ (by omega)) rfl (HR1.out _ (HBX.out.alloc (by omega) _)) ?c1 ?c2 ?_))
            case c1 => simp; omega
            case c2 => first | omega | (simp; omega)
            intro v8 w8 hown8 hgrow8 _ hnil8
            have hz8 := hgrow8.size
            simp only [World.size_alloc] at hz8
            have HB8 : Hid (Below Wo.heap.size Wo w8) := Lib.hid (Below.grown (HBX.out.alloc (by omega) _) hgrow8 (by simp; omega) (fun k hk => by simp [Value.ownBlock] at hk; omega))
            have HO8 : Hid (w8.ownsRow Wo.heap.size 31 2 v8 (T.take q).length (vS (T.take q))) := Lib.hid (own_len hown8)
            have HN8 : Hid (v8 ≠ .slice none 0 0) := Lib.hid (fun e => by have := hnil8 e; simp at this)
            have t8 := (HB8.out.cell (p := ⟨ga, oa + i * 2, none⟩) hga).trans r0
            have t9 := (HB8.out.cell (p := ⟨ga, oa + i * 2 + 1, none⟩) hga).trans r1
            clear hown8 hgrow8 hnil8
            have HIN9 : Hid (RowI (w8.alloc (.cells #[.int .i64 x.1, .int .i64 x.2] 31)) (.slice (some ⟨w8.heap.size, 0, none⟩) 1 1) [x]) := Lib.hid (.inr ⟨w8.heap.size, 0, 1, rfl, by simp, fun j p hp => by
              match j, hp with
              | 0, hp => simp at hp; subst hp; exact ⟨by simp, by simp⟩
              | j + 1, hp => simp at hp⟩)
            go_wp2_with (first | (at_builtin; refine wpl_app rfl _ _ rfl Wo.heap.size _ _ (T.take q) [x] rfl (HO8.out.alloc _) rfl HIN9.out ?c1 ?c2 ?_))
            case c1 => simp; omega
            case c2 => first | omega | (simp; omega)
            intro v9 w9 hown9 hgrow9 _ hnil9
            have hz9 := hgrow9.size
            simp only [World.size_alloc] at hz9
            have HB9 : Hid (Below Wo.heap.size Wo w9) := Lib.hid (Below.grown (HB8.out.alloc (by omega) _) hgrow9 (by simp; omega) (fun k hk => (HO8.out.lt k hk).1))
            have HO9 : Hid (w9.ownsRow Wo.heap.size 31 2 v9 (T.take q ++ [x]).length (vS (T.take q ++ [x]))) := Lib.hid (own_len hown9)
            have HN9 : Hid (v9 ≠ .slice none 0 0) := Lib.hid (fun e => HN8.out (hnil9 e))
            clear hown9 hgrow9 hnil9 t8 t9 u0 u1
            go_wp2_with (first | (at_builtin; refine wpl_app rfl _ _ rfl Wo.heap.size _ _ (T.take q ++ [x]) (T.drop q) rfl HO9.out rfl (HR2.out _ HB9.out) ?c1 ?c2 ?_))
            case c1 => simp; omega
            case c2 => first | omega | (simp; omega)
            intro v10 w10 hown10 hgrow10 _ hnil10
            have hz10 := hgrow10.size
            have HB10 : Hid (Below Wo.heap.size Wo w10) := Lib.hid (Below.grown HB9.out hgrow10 (by omega) (fun k hk => (HO9.out.lt k hk).1))
            have HO10 : Hid (w10.ownsRow Wo.heap.size 31 2 v10 (insT T q x).length (vS (insT T q x))) := Lib.hid (by first | exact own_len hown10 | (have h := own_len hown10; simpa [insT] using h))
            have HN10 : Hid (v10 ≠ .slice none 0 0) := Lib.hid (fun e => HN9.out (hnil10 e))
            clear hown10 hgrow10 hnil10
            go_wp2
            go_roundw
            case rel => exact ⟨i + 1, hlt, by go_num, by rw [HSRT.out]; exact row_mono HO10.out (by omega), HN10.out, HBel.out.trans (HB10.out.mono (by omega))⟩
            case measure => simp [intOf]; omega
    · obtain rfl : i = xs.length := by omega
      have hTs : T = sortT xs := by rw [HT.out, List.take_length]
      have HTS := Lib.hid hTs
      have HRR := Lib.hid (rowR_own HOW.out)
      clear hTs
      go_wp2
      go_ret
      refine ⟨_, rfl, ?_, hbel⟩
      rw [← HTS.out]
      rcases HRR.out with ⟨e, -⟩ | h
      · exact absurd e hnn
      · exact h
end Go.Proofs.YtjopcpoodhamcaaDoor
