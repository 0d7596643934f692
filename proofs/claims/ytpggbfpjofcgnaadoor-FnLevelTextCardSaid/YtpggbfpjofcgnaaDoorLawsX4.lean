/-
  The walks of the laws FnLevelText and FnLevelFrom. Conditions: none.
-/
import Derived.Test.YtpggbfpjofcgnaaDoorTxt8
import Derived.Test.YtpggbfpjofcgnaaDoorLawsX3
namespace Go.Proofs.YtpggbfpjofcgnaaDoor
set_option linter.unusedSimpArgs false
set_option linter.unusedVariables false
open Go.RowKit

theorem lv_at {s l j : Int} (h : lvB s l j = true) : tvB s l = true ∧ ∃ k : Nat, k < (lvJs s l).length ∧ j = absd (2 * l) s + 2 * (k : Int) := by
  obtain ⟨h1, h2⟩ := lvB_true h
  obtain ⟨q1, q2, q3, q4⟩ := lvJs_yes h1
  have b := tvB_true h1
  have t := triB_true h2
  refine ⟨h1, ((j - absd (2 * l) s) / 2).toNat, ?_, ?_⟩
  · rw [q4, steps_length]
    unfold absd cMany
    split <;> omega
  · unfold absd
    split <;> omega
theorem lv_of {s l : Int} {k : Nat} (hk : k < (lvJs s l).length) : (lvJs s l)[k]? = some (absd (2 * l) s + 2 * (k : Int)) := by
  have e : (lvJs s l)[k]? = some (lvJs s l)[k] := List.getElem?_eq_getElem hk
  rw [e, (lvJs_get e).2.1]
theorem inj_fin : ((List.range 25).all fun a => (List.range 25).all fun b => (decide (a = b) || !decide (txJ a = txJ b)) && !decide (txJ a = txJ b ++ ⟨#[111]⟩)) = true := by decide +kernel
theorem txJ_inj {a b : Int} (a0 : 0 ≤ a) (a1 : a ≤ 24) (b0 : 0 ≤ b) (b1 : b ≤ 24) : (txJ a = txJ b → a = b) ∧ txJ a ≠ txJ b ++ ⟨#[111]⟩ := by
  obtain ⟨a, rfl⟩ := Int.eq_ofNat_of_zero_le a0
  obtain ⟨b, rfl⟩ := Int.eq_ofNat_of_zero_le b0
  have h1 := List.all_eq_true.1 (List.all_eq_true.1 inj_fin a (List.mem_range.2 (by omega))) b (List.mem_range.2 (by omega))
  simp only [Bool.and_eq_true, Bool.or_eq_true, decide_eq_true_eq, Bool.not_eq_true', decide_eq_false_iff_not] at h1
  refine ⟨fun e => ?_, h1.2⟩
  rcases h1.1 with h | h
  · rw [h]
  · exact absurd e h
theorem pre_app {a b : ByteArray} (h : a.size = 2) : preB (a ++ b) = a := by
  unfold preB
  have := ByteArray.extract_append_eq_left (a := a) (b := b) (i := 2) h.symm
  exact this
theorem rest_app {a b : ByteArray} (h : a.size = 2) : restB (a ++ b) = b := by
  have h1 := pre_rest (a ++ b) (by rw [ByteArray.size_append]; omega)
  rw [pre_app h] at h1
  exact app_left.1 h1
theorem txJ_pos {j : Int} (h0 : 0 ≤ j) (h1 : j ≤ 24) : 0 < (txJ j).size := by
  have := (txJ_inj h0 h1 h0 h1).2
  by_cases h : (txJ j).size = 0
  · obtain ⟨m, hm⟩ := Int.eq_ofNat_of_zero_le h0
    have hm' : j = (m : Int) := hm
    subst hm'
    rcases Nat.mod_two_eq_zero_or_one m with e | e
    · rw [show txJ ((m : Nat) : Int) = dec (m / 2) from txJ_even (m := m) (n := m / 2) (by omega)] at *
      by_cases h10 : m / 2 < 10
      · rw [dec_size h10]; omega
      · unfold dec
        rw [Lib.decDigits_two h10 (by omega)]
        exact Nat.zero_lt_succ _
    · rw [show txJ ((m : Nat) : Int) = dec m ++ ⟨#[47, 50]⟩ from txJ_odd e, ByteArray.size_append, half_size] at *
      omega
  · omega
theorem text_ok {s l : Int} (h : tvB s l = true) : okB (txT s l) = true ∧ chS (txT s l) = s ∧ chK (txT s l) = l := by
  have b := tvB_true h
  obtain ⟨s, rfl⟩ := Int.eq_ofNat_of_zero_le b.1
  obtain ⟨l, rfl⟩ := Int.eq_ofNat_of_zero_le b.2.2.1
  have h1 := List.all_eq_true.1 (List.all_eq_true.1 text_fin s (List.mem_range.2 (by omega))) l (List.mem_range.2 (by omega))
  simp only [Bool.and_eq_true, decide_eq_true_eq] at h1
  exact ⟨h1.1.1, h1.1.2, h1.2⟩
theorem textL_back {s l j : Int} (h : lvB s l j = true) : frL (txL s l j) = valL s l j true := by
  obtain ⟨ht, j0, j1⟩ := lv_bd h
  have hz := txT_size ht
  have hp := txJ_pos j0 j1
  obtain ⟨o1, o2, o3⟩ := text_ok ht
  have hpre : preB (txL s l j) = txT s l := pre_app hz
  have hrest : restB (txL s l j) = txJ j := rest_app hz
  obtain ⟨-, k0, hk0, hjk⟩ := lv_at h
  have hmem := lv_of hk0
  rw [← hjk] at hmem
  have hf : fndJ (lvJs s l) (txJ j) = some j := by
    rcases fndJ_cases (lvJs s l) (txJ j) with ⟨i, j', h1, h2, h3, h4⟩ | ⟨h1, h2⟩
    · obtain ⟨b0, b1, -⟩ := lvJs_txt h1
      rw [h4, (txJ_inj b0 b1 j0 j1).1 h2]
    · exact absurd rfl (h1 k0 j hmem)
  have := frL_some (bs := txL s l j) (j := j) (by unfold txL; rw [ByteArray.size_append]; omega) (by rw [hpre]; exact o1) (by rw [hpre, hrest, o2, o3]; exact hf)
  rw [hpre, o2, o3] at this
  exact this
theorem frL_cases (bs : ByteArray) : frL bs = valL 0 0 0 false ∨ ∃ S K j : Int, frL bs = valL S K j true ∧ lvB S K j = true ∧ txL S K j = bs ∧ frL (bs ++ ⟨#[111]⟩) = valL 0 0 0 false := by
  by_cases h3 : 3 ≤ bs.size
  · cases ho : okB (preB bs)
    · exact .inl (frL_no ho)
    · have htv := okB_tv ho
      rcases fndJ_cases (lvJs (chS (preB bs)) (chK (preB bs))) (restB bs) with ⟨i, j, h1, h2, h5, h4⟩ | ⟨h1, h2⟩
      · obtain ⟨b0, b1, b2⟩ := lvJs_txt h1
        refine .inr ⟨_, _, j, frL_some h3 ho h4, b2, (txL_eq h3 ho j).2 h2, ?_⟩
        have e := pre_rest bs (by omega)
        have hbs : bs ++ ⟨#[111]⟩ = preB bs ++ (restB bs ++ ⟨#[111]⟩) := by rw [← ByteArray.append_assoc, e]
        have ps := pre_size bs (by omega)
        have e1 : preB (bs ++ ⟨#[111]⟩) = preB bs := by rw [hbs]; exact pre_app ps
        have e2 : restB (bs ++ ⟨#[111]⟩) = restB bs ++ ⟨#[111]⟩ := by rw [hbs]; exact rest_app ps
        refine frL_none (by rw [ByteArray.size_append]; omega) (by rw [e1]; exact ho) ?_
        rw [e1, e2]
        rcases fndJ_cases (lvJs (chS (preB bs)) (chK (preB bs))) (restB bs ++ ⟨#[111]⟩) with ⟨i', j', g1, g2, -, -⟩ | ⟨-, g2⟩
        · obtain ⟨c0, c1, -⟩ := lvJs_txt g1
          rw [← h2] at g2
          exact absurd g2 (txJ_inj c0 c1 b0 b1).2
        · exact g2
      · exact .inl (frL_none h3 ho h2)
  · refine .inl ?_
    unfold frL
    rw [if_neg (by omega)]
end Go.Proofs.YtpggbfpjofcgnaaDoor
