import Derived.Test.YtjopcpoodhamcaaDoorValid
import Derived.Handy
import Derived.Deep.QuietTactic
import Derived.BigQuiet
import Derived.Test.YtjopcpoodhamcaaDoorGc
import Derived.Maps.AppendAt
/-
  The walks of spec.l12Ways, l12Ok, MicroCount. Conditions: none.
-/
namespace Go.Proofs.YtjopcpoodhamcaaDoor
set_option linter.unusedSimpArgs false
set_option linter.unusedVariables false
open Go.RowKit

def ways : Nat → Int → Int → Int → Int → Int
  | 0, _, n, o, s => if n = 0 ∧ o = 0 ∧ s = 0 then 1 else 0
  | k + 1, m, n, o, s => if n < 0 ∨ 2 * ((k : Int) + 1) < n then 0 else ways k (m + 1) n o s + ways k (m + 1) (n - 1) (o - m) (s - 1) + ways k (m + 1) (n - 1) (o - m) (s + 1) + ways k (m + 1) (n - 2) (o - 2 * m) s
theorem ways_bd : ∀ (k : Nat) (m n o s : Int), 0 ≤ ways k m n o s ∧ ways k m n o s ≤ ((4 ^ k : Nat) : Int)
  | 0, m, n, o, s => by unfold ways; split <;> simp
  | k + 1, m, n, o, s => by
    unfold ways
    have e : 4 ^ (k + 1) = 4 * 4 ^ k := by rw [Nat.pow_succ]; omega
    split
    · rw [e]; omega
    · have a := ways_bd k (m + 1) n o s
      have b := ways_bd k (m + 1) (n - 1) (o - m) (s - 1)
      have c := ways_bd k (m + 1) (n - 1) (o - m) (s + 1)
      have d := ways_bd k (m + 1) (n - 2) (o - 2 * m) s
      rw [e]; omega
theorem ways_le (k : Nat) (hk : k ≤ 5) (m n o s : Int) : 0 ≤ ways k m n o s ∧ ways k m n o s ≤ 1024 := by
  have h := ways_bd k m n o s
  have : (4 : Nat) ^ k ≤ 4 ^ 5 := Nat.pow_le_pow_right (by omega) hk
  omega
set_option maxRecDepth 20000 in
set_option maxHeartbeats 4000000 in
theorem ways_any : ∀ (k : Nat) (l m n o s : Int) (w : World), k ≤ 5 → 0 ≤ l → l ≤ 2 → l - m + 1 = (k : Int) → -2000 + 10 * (k : Int) ≤ n → n ≤ 2000 - 10 * (k : Int) → -2000 + 10 * (k : Int) ≤ o → o ≤ 2000 - 10 * (k : Int) → -2000 + 10 * (k : Int) ≤ s → s ≤ 2000 - 10 * (k : Int) →
    Calls Tryd.prog 76 #[.int .i64 l, .int .i64 m, .int .i64 n, .int .i64 o, .int .i64 s] w fun e w' => e = .returned (.int .i64 (ways k m n o s)) ∧ w = w'
  | 0, l, m, n, o, s, w, hk, h0, h2, hm, n0, n1, o0, o1, s0, s1 => by
    have hlm : l < m := by omega
    unfold ways
    by_cases hn : n = 0
    · subst hn
      by_cases ho : o = 0
      · subst ho
        by_cases hs : s = 0
        · subst hs
          go_enter Tryd.func76, Tryd.ntmps76
          go_wp2
          go_ret
          exact ⟨rfl, rfl⟩
        · have hs' : (s == 0) = false := by rw [beq_eq_false_iff_ne]; exact hs
          go_enter Tryd.func76, Tryd.ntmps76
          go_wp2
          go_ret
          exact ⟨ret_int (by simp [hs]), rfl⟩
      · have ho' : (o == 0) = false := by rw [beq_eq_false_iff_ne]; exact ho
        go_enter Tryd.func76, Tryd.ntmps76
        go_wp2
        go_ret
        exact ⟨ret_int (by simp [ho]), rfl⟩
    · have hn' : (n == 0) = false := by rw [beq_eq_false_iff_ne]; exact hn
      go_enter Tryd.func76, Tryd.ntmps76
      go_wp2
      go_ret
      exact ⟨ret_int (by simp [hn]), rfl⟩
  | k + 1, l, m, n, o, s, w, hk, h0, h2, hm, n0, n1, o0, o1, s0, s1 => by
    have hlm : m ≤ l := by omega
    have c1 := ways_any k l (m + 1) n o s
    have c2 := ways_any k l (m + 1) (n - 1) (o - m) (s - 1)
    have c3 := ways_any k l (m + 1) (n - 1) (o - m) (s + 1)
    have c4 := ways_any k l (m + 1) (n - 2) (o - 2 * m) s
    have b1 := ways_le k (by omega) (m + 1) n o s
    have b2 := ways_le k (by omega) (m + 1) (n - 1) (o - m) (s - 1)
    have b3 := ways_le k (by omega) (m + 1) (n - 1) (o - m) (s + 1)
    have b4 := ways_le k (by omega) (m + 1) (n - 2) (o - 2 * m) s
    have C1 := Lib.hid c1
    have C2 := Lib.hid c2
    have C3 := Lib.hid c3
    have C4 := Lib.hid c4
    clear c1 c2 c3 c4
    unfold ways
    by_cases hneg : n < 0
    · rw [if_pos (Or.inl hneg)]
      go_enter Tryd.func76, Tryd.ntmps76
      go_wp2
      go_ret
      exact ⟨rfl, rfl⟩
    · by_cases hbig : 2 * (l - m + 1) < n
      · rw [if_pos (Or.inr (by omega))]
        go_enter Tryd.func76, Tryd.ntmps76
        go_wp2
        go_ret
        exact ⟨rfl, rfl⟩
      · rw [if_neg (by omega)]
        go_enter Tryd.func76, Tryd.ntmps76
        go_wp2_with fail
        refine (C1.out _ (by omega) h0 h2 (by omega) (by omega) (by omega) (by omega) (by omega) (by omega) (by omega)).mono ?_
        rintro e w1 ⟨rfl, rfl⟩
        go_wp2_with fail
        refine (C2.out _ (by omega) h0 h2 (by omega) (by omega) (by omega) (by omega) (by omega) (by omega) (by omega)).mono ?_
        rintro e w1 ⟨rfl, rfl⟩
        go_wp2_with fail
        refine (C3.out _ (by omega) h0 h2 (by omega) (by omega) (by omega) (by omega) (by omega) (by omega) (by omega)).mono ?_
        rintro e w1 ⟨rfl, rfl⟩
        go_wp2_with fail
        refine (C4.out _ (by omega) h0 h2 (by omega) (by omega) (by omega) (by omega) (by omega) (by omega) (by omega)).mono ?_
        rintro e w1 ⟨rfl, rfl⟩
        go_wp2
        go_ret
        exact ⟨rfl, rfl⟩
end Go.Proofs.YtjopcpoodhamcaaDoor

/-
  The plain law: both ways of counting give the same. Conditions: none.
-/
namespace Go.Proofs.YtjopcpoodhamcaaDoor
set_option linter.unusedSimpArgs false
set_option linter.unusedVariables false
open Go.RowKit

/-- All choices for the projections from m on: how many, orbit, spin. -/
def conf : Nat → Int → List (Int × Int × Int)
  | 0, _ => [(0, 0, 0)]
  | k + 1, m => (conf k (m + 1)).flatMap fun x => [x, (x.1 + 1, x.2.1 + m, x.2.2 - 1), (x.1 + 1, x.2.1 + m, x.2.2 + 1), (x.1 + 2, x.2.1 + 2 * m, x.2.2)]
theorem conf_succ (k : Nat) (m : Int) : conf (k + 1) m = (conf k (m + 1)).flatMap fun x => [x, (x.1 + 1, x.2.1 + m, x.2.2 - 1), (x.1 + 1, x.2.1 + m, x.2.2 + 1), (x.1 + 2, x.2.1 + 2 * m, x.2.2)] := rfl
def cn (L : List (Int × Int × Int)) (n o s : Int) : Nat := L.countP fun x => decide (x.1 = n ∧ x.2.1 = o ∧ x.2.2 = s)
theorem cn_flat (m n o s : Int) : ∀ L : List (Int × Int × Int), cn (L.flatMap fun x => [x, (x.1 + 1, x.2.1 + m, x.2.2 - 1), (x.1 + 1, x.2.1 + m, x.2.2 + 1), (x.1 + 2, x.2.1 + 2 * m, x.2.2)]) n o s = cn L n o s + cn L (n - 1) (o - m) (s + 1) + cn L (n - 1) (o - m) (s - 1) + cn L (n - 2) (o - 2 * m) s
  | [] => rfl
  | x :: r => by
    have h := cn_flat m n o s r
    unfold cn at h ⊢
    rw [List.flatMap_cons, List.countP_append, h]
    simp only [List.countP_cons, List.countP_nil]
    have e1 : (x.1 + 1 = n ∧ x.2.1 + m = o ∧ x.2.2 - 1 = s) = (x.1 = n - 1 ∧ x.2.1 = o - m ∧ x.2.2 = s + 1) := propext (by omega)
    have e2 : (x.1 + 1 = n ∧ x.2.1 + m = o ∧ x.2.2 + 1 = s) = (x.1 = n - 1 ∧ x.2.1 = o - m ∧ x.2.2 = s - 1) := propext (by omega)
    have e3 : (x.1 + 2 = n ∧ x.2.1 + 2 * m = o ∧ x.2.2 = s) = (x.1 = n - 2 ∧ x.2.1 = o - 2 * m ∧ x.2.2 = s) := propext (by omega)
    simp only [e1, e2, e3]
    omega
theorem conf_bd : ∀ (k : Nat) (m : Int) (x : Int × Int × Int), x ∈ conf k m → 0 ≤ x.1 ∧ x.1 ≤ 2 * (k : Int)
  | 0, m, x, h => by simp [conf] at h; subst h; simp
  | k + 1, m, x, h => by
    unfold conf at h
    obtain ⟨y, hy, hx⟩ := List.mem_flatMap.1 h
    have b := conf_bd k (m + 1) y hy
    simp at hx
    rcases hx with rfl | rfl | rfl | rfl <;> simp <;> omega
theorem cn_zero (k : Nat) (m n o s : Int) (h : n < 0 ∨ 2 * (k : Int) < n) : cn (conf k m) n o s = 0 := by
  unfold cn
  rw [List.countP_eq_zero]
  intro x hx
  have b := conf_bd k m x hx
  simp
  intro e
  omega
theorem ways_is : ∀ (k : Nat) (m n o s : Int), ways k m n o s = (cn (conf k m) n o s : Int)
  | 0, m, n, o, s => by
    unfold ways conf cn
    by_cases h : n = 0 ∧ o = 0 ∧ s = 0
    · obtain ⟨rfl, rfl, rfl⟩ := h
      simp
    · rw [if_neg h]
      have h' : ¬ ((0 : Int) = n ∧ (0 : Int) = o ∧ (0 : Int) = s) := fun e => h ⟨e.1.symm, e.2.1.symm, e.2.2.symm⟩
      simp [h']
  | k + 1, m, n, o, s => by
    by_cases h : n < 0 ∨ 2 * ((k : Int) + 1) < n
    · rw [cn_zero (k + 1) m n o s (by omega)]
      unfold ways
      rw [if_pos h]; rfl
    · unfold ways
      rw [if_neg h, ways_is k, ways_is k, ways_is k, ways_is k]
      rw [conf_succ, cn_flat]
      omega
def trip (l : Int) (st : Nat) : Int × Int × Int := ((pop st : Int), orb l st, spn st)
theorem conf_is {l : Int} (h0 : 0 ≤ l) (h2 : l ≤ 2) : (List.range (cap l)).map (trip l) = conf (2 * l + 1).toNat (-l) := by
  refine three (p := fun l => (List.range (cap l)).map (trip l) = conf (2 * l + 1).toNat (-l)) h0 h2 ?_ ?_ ?_ <;> decide +kernel
theorem ways_cnt {l n : Int} (hv : eOk l n = true) (o s : Int) : ways (2 * l + 1).toNat (-l) n o s = cntM l n o s := by
  have b := eOk_true hv
  rw [ways_is, ← conf_is b.1 b.2.1]
  unfold cntM cntK cn mics micL
  rw [List.take_length, List.countP_map, List.countP_map, List.countP_filter]
  congr 1
  congr 1
  funext st
  simp only [Function.comp, trip]
  by_cases a : (pop st : Int) = n <;> simp [a]
end Go.Proofs.YtjopcpoodhamcaaDoor

/-
  The walks of spec.l12Ok, MicroCount. Conditions: none.
-/
namespace Go.Proofs.YtjopcpoodhamcaaDoor
set_option linter.unusedSimpArgs false
set_option linter.unusedVariables false
open Go.RowKit

def okS (l n : Int) : Bool := decide (0 ≤ l ∧ l ≤ 2 ∧ 0 ≤ n ∧ n ≤ 4 * l + 2)
set_option maxHeartbeats 1000000 in
theorem l12Ok_any (l n : Int) (w : World) :
    Calls Tryd.prog 56 #[.int .i64 l, .int .i64 n] w fun e w' => e = .returned (.bool (okS l n)) ∧ w = w' := by
  by_cases h : 0 ≤ l ∧ l ≤ 2
  · have e1 : inB l 0 2 = true := by simp [inB]; omega
    cases h2 : inB n 0 (4 * l + 2)
    · rw [show okS l n = false by simp [okS]; simp [inB] at h2; omega]
      go_enter Tryd.func56, Tryd.ntmps56
      go_wp2_with (go_at_call 64; refine (l6In_any _ _ _ _).mono ?_; rintro e w' ⟨rfl, rfl⟩)
      go_ret
      exact ⟨rfl, rfl⟩
    · rw [show okS l n = true by simp [okS]; simp [inB] at h2; omega]
      go_enter Tryd.func56, Tryd.ntmps56
      go_wp2_with (go_at_call 64; refine (l6In_any _ _ _ _).mono ?_; rintro e w' ⟨rfl, rfl⟩)
      go_ret
      exact ⟨rfl, rfl⟩
  · have e1 : inB l 0 2 = false := by simp [inB]; omega
    rw [show okS l n = false by simp [okS]; omega]
    go_enter Tryd.func56, Tryd.ntmps56
    go_wp2_with (go_at_call 64; refine (l6In_any _ _ _ _).mono ?_; rintro e w' ⟨rfl, rfl⟩)
    go_ret
    exact ⟨rfl, rfl⟩
theorem okS_true {l n : Int} (h : okS l n = true) : 0 ≤ l ∧ l ≤ 2 ∧ 0 ≤ n ∧ n ≤ 4 * l + 2 := by simpa [okS] using h
set_option maxHeartbeats 1000000 in
theorem sMicro_any (l n o s : Int) (w : World) (hv : okS l n = true) (o0 : -20 ≤ o) (o1 : o ≤ 20) (s0 : -20 ≤ s) (s1 : s ≤ 20) :
    Calls Tryd.prog 68 #[.int .i64 l, .int .i64 n, .int .i64 o, .int .i64 s] w fun e w' => e = .returned (.int .i64 (ways (2 * l + 1).toNat (-l) n o s)) ∧ w = w' := by
  have b := okS_true hv
  have e1 : inB o (-20) 20 = true := by simp [inB]; omega
  have e2 : inB s (-20) 20 = true := by simp [inB]; omega
  have hk : (((2 * l + 1).toNat : Nat) : Int) = 2 * l + 1 := by omega
  go_enter Tryd.func68, Tryd.ntmps68
  go_wp2_with (first | (go_at_call 64; refine (l6In_any _ _ _ _).mono ?_; rintro e w' ⟨rfl, rfl⟩) | (go_at_call 56; refine (l12Ok_any _ _ _).mono ?_; rintro e w' ⟨rfl, rfl⟩) | (go_at_call 76; refine (ways_any (2 * l + 1).toNat l (-l) n o s _ (by omega) (by omega) (by omega) (by omega) (by omega) (by omega) (by omega) (by omega) (by omega) (by omega)).mono ?_; rintro e w' ⟨rfl, rfl⟩))
  go_ret
  exact ⟨rfl, rfl⟩
end Go.Proofs.YtjopcpoodhamcaaDoor

/-
  The walk of spec.TermCount. Conditions: none.
-/
namespace Go.Proofs.YtjopcpoodhamcaaDoor
set_option linter.unusedSimpArgs false
set_option linter.unusedVariables false
open Go.RowKit

theorem ways_cm {l n : Int} (hv : eOk l n = true) {o s : Int} (o0 : 0 ≤ o) (o1 : o ≤ 9) (s0 : 0 ≤ s) (s1 : s ≤ 10) (w : World) :
    Calls Tryd.prog 68 #[.int .i64 l, .int .i64 n, .int .i64 o, .int .i64 s] w fun e w' => e = .returned (.int .i64 (cntM l n o s)) ∧ w = w' := by
  rw [← ways_cnt hv o s]
  exact sMicro_any l n o s w hv (by omega) (by omega) (by omega) (by omega)
set_option maxHeartbeats 2000000 in
theorem sTermCount_any (l n s k : Int) (w : World) :
    Calls Tryd.prog 57 #[.int .i64 l, .int .i64 n, .agg #[.int .i64 s, .int .i64 k]] w fun e w' => e = .returned (.int .i64 (tcF l n s k)) ∧ Below w.heap.size w w' := by
  cases h1 : tvB s k
  · rw [show tcF l n s k = -1 by simp [tcF, h1]]
    go_enter Tryd.func57, Tryd.ntmps57
    go_wp2_with (go_at_call 65; refine (sTermValid_any _ _ _).mono ?_; rintro e w1 ⟨rfl, hb1⟩; obtain ⟨hc1, hf1⟩ := bcell hb1; have hz1 := hb1.size; (try simp only [World.size_alloc, World.size_setCell, World.size_drew, size_drewN] at hz1 hc1 hf1); (have g1a : w.heap.size < w1.heap.size := by omega))
    go_ret
    exact ⟨rfl, by (repeat' first | (with_reducible exact Below.refl _ _) | (with_reducible assumption) | (with_reducible refine below_drewN ?_ _) | (with_reducible refine Below.drew ?_) | (with_reducible refine Below.alloc ?_ ?_ _) | (with_reducible refine Below.setCell ?_ ?_ _) | (with_reducible refine Below.trans ?_ (Below.mono (by assumption) ?_)) | first | omega | (simp only [World.size_alloc, World.size_setCell, World.size_drew, size_drewN]; omega) | (simp; done) | (simp; omega) | (simp only [World.size_alloc, World.size_setCell, World.size_drew, size_drewN] at *; omega) | (simp at *; omega))⟩
  · cases h2 : eOk l n
    · rw [show tcF l n s k = -1 by simp [tcF, h2]]
      have h3 : okS l n = false := h2
      go_enter Tryd.func57, Tryd.ntmps57
      go_wp2_with (first | (go_at_call 65; refine (sTermValid_any _ _ _).mono ?_; rintro e w1 ⟨rfl, hb1⟩; obtain ⟨hc1, hf1⟩ := bcell hb1; have hz1 := hb1.size; (try simp only [World.size_alloc, World.size_setCell, World.size_drew, size_drewN] at hz1 hc1 hf1); (have g1a : w.heap.size < w1.heap.size := by omega)) | (go_at_call 56; refine (l12Ok_any _ _ _).mono ?_; rintro e w2 ⟨rfl, rfl⟩))
      go_ret
      exact ⟨rfl, by (repeat' first | (with_reducible exact Below.refl _ _) | (with_reducible assumption) | (with_reducible refine below_drewN ?_ _) | (with_reducible refine Below.drew ?_) | (with_reducible refine Below.alloc ?_ ?_ _) | (with_reducible refine Below.setCell ?_ ?_ _) | (with_reducible refine Below.trans ?_ (Below.mono (by assumption) ?_)) | first | omega | (simp only [World.size_alloc, World.size_setCell, World.size_drew, size_drewN]; omega) | (simp; done) | (simp; omega) | (simp only [World.size_alloc, World.size_setCell, World.size_drew, size_drewN] at *; omega) | (simp at *; omega))⟩
    · rw [show tcF l n s k = tcI l n s k by simp [tcF, h1, h2]]
      have h3 : okS l n = true := h2
      have bt := tvB_true h1
      go_enter Tryd.func57, Tryd.ntmps57
      go_wp2_with fail
      refine (sTermValid_any _ _ _).mono ?_
      rintro e w1 ⟨rfl, hb1⟩
      obtain ⟨hc1, hf1⟩ := bcell hb1; have hz1 := hb1.size; (try simp only [World.size_alloc, World.size_setCell, World.size_drew, size_drewN] at hz1 hc1 hf1); (have g1a : w.heap.size < w1.heap.size := by omega)
      (have q0 : w1.cell? ⟨w.heap.size, 0, none⟩ = some (.int .i64 s) := by (simp (disch := first | omega | (simp; done) | (simp; omega)) [go_sem, *]; done)); (have q1 : w1.cell? ⟨w.heap.size, 1, none⟩ = some (.int .i64 k) := by (simp (disch := first | omega | (simp; done) | (simp; omega)) [go_sem, *]; done))
      have hB1 : Below w.heap.size w w1 := by (repeat' first | (with_reducible exact Below.refl _ _) | (with_reducible assumption) | (with_reducible refine below_drewN ?_ _) | (with_reducible refine Below.drew ?_) | (with_reducible refine Below.alloc ?_ ?_ _) | (with_reducible refine Below.setCell ?_ ?_ _) | (with_reducible refine Below.trans ?_ (Below.mono (by assumption) ?_)) | first | omega | (simp only [World.size_alloc, World.size_setCell, World.size_drew, size_drewN]; omega) | (simp; done) | (simp; omega) | (simp only [World.size_alloc, World.size_setCell, World.size_drew, size_drewN] at *; omega) | (simp at *; omega))
      have b1 := cntM_bd h2 k s
      have b2 := cntM_bd h2 (k + 1) s
      have b3 := cntM_bd h2 k (s + 2)
      have b4 := cntM_bd h2 (k + 1) (s + 2)
      clear hc1 hf1 hb1
      go_wp2_with fail
      refine (l12Ok_any _ _ _).mono ?_
      rintro e w2 ⟨rfl, rfl⟩
      go_wp2_with fail
      go_quiet ((first | (go_at_call 68; exact Calls.quiet_of_same ((ways_cm h2 (by omega) (by omega) (by omega) (by omega) _).mono fun _ _ h => ⟨h.1, h.2.symm⟩))))
      obtain ⟨W, hW⟩ : ∃ W, W = w1.drewN nq := ⟨_, rfl⟩
      have r0 : W.cell? ⟨w.heap.size, 0, none⟩ = some (.int .i64 s) := by subst hW; exact q0
      have r1 : W.cell? ⟨w.heap.size, 1, none⟩ = some (.int .i64 k) := by subst hW; exact q1
      have hBW : Below w.heap.size w W := by subst hW; exact below_drewN hB1 _
      rw [← hW]
      clear hW q0 q1 hB1
      go_wp2_with fail
      go_quiet ((first | (go_at_call 68; exact Calls.quiet_of_same ((ways_cm h2 (by omega) (by omega) (by omega) (by omega) _).mono fun _ _ h => ⟨h.1, h.2.symm⟩))))
      go_wp2
      go_ret
      exact ⟨rfl, by (repeat' first | (with_reducible exact Below.refl _ _) | (with_reducible assumption) | (with_reducible refine below_drewN ?_ _) | (with_reducible refine Below.drew ?_) | (with_reducible refine Below.alloc ?_ ?_ _) | (with_reducible refine Below.setCell ?_ ?_ _) | (with_reducible refine Below.trans ?_ (Below.mono (by assumption) ?_)) | first | omega | (simp only [World.size_alloc, World.size_setCell, World.size_drew, size_drewN]; omega) | (simp; done) | (simp; omega) | (simp only [World.size_alloc, World.size_setCell, World.size_drew, size_drewN] at *; omega) | (simp at *; omega))⟩
end Go.Proofs.YtjopcpoodhamcaaDoor

/-
  The terms of a shell as a list. Conditions: none.
-/
namespace Go.Proofs.YtjopcpoodhamcaaDoor
set_option linter.unusedSimpArgs false
set_option linter.unusedVariables false
open Go.RowKit

def trm (l n s k : Int) : List (Int × Int) := List.replicate (tcF l n s k).toNat (s, k)
def rowT (l n s : Int) : Nat → List (Int × Int)
  | 0 => []
  | j + 1 => rowT l n s j ++ trm l n s (6 - (j : Int))
def tsL (l n : Int) : Nat → List (Int × Int)
  | 0 => []
  | i + 1 => tsL l n i ++ rowT l n (5 - (i : Int)) 7
/-- TermsOf's list: the doubled spin and the orbital number of each. -/
def termsP (l n : Int) : List (Int × Int) := if eOk l n = true then tsL l n 6 else []
theorem tcF_bd (l n s k : Int) : tcF l n s k ≤ 504 := by
  unfold tcF
  split
  · rename_i h
    have b1 := cntM_bd h.2 k s
    have b2 := cntM_bd h.2 (k + 1) s
    have b3 := cntM_bd h.2 k (s + 2)
    have b4 := cntM_bd h.2 (k + 1) (s + 2)
    unfold tcI
    omega
  · omega
theorem trm_len (l n s k : Int) : (trm l n s k).length ≤ 504 := by
  have := tcF_bd l n s k
  simp [trm]; omega
theorem rowT_len (l n s : Int) : ∀ j, (rowT l n s j).length ≤ 504 * j
  | 0 => by simp [rowT]
  | j + 1 => by
    have := rowT_len l n s j
    have := trm_len l n s (6 - (j : Int))
    simp only [rowT, List.length_append]; omega
theorem tsL_len (l n : Int) : ∀ i, (tsL l n i).length ≤ 3528 * i
  | 0 => by simp [tsL]
  | i + 1 => by
    have := tsL_len l n i
    have := rowT_len l n (5 - (i : Int)) 7
    simp only [tsL, List.length_append]; omega
theorem rep_succ (c : Nat) (p : Int × Int) : List.replicate (c + 1) p = List.replicate c p ++ [p] := by
  rw [List.replicate_succ']
def midT (l n : Int) (i j : Nat) : List (Int × Int) := tsL l n i ++ rowT l n (5 - (i : Int)) j
def innT (l n : Int) (i j c : Nat) : List (Int × Int) := midT l n i j ++ List.replicate c (5 - (i : Int), 6 - (j : Int))
theorem midT_zero (l n : Int) (i : Nat) : midT l n i 0 = tsL l n i := by simp [midT, rowT]
theorem midT_last (l n : Int) (i : Nat) : midT l n i 7 = tsL l n (i + 1) := rfl
theorem innT_zero (l n : Int) (i j : Nat) : innT l n i j 0 = midT l n i j := by simp [innT]
theorem innT_succ (l n : Int) (i j c : Nat) : innT l n i j (c + 1) = innT l n i j c ++ [(5 - (i : Int), 6 - (j : Int))] := by simp [innT, rep_succ]
theorem innT_last (l n : Int) (i j : Nat) : innT l n i j (tcF l n (5 - (i : Int)) (6 - (j : Int))).toNat = midT l n i (j + 1) := by simp [innT, midT, rowT, trm]
theorem midT_len (l n : Int) (i j : Nat) (hi : i ≤ 6) (hj : j ≤ 7) : (midT l n i j).length ≤ 29000 := by
  have a := tsL_len l n i
  have b := rowT_len l n (5 - (i : Int)) j
  simp only [midT, List.length_append]; omega
theorem innT_len (l n : Int) (i j c : Nat) (hi : i ≤ 6) (hj : j ≤ 7) (hc : c ≤ 504) : (innT l n i j c).length ≤ 30000 := by
  have a := midT_len l n i j hi hj
  simp only [innT, List.length_append, List.length_replicate]; omega
end Go.Proofs.YtjopcpoodhamcaaDoor

/-
  The walk of spec.TermsOf. Conditions: none.
-/
namespace Go.Proofs.YtjopcpoodhamcaaDoor
set_option linter.unusedSimpArgs false
set_option linter.unusedVariables false
open Go.RowKit

theorem infoT : (Tryd.prog.info? 31).map (fun i => (i.zero, i.size, i.bytes)) = some (some (.agg #[.int .i64 0, .int .i64 0]), 2, 16) := by kernel_rfl
set_option maxRecDepth 20000 in
set_option maxHeartbeats 4000000 in
theorem sTerms_any (l n : Int) (w : World) :
    Calls Tryd.prog 33 #[.int .i64 l, .int .i64 n] w fun e w' => ∃ v, e = .returned v ∧ w'.ownsRow w.heap.size 31 2 v (termsP l n).length (vS (termsP l n)) ∧ Below w.heap.size w w' := by
  obtain ⟨i0, ihi, iz0, iz1, iz2⟩ := info_parts infoT
  have hemp : (w.alloc (.cells #[] 31)).ownsRow w.heap.size 31 2 (.slice (some ⟨w.heap.size, 0, none⟩) 0 0) ([] : List (Int × Int)).length (vS []) := by
    have := World.ownsRow_made (base := w.heap.size) (e := 31) (size := 2) w #[] 0 (by simp) (by unfold maxLen; omega) rfl
    simpa [vS] using this
  cases hv : eOk l n
  · rw [show termsP l n = [] by simp [termsP, hv]]
    have h3 : okS l n = false := hv
    go_enter Tryd.func33, Tryd.ntmps33
    go_wp2_with (go_at_call 56; refine (l12Ok_any _ _ _).mono ?_; rintro e w2 ⟨rfl, rfl⟩)
    go_ret
    exact ⟨_, rfl, hemp, by (repeat' first | (with_reducible exact Below.refl _ _) | (with_reducible assumption) | (with_reducible refine below_drewN ?_ _) | (with_reducible refine Below.drew ?_) | (with_reducible refine Below.alloc ?_ ?_ _) | (with_reducible refine Below.setCell ?_ ?_ _) | (with_reducible refine Below.trans ?_ (Below.mono (by assumption) ?_)) | first | omega | (simp only [World.size_alloc, World.size_setCell, World.size_drew, size_drewN]; omega) | (simp; done) | (simp; omega) | (simp only [World.size_alloc, World.size_setCell, World.size_drew, size_drewN] at *; omega) | (simp at *; omega))⟩
  · rw [show termsP l n = tsL l n 6 by simp [termsP, hv]]
    have h3 : okS l n = true := hv
    have HV := Lib.hid hv
    clear hv
    go_enter Tryd.func33, Tryd.ntmps33
    go_wp2_with (go_at_call 56; refine (l12Ok_any _ _ _).mono ?_; rintro e w2 ⟨rfl, rfl⟩)
    clear h3
    go_loopw [5, 6] (fun v sp wr => ∃ i : Nat, i ≤ 6 ∧ sp = .int .i64 (5 - (i : Int)) ∧ wr.ownsRow w.heap.size 31 2 v (tsL l n i).length (vS (tsL l n i)) ∧ Below w.heap.size w wr)
      (fun _ sp _ => (intOf sp + 1).toNat)
    case atStart => exact ⟨0, by omega, rfl, hemp, by (repeat' first | (with_reducible exact Below.refl _ _) | (with_reducible assumption) | (with_reducible refine below_drewN ?_ _) | (with_reducible refine Below.drew ?_) | (with_reducible refine Below.alloc ?_ ?_ _) | (with_reducible refine Below.setCell ?_ ?_ _) | (with_reducible refine Below.trans ?_ (Below.mono (by assumption) ?_)) | first | omega | (simp only [World.size_alloc, World.size_setCell, World.size_drew, size_drewN]; omega) | (simp; done) | (simp; omega) | (simp only [World.size_alloc, World.size_setCell, World.size_drew, size_drewN] at *; omega) | (simp at *; omega))⟩
    case round =>
      obtain ⟨i, hi, rfl, hown, hbel⟩ := hrel
      obtain ⟨Wo, hWo⟩ : ∃ W, W = wr := ⟨wr, rfl⟩
      subst hWo
      have i0' : (0 : Int) ≤ (i : Int) := Int.natCast_nonneg _
      by_cases hlt : i < 6
      · go_wp2
        go_loopw [5, 7] (fun v kk wr => ∃ j : Nat, j ≤ 7 ∧ kk = .int .i64 (6 - (j : Int)) ∧ wr.ownsRow w.heap.size 31 2 v (midT l n i j).length (vS (midT l n i j)) ∧ Below w.heap.size w wr)
          (fun _ kk _ => (intOf kk + 1).toNat)
        case atStart => exact ⟨0, by omega, rfl, by rw [midT_zero]; exact hown, hbel⟩
        case round =>
          obtain ⟨j, hj, rfl, hown1, hbel1⟩ := hrel
          obtain ⟨Wm, hWm⟩ : ∃ W, W = wr := ⟨wr, rfl⟩
          subst hWm
          have j0' : (0 : Int) ≤ (j : Int) := Int.natCast_nonneg _
          have hb1z := hbel1.size
          by_cases hlj : j < 7
          · obtain ⟨m, hm⟩ : ∃ m, m = tcF l n (5 - (i : Int)) (6 - (j : Int)) := ⟨_, rfl⟩
            have hmb : m ≤ 504 := by rw [hm]; exact tcF_bd _ _ _ _
            have hnE : u5.ownBlock ≠ some Wm.heap.size := fun h => by have := (hown1.lt _ h).2; omega
            have HO := Lib.hid hown1
            clear hown1
            go_wp2_with fail
            refine (sTermCount_any l n (5 - (i : Int)) (6 - (j : Int)) _).mono ?_
            rintro e w2 ⟨rfl, hb2⟩
            rw [← hm]
            have HM := Lib.hid hm
            clear hm
            have hz2 := hb2.size
            simp only [World.size_alloc] at hz2
            have c0 : w2.cell? ⟨Wm.heap.size, 0, none⟩ = some (.int .i64 (5 - (i : Int))) := (hb2.cell (p := ⟨Wm.heap.size, 0, none⟩) (by simp)).trans (by simp)
            have c1 : w2.cell? ⟨Wm.heap.size, 1, none⟩ = some (.int .i64 (6 - (j : Int))) := (hb2.cell (p := ⟨Wm.heap.size, 1, none⟩) (by simp)).trans (by simp)
            have hB2 : Below Wm.heap.size Wm w2 := by (repeat' first | (with_reducible exact Below.refl _ _) | (with_reducible assumption) | (with_reducible refine below_drewN ?_ _) | (with_reducible refine Below.drew ?_) | (with_reducible refine Below.alloc ?_ ?_ _) | (with_reducible refine Below.setCell ?_ ?_ _) | (with_reducible refine Below.trans ?_ (Below.mono (by assumption) ?_)) | first | omega | (simp only [World.size_alloc, World.size_setCell, World.size_drew, size_drewN]; omega) | (simp; done) | (simp; omega) | (simp only [World.size_alloc, World.size_setCell, World.size_drew, size_drewN] at *; omega) | (simp at *; omega))
            have hO2 := row_below HO.out hB2
            have hw2 : Below w.heap.size w w2 := hbel1.trans (hB2.mono hb1z)
            clear hb2 hB2 HO
            go_wp2_with fail
            go_loopw [5, 9] (fun v mm wr => ∃ c : Nat, c ≤ m.toNat ∧ mm = .int .i64 (m - (c : Int)) ∧ wr.ownsRow w.heap.size 31 2 v (innT l n i j c).length (vS (innT l n i j c)) ∧ v.ownBlock ≠ some Wm.heap.size ∧ Wm.heap.size < wr.heap.size ∧ wr.cell? ⟨Wm.heap.size, 0, none⟩ = some (.int .i64 (5 - (i : Int))) ∧ wr.cell? ⟨Wm.heap.size, 1, none⟩ = some (.int .i64 (6 - (j : Int))) ∧ Below w.heap.size w wr)
              (fun _ mm _ => (intOf mm).toNat)
            case atStart => exact ⟨0, by omega, by simp, by rw [innT_zero]; exact hO2, hnE, by omega, c0, c1, hw2⟩
            case round =>
              obtain ⟨c, hc, rfl, hown3, hnE3, hs3, d0, d1, hbel3⟩ := hrel
              have c0' : (0 : Int) ≤ (c : Int) := Int.natCast_nonneg _
              have hz3 := hbel3.size
              by_cases hlc : (c : Int) < m
              · have HO3 := Lib.hid hown3
                have hlen := innT_len l n i j c (by omega) (by omega) (by omega)
                have HN := Lib.hid hnE3
                clear hown3 hnE3
                go_wp2_with (first | (at_builtin; refine wpList_append_own_at _ rfl _ _ 25 rfl w.heap.size 31 i0 (.agg #[.int .i64 0, .int .i64 0]) 2 16 Tryd.underlying25 ihi iz0 iz1 iz2 rfl (by decide) _ _ _ rfl (HO3.out.alloc _) ⟨wr.heap.size, 0, none⟩ 1 1 [.int .i64 (5 - (i : Int)), .int .i64 (6 - (j : Int))] rfl rfl ?c1 ?c2 ?c3 ?c4 ?c5 ?_))
                case c1 =>
                  intro q u hq
                  match q, hq with
                  | 0, hq => simp at hq; subst hq; first | (simp [Addr.add]; done) | (simp (disch := first | omega | (simp; done) | (simp; omega)) [go_sem, Addr.add]; done)
                  | 1, hq => simp at hq; subst hq; first | (simp [Addr.add]; done) | (simp (disch := first | omega | (simp; done) | (simp; omega)) [go_sem, Addr.add]; done)
                case c2 => intro u hu; simp at hu; rcases hu with rfl | rfl <;> rfl
                case c3 => unfold maxLen; omega
                case c4 => omega
                case c5 => simp; omega
                intro v' w7 hown' hgrow _ hloc
                have hs7 := hgrow.size
                rw [World.size_alloc] at hs7
                have e0 : w7.cell? ⟨Wm.heap.size, 0, none⟩ = some (.int .i64 (5 - (i : Int))) := (hgrow.cell_far ⟨Wm.heap.size, 0, none⟩ (by simp; omega) (fun h => HN.out h.symm)).trans (by (simp (disch := first | omega | (simp; done) | (simp; omega)) [go_sem, *]; done))
                have e1 : w7.cell? ⟨Wm.heap.size, 1, none⟩ = some (.int .i64 (6 - (j : Int))) := (hgrow.cell_far ⟨Wm.heap.size, 1, none⟩ (by simp; omega) (fun h => HN.out h.symm)).trans (by (simp (disch := first | omega | (simp; done) | (simp; omega)) [go_sem, *]; done))
                have hbel' : Below w.heap.size w w7 := Below.grown (by (repeat' first | (with_reducible exact Below.refl _ _) | (with_reducible assumption) | (with_reducible refine below_drewN ?_ _) | (with_reducible refine Below.drew ?_) | (with_reducible refine Below.alloc ?_ ?_ _) | (with_reducible refine Below.setCell ?_ ?_ _) | (with_reducible refine Below.trans ?_ (Below.mono (by assumption) ?_)) | first | omega | (simp only [World.size_alloc, World.size_setCell, World.size_drew, size_drewN]; omega) | (simp; done) | (simp; omega) | (simp only [World.size_alloc, World.size_setCell, World.size_drew, size_drewN] at *; omega) | (simp at *; omega))) hgrow (by first | omega | (simp only [World.size_alloc, World.size_setCell, World.size_drew, size_drewN]; omega) | (simp; done) | (simp; omega) | (simp only [World.size_alloc, World.size_setCell, World.size_drew, size_drewN] at *; omega) | (simp at *; omega)) (fun k hk => (HO3.out.lt k hk).1)
                have hn' : v'.ownBlock ≠ some Wm.heap.size := by
                  rcases hloc with h | h
                  · rw [h]; exact HN.out
                  · rw [h]; simp; omega
                have hown2 : w7.ownsRow w.heap.size 31 2 v' (innT l n i j (c + 1)).length (vS (innT l n i j (c + 1))) := by
                  rw [innT_succ, List.length_append, vS_append]; exact hown'
                clear hown' hgrow hloc
                go_wp2
                go_roundw
                case rel => exact ⟨c + 1, by omega, by go_num, hown2, hn', by omega, e0, e1, hbel'⟩
                case measure => simp [intOf]; omega
              · obtain rfl : c = m.toNat := by omega
                have hrow : wr.ownsRow w.heap.size 31 2 u5 (midT l n i (j + 1)).length (vS (midT l n i (j + 1))) := by
                  rw [← innT_last, ← HM.out]
                  exact hown3
                clear hown3
                go_wp2
                go_roundw
                case rel => first | exact ⟨j + 1, hlj, by go_num, hrow, hbel3⟩ | exact ⟨j + 1, hlj, by go_num, hrow⟩
                case measure => simp [intOf]; omega
          · obtain rfl : j = 7 := by omega
            go_wp2
            go_roundw
            case rel => first | exact ⟨i + 1, hlt, by go_num, by rw [← midT_last]; exact hown1, hbel1⟩ | exact ⟨i + 1, hlt, by go_num, by rw [← midT_last]; exact hown1⟩
            case measure => simp [intOf]; omega
      · obtain rfl : i = 6 := by omega
        go_wp2
        go_ret
        exact ⟨_, rfl, hown, hbel⟩
end Go.Proofs.YtjopcpoodhamcaaDoor
