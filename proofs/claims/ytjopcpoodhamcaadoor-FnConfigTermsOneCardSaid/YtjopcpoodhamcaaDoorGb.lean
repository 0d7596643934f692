import Derived.Test.YtjopcpoodhamcaaDoorBits
import Derived.Test.YtjopcpoodhamcaaDoorPlain
import Derived.Lib.Hide
import Derived.Handy
import Derived.Deep.AppendLies
import Derived.Deep.RegionHeld3
/-
  Plain laws on microstates. Conditions: none.
-/
namespace Go.Proofs.YtjopcpoodhamcaaDoor
set_option linter.unusedSimpArgs false
set_option linter.unusedVariables false
open Go.RowKit

/-- The last one struck. -/
def clr (n : Nat) : Nat := n &&& (n - 1)
def orbF (l : Int) : Nat → Nat → Int
  | 0, _ => 0
  | f + 1, r => if r = 0 then 0 else ((tz r : Int) / 2 - l) + orbF l f (clr r)
def spnF : Nat → Nat → Int
  | 0, _ => 0
  | f + 1, r => if r = 0 then 0 else ((tz r : Int) % 2 * 2 - 1) + spnF f (clr r)
def orb (l : Int) (r : Nat) : Int := orbF l 10 r
def spn (r : Nat) : Int := spnF 10 r
theorem clr_is {n : Nat} (hn : n < 1024) (h0 : 0 < n) : bits .and .u64 (n : Int) ((n : Int) - 1) = (clr n : Int) ∧ clr n < n := by
  have := small_all (fun n => !decide (0 < n) || decide (bits .and .u64 (n : Int) ((n : Int) - 1) = (clr n : Int) ∧ clr n < n)) (by decide +kernel) hn
  simpa [h0] using this
theorem three {p : Int → Prop} {l : Int} (h0 : 0 ≤ l) (h2 : l ≤ 2) (a : p 0) (b : p 1) (c : p 2) : p l := by
  have : l = 0 ∨ l = 1 ∨ l = 2 := by omega
  rcases this with rfl | rfl | rfl <;> assumption
theorem orb_step {l : Int} (h0 : 0 ≤ l) (h2 : l ≤ 2) {r : Nat} (hr : r < 1024) (hp : 0 < r) : orb l r = ((tz r : Int) / 2 - l) + orb l (clr r) := by
  refine three (p := fun l => orb l r = ((tz r : Int) / 2 - l) + orb l (clr r)) h0 h2 ?_ ?_ ?_
  · have := small_all (fun r => !decide (0 < r) || decide (orb 0 r = ((tz r : Int) / 2 - 0) + orb 0 (clr r))) (by decide +kernel) hr
    simpa [hp] using this
  · have := small_all (fun r => !decide (0 < r) || decide (orb 1 r = ((tz r : Int) / 2 - 1) + orb 1 (clr r))) (by decide +kernel) hr
    simpa [hp] using this
  · have := small_all (fun r => !decide (0 < r) || decide (orb 2 r = ((tz r : Int) / 2 - 2) + orb 2 (clr r))) (by decide +kernel) hr
    simpa [hp] using this
theorem spn_step {r : Nat} (hr : r < 1024) (hp : 0 < r) : spn r = ((tz r : Int) % 2 * 2 - 1) + spn (clr r) := by
  have := small_all (fun r => !decide (0 < r) || decide (spn r = ((tz r : Int) % 2 * 2 - 1) + spn (clr r))) (by decide +kernel) hr
  simpa [hp] using this
theorem orb_bd {l : Int} (h0 : 0 ≤ l) (h2 : l ≤ 2) {r : Nat} (hr : r < 1024) : -100 ≤ orb l r ∧ orb l r ≤ 100 := by
  refine three (p := fun l => -100 ≤ orb l r ∧ orb l r ≤ 100) h0 h2 ?_ ?_ ?_
  · have := small_all (fun r => decide (-100 ≤ orb 0 r ∧ orb 0 r ≤ 100)) (by decide +kernel) hr
    simpa using this
  · have := small_all (fun r => decide (-100 ≤ orb 1 r ∧ orb 1 r ≤ 100)) (by decide +kernel) hr
    simpa using this
  · have := small_all (fun r => decide (-100 ≤ orb 2 r ∧ orb 2 r ≤ 100)) (by decide +kernel) hr
    simpa using this
theorem spn_bd {r : Nat} (hr : r < 1024) : -10 ≤ spn r ∧ spn r ≤ 10 := by
  have := small_all (fun r => decide (-10 ≤ spn r ∧ spn r ≤ 10)) (by decide +kernel) hr
  simpa using this
theorem orb_zero (l : Int) : orb l 0 = 0 := rfl
theorem spn_zero : spn 0 = 0 := rfl
/-- The sums of the states below k. -/
def micL (l n : Int) (k : Nat) : List (Int × Int) := ((List.range k).filter fun st => decide ((pop st : Int) = n)).map fun st => (orb l st, spn st)
theorem micL_yes {l n : Int} {k : Nat} (h : (pop k : Int) = n) : micL l n (k + 1) = micL l n k ++ [(orb l k, spn k)] := by simp [micL, List.range_succ, h]
theorem micL_no {l n : Int} {k : Nat} (h : ¬ (pop k : Int) = n) : micL l n (k + 1) = micL l n k := by simp [micL, List.range_succ, h]
theorem micL_len (l n : Int) (k : Nat) : (micL l n k).length ≤ k := by
  unfold micL
  rw [List.length_map]
  exact Nat.le_trans (List.length_filter_le _ _) (by simp)
def vS (xs : List (Int × Int)) : List Value := xs.flatMap fun p => [.int .i64 p.1, .int .i64 p.2]
theorem vS_append (xs ys : List (Int × Int)) : vS (xs ++ ys) = vS xs ++ vS ys := by simp [vS]
theorem vS_length : ∀ xs : List (Int × Int), (vS xs).length = xs.length * 2
  | [] => rfl
  | x :: r => by have := vS_length r; simp only [vS, List.flatMap_cons, List.length_append, List.length_cons, List.length_nil] at *; omega
theorem vS_get : ∀ (xs : List (Int × Int)) (k : Nat) (p : Int × Int), xs[k]? = some p → (vS xs)[k * 2]? = some (.int .i64 p.1) ∧ (vS xs)[k * 2 + 1]? = some (.int .i64 p.2)
  | [], k, p, h => by simp at h
  | x :: r, 0, p, h => by simp at h; subst h; exact ⟨rfl, rfl⟩
  | x :: r, k + 1, p, h => by
    have := vS_get r k p (by simpa using h)
    have e : (k + 1) * 2 = k * 2 + 1 + 1 := by omega
    rw [e]
    simpa [vS] using this
/-- The number of states. -/
def cap (l : Int) : Nat := if l = 0 then 4 else if l = 1 then 64 else 1024
end Go.Proofs.YtjopcpoodhamcaaDoor

/-
  The walk of impl.microstates. Conditions: the table of the library.
-/
namespace Go.Proofs.YtjopcpoodhamcaaDoor
set_option linter.unusedSimpArgs false
set_option linter.unusedVariables false
open Go.RowKit

theorem capacity_any (l : Int) (w : World) (h0 : 0 ≤ l) (h3 : l ≤ 3) :
    Calls Tryd.prog 24 #[.int .i64 l] w fun e w' => e = .returned (.int .i64 (4 * l + 2)) ∧ w = w' := by
  go_enter Tryd.func24, Tryd.ntmps24
  go_wp2
  go_ret
  exact ⟨rfl, rfl⟩
theorem infoS : (Tryd.prog.info? 66).map (fun i => (i.zero, i.size, i.bytes)) = some (some (.agg #[.int .i64 0, .int .i64 0]), 2, 16) := by kernel_rfl

theorem cap_is {l : Int} (h0 : 0 ≤ l) (h2 : l ≤ 2) : IntKind.u64.wrap (2 ^ (4 * l + 2).toNat) = ((cap l : Nat) : Int) ∧ cap l ≤ 1024 := by
  refine three (p := fun l => IntKind.u64.wrap (2 ^ (4 * l + 2).toNat) = ((cap l : Nat) : Int) ∧ cap l ≤ 1024) h0 h2 ?_ ?_ ?_ <;> decide +kernel
set_option maxRecDepth 20000 in
set_option maxHeartbeats 4000000 in
theorem micro_any (l n : Int) (w : World) (h0 : 0 ≤ l) (h2 : l ≤ 2) (hT : Tab w) (hsz : 1 < w.heap.size) :
    Calls Tryd.prog 60 #[.int .i64 l, .int .i64 n] w fun e w' => ∃ v, e = .returned v ∧ w'.ownsRow w.heap.size 66 2 v (micL l n (cap l)).length (vS (micL l n (cap l))) ∧ Below w.heap.size w w' := by
  obtain ⟨i0, ihi, iz0, iz1, iz2⟩ := info_parts infoS
  obtain ⟨hM, hcap⟩ := cap_is h0 h2
  have HT := Lib.hid hT
  clear hT
  go_enter Tryd.func60, Tryd.ntmps60
  go_wp2_with fail
  refine (capacity_any _ _ h0 (by omega)).mono ?_
  rintro e w1 ⟨rfl, rfl⟩
  go_wp2_with fail
  clear hM
  go_loopw [5, 13] (fun v i wr => ∃ k : Nat, k ≤ cap l ∧ i = .int .u64 k ∧ wr.ownsRow w.heap.size 66 2 v (micL l n k).length (vS (micL l n k)) ∧ Below w.heap.size w wr)
    (fun _ i _ => cap l - (intOf i).toNat)
  case atStart => exact ⟨0, Nat.zero_le _, rfl, World.ownsRow_nil _ _ _ _, Below.refl _ _⟩
  case round =>
    obtain ⟨k, hk, rfl, hown, hbel⟩ := hrel
    obtain ⟨Wo, hWo⟩ : ∃ W, W = wr := ⟨wr, rfl⟩
    subst hWo
    have hbz := hbel.size
    have i0' : (0 : Int) ≤ (k : Int) := Int.natCast_nonneg _
    by_cases hlt : k < cap l
    · have hk10 : k < 1024 := by omega
      have i1 : (k : Int) < ((cap l : Nat) : Int) := by omega
      have kw : IntKind.u64.wrap ((k : Int) + 1) = (k : Int) + 1 := by rw [IntKind.wrap_u64]; omega
      by_cases hp : (pop k : Int) = n
      · have hp' : ((pop k : Int) != n) = false := by simp [hp]
        have hst := Lib.hid (micL_yes (l := l) hp)
        have hlen := micL_len l n k
        have hlenS := congrArg List.length (micL_yes (l := l) hp)
        rw [List.length_append] at hlenS
        have hls := Lib.hid hlenS
        have HO := Lib.hid hown
        have bo := orb_bd h0 h2 hk10
        have bs := spn_bd hk10
        clear hp hown hlenS
        go_wp2_with (go_at_call 70; refine (ones_any k hk10 _).mono ?_; rintro e w2 ⟨rfl, rfl⟩)
        go_loopw [8] (fun rv wr => ∃ (r : Nat) (o s : Int), rv = .int .u64 r ∧ r < 1024 ∧ wr.cell? ⟨Wo.heap.size, 0, none⟩ = some (.int .i64 o) ∧ wr.cell? ⟨Wo.heap.size, 1, none⟩ = some (.int .i64 s) ∧ wr.frozen? ⟨Wo.heap.size, 0, none⟩ = false ∧ wr.frozen? ⟨Wo.heap.size, 1, none⟩ = false ∧ o + orb l r = orb l k ∧ s + spn r = spn k ∧ Wo.heap.size < wr.heap.size ∧ Below Wo.heap.size Wo wr)
          (fun rv _ => (intOf rv).toNat)
        case atStart => exact ⟨k, 0, 0, rfl, hk10, by (simp (disch := first | omega | (simp; done) | (simp; omega)) [go_sem, *]; done), by (simp (disch := first | omega | (simp; done) | (simp; omega)) [go_sem, *]; done), by (simp (disch := first | omega | (simp; done) | (simp; omega)) [go_sem, *]; done), by (simp (disch := first | omega | (simp; done) | (simp; omega)) [go_sem, *]; done), by omega, by omega, by simp, by (repeat' first | (with_reducible exact Below.refl _ _) | (with_reducible assumption) | (with_reducible refine below_drewN ?_ _) | (with_reducible refine Below.drew ?_) | (with_reducible refine Below.alloc ?_ ?_ _) | (with_reducible refine Below.setCell ?_ ?_ _) | (with_reducible refine Below.trans ?_ (Below.mono (by assumption) ?_)) | first | omega | (simp only [World.size_alloc, World.size_setCell, World.size_drew, size_drewN]; omega) | (simp; done) | (simp; omega) | (simp only [World.size_alloc, World.size_setCell, World.size_drew, size_drewN] at *; omega) | (simp at *; omega))⟩
        case round =>
          obtain ⟨r, o, s, rfl, hr, c0, c1, f0, f1, eo, es, hsi, hbi⟩ := hrel
          have r0' : (0 : Int) ≤ (r : Int) := Int.natCast_nonneg _
          have bo2 := orb_bd h0 h2 hr
          have bs2 := spn_bd hr
          by_cases hr0 : r = 0
          · subst hr0
            rw [orb_zero] at eo
            rw [spn_zero] at es
            obtain rfl : o = orb l k := by omega
            obtain rfl : s = spn k := by omega
            have hrowH := Lib.hid (row_below HO.out hbi)
            have hsl : (micL l n k).length ≤ 1024 := by omega
            go_wp2_with (first | (at_builtin; refine wpList_append_own _ rfl _ _ 77 rfl w.heap.size 66 i0 (.agg #[.int .i64 0, .int .i64 0]) 2 16 Tryd.underlying77 ihi iz0 iz1 iz2 rfl (by decide) _ _ _ rfl (hrowH.out.alloc _) ⟨wr.heap.size, 0, none⟩ 1 1 [.int .i64 (orb l k), .int .i64 (spn k)] rfl rfl ?c1 ?c2 ?c3 ?c4 ?c5 ?_))
            case c1 =>
              intro j u hj
              match j, hj with
              | 0, hj => simp at hj; subst hj; first | (simp [Addr.add]; done) | (simp (disch := first | omega | (simp; done) | (simp; omega)) [go_sem, Addr.add]; done)
              | 1, hj => simp at hj; subst hj; first | (simp [Addr.add]; done) | (simp (disch := first | omega | (simp; done) | (simp; omega)) [go_sem, Addr.add]; done)
            case c2 => intro u hu; simp at hu; rcases hu with rfl | rfl <;> rfl
            case c3 => unfold maxLen; omega
            case c4 => omega
            case c5 => simp; omega
            intro v' w7 hown' hgrow _
            have hbel' : Below w.heap.size w w7 := Below.grown (by (repeat' first | (with_reducible exact Below.refl _ _) | (with_reducible assumption) | (with_reducible refine below_drewN ?_ _) | (with_reducible refine Below.drew ?_) | (with_reducible refine Below.alloc ?_ ?_ _) | (with_reducible refine Below.setCell ?_ ?_ _) | (with_reducible refine Below.trans ?_ (Below.mono (by assumption) ?_)) | first | omega | (simp only [World.size_alloc, World.size_setCell, World.size_drew, size_drewN]; omega) | (simp; done) | (simp; omega) | (simp only [World.size_alloc, World.size_setCell, World.size_drew, size_drewN] at *; omega) | (simp at *; omega))) hgrow (by first | omega | (simp only [World.size_alloc, World.size_setCell, World.size_drew, size_drewN]; omega) | (simp; done) | (simp; omega) | (simp only [World.size_alloc, World.size_setCell, World.size_drew, size_drewN] at *; omega) | (simp at *; omega)) (fun k hk => (hrowH.out.lt k hk).1)
            have hown2 : w7.ownsRow w.heap.size 66 2 v' (micL l n (k + 1)).length (vS (micL l n (k + 1))) := by rw [hst.out, List.length_append, vS_append]; exact hown'
            clear hown' hgrow
            go_wp2
            go_roundw
            case rel => exact ⟨k + 1, hlt, by go_num, hown2, hbel'⟩
            case measure => simp [intOf]; omega
          · have hrp : 0 < r := by omega
            have hr0' : ((r : Int) == 0) = false := by rw [beq_eq_false_iff_ne]; omega
            have so := orb_step h0 h2 hr hrp
            have ss := spn_step hr hrp
            obtain ⟨e1, e2⟩ := clr_is hr hrp
            have tl := tz_le hr
            have t0 : (0 : Int) ≤ ((tz r : Nat) : Int) := Int.natCast_nonneg _
            have td : ((tz r : Nat) : Int).tdiv 2 = ((tz r : Nat) : Int) / 2 := Int.tdiv_eq_ediv_of_nonneg t0
            have tm : ((tz r : Nat) : Int).tmod 2 = ((tz r : Nat) : Int) % 2 := Int.tmod_eq_emod_of_nonneg t0
            have rw1 : IntKind.u64.wrap ((r : Int) - 1) = (r : Int) - 1 := by rw [IntKind.wrap_u64]; omega
            have HTi : Hid (Tab wr) := Lib.hid (HT.out.of fun i => ((hbel.trans (hbi.mono hbz)).cell (p := ⟨1, i, none⟩) hsz))
            have b3 := orb_bd h0 h2 (r := clr r) (by omega)
            have b4 := spn_bd (r := clr r) (by omega)
            go_wp2_with (go_at_call 71; refine (tz_any r hr hrp _ HTi.out).mono ?_; rintro e w3 ⟨rfl, rfl⟩)
            go_roundw
            case rel => exact ⟨clr r, o + (((tz r : Nat) : Int) / 2 - l), s + (((tz r : Nat) : Int) % 2 * 2 - 1), rfl, by omega, by (simp (disch := first | omega | (simp; done) | (simp; omega)) [go_sem, cell_set, *]; done), by (simp (disch := first | omega | (simp; done) | (simp; omega)) [go_sem, cell_set, *]; done), by (simp (disch := first | omega | (simp; done) | (simp; omega)) [go_sem, cell_set, *]; done), by (simp (disch := first | omega | (simp; done) | (simp; omega)) [go_sem, cell_set, *]; done), by omega, by omega, by (simp; omega), by (repeat' first | (with_reducible exact Below.refl _ _) | (with_reducible assumption) | (with_reducible refine below_drewN ?_ _) | (with_reducible refine Below.drew ?_) | (with_reducible refine Below.alloc ?_ ?_ _) | (with_reducible refine Below.setCell ?_ ?_ _) | (with_reducible refine Below.trans ?_ (Below.mono (by assumption) ?_)) | first | omega | (simp only [World.size_alloc, World.size_setCell, World.size_drew, size_drewN]; omega) | (simp; done) | (simp; omega) | (simp only [World.size_alloc, World.size_setCell, World.size_drew, size_drewN] at *; omega) | (simp at *; omega))⟩
            case measure => simp [intOf]; omega
      · have hp' : ((pop k : Int) != n) = true := by simp [hp]
        have hst := Lib.hid (micL_no (l := l) hp)
        have HO := Lib.hid hown
        clear hp hown
        go_wp2_with (go_at_call 70; refine (ones_any k hk10 _).mono ?_; rintro e w2 ⟨rfl, rfl⟩)
        go_roundw
        case rel => exact ⟨k + 1, hlt, by go_num, by rw [hst.out]; exact HO.out, hbel⟩
        case measure => simp [intOf]; omega
    · obtain rfl : k = cap l := by omega
      go_wp2
      go_ret
      exact ⟨_, rfl, hown, hbel⟩
end Go.Proofs.YtjopcpoodhamcaaDoor
