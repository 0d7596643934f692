/-
  The walk of impl.microstates. Conditions: the table of the library.
-/
import Derived.Test.YtlbmdicfoiehgaaDoorMicroP
import Derived.Lib.Hide
import Derived.Handy
import Derived.Deep.AppendLies
import Derived.Deep.RegionHeld3
namespace Go.Proofs.YtlbmdicfoiehgaaDoor
set_option linter.unusedSimpArgs false
set_option linter.unusedVariables false
open Go.RowKit

theorem capacity_any (l : Int) (w : World) (h0 : 0 ≤ l) (h3 : l ≤ 3) :
    Calls Tryd.prog 42 #[.int .i64 l] w fun e w' => e = .returned (.int .i64 (4 * l + 2)) ∧ w = w' := by
  go_enter Tryd.func42, Tryd.ntmps42
  go_wp2
  go_ret
  exact ⟨rfl, rfl⟩
theorem infoS : (Tryd.prog.info? 52).map (fun i => (i.zero, i.size, i.bytes)) = some (some (.agg #[.int .i64 0, .int .i64 0]), 2, 16) := by kernel_rfl

theorem cap_is {l : Int} (h0 : 0 ≤ l) (h2 : l ≤ 2) : IntKind.u64.wrap (2 ^ (4 * l + 2).toNat) = ((cap l : Nat) : Int) ∧ cap l ≤ 1024 := by
  refine three (p := fun l => IntKind.u64.wrap (2 ^ (4 * l + 2).toNat) = ((cap l : Nat) : Int) ∧ cap l ≤ 1024) h0 h2 ?_ ?_ ?_ <;> decide +kernel
set_option maxRecDepth 20000 in
set_option maxHeartbeats 4000000 in
theorem micro_any (l n : Int) (w : World) (h0 : 0 ≤ l) (h2 : l ≤ 2) (hT : Tab w) (hsz : 1 < w.heap.size) :
    Calls Tryd.prog 38 #[.int .i64 l, .int .i64 n] w fun e w' => ∃ v, e = .returned v ∧ w'.ownsRow w.heap.size 52 2 v (micL l n (cap l)).length (vS (micL l n (cap l))) ∧ Below w.heap.size w w' := by
  obtain ⟨i0, ihi, iz0, iz1, iz2⟩ := info_parts infoS
  obtain ⟨hM, hcap⟩ := cap_is h0 h2
  have HT := Lib.hid hT
  clear hT
  go_enter Tryd.func38, Tryd.ntmps38
  go_wp2_with fail
  refine (capacity_any _ _ h0 (by omega)).mono ?_
  rintro e w1 ⟨rfl, rfl⟩
  go_wp2_with fail
  clear hM
  go_loopw [5, 13] (fun v i wr => ∃ k : Nat, k ≤ cap l ∧ i = .int .u64 k ∧ wr.ownsRow w.heap.size 52 2 v (micL l n k).length (vS (micL l n k)) ∧ Below w.heap.size w wr)
    (fun _ i _ => cap l - (intOf i).toNat)
  case atStart => exact ⟨0, Nat.zero_le _, rfl, World.ownsRow_nil _ _ _ _, Below.refl _ _⟩
  case round =>
    obtain ⟨k, hk, rfl, hown, hbel⟩ := hrel
    obtain ⟨Wo, hWo⟩ : ∃ W, W = wr := ⟨wr, rfl⟩
    subst hWo
    have hbz := hbel.size
    have i0' : (0 : Int) ≤ (k : Int) := Int.natCast_nonneg _
    by_cases hlt : k < cap l
    · have hk10 : k < 1024 := by omega
      have i1 : (k : Int) < ((cap l : Nat) : Int) := by omega
      have kw : IntKind.u64.wrap ((k : Int) + 1) = (k : Int) + 1 := by rw [IntKind.wrap_u64]; omega
      by_cases hp : (pop k : Int) = n
      · have hp' : ((pop k : Int) != n) = false := by simp [hp]
        have hst := Lib.hid (micL_yes (l := l) hp)
        have hlen := micL_len l n k
        have hlenS := congrArg List.length (micL_yes (l := l) hp)
        rw [List.length_append] at hlenS
        have hls := Lib.hid hlenS
        have HO := Lib.hid hown
        have bo := orb_bd h0 h2 hk10
        have bs := spn_bd hk10
        clear hp hown hlenS
        go_wp2_with (go_at_call 45; refine (ones_any k hk10 _).mono ?_; rintro e w2 ⟨rfl, rfl⟩)
        go_loopw [8] (fun rv wr => ∃ (r : Nat) (o s : Int), rv = .int .u64 r ∧ r < 1024 ∧ wr.cell? ⟨Wo.heap.size, 0, none⟩ = some (.int .i64 o) ∧ wr.cell? ⟨Wo.heap.size, 1, none⟩ = some (.int .i64 s) ∧ wr.frozen? ⟨Wo.heap.size, 0, none⟩ = false ∧ wr.frozen? ⟨Wo.heap.size, 1, none⟩ = false ∧ o + orb l r = orb l k ∧ s + spn r = spn k ∧ Wo.heap.size < wr.heap.size ∧ Below Wo.heap.size Wo wr)
          (fun rv _ => (intOf rv).toNat)
        case atStart => exact ⟨k, 0, 0, rfl, hk10, by (simp (disch := first | omega | (simp; done) | (simp; omega)) [go_sem, *]; done), by (simp (disch := first | omega | (simp; done) | (simp; omega)) [go_sem, *]; done), by (simp (disch := first | omega | (simp; done) | (simp; omega)) [go_sem, *]; done), by (simp (disch := first | omega | (simp; done) | (simp; omega)) [go_sem, *]; done), by omega, by omega, by simp, by (repeat' first | (with_reducible exact Below.refl _ _) | (with_reducible assumption) | (with_reducible refine below_drewN ?_ _) | (with_reducible refine Below.drew ?_) | (with_reducible refine Below.alloc ?_ ?_ _) | (with_reducible refine Below.setCell ?_ ?_ _) | (with_reducible refine Below.trans ?_ (Below.mono (by assumption) ?_)) | first | omega | (simp only [World.size_alloc, World.size_setCell, World.size_drew, size_drewN]; omega) | (simp; done) | (simp; omega) | (simp only [World.size_alloc, World.size_setCell, World.size_drew, size_drewN] at *; omega) | (simp at *; omega))⟩
        case round =>
          obtain ⟨r, o, s, rfl, hr, c0, c1, f0, f1, eo, es, hsi, hbi⟩ := hrel
          have r0' : (0 : Int) ≤ (r : Int) := Int.natCast_nonneg _
          have bo2 := orb_bd h0 h2 hr
          have bs2 := spn_bd hr
          by_cases hr0 : r = 0
          · subst hr0
            rw [orb_zero] at eo
            rw [spn_zero] at es
            obtain rfl : o = orb l k := by omega
            obtain rfl : s = spn k := by omega
            have hrowH := Lib.hid (row_below HO.out hbi)
            have hsl : (micL l n k).length ≤ 1024 := by omega
            go_wp2_with (first | (at_builtin; refine wpList_append_own _ rfl _ _ 53 rfl w.heap.size 52 i0 (.agg #[.int .i64 0, .int .i64 0]) 2 16 Tryd.underlying53 ihi iz0 iz1 iz2 rfl (by decide) _ _ _ rfl (hrowH.out.alloc _) ⟨wr.heap.size, 0, none⟩ 1 1 [.int .i64 (orb l k), .int .i64 (spn k)] rfl rfl ?c1 ?c2 ?c3 ?c4 ?c5 ?_))
            case c1 =>
              intro j u hj
              match j, hj with
              | 0, hj => simp at hj; subst hj; first | (simp [Addr.add]; done) | (simp (disch := first | omega | (simp; done) | (simp; omega)) [go_sem, Addr.add]; done)
              | 1, hj => simp at hj; subst hj; first | (simp [Addr.add]; done) | (simp (disch := first | omega | (simp; done) | (simp; omega)) [go_sem, Addr.add]; done)
            case c2 => intro u hu; simp at hu; rcases hu with rfl | rfl <;> rfl
            case c3 => unfold maxLen; omega
            case c4 => omega
            case c5 => simp; omega
            intro v' w7 hown' hgrow _
            have hbel' : Below w.heap.size w w7 := Below.grown (by (repeat' first | (with_reducible exact Below.refl _ _) | (with_reducible assumption) | (with_reducible refine below_drewN ?_ _) | (with_reducible refine Below.drew ?_) | (with_reducible refine Below.alloc ?_ ?_ _) | (with_reducible refine Below.setCell ?_ ?_ _) | (with_reducible refine Below.trans ?_ (Below.mono (by assumption) ?_)) | first | omega | (simp only [World.size_alloc, World.size_setCell, World.size_drew, size_drewN]; omega) | (simp; done) | (simp; omega) | (simp only [World.size_alloc, World.size_setCell, World.size_drew, size_drewN] at *; omega) | (simp at *; omega))) hgrow (by first | omega | (simp only [World.size_alloc, World.size_setCell, World.size_drew, size_drewN]; omega) | (simp; done) | (simp; omega) | (simp only [World.size_alloc, World.size_setCell, World.size_drew, size_drewN] at *; omega) | (simp at *; omega)) (fun k hk => (hrowH.out.lt k hk).1)
            have hown2 : w7.ownsRow w.heap.size 52 2 v' (micL l n (k + 1)).length (vS (micL l n (k + 1))) := by rw [hst.out, List.length_append, vS_append]; exact hown'
            clear hown' hgrow
            go_wp2
            go_roundw
            case rel => exact ⟨k + 1, hlt, by go_num, hown2, hbel'⟩
            case measure => simp [intOf]; omega
          · have hrp : 0 < r := by omega
            have hr0' : ((r : Int) == 0) = false := by rw [beq_eq_false_iff_ne]; omega
            have so := orb_step h0 h2 hr hrp
            have ss := spn_step hr hrp
            obtain ⟨e1, e2⟩ := clr_is hr hrp
            have tl := tz_le hr
            have t0 : (0 : Int) ≤ ((tz r : Nat) : Int) := Int.natCast_nonneg _
            have td : ((tz r : Nat) : Int).tdiv 2 = ((tz r : Nat) : Int) / 2 := Int.tdiv_eq_ediv_of_nonneg t0
            have tm : ((tz r : Nat) : Int).tmod 2 = ((tz r : Nat) : Int) % 2 := Int.tmod_eq_emod_of_nonneg t0
            have rw1 : IntKind.u64.wrap ((r : Int) - 1) = (r : Int) - 1 := by rw [IntKind.wrap_u64]; omega
            have HTi : Hid (Tab wr) := Lib.hid (HT.out.of fun i => ((hbel.trans (hbi.mono hbz)).cell (p := ⟨1, i, none⟩) hsz))
            have b3 := orb_bd h0 h2 (r := clr r) (by omega)
            have b4 := spn_bd (r := clr r) (by omega)
            go_wp2_with (go_at_call 46; refine (tz_any r hr hrp _ HTi.out).mono ?_; rintro e w3 ⟨rfl, rfl⟩)
            go_roundw
            case rel => exact ⟨clr r, o + (((tz r : Nat) : Int) / 2 - l), s + (((tz r : Nat) : Int) % 2 * 2 - 1), rfl, by omega, by (simp (disch := first | omega | (simp; done) | (simp; omega)) [go_sem, cell_set, *]; done), by (simp (disch := first | omega | (simp; done) | (simp; omega)) [go_sem, cell_set, *]; done), by (simp (disch := first | omega | (simp; done) | (simp; omega)) [go_sem, cell_set, *]; done), by (simp (disch := first | omega | (simp; done) | (simp; omega)) [go_sem, cell_set, *]; done), by omega, by omega, by (simp; omega), by (repeat' first | (with_reducible exact Below.refl _ _) | (with_reducible assumption) | (with_reducible refine below_drewN ?_ _) | (with_reducible refine Below.drew ?_) | (with_reducible refine Below.alloc ?_ ?_ _) | (with_reducible refine Below.setCell ?_ ?_ _) | (with_reducible refine Below.trans ?_ (Below.mono (by assumption) ?_)) | first | omega | (simp only [World.size_alloc, World.size_setCell, World.size_drew, size_drewN]; omega) | (simp; done) | (simp; omega) | (simp only [World.size_alloc, World.size_setCell, World.size_drew, size_drewN] at *; omega) | (simp at *; omega))⟩
            case measure => simp [intOf]; omega
      · have hp' : ((pop k : Int) != n) = true := by simp [hp]
        have hst := Lib.hid (micL_no (l := l) hp)
        have HO := Lib.hid hown
        clear hp hown
        go_wp2_with (go_at_call 45; refine (ones_any k hk10 _).mono ?_; rintro e w2 ⟨rfl, rfl⟩)
        go_roundw
        case rel => exact ⟨k + 1, hlt, by go_num, by rw [hst.out]; exact HO.out, hbel⟩
        case measure => simp [intOf]; omega
    · obtain rfl : k = cap l := by omega
      go_wp2
      go_ret
      exact ⟨_, rfl, hown, hbel⟩
end Go.Proofs.YtlbmdicfoiehgaaDoor
