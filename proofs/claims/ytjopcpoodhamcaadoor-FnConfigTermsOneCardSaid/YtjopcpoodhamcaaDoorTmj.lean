/-
  The walk of impl.TermsOf, given what strike does. Conditions: the table of the library; strike's contract.
-/
import Derived.Test.YtjopcpoodhamcaaDoorTmi
namespace Go.Proofs.YtjopcpoodhamcaaDoor
set_option linter.unusedSimpArgs false
set_option linter.unusedVariables false
open Go.RowKit

theorem row_but {W w1 : World} {base b : Nat} {e : TypeId} {size : Nat} {v : Value} {n : Nat} {xs : List Value} (h : W.ownsRow base e size v n xs) (hb : But W.heap.size b W w1) (hbase : b < base) : w1.ownsRow base e size v n xs := by
  refine h.kept hb.isGrown ?_
  cases hv : v.ownBlock with
  | none => exact .inl rfl
  | some k => exact .inr (by have := (h.lt k hv).1; simp; omega)
def lenV : Value → Nat
  | .slice _ n _ => n
  | _ => 0
set_option maxRecDepth 20000 in
set_option maxHeartbeats 4000000 in
theorem iTerms_core (l n : Int) (w : World) (hs : StrikeOk) (hv : eOk l n = true) (hT : Tab w) (hsz : 1 < w.heap.size) :
    Calls Tryd.prog 26 #[.int .i64 l, .int .i64 n] w fun e w' => ∃ v, e = .returned v ∧ w'.ownsRow w.heap.size 31 2 v (tsI l n 9).length (vS (tsI l n 9)) ∧ Below w.heap.size w w' := by
  obtain ⟨i0, ihi, iz0, iz1, iz2⟩ := info_parts infoT
  have HV := Lib.hid hv
  have HS := Lib.hid hs
  clear hs
  go_enter Tryd.func26, Tryd.ntmps26
  go_wp2_with fail
  refine (eValid_any _ _ _).mono ?_
  rintro e w0 ⟨rfl, rfl⟩
  go_wp2_with fail
  refine (table_any l n _ hv hT hsz).mono ?_
  rintro e w1 ⟨rfl, hM, hb1⟩
  have hz1 := hb1.size
  have hlt1 := hM.lt
  have hH : HeldC w1 w.heap.size l n 8 0 0 0 := ⟨cntM l n, 252, by omega, by rw [show ((0 : Nat) : Int) = 0 from rfl, strN_zero]; exact hM, by rw [show ((0 : Nat) : Int) = 0 from rfl, strN_zero]; exact fun o s => by have := cntM_bd hv o s; exact ⟨by omega, by omega⟩, InvF_start hv⟩
  clear hM hT hv
  go_wp2_with fail
  go_loopw [6, 7] (fun v sp wr => ∃ i : Nat, i ≤ 9 ∧ sp = .int .i64 (8 - (i : Int)) ∧ wr.ownsRow w1.heap.size 31 2 v (tsI l n i).length (vS (tsI l n i)) ∧ HeldC wr w.heap.size l n (8 - (i : Int)) 0 0 (tsI l n i).length ∧ But w1.heap.size w.heap.size w1 wr)
    (fun _ sp _ => (intOf sp + 1).toNat)
  case atStart => exact ⟨0, by omega, rfl, World.ownsRow_nil _ _ _ _, by simpa [tsI] using hH, But.refl _ _ _⟩
  case round =>
    obtain ⟨i, hi, rfl, hown, hH, hbut⟩ := hrel
    obtain ⟨Wo, hWo⟩ : ∃ W, W = wr := ⟨wr, rfl⟩
    subst hWo
    have i0' : (0 : Int) ≤ (i : Int) := Int.natCast_nonneg _
    by_cases hlt : i < 9
    · go_wp2
      go_loopw [6, 8] (fun v kk wr => ∃ j : Nat, j ≤ 9 ∧ kk = .int .i64 (8 - (j : Int)) ∧ wr.ownsRow w1.heap.size 31 2 v (midI l n i j).length (vS (midI l n i j)) ∧ HeldC wr w.heap.size l n (8 - (i : Int)) j 0 (midI l n i j).length ∧ But w1.heap.size w.heap.size w1 wr)
        (fun _ kk _ => (intOf kk + 1).toNat)
      case atStart => exact ⟨0, by omega, rfl, by rw [midI_zero]; exact hown, by rw [midI_zero]; exact hH, hbut⟩
      case round =>
        obtain ⟨j, hj, rfl, hown1, hH1, hbut1⟩ := hrel
        obtain ⟨Wm, hWm⟩ : ∃ W, W = wr := ⟨wr, rfl⟩
        subst hWm
        have j0' : (0 : Int) ≤ (j : Int) := Int.natCast_nonneg _
        by_cases hlj : j < 9
        · have ht : tvB (8 - (i : Int)) (8 - (j : Int)) = true := by simp [tvB]; omega
          have htf : tcF l n (8 - (i : Int)) (8 - (j : Int)) = tcI l n (8 - (i : Int)) (8 - (j : Int)) := by simp [tcF, ht, HV.out]
          have hp := tc_pos HV.out ht
          have hq := tcF_bd l n (8 - (i : Int)) (8 - (j : Int))
          rw [htf] at hq
          obtain ⟨m, hm⟩ : ∃ m : Nat, (m : Int) = tcI l n (8 - (i : Int)) (8 - (j : Int)) := ⟨_, Int.toNat_of_nonneg hp⟩
          have hlast : innI l n i j m = midI l n i (j + 1) := by rw [← innI_last, htf, ← hm]; simp
          have HM := Lib.hid hm
          have HL := Lib.hid hlast
          have hm5 : m ≤ 504 := by omega
          clear hp hq htf ht hm hlast
          go_wp2
          go_loopw [6] (fun v wr => ∃ c : Nat, c ≤ m ∧ wr.ownsRow w1.heap.size 31 2 v (innI l n i j c).length (vS (innI l n i j c)) ∧ HeldC wr w.heap.size l n (8 - (i : Int)) j c (innI l n i j c).length ∧ But w1.heap.size w.heap.size w1 wr)
            (fun v _ => (innI l n i j m).length - lenV v)
          case atStart => exact ⟨0, by omega, by rw [innI_zero]; exact hown1, by rw [innI_zero]; exact hH1, hbut1⟩
          case round =>
            obtain ⟨c, hc, hown3, hH3, hbut3⟩ := hrel
            have hz3 := hbut3.size
            have hlk := hH3.look HV.out (by omega) (by omega) j0' (by omega)
            rw [← HM.out] at hlk
            by_cases hlc : c < m
            · have HO3 := Lib.hid hown3
              have HH3 := Lib.hid hH3
              have hlen := innI_len l n i j c (by omega) (by omega) (by omega)
              have hx : (0 : Int) < (m : Int) - (c : Int) := by omega
              have hn3 : u6.ownBlock ≠ some wr.heap.size := fun h => by have := (HO3.out.lt _ h).2; omega
              have hnb : u6.ownBlock ≠ some w.heap.size := fun h => by have := (HO3.out.lt _ h).1; omega
              clear hown3 hH3
              go_wp2_with (first | (at_builtin; refine wpList_append_own_at _ rfl _ _ 25 rfl w1.heap.size 31 i0 (.agg #[.int .i64 0, .int .i64 0]) 2 16 Tryd.underlying25 ihi iz0 iz1 iz2 rfl (by decide) _ _ _ rfl ((HO3.out.alloc _).alloc _) ⟨wr.heap.size + 1, 0, none⟩ 1 1 [.int .i64 (8 - (i : Int)), .int .i64 (8 - (j : Int))] rfl rfl ?c1 ?c2 ?c3 ?c4 ?c5 ?_))
              case c1 =>
                intro q u hq
                match q, hq with
                | 0, hq => simp at hq; subst hq; first | (simp [Addr.add]; done) | (simp (disch := first | omega | (simp; done) | (simp; omega)) [go_sem, Addr.add]; done)
                | 1, hq => simp at hq; subst hq; first | (simp [Addr.add]; done) | (simp (disch := first | omega | (simp; done) | (simp; omega)) [go_sem, Addr.add]; done)
              case c2 => intro u hu; simp at hu; rcases hu with rfl | rfl <;> rfl
              case c3 => unfold maxLen; omega
              case c4 => omega
              case c5 => simp; omega
              intro v' w7 hown' hgrow _ hloc
              have hs7 := hgrow.size
              simp only [World.size_alloc] at hs7
              have e0 : w7.cell? ⟨wr.heap.size, 0, none⟩ = some (.int .i64 (8 - (i : Int))) := (hgrow.cell_far ⟨wr.heap.size, 0, none⟩ (by simp; omega) (fun h => hn3 h.symm)).trans (by (simp (disch := first | omega | (simp; done) | (simp; omega)) [go_sem, *]; done))
              have e1 : w7.cell? ⟨wr.heap.size, 1, none⟩ = some (.int .i64 (8 - (j : Int))) := (hgrow.cell_far ⟨wr.heap.size, 1, none⟩ (by simp; omega) (fun h => hn3 h.symm)).trans (by (simp (disch := first | omega | (simp; done) | (simp; omega)) [go_sem, *]; done))
              have hH7 := ((HH3.out.kept (World.grownBy_alloc _ _ none) (by simp)).kept (World.grownBy_alloc _ _ none) (by simp)).kept hgrow (fun h => hnb h.symm)
              have hown7 : w7.ownsRow w1.heap.size 31 2 v' (innI l n i j (c + 1)).length (vS (innI l n i j (c + 1))) := by rw [innI_succ, List.length_append, vS_append]; exact hown'
              have hbel7 : Below w1.heap.size wr w7 := Below.grown (by (repeat' first | (with_reducible exact Below.refl _ _) | (with_reducible assumption) | (with_reducible refine below_drewN ?_ _) | (with_reducible refine Below.drew ?_) | (with_reducible refine Below.alloc ?_ ?_ _) | (with_reducible refine Below.setCell ?_ ?_ _) | (with_reducible refine Below.trans ?_ (Below.mono (by assumption) ?_)) | first | omega | (simp only [World.size_alloc, World.size_setCell, World.size_drew, size_drewN]; omega) | (simp; done) | (simp; omega) | (simp only [World.size_alloc, World.size_setCell, World.size_drew, size_drewN] at *; omega) | (simp at *; omega))) hgrow (by first | omega | (simp only [World.size_alloc, World.size_setCell, World.size_drew, size_drewN]; omega) | (simp; done) | (simp; omega) | (simp only [World.size_alloc, World.size_setCell, World.size_drew, size_drewN] at *; omega) | (simp at *; omega)) (fun k hk => (HO3.out.lt k hk).1)
              have hbut7 := hbut3.below hbel7 (Nat.le_refl _)
              have hl1 : (innI l n i j (c + 1)).length = (innI l n i j c).length + 1 := by rw [innI_succ, List.length_append]; rfl
              have HO7 := Lib.hid hown7
              have HH7 := Lib.hid hH7
              have HL1 := Lib.hid hl1
              clear hown' hgrow hloc hown7 hH7 hl1
              go_wp2_with fail
              refine (HH7.out.strike HS.out (by omega) (by omega) (by omega) j0' (by omega)).mono ?_
              rintro e w8 ⟨rfl, hH8, hb8⟩
              have hown8 := row_but HO7.out hb8 hlt1
              have hbut8 : But w1.heap.size w.heap.size w1 w8 := hbut7.trans ⟨hb8.os, hb8.tape, hb8.output, hb8.size, fun k hk hn => hb8.block k (by omega) hn⟩
              rw [← HL1.out] at hH8
              obtain ⟨a8, c8, rfl⟩ := row_len hown8
              obtain ⟨a6, c6, e6⟩ := row_len HO3.out
              have n1 : (innI l n i j m).length = (midI l n i j).length + m := by simp [innI]
              have n2 : (innI l n i j c).length = (midI l n i j).length + c := by simp [innI]
              have n3 : (innI l n i j (c + 1)).length = (midI l n i j).length + (c + 1) := by simp [innI]
              have N1 := Lib.hid n1
              have N2 := Lib.hid n2
              have N3 := Lib.hid n3
              have E6 := Lib.hid e6
              clear n1 n2 n3 e6
              have d1 : decide ((i : Int) ≤ 8) = true := by simp; omega
              have d2 : decide ((j : Int) ≤ 8) = true := by simp; omega
              go_wp2
              simp only [d1, d2]
              go_roundw
              case rel => exact ⟨c + 1, by omega, hown8, hH8, hbut8⟩
              case measure =>
                rw [E6.out, N1.out]
                show _ - (innI l n i j (c + 1)).length < _ - (innI l n i j c).length
                rw [N2.out, N3.out]
                omega
            · obtain rfl : c = m := by omega
              have hH4 := hH3.done HM.out (by omega) j0' (by omega)
              rw [HL.out] at hown3 hH4
              rw [Int.sub_self] at hlk
              clear hH3
              go_wp2
              go_roundw
              case rel => exact ⟨j + 1, hlj, by go_num, hown3, hH4, hbut3⟩
              case measure => simp [intOf]; omega
        · obtain rfl : j = 9 := by omega
          have e : (8 : Int) - ((i + 1 : Nat) : Int) = 8 - (i : Int) - 1 := by omega
          have hH2 := hH1.next HV.out (by omega)
          rw [← e, midI_last] at hH2
          rw [midI_last] at hown1
          clear e hH1
          go_wp2
          go_roundw
          case rel => exact ⟨i + 1, hlt, by go_num, hown1, hH2, hbut1⟩
          case measure => simp [intOf]; omega
    · obtain rfl : i = 9 := by omega
      go_wp2
      go_ret
      exact ⟨_, rfl, row_mono hown (by omega), hb1.trans (hbut.low hz1 (Nat.le_refl _))⟩
end Go.Proofs.YtjopcpoodhamcaaDoor
