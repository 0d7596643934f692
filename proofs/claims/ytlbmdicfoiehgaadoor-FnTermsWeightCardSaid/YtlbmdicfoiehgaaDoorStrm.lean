/-
  The walk of impl's strike. Conditions: none.
-/
import Derived.Test.YtlbmdicfoiehgaaDoorStrl
namespace Go.Proofs.YtlbmdicfoiehgaaDoor
set_option linter.unusedSimpArgs false
set_option linter.unusedVariables false
open Go.RowKit Go.Shelf
attribute [local go_sem] Oper.semAt_some

theorem ownFrom_but {β : Type} {n₀ b B : Nat} {w : World} (hn : n₀ ≤ w.heap.size) (hB : n₀ ≤ B) : OwnFrom B (fun (_ : β) W => But n₀ b w W) :=
  fun _ A C row hs hg hr => by
    have hz := hs.size
    exact ⟨hg.os.trans hs.os, hg.tape.trans hs.tape, hg.output.trans hs.output, Nat.le_trans hs.size hg.size, fun k hk hne => (hg.block k (by omega) (fun e => by have := (hr k e.symm).1; omega)).trans (hs.block k hk hne)⟩
theorem ownFrom_mp {β : Type} {b B : Nat} (hb : b < B) (f : β → Nat) (g : β → Int → Int → Int) : OwnFrom B (fun (x : β) W => Mp W b (f x) (g x)) :=
  fun _ A C row hs hg hr => hs.kept hg (fun e => by have := (hr _ e.symm).1; omega)
def atPtr (v : Value) (w : World) : Int :=
  match v with
  | .pointer (some p) => match w.cell? p with
    | some (.int _ x) => x
    | _ => 0
  | _ => 0
theorem not_cell {W : World} {D B o : Nat} {v : Value} {x : Option (List Deferred)} (hD : W.heap[D]? = some (.deferred x)) (hc : W.cell? ⟨B, o, none⟩ = some v) : D ≠ B := by
  rintro rfl
  simp [World.cell?, hD] at hc
set_option maxRecDepth 100000 in
set_option maxHeartbeats 4000000 in
theorem strike_ok : StrikeOk := by
  intro b N K F s k w0 hM hF hK hN s0 s8 k0 k8
  obtain ⟨s, rfl⟩ := Int.eq_ofNat_of_zero_le s0
  obtain ⟨k, rfl⟩ := Int.eq_ofNat_of_zero_le k0
  have hb := hM.lt
  refine (callsIn_wide (n := 8)).1 ?_
  refine callsIn_of_wp_marks Tryd.func39 rfl trivial ?_ rfl
  simp only [Tryd.ntmps39, List.size_toArray, List.length_cons, List.length_nil, Nat.reduceAdd, Nat.reduceSub, Array.replicate_succ, Array.replicate_zero, List.push_toArray, List.append_toArray, List.nil_append, List.cons_append]
  gi_wp2
  obtain ⟨w1, hw1⟩ : ∃ W, W = ((w0.alloc (.cells #[.map (some b)] 49)).alloc (.cells #[.int .i64 s, .int .i64 k] 24)).alloc (.cells #[.int .i64 (-(k : Int))] 3) := ⟨_, rfl⟩
  have hB1 : Below w0.heap.size w0 w1 := by rw [hw1]; (repeat' first | (with_reducible exact Below.refl _ _) | (with_reducible assumption) | (with_reducible refine below_drewN ?_ _) | (with_reducible refine Below.drew ?_) | (with_reducible refine Below.alloc ?_ ?_ _) | (with_reducible refine Below.setCell ?_ ?_ _) | (with_reducible refine Below.trans ?_ (Below.mono (by assumption) ?_)) | first | omega | (simp only [World.size_alloc, World.size_setCell, World.size_drew, size_drewN]; omega) | (simp; done) | (simp; omega) | (simp only [World.size_alloc, World.size_setCell, World.size_drew, size_drewN] at *; omega) | (simp at *; omega))
  have hz1 : w1.heap.size = w0.heap.size + 3 := by rw [hw1]; simp
  have c2 : w1.cell? ⟨w0.heap.size, 0, none⟩ = some (.map (some b)) := by rw [hw1]; (simp (disch := first | omega | (simp; done) | (simp; omega)) [go_sem, *]; done)
  have c30 : w1.cell? ⟨w0.heap.size + 1, 0, none⟩ = some (.int .i64 s) := by rw [hw1]; (simp (disch := first | omega | (simp; done) | (simp; omega)) [go_sem, *]; done)
  have c31 : w1.cell? ⟨w0.heap.size + 1, 1, none⟩ = some (.int .i64 k) := by rw [hw1]; (simp (disch := first | omega | (simp; done) | (simp; omega)) [go_sem, *]; done)
  have c4 : w1.cell? ⟨w0.heap.size + 1 + 1, 0, none⟩ = some (.int .i64 (-(k : Int))) := by rw [hw1]; (simp (disch := first | omega | (simp; done) | (simp; omega)) [go_sem, *]; done)
  have f4 : w1.frozen? ⟨w0.heap.size + 1 + 1, 0, none⟩ = false := by rw [hw1]; (simp (disch := first | omega | (simp; done) | (simp; omega)) [go_sem, *]; done)
  have hM1 : Mp w1 b N F := hM.below hB1 hb
  rw [← hw1]
  clear hw1 hM
  refine wpIn_loop (fun a' wr => ∃ (u9 u10 u11 u12 u13 u14 u15 u16 u17 u27 : Value) (ds : List Deferred) (i Bx : Nat),
      (i ≤ 2 * k + 1 ∧ w0.heap.size + 2 ≤ Bx ∧ wr.cell? ⟨Bx, 0, none⟩ = some (.int .i64 (-(k : Int) + (i : Int))) ∧ wr.frozen? ⟨Bx, 0, none⟩ = false ∧ Mp wr b (N + 9 * i) (rowN F s k i) ∧ But (w0.heap.size + 2) b w1 wr ∧ MarksOk (w0.heap.size + 2) wr ds) ∧
      a' = { tmps := #[.map (some b), .agg #[.int .i64 s, .int .i64 k], .pointer (some ⟨w0.heap.size, 0, none⟩), .pointer (some ⟨w0.heap.size + 1, 0, none⟩), .pointer (some ⟨Bx, 0, none⟩), undef, .pointer (some ⟨w0.heap.size + 1, 1, none⟩), .int .i64 k, .int .i64 (-(k : Int)), u9, u10, u11, u12, u13, u14, u15, u16, u17, undef, undef, undef, undef, undef, undef, undef, undef, undef, u27], defers := ds })
    (fun a' wr => ((k : Int) + 1 - atPtr (a'.tmps.getD 4 undef) wr).toNat) ?start ?round
  case start =>
    refine ⟨undef, undef, undef, undef, undef, undef, undef, undef, undef, undef, [], 0, w0.heap.size + 2, ⟨by omega, by omega, by rw [c4]; simp, f4, by rw [show ((0 : Nat) : Int) = 0 from rfl, rowN_zero]; exact hM1, But.refl _ _ _, trivial⟩, rfl⟩
  case round =>
    rintro a' wr ⟨u9, u10, u11, u12, u13, u14, u15, u16, u17, u27, ds, i, Bx, ⟨hi, hBx, hc, hf, hM, hbut, hmk⟩, rfl⟩
    have hbz := hbut.size
    have i0' : (0 : Int) ≤ (i : Int) := Int.natCast_nonneg _
    have d2 := (hbut.cell (b := w0.heap.size) (o := 0) (by omega) (by omega)).trans c2
    have d30 := (hbut.cell (b := w0.heap.size + 1) (o := 0) (by omega) (by omega)).trans c30
    have d31 := (hbut.cell (b := w0.heap.size + 1) (o := 1) (by omega) (by omega)).trans c31
    have hxz : Bx < wr.heap.size := World.block_lt_of_cell? wr _ hc
    by_cases hlt : i < 2 * k + 1
    · have HM := Lib.hid hM
      have HB := Lib.hid hbut
      have HK := Lib.hid hmk
      clear hM hbut hmk c2 c30 c31 c4 f4 hM1
      gi_wp2_with (refine ⟨trivial, ?_⟩; gi_at_call 47; refine (projs_in _ _ trivial rfl _ _).mono ?_; rintro e w' ⟨rfl, rfl⟩)
      have hcP : (wr.alloc (.cells #[.int .i64 s] 67)).cell? ⟨wr.heap.size, 0, none⟩ = some (.int .i64 s) := by (simp (disch := first | omega | (simp; done) | (simp; omega)) [go_sem, *]; done)
      obtain ⟨Wr, hWr⟩ : ∃ W, W = wr.alloc (.cells #[.int .i64 s] 67) := ⟨_, rfl⟩
      have hWz : Wr.heap.size = wr.heap.size + 1 := by rw [hWr]; simp
      have hWa : Below wr.heap.size wr Wr := by rw [hWr]; exact (Below.refl _ _).alloc (Nat.le_refl _) _
      rw [← hWr] at hcP
      rw [← hWr]
      clear hWr
      have hMr : Mp Wr b (N + 9 * i) (rowN F s k i) := HM.out.below hWa (by omega)
      refine wpIn_rangeFunc_ownG (F := Fence.wide) rfl (by omega) (gf := 52) (lb := #[.pointer (some ⟨wr.heap.size, 0, none⟩)]) rfl trivial (enters_of Tryd.func52 (by kernel_rfl) rfl)
        (proj_stops Fence.wide 7 trivial rfl (by omega) wr.heap.size b s (by omega) Wr (by omega) (by omega) hcP) (fun h h' => h.trans h') (butK_b (Nat.le_refl _)) (Below.refl _ _) (fun _ => rfl)
        (fun pre W => Mp W b (N + 9 * i + pre.length) (rowG (rowN F s k i) (-(k : Int) + (i : Int)) pre) ∧ But Wr.heap.size b Wr W)
        (fun _ _ _ => False)
        (OwnFrom.and (ownFrom_mp (by omega) _ _) (ownFrom_but (Nat.le_refl _) (Nat.le_refl _)))
        (fun _ _ _ _ _ hs _ _ => hs)
        ⟨by rw [rowG_nil]; exact hMr, But.refl _ _ _⟩
        ?a1 ?assign ?body ?done ?stop
      case assign =>
        intro l x W K hK
        gi_wp2
        exact hK
      case body =>
        rintro l pre x W ⟨hM, hb2⟩ hlt2
        have hz2 := hb2.size
        have bx := x.2
        obtain ⟨o, ho⟩ : ∃ o : Int, o = -(k : Int) + (i : Int) := ⟨_, rfl⟩
        have q2 := (hb2.cell (b := w0.heap.size) (o := 0) (by omega) (by omega)).trans ((hWa.cell (p := ⟨w0.heap.size, 0, none⟩) (by show w0.heap.size < _; omega)).trans d2)
        have q4 := (hb2.cell (b := Bx) (o := 0) (by omega) (by omega)).trans ((hWa.cell (p := ⟨Bx, 0, none⟩) hxz).trans hc)
        have HO := Lib.hid ho
        rw [← ho] at hM q4
        have hsm : sm o x.1 := ⟨by omega, by omega, by omega, by omega⟩
        have hvb := rowG_bd (rowN_bd hF s k i) o pre (by omega) o x.1
        have hMX : Mp W.drew b (N + 9 * i + pre.length) (rowG (rowN F s k i) o pre) := hM.heap rfl
        have hl := hMX.lookup hsm
        obtain ⟨v0, st, w2, he, hg, hgz, hM2, hst⟩ := hMX.entry (by unfold maxLen; omega) hsm
        have hl2 := hM2.lookup hsm
        obtain ⟨w3, hs3, hg3, hz3, hM3⟩ := hst w2 (rowG (rowN F s k i) o pre o x.1 - 1) rfl (by omega) (by omega)
        have he' : (Instr.mapEntry 49 (.map (some b)) (.agg #[.int .i64 o, .int .i64 x.1])).run Tryd.prog W.drew = .ok (.tuple #[v0, .int .i64 st]) w2 := he
        have hs3' : (Instr.entryStore 49 (.map (some b)) (.int .i64 st) (.int .i64 (rowG (rowN F s k i) o pre o x.1 - 1))).run Tryd.prog w2 = .ok () w3 := hs3
        have hwr : IntKind.i64.wrap (rowG (rowN F s k i) o pre o x.1 - 1) = rowG (rowN F s k i) o pre o x.1 - 1 := IntWalk.i64_in _ (by omega)
        have hbW : But Wr.heap.size b W w3 := (((But.refl _ _ _).drew).grown hg (by show Wr.heap.size ≤ W.heap.size; omega)).grown hg3 (by rw [hgz]; show Wr.heap.size ≤ W.heap.size; omega)
        have hkf : KeepsFrom Wr.heap.size W w3 := (((KeepsOthers.drew W).from _).trans (KeepsFrom.of_grownBy hg (fun j e => by cases e; omega))).trans (KeepsFrom.of_grownBy hg3 (fun j e => by cases e; omega))
        have HR := Lib.hid (show KeepsFrom Wr.heap.size W w3 ∧ But Wr.heap.size b W w3 ∧ (Mp w3 b (N + 9 * i + (pre ++ [x]).length) (rowG (rowN F s k i) o (pre ++ [x])) ∧ But Wr.heap.size b Wr w3) from
          ⟨hkf, hbW, by rw [← rowG_step, List.length_append]; exact hM3, hb2.trans hbW⟩)
        clear he hs3 hst hMX hM2 hM3 hM hb2 hg hg3 hgz hz3 hbW hkf ho
        gi_wp2
        gi_region
        all_goals gi_wp2
        all_goals (have R := HR.out; rw [HO.out] at R; exact R)
      case done =>
        rintro D ys W hD rfl ⟨hM, hb2⟩ hK
        have hz2 := hb2.size
        have q4 := (hb2.cell (b := Bx) (o := 0) (by omega) (by omega)).trans ((hWa.cell (p := ⟨Bx, 0, none⟩) hxz).trans hc)
        have HM2 := Lib.hid hM
        have HB2 := Lib.hid hb2
        have HD := Lib.hid hK
        clear hM hb2 hK
        gi_wp2
        have hM3 := HM2.out
        rw [prL_len, rowN_step F s k (by omega) i] at hM3
        have hb3 : But (w0.heap.size + 2) b w1 W := (HB.out.below (hWa.mono (Nat.le_refl _)) (by omega)).trans ⟨HB2.out.os, HB2.out.tape, HB2.out.output, HB2.out.size, fun k hk hn => HB2.out.block k (by omega) hn⟩
        have hmk : MarksOk (w0.heap.size + 2) W ({ target := .collected D, args := #[] } :: ds) := by
          refine ⟨⟨D, rfl, by omega, HD.out, fun d' hd' e => ?_⟩, ?_⟩
          · have := HK.out.lt d' hd' D e
            omega
          · refine HK.out.keep fun D' _ h1 _ => ?_
            have hlt' : D' < wr.heap.size := (Array.getElem?_eq_some_iff.1 h1).1
            refine (HB2.out.block D' (by omega) ?_).trans ((hWa.block D' hlt').trans h1)
            intro e
            obtain ⟨D0, ⟨es, ck, hh, -⟩, -⟩ := HM.out
            rw [e, hh] at h1
            cases h1
        have hz4 : W.heap.size < (W.alloc (.cells #[.int .i64 (-(k : Int) + (i : Int) + 1)] 3)).heap.size := by simp
        refine ⟨⟨_, _, _, _, _, _, _, _, _, _, _, i + 1, W.heap.size, ⟨by omega, by omega, ?_, ?_, ?_, ?_, ?_⟩, rfl⟩, ?_⟩
        · rw [show -(k : Int) + ((i + 1 : Nat) : Int) = -(k : Int) + (i : Int) + 1 by omega]; (simp (disch := first | omega | (simp; done) | (simp; omega)) [go_sem, *]; done)
        · (simp (disch := first | omega | (simp; done) | (simp; omega)) [go_sem, *]; done)
        · exact (hM3.kept (World.grownBy_alloc _ _ none) (by simp)).mono (by omega)
        · exact hb3.alloc (by omega) _
        · exact hmk.keep fun D' _ h1 _ => (Below.heap_alloc W _ D' (Array.getElem?_eq_some_iff.1 h1).1).trans h1
        · have e1 : (W.alloc (.cells #[.int .i64 (-(k : Int) + (i : Int) + 1)] 3)).cell? ⟨W.heap.size, 0, none⟩ = some (.int .i64 (-(k : Int) + (i : Int) + 1)) := by (simp (disch := first | omega | (simp; done) | (simp; omega)) [go_sem, *]; done)
          simp [atPtr, e1, hc]
          omega
      case stop =>
        rintro D c pre W _ _ h _
        exact h.elim
    · obtain rfl : i = 2 * k + 1 := by omega
      have HM := Lib.hid hM
      have HB := Lib.hid hbut
      have HK := Lib.hid hmk
      clear hM hbut hmk c2 c30 c31 c4 f4 hM1
      gi_wp2
      have hM3 := HM.out
      rw [rowN_last] at hM3
      refine marks_leave (B := w0.heap.size + 2) (b := b) (w0 := w1) (by omega) (by omega) (N + 9 * (2 * k + 1)) (strN F s k 1) ?_ ds wr HK.out hM3 HB.out
      intro W hM4 hb4
      exact ⟨_, results_none rfl _ _ _, rfl, hM4.mono (by omega), ⟨hb4.os.trans hB1.os, hb4.tape.trans hB1.tape, hb4.output.trans hB1.output, by have := hB1.size; have := hb4.size; omega, fun j hj hn => (hb4.block j (by omega) hn).trans (hB1.block j hj)⟩⟩
end Go.Proofs.YtlbmdicfoiehgaaDoor
