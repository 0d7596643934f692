/-
  The card of the law FnFactorSum: it returns true for every input, and the input reads as it did. Conditions: none beyond the given row (the two package-level errors hold what the program lays).
-/
import Derived.Test.YtdghihinednenaaDoorLawsF8
import Derived.Test.YtdghihinednenaaDoorSentb
namespace Go.Proofs.YtdghihinednenaaDoor
set_option linter.unusedSimpArgs false
set_option linter.unusedVariables false
open Go.ChangeShapes Go.WideShapes Go.ChangeAt Go.RowKit
open Go.ChangeMaps (open_string shut_string)

set_option maxRecDepth 100000 in
theorem contract_FnFactorSum (H : Type) (enc : TypeId × Value → H) (W : World) (base : Nat) (args : Array Value) (ds gs : List (DataW H)) (before : List MemPlace)
    (hval0 : ∀ (j : Nat) t v, Tryd.f13.params[j]? = some t → args[j]? = some v → Value.okWide Tryd.prog W .any base t v)
    (hW : DataW.Whole enc Tryd.prog Tryd.f13.params.toList Rows.fnFactorSumSpec.vars false W args.toList ds gs before) (hL0 : laidMetH Tryd.prog Rows.fnFactorSumRow.laid W) :
    Calls Tryd.prog 13 args W fun e W' => ∃ v, e = .returned v ∧ Rows.fnFactorSumSpec.post enc Tryd.prog Tryd.f13 false true false false W args v W' := by
  have hval := hval0
  have hW' := hW
  obtain ⟨p, q, hA0, hV0, rfl, hfz, hnd⟩ := hW
  have hA : DataW.TrodAll enc Tryd.prog W 0 (fun _ => true) true Tryd.f13.params.toList args.toList ds p := hA0
  have hV : DataW.TrodVars enc Tryd.prog W (fun _ => true) [nR, nL] gs q := hV0
  have hL : laidMet Tryd.prog LR W := by rw [← metH W]; exact hL0
  rw [Tryd.params13] at hA hval
  obtain ⟨v0, vs0, d0, ds0, p0, q0, hargs, rfl, rfl, h0, r0⟩ := trodAll_cons hA
  obtain ⟨rfl, rfl, rfl⟩ := trodAll_nil r0
  obtain rfl : args = #[v0] := by cases args; simp_all
  obtain ⟨aR, aL, hE, hvR, hvL⟩ := errs_of_met hL
  obtain ⟨rfl, rfl⟩ := hV.unique (vars_readb enc hvL hvR trivial trivial _)
  have k0 := h0
  have lt0 : ∀ x ∈ p0, x.block < W.heap.size := by obtain ⟨m, hm⟩ := k0; exact DataW.trod_lt m _ _ _ hm
  obtain ⟨a0, len0, cap0, rfl⟩ := okWide_slice Tryd.underlying36 (hval 0 36 v0 rfl rfl)
  have b0 := bytesAt_of Tryd.underlying36 Tryd.underlying5 (by kernel_rfl) k0
  clear hA0 hval0 hV0 hL0
  have sz := hE.size
  refine (walk_FnFactorSum a0 len0 cap0 W aR aL hE b0).mono fun e W' ⟨he, bel⟩ => ?_
  subst he
  exact ⟨_, rfl, _, _, _, [], _, [.cell 0 0, .cell 1 0], hW', trodAll_mk1 (shut_bool Tryd.underlying4 _), (trodAll_cons_mk (Below.trod laidOut (by kernel_rfl) (of_decide_eq_true (by kernel_rfl)) k0 bel lt0) trodAll_mk0), vars_readb enc (var_below gL (by omega) bel hvL) (var_below gR (by omega) bel hvR) trivial trivial _, bel.frame _, fun h => by cases h⟩

theorem met_FnFactorSum (os : Os) : laidMetH Tryd.prog Rows.fnFactorSumRow.laid ((laidWorld os).forCall (fun _ _ => 0) ⟨#[], #[.slice none 0 0], []⟩).memory := by
  show laidMetH Tryd.prog LR _
  rw [metH]
  exact laidWorld_met os _
theorem reads_FnFactorSum (os : Os) {H : Type} (enc : TypeId × Value → H) : DataW.whole enc Tryd.prog ((laidWorld os).forCall (fun _ _ => 0) ⟨#[], #[.slice none 0 0], []⟩).memory Tryd.f13.params.toList Rows.fnFactorSumSpec.vars false (show Array Value from #[.slice none 0 0]).toList 8 = some ([.nil], [.held (enc (91, .pointer (some ⟨low, 0, none⟩))), .held (enc (91, .pointer (some ⟨low + 1, 0, none⟩)))], [.cell 0 0, .cell 1 0]) := by kernel_rfl

set_option maxRecDepth 100000 in
theorem lifted_FnFactorSum (os : Os) (started : os.Started) (H : Type) (enc : TypeId × Value → H) (F : Stop.Interp) :
    ReturnsInHanded {} Tryd.checked os 13 .any ((OpenSpec.ofChange Rows.fnFactorSumSpec).preRow enc Tryd.prog Tryd.f13 Rows.fnFactorSumRow.domain false Rows.fnFactorSumRow.laid) (((OpenSpec.ofChange Rows.fnFactorSumSpec).at F).post enc Tryd.prog Tryd.f13 false true false false) := by
  refine returnsInHanded_of_row (C := Tryd.checked) (s := OpenSpec.ofChange Rows.fnFactorSumSpec) own started (by kernel_rfl) Tryd.func13
    (witness_row_at (enc := enc) (C := Tryd.checked) false (laidWorld os) #[.slice none 0 0] rfl (by kernel_rfl) (by kernel_rfl) (by kernel_rfl)
      (OpenSpec.preRow_of_cond 8 (reads_FnFactorSum os enc) (by kernel_rfl) (fun k hk => by cases hk) (by kernel_rfl) (met_FnFactorSum os))) ?_
  intro W base args ds gs before hval hW _ _ _ hL _ _
  exact contract_FnFactorSum H enc W base args ds gs before hval hW hL

theorem said_FnFactorSum : Rows.FnFactorSumSaid :=
  OpenClaim.holds_of_cond 13 Tryd.f13 rfl rfl rfl rfl rfl rfl rfl ⟨rfl, rfl, rfl, rfl, rfl⟩ rfl rfl rfl rfl rfl (by kernel_rfl) Tryd.func13 (by kernel_rfl)
    (of_decide_eq_true (by kernel_rfl)) (by unfold Func.isWrapper; first | (rw [if_pos (by decide +kernel)]; kernel_rfl) | (rw [if_neg (by decide +kernel)]; exact ⟨rfl, rfl⟩))
    (fun os started H enc _ F => by rw [OpenClaim.pre_eq_preRow]; exact lifted_FnFactorSum os started H enc F)

theorem plain_FnFactorSum (f : FuncId) (fn : Func) (hf : Tryd.pinned.checked.prog.funcNamed "loop.example/atomicspectra/laws.FnFactorSum" = some f) (hfn : Tryd.pinned.checked.prog.funcs[f]? = some fn) :
    true = Tryd.pinned.checked.prog.looks [] ∧ ∀ (j : Nat) t, fn.params[j]? = some t → Tryd.pinned.checked.prog.wantsStandIn t = false := by
  obtain rfl : f = 13 := Option.some.inj ((show Tryd.prog.funcNamed "loop.example/atomicspectra/laws.FnFactorSum" = some 13 by kernel_rfl).symm.trans hf) |>.symm
  obtain rfl : fn = Tryd.f13 := (Option.some.inj (Tryd.func13.symm.trans hfn)).symm
  refine ⟨by kernel_rfl, fun j t ht => ?_⟩
  rw [Tryd.params13] at ht
  have hm : t ∈ [36] := by simpa using Array.mem_of_getElem? ht
  have hall : ([36].all fun u => !Tryd.prog.wantsStandIn u) = true := by kernel_rfl
  exact (show Tryd.prog.wantsStandIn t = false by simpa using List.all_eq_true.1 hall t hm)

/-- THE CARD. -/
theorem proved_FnFactorSum : Rows.FnFactorSumCardSaid :=
  Claim7.holds_tied_plain_at .later [] _ _ _ _ said_FnFactorSum (fun _ h => by cases h) (by kernel_rfl) (fun _ h => by cases h) fnFactorSum_row_tie rfl ⟨rfl, rfl⟩ (by kernel_rfl) rfl plain_FnFactorSum (by kernel_rfl)
end Go.Proofs.YtdghihinednenaaDoor
