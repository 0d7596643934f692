/-
  The card of the law FnExactFactorSum: it returns true for every input, and the input reads as it did. Conditions: none beyond the given row (the two package-level errors hold what the program lays).
-/
import Derived.Test.YtdghihinednenaaDoorLawsF7
import Derived.Test.YtdghihinednenaaDoorSentb
namespace Go.Proofs.YtdghihinednenaaDoor
set_option linter.unusedSimpArgs false
set_option linter.unusedVariables false
open Go.ChangeShapes Go.WideShapes Go.ChangeAt Go.RowKit
open Go.ChangeMaps (open_string shut_string)

set_option maxRecDepth 100000 in
theorem contract_FnExactFactorSum (H : Type) (enc : TypeId × Value → H) (W : World) (base : Nat) (args : Array Value) (ds gs : List (DataW H)) (before : List MemPlace)
    (hval0 : ∀ (j : Nat) t v, Tryd.f11.params[j]? = some t → args[j]? = some v → Value.okWide Tryd.prog W .any base t v)
    (hW : DataW.Whole enc Tryd.prog Tryd.f11.params.toList Rows.fnExactFactorSumSpec.vars false W args.toList ds gs before) (hL0 : laidMetH Tryd.prog Rows.fnExactFactorSumRow.laid W) :
    Calls Tryd.prog 11 args W fun e W' => ∃ v, e = .returned v ∧ Rows.fnExactFactorSumSpec.post enc Tryd.prog Tryd.f11 false true false false W args v W' := by
  have hval := hval0
  have hW' := hW
  obtain ⟨p, q, hA0, hV0, rfl, hfz, hnd⟩ := hW
  have hA : DataW.TrodAll enc Tryd.prog W 0 (fun _ => true) true Tryd.f11.params.toList args.toList ds p := hA0
  have hV : DataW.TrodVars enc Tryd.prog W (fun _ => true) [nR, nL] gs q := hV0
  have hL : laidMet Tryd.prog LR W := by rw [← metH W]; exact hL0
  rw [Tryd.params11] at hA hval
  obtain ⟨v0, vs0, d0, ds0, p0, q0, hargs, rfl, rfl, h0, r0⟩ := trodAll_cons hA
  obtain ⟨rfl, rfl, rfl⟩ := trodAll_nil r0
  obtain rfl : args = #[v0] := by cases args; simp_all
  obtain ⟨aR, aL, hE, hvR, hvL⟩ := errs_of_met hL
  obtain ⟨rfl, rfl⟩ := hV.unique (vars_readb enc hvL hvR trivial trivial _)
  have k0 := h0
  have lt0 : ∀ x ∈ p0, x.block < W.heap.size := by obtain ⟨m, hm⟩ := k0; exact DataW.trod_lt m _ _ _ hm
  obtain ⟨s0, l0, rfl, ws0, wl0⟩ := open_pair Tryd.underlying23 (by kernel_rfl) Tryd.underlying3 (by kernel_rfl) rfl rfl rfl rfl (hval 0 23 v0 rfl rfl) h0
  clear hA0 hval0 hV0 hL0
  have sz := hE.size
  refine (walk_FnExactFactorSum s0 l0 W aR aL hE).mono fun e W' ⟨he, bel⟩ => ?_
  subst he
  exact ⟨_, rfl, _, _, _, [], _, [.cell 0 0, .cell 1 0], hW', trodAll_mk1 (shut_bool Tryd.underlying4 _), (trodAll_cons_mk (Below.trod laidOut (by kernel_rfl) (of_decide_eq_true (by kernel_rfl)) k0 bel lt0) trodAll_mk0), vars_readb enc (var_below gL (by omega) bel hvL) (var_below gR (by omega) bel hvR) trivial trivial _, bel.frame _, fun h => by cases h⟩

theorem met_FnExactFactorSum (os : Os) : laidMetH Tryd.prog Rows.fnExactFactorSumRow.laid ((laidWorld os).forCall (fun _ _ => 0) ⟨#[], #[.agg #[.int .i64 0, .int .i64 0]], []⟩).memory := by
  show laidMetH Tryd.prog LR _
  rw [metH]
  exact laidWorld_met os _
theorem reads_FnExactFactorSum (os : Os) {H : Type} (enc : TypeId × Value → H) : DataW.whole enc Tryd.prog ((laidWorld os).forCall (fun _ _ => 0) ⟨#[], #[.agg #[.int .i64 0, .int .i64 0]], []⟩).memory Tryd.f11.params.toList Rows.fnExactFactorSumSpec.vars false (show Array Value from #[.agg #[.int .i64 0, .int .i64 0]]).toList 8 = some ([.agg [.lit (.int .i64 0), .lit (.int .i64 0)]], [.held (enc (91, .pointer (some ⟨low, 0, none⟩))), .held (enc (91, .pointer (some ⟨low + 1, 0, none⟩)))], [.cell 0 0, .cell 1 0]) := by kernel_rfl

set_option maxRecDepth 100000 in
theorem lifted_FnExactFactorSum (os : Os) (started : os.Started) (H : Type) (enc : TypeId × Value → H) (F : Stop.Interp) :
    ReturnsInHanded {} Tryd.checked os 11 .any ((OpenSpec.ofChange Rows.fnExactFactorSumSpec).preRow enc Tryd.prog Tryd.f11 Rows.fnExactFactorSumRow.domain false Rows.fnExactFactorSumRow.laid) (((OpenSpec.ofChange Rows.fnExactFactorSumSpec).at F).post enc Tryd.prog Tryd.f11 false true false false) := by
  refine returnsInHanded_of_row (C := Tryd.checked) (s := OpenSpec.ofChange Rows.fnExactFactorSumSpec) own started (by kernel_rfl) Tryd.func11
    (witness_row_at (enc := enc) (C := Tryd.checked) false (laidWorld os) #[.agg #[.int .i64 0, .int .i64 0]] rfl (by kernel_rfl) (by kernel_rfl) (by kernel_rfl)
      (OpenSpec.preRow_of_cond 8 (reads_FnExactFactorSum os enc) (by kernel_rfl) (fun k hk => by cases hk) (by kernel_rfl) (met_FnExactFactorSum os))) ?_
  intro W base args ds gs before hval hW _ _ _ hL _ _
  exact contract_FnExactFactorSum H enc W base args ds gs before hval hW hL

theorem said_FnExactFactorSum : Rows.FnExactFactorSumSaid :=
  OpenClaim.holds_of_cond 11 Tryd.f11 rfl rfl rfl rfl rfl rfl rfl ⟨rfl, rfl, rfl, rfl, rfl⟩ rfl rfl rfl rfl rfl (by kernel_rfl) Tryd.func11 (by kernel_rfl)
    (of_decide_eq_true (by kernel_rfl)) (by unfold Func.isWrapper; first | (rw [if_pos (by decide +kernel)]; kernel_rfl) | (rw [if_neg (by decide +kernel)]; exact ⟨rfl, rfl⟩))
    (fun os started H enc _ F => by rw [OpenClaim.pre_eq_preRow]; exact lifted_FnExactFactorSum os started H enc F)

theorem plain_FnExactFactorSum (f : FuncId) (fn : Func) (hf : Tryd.pinned.checked.prog.funcNamed "loop.example/atomicspectra/laws.FnExactFactorSum" = some f) (hfn : Tryd.pinned.checked.prog.funcs[f]? = some fn) :
    true = Tryd.pinned.checked.prog.looks [] ∧ ∀ (j : Nat) t, fn.params[j]? = some t → Tryd.pinned.checked.prog.wantsStandIn t = false := by
  obtain rfl : f = 11 := Option.some.inj ((show Tryd.prog.funcNamed "loop.example/atomicspectra/laws.FnExactFactorSum" = some 11 by kernel_rfl).symm.trans hf) |>.symm
  obtain rfl : fn = Tryd.f11 := (Option.some.inj (Tryd.func11.symm.trans hfn)).symm
  refine ⟨by kernel_rfl, fun j t ht => ?_⟩
  rw [Tryd.params11] at ht
  have hm : t ∈ [23] := by simpa using Array.mem_of_getElem? ht
  have hall : ([23].all fun u => !Tryd.prog.wantsStandIn u) = true := by kernel_rfl
  exact (show Tryd.prog.wantsStandIn t = false by simpa using List.all_eq_true.1 hall t hm)

/-- THE CARD. -/
theorem proved_FnExactFactorSum : Rows.FnExactFactorSumCardSaid :=
  Claim7.holds_tied_plain_at .later [] _ _ _ _ said_FnExactFactorSum (fun _ h => by cases h) (by kernel_rfl) (fun _ h => by cases h) fnExactFactorSum_row_tie rfl ⟨rfl, rfl⟩ (by kernel_rfl) rfl plain_FnExactFactorSum (by kernel_rfl)
end Go.Proofs.YtdghihinednenaaDoor
