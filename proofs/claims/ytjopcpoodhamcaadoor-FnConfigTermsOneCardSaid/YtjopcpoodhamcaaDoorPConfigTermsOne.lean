/-
  The card of the law FnConfigTermsOne: it returns true for every input, and the input reads as it did. Conditions: none beyond the given row (the two tables of math/bits hold what the library lays).
-/
import Derived.Test.YtjopcpoodhamcaaDoorLJFnConfigTermsOne
import Derived.Test.YtjopcpoodhamcaaDoorTab
namespace Go.Proofs.YtjopcpoodhamcaaDoor
set_option linter.unusedSimpArgs false
set_option linter.unusedVariables false
open Go.ChangeShapes Go.WideShapes Go.ChangeAt Go.RowKit
open Go.ChangeMaps (open_string shut_string)

set_option maxRecDepth 100000 in
theorem contract_FnConfigTermsOne (H : Type) (enc : TypeId × Value → H) (W : World) (base : Nat) (args : Array Value) (ds gs : List (DataW H)) (before : List MemPlace)
    (hval0 : ∀ (j : Nat) t v, Tryd.f8.params[j]? = some t → args[j]? = some v → Value.okWide Tryd.prog W .any base t v)
    (hW : DataW.Whole enc Tryd.prog Tryd.f8.params.toList Rows.fnConfigTermsOneSpec.vars false W args.toList ds gs before) (hL0 : laidMetH Tryd.prog Rows.fnConfigTermsOneRow.laid W) :
    Calls Tryd.prog 8 args W fun e W' => ∃ v, e = .returned v ∧ Rows.fnConfigTermsOneSpec.post enc Tryd.prog Tryd.f8 false true false false W args v W' := by
  have hval := hval0
  have hW' := hW
  obtain ⟨p, q, hA0, hV0, rfl, hfz, hnd⟩ := hW
  have hA : DataW.TrodAll enc Tryd.prog W 0 (fun _ => true) true Tryd.f8.params.toList args.toList ds p := hA0
  have hV := hV0
  have hT : Tab W := tab_of_laid hL0
  have hsz : 1 < W.heap.size := World.block_lt_of_cell? W _ (hT 0 (by omega))
  rw [Tryd.params8] at hA hval
  obtain ⟨v0, vs0, d0, ds0, p0, q0, hargs, rfl, rfl, h0, r0⟩ := trodAll_cons hA
  obtain ⟨rfl, rfl, rfl⟩ := trodAll_nil r0
  obtain rfl : args = #[v0] := by cases args; simp_all
  obtain ⟨rfl, rfl⟩ := trodVars_none hV
  have k0 := h0
  have lt0 : ∀ x ∈ p0, x.block < W.heap.size := by obtain ⟨m, hm⟩ := k0; exact DataW.trod_lt m _ _ _ hm
  obtain ⟨a0, len0, cap0, rfl⟩ := okWide_slice Tryd.underlying22 (hval 0 22 v0 rfl rfl)
  have b0 := bytesAt_of Tryd.underlying22 Tryd.underlying5 (by kernel_rfl) k0
  clear hA0 hval0 hV0 hL0
  refine (walk_FnConfigTermsOne a0 len0 cap0 W hT hsz b0).mono fun e W' ⟨he, bel⟩ => ?_
  subst he
  exact ⟨_, rfl, _, _, _, [], _, [], hW', trodAll_mk1 (shut_bool Tryd.underlying4 _), (trodAll_cons_mk (Below.trod laidOut (by kernel_rfl) (of_decide_eq_true (by kernel_rfl)) k0 bel lt0) trodAll_mk0), rfl, bel.frame _, fun h => by cases h⟩

theorem met_FnConfigTermsOne (os : Os) : laidMetH Tryd.prog Rows.fnConfigTermsOneRow.laid ((laidWorld os).forCall (fun _ _ => 0) ⟨#[], #[.slice none 0 0], []⟩).memory := by
  show laidMetH Tryd.prog LT _
  rw [metT]
  exact laidWorld_met os _
theorem reads_FnConfigTermsOne (os : Os) {H : Type} (enc : TypeId × Value → H) : DataW.whole enc Tryd.prog ((laidWorld os).forCall (fun _ _ => 0) ⟨#[], #[.slice none 0 0], []⟩).memory Tryd.f8.params.toList Rows.fnConfigTermsOneSpec.vars false (show Array Value from #[.slice none 0 0]).toList 8 = some ([.nil], [], []) := by kernel_rfl

set_option maxRecDepth 100000 in
theorem lifted_FnConfigTermsOne (os : Os) (started : os.Started) (H : Type) (enc : TypeId × Value → H) (F : Stop.Interp) :
    ReturnsInHanded {} Tryd.checked os 8 .any ((OpenSpec.ofChange Rows.fnConfigTermsOneSpec).preRow enc Tryd.prog Tryd.f8 Rows.fnConfigTermsOneRow.domain false Rows.fnConfigTermsOneRow.laid) (((OpenSpec.ofChange Rows.fnConfigTermsOneSpec).at F).post enc Tryd.prog Tryd.f8 false true false false) := by
  refine returnsInHanded_of_row (C := Tryd.checked) (s := OpenSpec.ofChange Rows.fnConfigTermsOneSpec) own started (by kernel_rfl) Tryd.func8
    (witness_row_at (enc := enc) (C := Tryd.checked) false (laidWorld os) #[.slice none 0 0] rfl (by kernel_rfl) (by kernel_rfl) (by kernel_rfl)
      (OpenSpec.preRow_of_cond 8 (reads_FnConfigTermsOne os enc) (by kernel_rfl) (fun k hk => by cases hk) (by kernel_rfl) (met_FnConfigTermsOne os))) ?_
  intro W base args ds gs before hval hW _ _ _ hL _ _
  exact contract_FnConfigTermsOne H enc W base args ds gs before hval hW hL

theorem said_FnConfigTermsOne : Rows.FnConfigTermsOneSaid :=
  OpenClaim.holds_of_cond 8 Tryd.f8 rfl rfl rfl rfl rfl rfl rfl ⟨rfl, rfl, rfl, rfl, rfl⟩ rfl rfl rfl rfl rfl (by kernel_rfl) Tryd.func8 (by kernel_rfl)
    (of_decide_eq_true (by kernel_rfl)) (by unfold Func.isWrapper; first | (rw [if_pos (by decide +kernel)]; kernel_rfl) | (rw [if_neg (by decide +kernel)]; exact ⟨rfl, rfl⟩))
    (fun os started H enc _ F => by rw [OpenClaim.pre_eq_preRow]; exact lifted_FnConfigTermsOne os started H enc F)

theorem plain_FnConfigTermsOne (f : FuncId) (fn : Func) (hf : Tryd.pinned.checked.prog.funcNamed "loop.example/atomicspectra/laws.FnConfigTermsOne" = some f) (hfn : Tryd.pinned.checked.prog.funcs[f]? = some fn) :
    false = Tryd.pinned.checked.prog.looks [] ∧ ∀ (j : Nat) t, fn.params[j]? = some t → Tryd.pinned.checked.prog.wantsStandIn t = false := by
  obtain rfl : f = 8 := Option.some.inj ((show Tryd.prog.funcNamed "loop.example/atomicspectra/laws.FnConfigTermsOne" = some 8 by kernel_rfl).symm.trans hf) |>.symm
  obtain rfl : fn = Tryd.f8 := (Option.some.inj (Tryd.func8.symm.trans hfn)).symm
  refine ⟨by kernel_rfl, fun j t ht => ?_⟩
  rw [Tryd.params8] at ht
  have hm : t ∈ [22] := by simpa using Array.mem_of_getElem? ht
  have hall : ([22].all fun u => !Tryd.prog.wantsStandIn u) = true := by kernel_rfl
  exact (show Tryd.prog.wantsStandIn t = false by simpa using List.all_eq_true.1 hall t hm)

/-- THE CARD. -/
theorem proved_FnConfigTermsOne : Rows.FnConfigTermsOneCardSaid :=
  Claim7.holds_tied_plain_at .later [] _ _ _ _ said_FnConfigTermsOne (fun _ h => by cases h) (by kernel_rfl) (fun _ h => by cases h) fnConfigTermsOne_row_tie rfl ⟨rfl, rfl⟩ (by kernel_rfl) rfl plain_FnConfigTermsOne (by kernel_rfl)
end Go.Proofs.YtjopcpoodhamcaaDoor
