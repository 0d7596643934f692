/-
  DERIVED. GIVEN WITH THE SEED: THE CARDS: each row of YtdghihinednenaaDoorRows.lean that lists a variable, with what it lists TIED to the program's text (the seventh form; the later family's looks); each row that meets fmt, with fmt's text TOLD by the authors' own Lean function (tested against real Go, not proved from fmt's source: count such statements apart). THE CARD IS WHAT COUNTS. Prove the row's statement (the work); the ties are given (YtdghihinednenaaDoorTie.lean); close each card by the builder's one call (the guide's Derived/Test/ToyasCard.lean, 'card_holds'). Laid BY PROGRAM, IN A SANDBOX (cutbox-door.mjs). By AI agents, Wed Nov 11 2026. No macro, syntax, notation, axiom, sorry.
-/
import Derived.Test.YtdghihinednenaaDoorRows
import GoSem.ClaimSeven
namespace Go.Proofs.YtdghihinednenaaDoor
namespace Rows

/-- THE TIED CARD OF 'laws.FnExactFactorOf'. -/
def fnExactFactorOfCard : Claim7 := { stood := { row := fnExactFactorOfRow, standIns := [], harness := (true, "a04df5b8970f76deb3244c7e0a60588c9a5f61a1b14e1208b86a52fabaa523a0"), looks := true }, kinds := [], alts := [], laidByText := true, laidKinds := [.sentinel, .sentinel], laidTests := true, laidLooks := .later }
def FnExactFactorOfCardSaid : Prop := Claim7.holds Tryd.pinned (.plain (OpenSpec.ofChange fnExactFactorOfSpec)) fnExactFactorOfCard

/-- THE TIED CARD OF 'laws.FnFactorDoublet'. -/
def fnFactorDoubletCard : Claim7 := { stood := { row := fnFactorDoubletRow, standIns := [], harness := (true, "a04df5b8970f76deb3244c7e0a60588c9a5f61a1b14e1208b86a52fabaa523a0"), looks := true }, kinds := [], alts := [], laidByText := true, laidKinds := [.sentinel, .sentinel], laidTests := true, laidLooks := .later }
def FnFactorDoubletCardSaid : Prop := Claim7.holds Tryd.pinned (.plain (OpenSpec.ofChange fnFactorDoubletSpec)) fnFactorDoubletCard

/-- THE TIED CARD OF 'laws.FnFactorTop'. -/
def fnFactorTopCard : Claim7 := { stood := { row := fnFactorTopRow, standIns := [], harness := (true, "a04df5b8970f76deb3244c7e0a60588c9a5f61a1b14e1208b86a52fabaa523a0"), looks := true }, kinds := [], alts := [], laidByText := true, laidKinds := [.sentinel, .sentinel], laidTests := true, laidLooks := .later }
def FnFactorTopCardSaid : Prop := Claim7.holds Tryd.pinned (.plain (OpenSpec.ofChange fnFactorTopSpec)) fnFactorTopCard

/-- THE TIED CARD OF 'laws.FnFactorSpin'. -/
def fnFactorSpinCard : Claim7 := { stood := { row := fnFactorSpinRow, standIns := [], harness := (true, "a04df5b8970f76deb3244c7e0a60588c9a5f61a1b14e1208b86a52fabaa523a0"), looks := true }, kinds := [], alts := [], laidByText := true, laidKinds := [.sentinel, .sentinel], laidTests := true, laidLooks := .later }
def FnFactorSpinCardSaid : Prop := Claim7.holds Tryd.pinned (.plain (OpenSpec.ofChange fnFactorSpinSpec)) fnFactorSpinCard

/-- THE TIED CARD OF 'laws.FnExactFactorMoment'. -/
def fnExactFactorMomentCard : Claim7 := { stood := { row := fnExactFactorMomentRow, standIns := [], harness := (true, "a04df5b8970f76deb3244c7e0a60588c9a5f61a1b14e1208b86a52fabaa523a0"), looks := true }, kinds := [], alts := [], laidByText := true, laidKinds := [.sentinel, .sentinel], laidTests := true, laidLooks := .later }
def FnExactFactorMomentCardSaid : Prop := Claim7.holds Tryd.pinned (.plain (OpenSpec.ofChange fnExactFactorMomentSpec)) fnExactFactorMomentCard

/-- THE TIED CARD OF 'laws.FnFactorSwap'. -/
def fnFactorSwapCard : Claim7 := { stood := { row := fnFactorSwapRow, standIns := [], harness := (true, "a04df5b8970f76deb3244c7e0a60588c9a5f61a1b14e1208b86a52fabaa523a0"), looks := true }, kinds := [], alts := [], laidByText := true, laidKinds := [.sentinel, .sentinel], laidTests := true, laidLooks := .later }
def FnFactorSwapCardSaid : Prop := Claim7.holds Tryd.pinned (.plain (OpenSpec.ofChange fnFactorSwapSpec)) fnFactorSwapCard

/-- THE TIED CARD OF 'laws.FnFactorMoment'. -/
def fnFactorMomentCard : Claim7 := { stood := { row := fnFactorMomentRow, standIns := [], harness := (true, "a04df5b8970f76deb3244c7e0a60588c9a5f61a1b14e1208b86a52fabaa523a0"), looks := true }, kinds := [], alts := [], laidByText := true, laidKinds := [.sentinel, .sentinel], laidTests := true, laidLooks := .later }
def FnFactorMomentCardSaid : Prop := Claim7.holds Tryd.pinned (.plain (OpenSpec.ofChange fnFactorMomentSpec)) fnFactorMomentCard

/-- THE TIED CARD OF 'laws.FnFactorMomentRises'. -/
def fnFactorMomentRisesCard : Claim7 := { stood := { row := fnFactorMomentRisesRow, standIns := [], harness := (true, "a04df5b8970f76deb3244c7e0a60588c9a5f61a1b14e1208b86a52fabaa523a0"), looks := true }, kinds := [], alts := [], laidByText := true, laidKinds := [.sentinel, .sentinel], laidTests := true, laidLooks := .later }
def FnFactorMomentRisesCardSaid : Prop := Claim7.holds Tryd.pinned (.plain (OpenSpec.ofChange fnFactorMomentRisesSpec)) fnFactorMomentRisesCard

/-- THE TIED CARD OF 'laws.FnExactFactorSum'. -/
def fnExactFactorSumCard : Claim7 := { stood := { row := fnExactFactorSumRow, standIns := [], harness := (true, "a04df5b8970f76deb3244c7e0a60588c9a5f61a1b14e1208b86a52fabaa523a0"), looks := true }, kinds := [], alts := [], laidByText := true, laidKinds := [.sentinel, .sentinel], laidTests := true, laidLooks := .later }
def FnExactFactorSumCardSaid : Prop := Claim7.holds Tryd.pinned (.plain (OpenSpec.ofChange fnExactFactorSumSpec)) fnExactFactorSumCard

/-- THE TIED CARD OF 'laws.FnFactorSumLevels'. -/
def fnFactorSumLevelsCard : Claim7 := { stood := { row := fnFactorSumLevelsRow, standIns := [], harness := (true, "a04df5b8970f76deb3244c7e0a60588c9a5f61a1b14e1208b86a52fabaa523a0"), looks := true }, kinds := [], alts := [], laidByText := true, laidKinds := [.sentinel, .sentinel], laidTests := true, laidLooks := .later }
def FnFactorSumLevelsCardSaid : Prop := Claim7.holds Tryd.pinned (.plain (OpenSpec.ofChange fnFactorSumLevelsSpec)) fnFactorSumLevelsCard

/-- THE TIED CARD OF 'laws.FnFactorSum'. -/
def fnFactorSumCard : Claim7 := { stood := { row := fnFactorSumRow, standIns := [], harness := (true, "a04df5b8970f76deb3244c7e0a60588c9a5f61a1b14e1208b86a52fabaa523a0"), looks := true }, kinds := [], alts := [], laidByText := true, laidKinds := [.sentinel, .sentinel], laidTests := true, laidLooks := .later }
def FnFactorSumCardSaid : Prop := Claim7.holds Tryd.pinned (.plain (OpenSpec.ofChange fnFactorSumSpec)) fnFactorSumCard

/-- THE SECOND FORM's CARD OF 'laws.FnExactFactorOf'. -/
def fnExactFactorOfUptoCard : Claim7 := { stood := { row := fnExactFactorOfUptoRow, standIns := [], harness := (true, "a04df5b8970f76deb3244c7e0a60588c9a5f61a1b14e1208b86a52fabaa523a0"), looks := true }, kinds := [], alts := [], laidByText := true, laidKinds := [.sentinel, .sentinel], laidTests := true, laidLooks := .later }
def FnExactFactorOfUptoCardSaid : Prop := Claim7.holds Tryd.pinned (.plain (OpenSpec.upto fnExactFactorOfSpec)) fnExactFactorOfUptoCard

/-- THE SECOND FORM's CARD OF 'laws.FnFactorDoublet'. -/
def fnFactorDoubletUptoCard : Claim7 := { stood := { row := fnFactorDoubletUptoRow, standIns := [], harness := (true, "a04df5b8970f76deb3244c7e0a60588c9a5f61a1b14e1208b86a52fabaa523a0"), looks := true }, kinds := [], alts := [], laidByText := true, laidKinds := [.sentinel, .sentinel], laidTests := true, laidLooks := .later }
def FnFactorDoubletUptoCardSaid : Prop := Claim7.holds Tryd.pinned (.plain (OpenSpec.upto fnFactorDoubletSpec)) fnFactorDoubletUptoCard

/-- THE SECOND FORM's CARD OF 'laws.FnFactorTop'. -/
def fnFactorTopUptoCard : Claim7 := { stood := { row := fnFactorTopUptoRow, standIns := [], harness := (true, "a04df5b8970f76deb3244c7e0a60588c9a5f61a1b14e1208b86a52fabaa523a0"), looks := true }, kinds := [], alts := [], laidByText := true, laidKinds := [.sentinel, .sentinel], laidTests := true, laidLooks := .later }
def FnFactorTopUptoCardSaid : Prop := Claim7.holds Tryd.pinned (.plain (OpenSpec.upto fnFactorTopSpec)) fnFactorTopUptoCard

/-- THE SECOND FORM's CARD OF 'laws.FnFactorSpin'. -/
def fnFactorSpinUptoCard : Claim7 := { stood := { row := fnFactorSpinUptoRow, standIns := [], harness := (true, "a04df5b8970f76deb3244c7e0a60588c9a5f61a1b14e1208b86a52fabaa523a0"), looks := true }, kinds := [], alts := [], laidByText := true, laidKinds := [.sentinel, .sentinel], laidTests := true, laidLooks := .later }
def FnFactorSpinUptoCardSaid : Prop := Claim7.holds Tryd.pinned (.plain (OpenSpec.upto fnFactorSpinSpec)) fnFactorSpinUptoCard

/-- THE SECOND FORM's CARD OF 'laws.FnExactFactorMoment'. -/
def fnExactFactorMomentUptoCard : Claim7 := { stood := { row := fnExactFactorMomentUptoRow, standIns := [], harness := (true, "a04df5b8970f76deb3244c7e0a60588c9a5f61a1b14e1208b86a52fabaa523a0"), looks := true }, kinds := [], alts := [], laidByText := true, laidKinds := [.sentinel, .sentinel], laidTests := true, laidLooks := .later }
def FnExactFactorMomentUptoCardSaid : Prop := Claim7.holds Tryd.pinned (.plain (OpenSpec.upto fnExactFactorMomentSpec)) fnExactFactorMomentUptoCard

/-- THE SECOND FORM's CARD OF 'laws.FnFactorSwap'. -/
def fnFactorSwapUptoCard : Claim7 := { stood := { row := fnFactorSwapUptoRow, standIns := [], harness := (true, "a04df5b8970f76deb3244c7e0a60588c9a5f61a1b14e1208b86a52fabaa523a0"), looks := true }, kinds := [], alts := [], laidByText := true, laidKinds := [.sentinel, .sentinel], laidTests := true, laidLooks := .later }
def FnFactorSwapUptoCardSaid : Prop := Claim7.holds Tryd.pinned (.plain (OpenSpec.upto fnFactorSwapSpec)) fnFactorSwapUptoCard

/-- THE SECOND FORM's CARD OF 'laws.FnFactorMoment'. -/
def fnFactorMomentUptoCard : Claim7 := { stood := { row := fnFactorMomentUptoRow, standIns := [], harness := (true, "a04df5b8970f76deb3244c7e0a60588c9a5f61a1b14e1208b86a52fabaa523a0"), looks := true }, kinds := [], alts := [], laidByText := true, laidKinds := [.sentinel, .sentinel], laidTests := true, laidLooks := .later }
def FnFactorMomentUptoCardSaid : Prop := Claim7.holds Tryd.pinned (.plain (OpenSpec.upto fnFactorMomentSpec)) fnFactorMomentUptoCard

/-- THE SECOND FORM's CARD OF 'laws.FnFactorMomentRises'. -/
def fnFactorMomentRisesUptoCard : Claim7 := { stood := { row := fnFactorMomentRisesUptoRow, standIns := [], harness := (true, "a04df5b8970f76deb3244c7e0a60588c9a5f61a1b14e1208b86a52fabaa523a0"), looks := true }, kinds := [], alts := [], laidByText := true, laidKinds := [.sentinel, .sentinel], laidTests := true, laidLooks := .later }
def FnFactorMomentRisesUptoCardSaid : Prop := Claim7.holds Tryd.pinned (.plain (OpenSpec.upto fnFactorMomentRisesSpec)) fnFactorMomentRisesUptoCard

/-- THE SECOND FORM's CARD OF 'laws.FnExactFactorSum'. -/
def fnExactFactorSumUptoCard : Claim7 := { stood := { row := fnExactFactorSumUptoRow, standIns := [], harness := (true, "a04df5b8970f76deb3244c7e0a60588c9a5f61a1b14e1208b86a52fabaa523a0"), looks := true }, kinds := [], alts := [], laidByText := true, laidKinds := [.sentinel, .sentinel], laidTests := true, laidLooks := .later }
def FnExactFactorSumUptoCardSaid : Prop := Claim7.holds Tryd.pinned (.plain (OpenSpec.upto fnExactFactorSumSpec)) fnExactFactorSumUptoCard

/-- THE SECOND FORM's CARD OF 'laws.FnFactorSumLevels'. -/
def fnFactorSumLevelsUptoCard : Claim7 := { stood := { row := fnFactorSumLevelsUptoRow, standIns := [], harness := (true, "a04df5b8970f76deb3244c7e0a60588c9a5f61a1b14e1208b86a52fabaa523a0"), looks := true }, kinds := [], alts := [], laidByText := true, laidKinds := [.sentinel, .sentinel], laidTests := true, laidLooks := .later }
def FnFactorSumLevelsUptoCardSaid : Prop := Claim7.holds Tryd.pinned (.plain (OpenSpec.upto fnFactorSumLevelsSpec)) fnFactorSumLevelsUptoCard

/-- THE SECOND FORM's CARD OF 'laws.FnFactorSum'. -/
def fnFactorSumUptoCard : Claim7 := { stood := { row := fnFactorSumUptoRow, standIns := [], harness := (true, "a04df5b8970f76deb3244c7e0a60588c9a5f61a1b14e1208b86a52fabaa523a0"), looks := true }, kinds := [], alts := [], laidByText := true, laidKinds := [.sentinel, .sentinel], laidTests := true, laidLooks := .later }
def FnFactorSumUptoCardSaid : Prop := Claim7.holds Tryd.pinned (.plain (OpenSpec.upto fnFactorSumSpec)) fnFactorSumUptoCard
end Rows
end Go.Proofs.YtdghihinednenaaDoor
