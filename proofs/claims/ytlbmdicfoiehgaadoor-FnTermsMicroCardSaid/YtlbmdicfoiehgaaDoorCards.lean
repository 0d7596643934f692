/-
  DERIVED. GIVEN WITH THE SEED: THE CARDS: each row of YtlbmdicfoiehgaaDoorRows.lean that lists a variable, with what it lists TIED to the program's text (the seventh form; the later family's looks); each row that meets fmt, with fmt's text TOLD by the authors' own Lean function (tested against real Go, not proved from fmt's source: count such statements apart). THE CARD IS WHAT COUNTS. Prove the row's statement (the work); the ties are given (YtlbmdicfoiehgaaDoorTie.lean); close each card by the builder's one call (the guide's Derived/Test/ToyasCard.lean, 'card_holds'). Laid BY PROGRAM, IN A SANDBOX (cutbox-door.mjs). By AI agents, Wed Nov 11 2026. No macro, syntax, notation, axiom, sorry.
-/
import Derived.Test.YtlbmdicfoiehgaaDoorRows
import GoSem.ClaimSeven
namespace Go.Proofs.YtlbmdicfoiehgaaDoor
namespace Rows

/-- THE TIED CARD OF 'laws.FnTermCountNone'. -/
def fnTermCountNoneCard : Claim7 := { stood := { row := fnTermCountNoneRow, standIns := [], harness := (true, "2acaaba1f92972f8039e23bc06b61a6d09837d8b1d344cb83bb5390210061aa1"), looks := false }, kinds := [], alts := [], laidByText := true, laidKinds := [.data, .data], laidTests := true, laidLooks := .later }
def FnTermCountNoneCardSaid : Prop := Claim7.holds Tryd.pinned (.plain (OpenSpec.ofChange fnTermCountNoneSpec)) fnTermCountNoneCard

/-- THE TIED CARD OF 'laws.FnTermCount'. -/
def fnTermCountCard : Claim7 := { stood := { row := fnTermCountRow, standIns := [], harness := (true, "2acaaba1f92972f8039e23bc06b61a6d09837d8b1d344cb83bb5390210061aa1"), looks := false }, kinds := [], alts := [], laidByText := true, laidKinds := [.data, .data], laidTests := true, laidLooks := .later }
def FnTermCountCardSaid : Prop := Claim7.holds Tryd.pinned (.plain (OpenSpec.ofChange fnTermCountSpec)) fnTermCountCard

/-- THE TIED CARD OF 'laws.FnExactTermsOf'. -/
def fnExactTermsOfCard : Claim7 := { stood := { row := fnExactTermsOfRow, standIns := [], harness := (true, "2acaaba1f92972f8039e23bc06b61a6d09837d8b1d344cb83bb5390210061aa1"), looks := false }, kinds := [], alts := [], laidByText := true, laidKinds := [.data, .data], laidTests := true, laidLooks := .later }
def FnExactTermsOfCardSaid : Prop := Claim7.holds Tryd.pinned (.plain (OpenSpec.ofChange fnExactTermsOfSpec)) fnExactTermsOfCard

/-- THE TIED CARD OF 'laws.FnTermsHoles'. -/
def fnTermsHolesCard : Claim7 := { stood := { row := fnTermsHolesRow, standIns := [], harness := (true, "2acaaba1f92972f8039e23bc06b61a6d09837d8b1d344cb83bb5390210061aa1"), looks := false }, kinds := [], alts := [], laidByText := true, laidKinds := [.data, .data], laidTests := true, laidLooks := .later }
def FnTermsHolesCardSaid : Prop := Claim7.holds Tryd.pinned (.plain (OpenSpec.ofChange fnTermsHolesSpec)) fnTermsHolesCard

/-- THE TIED CARD OF 'laws.FnTermsParity'. -/
def fnTermsParityCard : Claim7 := { stood := { row := fnTermsParityRow, standIns := [], harness := (true, "2acaaba1f92972f8039e23bc06b61a6d09837d8b1d344cb83bb5390210061aa1"), looks := false }, kinds := [], alts := [], laidByText := true, laidKinds := [.data, .data], laidTests := true, laidLooks := .later }
def FnTermsParityCardSaid : Prop := Claim7.holds Tryd.pinned (.plain (OpenSpec.ofChange fnTermsParitySpec)) fnTermsParityCard

/-- THE TIED CARD OF 'laws.FnTermsTwo'. -/
def fnTermsTwoCard : Claim7 := { stood := { row := fnTermsTwoRow, standIns := [], harness := (true, "2acaaba1f92972f8039e23bc06b61a6d09837d8b1d344cb83bb5390210061aa1"), looks := false }, kinds := [], alts := [], laidByText := true, laidKinds := [.data, .data], laidTests := true, laidLooks := .later }
def FnTermsTwoCardSaid : Prop := Claim7.holds Tryd.pinned (.plain (OpenSpec.ofChange fnTermsTwoSpec)) fnTermsTwoCard

/-- THE TIED CARD OF 'laws.FnTermsMicro'. -/
def fnTermsMicroCard : Claim7 := { stood := { row := fnTermsMicroRow, standIns := [], harness := (true, "2acaaba1f92972f8039e23bc06b61a6d09837d8b1d344cb83bb5390210061aa1"), looks := false }, kinds := [], alts := [], laidByText := true, laidKinds := [.data, .data], laidTests := true, laidLooks := .later }
def FnTermsMicroCardSaid : Prop := Claim7.holds Tryd.pinned (.plain (OpenSpec.ofChange fnTermsMicroSpec)) fnTermsMicroCard

/-- THE TIED CARD OF 'laws.FnTermsNumber'. -/
def fnTermsNumberCard : Claim7 := { stood := { row := fnTermsNumberRow, standIns := [], harness := (true, "2acaaba1f92972f8039e23bc06b61a6d09837d8b1d344cb83bb5390210061aa1"), looks := false }, kinds := [], alts := [], laidByText := true, laidKinds := [.data, .data], laidTests := true, laidLooks := .later }
def FnTermsNumberCardSaid : Prop := Claim7.holds Tryd.pinned (.plain (OpenSpec.ofChange fnTermsNumberSpec)) fnTermsNumberCard

/-- THE TIED CARD OF 'laws.FnTermsOf'. -/
def fnTermsOfCard : Claim7 := { stood := { row := fnTermsOfRow, standIns := [], harness := (true, "2acaaba1f92972f8039e23bc06b61a6d09837d8b1d344cb83bb5390210061aa1"), looks := false }, kinds := [], alts := [], laidByText := true, laidKinds := [.data, .data], laidTests := true, laidLooks := .later }
def FnTermsOfCardSaid : Prop := Claim7.holds Tryd.pinned (.plain (OpenSpec.ofChange fnTermsOfSpec)) fnTermsOfCard

/-- THE TIED CARD OF 'laws.FnTermsWeight'. -/
def fnTermsWeightCard : Claim7 := { stood := { row := fnTermsWeightRow, standIns := [], harness := (true, "2acaaba1f92972f8039e23bc06b61a6d09837d8b1d344cb83bb5390210061aa1"), looks := false }, kinds := [], alts := [], laidByText := true, laidKinds := [.data, .data], laidTests := true, laidLooks := .later }
def FnTermsWeightCardSaid : Prop := Claim7.holds Tryd.pinned (.plain (OpenSpec.ofChange fnTermsWeightSpec)) fnTermsWeightCard

/-- THE SECOND FORM's CARD OF 'laws.FnTermCountNone'. -/
def fnTermCountNoneUptoCard : Claim7 := { stood := { row := fnTermCountNoneUptoRow, standIns := [], harness := (true, "2acaaba1f92972f8039e23bc06b61a6d09837d8b1d344cb83bb5390210061aa1"), looks := false }, kinds := [], alts := [], laidByText := true, laidKinds := [.data, .data], laidTests := true, laidLooks := .later }
def FnTermCountNoneUptoCardSaid : Prop := Claim7.holds Tryd.pinned (.plain (OpenSpec.upto fnTermCountNoneSpec)) fnTermCountNoneUptoCard

/-- THE SECOND FORM's CARD OF 'laws.FnTermCount'. -/
def fnTermCountUptoCard : Claim7 := { stood := { row := fnTermCountUptoRow, standIns := [], harness := (true, "2acaaba1f92972f8039e23bc06b61a6d09837d8b1d344cb83bb5390210061aa1"), looks := false }, kinds := [], alts := [], laidByText := true, laidKinds := [.data, .data], laidTests := true, laidLooks := .later }
def FnTermCountUptoCardSaid : Prop := Claim7.holds Tryd.pinned (.plain (OpenSpec.upto fnTermCountSpec)) fnTermCountUptoCard

/-- THE SECOND FORM's CARD OF 'laws.FnExactTermsOf'. -/
def fnExactTermsOfUptoCard : Claim7 := { stood := { row := fnExactTermsOfUptoRow, standIns := [], harness := (true, "2acaaba1f92972f8039e23bc06b61a6d09837d8b1d344cb83bb5390210061aa1"), looks := false }, kinds := [], alts := [], laidByText := true, laidKinds := [.data, .data], laidTests := true, laidLooks := .later }
def FnExactTermsOfUptoCardSaid : Prop := Claim7.holds Tryd.pinned (.plain (OpenSpec.upto fnExactTermsOfSpec)) fnExactTermsOfUptoCard

/-- THE SECOND FORM's CARD OF 'laws.FnTermsHoles'. -/
def fnTermsHolesUptoCard : Claim7 := { stood := { row := fnTermsHolesUptoRow, standIns := [], harness := (true, "2acaaba1f92972f8039e23bc06b61a6d09837d8b1d344cb83bb5390210061aa1"), looks := false }, kinds := [], alts := [], laidByText := true, laidKinds := [.data, .data], laidTests := true, laidLooks := .later }
def FnTermsHolesUptoCardSaid : Prop := Claim7.holds Tryd.pinned (.plain (OpenSpec.upto fnTermsHolesSpec)) fnTermsHolesUptoCard

/-- THE SECOND FORM's CARD OF 'laws.FnTermsParity'. -/
def fnTermsParityUptoCard : Claim7 := { stood := { row := fnTermsParityUptoRow, standIns := [], harness := (true, "2acaaba1f92972f8039e23bc06b61a6d09837d8b1d344cb83bb5390210061aa1"), looks := false }, kinds := [], alts := [], laidByText := true, laidKinds := [.data, .data], laidTests := true, laidLooks := .later }
def FnTermsParityUptoCardSaid : Prop := Claim7.holds Tryd.pinned (.plain (OpenSpec.upto fnTermsParitySpec)) fnTermsParityUptoCard

/-- THE SECOND FORM's CARD OF 'laws.FnTermsTwo'. -/
def fnTermsTwoUptoCard : Claim7 := { stood := { row := fnTermsTwoUptoRow, standIns := [], harness := (true, "2acaaba1f92972f8039e23bc06b61a6d09837d8b1d344cb83bb5390210061aa1"), looks := false }, kinds := [], alts := [], laidByText := true, laidKinds := [.data, .data], laidTests := true, laidLooks := .later }
def FnTermsTwoUptoCardSaid : Prop := Claim7.holds Tryd.pinned (.plain (OpenSpec.upto fnTermsTwoSpec)) fnTermsTwoUptoCard

/-- THE SECOND FORM's CARD OF 'laws.FnTermsMicro'. -/
def fnTermsMicroUptoCard : Claim7 := { stood := { row := fnTermsMicroUptoRow, standIns := [], harness := (true, "2acaaba1f92972f8039e23bc06b61a6d09837d8b1d344cb83bb5390210061aa1"), looks := false }, kinds := [], alts := [], laidByText := true, laidKinds := [.data, .data], laidTests := true, laidLooks := .later }
def FnTermsMicroUptoCardSaid : Prop := Claim7.holds Tryd.pinned (.plain (OpenSpec.upto fnTermsMicroSpec)) fnTermsMicroUptoCard

/-- THE SECOND FORM's CARD OF 'laws.FnTermsNumber'. -/
def fnTermsNumberUptoCard : Claim7 := { stood := { row := fnTermsNumberUptoRow, standIns := [], harness := (true, "2acaaba1f92972f8039e23bc06b61a6d09837d8b1d344cb83bb5390210061aa1"), looks := false }, kinds := [], alts := [], laidByText := true, laidKinds := [.data, .data], laidTests := true, laidLooks := .later }
def FnTermsNumberUptoCardSaid : Prop := Claim7.holds Tryd.pinned (.plain (OpenSpec.upto fnTermsNumberSpec)) fnTermsNumberUptoCard

/-- THE SECOND FORM's CARD OF 'laws.FnTermsOf'. -/
def fnTermsOfUptoCard : Claim7 := { stood := { row := fnTermsOfUptoRow, standIns := [], harness := (true, "2acaaba1f92972f8039e23bc06b61a6d09837d8b1d344cb83bb5390210061aa1"), looks := false }, kinds := [], alts := [], laidByText := true, laidKinds := [.data, .data], laidTests := true, laidLooks := .later }
def FnTermsOfUptoCardSaid : Prop := Claim7.holds Tryd.pinned (.plain (OpenSpec.upto fnTermsOfSpec)) fnTermsOfUptoCard

/-- THE SECOND FORM's CARD OF 'laws.FnTermsWeight'. -/
def fnTermsWeightUptoCard : Claim7 := { stood := { row := fnTermsWeightUptoRow, standIns := [], harness := (true, "2acaaba1f92972f8039e23bc06b61a6d09837d8b1d344cb83bb5390210061aa1"), looks := false }, kinds := [], alts := [], laidByText := true, laidKinds := [.data, .data], laidTests := true, laidLooks := .later }
def FnTermsWeightUptoCardSaid : Prop := Claim7.holds Tryd.pinned (.plain (OpenSpec.upto fnTermsWeightSpec)) fnTermsWeightUptoCard
end Rows
end Go.Proofs.YtlbmdicfoiehgaaDoor
