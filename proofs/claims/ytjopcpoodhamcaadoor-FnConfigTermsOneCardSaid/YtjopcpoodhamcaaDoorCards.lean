/-
  DERIVED. GIVEN WITH THE SEED: THE CARDS: each row of YtjopcpoodhamcaaDoorRows.lean that lists a variable, with what it lists TIED to the program's text (the seventh form; the later family's looks); each row that meets fmt, with fmt's text TOLD by the authors' own Lean function (tested against real Go, not proved from fmt's source: count such statements apart). THE CARD IS WHAT COUNTS. Prove the row's statement (the work); the ties are given (YtjopcpoodhamcaaDoorTie.lean); close each card by the builder's one call (the guide's Derived/Test/ToyasCard.lean, 'card_holds'). Laid BY PROGRAM, IN A SANDBOX (cutbox-door.mjs). By AI agents, Wed Nov 11 2026. No macro, syntax, notation, axiom, sorry.
-/
import Derived.Test.YtjopcpoodhamcaaDoorRows
import GoSem.ClaimSeven
namespace Go.Proofs.YtjopcpoodhamcaaDoor
namespace Rows

/-- THE TIED CARD OF 'laws.FnConfigTermsOpen'. -/
def fnConfigTermsOpenCard : Claim7 := { stood := { row := fnConfigTermsOpenRow, standIns := [], harness := (true, "3c8402e533eba049d496dbf59d437d91936a1f64c35de4a35635e725cca8e47b"), looks := false }, kinds := [], alts := [], laidByText := true, laidKinds := [.data, .data], laidTests := true, laidLooks := .later }
def FnConfigTermsOpenCardSaid : Prop := Claim7.holds Tryd.pinned (.plain (OpenSpec.ofChange fnConfigTermsOpenSpec)) fnConfigTermsOpenCard

/-- THE TIED CARD OF 'laws.FnConfigTerms'. -/
def fnConfigTermsCard : Claim7 := { stood := { row := fnConfigTermsRow, standIns := [], harness := (true, "3c8402e533eba049d496dbf59d437d91936a1f64c35de4a35635e725cca8e47b"), looks := false }, kinds := [], alts := [], laidByText := true, laidKinds := [.data, .data], laidTests := true, laidLooks := .later }
def FnConfigTermsCardSaid : Prop := Claim7.holds Tryd.pinned (.plain (OpenSpec.ofChange fnConfigTermsSpec)) fnConfigTermsCard

/-- THE TIED CARD OF 'laws.FnExactTermsConfig'. -/
def fnExactTermsConfigCard : Claim7 := { stood := { row := fnExactTermsConfigRow, standIns := [], harness := (true, "3c8402e533eba049d496dbf59d437d91936a1f64c35de4a35635e725cca8e47b"), looks := false }, kinds := [], alts := [], laidByText := true, laidKinds := [.data, .data], laidTests := true, laidLooks := .later }
def FnExactTermsConfigCardSaid : Prop := Claim7.holds Tryd.pinned (.plain (OpenSpec.ofChange fnExactTermsConfigSpec)) fnExactTermsConfigCard

/-- THE TIED CARD OF 'laws.FnConfigTermsHoles'. -/
def fnConfigTermsHolesCard : Claim7 := { stood := { row := fnConfigTermsHolesRow, standIns := [], harness := (true, "3c8402e533eba049d496dbf59d437d91936a1f64c35de4a35635e725cca8e47b"), looks := false }, kinds := [], alts := [], laidByText := true, laidKinds := [.data, .data], laidTests := true, laidLooks := .later }
def FnConfigTermsHolesCardSaid : Prop := Claim7.holds Tryd.pinned (.plain (OpenSpec.ofChange fnConfigTermsHolesSpec)) fnConfigTermsHolesCard

/-- THE TIED CARD OF 'laws.FnConfigTermsNumber'. -/
def fnConfigTermsNumberCard : Claim7 := { stood := { row := fnConfigTermsNumberRow, standIns := [], harness := (true, "3c8402e533eba049d496dbf59d437d91936a1f64c35de4a35635e725cca8e47b"), looks := false }, kinds := [], alts := [], laidByText := true, laidKinds := [.data, .data], laidTests := true, laidLooks := .later }
def FnConfigTermsNumberCardSaid : Prop := Claim7.holds Tryd.pinned (.plain (OpenSpec.ofChange fnConfigTermsNumberSpec)) fnConfigTermsNumberCard

/-- THE TIED CARD OF 'laws.FnConfigTermsOne'. -/
def fnConfigTermsOneCard : Claim7 := { stood := { row := fnConfigTermsOneRow, standIns := [], harness := (true, "3c8402e533eba049d496dbf59d437d91936a1f64c35de4a35635e725cca8e47b"), looks := false }, kinds := [], alts := [], laidByText := true, laidKinds := [.data, .data], laidTests := true, laidLooks := .later }
def FnConfigTermsOneCardSaid : Prop := Claim7.holds Tryd.pinned (.plain (OpenSpec.ofChange fnConfigTermsOneSpec)) fnConfigTermsOneCard

/-- THE SECOND FORM's CARD OF 'laws.FnConfigTermsOpen'. -/
def fnConfigTermsOpenUptoCard : Claim7 := { stood := { row := fnConfigTermsOpenUptoRow, standIns := [], harness := (true, "3c8402e533eba049d496dbf59d437d91936a1f64c35de4a35635e725cca8e47b"), looks := false }, kinds := [], alts := [], laidByText := true, laidKinds := [.data, .data], laidTests := true, laidLooks := .later }
def FnConfigTermsOpenUptoCardSaid : Prop := Claim7.holds Tryd.pinned (.plain (OpenSpec.upto fnConfigTermsOpenSpec)) fnConfigTermsOpenUptoCard

/-- THE SECOND FORM's CARD OF 'laws.FnConfigTerms'. -/
def fnConfigTermsUptoCard : Claim7 := { stood := { row := fnConfigTermsUptoRow, standIns := [], harness := (true, "3c8402e533eba049d496dbf59d437d91936a1f64c35de4a35635e725cca8e47b"), looks := false }, kinds := [], alts := [], laidByText := true, laidKinds := [.data, .data], laidTests := true, laidLooks := .later }
def FnConfigTermsUptoCardSaid : Prop := Claim7.holds Tryd.pinned (.plain (OpenSpec.upto fnConfigTermsSpec)) fnConfigTermsUptoCard

/-- THE SECOND FORM's CARD OF 'laws.FnExactTermsConfig'. -/
def fnExactTermsConfigUptoCard : Claim7 := { stood := { row := fnExactTermsConfigUptoRow, standIns := [], harness := (true, "3c8402e533eba049d496dbf59d437d91936a1f64c35de4a35635e725cca8e47b"), looks := false }, kinds := [], alts := [], laidByText := true, laidKinds := [.data, .data], laidTests := true, laidLooks := .later }
def FnExactTermsConfigUptoCardSaid : Prop := Claim7.holds Tryd.pinned (.plain (OpenSpec.upto fnExactTermsConfigSpec)) fnExactTermsConfigUptoCard

/-- THE SECOND FORM's CARD OF 'laws.FnConfigTermsHoles'. -/
def fnConfigTermsHolesUptoCard : Claim7 := { stood := { row := fnConfigTermsHolesUptoRow, standIns := [], harness := (true, "3c8402e533eba049d496dbf59d437d91936a1f64c35de4a35635e725cca8e47b"), looks := false }, kinds := [], alts := [], laidByText := true, laidKinds := [.data, .data], laidTests := true, laidLooks := .later }
def FnConfigTermsHolesUptoCardSaid : Prop := Claim7.holds Tryd.pinned (.plain (OpenSpec.upto fnConfigTermsHolesSpec)) fnConfigTermsHolesUptoCard

/-- THE SECOND FORM's CARD OF 'laws.FnConfigTermsNumber'. -/
def fnConfigTermsNumberUptoCard : Claim7 := { stood := { row := fnConfigTermsNumberUptoRow, standIns := [], harness := (true, "3c8402e533eba049d496dbf59d437d91936a1f64c35de4a35635e725cca8e47b"), looks := false }, kinds := [], alts := [], laidByText := true, laidKinds := [.data, .data], laidTests := true, laidLooks := .later }
def FnConfigTermsNumberUptoCardSaid : Prop := Claim7.holds Tryd.pinned (.plain (OpenSpec.upto fnConfigTermsNumberSpec)) fnConfigTermsNumberUptoCard

/-- THE SECOND FORM's CARD OF 'laws.FnConfigTermsOne'. -/
def fnConfigTermsOneUptoCard : Claim7 := { stood := { row := fnConfigTermsOneUptoRow, standIns := [], harness := (true, "3c8402e533eba049d496dbf59d437d91936a1f64c35de4a35635e725cca8e47b"), looks := false }, kinds := [], alts := [], laidByText := true, laidKinds := [.data, .data], laidTests := true, laidLooks := .later }
def FnConfigTermsOneUptoCardSaid : Prop := Claim7.holds Tryd.pinned (.plain (OpenSpec.upto fnConfigTermsOneSpec)) fnConfigTermsOneUptoCard
end Rows
end Go.Proofs.YtjopcpoodhamcaaDoor
