/-
  DERIVED. GIVEN WITH THE SEED: THE CARDS: each row of YtpggbfpjofcgnaaDoorRows.lean that lists a variable, with what it lists TIED to the program's text (the seventh form; the later family's looks); each row that meets fmt, with fmt's text TOLD by the authors' own Lean function (tested against real Go, not proved from fmt's source: count such statements apart). THE CARD IS WHAT COUNTS. Prove the row's statement (the work); the ties are given (YtpggbfpjofcgnaaDoorTie.lean); close each card by the builder's one call (the guide's Derived/Test/ToyasCard.lean, 'card_holds'). Laid BY PROGRAM, IN A SANDBOX (cutbox-door.mjs). By AI agents, Wed Nov 11 2026. No macro, syntax, notation, axiom, sorry.
-/
import Derived.Test.YtpggbfpjofcgnaaDoorRows
import GoSem.ClaimSeven
namespace Go.Proofs.YtpggbfpjofcgnaaDoor
namespace Rows

/-- THE TIED CARD OF 'laws.FnExactTermText'. -/
def fnExactTermTextCard : Claim7 := { stood := { row := fnExactTermTextRow, standIns := [], harness := (true, "691b77605cf34bb84a9150149228f3e66657e180f079265fb45a110bf8823086"), looks := false }, kinds := [], alts := [], laidByText := true, laidKinds := [.data, .data, .data], laidTests := true, laidLooks := .later }
def FnExactTermTextCardSaid : Prop := Claim7.holds Tryd.pinned (.plain (OpenSpec.ofChange fnExactTermTextSpec)) fnExactTermTextCard

/-- THE TIED CARD OF 'laws.FnExactTermFrom'. -/
def fnExactTermFromCard : Claim7 := { stood := { row := fnExactTermFromRow, standIns := [], harness := (true, "691b77605cf34bb84a9150149228f3e66657e180f079265fb45a110bf8823086"), looks := false }, kinds := [], alts := [], laidByText := true, laidKinds := [.data, .data, .data], laidTests := true, laidLooks := .later }
def FnExactTermFromCardSaid : Prop := Claim7.holds Tryd.pinned (.plain (OpenSpec.ofChange fnExactTermFromSpec)) fnExactTermFromCard

/-- THE TIED CARD OF 'laws.FnTermText'. -/
def fnTermTextCard : Claim7 := { stood := { row := fnTermTextRow, standIns := [], harness := (true, "691b77605cf34bb84a9150149228f3e66657e180f079265fb45a110bf8823086"), looks := false }, kinds := [], alts := [], laidByText := true, laidKinds := [.data, .data, .data], laidTests := true, laidLooks := .later }
def FnTermTextCardSaid : Prop := Claim7.holds Tryd.pinned (.plain (OpenSpec.ofChange fnTermTextSpec)) fnTermTextCard

/-- THE TIED CARD OF 'laws.FnExactLevelText'. -/
def fnExactLevelTextCard : Claim7 := { stood := { row := fnExactLevelTextRow, standIns := [], harness := (true, "691b77605cf34bb84a9150149228f3e66657e180f079265fb45a110bf8823086"), looks := false }, kinds := [], alts := [], laidByText := true, laidKinds := [.data, .data, .data], laidTests := true, laidLooks := .later }
def FnExactLevelTextCardSaid : Prop := Claim7.holds Tryd.pinned (.plain (OpenSpec.ofChange fnExactLevelTextSpec)) fnExactLevelTextCard

/-- THE TIED CARD OF 'laws.FnTermFrom'. -/
def fnTermFromCard : Claim7 := { stood := { row := fnTermFromRow, standIns := [], harness := (true, "691b77605cf34bb84a9150149228f3e66657e180f079265fb45a110bf8823086"), looks := false }, kinds := [], alts := [], laidByText := true, laidKinds := [.data, .data, .data], laidTests := true, laidLooks := .later }
def FnTermFromCardSaid : Prop := Claim7.holds Tryd.pinned (.plain (OpenSpec.ofChange fnTermFromSpec)) fnTermFromCard

/-- THE TIED CARD OF 'laws.FnExactLevelFrom'. -/
def fnExactLevelFromCard : Claim7 := { stood := { row := fnExactLevelFromRow, standIns := [], harness := (true, "691b77605cf34bb84a9150149228f3e66657e180f079265fb45a110bf8823086"), looks := false }, kinds := [], alts := [], laidByText := true, laidKinds := [.data, .data, .data], laidTests := true, laidLooks := .later }
def FnExactLevelFromCardSaid : Prop := Claim7.holds Tryd.pinned (.plain (OpenSpec.ofChange fnExactLevelFromSpec)) fnExactLevelFromCard

/-- THE TIED CARD OF 'laws.FnLevelText'. -/
def fnLevelTextCard : Claim7 := { stood := { row := fnLevelTextRow, standIns := [], harness := (true, "691b77605cf34bb84a9150149228f3e66657e180f079265fb45a110bf8823086"), looks := false }, kinds := [], alts := [], laidByText := true, laidKinds := [.data, .data, .data], laidTests := true, laidLooks := .later }
def FnLevelTextCardSaid : Prop := Claim7.holds Tryd.pinned (.plain (OpenSpec.ofChange fnLevelTextSpec)) fnLevelTextCard

/-- THE TIED CARD OF 'laws.FnLevelFrom'. -/
def fnLevelFromCard : Claim7 := { stood := { row := fnLevelFromRow, standIns := [], harness := (true, "691b77605cf34bb84a9150149228f3e66657e180f079265fb45a110bf8823086"), looks := false }, kinds := [], alts := [], laidByText := true, laidKinds := [.data, .data, .data], laidTests := true, laidLooks := .later }
def FnLevelFromCardSaid : Prop := Claim7.holds Tryd.pinned (.plain (OpenSpec.ofChange fnLevelFromSpec)) fnLevelFromCard

/-- THE SECOND FORM's CARD OF 'laws.FnExactTermText'. -/
def fnExactTermTextUptoCard : Claim7 := { stood := { row := fnExactTermTextUptoRow, standIns := [], harness := (true, "691b77605cf34bb84a9150149228f3e66657e180f079265fb45a110bf8823086"), looks := false }, kinds := [], alts := [], laidByText := true, laidKinds := [.data, .data, .data], laidTests := true, laidLooks := .later }
def FnExactTermTextUptoCardSaid : Prop := Claim7.holds Tryd.pinned (.plain (OpenSpec.upto fnExactTermTextSpec)) fnExactTermTextUptoCard

/-- THE SECOND FORM's CARD OF 'laws.FnExactTermFrom'. -/
def fnExactTermFromUptoCard : Claim7 := { stood := { row := fnExactTermFromUptoRow, standIns := [], harness := (true, "691b77605cf34bb84a9150149228f3e66657e180f079265fb45a110bf8823086"), looks := false }, kinds := [], alts := [], laidByText := true, laidKinds := [.data, .data, .data], laidTests := true, laidLooks := .later }
def FnExactTermFromUptoCardSaid : Prop := Claim7.holds Tryd.pinned (.plain (OpenSpec.upto fnExactTermFromSpec)) fnExactTermFromUptoCard

/-- THE SECOND FORM's CARD OF 'laws.FnTermText'. -/
def fnTermTextUptoCard : Claim7 := { stood := { row := fnTermTextUptoRow, standIns := [], harness := (true, "691b77605cf34bb84a9150149228f3e66657e180f079265fb45a110bf8823086"), looks := false }, kinds := [], alts := [], laidByText := true, laidKinds := [.data, .data, .data], laidTests := true, laidLooks := .later }
def FnTermTextUptoCardSaid : Prop := Claim7.holds Tryd.pinned (.plain (OpenSpec.upto fnTermTextSpec)) fnTermTextUptoCard

/-- THE SECOND FORM's CARD OF 'laws.FnExactLevelText'. -/
def fnExactLevelTextUptoCard : Claim7 := { stood := { row := fnExactLevelTextUptoRow, standIns := [], harness := (true, "691b77605cf34bb84a9150149228f3e66657e180f079265fb45a110bf8823086"), looks := false }, kinds := [], alts := [], laidByText := true, laidKinds := [.data, .data, .data], laidTests := true, laidLooks := .later }
def FnExactLevelTextUptoCardSaid : Prop := Claim7.holds Tryd.pinned (.plain (OpenSpec.upto fnExactLevelTextSpec)) fnExactLevelTextUptoCard

/-- THE SECOND FORM's CARD OF 'laws.FnTermFrom'. -/
def fnTermFromUptoCard : Claim7 := { stood := { row := fnTermFromUptoRow, standIns := [], harness := (true, "691b77605cf34bb84a9150149228f3e66657e180f079265fb45a110bf8823086"), looks := false }, kinds := [], alts := [], laidByText := true, laidKinds := [.data, .data, .data], laidTests := true, laidLooks := .later }
def FnTermFromUptoCardSaid : Prop := Claim7.holds Tryd.pinned (.plain (OpenSpec.upto fnTermFromSpec)) fnTermFromUptoCard

/-- THE SECOND FORM's CARD OF 'laws.FnExactLevelFrom'. -/
def fnExactLevelFromUptoCard : Claim7 := { stood := { row := fnExactLevelFromUptoRow, standIns := [], harness := (true, "691b77605cf34bb84a9150149228f3e66657e180f079265fb45a110bf8823086"), looks := false }, kinds := [], alts := [], laidByText := true, laidKinds := [.data, .data, .data], laidTests := true, laidLooks := .later }
def FnExactLevelFromUptoCardSaid : Prop := Claim7.holds Tryd.pinned (.plain (OpenSpec.upto fnExactLevelFromSpec)) fnExactLevelFromUptoCard

/-- THE SECOND FORM's CARD OF 'laws.FnLevelText'. -/
def fnLevelTextUptoCard : Claim7 := { stood := { row := fnLevelTextUptoRow, standIns := [], harness := (true, "691b77605cf34bb84a9150149228f3e66657e180f079265fb45a110bf8823086"), looks := false }, kinds := [], alts := [], laidByText := true, laidKinds := [.data, .data, .data], laidTests := true, laidLooks := .later }
def FnLevelTextUptoCardSaid : Prop := Claim7.holds Tryd.pinned (.plain (OpenSpec.upto fnLevelTextSpec)) fnLevelTextUptoCard

/-- THE SECOND FORM's CARD OF 'laws.FnLevelFrom'. -/
def fnLevelFromUptoCard : Claim7 := { stood := { row := fnLevelFromUptoRow, standIns := [], harness := (true, "691b77605cf34bb84a9150149228f3e66657e180f079265fb45a110bf8823086"), looks := false }, kinds := [], alts := [], laidByText := true, laidKinds := [.data, .data, .data], laidTests := true, laidLooks := .later }
def FnLevelFromUptoCardSaid : Prop := Claim7.holds Tryd.pinned (.plain (OpenSpec.upto fnLevelFromSpec)) fnLevelFromUptoCard
end Rows
end Go.Proofs.YtpggbfpjofcgnaaDoor
