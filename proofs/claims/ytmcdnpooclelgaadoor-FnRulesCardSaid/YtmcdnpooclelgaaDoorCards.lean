/-
  DERIVED. GIVEN WITH THE SEED: THE CARDS: each row of YtmcdnpooclelgaaDoorRows.lean that lists a variable, with what it lists TIED to the program's text (the seventh form; the later family's looks); each row that meets fmt, with fmt's text TOLD by the authors' own Lean function (tested against real Go, not proved from fmt's source: count such statements apart). THE CARD IS WHAT COUNTS. Prove the row's statement (the work); the ties are given (YtmcdnpooclelgaaDoorTie.lean); close each card by the builder's one call (the guide's Derived/Test/ToyasCard.lean, 'card_holds'). Laid BY PROGRAM, IN A SANDBOX (cutbox-door.mjs). By AI agents, Wed Nov 11 2026. No macro, syntax, notation, axiom, sorry.
-/
import Derived.Test.YtmcdnpooclelgaaDoorRows
import GoSem.ClaimSeven
namespace Go.Proofs.YtmcdnpooclelgaaDoor
namespace Rows

/-- THE TIED CARD OF 'laws.FnExactSheetRules'. -/
def fnExactSheetRulesCard : Claim7 := { stood := { row := fnExactSheetRulesRow, standIns := [], harness := (true, "e5b189b79cdb50dc40b8eba17c3c7fa86b102195f524d5836fcaba8c00768b97"), looks := false }, kinds := [], alts := [], laidByText := true, laidKinds := [.data, .pinned], laidTests := true, laidLooks := .later }
def FnExactSheetRulesCardSaid : Prop := Claim7.holds Tryd.pinned (.plain (OpenSpec.ofChange fnExactSheetRulesSpec)) fnExactSheetRulesCard

/-- THE TIED CARD OF 'laws.FnExactSheetFits'. -/
def fnExactSheetFitsCard : Claim7 := { stood := { row := fnExactSheetFitsRow, standIns := [], harness := (true, "e5b189b79cdb50dc40b8eba17c3c7fa86b102195f524d5836fcaba8c00768b97"), looks := false }, kinds := [], alts := [], laidByText := true, laidKinds := [.data, .pinned], laidTests := true, laidLooks := .later }
def FnExactSheetFitsCardSaid : Prop := Claim7.holds Tryd.pinned (.plain (OpenSpec.ofChange fnExactSheetFitsSpec)) fnExactSheetFitsCard

/-- THE TIED CARD OF 'laws.FnRules'. -/
def fnRulesCard : Claim7 := { stood := { row := fnRulesRow, standIns := [], harness := (true, "e5b189b79cdb50dc40b8eba17c3c7fa86b102195f524d5836fcaba8c00768b97"), looks := false }, kinds := [], alts := [], laidByText := true, laidKinds := [.data, .pinned], laidTests := true, laidLooks := .later }
def FnRulesCardSaid : Prop := Claim7.holds Tryd.pinned (.plain (OpenSpec.ofChange fnRulesSpec)) fnRulesCard

/-- THE TIED CARD OF 'laws.FnExactSheetValid'. -/
def fnExactSheetValidCard : Claim7 := { stood := { row := fnExactSheetValidRow, standIns := [], harness := (true, "e5b189b79cdb50dc40b8eba17c3c7fa86b102195f524d5836fcaba8c00768b97"), looks := false }, kinds := [], alts := [], laidByText := true, laidKinds := [.data, .pinned], laidTests := true, laidLooks := .later }
def FnExactSheetValidCardSaid : Prop := Claim7.holds Tryd.pinned (.plain (OpenSpec.ofChange fnExactSheetValidSpec)) fnExactSheetValidCard

/-- THE TIED CARD OF 'laws.FnExactSheetPrint'. -/
def fnExactSheetPrintCard : Claim7 := { stood := { row := fnExactSheetPrintRow, standIns := [], harness := (true, "e5b189b79cdb50dc40b8eba17c3c7fa86b102195f524d5836fcaba8c00768b97"), looks := false }, kinds := [], alts := [], laidByText := true, laidKinds := [.data, .pinned], laidTests := true, laidLooks := .later }
def FnExactSheetPrintCardSaid : Prop := Claim7.holds Tryd.pinned (.plain (OpenSpec.ofChange fnExactSheetPrintSpec)) fnExactSheetPrintCard

/-- THE TIED CARD OF 'laws.FnExactSheetGet'. -/
def fnExactSheetGetCard : Claim7 := { stood := { row := fnExactSheetGetRow, standIns := [], harness := (true, "e5b189b79cdb50dc40b8eba17c3c7fa86b102195f524d5836fcaba8c00768b97"), looks := false }, kinds := [], alts := [], laidByText := true, laidKinds := [.data, .pinned], laidTests := true, laidLooks := .later }
def FnExactSheetGetCardSaid : Prop := Claim7.holds Tryd.pinned (.plain (OpenSpec.ofChange fnExactSheetGetSpec)) fnExactSheetGetCard

/-- THE TIED CARD OF 'laws.FnExactSheetFill'. -/
def fnExactSheetFillCard : Claim7 := { stood := { row := fnExactSheetFillRow, standIns := [], harness := (true, "e5b189b79cdb50dc40b8eba17c3c7fa86b102195f524d5836fcaba8c00768b97"), looks := false }, kinds := [], alts := [], laidByText := true, laidKinds := [.data, .pinned], laidTests := true, laidLooks := .later }
def FnExactSheetFillCardSaid : Prop := Claim7.holds Tryd.pinned (.plain (OpenSpec.ofChange fnExactSheetFillSpec)) fnExactSheetFillCard

/-- THE TIED CARD OF 'laws.FnExactSheetTrim'. -/
def fnExactSheetTrimCard : Claim7 := { stood := { row := fnExactSheetTrimRow, standIns := [], harness := (true, "e5b189b79cdb50dc40b8eba17c3c7fa86b102195f524d5836fcaba8c00768b97"), looks := false }, kinds := [], alts := [], laidByText := true, laidKinds := [.data, .pinned], laidTests := true, laidLooks := .later }
def FnExactSheetTrimCardSaid : Prop := Claim7.holds Tryd.pinned (.plain (OpenSpec.ofChange fnExactSheetTrimSpec)) fnExactSheetTrimCard

/-- THE TIED CARD OF 'laws.FnFill'. -/
def fnFillCard : Claim7 := { stood := { row := fnFillRow, standIns := [], harness := (true, "e5b189b79cdb50dc40b8eba17c3c7fa86b102195f524d5836fcaba8c00768b97"), looks := false }, kinds := [], alts := [], laidByText := true, laidKinds := [.data, .pinned], laidTests := true, laidLooks := .later }
def FnFillCardSaid : Prop := Claim7.holds Tryd.pinned (.plain (OpenSpec.ofChange fnFillSpec)) fnFillCard

/-- THE TIED CARD OF 'laws.FnExactSheetDiff'. -/
def fnExactSheetDiffCard : Claim7 := { stood := { row := fnExactSheetDiffRow, standIns := [], harness := (true, "e5b189b79cdb50dc40b8eba17c3c7fa86b102195f524d5836fcaba8c00768b97"), looks := false }, kinds := [], alts := [], laidByText := true, laidKinds := [.data, .pinned], laidTests := true, laidLooks := .later }
def FnExactSheetDiffCardSaid : Prop := Claim7.holds Tryd.pinned (.plain (OpenSpec.ofChange fnExactSheetDiffSpec)) fnExactSheetDiffCard

/-- THE SECOND FORM's CARD OF 'laws.FnExactSheetRules'. -/
def fnExactSheetRulesUptoCard : Claim7 := { stood := { row := fnExactSheetRulesUptoRow, standIns := [], harness := (true, "e5b189b79cdb50dc40b8eba17c3c7fa86b102195f524d5836fcaba8c00768b97"), looks := false }, kinds := [], alts := [], laidByText := true, laidKinds := [.data, .pinned], laidTests := true, laidLooks := .later }
def FnExactSheetRulesUptoCardSaid : Prop := Claim7.holds Tryd.pinned (.plain (OpenSpec.upto fnExactSheetRulesSpec)) fnExactSheetRulesUptoCard

/-- THE SECOND FORM's CARD OF 'laws.FnExactSheetFits'. -/
def fnExactSheetFitsUptoCard : Claim7 := { stood := { row := fnExactSheetFitsUptoRow, standIns := [], harness := (true, "e5b189b79cdb50dc40b8eba17c3c7fa86b102195f524d5836fcaba8c00768b97"), looks := false }, kinds := [], alts := [], laidByText := true, laidKinds := [.data, .pinned], laidTests := true, laidLooks := .later }
def FnExactSheetFitsUptoCardSaid : Prop := Claim7.holds Tryd.pinned (.plain (OpenSpec.upto fnExactSheetFitsSpec)) fnExactSheetFitsUptoCard

/-- THE SECOND FORM's CARD OF 'laws.FnRules'. -/
def fnRulesUptoCard : Claim7 := { stood := { row := fnRulesUptoRow, standIns := [], harness := (true, "e5b189b79cdb50dc40b8eba17c3c7fa86b102195f524d5836fcaba8c00768b97"), looks := false }, kinds := [], alts := [], laidByText := true, laidKinds := [.data, .pinned], laidTests := true, laidLooks := .later }
def FnRulesUptoCardSaid : Prop := Claim7.holds Tryd.pinned (.plain (OpenSpec.upto fnRulesSpec)) fnRulesUptoCard

/-- THE SECOND FORM's CARD OF 'laws.FnExactSheetValid'. -/
def fnExactSheetValidUptoCard : Claim7 := { stood := { row := fnExactSheetValidUptoRow, standIns := [], harness := (true, "e5b189b79cdb50dc40b8eba17c3c7fa86b102195f524d5836fcaba8c00768b97"), looks := false }, kinds := [], alts := [], laidByText := true, laidKinds := [.data, .pinned], laidTests := true, laidLooks := .later }
def FnExactSheetValidUptoCardSaid : Prop := Claim7.holds Tryd.pinned (.plain (OpenSpec.upto fnExactSheetValidSpec)) fnExactSheetValidUptoCard

/-- THE SECOND FORM's CARD OF 'laws.FnExactSheetPrint'. -/
def fnExactSheetPrintUptoCard : Claim7 := { stood := { row := fnExactSheetPrintUptoRow, standIns := [], harness := (true, "e5b189b79cdb50dc40b8eba17c3c7fa86b102195f524d5836fcaba8c00768b97"), looks := false }, kinds := [], alts := [], laidByText := true, laidKinds := [.data, .pinned], laidTests := true, laidLooks := .later }
def FnExactSheetPrintUptoCardSaid : Prop := Claim7.holds Tryd.pinned (.plain (OpenSpec.upto fnExactSheetPrintSpec)) fnExactSheetPrintUptoCard

/-- THE SECOND FORM's CARD OF 'laws.FnExactSheetGet'. -/
def fnExactSheetGetUptoCard : Claim7 := { stood := { row := fnExactSheetGetUptoRow, standIns := [], harness := (true, "e5b189b79cdb50dc40b8eba17c3c7fa86b102195f524d5836fcaba8c00768b97"), looks := false }, kinds := [], alts := [], laidByText := true, laidKinds := [.data, .pinned], laidTests := true, laidLooks := .later }
def FnExactSheetGetUptoCardSaid : Prop := Claim7.holds Tryd.pinned (.plain (OpenSpec.upto fnExactSheetGetSpec)) fnExactSheetGetUptoCard

/-- THE SECOND FORM's CARD OF 'laws.FnExactSheetFill'. -/
def fnExactSheetFillUptoCard : Claim7 := { stood := { row := fnExactSheetFillUptoRow, standIns := [], harness := (true, "e5b189b79cdb50dc40b8eba17c3c7fa86b102195f524d5836fcaba8c00768b97"), looks := false }, kinds := [], alts := [], laidByText := true, laidKinds := [.data, .pinned], laidTests := true, laidLooks := .later }
def FnExactSheetFillUptoCardSaid : Prop := Claim7.holds Tryd.pinned (.plain (OpenSpec.upto fnExactSheetFillSpec)) fnExactSheetFillUptoCard

/-- THE SECOND FORM's CARD OF 'laws.FnExactSheetTrim'. -/
def fnExactSheetTrimUptoCard : Claim7 := { stood := { row := fnExactSheetTrimUptoRow, standIns := [], harness := (true, "e5b189b79cdb50dc40b8eba17c3c7fa86b102195f524d5836fcaba8c00768b97"), looks := false }, kinds := [], alts := [], laidByText := true, laidKinds := [.data, .pinned], laidTests := true, laidLooks := .later }
def FnExactSheetTrimUptoCardSaid : Prop := Claim7.holds Tryd.pinned (.plain (OpenSpec.upto fnExactSheetTrimSpec)) fnExactSheetTrimUptoCard

/-- THE SECOND FORM's CARD OF 'laws.FnFill'. -/
def fnFillUptoCard : Claim7 := { stood := { row := fnFillUptoRow, standIns := [], harness := (true, "e5b189b79cdb50dc40b8eba17c3c7fa86b102195f524d5836fcaba8c00768b97"), looks := false }, kinds := [], alts := [], laidByText := true, laidKinds := [.data, .pinned], laidTests := true, laidLooks := .later }
def FnFillUptoCardSaid : Prop := Claim7.holds Tryd.pinned (.plain (OpenSpec.upto fnFillSpec)) fnFillUptoCard

/-- THE SECOND FORM's CARD OF 'laws.FnExactSheetDiff'. -/
def fnExactSheetDiffUptoCard : Claim7 := { stood := { row := fnExactSheetDiffUptoRow, standIns := [], harness := (true, "e5b189b79cdb50dc40b8eba17c3c7fa86b102195f524d5836fcaba8c00768b97"), looks := false }, kinds := [], alts := [], laidByText := true, laidKinds := [.data, .pinned], laidTests := true, laidLooks := .later }
def FnExactSheetDiffUptoCardSaid : Prop := Claim7.holds Tryd.pinned (.plain (OpenSpec.upto fnExactSheetDiffSpec)) fnExactSheetDiffUptoCard
end Rows
end Go.Proofs.YtmcdnpooclelgaaDoor
