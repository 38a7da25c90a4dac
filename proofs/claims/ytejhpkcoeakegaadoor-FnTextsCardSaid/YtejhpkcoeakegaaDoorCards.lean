/-
  DERIVED. GIVEN WITH THE SEED: THE CARDS: each row of YtejhpkcoeakegaaDoorRows.lean that lists a variable, with what it lists TIED to the program's text (the seventh form; the later family's looks); each row that meets fmt, with fmt's text TOLD by the authors' own Lean function (tested against real Go, not proved from fmt's source: count such statements apart). THE CARD IS WHAT COUNTS. Prove the row's statement (the work); the ties are given (YtejhpkcoeakegaaDoorTie.lean); close each card by the builder's one call (the guide's Derived/Test/ToyasCard.lean, 'card_holds'). Laid BY PROGRAM, IN A SANDBOX (cutbox-door.mjs). By AI agents, Wed Nov 11 2026. No macro, syntax, notation, axiom, sorry.
-/
import Derived.Test.YtejhpkcoeakegaaDoorRows
import GoSem.ClaimSeven
namespace Go.Proofs.YtejhpkcoeakegaaDoor
namespace Rows

/-- THE TIED CARD OF 'laws.FnExactReadDecimal'. -/
def fnExactReadDecimalCard : Claim7 := { stood := { row := fnExactReadDecimalRow, standIns := [], harness := (true, "56a504b225666d245d79aae5f3167b93368768cb7226b90758e4161cccb440f8"), looks := false }, kinds := [], alts := [], laidByText := true, laidKinds := [.data, .data, .data], laidTests := true, laidLooks := .later }
def FnExactReadDecimalCardSaid : Prop := Claim7.holds Tryd.pinned (.plain (OpenSpec.ofChange fnExactReadDecimalSpec)) fnExactReadDecimalCard

/-- THE TIED CARD OF 'laws.FnNumbers'. -/
def fnNumbersCard : Claim7 := { stood := { row := fnNumbersRow, standIns := [], harness := (true, "56a504b225666d245d79aae5f3167b93368768cb7226b90758e4161cccb440f8"), looks := false }, kinds := [], alts := [], laidByText := true, laidKinds := [.data, .data, .data], laidTests := true, laidLooks := .later }
def FnNumbersCardSaid : Prop := Claim7.holds Tryd.pinned (.plain (OpenSpec.ofChange fnNumbersSpec)) fnNumbersCard

/-- THE TIED CARD OF 'laws.FnExactPartsOf'. -/
def fnExactPartsOfCard : Claim7 := { stood := { row := fnExactPartsOfRow, standIns := [], harness := (true, "56a504b225666d245d79aae5f3167b93368768cb7226b90758e4161cccb440f8"), looks := false }, kinds := [], alts := [], laidByText := true, laidKinds := [.data, .pinned], laidTests := true, laidLooks := .later }
def FnExactPartsOfCardSaid : Prop := Claim7.holds Tryd.pinned (.plain (OpenSpec.ofChange fnExactPartsOfSpec)) fnExactPartsOfCard

/-- THE TIED CARD OF 'laws.FnTexts'. -/
def fnTextsCard : Claim7 := { stood := { row := fnTextsRow, standIns := [], harness := (true, "56a504b225666d245d79aae5f3167b93368768cb7226b90758e4161cccb440f8"), looks := false }, kinds := [], alts := [], laidByText := true, laidKinds := [.data, .pinned], laidTests := true, laidLooks := .later }
def FnTextsCardSaid : Prop := Claim7.holds Tryd.pinned (.plain (OpenSpec.ofChange fnTextsSpec)) fnTextsCard

/-- THE SECOND FORM's CARD OF 'laws.FnExactReadDecimal'. -/
def fnExactReadDecimalUptoCard : Claim7 := { stood := { row := fnExactReadDecimalUptoRow, standIns := [], harness := (true, "56a504b225666d245d79aae5f3167b93368768cb7226b90758e4161cccb440f8"), looks := false }, kinds := [], alts := [], laidByText := true, laidKinds := [.data, .data, .data], laidTests := true, laidLooks := .later }
def FnExactReadDecimalUptoCardSaid : Prop := Claim7.holds Tryd.pinned (.plain (OpenSpec.upto fnExactReadDecimalSpec)) fnExactReadDecimalUptoCard

/-- THE SECOND FORM's CARD OF 'laws.FnNumbers'. -/
def fnNumbersUptoCard : Claim7 := { stood := { row := fnNumbersUptoRow, standIns := [], harness := (true, "56a504b225666d245d79aae5f3167b93368768cb7226b90758e4161cccb440f8"), looks := false }, kinds := [], alts := [], laidByText := true, laidKinds := [.data, .data, .data], laidTests := true, laidLooks := .later }
def FnNumbersUptoCardSaid : Prop := Claim7.holds Tryd.pinned (.plain (OpenSpec.upto fnNumbersSpec)) fnNumbersUptoCard

/-- THE SECOND FORM's CARD OF 'laws.FnExactPartsOf'. -/
def fnExactPartsOfUptoCard : Claim7 := { stood := { row := fnExactPartsOfUptoRow, standIns := [], harness := (true, "56a504b225666d245d79aae5f3167b93368768cb7226b90758e4161cccb440f8"), looks := false }, kinds := [], alts := [], laidByText := true, laidKinds := [.data, .pinned], laidTests := true, laidLooks := .later }
def FnExactPartsOfUptoCardSaid : Prop := Claim7.holds Tryd.pinned (.plain (OpenSpec.upto fnExactPartsOfSpec)) fnExactPartsOfUptoCard

/-- THE SECOND FORM's CARD OF 'laws.FnTexts'. -/
def fnTextsUptoCard : Claim7 := { stood := { row := fnTextsUptoRow, standIns := [], harness := (true, "56a504b225666d245d79aae5f3167b93368768cb7226b90758e4161cccb440f8"), looks := false }, kinds := [], alts := [], laidByText := true, laidKinds := [.data, .pinned], laidTests := true, laidLooks := .later }
def FnTextsUptoCardSaid : Prop := Claim7.holds Tryd.pinned (.plain (OpenSpec.upto fnTextsSpec)) fnTextsUptoCard
end Rows
end Go.Proofs.YtejhpkcoeakegaaDoor
