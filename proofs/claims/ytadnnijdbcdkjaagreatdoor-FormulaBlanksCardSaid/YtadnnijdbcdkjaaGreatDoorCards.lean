/-
  DERIVED. GIVEN WITH THE SEED: THE CARDS: each row of YtadnnijdbcdkjaaGreatDoorRows.lean that lists a variable, with what it lists TIED to the program's text (the seventh form; the later family's looks); each row that meets fmt, with fmt's text TOLD by the authors' own Lean function (tested against real Go, not proved from fmt's source: count such statements apart). THE CARD IS WHAT COUNTS. Prove the row's statement (the work); the ties are given (YtadnnijdbcdkjaaGreatDoorTie.lean); close each card by the builder's one call (the guide's Derived/Test/ToyasCard.lean, 'card_holds'). Laid BY PROGRAM, IN A SANDBOX (cutbox-door.mjs). By AI agents, Wed Nov 11 2026. No macro, syntax, notation, axiom, sorry.
-/
import Derived.Test.YtadnnijdbcdkjaaGreatDoorRows
import GoSem.ClaimSeven
namespace Go.Proofs.YtadnnijdbcdkjaaGreatDoor
namespace Rows

/-- THE TIED CARD OF 'paraphrastlaw02.FormulaBlanks'. -/
def formulaBlanksCard : Claim7 := { stood := { row := formulaBlanksRow, standIns := [], harness := (true, "13d54e9bbe0395cea6ea4e31a43f26f248a039b7e6699778ca9091b668ea96c0"), looks := true }, kinds := [], alts := [], laidByText := true, laidKinds := [.data, .data, .data, .sentinel, .sentinel], laidTests := true, laidLooks := .later }
def FormulaBlanksCardSaid : Prop := Claim7.holds Tryz.pinned (.plain (OpenSpec.ofChange formulaBlanksSpec)) formulaBlanksCard

/-- THE TIED CARD OF 'paraphrastlaw02.FormulaFirst'. -/
def formulaFirstCard : Claim7 := { stood := { row := formulaFirstRow, standIns := [], harness := (true, "13d54e9bbe0395cea6ea4e31a43f26f248a039b7e6699778ca9091b668ea96c0"), looks := true }, kinds := [], alts := [], laidByText := true, laidKinds := [.data, .data, .data, .sentinel, .sentinel], laidTests := true, laidLooks := .later }
def FormulaFirstCardSaid : Prop := Claim7.holds Tryz.pinned (.plain (OpenSpec.ofChange formulaFirstSpec)) formulaFirstCard

/-- THE TIED CARD OF 'paraphrastlaw02.FormulaFree'. -/
def formulaFreeCard : Claim7 := { stood := { row := formulaFreeRow, standIns := [], harness := (true, "13d54e9bbe0395cea6ea4e31a43f26f248a039b7e6699778ca9091b668ea96c0"), looks := true }, kinds := [], alts := [], laidByText := true, laidKinds := [.data, .data, .data, .sentinel, .sentinel], laidTests := true, laidLooks := .later }
def FormulaFreeCardSaid : Prop := Claim7.holds Tryz.pinned (.plain (OpenSpec.ofChange formulaFreeSpec)) formulaFreeCard

/-- THE TIED CARD OF 'paraphrastlaw02.FormulaPositives'. -/
def formulaPositivesCard : Claim7 := { stood := { row := formulaPositivesRow, standIns := [], harness := (true, "13d54e9bbe0395cea6ea4e31a43f26f248a039b7e6699778ca9091b668ea96c0"), looks := true }, kinds := [], alts := [], laidByText := true, laidKinds := [.data, .data, .data, .sentinel, .sentinel], laidTests := true, laidLooks := .later }
def FormulaPositivesCardSaid : Prop := Claim7.holds Tryz.pinned (.plain (OpenSpec.ofChange formulaPositivesSpec)) formulaPositivesCard

/-- THE TIED CARD OF 'paraphrastlaw02.FormulaValid'. -/
def formulaValidCard : Claim7 := { stood := { row := formulaValidRow, standIns := [], harness := (true, "13d54e9bbe0395cea6ea4e31a43f26f248a039b7e6699778ca9091b668ea96c0"), looks := true }, kinds := [], alts := [], laidByText := true, laidKinds := [.data, .data, .data, .sentinel, .sentinel], laidTests := true, laidLooks := .later }
def FormulaValidCardSaid : Prop := Claim7.holds Tryz.pinned (.plain (OpenSpec.ofChange formulaValidSpec)) formulaValidCard

/-- THE TIED CARD OF 'paraphrastlaw02.FormulaPositive'. -/
def formulaPositiveCard : Claim7 := { stood := { row := formulaPositiveRow, standIns := [], harness := (true, "13d54e9bbe0395cea6ea4e31a43f26f248a039b7e6699778ca9091b668ea96c0"), looks := true }, kinds := [], alts := [], laidByText := true, laidKinds := [.data, .data, .data, .sentinel, .sentinel], laidTests := true, laidLooks := .later }
def FormulaPositiveCardSaid : Prop := Claim7.holds Tryz.pinned (.plain (OpenSpec.ofChange formulaPositiveSpec)) formulaPositiveCard

/-- THE TIED CARD OF 'paraphrastlaw02.FormulaSames'. -/
def formulaSamesCard : Claim7 := { stood := { row := formulaSamesRow, standIns := [], harness := (true, "13d54e9bbe0395cea6ea4e31a43f26f248a039b7e6699778ca9091b668ea96c0"), looks := true }, kinds := [], alts := [], laidByText := true, laidKinds := [.data, .data, .data, .sentinel, .sentinel], laidTests := true, laidLooks := .later }
def FormulaSamesCardSaid : Prop := Claim7.holds Tryz.pinned (.plain (OpenSpec.ofChange formulaSamesSpec)) formulaSamesCard

/-- THE TIED CARD OF 'paraphrastlaw02.FormulaTexts'. -/
def formulaTextsCard : Claim7 := { stood := { row := formulaTextsRow, standIns := [], harness := (true, "13d54e9bbe0395cea6ea4e31a43f26f248a039b7e6699778ca9091b668ea96c0"), looks := true }, kinds := [], alts := [], laidByText := true, laidKinds := [.data, .data, .data, .sentinel, .sentinel], laidTests := true, laidLooks := .later }
def FormulaTextsCardSaid : Prop := Claim7.holds Tryz.pinned (.plain (OpenSpec.ofChange formulaTextsSpec)) formulaTextsCard

/-- THE TIED CARD OF 'paraphrastlaw02.FormulaBack'. -/
def formulaBackCard : Claim7 := { stood := { row := formulaBackRow, standIns := [], harness := (true, "13d54e9bbe0395cea6ea4e31a43f26f248a039b7e6699778ca9091b668ea96c0"), looks := true }, kinds := [], alts := [], laidByText := true, laidKinds := [.data, .data, .data, .sentinel, .sentinel], laidTests := true, laidLooks := .later }
def FormulaBackCardSaid : Prop := Claim7.holds Tryz.pinned (.plain (OpenSpec.ofChange formulaBackSpec)) formulaBackCard

/-- THE TIED CARD OF 'paraphrastlaw02.FormulaOwn'. -/
def formulaOwnCard : Claim7 := { stood := { row := formulaOwnRow, standIns := [], harness := (true, "13d54e9bbe0395cea6ea4e31a43f26f248a039b7e6699778ca9091b668ea96c0"), looks := true }, kinds := [], alts := [], laidByText := true, laidKinds := [.data, .data, .data, .sentinel, .sentinel], laidTests := true, laidLooks := .later }
def FormulaOwnCardSaid : Prop := Claim7.holds Tryz.pinned (.plain (OpenSpec.ofChange formulaOwnSpec)) formulaOwnCard

/-- THE SECOND FORM's CARD OF 'paraphrastlaw02.FormulaBlanks'. -/
def formulaBlanksUptoCard : Claim7 := { stood := { row := formulaBlanksUptoRow, standIns := [], harness := (true, "13d54e9bbe0395cea6ea4e31a43f26f248a039b7e6699778ca9091b668ea96c0"), looks := true }, kinds := [], alts := [], laidByText := true, laidKinds := [.data, .data, .data, .sentinel, .sentinel], laidTests := true, laidLooks := .later }
def FormulaBlanksUptoCardSaid : Prop := Claim7.holds Tryz.pinned (.plain (OpenSpec.upto formulaBlanksSpec)) formulaBlanksUptoCard

/-- THE SECOND FORM's CARD OF 'paraphrastlaw02.FormulaFirst'. -/
def formulaFirstUptoCard : Claim7 := { stood := { row := formulaFirstUptoRow, standIns := [], harness := (true, "13d54e9bbe0395cea6ea4e31a43f26f248a039b7e6699778ca9091b668ea96c0"), looks := true }, kinds := [], alts := [], laidByText := true, laidKinds := [.data, .data, .data, .sentinel, .sentinel], laidTests := true, laidLooks := .later }
def FormulaFirstUptoCardSaid : Prop := Claim7.holds Tryz.pinned (.plain (OpenSpec.upto formulaFirstSpec)) formulaFirstUptoCard

/-- THE SECOND FORM's CARD OF 'paraphrastlaw02.FormulaFree'. -/
def formulaFreeUptoCard : Claim7 := { stood := { row := formulaFreeUptoRow, standIns := [], harness := (true, "13d54e9bbe0395cea6ea4e31a43f26f248a039b7e6699778ca9091b668ea96c0"), looks := true }, kinds := [], alts := [], laidByText := true, laidKinds := [.data, .data, .data, .sentinel, .sentinel], laidTests := true, laidLooks := .later }
def FormulaFreeUptoCardSaid : Prop := Claim7.holds Tryz.pinned (.plain (OpenSpec.upto formulaFreeSpec)) formulaFreeUptoCard

/-- THE SECOND FORM's CARD OF 'paraphrastlaw02.FormulaPositives'. -/
def formulaPositivesUptoCard : Claim7 := { stood := { row := formulaPositivesUptoRow, standIns := [], harness := (true, "13d54e9bbe0395cea6ea4e31a43f26f248a039b7e6699778ca9091b668ea96c0"), looks := true }, kinds := [], alts := [], laidByText := true, laidKinds := [.data, .data, .data, .sentinel, .sentinel], laidTests := true, laidLooks := .later }
def FormulaPositivesUptoCardSaid : Prop := Claim7.holds Tryz.pinned (.plain (OpenSpec.upto formulaPositivesSpec)) formulaPositivesUptoCard

/-- THE SECOND FORM's CARD OF 'paraphrastlaw02.FormulaValid'. -/
def formulaValidUptoCard : Claim7 := { stood := { row := formulaValidUptoRow, standIns := [], harness := (true, "13d54e9bbe0395cea6ea4e31a43f26f248a039b7e6699778ca9091b668ea96c0"), looks := true }, kinds := [], alts := [], laidByText := true, laidKinds := [.data, .data, .data, .sentinel, .sentinel], laidTests := true, laidLooks := .later }
def FormulaValidUptoCardSaid : Prop := Claim7.holds Tryz.pinned (.plain (OpenSpec.upto formulaValidSpec)) formulaValidUptoCard

/-- THE SECOND FORM's CARD OF 'paraphrastlaw02.FormulaPositive'. -/
def formulaPositiveUptoCard : Claim7 := { stood := { row := formulaPositiveUptoRow, standIns := [], harness := (true, "13d54e9bbe0395cea6ea4e31a43f26f248a039b7e6699778ca9091b668ea96c0"), looks := true }, kinds := [], alts := [], laidByText := true, laidKinds := [.data, .data, .data, .sentinel, .sentinel], laidTests := true, laidLooks := .later }
def FormulaPositiveUptoCardSaid : Prop := Claim7.holds Tryz.pinned (.plain (OpenSpec.upto formulaPositiveSpec)) formulaPositiveUptoCard

/-- THE SECOND FORM's CARD OF 'paraphrastlaw02.FormulaSames'. -/
def formulaSamesUptoCard : Claim7 := { stood := { row := formulaSamesUptoRow, standIns := [], harness := (true, "13d54e9bbe0395cea6ea4e31a43f26f248a039b7e6699778ca9091b668ea96c0"), looks := true }, kinds := [], alts := [], laidByText := true, laidKinds := [.data, .data, .data, .sentinel, .sentinel], laidTests := true, laidLooks := .later }
def FormulaSamesUptoCardSaid : Prop := Claim7.holds Tryz.pinned (.plain (OpenSpec.upto formulaSamesSpec)) formulaSamesUptoCard

/-- THE SECOND FORM's CARD OF 'paraphrastlaw02.FormulaTexts'. -/
def formulaTextsUptoCard : Claim7 := { stood := { row := formulaTextsUptoRow, standIns := [], harness := (true, "13d54e9bbe0395cea6ea4e31a43f26f248a039b7e6699778ca9091b668ea96c0"), looks := true }, kinds := [], alts := [], laidByText := true, laidKinds := [.data, .data, .data, .sentinel, .sentinel], laidTests := true, laidLooks := .later }
def FormulaTextsUptoCardSaid : Prop := Claim7.holds Tryz.pinned (.plain (OpenSpec.upto formulaTextsSpec)) formulaTextsUptoCard

/-- THE SECOND FORM's CARD OF 'paraphrastlaw02.FormulaBack'. -/
def formulaBackUptoCard : Claim7 := { stood := { row := formulaBackUptoRow, standIns := [], harness := (true, "13d54e9bbe0395cea6ea4e31a43f26f248a039b7e6699778ca9091b668ea96c0"), looks := true }, kinds := [], alts := [], laidByText := true, laidKinds := [.data, .data, .data, .sentinel, .sentinel], laidTests := true, laidLooks := .later }
def FormulaBackUptoCardSaid : Prop := Claim7.holds Tryz.pinned (.plain (OpenSpec.upto formulaBackSpec)) formulaBackUptoCard

/-- THE SECOND FORM's CARD OF 'paraphrastlaw02.FormulaOwn'. -/
def formulaOwnUptoCard : Claim7 := { stood := { row := formulaOwnUptoRow, standIns := [], harness := (true, "13d54e9bbe0395cea6ea4e31a43f26f248a039b7e6699778ca9091b668ea96c0"), looks := true }, kinds := [], alts := [], laidByText := true, laidKinds := [.data, .data, .data, .sentinel, .sentinel], laidTests := true, laidLooks := .later }
def FormulaOwnUptoCardSaid : Prop := Claim7.holds Tryz.pinned (.plain (OpenSpec.upto formulaOwnSpec)) formulaOwnUptoCard
end Rows
end Go.Proofs.YtadnnijdbcdkjaaGreatDoor
