/-
  DERIVED. GIVEN WITH THE SEED: THE CARDS: each row of YtpgbeapojjinmaaGreatDoorRows.lean that lists a variable, with what it lists TIED to the program's text (the seventh form; the later family's looks); each row that meets fmt, with fmt's text TOLD by the authors' own Lean function (tested against real Go, not proved from fmt's source: count such statements apart). THE CARD IS WHAT COUNTS. Prove the row's statement (the work); the ties are given (YtpgbeapojjinmaaGreatDoorTie.lean); close each card by the builder's one call (the guide's Derived/Test/ToyasCard.lean, 'card_holds'). Laid BY PROGRAM, IN A SANDBOX (cutbox-door.mjs). By AI agents, Wed Nov 11 2026. No macro, syntax, notation, axiom, sorry.
-/
import Derived.Test.YtpgbeapojjinmaaGreatDoorRows
import GoSem.ClaimSeven
namespace Go.Proofs.YtpgbeapojjinmaaGreatDoor
namespace Rows

/-- THE TIED CARD OF 'peculiumlaw04.TermTyped'. -/
def termTypedCard : Claim7 := { stood := { row := termTypedRow, standIns := [], harness := (true, "6c51b851384a5ddbe479dc96a7e26273599895b67ceb8730aa9bee1edff39ac1"), looks := true }, kinds := [], alts := [], laidByText := true, laidKinds := [.data, .data, .data], laidTests := true, laidLooks := .later }
def TermTypedCardSaid : Prop := Claim7.holds Tryz.pinned (.plain (OpenSpec.ofChange termTypedSpec)) termTypedCard

/-- THE TIED CARD OF 'peculiumlaw04.TermEtas'. -/
def termEtasCard : Claim7 := { stood := { row := termEtasRow, standIns := [], harness := (true, "6c51b851384a5ddbe479dc96a7e26273599895b67ceb8730aa9bee1edff39ac1"), looks := true }, kinds := [], alts := [], laidByText := true, laidKinds := [.data, .data, .data], laidTests := true, laidLooks := .later }
def TermEtasCardSaid : Prop := Claim7.holds Tryz.pinned (.plain (OpenSpec.ofChange termEtasSpec)) termEtasCard

/-- THE TIED CARD OF 'peculiumlaw04.TermSubsts'. -/
def termSubstsCard : Claim7 := { stood := { row := termSubstsRow, standIns := [], harness := (true, "6c51b851384a5ddbe479dc96a7e26273599895b67ceb8730aa9bee1edff39ac1"), looks := true }, kinds := [], alts := [], laidByText := true, laidKinds := [.data, .data, .data], laidTests := true, laidLooks := .later }
def TermSubstsCardSaid : Prop := Claim7.holds Tryz.pinned (.plain (OpenSpec.ofChange termSubstsSpec)) termSubstsCard

/-- THE TIED CARD OF 'peculiumlaw04.TermTypes'. -/
def termTypesCard : Claim7 := { stood := { row := termTypesRow, standIns := [], harness := (true, "6c51b851384a5ddbe479dc96a7e26273599895b67ceb8730aa9bee1edff39ac1"), looks := true }, kinds := [], alts := [], laidByText := true, laidKinds := [.data, .data, .data], laidTests := true, laidLooks := .later }
def TermTypesCardSaid : Prop := Claim7.holds Tryz.pinned (.plain (OpenSpec.ofChange termTypesSpec)) termTypesCard

/-- THE TIED CARD OF 'peculiumlaw04.TermMoves'. -/
def termMovesCard : Claim7 := { stood := { row := termMovesRow, standIns := [], harness := (true, "6c51b851384a5ddbe479dc96a7e26273599895b67ceb8730aa9bee1edff39ac1"), looks := true }, kinds := [], alts := [], laidByText := true, laidKinds := [.data, .data, .data], laidTests := true, laidLooks := .later }
def TermMovesCardSaid : Prop := Claim7.holds Tryz.pinned (.plain (OpenSpec.ofChange termMovesSpec)) termMovesCard

/-- THE TIED CARD OF 'peculiumlaw04.TermOne'. -/
def termOneCard : Claim7 := { stood := { row := termOneRow, standIns := [], harness := (true, "6c51b851384a5ddbe479dc96a7e26273599895b67ceb8730aa9bee1edff39ac1"), looks := true }, kinds := [], alts := [], laidByText := true, laidKinds := [.data, .data, .data], laidTests := true, laidLooks := .later }
def TermOneCardSaid : Prop := Claim7.holds Tryz.pinned (.plain (OpenSpec.ofChange termOneSpec)) termOneCard

/-- THE TIED CARD OF 'peculiumlaw04.TermSwaps'. -/
def termSwapsCard : Claim7 := { stood := { row := termSwapsRow, standIns := [], harness := (true, "6c51b851384a5ddbe479dc96a7e26273599895b67ceb8730aa9bee1edff39ac1"), looks := true }, kinds := [], alts := [], laidByText := true, laidKinds := [.data, .data, .data], laidTests := true, laidLooks := .later }
def TermSwapsCardSaid : Prop := Claim7.holds Tryz.pinned (.plain (OpenSpec.ofChange termSwapsSpec)) termSwapsCard

/-- THE TIED CARD OF 'peculiumlaw04.TermExpands'. -/
def termExpandsCard : Claim7 := { stood := { row := termExpandsRow, standIns := [], harness := (true, "6c51b851384a5ddbe479dc96a7e26273599895b67ceb8730aa9bee1edff39ac1"), looks := true }, kinds := [], alts := [], laidByText := true, laidKinds := [.data, .data, .data], laidTests := true, laidLooks := .later }
def TermExpandsCardSaid : Prop := Claim7.holds Tryz.pinned (.plain (OpenSpec.ofChange termExpandsSpec)) termExpandsCard

/-- THE TIED CARD OF 'peculiumlaw04.TermShifted'. -/
def termShiftedCard : Claim7 := { stood := { row := termShiftedRow, standIns := [], harness := (true, "6c51b851384a5ddbe479dc96a7e26273599895b67ceb8730aa9bee1edff39ac1"), looks := true }, kinds := [], alts := [], laidByText := true, laidKinds := [.data, .data, .data], laidTests := true, laidLooks := .later }
def TermShiftedCardSaid : Prop := Claim7.holds Tryz.pinned (.plain (OpenSpec.ofChange termShiftedSpec)) termShiftedCard

/-- THE TIED CARD OF 'peculiumlaw04.TermStays'. -/
def termStaysCard : Claim7 := { stood := { row := termStaysRow, standIns := [], harness := (true, "6c51b851384a5ddbe479dc96a7e26273599895b67ceb8730aa9bee1edff39ac1"), looks := true }, kinds := [], alts := [], laidByText := true, laidKinds := [.data, .data, .data], laidTests := true, laidLooks := .later }
def TermStaysCardSaid : Prop := Claim7.holds Tryz.pinned (.plain (OpenSpec.ofChange termStaysSpec)) termStaysCard

/-- THE TIED CARD OF 'peculiumlaw04.TermOrders'. -/
def termOrdersCard : Claim7 := { stood := { row := termOrdersRow, standIns := [], harness := (true, "6c51b851384a5ddbe479dc96a7e26273599895b67ceb8730aa9bee1edff39ac1"), looks := true }, kinds := [], alts := [], laidByText := true, laidKinds := [.data, .data, .data], laidTests := true, laidLooks := .later }
def TermOrdersCardSaid : Prop := Claim7.holds Tryz.pinned (.plain (OpenSpec.ofChange termOrdersSpec)) termOrdersCard

/-- THE TIED CARD OF 'peculiumlaw04.TermLooks'. -/
def termLooksCard : Claim7 := { stood := { row := termLooksRow, standIns := [], harness := (true, "6c51b851384a5ddbe479dc96a7e26273599895b67ceb8730aa9bee1edff39ac1"), looks := true }, kinds := [], alts := [], laidByText := true, laidKinds := [.data, .data, .data], laidTests := true, laidLooks := .later }
def TermLooksCardSaid : Prop := Claim7.holds Tryz.pinned (.plain (OpenSpec.ofChange termLooksSpec)) termLooksCard

/-- THE TIED CARD OF 'peculiumlaw04.TermTexts'. -/
def termTextsCard : Claim7 := { stood := { row := termTextsRow, standIns := [], harness := (true, "6c51b851384a5ddbe479dc96a7e26273599895b67ceb8730aa9bee1edff39ac1"), looks := true }, kinds := [], alts := [], laidByText := true, laidKinds := [.data, .data, .data, .sentinel, .sentinel], laidTests := true, laidLooks := .later }
def TermTextsCardSaid : Prop := Claim7.holds Tryz.pinned (.plain (OpenSpec.ofChange termTextsSpec)) termTextsCard

/-- THE TIED CARD OF 'peculiumlaw04.TermBack'. -/
def termBackCard : Claim7 := { stood := { row := termBackRow, standIns := [], harness := (true, "6c51b851384a5ddbe479dc96a7e26273599895b67ceb8730aa9bee1edff39ac1"), looks := true }, kinds := [], alts := [], laidByText := true, laidKinds := [.data, .data, .data, .sentinel, .sentinel], laidTests := true, laidLooks := .later }
def TermBackCardSaid : Prop := Claim7.holds Tryz.pinned (.plain (OpenSpec.ofChange termBackSpec)) termBackCard

/-- THE SECOND FORM's CARD OF 'peculiumlaw04.TermTyped'. -/
def termTypedUptoCard : Claim7 := { stood := { row := termTypedUptoRow, standIns := [], harness := (true, "6c51b851384a5ddbe479dc96a7e26273599895b67ceb8730aa9bee1edff39ac1"), looks := true }, kinds := [], alts := [], laidByText := true, laidKinds := [.data, .data, .data], laidTests := true, laidLooks := .later }
def TermTypedUptoCardSaid : Prop := Claim7.holds Tryz.pinned (.plain (OpenSpec.upto termTypedSpec)) termTypedUptoCard

/-- THE SECOND FORM's CARD OF 'peculiumlaw04.TermEtas'. -/
def termEtasUptoCard : Claim7 := { stood := { row := termEtasUptoRow, standIns := [], harness := (true, "6c51b851384a5ddbe479dc96a7e26273599895b67ceb8730aa9bee1edff39ac1"), looks := true }, kinds := [], alts := [], laidByText := true, laidKinds := [.data, .data, .data], laidTests := true, laidLooks := .later }
def TermEtasUptoCardSaid : Prop := Claim7.holds Tryz.pinned (.plain (OpenSpec.upto termEtasSpec)) termEtasUptoCard

/-- THE SECOND FORM's CARD OF 'peculiumlaw04.TermSubsts'. -/
def termSubstsUptoCard : Claim7 := { stood := { row := termSubstsUptoRow, standIns := [], harness := (true, "6c51b851384a5ddbe479dc96a7e26273599895b67ceb8730aa9bee1edff39ac1"), looks := true }, kinds := [], alts := [], laidByText := true, laidKinds := [.data, .data, .data], laidTests := true, laidLooks := .later }
def TermSubstsUptoCardSaid : Prop := Claim7.holds Tryz.pinned (.plain (OpenSpec.upto termSubstsSpec)) termSubstsUptoCard

/-- THE SECOND FORM's CARD OF 'peculiumlaw04.TermTypes'. -/
def termTypesUptoCard : Claim7 := { stood := { row := termTypesUptoRow, standIns := [], harness := (true, "6c51b851384a5ddbe479dc96a7e26273599895b67ceb8730aa9bee1edff39ac1"), looks := true }, kinds := [], alts := [], laidByText := true, laidKinds := [.data, .data, .data], laidTests := true, laidLooks := .later }
def TermTypesUptoCardSaid : Prop := Claim7.holds Tryz.pinned (.plain (OpenSpec.upto termTypesSpec)) termTypesUptoCard

/-- THE SECOND FORM's CARD OF 'peculiumlaw04.TermMoves'. -/
def termMovesUptoCard : Claim7 := { stood := { row := termMovesUptoRow, standIns := [], harness := (true, "6c51b851384a5ddbe479dc96a7e26273599895b67ceb8730aa9bee1edff39ac1"), looks := true }, kinds := [], alts := [], laidByText := true, laidKinds := [.data, .data, .data], laidTests := true, laidLooks := .later }
def TermMovesUptoCardSaid : Prop := Claim7.holds Tryz.pinned (.plain (OpenSpec.upto termMovesSpec)) termMovesUptoCard

/-- THE SECOND FORM's CARD OF 'peculiumlaw04.TermOne'. -/
def termOneUptoCard : Claim7 := { stood := { row := termOneUptoRow, standIns := [], harness := (true, "6c51b851384a5ddbe479dc96a7e26273599895b67ceb8730aa9bee1edff39ac1"), looks := true }, kinds := [], alts := [], laidByText := true, laidKinds := [.data, .data, .data], laidTests := true, laidLooks := .later }
def TermOneUptoCardSaid : Prop := Claim7.holds Tryz.pinned (.plain (OpenSpec.upto termOneSpec)) termOneUptoCard

/-- THE SECOND FORM's CARD OF 'peculiumlaw04.TermSwaps'. -/
def termSwapsUptoCard : Claim7 := { stood := { row := termSwapsUptoRow, standIns := [], harness := (true, "6c51b851384a5ddbe479dc96a7e26273599895b67ceb8730aa9bee1edff39ac1"), looks := true }, kinds := [], alts := [], laidByText := true, laidKinds := [.data, .data, .data], laidTests := true, laidLooks := .later }
def TermSwapsUptoCardSaid : Prop := Claim7.holds Tryz.pinned (.plain (OpenSpec.upto termSwapsSpec)) termSwapsUptoCard

/-- THE SECOND FORM's CARD OF 'peculiumlaw04.TermExpands'. -/
def termExpandsUptoCard : Claim7 := { stood := { row := termExpandsUptoRow, standIns := [], harness := (true, "6c51b851384a5ddbe479dc96a7e26273599895b67ceb8730aa9bee1edff39ac1"), looks := true }, kinds := [], alts := [], laidByText := true, laidKinds := [.data, .data, .data], laidTests := true, laidLooks := .later }
def TermExpandsUptoCardSaid : Prop := Claim7.holds Tryz.pinned (.plain (OpenSpec.upto termExpandsSpec)) termExpandsUptoCard

/-- THE SECOND FORM's CARD OF 'peculiumlaw04.TermShifted'. -/
def termShiftedUptoCard : Claim7 := { stood := { row := termShiftedUptoRow, standIns := [], harness := (true, "6c51b851384a5ddbe479dc96a7e26273599895b67ceb8730aa9bee1edff39ac1"), looks := true }, kinds := [], alts := [], laidByText := true, laidKinds := [.data, .data, .data], laidTests := true, laidLooks := .later }
def TermShiftedUptoCardSaid : Prop := Claim7.holds Tryz.pinned (.plain (OpenSpec.upto termShiftedSpec)) termShiftedUptoCard

/-- THE SECOND FORM's CARD OF 'peculiumlaw04.TermStays'. -/
def termStaysUptoCard : Claim7 := { stood := { row := termStaysUptoRow, standIns := [], harness := (true, "6c51b851384a5ddbe479dc96a7e26273599895b67ceb8730aa9bee1edff39ac1"), looks := true }, kinds := [], alts := [], laidByText := true, laidKinds := [.data, .data, .data], laidTests := true, laidLooks := .later }
def TermStaysUptoCardSaid : Prop := Claim7.holds Tryz.pinned (.plain (OpenSpec.upto termStaysSpec)) termStaysUptoCard

/-- THE SECOND FORM's CARD OF 'peculiumlaw04.TermOrders'. -/
def termOrdersUptoCard : Claim7 := { stood := { row := termOrdersUptoRow, standIns := [], harness := (true, "6c51b851384a5ddbe479dc96a7e26273599895b67ceb8730aa9bee1edff39ac1"), looks := true }, kinds := [], alts := [], laidByText := true, laidKinds := [.data, .data, .data], laidTests := true, laidLooks := .later }
def TermOrdersUptoCardSaid : Prop := Claim7.holds Tryz.pinned (.plain (OpenSpec.upto termOrdersSpec)) termOrdersUptoCard

/-- THE SECOND FORM's CARD OF 'peculiumlaw04.TermLooks'. -/
def termLooksUptoCard : Claim7 := { stood := { row := termLooksUptoRow, standIns := [], harness := (true, "6c51b851384a5ddbe479dc96a7e26273599895b67ceb8730aa9bee1edff39ac1"), looks := true }, kinds := [], alts := [], laidByText := true, laidKinds := [.data, .data, .data], laidTests := true, laidLooks := .later }
def TermLooksUptoCardSaid : Prop := Claim7.holds Tryz.pinned (.plain (OpenSpec.upto termLooksSpec)) termLooksUptoCard

/-- THE SECOND FORM's CARD OF 'peculiumlaw04.TermTexts'. -/
def termTextsUptoCard : Claim7 := { stood := { row := termTextsUptoRow, standIns := [], harness := (true, "6c51b851384a5ddbe479dc96a7e26273599895b67ceb8730aa9bee1edff39ac1"), looks := true }, kinds := [], alts := [], laidByText := true, laidKinds := [.data, .data, .data, .sentinel, .sentinel], laidTests := true, laidLooks := .later }
def TermTextsUptoCardSaid : Prop := Claim7.holds Tryz.pinned (.plain (OpenSpec.upto termTextsSpec)) termTextsUptoCard

/-- THE SECOND FORM's CARD OF 'peculiumlaw04.TermBack'. -/
def termBackUptoCard : Claim7 := { stood := { row := termBackUptoRow, standIns := [], harness := (true, "6c51b851384a5ddbe479dc96a7e26273599895b67ceb8730aa9bee1edff39ac1"), looks := true }, kinds := [], alts := [], laidByText := true, laidKinds := [.data, .data, .data, .sentinel, .sentinel], laidTests := true, laidLooks := .later }
def TermBackUptoCardSaid : Prop := Claim7.holds Tryz.pinned (.plain (OpenSpec.upto termBackSpec)) termBackUptoCard
end Rows
end Go.Proofs.YtpgbeapojjinmaaGreatDoor
