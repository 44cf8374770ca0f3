/-
  DERIVED. GIVEN WITH THE SEED: THE CARDS: each row of YtfpincfmcjiokaaDoorRows.lean that lists a variable, with what it lists TIED to the program's text (the seventh form; the later family's looks); each row that meets fmt, with fmt's text TOLD by the authors' own Lean function (tested against real Go, not proved from fmt's source: count such statements apart). THE CARD IS WHAT COUNTS. Prove the row's statement (the work); the ties are given (YtfpincfmcjiokaaDoorTie.lean); close each card by the builder's one call (the guide's Derived/Test/ToyasCard.lean, 'card_holds'). Laid BY PROGRAM, IN A SANDBOX (cutbox-door.mjs). By AI agents, Wed Nov 11 2026. No macro, syntax, notation, axiom, sorry.
-/
import Derived.Test.YtfpincfmcjiokaaDoorRows
import GoSem.ClaimSeven
namespace Go.Proofs.YtfpincfmcjiokaaDoor
namespace Rows

/-- THE TIED CARD OF 'hourglasslaw02.TimeoutTells'. -/
def timeoutTellsCard : Claim7 := { stood := { row := timeoutTellsRow, standIns := [], harness := (true, "c1083819a3a39b47c6c7fe07e1b26986fc535df5a1421a73f171d182ca99de66"), looks := false }, kinds := [], alts := [], laidByText := true, laidKinds := [.data, .data, .data], laidTests := true, laidLooks := .later }
def TimeoutTellsCardSaid : Prop := Claim7.holds Tryd.pinned (.plain (OpenSpec.ofChange timeoutTellsSpec)) timeoutTellsCard

/-- THE TIED CARD OF 'hourglasslaw02.TimeoutLess'. -/
def timeoutLessCard : Claim7 := { stood := { row := timeoutLessRow, standIns := [], harness := (true, "c1083819a3a39b47c6c7fe07e1b26986fc535df5a1421a73f171d182ca99de66"), looks := false }, kinds := [], alts := [], laidByText := true, laidKinds := [.data, .data, .data], laidTests := true, laidLooks := .later }
def TimeoutLessCardSaid : Prop := Claim7.holds Tryd.pinned (.plain (OpenSpec.ofChange timeoutLessSpec)) timeoutLessCard

/-- THE TIED CARD OF 'hourglasslaw02.TimeoutRises'. -/
def timeoutRisesCard : Claim7 := { stood := { row := timeoutRisesRow, standIns := [], harness := (true, "c1083819a3a39b47c6c7fe07e1b26986fc535df5a1421a73f171d182ca99de66"), looks := false }, kinds := [], alts := [], laidByText := true, laidKinds := [.data, .data, .data], laidTests := true, laidLooks := .later }
def TimeoutRisesCardSaid : Prop := Claim7.holds Tryd.pinned (.plain (OpenSpec.ofChange timeoutRisesSpec)) timeoutRisesCard

/-- THE TIED CARD OF 'hourglasslaw14.BudgetTells'. -/
def budgetTellsCard : Claim7 := { stood := { row := budgetTellsRow, standIns := [], harness := (true, "c1083819a3a39b47c6c7fe07e1b26986fc535df5a1421a73f171d182ca99de66"), looks := false }, kinds := [], alts := [], laidByText := true, laidKinds := [.data, .data, .data], laidTests := true, laidLooks := .later }
def BudgetTellsCardSaid : Prop := Claim7.holds Tryd.pinned (.plain (OpenSpec.ofChange budgetTellsSpec)) budgetTellsCard

/-- THE TIED CARD OF 'hourglasslaw14.BudgetShrinks'. -/
def budgetShrinksCard : Claim7 := { stood := { row := budgetShrinksRow, standIns := [], harness := (true, "c1083819a3a39b47c6c7fe07e1b26986fc535df5a1421a73f171d182ca99de66"), looks := false }, kinds := [], alts := [], laidByText := true, laidKinds := [.data, .data, .data], laidTests := true, laidLooks := .later }
def BudgetShrinksCardSaid : Prop := Claim7.holds Tryd.pinned (.plain (OpenSpec.ofChange budgetShrinksSpec)) budgetShrinksCard

/-- THE TIED CARD OF 'hourglasslaw14.BudgetChain'. -/
def budgetChainCard : Claim7 := { stood := { row := budgetChainRow, standIns := [], harness := (true, "c1083819a3a39b47c6c7fe07e1b26986fc535df5a1421a73f171d182ca99de66"), looks := false }, kinds := [], alts := [], laidByText := true, laidKinds := [.data, .data, .data], laidTests := true, laidLooks := .later }
def BudgetChainCardSaid : Prop := Claim7.holds Tryd.pinned (.plain (OpenSpec.ofChange budgetChainSpec)) budgetChainCard

/-- THE SECOND FORM's CARD OF 'hourglasslaw02.TimeoutTells'. -/
def timeoutTellsUptoCard : Claim7 := { stood := { row := timeoutTellsUptoRow, standIns := [], harness := (true, "c1083819a3a39b47c6c7fe07e1b26986fc535df5a1421a73f171d182ca99de66"), looks := false }, kinds := [], alts := [], laidByText := true, laidKinds := [.data, .data, .data], laidTests := true, laidLooks := .later }
def TimeoutTellsUptoCardSaid : Prop := Claim7.holds Tryd.pinned (.plain (OpenSpec.upto timeoutTellsSpec)) timeoutTellsUptoCard

/-- THE SECOND FORM's CARD OF 'hourglasslaw02.TimeoutLess'. -/
def timeoutLessUptoCard : Claim7 := { stood := { row := timeoutLessUptoRow, standIns := [], harness := (true, "c1083819a3a39b47c6c7fe07e1b26986fc535df5a1421a73f171d182ca99de66"), looks := false }, kinds := [], alts := [], laidByText := true, laidKinds := [.data, .data, .data], laidTests := true, laidLooks := .later }
def TimeoutLessUptoCardSaid : Prop := Claim7.holds Tryd.pinned (.plain (OpenSpec.upto timeoutLessSpec)) timeoutLessUptoCard

/-- THE SECOND FORM's CARD OF 'hourglasslaw02.TimeoutRises'. -/
def timeoutRisesUptoCard : Claim7 := { stood := { row := timeoutRisesUptoRow, standIns := [], harness := (true, "c1083819a3a39b47c6c7fe07e1b26986fc535df5a1421a73f171d182ca99de66"), looks := false }, kinds := [], alts := [], laidByText := true, laidKinds := [.data, .data, .data], laidTests := true, laidLooks := .later }
def TimeoutRisesUptoCardSaid : Prop := Claim7.holds Tryd.pinned (.plain (OpenSpec.upto timeoutRisesSpec)) timeoutRisesUptoCard

/-- THE SECOND FORM's CARD OF 'hourglasslaw14.BudgetTells'. -/
def budgetTellsUptoCard : Claim7 := { stood := { row := budgetTellsUptoRow, standIns := [], harness := (true, "c1083819a3a39b47c6c7fe07e1b26986fc535df5a1421a73f171d182ca99de66"), looks := false }, kinds := [], alts := [], laidByText := true, laidKinds := [.data, .data, .data], laidTests := true, laidLooks := .later }
def BudgetTellsUptoCardSaid : Prop := Claim7.holds Tryd.pinned (.plain (OpenSpec.upto budgetTellsSpec)) budgetTellsUptoCard

/-- THE SECOND FORM's CARD OF 'hourglasslaw14.BudgetShrinks'. -/
def budgetShrinksUptoCard : Claim7 := { stood := { row := budgetShrinksUptoRow, standIns := [], harness := (true, "c1083819a3a39b47c6c7fe07e1b26986fc535df5a1421a73f171d182ca99de66"), looks := false }, kinds := [], alts := [], laidByText := true, laidKinds := [.data, .data, .data], laidTests := true, laidLooks := .later }
def BudgetShrinksUptoCardSaid : Prop := Claim7.holds Tryd.pinned (.plain (OpenSpec.upto budgetShrinksSpec)) budgetShrinksUptoCard

/-- THE SECOND FORM's CARD OF 'hourglasslaw14.BudgetChain'. -/
def budgetChainUptoCard : Claim7 := { stood := { row := budgetChainUptoRow, standIns := [], harness := (true, "c1083819a3a39b47c6c7fe07e1b26986fc535df5a1421a73f171d182ca99de66"), looks := false }, kinds := [], alts := [], laidByText := true, laidKinds := [.data, .data, .data], laidTests := true, laidLooks := .later }
def BudgetChainUptoCardSaid : Prop := Claim7.holds Tryd.pinned (.plain (OpenSpec.upto budgetChainSpec)) budgetChainUptoCard
end Rows
end Go.Proofs.YtfpincfmcjiokaaDoor
