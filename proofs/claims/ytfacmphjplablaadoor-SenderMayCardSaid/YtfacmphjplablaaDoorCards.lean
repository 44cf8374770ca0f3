/-
  DERIVED. GIVEN WITH THE SEED: THE CARDS: each row of YtfacmphjplablaaDoorRows.lean that lists a variable, with what it lists TIED to the program's text (the seventh form; the later family's looks); each row that meets fmt, with fmt's text TOLD by the authors' own Lean function (tested against real Go, not proved from fmt's source: count such statements apart). THE CARD IS WHAT COUNTS. Prove the row's statement (the work); the ties are given (YtfacmphjplablaaDoorTie.lean); close each card by the builder's one call (the guide's Derived/Test/ToyasCard.lean, 'card_holds'). Laid BY PROGRAM, IN A SANDBOX (cutbox-door.mjs). By AI agents, Wed Nov 11 2026. No macro, syntax, notation, axiom, sorry.
-/
import Derived.Test.YtfacmphjplablaaDoorRows
import GoSem.ClaimSeven
namespace Go.Proofs.YtfacmphjplablaaDoor
namespace Rows

/-- THE TIED CARD OF 'hourglasslaw26.SenderSends'. -/
def senderSendsCard : Claim7 := { stood := { row := senderSendsRow, standIns := [], harness := (true, "3784982d39a81e0d2420319cd539c362313da00e1655417322c98c2adbd5f4ba"), looks := false }, kinds := [], alts := [], laidByText := true, laidKinds := [.data, .data, .data], laidTests := true, laidLooks := .later }
def SenderSendsCardSaid : Prop := Claim7.holds Tryd.pinned (.plain (OpenSpec.ofChange senderSendsSpec)) senderSendsCard

/-- THE TIED CARD OF 'hourglasslaw26.SenderRoots'. -/
def senderRootsCard : Claim7 := { stood := { row := senderRootsRow, standIns := [], harness := (true, "3784982d39a81e0d2420319cd539c362313da00e1655417322c98c2adbd5f4ba"), looks := false }, kinds := [], alts := [], laidByText := true, laidKinds := [.data, .data, .data], laidTests := true, laidLooks := .later }
def SenderRootsCardSaid : Prop := Claim7.holds Tryd.pinned (.plain (OpenSpec.ofChange senderRootsSpec)) senderRootsCard

/-- THE TIED CARD OF 'hourglasslaw26.SenderTells'. -/
def senderTellsCard : Claim7 := { stood := { row := senderTellsRow, standIns := [], harness := (true, "3784982d39a81e0d2420319cd539c362313da00e1655417322c98c2adbd5f4ba"), looks := false }, kinds := [], alts := [], laidByText := true, laidKinds := [.data, .data, .data], laidTests := true, laidLooks := .later }
def SenderTellsCardSaid : Prop := Claim7.holds Tryd.pinned (.plain (OpenSpec.ofChange senderTellsSpec)) senderTellsCard

/-- THE TIED CARD OF 'hourglasslaw26.SenderBudget'. -/
def senderBudgetCard : Claim7 := { stood := { row := senderBudgetRow, standIns := [], harness := (true, "3784982d39a81e0d2420319cd539c362313da00e1655417322c98c2adbd5f4ba"), looks := false }, kinds := [], alts := [], laidByText := true, laidKinds := [.data, .data, .data], laidTests := true, laidLooks := .later }
def SenderBudgetCardSaid : Prop := Claim7.holds Tryd.pinned (.plain (OpenSpec.ofChange senderBudgetSpec)) senderBudgetCard

/-- THE TIED CARD OF 'hourglasslaw26.SenderFails'. -/
def senderFailsCard : Claim7 := { stood := { row := senderFailsRow, standIns := [], harness := (true, "3784982d39a81e0d2420319cd539c362313da00e1655417322c98c2adbd5f4ba"), looks := false }, kinds := [], alts := [], laidByText := true, laidKinds := [.data, .data, .data], laidTests := true, laidLooks := .later }
def SenderFailsCardSaid : Prop := Claim7.holds Tryd.pinned (.plain (OpenSpec.ofChange senderFailsSpec)) senderFailsCard

/-- THE TIED CARD OF 'hourglasslaw26.SenderMay'. -/
def senderMayCard : Claim7 := { stood := { row := senderMayRow, standIns := [], harness := (true, "3784982d39a81e0d2420319cd539c362313da00e1655417322c98c2adbd5f4ba"), looks := false }, kinds := [], alts := [], laidByText := true, laidKinds := [.data, .data, .data], laidTests := true, laidLooks := .later }
def SenderMayCardSaid : Prop := Claim7.holds Tryd.pinned (.plain (OpenSpec.ofChange senderMaySpec)) senderMayCard

/-- THE SECOND FORM's CARD OF 'hourglasslaw26.SenderSends'. -/
def senderSendsUptoCard : Claim7 := { stood := { row := senderSendsUptoRow, standIns := [], harness := (true, "3784982d39a81e0d2420319cd539c362313da00e1655417322c98c2adbd5f4ba"), looks := false }, kinds := [], alts := [], laidByText := true, laidKinds := [.data, .data, .data], laidTests := true, laidLooks := .later }
def SenderSendsUptoCardSaid : Prop := Claim7.holds Tryd.pinned (.plain (OpenSpec.upto senderSendsSpec)) senderSendsUptoCard

/-- THE SECOND FORM's CARD OF 'hourglasslaw26.SenderRoots'. -/
def senderRootsUptoCard : Claim7 := { stood := { row := senderRootsUptoRow, standIns := [], harness := (true, "3784982d39a81e0d2420319cd539c362313da00e1655417322c98c2adbd5f4ba"), looks := false }, kinds := [], alts := [], laidByText := true, laidKinds := [.data, .data, .data], laidTests := true, laidLooks := .later }
def SenderRootsUptoCardSaid : Prop := Claim7.holds Tryd.pinned (.plain (OpenSpec.upto senderRootsSpec)) senderRootsUptoCard

/-- THE SECOND FORM's CARD OF 'hourglasslaw26.SenderTells'. -/
def senderTellsUptoCard : Claim7 := { stood := { row := senderTellsUptoRow, standIns := [], harness := (true, "3784982d39a81e0d2420319cd539c362313da00e1655417322c98c2adbd5f4ba"), looks := false }, kinds := [], alts := [], laidByText := true, laidKinds := [.data, .data, .data], laidTests := true, laidLooks := .later }
def SenderTellsUptoCardSaid : Prop := Claim7.holds Tryd.pinned (.plain (OpenSpec.upto senderTellsSpec)) senderTellsUptoCard

/-- THE SECOND FORM's CARD OF 'hourglasslaw26.SenderBudget'. -/
def senderBudgetUptoCard : Claim7 := { stood := { row := senderBudgetUptoRow, standIns := [], harness := (true, "3784982d39a81e0d2420319cd539c362313da00e1655417322c98c2adbd5f4ba"), looks := false }, kinds := [], alts := [], laidByText := true, laidKinds := [.data, .data, .data], laidTests := true, laidLooks := .later }
def SenderBudgetUptoCardSaid : Prop := Claim7.holds Tryd.pinned (.plain (OpenSpec.upto senderBudgetSpec)) senderBudgetUptoCard

/-- THE SECOND FORM's CARD OF 'hourglasslaw26.SenderFails'. -/
def senderFailsUptoCard : Claim7 := { stood := { row := senderFailsUptoRow, standIns := [], harness := (true, "3784982d39a81e0d2420319cd539c362313da00e1655417322c98c2adbd5f4ba"), looks := false }, kinds := [], alts := [], laidByText := true, laidKinds := [.data, .data, .data], laidTests := true, laidLooks := .later }
def SenderFailsUptoCardSaid : Prop := Claim7.holds Tryd.pinned (.plain (OpenSpec.upto senderFailsSpec)) senderFailsUptoCard

/-- THE SECOND FORM's CARD OF 'hourglasslaw26.SenderMay'. -/
def senderMayUptoCard : Claim7 := { stood := { row := senderMayUptoRow, standIns := [], harness := (true, "3784982d39a81e0d2420319cd539c362313da00e1655417322c98c2adbd5f4ba"), looks := false }, kinds := [], alts := [], laidByText := true, laidKinds := [.data, .data, .data], laidTests := true, laidLooks := .later }
def SenderMayUptoCardSaid : Prop := Claim7.holds Tryd.pinned (.plain (OpenSpec.upto senderMaySpec)) senderMayUptoCard
end Rows
end Go.Proofs.YtfacmphjplablaaDoor
