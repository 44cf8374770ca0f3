/-
  DERIVED. GIVEN WITH THE SEED: THE CARDS: each row of YtcihkmnolagdlaaDoorRows.lean that lists a variable, with what it lists TIED to the program's text (the seventh form; the later family's looks); each row that meets fmt, with fmt's text TOLD by the authors' own Lean function (tested against real Go, not proved from fmt's source: count such statements apart). THE CARD IS WHAT COUNTS. Prove the row's statement (the work); the ties are given (YtcihkmnolagdlaaDoorTie.lean); close each card by the builder's one call (the guide's Derived/Test/ToyasCard.lean, 'card_holds'). Laid BY PROGRAM, IN A SANDBOX (cutbox-door.mjs). By AI agents, Wed Nov 11 2026. No macro, syntax, notation, axiom, sorry.
-/
import Derived.Test.YtcihkmnolagdlaaDoorRows
import GoSem.ClaimSeven
namespace Go.Proofs.YtcihkmnolagdlaaDoor
namespace Rows

/-- THE TIED CARD OF 'hourglasslaw25.EventKinds'. -/
def eventKindsCard : Claim7 := { stood := { row := eventKindsRow, standIns := [], harness := (true, "724a1fa3efb8abbe81e4289b26c9a0ee158af96e1e610e2db3e5dd991a3e0826"), looks := true }, kinds := [], alts := [], laidByText := true, laidKinds := [.data, .data, .data], laidTests := true, laidLooks := .later }
def EventKindsCardSaid : Prop := Claim7.holds Tryd.pinned (.plain (OpenSpec.ofChange eventKindsSpec)) eventKindsCard

/-- THE TIED CARD OF 'hourglasslaw25.EventCommutes'. -/
def eventCommutesCard : Claim7 := { stood := { row := eventCommutesRow, standIns := [], harness := (true, "724a1fa3efb8abbe81e4289b26c9a0ee158af96e1e610e2db3e5dd991a3e0826"), looks := true }, kinds := [], alts := [], laidByText := true, laidKinds := [.data, .data, .data], laidTests := true, laidLooks := .later }
def EventCommutesCardSaid : Prop := Claim7.holds Tryd.pinned (.plain (OpenSpec.ofChange eventCommutesSpec)) eventCommutesCard

/-- THE TIED CARD OF 'hourglasslaw25.EventBelow'. -/
def eventBelowCard : Claim7 := { stood := { row := eventBelowRow, standIns := [], harness := (true, "724a1fa3efb8abbe81e4289b26c9a0ee158af96e1e610e2db3e5dd991a3e0826"), looks := true }, kinds := [], alts := [], laidByText := true, laidKinds := [.data, .data, .data], laidTests := true, laidLooks := .later }
def EventBelowCardSaid : Prop := Claim7.holds Tryd.pinned (.plain (OpenSpec.ofChange eventBelowSpec)) eventBelowCard

/-- THE TIED CARD OF 'hourglasslaw25.EventTells'. -/
def eventTellsCard : Claim7 := { stood := { row := eventTellsRow, standIns := [], harness := (true, "724a1fa3efb8abbe81e4289b26c9a0ee158af96e1e610e2db3e5dd991a3e0826"), looks := true }, kinds := [], alts := [], laidByText := true, laidKinds := [.data, .data, .data], laidTests := true, laidLooks := .later }
def EventTellsCardSaid : Prop := Claim7.holds Tryd.pinned (.plain (OpenSpec.ofChange eventTellsSpec)) eventTellsCard

/-- THE TIED CARD OF 'hourglasslaw06.FaultTells'. -/
def faultTellsCard : Claim7 := { stood := { row := faultTellsRow, standIns := [], harness := (true, "724a1fa3efb8abbe81e4289b26c9a0ee158af96e1e610e2db3e5dd991a3e0826"), looks := true }, kinds := [], alts := [], laidByText := true, laidKinds := [.data, .data, .data, .handle], laidTests := true, laidLooks := .later }
def FaultTellsCardSaid : Prop := Claim7.holds Tryd.pinned (.plain (OpenSpec.ofChange faultTellsSpec)) faultTellsCard

/-- THE TIED CARD OF 'hourglasslaw06.FaultStays'. -/
def faultStaysCard : Claim7 := { stood := { row := faultStaysRow, standIns := [], harness := (true, "724a1fa3efb8abbe81e4289b26c9a0ee158af96e1e610e2db3e5dd991a3e0826"), looks := true }, kinds := [], alts := [], laidByText := true, laidKinds := [.data, .data, .data, .handle], laidTests := true, laidLooks := .later }
def FaultStaysCardSaid : Prop := Claim7.holds Tryd.pinned (.plain (OpenSpec.ofChange faultStaysSpec)) faultStaysCard

/-- THE TIED CARD OF 'hourglasslaw06.FaultNone'. -/
def faultNoneCard : Claim7 := { stood := { row := faultNoneRow, standIns := [], harness := (true, "724a1fa3efb8abbe81e4289b26c9a0ee158af96e1e610e2db3e5dd991a3e0826"), looks := true }, kinds := [], alts := [], laidByText := true, laidKinds := [.data, .data, .data, .handle], laidTests := true, laidLooks := .later }
def FaultNoneCardSaid : Prop := Claim7.holds Tryd.pinned (.plain (OpenSpec.ofChange faultNoneSpec)) faultNoneCard

/-- THE SECOND FORM's CARD OF 'hourglasslaw25.EventKinds'. -/
def eventKindsUptoCard : Claim7 := { stood := { row := eventKindsUptoRow, standIns := [], harness := (true, "724a1fa3efb8abbe81e4289b26c9a0ee158af96e1e610e2db3e5dd991a3e0826"), looks := true }, kinds := [], alts := [], laidByText := true, laidKinds := [.data, .data, .data], laidTests := true, laidLooks := .later }
def EventKindsUptoCardSaid : Prop := Claim7.holds Tryd.pinned (.plain (OpenSpec.upto eventKindsSpec)) eventKindsUptoCard

/-- THE SECOND FORM's CARD OF 'hourglasslaw25.EventCommutes'. -/
def eventCommutesUptoCard : Claim7 := { stood := { row := eventCommutesUptoRow, standIns := [], harness := (true, "724a1fa3efb8abbe81e4289b26c9a0ee158af96e1e610e2db3e5dd991a3e0826"), looks := true }, kinds := [], alts := [], laidByText := true, laidKinds := [.data, .data, .data], laidTests := true, laidLooks := .later }
def EventCommutesUptoCardSaid : Prop := Claim7.holds Tryd.pinned (.plain (OpenSpec.upto eventCommutesSpec)) eventCommutesUptoCard

/-- THE SECOND FORM's CARD OF 'hourglasslaw25.EventBelow'. -/
def eventBelowUptoCard : Claim7 := { stood := { row := eventBelowUptoRow, standIns := [], harness := (true, "724a1fa3efb8abbe81e4289b26c9a0ee158af96e1e610e2db3e5dd991a3e0826"), looks := true }, kinds := [], alts := [], laidByText := true, laidKinds := [.data, .data, .data], laidTests := true, laidLooks := .later }
def EventBelowUptoCardSaid : Prop := Claim7.holds Tryd.pinned (.plain (OpenSpec.upto eventBelowSpec)) eventBelowUptoCard

/-- THE SECOND FORM's CARD OF 'hourglasslaw25.EventTells'. -/
def eventTellsUptoCard : Claim7 := { stood := { row := eventTellsUptoRow, standIns := [], harness := (true, "724a1fa3efb8abbe81e4289b26c9a0ee158af96e1e610e2db3e5dd991a3e0826"), looks := true }, kinds := [], alts := [], laidByText := true, laidKinds := [.data, .data, .data], laidTests := true, laidLooks := .later }
def EventTellsUptoCardSaid : Prop := Claim7.holds Tryd.pinned (.plain (OpenSpec.upto eventTellsSpec)) eventTellsUptoCard

/-- THE SECOND FORM's CARD OF 'hourglasslaw06.FaultTells'. -/
def faultTellsUptoCard : Claim7 := { stood := { row := faultTellsUptoRow, standIns := [], harness := (true, "724a1fa3efb8abbe81e4289b26c9a0ee158af96e1e610e2db3e5dd991a3e0826"), looks := true }, kinds := [], alts := [], laidByText := true, laidKinds := [.data, .data, .data, .handle], laidTests := true, laidLooks := .later }
def FaultTellsUptoCardSaid : Prop := Claim7.holds Tryd.pinned (.plain (OpenSpec.upto faultTellsSpec)) faultTellsUptoCard

/-- THE SECOND FORM's CARD OF 'hourglasslaw06.FaultStays'. -/
def faultStaysUptoCard : Claim7 := { stood := { row := faultStaysUptoRow, standIns := [], harness := (true, "724a1fa3efb8abbe81e4289b26c9a0ee158af96e1e610e2db3e5dd991a3e0826"), looks := true }, kinds := [], alts := [], laidByText := true, laidKinds := [.data, .data, .data, .handle], laidTests := true, laidLooks := .later }
def FaultStaysUptoCardSaid : Prop := Claim7.holds Tryd.pinned (.plain (OpenSpec.upto faultStaysSpec)) faultStaysUptoCard

/-- THE SECOND FORM's CARD OF 'hourglasslaw06.FaultNone'. -/
def faultNoneUptoCard : Claim7 := { stood := { row := faultNoneUptoRow, standIns := [], harness := (true, "724a1fa3efb8abbe81e4289b26c9a0ee158af96e1e610e2db3e5dd991a3e0826"), looks := true }, kinds := [], alts := [], laidByText := true, laidKinds := [.data, .data, .data, .handle], laidTests := true, laidLooks := .later }
def FaultNoneUptoCardSaid : Prop := Claim7.holds Tryd.pinned (.plain (OpenSpec.upto faultNoneSpec)) faultNoneUptoCard
end Rows
end Go.Proofs.YtcihkmnolagdlaaDoor
