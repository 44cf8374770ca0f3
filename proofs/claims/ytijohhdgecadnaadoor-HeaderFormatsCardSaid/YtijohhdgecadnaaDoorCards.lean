/-
  DERIVED. GIVEN WITH THE SEED: THE CARDS: each row of YtijohhdgecadnaaDoorRows.lean that lists a variable, with what it lists TIED to the program's text (the seventh form; the later family's looks); each row that meets fmt, with fmt's text TOLD by the authors' own Lean function (tested against real Go, not proved from fmt's source: count such statements apart). THE CARD IS WHAT COUNTS. Prove the row's statement (the work); the ties are given (YtijohhdgecadnaaDoorTie.lean); close each card by the builder's one call (the guide's Derived/Test/ToyasCard.lean, 'card_holds'). Laid BY PROGRAM, IN A SANDBOX (cutbox-door.mjs). By AI agents, Wed Nov 11 2026. No macro, syntax, notation, axiom, sorry.
-/
import Derived.Test.YtijohhdgecadnaaDoorRows
import GoSem.ClaimSeven
namespace Go.Proofs.YtijohhdgecadnaaDoor
namespace Rows

/-- THE TIED CARD OF 'hourglasslaw37.HeaderFormats'. -/
def headerFormatsCard : Claim7 := { stood := { row := headerFormatsRow, standIns := [], harness := (true, "0629a3f64f58aea4277f4518b3dcde008045bc9bc2d62b3dc9dc7b85ced67a4c"), looks := false }, kinds := [], alts := [], laidByText := true, laidKinds := [.data, .data, .data], laidTests := true, laidLooks := .later }
def HeaderFormatsCardSaid : Prop := Claim7.holds Tryd.pinned (.plain (OpenSpec.ofChange headerFormatsSpec)) headerFormatsCard

/-- THE SECOND FORM's CARD OF 'hourglasslaw37.HeaderFormats'. -/
def headerFormatsUptoCard : Claim7 := { stood := { row := headerFormatsUptoRow, standIns := [], harness := (true, "0629a3f64f58aea4277f4518b3dcde008045bc9bc2d62b3dc9dc7b85ced67a4c"), looks := false }, kinds := [], alts := [], laidByText := true, laidKinds := [.data, .data, .data], laidTests := true, laidLooks := .later }
def HeaderFormatsUptoCardSaid : Prop := Claim7.holds Tryd.pinned (.plain (OpenSpec.upto headerFormatsSpec)) headerFormatsUptoCard
end Rows
end Go.Proofs.YtijohhdgecadnaaDoor
