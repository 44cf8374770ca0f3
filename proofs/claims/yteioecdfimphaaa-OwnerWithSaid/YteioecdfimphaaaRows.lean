/-
  No cell of these rows narrows 'for every input' (looked for: loops, veiled, ifaces, maps, wideKeys, modest, calm, conditions, laid).
  DERIVED. THE GIVEN ROWS OF THIS SEAT. 8 by the template 'for every input the law returns true; each argument reads behind the call as it read before'; 0 by the template 'total and deterministic' (their statements: YteioecdfimphaaaTotals.lean).
  GIVEN WITH THE SEED: the statements are not yours to turn. If you find one false, say at which input.
  Laid BY PROGRAM, IN A SANDBOX (cutbox-rows.mjs): the forced cells as the released guide's own fill.sh prints them over the translation f0b098ca3833bee2… (all of the seat's roots in one cut). By AI agents, Wed Nov 11 2026. No macro, syntax, notation, axiom, sorry.
-/
import Derived.Test.YteioecdfimphaaaChecked
import GoSem.Claim
import GoSem.ClaimJoined
import GoSem.ClaimMapViews
import Derived.JoinedTies
import Derived.KernelRfl
namespace Go.Proofs.Yteioecdfimphaaa
/- THE CELL 'sum', in the pinned program and in every row, IS THE sha256 OF THE DUMP (.gsa) THAT YteioecdfimphaaaProg.lean LOADS. Nothing in Lean hashes anything: it is a label: what it is worth is what the hold of that sum in a sandbox is worth. -/
noncomputable def Try.pinned : Pinned := { name := "yteioecdfimphaaa", sum := "f0b098ca3833bee28b93848de03c7cbce45a2f3a1203f4ff2e66738bb59d934f", checked := Try.checked }
namespace Rows
def none {H : Type} : Left H := { results := [], args := [] }

/-- 'hourglasslaw23.OwnerSteps': WHATEVER THE INPUT: true; the input reads as it did. -/
def ownerStepsSpec : ChangeSpec := { name := "ownerSteps", fn := fun _ => fun
  | [d1, d2] => { results := [.lit (.bool true)], args := [d1, d2] }
  | _ => none }
def ownerStepsRow : OpenClaim := { program := "yteioecdfimphaaa", sum := "f0b098ca3833bee28b93848de03c7cbce45a2f3a1203f4ff2e66738bb59d934f", func := "hourglass/hourglasslaw23.OwnerSteps", spec := "ownerSteps", apart := false }
def OwnerStepsSaid : Prop := ownerStepsRow.holds Try.pinned (OpenSpec.ofChange ownerStepsSpec)

/-- ITS FALSE NEIGHBOUR: 'it returns false'. Refute it at one input. -/
def ownerStepsWrong : ChangeSpec := { name := "ownerSteps", fn := fun _ => fun
  | [d1, d2] => { results := [.lit (.bool false)], args := [d1, d2] }
  | _ => none }
def OwnerStepsWrongFalsely : Prop := ownerStepsRow.holds Try.pinned (OpenSpec.ofChange ownerStepsWrong)

/-- 'hourglasslaw23.OwnerEnds': WHATEVER THE INPUT: true; the input reads as it did. -/
def ownerEndsSpec : ChangeSpec := { name := "ownerEnds", fn := fun _ => fun
  | [d] => { results := [.lit (.bool true)], args := [d] }
  | _ => none }
def ownerEndsRow : OpenClaim := { program := "yteioecdfimphaaa", sum := "f0b098ca3833bee28b93848de03c7cbce45a2f3a1203f4ff2e66738bb59d934f", func := "hourglass/hourglasslaw23.OwnerEnds", spec := "ownerEnds", apart := false }
def OwnerEndsSaid : Prop := ownerEndsRow.holds Try.pinned (OpenSpec.ofChange ownerEndsSpec)

/-- ITS FALSE NEIGHBOUR: 'it returns false'. Refute it at one input. -/
def ownerEndsWrong : ChangeSpec := { name := "ownerEnds", fn := fun _ => fun
  | [d] => { results := [.lit (.bool false)], args := [d] }
  | _ => none }
def OwnerEndsWrongFalsely : Prop := ownerEndsRow.holds Try.pinned (OpenSpec.ofChange ownerEndsWrong)

/-- 'hourglasslaw23.OwnerStops': WHATEVER THE INPUT: true; the input reads as it did. -/
def ownerStopsSpec : ChangeSpec := { name := "ownerStops", fn := fun _ => fun
  | [d1, d2, d3] => { results := [.lit (.bool true)], args := [d1, d2, d3] }
  | _ => none }
def ownerStopsRow : OpenClaim := { program := "yteioecdfimphaaa", sum := "f0b098ca3833bee28b93848de03c7cbce45a2f3a1203f4ff2e66738bb59d934f", func := "hourglass/hourglasslaw23.OwnerStops", spec := "ownerStops", apart := false }
def OwnerStopsSaid : Prop := ownerStopsRow.holds Try.pinned (OpenSpec.ofChange ownerStopsSpec)

/-- ITS FALSE NEIGHBOUR: 'it returns false'. Refute it at one input. -/
def ownerStopsWrong : ChangeSpec := { name := "ownerStops", fn := fun _ => fun
  | [d1, d2, d3] => { results := [.lit (.bool false)], args := [d1, d2, d3] }
  | _ => none }
def OwnerStopsWrongFalsely : Prop := ownerStopsRow.holds Try.pinned (OpenSpec.ofChange ownerStopsWrong)

/-- 'hourglasslaw23.OwnerWith': WHATEVER THE INPUT: true; the input reads as it did. -/
def ownerWithSpec : ChangeSpec := { name := "ownerWith", fn := fun _ => fun
  | [d1, d2, d3, d4] => { results := [.lit (.bool true)], args := [d1, d2, d3, d4] }
  | _ => none }
def ownerWithRow : OpenClaim := { program := "yteioecdfimphaaa", sum := "f0b098ca3833bee28b93848de03c7cbce45a2f3a1203f4ff2e66738bb59d934f", func := "hourglass/hourglasslaw23.OwnerWith", spec := "ownerWith", unfollowed := true, recurses := true, apart := false }
def OwnerWithSaid : Prop := ownerWithRow.holds Try.pinned (OpenSpec.ofChange ownerWithSpec)

/-- ITS FALSE NEIGHBOUR: 'it returns false'. Refute it at one input. -/
def ownerWithWrong : ChangeSpec := { name := "ownerWith", fn := fun _ => fun
  | [d1, d2, d3, d4] => { results := [.lit (.bool false)], args := [d1, d2, d3, d4] }
  | _ => none }
def OwnerWithWrongFalsely : Prop := ownerWithRow.holds Try.pinned (OpenSpec.ofChange ownerWithWrong)

/-- 'hourglasslaw23.OwnerTells': WHATEVER THE INPUT: true; the input reads as it did. -/
def ownerTellsSpec : ChangeSpec := { name := "ownerTells", fn := fun _ => fun
  | [d1, d2, d3, d4, d5] => { results := [.lit (.bool true)], args := [d1, d2, d3, d4, d5] }
  | _ => none }
def ownerTellsRow : OpenClaim := { program := "yteioecdfimphaaa", sum := "f0b098ca3833bee28b93848de03c7cbce45a2f3a1203f4ff2e66738bb59d934f", func := "hourglass/hourglasslaw23.OwnerTells", spec := "ownerTells", unfollowed := true, recurses := true, apart := false }
def OwnerTellsSaid : Prop := ownerTellsRow.holds Try.pinned (OpenSpec.ofChange ownerTellsSpec)

/-- ITS FALSE NEIGHBOUR: 'it returns false'. Refute it at one input. -/
def ownerTellsWrong : ChangeSpec := { name := "ownerTells", fn := fun _ => fun
  | [d1, d2, d3, d4, d5] => { results := [.lit (.bool false)], args := [d1, d2, d3, d4, d5] }
  | _ => none }
def OwnerTellsWrongFalsely : Prop := ownerTellsRow.holds Try.pinned (OpenSpec.ofChange ownerTellsWrong)

/-- 'hourglasslaw21.CallBounds': WHATEVER THE INPUT: true; the input reads as it did. -/
def callBoundsSpec : ChangeSpec := { name := "callBounds", fn := fun _ => fun
  | [d1, d2, d3] => { results := [.lit (.bool true)], args := [d1, d2, d3] }
  | _ => none }
def callBoundsRow : OpenClaim := { program := "yteioecdfimphaaa", sum := "f0b098ca3833bee28b93848de03c7cbce45a2f3a1203f4ff2e66738bb59d934f", func := "hourglass/hourglasslaw21.CallBounds", spec := "callBounds", apart := false }
def CallBoundsSaid : Prop := callBoundsRow.holds Try.pinned (OpenSpec.ofChange callBoundsSpec)

/-- ITS FALSE NEIGHBOUR: 'it returns false'. Refute it at one input. -/
def callBoundsWrong : ChangeSpec := { name := "callBounds", fn := fun _ => fun
  | [d1, d2, d3] => { results := [.lit (.bool false)], args := [d1, d2, d3] }
  | _ => none }
def CallBoundsWrongFalsely : Prop := callBoundsRow.holds Try.pinned (OpenSpec.ofChange callBoundsWrong)

/-- 'hourglasslaw21.CallWaits': WHATEVER THE INPUT: true; the input reads as it did. -/
def callWaitsSpec : ChangeSpec := { name := "callWaits", fn := fun _ => fun
  | [d1, d2, d3, d4, d5] => { results := [.lit (.bool true)], args := [d1, d2, d3, d4, d5] }
  | _ => none }
def callWaitsRow : OpenClaim := { program := "yteioecdfimphaaa", sum := "f0b098ca3833bee28b93848de03c7cbce45a2f3a1203f4ff2e66738bb59d934f", func := "hourglass/hourglasslaw21.CallWaits", spec := "callWaits", apart := false }
def CallWaitsSaid : Prop := callWaitsRow.holds Try.pinned (OpenSpec.ofChange callWaitsSpec)

/-- ITS FALSE NEIGHBOUR: 'it returns false'. Refute it at one input. -/
def callWaitsWrong : ChangeSpec := { name := "callWaits", fn := fun _ => fun
  | [d1, d2, d3, d4, d5] => { results := [.lit (.bool false)], args := [d1, d2, d3, d4, d5] }
  | _ => none }
def CallWaitsWrongFalsely : Prop := callWaitsRow.holds Try.pinned (OpenSpec.ofChange callWaitsWrong)

/-- 'hourglasslaw21.CallPlays': WHATEVER THE INPUT: true; the input reads as it did. -/
def callPlaysSpec : ChangeSpec := { name := "callPlays", fn := fun _ => fun
  | [d1, d2, d3, d4, d5] => { results := [.lit (.bool true)], args := [d1, d2, d3, d4, d5] }
  | _ => none }
def callPlaysRow : OpenClaim := { program := "yteioecdfimphaaa", sum := "f0b098ca3833bee28b93848de03c7cbce45a2f3a1203f4ff2e66738bb59d934f", func := "hourglass/hourglasslaw21.CallPlays", spec := "callPlays", apart := false }
def CallPlaysSaid : Prop := callPlaysRow.holds Try.pinned (OpenSpec.ofChange callPlaysSpec)

/-- ITS FALSE NEIGHBOUR: 'it returns false'. Refute it at one input. -/
def callPlaysWrong : ChangeSpec := { name := "callPlays", fn := fun _ => fun
  | [d1, d2, d3, d4, d5] => { results := [.lit (.bool false)], args := [d1, d2, d3, d4, d5] }
  | _ => none }
def CallPlaysWrongFalsely : Prop := callPlaysRow.holds Try.pinned (OpenSpec.ofChange callPlaysWrong)

/- THE SECOND FORM. 'bulk': how many values and letters a reading holds, each counted each time it is reached (what is shared counts as often as it is met; a slice's spare places count too). A statement '..UptoSaid' is the law's where the arguments, and the package variables that the reading takes, are together of bulk at most 1048576: NARROWER than '..Said'. Prove '..Said' where nothing that the law and all that it calls make is longer than what came in: it says more and counts as full. Else prove '..UptoSaid'. A law counts once. -/
mutual
def uptoBulk {H : Type} : DataW H → Nat
  | .lit (.string bytes) => bytes.length + 1
  | .lit _ => 1
  | .nil => 1
  | .ptr d => uptoBulk d + 1
  | .slice elems spare => uptoBulkAll elems + uptoBulkAll spare + 1
  | .agg parts => uptoBulkAll parts + 1
  | .iface _ d => uptoBulk d + 1
  | .map entries => uptoBulkEntries entries + 1
  | .held _ => 1
def uptoBulkAll {H : Type} : List (DataW H) → Nat
  | [] => 0
  | d :: r => uptoBulk d + uptoBulkAll r
def uptoBulkEntries {H : Type} : List (Lit × DataW H) → Nat
  | [] => 0
  | x :: r => uptoBulkEntry x + uptoBulkEntries r
def uptoBulkEntry {H : Type} : Lit × DataW H → Nat
  | (.string bytes, d) => bytes.length + uptoBulk d + 1
  | (_, d) => uptoBulk d + 1
 end
def uptoSmall : (H : Type) → List (DataW H) → Bool := fun _ ds => decide (uptoBulkAll ds ≤ 1048576)
def OpenSpec.upto (s : _root_.Go.ChangeSpec) : _root_.Go.OpenSpec := { _root_.Go.OpenSpec.ofChange s with cond := some uptoSmall }

/-- 'hourglasslaw23.OwnerSteps', WHERE WHAT IT READS IS OF BULK AT MOST 1048576: true; the input reads as it did. -/
def ownerStepsUptoRow : OpenClaim := { program := "yteioecdfimphaaa", sum := "f0b098ca3833bee28b93848de03c7cbce45a2f3a1203f4ff2e66738bb59d934f", func := "hourglass/hourglasslaw23.OwnerSteps", spec := "ownerSteps", apart := false, narrowed := true }
def OwnerStepsUptoSaid : Prop := ownerStepsUptoRow.holds Try.pinned (OpenSpec.upto ownerStepsSpec)

/-- 'hourglasslaw23.OwnerEnds', WHERE WHAT IT READS IS OF BULK AT MOST 1048576: true; the input reads as it did. -/
def ownerEndsUptoRow : OpenClaim := { program := "yteioecdfimphaaa", sum := "f0b098ca3833bee28b93848de03c7cbce45a2f3a1203f4ff2e66738bb59d934f", func := "hourglass/hourglasslaw23.OwnerEnds", spec := "ownerEnds", apart := false, narrowed := true }
def OwnerEndsUptoSaid : Prop := ownerEndsUptoRow.holds Try.pinned (OpenSpec.upto ownerEndsSpec)

/-- 'hourglasslaw23.OwnerStops', WHERE WHAT IT READS IS OF BULK AT MOST 1048576: true; the input reads as it did. -/
def ownerStopsUptoRow : OpenClaim := { program := "yteioecdfimphaaa", sum := "f0b098ca3833bee28b93848de03c7cbce45a2f3a1203f4ff2e66738bb59d934f", func := "hourglass/hourglasslaw23.OwnerStops", spec := "ownerStops", apart := false, narrowed := true }
def OwnerStopsUptoSaid : Prop := ownerStopsUptoRow.holds Try.pinned (OpenSpec.upto ownerStopsSpec)

/-- 'hourglasslaw23.OwnerWith', WHERE WHAT IT READS IS OF BULK AT MOST 1048576: true; the input reads as it did. -/
def ownerWithUptoRow : OpenClaim := { program := "yteioecdfimphaaa", sum := "f0b098ca3833bee28b93848de03c7cbce45a2f3a1203f4ff2e66738bb59d934f", func := "hourglass/hourglasslaw23.OwnerWith", spec := "ownerWith", unfollowed := true, recurses := true, apart := false, narrowed := true }
def OwnerWithUptoSaid : Prop := ownerWithUptoRow.holds Try.pinned (OpenSpec.upto ownerWithSpec)

/-- 'hourglasslaw23.OwnerTells', WHERE WHAT IT READS IS OF BULK AT MOST 1048576: true; the input reads as it did. -/
def ownerTellsUptoRow : OpenClaim := { program := "yteioecdfimphaaa", sum := "f0b098ca3833bee28b93848de03c7cbce45a2f3a1203f4ff2e66738bb59d934f", func := "hourglass/hourglasslaw23.OwnerTells", spec := "ownerTells", unfollowed := true, recurses := true, apart := false, narrowed := true }
def OwnerTellsUptoSaid : Prop := ownerTellsUptoRow.holds Try.pinned (OpenSpec.upto ownerTellsSpec)

/-- 'hourglasslaw21.CallBounds', WHERE WHAT IT READS IS OF BULK AT MOST 1048576: true; the input reads as it did. -/
def callBoundsUptoRow : OpenClaim := { program := "yteioecdfimphaaa", sum := "f0b098ca3833bee28b93848de03c7cbce45a2f3a1203f4ff2e66738bb59d934f", func := "hourglass/hourglasslaw21.CallBounds", spec := "callBounds", apart := false, narrowed := true }
def CallBoundsUptoSaid : Prop := callBoundsUptoRow.holds Try.pinned (OpenSpec.upto callBoundsSpec)

/-- 'hourglasslaw21.CallWaits', WHERE WHAT IT READS IS OF BULK AT MOST 1048576: true; the input reads as it did. -/
def callWaitsUptoRow : OpenClaim := { program := "yteioecdfimphaaa", sum := "f0b098ca3833bee28b93848de03c7cbce45a2f3a1203f4ff2e66738bb59d934f", func := "hourglass/hourglasslaw21.CallWaits", spec := "callWaits", apart := false, narrowed := true }
def CallWaitsUptoSaid : Prop := callWaitsUptoRow.holds Try.pinned (OpenSpec.upto callWaitsSpec)

/-- 'hourglasslaw21.CallPlays', WHERE WHAT IT READS IS OF BULK AT MOST 1048576: true; the input reads as it did. -/
def callPlaysUptoRow : OpenClaim := { program := "yteioecdfimphaaa", sum := "f0b098ca3833bee28b93848de03c7cbce45a2f3a1203f4ff2e66738bb59d934f", func := "hourglass/hourglasslaw21.CallPlays", spec := "callPlays", apart := false, narrowed := true }
def CallPlaysUptoSaid : Prop := callPlaysUptoRow.holds Try.pinned (OpenSpec.upto callPlaysSpec)

end Rows
end Go.Proofs.Yteioecdfimphaaa
