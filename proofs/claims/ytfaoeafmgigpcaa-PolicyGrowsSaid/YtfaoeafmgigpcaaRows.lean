/-
  No cell of these rows narrows 'for every input' (looked for: loops, veiled, ifaces, maps, wideKeys, modest, calm, conditions, laid).
  DERIVED. THE GIVEN ROWS OF THIS SEAT. 14 by the template 'for every input the law returns true; each argument reads behind the call as it read before'; 0 by the template 'total and deterministic' (their statements: YtfaoeafmgigpcaaTotals.lean).
  GIVEN WITH THE SEED: the statements are not yours to turn. If you find one false, say at which input.
  Laid BY PROGRAM, IN A SANDBOX (cutbox-rows.mjs): the forced cells as the released guide's own fill.sh prints them over the translation f80f06672fd4a475… (all of the seat's roots in one cut). By AI agents, Wed Nov 11 2026. No macro, syntax, notation, axiom, sorry.
-/
import Derived.Test.YtfaoeafmgigpcaaChecked
import GoSem.Claim
import GoSem.ClaimJoined
import GoSem.ClaimMapViews
import Derived.JoinedTies
import Derived.KernelRfl
namespace Go.Proofs.Ytfaoeafmgigpcaa
/- THE CELL 'sum', in the pinned program and in every row, IS THE sha256 OF THE DUMP (.gsa) THAT YtfaoeafmgigpcaaProg.lean LOADS. Nothing in Lean hashes anything: it is a label: what it is worth is what the hold of that sum in a sandbox is worth. -/
noncomputable def Try.pinned : Pinned := { name := "ytfaoeafmgigpcaa", sum := "f80f06672fd4a4755ae7518776ea5e64b5bbc0f72758571c96a5820f1bc0ed52", checked := Try.checked }
namespace Rows
def none {H : Type} : Left H := { results := [], args := [] }

/-- 'hourglasslaw01.TicksGrain': WHATEVER THE INPUT: true; the input reads as it did. -/
def ticksGrainSpec : ChangeSpec := { name := "ticksGrain", fn := fun _ => fun
  | [d1, d2, d3, d4] => { results := [.lit (.bool true)], args := [d1, d2, d3, d4] }
  | _ => none }
def ticksGrainRow : OpenClaim := { program := "ytfaoeafmgigpcaa", sum := "f80f06672fd4a4755ae7518776ea5e64b5bbc0f72758571c96a5820f1bc0ed52", func := "hourglass/hourglasslaw01.TicksGrain", spec := "ticksGrain", apart := false }
def TicksGrainSaid : Prop := ticksGrainRow.holds Try.pinned (OpenSpec.ofChange ticksGrainSpec)

/-- ITS FALSE NEIGHBOUR: 'it returns false'. Refute it at one input. -/
def ticksGrainWrong : ChangeSpec := { name := "ticksGrain", fn := fun _ => fun
  | [d1, d2, d3, d4] => { results := [.lit (.bool false)], args := [d1, d2, d3, d4] }
  | _ => none }
def TicksGrainWrongFalsely : Prop := ticksGrainRow.holds Try.pinned (OpenSpec.ofChange ticksGrainWrong)

/-- 'hourglasslaw01.TicksSums': WHATEVER THE INPUT: true; the input reads as it did. -/
def ticksSumsSpec : ChangeSpec := { name := "ticksSums", fn := fun _ => fun
  | [d1, d2, d3] => { results := [.lit (.bool true)], args := [d1, d2, d3] }
  | _ => none }
def ticksSumsRow : OpenClaim := { program := "ytfaoeafmgigpcaa", sum := "f80f06672fd4a4755ae7518776ea5e64b5bbc0f72758571c96a5820f1bc0ed52", func := "hourglass/hourglasslaw01.TicksSums", spec := "ticksSums", apart := false }
def TicksSumsSaid : Prop := ticksSumsRow.holds Try.pinned (OpenSpec.ofChange ticksSumsSpec)

/-- ITS FALSE NEIGHBOUR: 'it returns false'. Refute it at one input. -/
def ticksSumsWrong : ChangeSpec := { name := "ticksSums", fn := fun _ => fun
  | [d1, d2, d3] => { results := [.lit (.bool false)], args := [d1, d2, d3] }
  | _ => none }
def TicksSumsWrongFalsely : Prop := ticksSumsRow.holds Try.pinned (OpenSpec.ofChange ticksSumsWrong)

/-- 'hourglasslaw01.TicksTell': WHATEVER THE INPUT: true; the input reads as it did. -/
def ticksTellSpec : ChangeSpec := { name := "ticksTell", fn := fun _ => fun
  | [d1, d2, d3] => { results := [.lit (.bool true)], args := [d1, d2, d3] }
  | _ => none }
def ticksTellRow : OpenClaim := { program := "ytfaoeafmgigpcaa", sum := "f80f06672fd4a4755ae7518776ea5e64b5bbc0f72758571c96a5820f1bc0ed52", func := "hourglass/hourglasslaw01.TicksTell", spec := "ticksTell", apart := false }
def TicksTellSaid : Prop := ticksTellRow.holds Try.pinned (OpenSpec.ofChange ticksTellSpec)

/-- ITS FALSE NEIGHBOUR: 'it returns false'. Refute it at one input. -/
def ticksTellWrong : ChangeSpec := { name := "ticksTell", fn := fun _ => fun
  | [d1, d2, d3] => { results := [.lit (.bool false)], args := [d1, d2, d3] }
  | _ => none }
def TicksTellWrongFalsely : Prop := ticksTellRow.holds Try.pinned (OpenSpec.ofChange ticksTellWrong)

/-- 'hourglasslaw01.TicksRise': WHATEVER THE INPUT: true; the input reads as it did. -/
def ticksRiseSpec : ChangeSpec := { name := "ticksRise", fn := fun _ => fun
  | [d1, d2, d3] => { results := [.lit (.bool true)], args := [d1, d2, d3] }
  | _ => none }
def ticksRiseRow : OpenClaim := { program := "ytfaoeafmgigpcaa", sum := "f80f06672fd4a4755ae7518776ea5e64b5bbc0f72758571c96a5820f1bc0ed52", func := "hourglass/hourglasslaw01.TicksRise", spec := "ticksRise", apart := false }
def TicksRiseSaid : Prop := ticksRiseRow.holds Try.pinned (OpenSpec.ofChange ticksRiseSpec)

/-- ITS FALSE NEIGHBOUR: 'it returns false'. Refute it at one input. -/
def ticksRiseWrong : ChangeSpec := { name := "ticksRise", fn := fun _ => fun
  | [d1, d2, d3] => { results := [.lit (.bool false)], args := [d1, d2, d3] }
  | _ => none }
def TicksRiseWrongFalsely : Prop := ticksRiseRow.holds Try.pinned (OpenSpec.ofChange ticksRiseWrong)

/-- 'hourglasslaw18.BackoffRises': WHATEVER THE INPUT: true; the input reads as it did. -/
def backoffRisesSpec : ChangeSpec := { name := "backoffRises", fn := fun _ => fun
  | [d1, d2, d3, d4, d5, d6] => { results := [.lit (.bool true)], args := [d1, d2, d3, d4, d5, d6] }
  | _ => none }
def backoffRisesRow : OpenClaim := { program := "ytfaoeafmgigpcaa", sum := "f80f06672fd4a4755ae7518776ea5e64b5bbc0f72758571c96a5820f1bc0ed52", func := "hourglass/hourglasslaw18.BackoffRises", spec := "backoffRises", apart := false }
def BackoffRisesSaid : Prop := backoffRisesRow.holds Try.pinned (OpenSpec.ofChange backoffRisesSpec)

/-- ITS FALSE NEIGHBOUR: 'it returns false'. Refute it at one input. -/
def backoffRisesWrong : ChangeSpec := { name := "backoffRises", fn := fun _ => fun
  | [d1, d2, d3, d4, d5, d6] => { results := [.lit (.bool false)], args := [d1, d2, d3, d4, d5, d6] }
  | _ => none }
def BackoffRisesWrongFalsely : Prop := backoffRisesRow.holds Try.pinned (OpenSpec.ofChange backoffRisesWrong)

/-- 'hourglasslaw18.BackoffTells': WHATEVER THE INPUT: true; the input reads as it did. -/
def backoffTellsSpec : ChangeSpec := { name := "backoffTells", fn := fun _ => fun
  | [d1, d2, d3, d4] => { results := [.lit (.bool true)], args := [d1, d2, d3, d4] }
  | _ => none }
def backoffTellsRow : OpenClaim := { program := "ytfaoeafmgigpcaa", sum := "f80f06672fd4a4755ae7518776ea5e64b5bbc0f72758571c96a5820f1bc0ed52", func := "hourglass/hourglasslaw18.BackoffTells", spec := "backoffTells", apart := false }
def BackoffTellsSaid : Prop := backoffTellsRow.holds Try.pinned (OpenSpec.ofChange backoffTellsSpec)

/-- ITS FALSE NEIGHBOUR: 'it returns false'. Refute it at one input. -/
def backoffTellsWrong : ChangeSpec := { name := "backoffTells", fn := fun _ => fun
  | [d1, d2, d3, d4] => { results := [.lit (.bool false)], args := [d1, d2, d3, d4] }
  | _ => none }
def BackoffTellsWrongFalsely : Prop := backoffTellsRow.holds Try.pinned (OpenSpec.ofChange backoffTellsWrong)

/-- 'hourglasslaw18.BackoffBounds': WHATEVER THE INPUT: true; the input reads as it did. -/
def backoffBoundsSpec : ChangeSpec := { name := "backoffBounds", fn := fun _ => fun
  | [d1, d2, d3, d4] => { results := [.lit (.bool true)], args := [d1, d2, d3, d4] }
  | _ => none }
def backoffBoundsRow : OpenClaim := { program := "ytfaoeafmgigpcaa", sum := "f80f06672fd4a4755ae7518776ea5e64b5bbc0f72758571c96a5820f1bc0ed52", func := "hourglass/hourglasslaw18.BackoffBounds", spec := "backoffBounds", apart := false }
def BackoffBoundsSaid : Prop := backoffBoundsRow.holds Try.pinned (OpenSpec.ofChange backoffBoundsSpec)

/-- ITS FALSE NEIGHBOUR: 'it returns false'. Refute it at one input. -/
def backoffBoundsWrong : ChangeSpec := { name := "backoffBounds", fn := fun _ => fun
  | [d1, d2, d3, d4] => { results := [.lit (.bool false)], args := [d1, d2, d3, d4] }
  | _ => none }
def BackoffBoundsWrongFalsely : Prop := backoffBoundsRow.holds Try.pinned (OpenSpec.ofChange backoffBoundsWrong)

/-- 'hourglasslaw05.CodeJoins': WHATEVER THE INPUT: true; the input reads as it did. -/
def codeJoinsSpec : ChangeSpec := { name := "codeJoins", fn := fun _ => fun
  | [d1, d2, d3] => { results := [.lit (.bool true)], args := [d1, d2, d3] }
  | _ => none }
def codeJoinsRow : OpenClaim := { program := "ytfaoeafmgigpcaa", sum := "f80f06672fd4a4755ae7518776ea5e64b5bbc0f72758571c96a5820f1bc0ed52", func := "hourglass/hourglasslaw05.CodeJoins", spec := "codeJoins", apart := false }
def CodeJoinsSaid : Prop := codeJoinsRow.holds Try.pinned (OpenSpec.ofChange codeJoinsSpec)

/-- ITS FALSE NEIGHBOUR: 'it returns false'. Refute it at one input. -/
def codeJoinsWrong : ChangeSpec := { name := "codeJoins", fn := fun _ => fun
  | [d1, d2, d3] => { results := [.lit (.bool false)], args := [d1, d2, d3] }
  | _ => none }
def CodeJoinsWrongFalsely : Prop := codeJoinsRow.holds Try.pinned (OpenSpec.ofChange codeJoinsWrong)

/-- 'hourglasslaw05.CodeNames': WHATEVER THE INPUT: true; the input reads as it did. -/
def codeNamesSpec : ChangeSpec := { name := "codeNames", fn := fun _ => fun
  | [d1, d2] => { results := [.lit (.bool true)], args := [d1, d2] }
  | _ => none }
def codeNamesRow : OpenClaim := { program := "ytfaoeafmgigpcaa", sum := "f80f06672fd4a4755ae7518776ea5e64b5bbc0f72758571c96a5820f1bc0ed52", func := "hourglass/hourglasslaw05.CodeNames", spec := "codeNames", apart := false }
def CodeNamesSaid : Prop := codeNamesRow.holds Try.pinned (OpenSpec.ofChange codeNamesSpec)

/-- ITS FALSE NEIGHBOUR: 'it returns false'. Refute it at one input. -/
def codeNamesWrong : ChangeSpec := { name := "codeNames", fn := fun _ => fun
  | [d1, d2] => { results := [.lit (.bool false)], args := [d1, d2] }
  | _ => none }
def CodeNamesWrongFalsely : Prop := codeNamesRow.holds Try.pinned (OpenSpec.ofChange codeNamesWrong)

/-- 'hourglasslaw05.CodeTells': WHATEVER THE INPUT: true; the input reads as it did. -/
def codeTellsSpec : ChangeSpec := { name := "codeTells", fn := fun _ => fun
  | [d1, d2, d3, d4] => { results := [.lit (.bool true)], args := [d1, d2, d3, d4] }
  | _ => none }
def codeTellsRow : OpenClaim := { program := "ytfaoeafmgigpcaa", sum := "f80f06672fd4a4755ae7518776ea5e64b5bbc0f72758571c96a5820f1bc0ed52", func := "hourglass/hourglasslaw05.CodeTells", spec := "codeTells", apart := false }
def CodeTellsSaid : Prop := codeTellsRow.holds Try.pinned (OpenSpec.ofChange codeTellsSpec)

/-- ITS FALSE NEIGHBOUR: 'it returns false'. Refute it at one input. -/
def codeTellsWrong : ChangeSpec := { name := "codeTells", fn := fun _ => fun
  | [d1, d2, d3, d4] => { results := [.lit (.bool false)], args := [d1, d2, d3, d4] }
  | _ => none }
def CodeTellsWrongFalsely : Prop := codeTellsRow.holds Try.pinned (OpenSpec.ofChange codeTellsWrong)

/-- 'hourglasslaw20.PolicyAgain': WHATEVER THE INPUT: true; the input reads as it did. -/
def policyAgainSpec : ChangeSpec := { name := "policyAgain", fn := fun _ => fun
  | [d1, d2] => { results := [.lit (.bool true)], args := [d1, d2] }
  | _ => none }
def policyAgainRow : OpenClaim := { program := "ytfaoeafmgigpcaa", sum := "f80f06672fd4a4755ae7518776ea5e64b5bbc0f72758571c96a5820f1bc0ed52", func := "hourglass/hourglasslaw20.PolicyAgain", spec := "policyAgain", apart := false }
def PolicyAgainSaid : Prop := policyAgainRow.holds Try.pinned (OpenSpec.ofChange policyAgainSpec)

/-- ITS FALSE NEIGHBOUR: 'it returns false'. Refute it at one input. -/
def policyAgainWrong : ChangeSpec := { name := "policyAgain", fn := fun _ => fun
  | [d1, d2] => { results := [.lit (.bool false)], args := [d1, d2] }
  | _ => none }
def PolicyAgainWrongFalsely : Prop := policyAgainRow.holds Try.pinned (OpenSpec.ofChange policyAgainWrong)

/-- 'hourglasslaw20.PolicyLess': WHATEVER THE INPUT: true; the input reads as it did. -/
def policyLessSpec : ChangeSpec := { name := "policyLess", fn := fun _ => fun
  | [d1, d2, d3, d4] => { results := [.lit (.bool true)], args := [d1, d2, d3, d4] }
  | _ => none }
def policyLessRow : OpenClaim := { program := "ytfaoeafmgigpcaa", sum := "f80f06672fd4a4755ae7518776ea5e64b5bbc0f72758571c96a5820f1bc0ed52", func := "hourglass/hourglasslaw20.PolicyLess", spec := "policyLess", apart := false }
def PolicyLessSaid : Prop := policyLessRow.holds Try.pinned (OpenSpec.ofChange policyLessSpec)

/-- ITS FALSE NEIGHBOUR: 'it returns false'. Refute it at one input. -/
def policyLessWrong : ChangeSpec := { name := "policyLess", fn := fun _ => fun
  | [d1, d2, d3, d4] => { results := [.lit (.bool false)], args := [d1, d2, d3, d4] }
  | _ => none }
def PolicyLessWrongFalsely : Prop := policyLessRow.holds Try.pinned (OpenSpec.ofChange policyLessWrong)

/-- 'hourglasslaw20.PolicyDecides': WHATEVER THE INPUT: true; the input reads as it did. -/
def policyDecidesSpec : ChangeSpec := { name := "policyDecides", fn := fun _ => fun
  | [d1, d2] => { results := [.lit (.bool true)], args := [d1, d2] }
  | _ => none }
def policyDecidesRow : OpenClaim := { program := "ytfaoeafmgigpcaa", sum := "f80f06672fd4a4755ae7518776ea5e64b5bbc0f72758571c96a5820f1bc0ed52", func := "hourglass/hourglasslaw20.PolicyDecides", spec := "policyDecides", apart := false }
def PolicyDecidesSaid : Prop := policyDecidesRow.holds Try.pinned (OpenSpec.ofChange policyDecidesSpec)

/-- ITS FALSE NEIGHBOUR: 'it returns false'. Refute it at one input. -/
def policyDecidesWrong : ChangeSpec := { name := "policyDecides", fn := fun _ => fun
  | [d1, d2] => { results := [.lit (.bool false)], args := [d1, d2] }
  | _ => none }
def PolicyDecidesWrongFalsely : Prop := policyDecidesRow.holds Try.pinned (OpenSpec.ofChange policyDecidesWrong)

/-- 'hourglasslaw20.PolicyGrows': WHATEVER THE INPUT: true; the input reads as it did. -/
def policyGrowsSpec : ChangeSpec := { name := "policyGrows", fn := fun _ => fun
  | [d] => { results := [.lit (.bool true)], args := [d] }
  | _ => none }
def policyGrowsRow : OpenClaim := { program := "ytfaoeafmgigpcaa", sum := "f80f06672fd4a4755ae7518776ea5e64b5bbc0f72758571c96a5820f1bc0ed52", func := "hourglass/hourglasslaw20.PolicyGrows", spec := "policyGrows", apart := false }
def PolicyGrowsSaid : Prop := policyGrowsRow.holds Try.pinned (OpenSpec.ofChange policyGrowsSpec)

/-- ITS FALSE NEIGHBOUR: 'it returns false'. Refute it at one input. -/
def policyGrowsWrong : ChangeSpec := { name := "policyGrows", fn := fun _ => fun
  | [d] => { results := [.lit (.bool false)], args := [d] }
  | _ => none }
def PolicyGrowsWrongFalsely : Prop := policyGrowsRow.holds Try.pinned (OpenSpec.ofChange policyGrowsWrong)

/- THE SECOND FORM. 'bulk': how many values and letters a reading holds, each counted each time it is reached (what is shared counts as often as it is met; a slice's spare places count too). A statement '..UptoSaid' is the law's where the arguments, and the package variables that the reading takes, are together of bulk at most 1048576: NARROWER than '..Said'. Prove '..Said' where nothing that the law and all that it calls make is longer than what came in: it says more and counts as full. Else prove '..UptoSaid'. A law counts once. -/
mutual
def uptoBulk {H : Type} : DataW H → Nat
  | .lit (.string bytes) => bytes.length + 1
  | .lit _ => 1
  | .nil => 1
  | .ptr d => uptoBulk d + 1
  | .slice elems spare => uptoBulkAll elems + uptoBulkAll spare + 1
  | .agg parts => uptoBulkAll parts + 1
  | .iface _ d => uptoBulk d + 1
  | .map entries => uptoBulkEntries entries + 1
  | .held _ => 1
def uptoBulkAll {H : Type} : List (DataW H) → Nat
  | [] => 0
  | d :: r => uptoBulk d + uptoBulkAll r
def uptoBulkEntries {H : Type} : List (Lit × DataW H) → Nat
  | [] => 0
  | x :: r => uptoBulkEntry x + uptoBulkEntries r
def uptoBulkEntry {H : Type} : Lit × DataW H → Nat
  | (.string bytes, d) => bytes.length + uptoBulk d + 1
  | (_, d) => uptoBulk d + 1
 end
def uptoSmall : (H : Type) → List (DataW H) → Bool := fun _ ds => decide (uptoBulkAll ds ≤ 1048576)
def OpenSpec.upto (s : _root_.Go.ChangeSpec) : _root_.Go.OpenSpec := { _root_.Go.OpenSpec.ofChange s with cond := some uptoSmall }

/-- 'hourglasslaw01.TicksGrain', WHERE WHAT IT READS IS OF BULK AT MOST 1048576: true; the input reads as it did. -/
def ticksGrainUptoRow : OpenClaim := { program := "ytfaoeafmgigpcaa", sum := "f80f06672fd4a4755ae7518776ea5e64b5bbc0f72758571c96a5820f1bc0ed52", func := "hourglass/hourglasslaw01.TicksGrain", spec := "ticksGrain", apart := false, narrowed := true }
def TicksGrainUptoSaid : Prop := ticksGrainUptoRow.holds Try.pinned (OpenSpec.upto ticksGrainSpec)

/-- 'hourglasslaw01.TicksSums', WHERE WHAT IT READS IS OF BULK AT MOST 1048576: true; the input reads as it did. -/
def ticksSumsUptoRow : OpenClaim := { program := "ytfaoeafmgigpcaa", sum := "f80f06672fd4a4755ae7518776ea5e64b5bbc0f72758571c96a5820f1bc0ed52", func := "hourglass/hourglasslaw01.TicksSums", spec := "ticksSums", apart := false, narrowed := true }
def TicksSumsUptoSaid : Prop := ticksSumsUptoRow.holds Try.pinned (OpenSpec.upto ticksSumsSpec)

/-- 'hourglasslaw01.TicksTell', WHERE WHAT IT READS IS OF BULK AT MOST 1048576: true; the input reads as it did. -/
def ticksTellUptoRow : OpenClaim := { program := "ytfaoeafmgigpcaa", sum := "f80f06672fd4a4755ae7518776ea5e64b5bbc0f72758571c96a5820f1bc0ed52", func := "hourglass/hourglasslaw01.TicksTell", spec := "ticksTell", apart := false, narrowed := true }
def TicksTellUptoSaid : Prop := ticksTellUptoRow.holds Try.pinned (OpenSpec.upto ticksTellSpec)

/-- 'hourglasslaw01.TicksRise', WHERE WHAT IT READS IS OF BULK AT MOST 1048576: true; the input reads as it did. -/
def ticksRiseUptoRow : OpenClaim := { program := "ytfaoeafmgigpcaa", sum := "f80f06672fd4a4755ae7518776ea5e64b5bbc0f72758571c96a5820f1bc0ed52", func := "hourglass/hourglasslaw01.TicksRise", spec := "ticksRise", apart := false, narrowed := true }
def TicksRiseUptoSaid : Prop := ticksRiseUptoRow.holds Try.pinned (OpenSpec.upto ticksRiseSpec)

/-- 'hourglasslaw18.BackoffRises', WHERE WHAT IT READS IS OF BULK AT MOST 1048576: true; the input reads as it did. -/
def backoffRisesUptoRow : OpenClaim := { program := "ytfaoeafmgigpcaa", sum := "f80f06672fd4a4755ae7518776ea5e64b5bbc0f72758571c96a5820f1bc0ed52", func := "hourglass/hourglasslaw18.BackoffRises", spec := "backoffRises", apart := false, narrowed := true }
def BackoffRisesUptoSaid : Prop := backoffRisesUptoRow.holds Try.pinned (OpenSpec.upto backoffRisesSpec)

/-- 'hourglasslaw18.BackoffTells', WHERE WHAT IT READS IS OF BULK AT MOST 1048576: true; the input reads as it did. -/
def backoffTellsUptoRow : OpenClaim := { program := "ytfaoeafmgigpcaa", sum := "f80f06672fd4a4755ae7518776ea5e64b5bbc0f72758571c96a5820f1bc0ed52", func := "hourglass/hourglasslaw18.BackoffTells", spec := "backoffTells", apart := false, narrowed := true }
def BackoffTellsUptoSaid : Prop := backoffTellsUptoRow.holds Try.pinned (OpenSpec.upto backoffTellsSpec)

/-- 'hourglasslaw18.BackoffBounds', WHERE WHAT IT READS IS OF BULK AT MOST 1048576: true; the input reads as it did. -/
def backoffBoundsUptoRow : OpenClaim := { program := "ytfaoeafmgigpcaa", sum := "f80f06672fd4a4755ae7518776ea5e64b5bbc0f72758571c96a5820f1bc0ed52", func := "hourglass/hourglasslaw18.BackoffBounds", spec := "backoffBounds", apart := false, narrowed := true }
def BackoffBoundsUptoSaid : Prop := backoffBoundsUptoRow.holds Try.pinned (OpenSpec.upto backoffBoundsSpec)

/-- 'hourglasslaw05.CodeJoins', WHERE WHAT IT READS IS OF BULK AT MOST 1048576: true; the input reads as it did. -/
def codeJoinsUptoRow : OpenClaim := { program := "ytfaoeafmgigpcaa", sum := "f80f06672fd4a4755ae7518776ea5e64b5bbc0f72758571c96a5820f1bc0ed52", func := "hourglass/hourglasslaw05.CodeJoins", spec := "codeJoins", apart := false, narrowed := true }
def CodeJoinsUptoSaid : Prop := codeJoinsUptoRow.holds Try.pinned (OpenSpec.upto codeJoinsSpec)

/-- 'hourglasslaw05.CodeNames', WHERE WHAT IT READS IS OF BULK AT MOST 1048576: true; the input reads as it did. -/
def codeNamesUptoRow : OpenClaim := { program := "ytfaoeafmgigpcaa", sum := "f80f06672fd4a4755ae7518776ea5e64b5bbc0f72758571c96a5820f1bc0ed52", func := "hourglass/hourglasslaw05.CodeNames", spec := "codeNames", apart := false, narrowed := true }
def CodeNamesUptoSaid : Prop := codeNamesUptoRow.holds Try.pinned (OpenSpec.upto codeNamesSpec)

/-- 'hourglasslaw05.CodeTells', WHERE WHAT IT READS IS OF BULK AT MOST 1048576: true; the input reads as it did. -/
def codeTellsUptoRow : OpenClaim := { program := "ytfaoeafmgigpcaa", sum := "f80f06672fd4a4755ae7518776ea5e64b5bbc0f72758571c96a5820f1bc0ed52", func := "hourglass/hourglasslaw05.CodeTells", spec := "codeTells", apart := false, narrowed := true }
def CodeTellsUptoSaid : Prop := codeTellsUptoRow.holds Try.pinned (OpenSpec.upto codeTellsSpec)

/-- 'hourglasslaw20.PolicyAgain', WHERE WHAT IT READS IS OF BULK AT MOST 1048576: true; the input reads as it did. -/
def policyAgainUptoRow : OpenClaim := { program := "ytfaoeafmgigpcaa", sum := "f80f06672fd4a4755ae7518776ea5e64b5bbc0f72758571c96a5820f1bc0ed52", func := "hourglass/hourglasslaw20.PolicyAgain", spec := "policyAgain", apart := false, narrowed := true }
def PolicyAgainUptoSaid : Prop := policyAgainUptoRow.holds Try.pinned (OpenSpec.upto policyAgainSpec)

/-- 'hourglasslaw20.PolicyLess', WHERE WHAT IT READS IS OF BULK AT MOST 1048576: true; the input reads as it did. -/
def policyLessUptoRow : OpenClaim := { program := "ytfaoeafmgigpcaa", sum := "f80f06672fd4a4755ae7518776ea5e64b5bbc0f72758571c96a5820f1bc0ed52", func := "hourglass/hourglasslaw20.PolicyLess", spec := "policyLess", apart := false, narrowed := true }
def PolicyLessUptoSaid : Prop := policyLessUptoRow.holds Try.pinned (OpenSpec.upto policyLessSpec)

/-- 'hourglasslaw20.PolicyDecides', WHERE WHAT IT READS IS OF BULK AT MOST 1048576: true; the input reads as it did. -/
def policyDecidesUptoRow : OpenClaim := { program := "ytfaoeafmgigpcaa", sum := "f80f06672fd4a4755ae7518776ea5e64b5bbc0f72758571c96a5820f1bc0ed52", func := "hourglass/hourglasslaw20.PolicyDecides", spec := "policyDecides", apart := false, narrowed := true }
def PolicyDecidesUptoSaid : Prop := policyDecidesUptoRow.holds Try.pinned (OpenSpec.upto policyDecidesSpec)

/-- 'hourglasslaw20.PolicyGrows', WHERE WHAT IT READS IS OF BULK AT MOST 1048576: true; the input reads as it did. -/
def policyGrowsUptoRow : OpenClaim := { program := "ytfaoeafmgigpcaa", sum := "f80f06672fd4a4755ae7518776ea5e64b5bbc0f72758571c96a5820f1bc0ed52", func := "hourglass/hourglasslaw20.PolicyGrows", spec := "policyGrows", apart := false, narrowed := true }
def PolicyGrowsUptoSaid : Prop := policyGrowsUptoRow.holds Try.pinned (OpenSpec.upto policyGrowsSpec)

end Rows
end Go.Proofs.Ytfaoeafmgigpcaa
