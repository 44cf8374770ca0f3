/-
  No cell of these rows narrows 'for every input' (looked for: loops, veiled, ifaces, maps, wideKeys, modest, calm, conditions, laid).
  DERIVED. THE GIVEN ROWS OF THIS SEAT. 3 by the template 'for every input the law returns true; each argument reads behind the call as it read before'; 0 by the template 'total and deterministic' (their statements: YtfpincfmcjiokaaTotals.lean).
  GIVEN WITH THE SEED: the statements are not yours to turn. If you find one false, say at which input.
  Laid BY PROGRAM, IN A SANDBOX (cutbox-rows.mjs): the forced cells as the released guide's own fill.sh prints them over the translation 0d8d25adace90b75… (all of the seat's roots in one cut). By AI agents, Wed Nov 11 2026. No macro, syntax, notation, axiom, sorry.
-/
import Derived.Test.YtfpincfmcjiokaaChecked
import GoSem.Claim
import GoSem.ClaimJoined
import GoSem.ClaimMapViews
import Derived.JoinedTies
import Derived.KernelRfl
namespace Go.Proofs.Ytfpincfmcjiokaa
/- THE CELL 'sum', in the pinned program and in every row, IS THE sha256 OF THE DUMP (.gsa) THAT YtfpincfmcjiokaaProg.lean LOADS. Nothing in Lean hashes anything: it is a label: what it is worth is what the hold of that sum in a sandbox is worth. -/
noncomputable def Try.pinned : Pinned := { name := "ytfpincfmcjiokaa", sum := "0d8d25adace90b753202c36769236bd5b8bd320cf88b23683c4b0159f5cbaa9b", checked := Try.checked }
namespace Rows
def none {H : Type} : Left H := { results := [], args := [] }

/-- 'hourglasslaw08.PacketTells': WHATEVER THE INPUT: true; the input reads as it did. -/
def packetTellsSpec : ChangeSpec := { name := "packetTells", fn := fun _ => fun
  | [d] => { results := [.lit (.bool true)], args := [d] }
  | _ => none }
def packetTellsRow : OpenClaim := { program := "ytfpincfmcjiokaa", sum := "0d8d25adace90b753202c36769236bd5b8bd320cf88b23683c4b0159f5cbaa9b", func := "hourglass/hourglasslaw08.PacketTells", spec := "packetTells", unfollowed := true, recurses := true, apart := false }
def PacketTellsSaid : Prop := packetTellsRow.holds Try.pinned (OpenSpec.ofChange packetTellsSpec)

/-- ITS FALSE NEIGHBOUR: 'it returns false'. Refute it at one input. -/
def packetTellsWrong : ChangeSpec := { name := "packetTells", fn := fun _ => fun
  | [d] => { results := [.lit (.bool false)], args := [d] }
  | _ => none }
def PacketTellsWrongFalsely : Prop := packetTellsRow.holds Try.pinned (OpenSpec.ofChange packetTellsWrong)

/-- 'hourglasslaw08.PacketOnce': WHATEVER THE INPUT: true; the input reads as it did. -/
def packetOnceSpec : ChangeSpec := { name := "packetOnce", fn := fun _ => fun
  | [d] => { results := [.lit (.bool true)], args := [d] }
  | _ => none }
def packetOnceRow : OpenClaim := { program := "ytfpincfmcjiokaa", sum := "0d8d25adace90b753202c36769236bd5b8bd320cf88b23683c4b0159f5cbaa9b", func := "hourglass/hourglasslaw08.PacketOnce", spec := "packetOnce", unfollowed := true, recurses := true, apart := false }
def PacketOnceSaid : Prop := packetOnceRow.holds Try.pinned (OpenSpec.ofChange packetOnceSpec)

/-- ITS FALSE NEIGHBOUR: 'it returns false'. Refute it at one input. -/
def packetOnceWrong : ChangeSpec := { name := "packetOnce", fn := fun _ => fun
  | [d] => { results := [.lit (.bool false)], args := [d] }
  | _ => none }
def PacketOnceWrongFalsely : Prop := packetOnceRow.holds Try.pinned (OpenSpec.ofChange packetOnceWrong)

/-- 'hourglasslaw08.PacketFinds': WHATEVER THE INPUT: true; the input reads as it did. -/
def packetFindsSpec : ChangeSpec := { name := "packetFinds", fn := fun _ => fun
  | [d1, d2, d3] => { results := [.lit (.bool true)], args := [d1, d2, d3] }
  | _ => none }
def packetFindsRow : OpenClaim := { program := "ytfpincfmcjiokaa", sum := "0d8d25adace90b753202c36769236bd5b8bd320cf88b23683c4b0159f5cbaa9b", func := "hourglass/hourglasslaw08.PacketFinds", spec := "packetFinds", unfollowed := true, recurses := true, apart := false }
def PacketFindsSaid : Prop := packetFindsRow.holds Try.pinned (OpenSpec.ofChange packetFindsSpec)

/-- ITS FALSE NEIGHBOUR: 'it returns false'. Refute it at one input. -/
def packetFindsWrong : ChangeSpec := { name := "packetFinds", fn := fun _ => fun
  | [d1, d2, d3] => { results := [.lit (.bool false)], args := [d1, d2, d3] }
  | _ => none }
def PacketFindsWrongFalsely : Prop := packetFindsRow.holds Try.pinned (OpenSpec.ofChange packetFindsWrong)

/- THE SECOND FORM. 'bulk': how many values and letters a reading holds, each counted each time it is reached (what is shared counts as often as it is met; a slice's spare places count too). A statement '..UptoSaid' is the law's where the arguments, and the package variables that the reading takes, are together of bulk at most 1048576: NARROWER than '..Said'. Prove '..Said' where nothing that the law and all that it calls make is longer than what came in: it says more and counts as full. Else prove '..UptoSaid'. A law counts once. -/
mutual
def uptoBulk {H : Type} : DataW H → Nat
  | .lit (.string bytes) => bytes.length + 1
  | .lit _ => 1
  | .nil => 1
  | .ptr d => uptoBulk d + 1
  | .slice elems spare => uptoBulkAll elems + uptoBulkAll spare + 1
  | .agg parts => uptoBulkAll parts + 1
  | .iface _ d => uptoBulk d + 1
  | .map entries => uptoBulkEntries entries + 1
  | .held _ => 1
def uptoBulkAll {H : Type} : List (DataW H) → Nat
  | [] => 0
  | d :: r => uptoBulk d + uptoBulkAll r
def uptoBulkEntries {H : Type} : List (Lit × DataW H) → Nat
  | [] => 0
  | x :: r => uptoBulkEntry x + uptoBulkEntries r
def uptoBulkEntry {H : Type} : Lit × DataW H → Nat
  | (.string bytes, d) => bytes.length + uptoBulk d + 1
  | (_, d) => uptoBulk d + 1
 end
def uptoSmall : (H : Type) → List (DataW H) → Bool := fun _ ds => decide (uptoBulkAll ds ≤ 1048576)
def OpenSpec.upto (s : _root_.Go.ChangeSpec) : _root_.Go.OpenSpec := { _root_.Go.OpenSpec.ofChange s with cond := some uptoSmall }

/-- 'hourglasslaw08.PacketTells', WHERE WHAT IT READS IS OF BULK AT MOST 1048576: true; the input reads as it did. -/
def packetTellsUptoRow : OpenClaim := { program := "ytfpincfmcjiokaa", sum := "0d8d25adace90b753202c36769236bd5b8bd320cf88b23683c4b0159f5cbaa9b", func := "hourglass/hourglasslaw08.PacketTells", spec := "packetTells", unfollowed := true, recurses := true, apart := false, narrowed := true }
def PacketTellsUptoSaid : Prop := packetTellsUptoRow.holds Try.pinned (OpenSpec.upto packetTellsSpec)

/-- 'hourglasslaw08.PacketOnce', WHERE WHAT IT READS IS OF BULK AT MOST 1048576: true; the input reads as it did. -/
def packetOnceUptoRow : OpenClaim := { program := "ytfpincfmcjiokaa", sum := "0d8d25adace90b753202c36769236bd5b8bd320cf88b23683c4b0159f5cbaa9b", func := "hourglass/hourglasslaw08.PacketOnce", spec := "packetOnce", unfollowed := true, recurses := true, apart := false, narrowed := true }
def PacketOnceUptoSaid : Prop := packetOnceUptoRow.holds Try.pinned (OpenSpec.upto packetOnceSpec)

/-- 'hourglasslaw08.PacketFinds', WHERE WHAT IT READS IS OF BULK AT MOST 1048576: true; the input reads as it did. -/
def packetFindsUptoRow : OpenClaim := { program := "ytfpincfmcjiokaa", sum := "0d8d25adace90b753202c36769236bd5b8bd320cf88b23683c4b0159f5cbaa9b", func := "hourglass/hourglasslaw08.PacketFinds", spec := "packetFinds", unfollowed := true, recurses := true, apart := false, narrowed := true }
def PacketFindsUptoSaid : Prop := packetFindsUptoRow.holds Try.pinned (OpenSpec.upto packetFindsSpec)

end Rows
end Go.Proofs.Ytfpincfmcjiokaa
