/-
  No cell of these rows narrows 'for every input' (looked for: loops, veiled, ifaces, maps, wideKeys, modest, calm, conditions, laid).
  DERIVED. THE GIVEN ROWS OF THIS SEAT. 11 by the template 'for every input the law returns true; each argument reads behind the call as it read before'; 0 by the template 'total and deterministic' (their statements: YtijohhdgecadnaaTotals.lean).
  GIVEN WITH THE SEED: the statements are not yours to turn. If you find one false, say at which input.
  Laid BY PROGRAM, IN A SANDBOX (cutbox-rows.mjs): the forced cells as the released guide's own fill.sh prints them over the translation 4c6e9c8bb87d10d5… (all of the seat's roots in one cut). By AI agents, Wed Nov 11 2026. No macro, syntax, notation, axiom, sorry.
-/
import Derived.Test.YtijohhdgecadnaaChecked
import GoSem.Claim
import GoSem.ClaimJoined
import GoSem.ClaimMapViews
import Derived.JoinedTies
import Derived.KernelRfl
namespace Go.Proofs.Ytijohhdgecadnaa
/- THE CELL 'sum', in the pinned program and in every row, IS THE sha256 OF THE DUMP (.gsa) THAT YtijohhdgecadnaaProg.lean LOADS. Nothing in Lean hashes anything: it is a label: what it is worth is what the hold of that sum in a sandbox is worth. -/
noncomputable def Try.pinned : Pinned := { name := "ytijohhdgecadnaa", sum := "4c6e9c8bb87d10d5a43d6462ad2adef045c7f3df9bba0b5ff88479a91b460e0c", checked := Try.checked }
namespace Rows
def none {H : Type} : Left H := { results := [], args := [] }

/-- 'hourglasslaw04.BytesTell': WHATEVER THE INPUT: true; the input reads as it did. -/
def bytesTellSpec : ChangeSpec := { name := "bytesTell", fn := fun _ => fun
  | [d1, d2, d3, d4] => { results := [.lit (.bool true)], args := [d1, d2, d3, d4] }
  | _ => none }
def bytesTellRow : OpenClaim := { program := "ytijohhdgecadnaa", sum := "4c6e9c8bb87d10d5a43d6462ad2adef045c7f3df9bba0b5ff88479a91b460e0c", func := "hourglass/hourglasslaw04.BytesTell", spec := "bytesTell", apart := false }
def BytesTellSaid : Prop := bytesTellRow.holds Try.pinned (OpenSpec.ofChange bytesTellSpec)

/-- ITS FALSE NEIGHBOUR: 'it returns false'. Refute it at one input. -/
def bytesTellWrong : ChangeSpec := { name := "bytesTell", fn := fun _ => fun
  | [d1, d2, d3, d4] => { results := [.lit (.bool false)], args := [d1, d2, d3, d4] }
  | _ => none }
def BytesTellWrongFalsely : Prop := bytesTellRow.holds Try.pinned (OpenSpec.ofChange bytesTellWrong)

/-- 'hourglasslaw04.BytesRead': WHATEVER THE INPUT: true; the input reads as it did. -/
def bytesReadSpec : ChangeSpec := { name := "bytesRead", fn := fun _ => fun
  | [d1, d2] => { results := [.lit (.bool true)], args := [d1, d2] }
  | _ => none }
def bytesReadRow : OpenClaim := { program := "ytijohhdgecadnaa", sum := "4c6e9c8bb87d10d5a43d6462ad2adef045c7f3df9bba0b5ff88479a91b460e0c", func := "hourglass/hourglasslaw04.BytesRead", spec := "bytesRead", apart := false }
def BytesReadSaid : Prop := bytesReadRow.holds Try.pinned (OpenSpec.ofChange bytesReadSpec)

/-- ITS FALSE NEIGHBOUR: 'it returns false'. Refute it at one input. -/
def bytesReadWrong : ChangeSpec := { name := "bytesRead", fn := fun _ => fun
  | [d1, d2] => { results := [.lit (.bool false)], args := [d1, d2] }
  | _ => none }
def BytesReadWrongFalsely : Prop := bytesReadRow.holds Try.pinned (OpenSpec.ofChange bytesReadWrong)

/-- 'hourglasslaw04.BytesBack': WHATEVER THE INPUT: true; the input reads as it did. -/
def bytesBackSpec : ChangeSpec := { name := "bytesBack", fn := fun _ => fun
  | [d1, d2, d3, d4, d5] => { results := [.lit (.bool true)], args := [d1, d2, d3, d4, d5] }
  | _ => none }
def bytesBackRow : OpenClaim := { program := "ytijohhdgecadnaa", sum := "4c6e9c8bb87d10d5a43d6462ad2adef045c7f3df9bba0b5ff88479a91b460e0c", func := "hourglass/hourglasslaw04.BytesBack", spec := "bytesBack", apart := false }
def BytesBackSaid : Prop := bytesBackRow.holds Try.pinned (OpenSpec.ofChange bytesBackSpec)

/-- ITS FALSE NEIGHBOUR: 'it returns false'. Refute it at one input. -/
def bytesBackWrong : ChangeSpec := { name := "bytesBack", fn := fun _ => fun
  | [d1, d2, d3, d4, d5] => { results := [.lit (.bool false)], args := [d1, d2, d3, d4, d5] }
  | _ => none }
def BytesBackWrongFalsely : Prop := bytesBackRow.holds Try.pinned (OpenSpec.ofChange bytesBackWrong)

/-- 'hourglasslaw04.BytesOnce': WHATEVER THE INPUT: true; the input reads as it did. -/
def bytesOnceSpec : ChangeSpec := { name := "bytesOnce", fn := fun _ => fun
  | [d1, d2] => { results := [.lit (.bool true)], args := [d1, d2] }
  | _ => none }
def bytesOnceRow : OpenClaim := { program := "ytijohhdgecadnaa", sum := "4c6e9c8bb87d10d5a43d6462ad2adef045c7f3df9bba0b5ff88479a91b460e0c", func := "hourglass/hourglasslaw04.BytesOnce", spec := "bytesOnce", apart := false }
def BytesOnceSaid : Prop := bytesOnceRow.holds Try.pinned (OpenSpec.ofChange bytesOnceSpec)

/-- ITS FALSE NEIGHBOUR: 'it returns false'. Refute it at one input. -/
def bytesOnceWrong : ChangeSpec := { name := "bytesOnce", fn := fun _ => fun
  | [d1, d2] => { results := [.lit (.bool false)], args := [d1, d2] }
  | _ => none }
def BytesOnceWrongFalsely : Prop := bytesOnceRow.holds Try.pinned (OpenSpec.ofChange bytesOnceWrong)

/-- 'hourglasslaw38.StreamFeeds': WHATEVER THE INPUT: true; the input reads as it did. -/
def streamFeedsSpec : ChangeSpec := { name := "streamFeeds", fn := fun _ => fun
  | [d] => { results := [.lit (.bool true)], args := [d] }
  | _ => none }
def streamFeedsRow : OpenClaim := { program := "ytijohhdgecadnaa", sum := "4c6e9c8bb87d10d5a43d6462ad2adef045c7f3df9bba0b5ff88479a91b460e0c", func := "hourglass/hourglasslaw38.StreamFeeds", spec := "streamFeeds", apart := false }
def StreamFeedsSaid : Prop := streamFeedsRow.holds Try.pinned (OpenSpec.ofChange streamFeedsSpec)

/-- ITS FALSE NEIGHBOUR: 'it returns false'. Refute it at one input. -/
def streamFeedsWrong : ChangeSpec := { name := "streamFeeds", fn := fun _ => fun
  | [d] => { results := [.lit (.bool false)], args := [d] }
  | _ => none }
def StreamFeedsWrongFalsely : Prop := streamFeedsRow.holds Try.pinned (OpenSpec.ofChange streamFeedsWrong)

/-- 'hourglasslaw38.StreamPieces': WHATEVER THE INPUT: true; the input reads as it did. -/
def streamPiecesSpec : ChangeSpec := { name := "streamPieces", fn := fun _ => fun
  | [d1, d2] => { results := [.lit (.bool true)], args := [d1, d2] }
  | _ => none }
def streamPiecesRow : OpenClaim := { program := "ytijohhdgecadnaa", sum := "4c6e9c8bb87d10d5a43d6462ad2adef045c7f3df9bba0b5ff88479a91b460e0c", func := "hourglass/hourglasslaw38.StreamPieces", spec := "streamPieces", apart := false }
def StreamPiecesSaid : Prop := streamPiecesRow.holds Try.pinned (OpenSpec.ofChange streamPiecesSpec)

/-- ITS FALSE NEIGHBOUR: 'it returns false'. Refute it at one input. -/
def streamPiecesWrong : ChangeSpec := { name := "streamPieces", fn := fun _ => fun
  | [d1, d2] => { results := [.lit (.bool false)], args := [d1, d2] }
  | _ => none }
def StreamPiecesWrongFalsely : Prop := streamPiecesRow.holds Try.pinned (OpenSpec.ofChange streamPiecesWrong)

/-- 'hourglasslaw38.StreamLong': WHATEVER THE INPUT: true; the input reads as it did. -/
def streamLongSpec : ChangeSpec := { name := "streamLong", fn := fun _ => fun
  | [d1, d2] => { results := [.lit (.bool true)], args := [d1, d2] }
  | _ => none }
def streamLongRow : OpenClaim := { program := "ytijohhdgecadnaa", sum := "4c6e9c8bb87d10d5a43d6462ad2adef045c7f3df9bba0b5ff88479a91b460e0c", func := "hourglass/hourglasslaw38.StreamLong", spec := "streamLong", apart := false }
def StreamLongSaid : Prop := streamLongRow.holds Try.pinned (OpenSpec.ofChange streamLongSpec)

/-- ITS FALSE NEIGHBOUR: 'it returns false'. Refute it at one input. -/
def streamLongWrong : ChangeSpec := { name := "streamLong", fn := fun _ => fun
  | [d1, d2] => { results := [.lit (.bool false)], args := [d1, d2] }
  | _ => none }
def StreamLongWrongFalsely : Prop := streamLongRow.holds Try.pinned (OpenSpec.ofChange streamLongWrong)

/-- 'hourglasslaw38.StreamBack': WHATEVER THE INPUT: true; the input reads as it did. -/
def streamBackSpec : ChangeSpec := { name := "streamBack", fn := fun _ => fun
  | [d1, d2] => { results := [.lit (.bool true)], args := [d1, d2] }
  | _ => none }
def streamBackRow : OpenClaim := { program := "ytijohhdgecadnaa", sum := "4c6e9c8bb87d10d5a43d6462ad2adef045c7f3df9bba0b5ff88479a91b460e0c", func := "hourglass/hourglasslaw38.StreamBack", spec := "streamBack", inPlace := ["internal/abi.NoEscape"], apart := false }
def StreamBackSaid : Prop := streamBackRow.holds Try.pinned (OpenSpec.ofChange streamBackSpec)

/-- ITS FALSE NEIGHBOUR: 'it returns false'. Refute it at one input. -/
def streamBackWrong : ChangeSpec := { name := "streamBack", fn := fun _ => fun
  | [d1, d2] => { results := [.lit (.bool false)], args := [d1, d2] }
  | _ => none }
def StreamBackWrongFalsely : Prop := streamBackRow.holds Try.pinned (OpenSpec.ofChange streamBackWrong)

/-- 'hourglasslaw37.HeaderQuotes': WHATEVER THE INPUT: true; the input reads as it did. -/
def headerQuotesSpec : ChangeSpec := { name := "headerQuotes", fn := fun _ => fun
  | [d] => { results := [.lit (.bool true)], args := [d] }
  | _ => none }
def headerQuotesRow : OpenClaim := { program := "ytijohhdgecadnaa", sum := "4c6e9c8bb87d10d5a43d6462ad2adef045c7f3df9bba0b5ff88479a91b460e0c", func := "hourglass/hourglasslaw37.HeaderQuotes", spec := "headerQuotes", inPlace := ["internal/bytealg.IndexByteString", "internal/bytealg.IndexString", "internal/abi.NoEscape"], unfollowed := true, recurses := true, named := ["internal/bytealg.MaxLen"], apart := false }
def HeaderQuotesSaid : Prop := headerQuotesRow.holds Try.pinned (OpenSpec.ofChange headerQuotesSpec)

/-- ITS FALSE NEIGHBOUR: 'it returns false'. Refute it at one input. -/
def headerQuotesWrong : ChangeSpec := { name := "headerQuotes", fn := fun _ => fun
  | [d] => { results := [.lit (.bool false)], args := [d] }
  | _ => none }
def HeaderQuotesWrongFalsely : Prop := headerQuotesRow.holds Try.pinned (OpenSpec.ofChange headerQuotesWrong)

/-- 'hourglasslaw37.HeaderBack': WHATEVER THE INPUT: true; the input reads as it did. -/
def headerBackSpec : ChangeSpec := { name := "headerBack", fn := fun _ => fun
  | [d] => { results := [.lit (.bool true)], args := [d] }
  | _ => none }
def headerBackRow : OpenClaim := { program := "ytijohhdgecadnaa", sum := "4c6e9c8bb87d10d5a43d6462ad2adef045c7f3df9bba0b5ff88479a91b460e0c", func := "hourglass/hourglasslaw37.HeaderBack", spec := "headerBack", inPlace := ["internal/bytealg.IndexByteString", "internal/bytealg.IndexString", "internal/abi.NoEscape"], unfollowed := true, recurses := true, named := ["internal/bytealg.MaxLen"], apart := false }
def HeaderBackSaid : Prop := headerBackRow.holds Try.pinned (OpenSpec.ofChange headerBackSpec)

/-- ITS FALSE NEIGHBOUR: 'it returns false'. Refute it at one input. -/
def headerBackWrong : ChangeSpec := { name := "headerBack", fn := fun _ => fun
  | [d] => { results := [.lit (.bool false)], args := [d] }
  | _ => none }
def HeaderBackWrongFalsely : Prop := headerBackRow.holds Try.pinned (OpenSpec.ofChange headerBackWrong)

/-- 'hourglasslaw37.HeaderParses': WHATEVER THE INPUT: true; the input reads as it did. -/
def headerParsesSpec : ChangeSpec := { name := "headerParses", fn := fun _ => fun
  | [d] => { results := [.lit (.bool true)], args := [d] }
  | _ => none }
def headerParsesRow : OpenClaim := { program := "ytijohhdgecadnaa", sum := "4c6e9c8bb87d10d5a43d6462ad2adef045c7f3df9bba0b5ff88479a91b460e0c", func := "hourglass/hourglasslaw37.HeaderParses", spec := "headerParses", inPlace := ["internal/bytealg.IndexByteString", "internal/bytealg.IndexString", "internal/abi.NoEscape"], unfollowed := true, recurses := true, named := ["internal/bytealg.MaxLen"], apart := false }
def HeaderParsesSaid : Prop := headerParsesRow.holds Try.pinned (OpenSpec.ofChange headerParsesSpec)

/-- ITS FALSE NEIGHBOUR: 'it returns false'. Refute it at one input. -/
def headerParsesWrong : ChangeSpec := { name := "headerParses", fn := fun _ => fun
  | [d] => { results := [.lit (.bool false)], args := [d] }
  | _ => none }
def HeaderParsesWrongFalsely : Prop := headerParsesRow.holds Try.pinned (OpenSpec.ofChange headerParsesWrong)

/- THE SECOND FORM. 'bulk': how many values and letters a reading holds, each counted each time it is reached (what is shared counts as often as it is met; a slice's spare places count too). A statement '..UptoSaid' is the law's where the arguments, and the package variables that the reading takes, are together of bulk at most 1048576: NARROWER than '..Said'. Prove '..Said' where nothing that the law and all that it calls make is longer than what came in: it says more and counts as full. Else prove '..UptoSaid'. A law counts once. -/
mutual
def uptoBulk {H : Type} : DataW H → Nat
  | .lit (.string bytes) => bytes.length + 1
  | .lit _ => 1
  | .nil => 1
  | .ptr d => uptoBulk d + 1
  | .slice elems spare => uptoBulkAll elems + uptoBulkAll spare + 1
  | .agg parts => uptoBulkAll parts + 1
  | .iface _ d => uptoBulk d + 1
  | .map entries => uptoBulkEntries entries + 1
  | .held _ => 1
def uptoBulkAll {H : Type} : List (DataW H) → Nat
  | [] => 0
  | d :: r => uptoBulk d + uptoBulkAll r
def uptoBulkEntries {H : Type} : List (Lit × DataW H) → Nat
  | [] => 0
  | x :: r => uptoBulkEntry x + uptoBulkEntries r
def uptoBulkEntry {H : Type} : Lit × DataW H → Nat
  | (.string bytes, d) => bytes.length + uptoBulk d + 1
  | (_, d) => uptoBulk d + 1
 end
def uptoSmall : (H : Type) → List (DataW H) → Bool := fun _ ds => decide (uptoBulkAll ds ≤ 1048576)
def OpenSpec.upto (s : _root_.Go.ChangeSpec) : _root_.Go.OpenSpec := { _root_.Go.OpenSpec.ofChange s with cond := some uptoSmall }

/-- 'hourglasslaw04.BytesTell', WHERE WHAT IT READS IS OF BULK AT MOST 1048576: true; the input reads as it did. -/
def bytesTellUptoRow : OpenClaim := { program := "ytijohhdgecadnaa", sum := "4c6e9c8bb87d10d5a43d6462ad2adef045c7f3df9bba0b5ff88479a91b460e0c", func := "hourglass/hourglasslaw04.BytesTell", spec := "bytesTell", apart := false, narrowed := true }
def BytesTellUptoSaid : Prop := bytesTellUptoRow.holds Try.pinned (OpenSpec.upto bytesTellSpec)

/-- 'hourglasslaw04.BytesRead', WHERE WHAT IT READS IS OF BULK AT MOST 1048576: true; the input reads as it did. -/
def bytesReadUptoRow : OpenClaim := { program := "ytijohhdgecadnaa", sum := "4c6e9c8bb87d10d5a43d6462ad2adef045c7f3df9bba0b5ff88479a91b460e0c", func := "hourglass/hourglasslaw04.BytesRead", spec := "bytesRead", apart := false, narrowed := true }
def BytesReadUptoSaid : Prop := bytesReadUptoRow.holds Try.pinned (OpenSpec.upto bytesReadSpec)

/-- 'hourglasslaw04.BytesBack', WHERE WHAT IT READS IS OF BULK AT MOST 1048576: true; the input reads as it did. -/
def bytesBackUptoRow : OpenClaim := { program := "ytijohhdgecadnaa", sum := "4c6e9c8bb87d10d5a43d6462ad2adef045c7f3df9bba0b5ff88479a91b460e0c", func := "hourglass/hourglasslaw04.BytesBack", spec := "bytesBack", apart := false, narrowed := true }
def BytesBackUptoSaid : Prop := bytesBackUptoRow.holds Try.pinned (OpenSpec.upto bytesBackSpec)

/-- 'hourglasslaw04.BytesOnce', WHERE WHAT IT READS IS OF BULK AT MOST 1048576: true; the input reads as it did. -/
def bytesOnceUptoRow : OpenClaim := { program := "ytijohhdgecadnaa", sum := "4c6e9c8bb87d10d5a43d6462ad2adef045c7f3df9bba0b5ff88479a91b460e0c", func := "hourglass/hourglasslaw04.BytesOnce", spec := "bytesOnce", apart := false, narrowed := true }
def BytesOnceUptoSaid : Prop := bytesOnceUptoRow.holds Try.pinned (OpenSpec.upto bytesOnceSpec)

/-- 'hourglasslaw38.StreamFeeds', WHERE WHAT IT READS IS OF BULK AT MOST 1048576: true; the input reads as it did. -/
def streamFeedsUptoRow : OpenClaim := { program := "ytijohhdgecadnaa", sum := "4c6e9c8bb87d10d5a43d6462ad2adef045c7f3df9bba0b5ff88479a91b460e0c", func := "hourglass/hourglasslaw38.StreamFeeds", spec := "streamFeeds", apart := false, narrowed := true }
def StreamFeedsUptoSaid : Prop := streamFeedsUptoRow.holds Try.pinned (OpenSpec.upto streamFeedsSpec)

/-- 'hourglasslaw38.StreamPieces', WHERE WHAT IT READS IS OF BULK AT MOST 1048576: true; the input reads as it did. -/
def streamPiecesUptoRow : OpenClaim := { program := "ytijohhdgecadnaa", sum := "4c6e9c8bb87d10d5a43d6462ad2adef045c7f3df9bba0b5ff88479a91b460e0c", func := "hourglass/hourglasslaw38.StreamPieces", spec := "streamPieces", apart := false, narrowed := true }
def StreamPiecesUptoSaid : Prop := streamPiecesUptoRow.holds Try.pinned (OpenSpec.upto streamPiecesSpec)

/-- 'hourglasslaw38.StreamLong', WHERE WHAT IT READS IS OF BULK AT MOST 1048576: true; the input reads as it did. -/
def streamLongUptoRow : OpenClaim := { program := "ytijohhdgecadnaa", sum := "4c6e9c8bb87d10d5a43d6462ad2adef045c7f3df9bba0b5ff88479a91b460e0c", func := "hourglass/hourglasslaw38.StreamLong", spec := "streamLong", apart := false, narrowed := true }
def StreamLongUptoSaid : Prop := streamLongUptoRow.holds Try.pinned (OpenSpec.upto streamLongSpec)

/-- 'hourglasslaw38.StreamBack', WHERE WHAT IT READS IS OF BULK AT MOST 1048576: true; the input reads as it did. -/
def streamBackUptoRow : OpenClaim := { program := "ytijohhdgecadnaa", sum := "4c6e9c8bb87d10d5a43d6462ad2adef045c7f3df9bba0b5ff88479a91b460e0c", func := "hourglass/hourglasslaw38.StreamBack", spec := "streamBack", inPlace := ["internal/abi.NoEscape"], apart := false, narrowed := true }
def StreamBackUptoSaid : Prop := streamBackUptoRow.holds Try.pinned (OpenSpec.upto streamBackSpec)

/-- 'hourglasslaw37.HeaderQuotes', WHERE WHAT IT READS IS OF BULK AT MOST 1048576: true; the input reads as it did. -/
def headerQuotesUptoRow : OpenClaim := { program := "ytijohhdgecadnaa", sum := "4c6e9c8bb87d10d5a43d6462ad2adef045c7f3df9bba0b5ff88479a91b460e0c", func := "hourglass/hourglasslaw37.HeaderQuotes", spec := "headerQuotes", inPlace := ["internal/bytealg.IndexByteString", "internal/bytealg.IndexString", "internal/abi.NoEscape"], unfollowed := true, recurses := true, named := ["internal/bytealg.MaxLen"], apart := false, narrowed := true }
def HeaderQuotesUptoSaid : Prop := headerQuotesUptoRow.holds Try.pinned (OpenSpec.upto headerQuotesSpec)

/-- 'hourglasslaw37.HeaderBack', WHERE WHAT IT READS IS OF BULK AT MOST 1048576: true; the input reads as it did. -/
def headerBackUptoRow : OpenClaim := { program := "ytijohhdgecadnaa", sum := "4c6e9c8bb87d10d5a43d6462ad2adef045c7f3df9bba0b5ff88479a91b460e0c", func := "hourglass/hourglasslaw37.HeaderBack", spec := "headerBack", inPlace := ["internal/bytealg.IndexByteString", "internal/bytealg.IndexString", "internal/abi.NoEscape"], unfollowed := true, recurses := true, named := ["internal/bytealg.MaxLen"], apart := false, narrowed := true }
def HeaderBackUptoSaid : Prop := headerBackUptoRow.holds Try.pinned (OpenSpec.upto headerBackSpec)

/-- 'hourglasslaw37.HeaderParses', WHERE WHAT IT READS IS OF BULK AT MOST 1048576: true; the input reads as it did. -/
def headerParsesUptoRow : OpenClaim := { program := "ytijohhdgecadnaa", sum := "4c6e9c8bb87d10d5a43d6462ad2adef045c7f3df9bba0b5ff88479a91b460e0c", func := "hourglass/hourglasslaw37.HeaderParses", spec := "headerParses", inPlace := ["internal/bytealg.IndexByteString", "internal/bytealg.IndexString", "internal/abi.NoEscape"], unfollowed := true, recurses := true, named := ["internal/bytealg.MaxLen"], apart := false, narrowed := true }
def HeaderParsesUptoSaid : Prop := headerParsesUptoRow.holds Try.pinned (OpenSpec.upto headerParsesSpec)

end Rows
end Go.Proofs.Ytijohhdgecadnaa
