
/- Packets as plain data. No condition. -/
import Derived.Test.YtfpincfmcjiokaaSp2
namespace Go.Proofs.Ytfpincfmcjiokaa.Sp
open Go Go.Proofs.Ytfpincfmcjiokaa.Av
set_option linter.unusedVariables false

structure Packet where
  kind : Int
  «from» : Int
  to : Int
  key : Key
  hop : Int
  stamp : Int
  timeout : ByteArray
  «until» : Int
  program : Int
  root : Id
  parent : Key
  code : Int
  value : Int
  more : Bool
  delay : Int
deriving DecidableEq
def Packet.g (p : Packet) : List G := [.int .i64 p.kind, .int .i64 p.from, .int .i64 p.to, .int .i64 p.key.id.node, .int .i64 p.key.id.inc, .int .i64 p.key.id.seq, .int .i64 p.key.att, .int .i64 p.hop, .int .i64 p.stamp, .str p.timeout, .int .i64 p.until, .int .i64 p.program,
  .int .i64 p.root.node, .int .i64 p.root.inc, .int .i64 p.root.seq, .int .i64 p.parent.id.node, .int .i64 p.parent.id.inc, .int .i64 p.parent.id.seq, .int .i64 p.parent.att, .int .i64 p.code, .int .i64 p.value, .bool p.more, .int .i64 p.delay]
def zP : Packet := ⟨0, 0, 0, ⟨⟨0, 0, 0⟩, 0⟩, 0, 0, ⟨#[]⟩, 0, 0, ⟨0, 0, 0⟩, ⟨⟨0, 0, 0⟩, 0⟩, 0, 0, false, 0⟩
end Go.Proofs.Ytfpincfmcjiokaa.Sp
