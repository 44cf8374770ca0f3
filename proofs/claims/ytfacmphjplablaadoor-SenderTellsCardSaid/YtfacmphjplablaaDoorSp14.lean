
/- What a sender answers. No condition. -/
import Derived.Test.YtfacmphjplablaaDoorSp13
import Derived.Test.YtfacmphjplablaaDoorSp5
import Derived.Test.YtfacmphjplablaaDoorSp6
namespace Go.Proofs.YtfacmphjplablaaDoor.Sp
open Go Go.Proofs.YtfacmphjplablaaDoor.Av

structure Packet where
  kind : Int
  «from» : Int
  to : Int
  key : Key
  hop : Int
  stamp : Int
  timeout : ByteArray
  «until» : Int
  program : Int
  root : Id
  parent : Key
  code : Int
  value : Int
  more : Bool
  delay : Int
def Packet.g (p : Packet) : List G := [.int .i64 p.kind, .int .i64 p.from, .int .i64 p.to, .int .i64 p.key.id.node, .int .i64 p.key.id.inc, .int .i64 p.key.id.seq, .int .i64 p.key.att, .int .i64 p.hop, .int .i64 p.stamp, .str p.timeout, .int .i64 p.until, .int .i64 p.program,
  .int .i64 p.root.node, .int .i64 p.root.inc, .int .i64 p.root.seq, .int .i64 p.parent.id.node, .int .i64 p.parent.id.inc, .int .i64 p.parent.id.seq, .int .i64 p.parent.att, .int .i64 p.code, .int .i64 p.value, .bool p.more, .int .i64 p.delay]
def zP : Packet := ⟨0, 0, 0, ⟨⟨0, 0, 0⟩, 0⟩, 0, 0, ⟨#[]⟩, 0, 0, ⟨0, 0, 0⟩, ⟨⟨0, 0, 0⟩, 0⟩, 0, 0, false, 0⟩
def callP (me : Int) (o : Owner) (x b : Call) (n u : Int) (e : ByteArray) : Packet :=
  ⟨1, me, x.to, ⟨b.id, b.att⟩, IntKind.i64.wrap (o.hop + 1), n, e, u, x.program, o.root, o.key, 0, 0, false, 0⟩
def sendF (c : Config) (me : Int) (o : Owner) (x : Call) (now : Int) : Call × Packet :=
  if cBegin x now = x then (x, zP) else if o.hop ≥ c.hops then (cEnds x 8, zP) else if enough o.deadline now c.least = false then (cEnds x 4, zP)
  else (cBegin x now, callP me o x (cBegin x now) (clamp now) (clamp o.until) (enc (sub o.deadline now)))
def tBad (h t : Int) : Int := if tClean h t < 1000 then 0 else tClean h t - 1000
def x32 (m n : Int) : Int := IntKind.u32.wrap (BitVec.ofInt IntKind.u32.bits m ^^^ BitVec.ofInt IntKind.u32.bits n).toNat
def m32 (m n : Int) : Int := IntKind.u32.wrap (IntKind.u32.wrap m * n)
def jh (a b c : Int) : Int := x32 (x32 (m32 a 2654435761) (m32 b 40503)) (m32 c 2246822519)
def jitter (a b c : Int) : Int := IntKind.i64.wrap (((x32 (jh a b c) (jh a b c / 32768)).tmod 1001))
def factsF (c : Config) (me : Int) (o : Owner) (x : Call) (now have' n push : Int) : Facts := ⟨n, 0, false, push, tBad have' c.tokens, now, o.deadline, jitter me x.id.seq x.att⟩
def failF (c : Config) (me : Int) (o : Owner) (x : Call) (now have' n push : Int) : Call × Int :=
  if x.state = 1 then ((cBad x c (factsF c me o x now have' n push)).1, tBad have' c.tokens) else (x, have')
def settle (o : Owner) (now : Int) : Int × Int × Bool :=
  if o.key.att ≠ 0 ∨ o.calls.length = 0 ∨ openN o.calls ≠ 0 then (0, 0, false)
  else if worst o.calls = 0 then (0, sum o.calls 0, true)
  else if worst o.calls = 4 then (if clamp now < clamp o.deadline then (0, 0, false) else (4, 0, true))
  else if worst o.calls = 1 then (13, 0, true) else (worst o.calls, 0, true)
def waitP (kind me u : Int) (c : Call) : Packet := { zP with kind := kind, «from» := me, to := c.to, key := ⟨c.id, c.att⟩, «until» := u }
def waitL (kind me u : Int) (l : List Call) : List Packet := (l.filter (fun c => c.state == 1)).map (waitP kind me u)
theorem waitL_snoc (kind me u : Int) (l : List Call) (k : Nat) (hk : k < l.length) : waitL kind me u (l.take (k + 1)) = if l[k].state = 1 then waitL kind me u (l.take k) ++ [waitP kind me u l[k]] else waitL kind me u (l.take k) := by
  unfold waitL
  rw [take_at hk, List.filter_append, List.map_append]
  by_cases h : l[k].state = 1
  · rw [if_pos h]; simp [List.filter, h]
  · have hb : (l[k].state == 1) = false := beq_eq_false_iff_ne.2 h
    rw [if_neg h]; simp [List.filter, hb]
theorem waitL_len (kind me u : Int) (l : List Call) : (waitL kind me u l).length ≤ l.length := by
  unfold waitL; rw [List.length_map]; exact List.length_filter_le _ _
end Go.Proofs.YtfacmphjplablaaDoor.Sp
