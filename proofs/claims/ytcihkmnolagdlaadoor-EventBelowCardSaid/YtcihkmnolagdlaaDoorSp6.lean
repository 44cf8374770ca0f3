
/- Owners that are changed: what the functions answer. No condition. -/
import Derived.Test.YtcihkmnolagdlaaDoorSp2
namespace Go.Proofs.YtcihkmnolagdlaaDoor.Sp
open Go Go.Proofs.YtcihkmnolagdlaaDoor.Av
set_option linter.unusedVariables false

/-- An owner's cells, with another last one. -/
def Owner.gw (o : Owner) (x : G) : List G := [.int .i64 o.key.id.node, .int .i64 o.key.id.inc, .int .i64 o.key.id.seq, .int .i64 o.key.att, .int .i64 o.root.node, .int .i64 o.root.inc, .int .i64 o.root.seq,
  .int .i64 o.parent.id.node, .int .i64 o.parent.id.inc, .int .i64 o.parent.id.seq, .int .i64 o.parent.att, .int .i64 o.from, .int .i64 o.hop, .int .i64 o.deadline, .int .i64 o.until, .int .i64 o.program, .int .i64 o.pc, .int .i64 o.done, x]
def zOwner : Owner := ⟨⟨⟨0, 0, 0⟩, 0⟩, ⟨0, 0, 0⟩, ⟨⟨0, 0, 0⟩, 0⟩, 0, 0, 0, 0, 0, 0, 0, []⟩
/-- An own row of n elements, as a loop's head tells it. -/
def OwnI {α : Type} (R : α → List G) (l : List α) (k : Nat) (b : Nat × List (List G)) : Prop := b.1 = k ∧ b.2 = (l.take k).map R
theorem take_at {α : Type} {l : List α} {k : Nat} (hk : k < l.length) : l.take (k + 1) = l.take k ++ [l[k]] := List.take_succ_eq_append_getElem hk
/-! Equality by parts. -/
theorem id_eqB (c d : Id) : (c.node == d.node && (c.inc == d.inc && (c.seq == d.seq && true))) = decide (c = d) := by
  obtain ⟨a, b, e⟩ := c; obtain ⟨a', b', e'⟩ := d
  rw [Bool.eq_iff_iff]; simp
theorem key_eqB (c d : Key) : ((c.id.node == d.id.node && (c.id.inc == d.id.inc && (c.id.seq == d.id.seq && true))) && (c.att == d.att && true)) = decide (c = d) := by
  obtain ⟨⟨a, b, e⟩, f⟩ := c; obtain ⟨⟨a', b', e'⟩, f'⟩ := d
  rw [Bool.eq_iff_iff]; simp [and_assoc]
theorem key_eqC (c d : Key) : (decide (c.id = d.id) && (c.att == d.att && true)) = decide (c = d) := by rw [← id_eqB]; exact key_eqB c d
theorem call_eqB (c d : Call) : ((c.id.node == d.id.node && (c.id.inc == d.id.inc && (c.id.seq == d.id.seq && true))) && (c.to == d.to && (c.program == d.program && (c.att == d.att && (c.state == d.state && (c.sent == d.sent && (c.ready == d.ready && (c.committed == d.committed && (c.code == d.code && (c.value == d.value && (c.tries == d.tries && true))))))))))) = decide (c = d) := by
  obtain ⟨⟨a, b, e⟩, _, _, _, _, _, _, _, _, _, _⟩ := c; obtain ⟨⟨a', b', e'⟩, _, _, _, _, _, _, _, _, _, _⟩ := d
  rw [Bool.eq_iff_iff]; simp [and_assoc]
/-- The parts beside the calls. -/
def sameH (a b : Owner) : Prop := a.key = b.key ∧ a.root = b.root ∧ a.parent = b.parent ∧ a.from = b.from ∧ a.hop = b.hop ∧ a.deadline = b.deadline ∧ a.until = b.until ∧ a.program = b.program ∧ a.pc = b.pc ∧ a.done = b.done
theorem owner_ext (a b : Owner) : a = b ↔ sameH a b ∧ a.calls = b.calls := by
  obtain ⟨_, _, _, _, _, _, _, _, _, _, _⟩ := a; obtain ⟨_, _, _, _, _, _, _, _, _, _, _⟩ := b
  simp [sameH, and_assoc]
theorem take_eq_all {α : Type} {l m : List α} (h : l.length = m.length) (e : l.take l.length = m.take l.length) : l = m := by
  rw [List.take_length] at e; rw [h, List.take_length] at e; exact e
/-- What is put: in the place of the one of its name, or last. -/
def withC (l : List Call) (c : Call) : List Call := match l.findIdx? (fun x => x.id == c.id) with | some i => l.set i c | none => l ++ [c]
def withO (o : Owner) (c : Call) : Owner := { o with calls := withC o.calls c }
end Go.Proofs.YtcihkmnolagdlaaDoor.Sp
