
/- Calls, and whether one tries again: what the functions answer. No condition. -/
import Derived.Test.YtfacmphjplablaaDoorSp4
namespace Go.Proofs.YtfacmphjplablaaDoor.Sp
open Go Go.Proofs.YtfacmphjplablaaDoor.Av
set_option linter.unusedVariables false

def dbl (b : Int) : Nat → Int
  | 0 => b
  | k + 1 => add (dbl b k) (dbl b k)
def attI (a : Int) : Int := if 64 < (if 1 > a then 1 else a) - 1 then 64 else (if 1 > a then 1 else a) - 1
theorem attI_bd (a : Int) : 0 ≤ attI a ∧ attI a ≤ 64 := by unfold attI; (repeat' split) <;> omega
theorem dbl_bd {b : Int} (h : 0 ≤ b ∧ b ≤ 1125899906842624) : ∀ k, 0 ≤ dbl b k ∧ dbl b k ≤ 1125899906842624
  | 0 => h
  | k + 1 => add_bd _ _
theorem dbl_le {b : Int} (h : 0 ≤ b ∧ b ≤ 1125899906842624) (k : Nat) : ∀ j, dbl b k ≤ dbl b (k + j)
  | 0 => Int.le_refl _
  | j + 1 => by
    have h1 := dbl_le h k j
    have h2 := dbl_bd h (k + j)
    show _ ≤ add (dbl b (k + j)) (dbl b (k + j))
    unfold add
    rw [clamp_id h2]
    unfold clamp
    (repeat' split) <;> omega
def stepB (b m a : Int) : Int := if dbl (clamp b) (attI a).toNat > clamp m then clamp m else dbl (clamp b) (attI a).toNat
theorem stepB_bd (b m a : Int) : 0 ≤ stepB b m a ∧ stepB b m a ≤ 1125899906842624 := by
  have h1 := clamp_bd m
  have h2 := dbl_bd (clamp_bd b) (attI a).toNat
  unfold stepB; split <;> omega
def jit (j : Int) : Int := if 1000 < (if 0 > j then 0 else j) then 1000 else (if 0 > j then 0 else j)
theorem jit_bd (j : Int) : 0 ≤ jit j ∧ jit j ≤ 1000 := by unfold jit; (repeat' split) <;> omega
def delay (b m a j : Int) : Int := stepB b m a - stepB b m a / 2 * jit j / 1000
theorem delay_parts (e j : Int) (he : 0 ≤ e) (hj : 0 ≤ j) : e / 1000 * j + e % 1000 * j / 1000 = e * j / 1000 := by
  have h1 := Int.mul_ediv_add_emod e 1000
  have h2 : e * j = e % 1000 * j + 1000 * (e / 1000 * j) := by
    rw [← Int.mul_assoc, ← Int.add_mul]
    congr 1
    omega
  rw [h2, Int.add_mul_ediv_left _ _ (by omega)]; omega
def ready (c : Config) (f : Facts) : Int := if f.push ≥ 0 then add f.now f.push else add f.now (delay c.base c.most f.att f.jitter)
def decideP (c : Config) (f : Facts) : Int × Int :=
  if ¬ (f.code = 14 ∨ f.code = 8) then (1, 0)
  else if f.committed = true then (2, 0)
  else if f.att ≥ c.attempts then (3, 0)
  else if f.push = -1 then (4, 0)
  else if tMay f.have' c.tokens = false then (5, 0)
  else if enough f.deadline (ready c f) c.least = false then (6, 0)
  else (0, ready c f)

def cBegin (c : Call) (now : Int) : Call := if (c.state = 0 ∨ c.state = 2) ∧ c.att < 5 then { c with att := IntKind.i64.wrap (c.att + 1), state := 1, sent := clamp now, ready := 0, tries := IntKind.i64.wrap (c.tries + 1) } else c
def cEnds (c : Call) (n : Int) : Call := if c.state = 3 then c else { c with state := 3, code := clean n, value := 0, ready := 0 }
def cGood (c : Call) (v : Int) : Call := if c.state = 1 then { c with state := 3, code := clean 0, value := value v, ready := 0 } else c
def cTaken (c : Call) : Call := if c.state = 1 then { c with committed := true } else c
def cBad (c : Call) (conf : Config) (f : Facts) : Call × Int :=
  if c.state = 1 then
    if (decideP conf { f with att := c.att, committed := c.committed }).1 = 0 then ({ c with state := 2, ready := (decideP conf { f with att := c.att, committed := c.committed }).2 }, 0)
    else ({ c with state := 3, code := clean f.code, value := 0, ready := 0 }, (decideP conf { f with att := c.att, committed := c.committed }).1)
  else (c, 1)
def cLost (c : Call) (now wait grain : Int) : Bool := c.state == 1 && past now (add c.sent wait) grain
def cRested (c : Call) (now grain : Int) : Bool := c.state == 2 && past now c.ready grain
structure Deed21 where
  kind : Int
  n : Int
  f : Facts
def Deed21.g (d : Deed21) : List G := [.int .i64 d.kind, .int .i64 d.n, .int .i64 d.f.code, .int .i64 d.f.att, .bool d.f.committed, .int .i64 d.f.push, .int .i64 d.f.have', .int .i64 d.f.now, .int .i64 d.f.deadline, .int .i64 d.f.jitter]
def cStep (c : Call) (conf : Config) (d : Deed21) : Call × Int :=
  if d.kind = 0 ∨ d.kind = 1 ∨ d.kind = 2 then (cBegin c d.n, 0)
  else if d.kind = 3 then (cGood c d.n, 0)
  else if d.kind = 4 then (cTaken c, 0)
  else if d.kind = 5 ∨ d.kind = 6 ∨ d.kind = 7 then cBad c conf d.f
  else if d.kind = 8 then (cEnds c d.n, 0)
  else (c, 0)
theorem wrap_le (n : Int) : IntKind.i64.wrap n ≤ 9223372036854775807 := by
  unfold IntKind.wrap IntKind.bits IntKind.signed
  simp only [Bool.true_and]
  split
  · rename_i h; simp at h ⊢; omega
  · rename_i h; simp at h ⊢; omega
theorem cStep_att (c : Call) (conf : Config) (d : Deed21) (h : c.att ≤ 9223372036854775807) : (cStep c conf d).1.att ≤ 9223372036854775807 := by
  have hw := wrap_le (c.att + 1)
  unfold cStep cBegin cGood cTaken cBad cEnds
  (repeat' split) <;> first | exact h | exact hw
end Go.Proofs.YtfacmphjplablaaDoor.Sp
