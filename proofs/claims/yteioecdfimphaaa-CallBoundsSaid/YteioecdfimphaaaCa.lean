/- Plain facts on a call at the node that makes it: begun, ended, taken, failed. No condition but the named ones. -/
import Derived.Test.YteioecdfimphaaaPo
import Derived.Test.YteioecdfimphaaaCo
namespace Go.Proofs.Yteioecdfimphaaa.Ca
open Go.RowKit Go.Proofs.Yteioecdfimphaaa.Tk Go.Proofs.Yteioecdfimphaaa.Bo Go.Proofs.Yteioecdfimphaaa.Po Go.Proofs.Yteioecdfimphaaa.Co
set_option linter.unusedVariables false

structure Cl where
  nd : Int
  inc : Int
  sq : Int
  to : Int
  pr : Int
  att : Int
  st : Int
  sent : Int
  rdy : Int
  com : Bool
  code : Int
  val : Int
  tries : Int
abbrev T13 := Int × Int × Int × Int × Int × Int × Int × Int × Int × Bool × Int × Int × Int
abbrev T14 := Int × Int × Int × Int × Int × Int × Int × Int × Int × Bool × Int × Int × Int × Int
def Cl.t (c : Cl) : T13 := (c.nd, c.inc, c.sq, c.to, c.pr, c.att, c.st, c.sent, c.rdy, c.com, c.code, c.val, c.tries)
def Cl.tw (c : Cl) (w : Int) : T14 := (c.nd, c.inc, c.sq, c.to, c.pr, c.att, c.st, c.sent, c.rdy, c.com, c.code, c.val, c.tries, w)
def bg (c : Cl) (now : Int) : Cl := if (c.st = 0 ∨ c.st = 2) ∧ c.att < 5 then { c with att := c.att + 1, st := 1, sent := cl now, rdy := 0, tries := c.tries + 1 } else c
def en (c : Cl) (n : Int) : Cl := if c.st = 3 then c else { c with st := 3, code := cc n, val := 0, rdy := 0 }
def vv (v : Int) : Int := if 2147483647 < (if v < 0 then 0 else v) then 2147483647 else (if v < 0 then 0 else v)
def gdd (c : Cl) (v : Int) : Cl := if c.st = 1 then { en c 0 with val := vv v } else c
def tk (c : Cl) : Cl := if c.st = 1 then { c with com := true } else c
/-- A configuration's numbers that count here. -/
structure Cf where
  base : Int
  most : Int
  attempts : Int
  tokens : Int
  least : Int
structure Fa where
  code : Int
  push : Int
  have_ : Int
  now : Int
  dl : Int
  jit : Int
def dc (c : Cl) (g : Cf) (f : Fa) : Int × Int := dec g.base g.most g.attempts g.tokens g.least f.code c.att c.com f.push f.have_ f.now f.dl f.jit
def bd (c : Cl) (g : Cf) (f : Fa) : Cl × Int :=
  if c.st = 1 then (if (dc c g f).1 = 0 then ({ c with st := 2, rdy := (dc c g f).2 }, (dc c g f).1) else (en c f.code, (dc c g f).1)) else (c, 1)
/-- A deed: 0, 1, 2 begin, 3 good, 4 taken, 5, 6, 7 bad, 8 ends, any other kind nothing. -/
def sp (c : Cl) (g : Cf) (kind n : Int) (f : Fa) : Cl × Int :=
  if kind = 0 ∨ kind = 1 ∨ kind = 2 then (bg c n, 0) else if kind = 3 then (gdd c n, 0) else if kind = 4 then (tk c, 0) else
  if kind = 5 ∨ kind = 6 ∨ kind = 7 then bd c g f else if kind = 8 then (en c n, 0) else (c, 0)

/-! ### what stays so -/
theorem en_st (c : Cl) (n : Int) : (en c n).st = 3 := by unfold en; split <;> first | assumption | rfl
theorem en_att (c : Cl) (n : Int) : (en c n).att = c.att ∧ (en c n).tries = c.tries ∧ (en c n).com = c.com := by unfold en; split <;> exact ⟨rfl, rfl, rfl⟩
/-- What holds of a call that was fresh once. -/
structure Ok (c : Cl) (a : Int) : Prop where
  at_ : c.att = c.tries
  lo : 0 ≤ c.att
  hi : c.att ≤ 5
  s0 : 0 ≤ c.st
  s3 : c.st ≤ 3
  fresh : c.st = 0 → c.att = 0
  rests : c.st = 2 → c.att < a
  most : c.att ≤ 1 ∨ c.att ≤ a
theorem ok_en {c : Cl} {a : Int} (h : Ok c a) (n : Int) : Ok (en c n) a := by
  have e := en_st c n; obtain ⟨e1, e2, _⟩ := en_att c n
  exact ⟨by rw [e1, e2]; exact h.at_, by rw [e1]; exact h.lo, by rw [e1]; exact h.hi, by omega, by omega, fun q => by omega, fun q => by omega, by rw [e1]; exact h.most⟩
theorem ok_bg {c : Cl} {a : Int} (h : Ok c a) (n : Int) : Ok (bg c n) a ∧ c.att ≤ (bg c n).att ∧ (bg c n).att ≤ c.att + 1 ∧ (bg c n).com = c.com := by
  obtain ⟨h1, h2, h3, h4, h5, h6, h7, h8⟩ := h
  unfold bg
  by_cases q : (c.st = 0 ∨ c.st = 2) ∧ c.att < 5
  · rw [if_pos q]
    refine ⟨⟨?_, ?_, ?_, ?_, ?_, ?_, ?_, ?_⟩, ?_, ?_, rfl⟩ <;> simp only [] <;> first | omega | (intro h; omega) | skip
  · rw [if_neg q]; exact ⟨⟨h1, h2, h3, h4, h5, h6, h7, h8⟩, by omega, by omega, rfl⟩
theorem ok_gd {c : Cl} {a : Int} (h : Ok c a) (v : Int) : Ok (gdd c v) a ∧ (gdd c v).att = c.att ∧ (gdd c v).com = c.com := by
  unfold gdd; split
  · have k := ok_en h 0; obtain ⟨e1, e2, e3⟩ := en_att c 0
    exact ⟨⟨k.at_, k.lo, k.hi, k.s0, k.s3, k.fresh, k.rests, k.most⟩, e1, e3⟩
  · exact ⟨h, rfl, rfl⟩
theorem ok_tk {c : Cl} {a : Int} (h : Ok c a) : Ok (tk c) a ∧ (tk c).att = c.att ∧ (c.com = true → (tk c).com = true) := by
  unfold tk; split
  · exact ⟨⟨h.at_, h.lo, h.hi, h.s0, h.s3, h.fresh, h.rests, h.most⟩, rfl, fun _ => rfl⟩
  · exact ⟨h, rfl, fun q => q⟩
theorem ok_bd {c : Cl} {g : Cf} (h : Ok c g.attempts) (f : Fa) : Ok (bd c g f).1 g.attempts ∧ (bd c g f).1.att = c.att ∧ (bd c g f).1.com = c.com ∧ (c.st = 1 → (c.com = true ∨ g.attempts ≤ c.att) → (bd c g f).1.st = 3) := by
  unfold bd
  by_cases q : c.st = 1
  · rw [if_pos q]
    by_cases z : (dc c g f).1 = 0
    · rw [if_pos z]
      obtain ⟨_, p2, p3, _⟩ := dec_zero.1 z
      refine ⟨⟨h.at_, h.lo, h.hi, by simp, by simp, fun y => by simp at y, fun _ => p3, h.most⟩, rfl, rfl, fun _ y => ?_⟩
      rcases y with y | y
      · rw [p2] at y; cases y
      · omega
    · rw [if_neg z]; obtain ⟨e1, _, e3⟩ := en_att c f.code
      exact ⟨ok_en h _, e1, e3, fun _ _ => en_st _ _⟩
  · rw [if_neg q]; exact ⟨h, rfl, rfl, fun y => absurd y q⟩
/-- One deed more. -/
theorem ok_sp {c : Cl} {g : Cf} (h : Ok c g.attempts) (kind n : Int) (f : Fa) : Ok (sp c g kind n f).1 g.attempts ∧ c.att ≤ (sp c g kind n f).1.att ∧ (sp c g kind n f).1.att ≤ c.att + 1 ∧
    (c.com = true → (sp c g kind n f).1.com = true) ∧ (5 ≤ kind → kind ≤ 7 → c.st = 1 → (c.com = true ∨ g.attempts ≤ c.att) → (sp c g kind n f).1.st = 3) ∧ (c.st = 3 → (sp c g kind n f).1 = c) := by
  unfold sp
  by_cases k0 : kind = 0 ∨ kind = 1 ∨ kind = 2
  · rw [if_pos k0]; obtain ⟨a, b, d, e⟩ := ok_bg h n
    exact ⟨a, b, d, fun q => by rw [e]; exact q, fun _ _ => by omega, fun q => by show bg c n = c; unfold bg; rw [if_neg (by omega)]⟩
  rw [if_neg k0]
  by_cases k3 : kind = 3
  · rw [if_pos k3]; obtain ⟨a, b, d⟩ := ok_gd h n
    exact ⟨a, by simp only []; omega, by simp only []; omega, fun q => by rw [d]; exact q, fun _ _ => by omega, fun q => by show gdd c n = c; unfold gdd; rw [if_neg (by omega)]⟩
  rw [if_neg k3]
  by_cases k4 : kind = 4
  · rw [if_pos k4]; obtain ⟨a, b, d⟩ := ok_tk h
    exact ⟨a, by simp only []; omega, by simp only []; omega, d, fun _ _ => by omega, fun q => by show tk c = c; unfold tk; rw [if_neg (by omega)]⟩
  rw [if_neg k4]
  by_cases k5 : kind = 5 ∨ kind = 6 ∨ kind = 7
  · rw [if_pos k5]; obtain ⟨a, b, d, e⟩ := ok_bd h f
    exact ⟨a, by omega, by omega, fun q => by rw [d]; exact q, fun _ _ => e, fun q => by unfold bd; rw [if_neg (by omega)]⟩
  rw [if_neg k5]
  by_cases k8 : kind = 8
  · rw [if_pos k8]; obtain ⟨b, _, d⟩ := en_att c n
    exact ⟨ok_en h n, by simp only []; omega, by simp only []; omega, fun q => by rw [d]; exact q, fun _ _ => by omega, fun q => by show en c n = c; unfold en; rw [if_pos q]⟩
  · rw [if_neg k8]; exact ⟨h, by simp, by simp only []; omega, fun q => q, fun _ _ => by omega, fun _ => rfl⟩
def lost (c : Cl) (now wait grain : Int) : Bool := decide (c.st = 1 ∧ up (ad c.sent wait) grain ≤ cl now)
def rested (c : Cl) (now grain : Int) : Bool := decide (c.st = 2 ∧ up c.rdy grain ≤ cl now)
/-- Numbers stay in their kinds' bounds. -/
theorem pl_sp (c : Cl) (g : Cf) (kind n : Int) (f : Fa) (a0 : -9223372036854775808 ≤ c.att) (a1 : c.att ≤ 9223372036854775807) :
    -9223372036854775808 ≤ (sp c g kind n f).1.att ∧ (sp c g kind n f).1.att ≤ 9223372036854775807 ∧ c.tries ≤ (sp c g kind n f).1.tries ∧ (sp c g kind n f).1.tries ≤ c.tries + 1 := by
  have en' : ∀ m, (en c m).att = c.att ∧ (en c m).tries = c.tries := fun m => ⟨(en_att c m).1, (en_att c m).2.1⟩
  unfold sp
  by_cases k0 : kind = 0 ∨ kind = 1 ∨ kind = 2
  · rw [if_pos k0]; unfold bg; split <;> (try simp only []) <;> omega
  rw [if_neg k0]
  by_cases k3 : kind = 3
  · rw [if_pos k3]; unfold gdd; have := en' 0; split <;> (try simp only []) <;> omega
  rw [if_neg k3]
  by_cases k4 : kind = 4
  · rw [if_pos k4]; unfold tk; split <;> (try simp only []) <;> omega
  rw [if_neg k4]
  by_cases k5 : kind = 5 ∨ kind = 6 ∨ kind = 7
  · rw [if_pos k5]; unfold bd; have := en' f.code
    by_cases q : c.st = 1
    · rw [if_pos q]
      by_cases z : (dc c g f).1 = 0
      · rw [if_pos z]; (try simp only []); omega
      · rw [if_neg z]; (try simp only []); omega
    · rw [if_neg q]; (try simp only []); omega
  rw [if_neg k5]
  by_cases k8 : kind = 8
  · rw [if_pos k8]; have := en' n; (try simp only []); omega
  · rw [if_neg k8]; (try simp only []); omega
end Go.Proofs.Yteioecdfimphaaa.Ca
