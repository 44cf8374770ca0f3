
/- Configurations and facts as plain data, and what the functions on whether one tries again answer. No condition. -/
import Derived.Test.YtfacmphjplablaaDoorSp2
namespace Go.Proofs.YtfacmphjplablaaDoor.Sp
open Go Go.Proofs.YtfacmphjplablaaDoor.Av
set_option linter.unusedVariables false

structure Config where
  nodes : Int
  skew : Int
  lease : Int
  grain : Int
  least : Int
  hops : Int
  cap : Int
  fan : Int
  attempts : Int
  base : Int
  most : Int
  wait : Int
  tokens : Int
  programs : List (List Pop)
def Config.g (c : Config) : List G := [.int .i64 c.nodes, .int .i64 c.skew, .int .i64 c.lease, .int .i64 c.grain, .int .i64 c.least, .int .i64 c.hops, .int .i64 c.cap, .int .i64 c.fan, .int .i64 c.attempts, .int .i64 c.base, .int .i64 c.most, .int .i64 c.wait, .int .i64 c.tokens,
  .sl (c.programs.map fun l => [.sl (l.map Pop.g)])]
structure Facts where
  code : Int
  att : Int
  committed : Bool
  push : Int
  have' : Int
  now : Int
  deadline : Int
  jitter : Int
def Facts.g (f : Facts) : List G := [.int .i64 f.code, .int .i64 f.att, .bool f.committed, .int .i64 f.push, .int .i64 f.have', .int .i64 f.now, .int .i64 f.deadline, .int .i64 f.jitter]

def mul (a n : Int) : Int := if clamp a * clamp n > 1125899906842624 then 1125899906842624 else clamp a * clamp n
theorem mul_bd (a n : Int) : 0 ≤ mul a n ∧ mul a n ≤ 1125899906842624 := by
  have := Int.mul_nonneg (clamp_bd a).1 (clamp_bd n).1
  unfold mul; split <;> omega
theorem add_bd (a b : Int) : 0 ≤ add a b ∧ add a b ≤ 1125899906842624 := clamp_bd _
def hopsI (h : Int) : Int := if 16 < (if 0 > h then 0 else h) then 16 else (if 0 > h then 0 else h)
theorem hopsI_bd (h : Int) : 0 ≤ hopsI h ∧ hopsI h ≤ 16 := by unfold hopsI; (repeat' split) <;> omega
def mostSt (p : Int) : Nat → Int × Int
  | 0 => (0, 1)
  | k + 1 => (add (mostSt p k).1 (mul (mostSt p k).2 p), mul (mostSt p k).2 p)
def mostN (c : Config) : Int := (mostSt (mul c.fan c.attempts) (hopsI c.hops).toNat).1

/-! The same without a bound. -/
def exLv (p : Int) : Nat → Int
  | 0 => 1
  | k + 1 => exLv p k * p
def exAll (p : Int) : Nat → Int
  | 0 => 0
  | k + 1 => exAll p k + exLv p (k + 1)
def mn (n : Int) : Int := if n > 1125899906842624 then 1125899906842624 else n
theorem exLv_nn {p : Int} (hp : 0 ≤ p) : ∀ k, 0 ≤ exLv p k
  | 0 => by show (0 : Int) ≤ 1; omega
  | k + 1 => Int.mul_nonneg (exLv_nn hp k) hp
theorem exAll_nn {p : Int} (hp : 0 ≤ p) : ∀ k, 0 ≤ exAll p k
  | 0 => Int.le_refl _
  | k + 1 => Int.add_nonneg (exAll_nn hp k) (exLv_nn hp (k + 1))
theorem clamp_mn {n : Int} (h : 0 ≤ n) : clamp n = mn n := by unfold clamp mn; (repeat' split) <;> omega
theorem mn_bd {n : Int} (h : 0 ≤ n) : 0 ≤ mn n ∧ mn n ≤ 1125899906842624 := by unfold mn; split <;> omega
theorem mostSt_ex {p : Int} (hp : 0 ≤ p ∧ p ≤ 1125899906842624) : ∀ k, mostSt p k = (mn (exAll p k), mn (exLv p k))
  | 0 => by show ((0 : Int), (1 : Int)) = (mn 0, mn 1); rfl
  | k + 1 => by
    have ih := mostSt_ex hp k
    have n1 := exLv_nn hp.1 k
    have n2 := exAll_nn hp.1 k
    have n3 := exLv_nn hp.1 (k + 1)
    have em : mul (mn (exLv p k)) p = mn (exLv p (k + 1)) := by
      unfold mul
      rw [clamp_id (mn_bd n1), clamp_id hp]
      show _ = mn (exLv p k * p)
      by_cases h0 : p = 0
      · subst h0; simp [mn]
      by_cases hl : exLv p k > 1125899906842624
      · have e : mn (exLv p k) = 1125899906842624 := by unfold mn; rw [if_pos hl]
        rw [e]
        have h1 : exLv p k * 1 ≤ exLv p k * p := Int.mul_le_mul_of_nonneg_left (by omega) n1
        have h2 : mn (exLv p k * p) = 1125899906842624 := by unfold mn; rw [if_pos (by omega)]
        rw [h2]
        split <;> omega
      · have e : mn (exLv p k) = exLv p k := by unfold mn; rw [if_neg hl]
        rw [e]; rfl
    show (add (mostSt p k).1 (mul (mostSt p k).2 p), mul (mostSt p k).2 p) = _
    rw [ih]
    simp only
    rw [em]
    refine Prod.ext ?_ rfl
    show add (mn (exAll p k)) (mn (exLv p (k + 1))) = mn (exAll p k + exLv p (k + 1))
    unfold add
    rw [clamp_id (mn_bd n2), clamp_id (mn_bd n3), clamp_mn (Int.add_nonneg (mn_bd n2).1 (mn_bd n3).1)]
    generalize exAll p k = x at *
    generalize exLv p (k + 1) = y at *
    unfold mn
    (repeat' split) <;> omega
theorem exAll_next (p : Int) : ∀ k, exAll p (k + 1) = p * (exAll p k + 1)
  | 0 => by show 0 + 1 * p = p * (0 + 1); omega
  | k + 1 => by
    have ih := exAll_next p k
    show exAll p (k + 1) + exLv p (k + 1) * p = p * (exAll p k + exLv p (k + 1) + 1)
    rw [ih, show exAll p k + exLv p (k + 1) + 1 = (exAll p k + 1) + exLv p (k + 1) by omega, Int.mul_add p (exAll p k + 1) (exLv p (k + 1)), Int.mul_comm p (exLv p (k + 1))]
theorem exLv_mono {p q : Int} (hp : 0 ≤ p) (h : p ≤ q) : ∀ k, exLv p k ≤ exLv q k
  | 0 => Int.le_refl _
  | k + 1 => Int.mul_le_mul (exLv_mono hp h k) h hp (exLv_nn (by omega) k)
theorem exAll_mono {p q : Int} (hp : 0 ≤ p) (h : p ≤ q) : ∀ k, exAll p k ≤ exAll q k
  | 0 => Int.le_refl _
  | k + 1 => Int.add_le_add (exAll_mono hp h k) (exLv_mono hp h (k + 1))
theorem mn_mono {a b : Int} (h : a ≤ b) : mn a ≤ mn b := by unfold mn; (repeat' split) <;> omega

theorem grows (c : Config) (h1 : 0 ≤ c.fan ∧ c.fan ≤ 1000) (h2 : 0 ≤ c.attempts ∧ c.attempts ≤ 1000) (h3 : 0 ≤ c.hops ∧ c.hops ≤ 15) (deep wide : Config)
    (hd : deep = { c with hops := IntKind.i64.wrap (c.hops + 1) }) (hw : wide = { c with fan := IntKind.i64.wrap (c.fan + 1) }) :
    0 ≤ mostN c ∧ mostN c ≤ mostN deep ∧ mostN c ≤ mostN wide ∧ (c.hops = 0 → mostN c = 0) ∧
    (mostN deep = 1125899906842624 ∨ mostN deep = IntKind.i64.wrap (IntKind.i64.wrap (c.fan * c.attempts) * IntKind.i64.wrap (mostN c + 1))) := by
  subst hd; subst hw
  unfold mostN
  simp only
  rw [wrap_i64 (n := c.hops + 1) (by omega), wrap_i64 (n := c.fan + 1) (by omega)]
  have hp0 : 0 ≤ c.fan * c.attempts := Int.mul_nonneg h1.1 h2.1
  have hp1 : c.fan * c.attempts ≤ 1000 * 1000 := Int.mul_le_mul h1.2 h2.2 h2.1 (by omega)
  have hq1 : (c.fan + 1) * c.attempts ≤ 1001 * 1000 := Int.mul_le_mul (by omega) h2.2 h2.1 (by omega)
  have hpq : c.fan * c.attempts ≤ (c.fan + 1) * c.attempts := Int.mul_le_mul_of_nonneg_right (by omega) h2.1
  have e1 : mul c.fan c.attempts = c.fan * c.attempts := by unfold mul; rw [clamp_id (by omega), clamp_id (by omega), if_neg (by omega)]
  have e2 : mul (c.fan + 1) c.attempts = (c.fan + 1) * c.attempts := by unfold mul; rw [clamp_id (by omega), clamp_id (by omega), if_neg (by omega)]
  rw [e1, e2, wrap_i64 (n := c.fan * c.attempts) (by omega)]
  generalize c.fan * c.attempts = p at *
  generalize (c.fan + 1) * c.attempts = q at *
  have e3 : (hopsI (c.hops + 1)).toNat = (hopsI c.hops).toNat + 1 := by unfold hopsI; (repeat' split) <;> omega
  have e4 : c.hops = 0 → (hopsI c.hops).toNat = 0 := by intro h; rw [h]; rfl
  rw [e3]
  generalize (hopsI c.hops).toNat = k at *
  rw [mostSt_ex ⟨hp0, by omega⟩, mostSt_ex ⟨hp0, by omega⟩, mostSt_ex ⟨by omega, by omega⟩]
  simp only
  have n1 := exAll_nn hp0 k
  have n2 := exAll_nn hp0 (k + 1)
  have n3 := exLv_nn hp0 (k + 1)
  have n4 := exAll_next p k
  have hle : exAll p k ≤ exAll p (k + 1) := by show _ ≤ exAll p k + exLv p (k + 1); omega
  refine ⟨(mn_bd n1).1, mn_mono hle, mn_mono (exAll_mono hp0 hpq k), fun h => by rw [e4 h]; rfl, ?_⟩
  by_cases hb : exAll p (k + 1) > 1125899906842624
  · left; unfold mn; rw [if_pos hb]
  · right
    have q1 : mn (exAll p k) = exAll p k := by unfold mn; rw [if_neg (by omega)]
    have q2 : mn (exAll p (k + 1)) = exAll p (k + 1) := by unfold mn; rw [if_neg hb]
    rw [q1, q2, wrap_i64 (n := exAll p k + 1) (by omega), ← n4, wrap_i64 (by omega)]

def tFull (t : Int) : Int := (if 1000 < (if 1 > t then 1 else t) then 1000 else (if 1 > t then 1 else t)) * 1000
theorem tFull_bd (t : Int) : 1000 ≤ tFull t ∧ tFull t ≤ 1000000 := by unfold tFull; (repeat' split) <;> omega
def tClean (h t : Int) : Int := if tFull t < (if 0 > h then 0 else h) then tFull t else (if 0 > h then 0 else h)
theorem tClean_bd (h t : Int) : 0 ≤ tClean h t ∧ tClean h t ≤ 1000000 := by have := tFull_bd t; unfold tClean; (repeat' split) <;> omega
def tMay (h t : Int) : Bool := decide (2 * tClean h t > tFull t)
def enough (a b c : Int) : Bool := decide (sub a b > 0) && decide (sub a b ≥ clamp c)
end Go.Proofs.YtfacmphjplablaaDoor.Sp
