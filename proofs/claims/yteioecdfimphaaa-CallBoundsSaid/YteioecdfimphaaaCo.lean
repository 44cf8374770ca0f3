/- Plain facts on status codes: which is cleaned to which, how much each says, and the one of two that says more. No condition. -/
import Derived.Test.YteioecdfimphaaaTk
namespace Go.Proofs.Yteioecdfimphaaa.Co
open Go.RowKit Go.Proofs.Yteioecdfimphaaa.Tk
set_option linter.unusedVariables false

def cc (c : Int) : Int := if 0 ≤ c ∧ c < 17 then c else 2
theorem cc_lo (c : Int) : 0 ≤ cc c := by unfold cc; split <;> omega
theorem cc_hi (c : Int) : cc c < 17 := by unfold cc; split <;> omega
theorem cc_id {c : Int} (h0 : 0 ≤ c) (h1 : c < 17) : cc c = c := by unfold cc; rw [if_pos ⟨h0, h1⟩]
theorem cc_cc (c : Int) : cc (cc c) = cc c := cc_id (cc_lo c) (cc_hi c)
def rk (c : Int) : Int := if c = 0 then 0 else if c = 14 then 1 else if c = 8 then 2 else if c = 4 then 100 else if c = 1 then 101 else 10 + c
theorem rk_inj {a b : Int} (a0 : 0 ≤ a) (a1 : a < 17) (b0 : 0 ≤ b) (b1 : b < 17) (h : rk a = rk b) : a = b := by
  unfold rk at h; (repeat' split at h) <;> omega
theorem rk_lo {a : Int} (a0 : 0 ≤ a) : 0 ≤ rk a := by unfold rk; (repeat' split) <;> omega
theorem rk_hi {a : Int} (a1 : a < 17) : rk a ≤ 101 := by unfold rk; (repeat' split) <;> omega
def jn (a b : Int) : Int := if rk (cc b) > rk (cc a) then cc b else cc a
theorem jn_or (a b : Int) : jn a b = cc a ∨ jn a b = cc b := by unfold jn; split <;> simp
theorem jn_lo (a b : Int) : 0 ≤ jn a b := by rcases jn_or a b with h | h <;> rw [h] <;> exact cc_lo _
theorem jn_hi (a b : Int) : jn a b < 17 := by rcases jn_or a b with h | h <;> rw [h] <;> exact cc_hi _
theorem cc_jn (a b : Int) : cc (jn a b) = jn a b := cc_id (jn_lo a b) (jn_hi a b)
theorem inj (a b : Int) (h : rk (cc a) = rk (cc b)) : cc a = cc b := rk_inj (cc_lo a) (cc_hi a) (cc_lo b) (cc_hi b) h
theorem jn_comm (a b : Int) : jn a b = jn b a := by
  have i := inj a b
  unfold jn; split <;> split <;> first | rfl | omega
theorem jn_self (a : Int) : jn a a = cc a := by unfold jn; split <;> rfl
theorem rk_jn (a b : Int) : rk (jn a b) = if rk (cc a) < rk (cc b) then rk (cc b) else rk (cc a) := by
  unfold jn; split <;> rfl
theorem jn_assoc (a b c : Int) : jn (jn a b) c = jn a (jn b c) := by
  refine rk_inj (jn_lo _ _) (jn_hi _ _) (jn_lo _ _) (jn_hi _ _) ?_
  rw [rk_jn, rk_jn, cc_jn, cc_jn, rk_jn, rk_jn]
  (repeat' split) <;> omega
theorem jn_least (a : Int) : jn 0 a = cc a := by
  have h := rk_lo (cc_lo a); have i := inj 0 a
  have z : cc 0 = 0 := by decide
  have z' : rk 0 = 0 := by decide
  rw [z, z'] at i
  unfold jn; rw [z, z']; split
  · rfl
  · exact i (by omega)
theorem jn_most (a : Int) : jn a 1 = 1 := by
  have h := rk_hi (cc_hi a); have i := inj a 1
  have z : cc 1 = 1 := by decide
  have z' : rk 1 = 101 := by decide
  rw [z, z'] at i
  unfold jn; rw [z, z']; split
  · rfl
  · exact i (by omega)
/-- Where a code stands in the document's list. -/
def pl (c : Int) : Int := if c = 0 then 0 else if c = 14 then 1 else if c = 8 then 2 else if c = 2 then 3 else if c = 3 then 4 else if c = 5 then 5 else if c = 6 then 6 else if c = 7 then 7 else if c = 9 then 8 else if c = 10 then 9 else if c = 11 then 10 else if c = 12 then 11 else if c = 13 then 12 else if c = 15 then 13 else if c = 16 then 14 else if c = 4 then 15 else 16
theorem pl_rk {a b : Int} (a0 : 0 ≤ a) (a1 : a < 17) (b0 : 0 ≤ b) (b1 : b < 17) : pl a < pl b ↔ rk b > rk a := by
  have key : ∀ x y : Fin 17, pl (x.val : Int) < pl (y.val : Int) ↔ rk (y.val : Int) > rk (x.val : Int) := by decide +kernel
  have := key ⟨a.toNat, by omega⟩ ⟨b.toNat, by omega⟩
  simpa [Int.toNat_of_nonneg a0, Int.toNat_of_nonneg b0] using this
theorem upto17 {t : Int} (h0 : 0 ≤ t) (h1 : t < 17) : t = 0 ∨ t = 1 ∨ t = 2 ∨ t = 3 ∨ t = 4 ∨ t = 5 ∨ t = 6 ∨ t = 7 ∨ t = 8 ∨ t = 9 ∨ t = 10 ∨ t = 11 ∨ t = 12 ∨ t = 13 ∨ t = 14 ∨ t = 15 ∨ t = 16 := by omega
end Go.Proofs.Yteioecdfimphaaa.Co
