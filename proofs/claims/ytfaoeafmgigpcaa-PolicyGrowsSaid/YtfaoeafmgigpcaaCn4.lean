/- Contracts of the functions on whether one tries again. No condition. -/
import Derived.Test.YtfaoeafmgigpcaaCn1
import Derived.Test.YtfaoeafmgigpcaaAv16
import Derived.Test.YtfaoeafmgigpcaaSp4
namespace Go.Proofs.Ytfaoeafmgigpcaa.Cn
open Go Go.Proofs Go.Proofs.Ytfaoeafmgigpcaa.Av Go.Proofs.Ytfaoeafmgigpcaa.Sp
set_option linter.unusedVariables false
set_option linter.unusedSimpArgs false
set_option maxRecDepth 100000

theorem ticks_Mul (a b : Int) : Fv Try.prog 26 [.int .i64 a, .int .i64 b] (.int .i64 (mul a b)) := by
  refine Fv.of_awp Try.func26 rfl (by kernel_rfl) rfl (Nat.le_of_ble_eq_true rfl) ?_
  have h1 := clamp_bd a
  have h2 := clamp_bd b
  repeat' (conv => whnf
           first
           | (refine ⟨_, ticks_Clamp _, ?_⟩)
           | (refine cond_f ?_ ?_)
           | (refine ⟨_, ⟨by decide, rfl⟩, ?_⟩)
           | (refine cond_i (fun h => ?_) (fun h => ?_)))
  all_goals (conv => whnf)
  all_goals try unfold mul
  all_goals
    generalize clamp a = x at *
    generalize clamp b = y at *
    simp only [decide_eq_true_eq, decide_eq_false_iff_not] at *
  · simp; omega
  all_goals refine int_eq ?_
  · have hy : 0 < y := by omega
    rw [Int.tdiv_eq_ediv_of_nonneg (by omega), wrap_i64 (by have := Int.ediv_le_self (a := 1125899906842624) y (by omega); have := Int.ediv_nonneg (a := 1125899906842624) (b := y) (by omega) (by omega); omega)] at h
    rw [if_pos ((Int.ediv_lt_iff_lt_mul hy).1 h)]
  · have hy : 0 < y := by omega
    rw [Int.tdiv_eq_ediv_of_nonneg (by omega), wrap_i64 (by have := Int.ediv_le_self (a := 1125899906842624) y (by omega); have := Int.ediv_nonneg (a := 1125899906842624) (b := y) (by omega) (by omega); omega)] at h
    have h3 : x * y ≤ 1125899906842624 := Int.mul_le_of_le_ediv hy (by omega)
    have h4 : 0 ≤ x * y := Int.mul_nonneg (by omega) (by omega)
    rw [if_neg (by omega), wrap_i64 (by omega)]
  · obtain rfl : y = 0 := by omega
    simp
    rfl
theorem policy_Most (c : Config) : Fv Try.prog 58 [.agg c.g] (.int .i64 (mostN c)) := by
  refine Fv.of_awp Try.func58 rfl (by kernel_rfl) rfl (Nat.le_of_ble_eq_true rfl) ?_
  have hh := hopsI_bd c.hops
  repeat' (conv => whnf
           first
           | (refine cond_f ?_ ?_)
           | (refine ⟨_, ⟨by decide, rfl⟩, ?_⟩)
           | (refine cond_i (fun h => ?_) (fun h => ?_)))
  all_goals (conv => whnf)
  refine Has.each [1, 3, 4, 8, 9] [] (hopsI c.hops).toNat (fun k (b : Int × Int) => b = mostSt (mul c.fan c.attempts) k) (fun b i =>
    St.of 23 [(1, .ptr 1 0), (3, .int .i64 b.1), (4, .int .i64 b.2), (8, .int .i64 (hopsI c.hops)), (9, .int .i64 i)] [(1, c.g)] []) ⟨(0, 1), _, rfl, rfl, rfl⟩ (fun k b hk hI => ?_) (fun b hI => ?_)
  · have hle : decide ((k : Int) < hopsI c.hops) = true := by simp; omega
    refine awp_go ?_
    repeat' (conv => whnf
             first
             | (refine cond_1 hle ?_)
             | (refine ⟨_, ticks_Mul _ _, ?_⟩)
             | (refine ⟨_, ticks_Add _ _, ?_⟩)
             | (refine cond_f ?_ ?_)
             | (refine ⟨_, ⟨by decide, rfl⟩, ?_⟩)
             | (refine cond_i (fun h => ?_) (fun h => ?_)))
    all_goals (conv => whnf)
    subst hI
    exact ⟨_, _, rfl, rfl, wrap_i64 (by omega)⟩
  · have hle : decide (((hopsI c.hops).toNat : Int) < hopsI c.hops) = false := by simp; omega
    refine awp_go ?_
    repeat' (conv => whnf
             first
             | (refine cond_0 hle ?_)
             | (refine cond_f ?_ ?_)
             | (refine ⟨_, ⟨by decide, rfl⟩, ?_⟩)
             | (refine cond_i (fun h => ?_) (fun h => ?_)))
    all_goals (conv => whnf)
    subst hI
    rfl
theorem code_Again (a : Int) : Fv Try.prog 47 [.int .i64 a] (.bool (decide (a = 14 ∨ a = 8))) := by
  refine Fv.of_awp Try.func47 rfl (by kernel_rfl) rfl (Nat.le_of_ble_eq_true rfl) ?_
  repeat' (conv => whnf
           first
           | (refine cond_f ?_ ?_)
           | (refine ⟨_, ⟨by decide, rfl⟩, ?_⟩)
           | (refine cond_i (fun h => ?_) (fun h => ?_)))
  all_goals (conv => whnf)
  all_goals
    refine bool_eq ?_
    simp only [beq_iff_eq, beq_eq_false_iff_ne, ne_eq] at *
    simp [*]
    try rfl
theorem throttle_Full (t : Int) : Fv Try.prog 68 [.int .i64 t] (.int .i64 (tFull t)) := by
  refine Fv.of_awp Try.func68 rfl (by kernel_rfl) rfl (Nat.le_of_ble_eq_true rfl) ?_
  repeat' (conv => whnf
           first
           | (refine cond_f ?_ ?_)
           | (refine ⟨_, ⟨by decide, rfl⟩, ?_⟩)
           | (refine cond_i (fun h => ?_) (fun h => ?_)))
  all_goals (conv => whnf)
  all_goals
    refine int_eq ?_
    unfold tFull
    exact wrap_i64 (by (repeat' split) <;> omega)
theorem throttle_clean (h t : Int) : Fv Try.prog 67 [.int .i64 h, .int .i64 t] (.int .i64 (tClean h t)) := by
  refine Fv.of_awp Try.func67 rfl (by kernel_rfl) rfl (Nat.le_of_ble_eq_true rfl) ?_
  repeat' (conv => whnf
           first
           | (refine ⟨_, throttle_Full _, ?_⟩)
           | (refine cond_f ?_ ?_)
           | (refine ⟨_, ⟨by decide, rfl⟩, ?_⟩)
           | (refine cond_i (fun h => ?_) (fun h => ?_)))
  all_goals (conv => whnf)
  all_goals rfl
theorem throttle_May (h t : Int) : Fv Try.prog 63 [.int .i64 h, .int .i64 t] (.bool (tMay h t)) := by
  refine Fv.of_awp Try.func63 rfl (by kernel_rfl) rfl (Nat.le_of_ble_eq_true rfl) ?_
  repeat' (conv => whnf
           first
           | (refine ⟨_, throttle_Full _, ?_⟩)
           | (refine ⟨_, throttle_clean _ _, ?_⟩)
           | (refine cond_f ?_ ?_)
           | (refine ⟨_, ⟨by decide, rfl⟩, ?_⟩)
           | (refine cond_i (fun h => ?_) (fun h => ?_)))
  all_goals (conv => whnf)
  all_goals
    refine bool_eq ?_
    have := tClean_bd h t
    unfold tMay
    rw [wrap_i64 (by omega)]
theorem budget_Left (a b : Int) : Fv Try.prog 69 [.int .i64 a, .int .i64 b] (.int .i64 (sub a b)) := by
  refine Fv.of_awp Try.func69 rfl (by kernel_rfl) rfl (Nat.le_of_ble_eq_true rfl) ?_
  repeat' (conv => whnf
           first
           | (refine ⟨_, ticks_Sub _ _, ?_⟩)
           | (refine cond_f ?_ ?_)
           | (refine ⟨_, ⟨by decide, rfl⟩, ?_⟩)
           | (refine cond_i (fun h => ?_) (fun h => ?_)))
  all_goals (conv => whnf)
  all_goals rfl
theorem budget_Enough (a b c : Int) : Fv Try.prog 64 [.int .i64 a, .int .i64 b, .int .i64 c] (.bool (enough a b c)) := by
  refine Fv.of_awp Try.func64 rfl (by kernel_rfl) rfl (Nat.le_of_ble_eq_true rfl) ?_
  repeat' (conv => whnf
           first
           | (refine ⟨_, budget_Left _ _, ?_⟩)
           | (refine ⟨_, ticks_Clamp _, ?_⟩)
           | (refine cond_f ?_ ?_)
           | (refine ⟨_, ⟨by decide, rfl⟩, ?_⟩)
           | (refine cond_i (fun h => ?_) (fun h => ?_)))
  all_goals (conv => whnf)
  all_goals
    refine bool_eq ?_
    unfold enough
    simp [*]
def cA : Config := ⟨0, 0, 0, 0, 0, 0, 0, 0, 3, 1, 1, 0, 10, []⟩
def fA1 : Facts := ⟨14, 1, false, 5, 10000, 10, 100, 0⟩
def fA2 : Facts := ⟨14, 1, true, 5, 10000, 10, 100, 0⟩
theorem policy_Ready1 : Fv Try.prog 56 [.agg cA.g, .agg fA1.g] (.int .i64 15) := by
  refine Fv.of_awp Try.func56 rfl (by kernel_rfl) rfl (Nat.le_of_ble_eq_true rfl) ?_
  have h : Fv Try.prog _ [.int .i64 10, .int .i64 5] (.int .i64 15) := ticks_Add 10 5
  repeat' (conv => whnf
           first
           | (refine ⟨_, h, ?_⟩)
           | (refine cond_f ?_ ?_)
           | (refine ⟨_, ⟨by decide, rfl⟩, ?_⟩)
           | (refine cond_i (fun h => ?_) (fun h => ?_)))
  all_goals (conv => whnf)
  all_goals rfl
theorem policy_Decide1 : Fv Try.prog 51 [.agg cA.g, .agg fA1.g] (.tup [.int .i64 0, .int .i64 15]) := by
  refine Fv.of_awp Try.func51 rfl (by kernel_rfl) rfl (Nat.le_of_ble_eq_true rfl) ?_
  have h1 : Fv Try.prog _ [.int .i64 14] (.bool true) := code_Again 14
  have h2 : Fv Try.prog _ [.int .i64 10000, .int .i64 10] (.bool true) := throttle_May 10000 10
  have h3 : Fv Try.prog _ [.int .i64 100, .int .i64 15, .int .i64 0] (.bool true) := budget_Enough 100 15 0
  repeat' (conv => whnf
           first
           | (refine ⟨_, h1, ?_⟩)
           | (refine ⟨_, h2, ?_⟩)
           | (refine ⟨_, policy_Ready1, ?_⟩)
           | (refine ⟨_, h3, ?_⟩)
           | (refine cond_f ?_ ?_)
           | (refine ⟨_, ⟨by decide, rfl⟩, ?_⟩)
           | (refine cond_i (fun h => ?_) (fun h => ?_)))
  all_goals (conv => whnf)
  all_goals rfl
theorem policy_Decide2 : Fv Try.prog 51 [.agg cA.g, .agg fA2.g] (.tup [.int .i64 2, .int .i64 0]) := by
  refine Fv.of_awp Try.func51 rfl (by kernel_rfl) rfl (Nat.le_of_ble_eq_true rfl) ?_
  have h1 : Fv Try.prog _ [.int .i64 14] (.bool true) := code_Again 14
  repeat' (conv => whnf
           first
           | (refine ⟨_, h1, ?_⟩)
           | (refine cond_f ?_ ?_)
           | (refine ⟨_, ⟨by decide, rfl⟩, ?_⟩)
           | (refine cond_i (fun h => ?_) (fun h => ?_)))
  all_goals (conv => whnf)
  all_goals rfl
theorem law20_awake : Fv Try.prog 53 [] (.bool true) := by
  refine Fv.of_awp Try.func53 rfl (by kernel_rfl) rfl (Nat.le_of_ble_eq_true rfl) ?_
  repeat' (conv => whnf
           first
           | (refine ⟨_, Fv.nl policy_Decide1, ?_⟩)
           | (refine ⟨_, Fv.nl policy_Decide2, ?_⟩)
           | (refine cond_f ?_ ?_)
           | (refine ⟨_, ⟨by decide, rfl⟩, ?_⟩)
           | (refine cond_i (fun h => ?_) (fun h => ?_)))
  all_goals (conv => whnf)
  all_goals rfl
theorem law20_PolicyGrows (c : Config) : Fv Try.prog 16 [.agg c.g] (.bool true) := by
  refine Fv.of_awp Try.func16 rfl (by kernel_rfl) rfl (Nat.le_of_ble_eq_true rfl) ?_
  have hd := policy_Most { c with hops := IntKind.i64.wrap (c.hops + 1) }
  have hw := policy_Most { c with fan := IntKind.i64.wrap (c.fan + 1) }
  have gr := fun a b d => grows c a b d _ _ rfl rfl
  generalize mostN { c with hops := IntKind.i64.wrap (c.hops + 1) } = md at *
  generalize mostN { c with fan := IntKind.i64.wrap (c.fan + 1) } = mw at *
  repeat' (conv => whnf
           first
           | (refine ⟨_, policy_Most c, ?_⟩)
           | (refine ⟨_, hd, ?_⟩)
           | (refine ⟨_, hw, ?_⟩)
           | (refine ⟨_, law20_awake, ?_⟩)
           | (refine cond_f ?_ ?_)
           | (refine ⟨_, ⟨by decide, rfl⟩, ?_⟩)
           | (refine cond_i (fun h => ?_) (fun h => ?_)))
  all_goals (conv => whnf)
  all_goals
    simp only [beq_iff_eq, beq_eq_false_iff_ne, bne_iff_ne, bne_eq_false_iff_eq, ne_eq, decide_eq_true_eq, decide_eq_false_iff_not] at *
    have g := gr (by omega) (by omega) (by omega)
    clear gr hd hw
    generalize IntKind.i64.wrap (IntKind.i64.wrap (c.fan * c.attempts) * IntKind.i64.wrap (mostN c + 1)) = z at *
    first | omega | (exfalso; omega) | trace_state
end Go.Proofs.Ytfaoeafmgigpcaa.Cn
