
/- Contracts of the functions on whether one tries again. No condition. -/
import Derived.Test.YtfacmphjplablaaDoorCn1
import Derived.Test.YtfacmphjplablaaDoorAv16
import Derived.Test.YtfacmphjplablaaDoorSp4
namespace Go.Proofs.YtfacmphjplablaaDoor.Cn
open Go Go.Proofs Go.Proofs.YtfacmphjplablaaDoor.Av Go.Proofs.YtfacmphjplablaaDoor.Sp
set_option linter.unusedVariables false
set_option linter.unusedSimpArgs false
set_option maxRecDepth 100000

theorem ticks_Mul (a b : Int) : Fv Tryd.prog 118 [.int .i64 a, .int .i64 b] (.int .i64 (mul a b)) := by
  refine Fv.of_awp Tryd.func118 rfl (by kernel_rfl) rfl (Nat.le_of_ble_eq_true rfl) ?_
  have h1 := clamp_bd a
  have h2 := clamp_bd b
  repeat' (conv => whnf
           first
           | (refine And.intro (by kernel_rfl) ?_)
           | (refine And.intro ⟨by kernel_rfl, by kernel_rfl⟩ ?_)
           | (refine Or.inl ⟨_, ticks_Clamp _, ?_⟩)
           | (refine ⟨_, ticks_Clamp _, ?_⟩)
           | (refine cond_f ?_ ?_)
           | (refine ⟨_, ⟨by decide, rfl⟩, ?_⟩)
           | (refine cond_i (fun h => ?_) (fun h => ?_)))
  all_goals (conv => whnf)
  all_goals try unfold mul
  all_goals
    generalize clamp a = x at *
    generalize clamp b = y at *
    simp only [decide_eq_true_eq, decide_eq_false_iff_not] at *
  · simp; omega
  all_goals refine int_eq ?_
  · have hy : 0 < y := by omega
    rw [Int.tdiv_eq_ediv_of_nonneg (by omega), wrap_i64 (by have := Int.ediv_le_self (a := 1125899906842624) y (by omega); have := Int.ediv_nonneg (a := 1125899906842624) (b := y) (by omega) (by omega); omega)] at h
    rw [if_pos ((Int.ediv_lt_iff_lt_mul hy).1 h)]
  · have hy : 0 < y := by omega
    rw [Int.tdiv_eq_ediv_of_nonneg (by omega), wrap_i64 (by have := Int.ediv_le_self (a := 1125899906842624) y (by omega); have := Int.ediv_nonneg (a := 1125899906842624) (b := y) (by omega) (by omega); omega)] at h
    have h3 : x * y ≤ 1125899906842624 := Int.mul_le_of_le_ediv hy (by omega)
    have h4 : 0 ≤ x * y := Int.mul_nonneg (by omega) (by omega)
    rw [if_neg (by omega), wrap_i64 (by omega)]
  · obtain rfl : y = 0 := by omega
    simp
    rfl
theorem code_Again (a : Int) : Fv Tryd.prog 120 [.int .i64 a] (.bool (decide (a = 14 ∨ a = 8))) := by
  refine Fv.of_awp Tryd.func120 rfl (by kernel_rfl) rfl (Nat.le_of_ble_eq_true rfl) ?_
  repeat' (conv => whnf
           first
           | (refine And.intro (by kernel_rfl) ?_)
           | (refine And.intro ⟨by kernel_rfl, by kernel_rfl⟩ ?_)
           | (refine cond_f ?_ ?_)
           | (refine ⟨_, ⟨by decide, rfl⟩, ?_⟩)
           | (refine cond_i (fun h => ?_) (fun h => ?_)))
  all_goals (conv => whnf)
  all_goals
    refine bool_eq ?_
    simp only [beq_iff_eq, beq_eq_false_iff_ne, ne_eq] at *
    simp [*]
    try rfl
theorem throttle_Full (t : Int) : Fv Tryd.prog 119 [.int .i64 t] (.int .i64 (tFull t)) := by
  refine Fv.of_awp Tryd.func119 rfl (by kernel_rfl) rfl (Nat.le_of_ble_eq_true rfl) ?_
  repeat' (conv => whnf
           first
           | (refine And.intro (by kernel_rfl) ?_)
           | (refine And.intro ⟨by kernel_rfl, by kernel_rfl⟩ ?_)
           | (refine cond_f ?_ ?_)
           | (refine ⟨_, ⟨by decide, rfl⟩, ?_⟩)
           | (refine cond_i (fun h => ?_) (fun h => ?_)))
  all_goals (conv => whnf)
  all_goals
    refine int_eq ?_
    unfold tFull
    exact wrap_i64 (by (repeat' split) <;> omega)
theorem throttle_clean (h t : Int) : Fv Tryd.prog 84 [.int .i64 h, .int .i64 t] (.int .i64 (tClean h t)) := by
  refine Fv.of_awp Tryd.func84 rfl (by kernel_rfl) rfl (Nat.le_of_ble_eq_true rfl) ?_
  repeat' (conv => whnf
           first
           | (refine And.intro (by kernel_rfl) ?_)
           | (refine And.intro ⟨by kernel_rfl, by kernel_rfl⟩ ?_)
           | (refine Or.inl ⟨_, throttle_Full _, ?_⟩)
           | (refine ⟨_, throttle_Full _, ?_⟩)
           | (refine cond_f ?_ ?_)
           | (refine ⟨_, ⟨by decide, rfl⟩, ?_⟩)
           | (refine cond_i (fun h => ?_) (fun h => ?_)))
  all_goals (conv => whnf)
  all_goals rfl
theorem throttle_May (h t : Int) : Fv Tryd.prog 121 [.int .i64 h, .int .i64 t] (.bool (tMay h t)) := by
  refine Fv.of_awp Tryd.func121 rfl (by kernel_rfl) rfl (Nat.le_of_ble_eq_true rfl) ?_
  repeat' (conv => whnf
           first
           | (refine And.intro (by kernel_rfl) ?_)
           | (refine And.intro ⟨by kernel_rfl, by kernel_rfl⟩ ?_)
           | (refine Or.inl ⟨_, throttle_Full _, ?_⟩)
           | (refine ⟨_, throttle_Full _, ?_⟩)
           | (refine Or.inl ⟨_, throttle_clean _ _, ?_⟩)
           | (refine ⟨_, throttle_clean _ _, ?_⟩)
           | (refine cond_f ?_ ?_)
           | (refine ⟨_, ⟨by decide, rfl⟩, ?_⟩)
           | (refine cond_i (fun h => ?_) (fun h => ?_)))
  all_goals (conv => whnf)
  all_goals
    refine bool_eq ?_
    have := tClean_bd h t
    unfold tMay
    rw [wrap_i64 (by omega)]
theorem budget_Left (a b : Int) : Fv Tryd.prog 74 [.int .i64 a, .int .i64 b] (.int .i64 (sub a b)) := by
  refine Fv.of_awp Tryd.func74 rfl (by kernel_rfl) rfl (Nat.le_of_ble_eq_true rfl) ?_
  repeat' (conv => whnf
           first
           | (refine And.intro (by kernel_rfl) ?_)
           | (refine And.intro ⟨by kernel_rfl, by kernel_rfl⟩ ?_)
           | (refine Or.inl ⟨_, ticks_Sub _ _, ?_⟩)
           | (refine ⟨_, ticks_Sub _ _, ?_⟩)
           | (refine cond_f ?_ ?_)
           | (refine ⟨_, ⟨by decide, rfl⟩, ?_⟩)
           | (refine cond_i (fun h => ?_) (fun h => ?_)))
  all_goals (conv => whnf)
  all_goals rfl
theorem budget_Enough (a b c : Int) : Fv Tryd.prog 40 [.int .i64 a, .int .i64 b, .int .i64 c] (.bool (enough a b c)) := by
  refine Fv.of_awp Tryd.func40 rfl (by kernel_rfl) rfl (Nat.le_of_ble_eq_true rfl) ?_
  repeat' (conv => whnf
           first
           | (refine And.intro (by kernel_rfl) ?_)
           | (refine And.intro ⟨by kernel_rfl, by kernel_rfl⟩ ?_)
           | (refine Or.inl ⟨_, budget_Left _ _, ?_⟩)
           | (refine ⟨_, budget_Left _ _, ?_⟩)
           | (refine Or.inl ⟨_, ticks_Clamp _, ?_⟩)
           | (refine ⟨_, ticks_Clamp _, ?_⟩)
           | (refine cond_f ?_ ?_)
           | (refine ⟨_, ⟨by decide, rfl⟩, ?_⟩)
           | (refine cond_i (fun h => ?_) (fun h => ?_)))
  all_goals (conv => whnf)
  all_goals
    refine bool_eq ?_
    unfold enough
    simp [*]
def cA : Config := ⟨0, 0, 0, 0, 0, 0, 0, 0, 3, 1, 1, 0, 10, []⟩
def fA1 : Facts := ⟨14, 1, false, 5, 10000, 10, 100, 0⟩
def fA2 : Facts := ⟨14, 1, true, 5, 10000, 10, 100, 0⟩
end Go.Proofs.YtfacmphjplablaaDoor.Cn
