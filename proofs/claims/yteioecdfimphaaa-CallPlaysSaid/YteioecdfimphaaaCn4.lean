/- Contracts of the functions on whether one tries again. No condition. -/
import Derived.Test.YteioecdfimphaaaCn1
import Derived.Test.YteioecdfimphaaaAv16
import Derived.Test.YteioecdfimphaaaSp4
namespace Go.Proofs.Yteioecdfimphaaa.Cn
open Go Go.Proofs Go.Proofs.Yteioecdfimphaaa.Av Go.Proofs.Yteioecdfimphaaa.Sp
set_option linter.unusedVariables false
set_option linter.unusedSimpArgs false
set_option maxRecDepth 100000

theorem code_Again (a : Int) : Fv Try.prog 85 [.int .i64 a] (.bool (decide (a = 14 ∨ a = 8))) := by
  refine Fv.of_awp Try.func85 rfl (by kernel_rfl) rfl (Nat.le_of_ble_eq_true rfl) ?_
  repeat' (conv => whnf
           first
           | (refine And.intro (by kernel_rfl) ?_)
           | (refine cond_f ?_ ?_)
           | (refine ⟨_, ⟨by decide, rfl⟩, ?_⟩)
           | (refine cond_i (fun h => ?_) (fun h => ?_)))
  all_goals (conv => whnf)
  all_goals
    refine bool_eq ?_
    simp only [beq_iff_eq, beq_eq_false_iff_ne, ne_eq] at *
    simp [*]
    try rfl
theorem throttle_Full (t : Int) : Fv Try.prog 93 [.int .i64 t] (.int .i64 (tFull t)) := by
  refine Fv.of_awp Try.func93 rfl (by kernel_rfl) rfl (Nat.le_of_ble_eq_true rfl) ?_
  repeat' (conv => whnf
           first
           | (refine And.intro (by kernel_rfl) ?_)
           | (refine cond_f ?_ ?_)
           | (refine ⟨_, ⟨by decide, rfl⟩, ?_⟩)
           | (refine cond_i (fun h => ?_) (fun h => ?_)))
  all_goals (conv => whnf)
  all_goals
    refine int_eq ?_
    unfold tFull
    exact wrap_i64 (by (repeat' split) <;> omega)
theorem throttle_clean (h t : Int) : Fv Try.prog 92 [.int .i64 h, .int .i64 t] (.int .i64 (tClean h t)) := by
  refine Fv.of_awp Try.func92 rfl (by kernel_rfl) rfl (Nat.le_of_ble_eq_true rfl) ?_
  repeat' (conv => whnf
           first
           | (refine And.intro (by kernel_rfl) ?_)
           | (refine ⟨_, throttle_Full _, ?_⟩)
           | (refine cond_f ?_ ?_)
           | (refine ⟨_, ⟨by decide, rfl⟩, ?_⟩)
           | (refine cond_i (fun h => ?_) (fun h => ?_)))
  all_goals (conv => whnf)
  all_goals rfl
theorem throttle_May (h t : Int) : Fv Try.prog 86 [.int .i64 h, .int .i64 t] (.bool (tMay h t)) := by
  refine Fv.of_awp Try.func86 rfl (by kernel_rfl) rfl (Nat.le_of_ble_eq_true rfl) ?_
  repeat' (conv => whnf
           first
           | (refine And.intro (by kernel_rfl) ?_)
           | (refine ⟨_, throttle_Full _, ?_⟩)
           | (refine ⟨_, throttle_clean _ _, ?_⟩)
           | (refine cond_f ?_ ?_)
           | (refine ⟨_, ⟨by decide, rfl⟩, ?_⟩)
           | (refine cond_i (fun h => ?_) (fun h => ?_)))
  all_goals (conv => whnf)
  all_goals
    refine bool_eq ?_
    have := tClean_bd h t
    unfold tMay
    rw [wrap_i64 (by omega)]
theorem budget_Left (a b : Int) : Fv Try.prog 95 [.int .i64 a, .int .i64 b] (.int .i64 (sub a b)) := by
  refine Fv.of_awp Try.func95 rfl (by kernel_rfl) rfl (Nat.le_of_ble_eq_true rfl) ?_
  repeat' (conv => whnf
           first
           | (refine And.intro (by kernel_rfl) ?_)
           | (refine ⟨_, ticks_Sub _ _, ?_⟩)
           | (refine cond_f ?_ ?_)
           | (refine ⟨_, ⟨by decide, rfl⟩, ?_⟩)
           | (refine cond_i (fun h => ?_) (fun h => ?_)))
  all_goals (conv => whnf)
  all_goals rfl
theorem budget_Enough (a b c : Int) : Fv Try.prog 88 [.int .i64 a, .int .i64 b, .int .i64 c] (.bool (enough a b c)) := by
  refine Fv.of_awp Try.func88 rfl (by kernel_rfl) rfl (Nat.le_of_ble_eq_true rfl) ?_
  repeat' (conv => whnf
           first
           | (refine And.intro (by kernel_rfl) ?_)
           | (refine ⟨_, budget_Left _ _, ?_⟩)
           | (refine ⟨_, ticks_Clamp _, ?_⟩)
           | (refine cond_f ?_ ?_)
           | (refine ⟨_, ⟨by decide, rfl⟩, ?_⟩)
           | (refine cond_i (fun h => ?_) (fun h => ?_)))
  all_goals (conv => whnf)
  all_goals
    refine bool_eq ?_
    unfold enough
    simp [*]
def cA : Config := ⟨0, 0, 0, 0, 0, 0, 0, 0, 3, 1, 1, 0, 10, []⟩
def fA1 : Facts := ⟨14, 1, false, 5, 10000, 10, 100, 0⟩
def fA2 : Facts := ⟨14, 1, true, 5, 10000, 10, 100, 0⟩
end Go.Proofs.Yteioecdfimphaaa.Cn
