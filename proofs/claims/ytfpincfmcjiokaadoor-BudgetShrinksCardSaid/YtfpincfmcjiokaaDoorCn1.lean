/- Contracts of the functions on times, codes and leases. No condition. -/
import Derived.Test.YtfpincfmcjiokaaDoorSp1
import Derived.Test.YtfpincfmcjiokaaDoorProg
import Derived.KernelRfl
namespace Go.Proofs.YtfpincfmcjiokaaDoor.Cn
open Go Go.Proofs Go.Proofs.YtfpincfmcjiokaaDoor.Av Go.Proofs.YtfpincfmcjiokaaDoor.Sp
set_option linter.unusedVariables false
set_option linter.unusedSimpArgs false
set_option maxRecDepth 100000

theorem int_eq {a b : Int} (h : a = b) : G.int .i64 a = G.int .i64 b := by rw [h]
theorem bool_eq {a b : Bool} (h : a = b) : G.bool a = G.bool b := by rw [h]

theorem ticks_Clamp (a : Int) : Fv Tryd.prog 31 [.int .i64 a] (.int .i64 (clamp a)) := by
  refine Fv.of_awp Tryd.func31 rfl (by kernel_rfl) rfl (Nat.le_of_ble_eq_true rfl) ?_
  repeat' (conv => whnf
           first
           | (refine And.intro (by kernel_rfl) ?_)
           | (refine And.intro ⟨by kernel_rfl, by kernel_rfl⟩ ?_)
           | (refine cond_f ?_ ?_)
           | (refine ⟨_, ⟨by decide, rfl⟩, ?_⟩)
           | (refine cond_i (fun h => ?_) (fun h => ?_)))
  all_goals (conv => whnf)
  refine int_eq ?_
  unfold clamp
  (repeat' split) <;> omega
theorem ref01_Clamp (a : Int) : Fv Tryd.prog 14 [.int .i64 a] (.int .i64 (clamp a)) := by
  refine Fv.of_awp Tryd.func14 rfl (by kernel_rfl) rfl (Nat.le_of_ble_eq_true rfl) ?_
  repeat' (conv => whnf
           first
           | (refine And.intro (by kernel_rfl) ?_)
           | (refine And.intro ⟨by kernel_rfl, by kernel_rfl⟩ ?_)
           | (refine cond_f ?_ ?_)
           | (refine ⟨_, ⟨by decide, rfl⟩, ?_⟩)
           | (refine cond_i (fun h => ?_) (fun h => ?_)))
  all_goals (conv => whnf)
  all_goals
    refine int_eq ?_
    simp only [decide_eq_true_eq, decide_eq_false_iff_not] at *
    unfold clamp
    (repeat' split) <;> omega
theorem ticks_Add (a b : Int) : Fv Tryd.prog 34 [.int .i64 a, .int .i64 b] (.int .i64 (add a b)) := by
  refine Fv.of_awp Tryd.func34 rfl (by kernel_rfl) rfl (Nat.le_of_ble_eq_true rfl) ?_
  repeat' (conv => whnf
           first
           | (refine And.intro (by kernel_rfl) ?_)
           | (refine And.intro ⟨by kernel_rfl, by kernel_rfl⟩ ?_)
           | (refine Or.inl ⟨_, ticks_Clamp _, ?_⟩)
           | (refine ⟨_, ticks_Clamp _, ?_⟩)
           | (refine cond_f ?_ ?_)
           | (refine ⟨_, ⟨by decide, rfl⟩, ?_⟩)
           | (refine cond_i (fun h => ?_) (fun h => ?_)))
  all_goals (conv => whnf)
  refine int_eq ?_
  have h1 := clamp_bd a
  have h2 := clamp_bd b
  unfold add
  rw [wrap_i64 (by omega)]
theorem ref01_Add (a b : Int) : Fv Tryd.prog 35 [.int .i64 a, .int .i64 b] (.int .i64 (add a b)) := by
  refine Fv.of_awp Tryd.func35 rfl (by kernel_rfl) rfl (Nat.le_of_ble_eq_true rfl) ?_
  repeat' (conv => whnf
           first
           | (refine And.intro (by kernel_rfl) ?_)
           | (refine And.intro ⟨by kernel_rfl, by kernel_rfl⟩ ?_)
           | (refine Or.inl ⟨_, ref01_Clamp _, ?_⟩)
           | (refine ⟨_, ref01_Clamp _, ?_⟩)
           | (refine cond_f ?_ ?_)
           | (refine ⟨_, ⟨by decide, rfl⟩, ?_⟩)
           | (refine cond_i (fun h => ?_) (fun h => ?_)))
  all_goals (conv => whnf)
  all_goals
    refine int_eq ?_
    have h1 := clamp_bd a
    have h2 := clamp_bd b
    unfold add
    generalize clamp a = x at *
    generalize clamp b = y at *
    simp only [decide_eq_true_eq, decide_eq_false_iff_not] at *
    rw [wrap_i64 (by omega)] at *
    unfold clamp
    (repeat' split) <;> omega
theorem ticks_Sub (a b : Int) : Fv Tryd.prog 36 [.int .i64 a, .int .i64 b] (.int .i64 (sub a b)) := by
  refine Fv.of_awp Tryd.func36 rfl (by kernel_rfl) rfl (Nat.le_of_ble_eq_true rfl) ?_
  repeat' (conv => whnf
           first
           | (refine And.intro (by kernel_rfl) ?_)
           | (refine And.intro ⟨by kernel_rfl, by kernel_rfl⟩ ?_)
           | (refine Or.inl ⟨_, ticks_Clamp _, ?_⟩)
           | (refine ⟨_, ticks_Clamp _, ?_⟩)
           | (refine cond_f ?_ ?_)
           | (refine ⟨_, ⟨by decide, rfl⟩, ?_⟩)
           | (refine cond_i (fun h => ?_) (fun h => ?_)))
  all_goals (conv => whnf)
  refine int_eq ?_
  have h1 := clamp_bd a
  have h2 := clamp_bd b
  unfold sub
  rw [wrap_i64 (by omega)]
  (repeat' split) <;> omega
theorem ref01_Sub (a b : Int) : Fv Tryd.prog 20 [.int .i64 a, .int .i64 b] (.int .i64 (sub a b)) := by
  refine Fv.of_awp Tryd.func20 rfl (by kernel_rfl) rfl (Nat.le_of_ble_eq_true rfl) ?_
  repeat' (conv => whnf
           first
           | (refine And.intro (by kernel_rfl) ?_)
           | (refine And.intro ⟨by kernel_rfl, by kernel_rfl⟩ ?_)
           | (refine Or.inl ⟨_, ref01_Clamp _, ?_⟩)
           | (refine ⟨_, ref01_Clamp _, ?_⟩)
           | (refine cond_f ?_ ?_)
           | (refine ⟨_, ⟨by decide, rfl⟩, ?_⟩)
           | (refine cond_i (fun h => ?_) (fun h => ?_)))
  all_goals (conv => whnf)
  all_goals
    refine int_eq ?_
    have h1 := clamp_bd a
    have h2 := clamp_bd b
    simp only [decide_eq_true_eq, decide_eq_false_iff_not] at *
    unfold sub
    try rw [wrap_i64 (by omega)]
    (repeat' split) <;> omega
theorem right_iff (a : Int) : right a = true ↔ 0 ≤ a ∧ a ≤ 16 := by unfold right; simp
theorem clean_right {a : Int} (h : right a = true) : clean a = a := by unfold clean; rw [if_pos ((right_iff a).1 h)]
theorem clean_wrong {a : Int} (h : right a = false) : clean a = 2 := by unfold clean; rw [if_neg (fun h' => by rw [(right_iff a).2 h'] at h; cases h)]
end Go.Proofs.YtfpincfmcjiokaaDoor.Cn
