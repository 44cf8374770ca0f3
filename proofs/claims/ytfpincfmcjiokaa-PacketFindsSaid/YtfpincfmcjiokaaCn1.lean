
/- Contracts of the functions on times, codes and leases. No condition. -/
import Derived.Test.YtfpincfmcjiokaaCn0
import Derived.Test.YtfpincfmcjiokaaSp1
import Derived.Test.YtfpincfmcjiokaaProg
import Derived.KernelRfl
namespace Go.Proofs.Ytfpincfmcjiokaa.Cn
open Go Go.Proofs Go.Proofs.Ytfpincfmcjiokaa.Av Go.Proofs.Ytfpincfmcjiokaa.Sp
set_option linter.unusedVariables false
set_option linter.unusedSimpArgs false
set_option maxRecDepth 100000


theorem ticks_Clamp (a : Int) : Fv Try.prog 63 [.int .i64 a] (.int .i64 (clamp a)) := by
  refine Fv.of_awp Try.func63 rfl (by kernel_rfl) rfl (Nat.le_of_ble_eq_true rfl) ?_
  repeat' (conv => whnf
           first
           | (refine And.intro (by kernel_rfl) ?_)
           | (refine And.intro ⟨by kernel_rfl, by kernel_rfl⟩ ?_)
           | (refine cond_f ?_ ?_)
           | (refine ⟨_, ⟨by decide, rfl⟩, ?_⟩)
           | (refine cond_i (fun h => ?_) (fun h => ?_)))
  all_goals (conv => whnf)
  refine int_eq ?_
  unfold clamp
  (repeat' split) <;> omega
theorem ref01_Clamp (a : Int) : Fv Try.prog 58 [.int .i64 a] (.int .i64 (clamp a)) := by
  refine Fv.of_awp Try.func58 rfl (by kernel_rfl) rfl (Nat.le_of_ble_eq_true rfl) ?_
  repeat' (conv => whnf
           first
           | (refine And.intro (by kernel_rfl) ?_)
           | (refine And.intro ⟨by kernel_rfl, by kernel_rfl⟩ ?_)
           | (refine cond_f ?_ ?_)
           | (refine ⟨_, ⟨by decide, rfl⟩, ?_⟩)
           | (refine cond_i (fun h => ?_) (fun h => ?_)))
  all_goals (conv => whnf)
  all_goals
    refine int_eq ?_
    simp only [decide_eq_true_eq, decide_eq_false_iff_not] at *
    unfold clamp
    (repeat' split) <;> omega
theorem ref01_Add (a b : Int) : Fv Try.prog 59 [.int .i64 a, .int .i64 b] (.int .i64 (add a b)) := by
  refine Fv.of_awp Try.func59 rfl (by kernel_rfl) rfl (Nat.le_of_ble_eq_true rfl) ?_
  repeat' (conv => whnf
           first
           | (refine And.intro (by kernel_rfl) ?_)
           | (refine And.intro ⟨by kernel_rfl, by kernel_rfl⟩ ?_)
           | (refine Or.inl ⟨_, ref01_Clamp _, ?_⟩)
           | (refine ⟨_, ref01_Clamp _, ?_⟩)
           | (refine cond_f ?_ ?_)
           | (refine ⟨_, ⟨by decide, rfl⟩, ?_⟩)
           | (refine cond_i (fun h => ?_) (fun h => ?_)))
  all_goals (conv => whnf)
  all_goals
    refine int_eq ?_
    have h1 := clamp_bd a
    have h2 := clamp_bd b
    unfold add
    generalize clamp a = x at *
    generalize clamp b = y at *
    simp only [decide_eq_true_eq, decide_eq_false_iff_not] at *
    rw [wrap_i64 (by omega)] at *
    unfold clamp
    (repeat' split) <;> omega
theorem code_names : Fv Try.prog 53 [] (.agg (names.map G.str)) := by
  refine Fv.of_awp Try.func53 rfl (by kernel_rfl) rfl (Nat.le_of_ble_eq_true rfl) ?_
  conv => whnf
  rfl
theorem code_Right (a : Int) : Fv Try.prog 24 [.int .i64 a] (.bool (right a)) := by
  refine Fv.of_awp Try.func24 rfl (by kernel_rfl) rfl (Nat.le_of_ble_eq_true rfl) ?_
  repeat' (conv => whnf
           first
           | (refine And.intro (by kernel_rfl) ?_)
           | (refine And.intro ⟨by kernel_rfl, by kernel_rfl⟩ ?_)
           | (refine Or.inl ⟨_, code_names, ?_⟩)
           | (refine ⟨_, code_names, ?_⟩)
           | (refine cond_f ?_ ?_)
           | (refine ⟨_, ⟨by decide, rfl⟩, ?_⟩)
           | (refine cond_i (fun h => ?_) (fun h => ?_)))
  all_goals (conv => whnf)
  all_goals
    refine bool_eq ?_
    unfold right
    simp only [decide_eq_true_eq, decide_eq_false_iff_not, ge_iff_le] at *
    rw [Bool.eq_iff_iff]
    simp
    omega
theorem ref05_Right (a : Int) : Fv Try.prog 20 [.int .i64 a] (.bool (right a)) := by
  refine Fv.of_awp Try.func20 rfl (by kernel_rfl) rfl (Nat.le_of_ble_eq_true rfl) ?_
  repeat' (conv => whnf
           first
           | (refine And.intro (by kernel_rfl) ?_)
           | (refine And.intro ⟨by kernel_rfl, by kernel_rfl⟩ ?_)
           | (refine cond_f ?_ ?_)
           | (refine ⟨_, ⟨by decide, rfl⟩, ?_⟩)
           | (refine cond_i (fun h => ?_) (fun h => ?_)))
  all_goals (conv => whnf)
  all_goals
    refine bool_eq ?_
    unfold right
    simp only [decide_eq_true_eq, decide_eq_false_iff_not, ge_iff_le] at *
    rw [Bool.eq_iff_iff]
    simp
    omega
theorem right_iff (a : Int) : right a = true ↔ 0 ≤ a ∧ a ≤ 16 := by unfold right; simp
theorem clean_right {a : Int} (h : right a = true) : clean a = a := by unfold clean; rw [if_pos ((right_iff a).1 h)]
theorem clean_wrong {a : Int} (h : right a = false) : clean a = 2 := by unfold clean; rw [if_neg (fun h' => by rw [(right_iff a).2 h'] at h; cases h)]
end Go.Proofs.Ytfpincfmcjiokaa.Cn
