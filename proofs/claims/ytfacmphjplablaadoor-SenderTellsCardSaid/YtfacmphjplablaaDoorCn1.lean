
/- Contracts of the functions on times, codes and leases. No condition. -/
import Derived.Test.YtfacmphjplablaaDoorSp1
import Derived.Test.YtfacmphjplablaaDoorProg
import Derived.KernelRfl
namespace Go.Proofs.YtfacmphjplablaaDoor.Cn
open Go Go.Proofs Go.Proofs.YtfacmphjplablaaDoor.Av Go.Proofs.YtfacmphjplablaaDoor.Sp
set_option linter.unusedVariables false
set_option linter.unusedSimpArgs false
set_option maxRecDepth 100000

theorem int_eq {a b : Int} (h : a = b) : G.int .i64 a = G.int .i64 b := by rw [h]
theorem bool_eq {a b : Bool} (h : a = b) : G.bool a = G.bool b := by rw [h]

theorem ticks_Clamp (a : Int) : Fv Tryd.prog 42 [.int .i64 a] (.int .i64 (clamp a)) := by
  refine Fv.of_awp Tryd.func42 rfl (by kernel_rfl) rfl (Nat.le_of_ble_eq_true rfl) ?_
  repeat' (conv => whnf
           first
           | (refine And.intro (by kernel_rfl) ?_)
           | (refine And.intro ⟨by kernel_rfl, by kernel_rfl⟩ ?_)
           | (refine cond_f ?_ ?_)
           | (refine ⟨_, ⟨by decide, rfl⟩, ?_⟩)
           | (refine cond_i (fun h => ?_) (fun h => ?_)))
  all_goals (conv => whnf)
  refine int_eq ?_
  unfold clamp
  (repeat' split) <;> omega
theorem ref01_Clamp (a : Int) : Fv Tryd.prog 16 [.int .i64 a] (.int .i64 (clamp a)) := by
  refine Fv.of_awp Tryd.func16 rfl (by kernel_rfl) rfl (Nat.le_of_ble_eq_true rfl) ?_
  repeat' (conv => whnf
           first
           | (refine And.intro (by kernel_rfl) ?_)
           | (refine And.intro ⟨by kernel_rfl, by kernel_rfl⟩ ?_)
           | (refine cond_f ?_ ?_)
           | (refine ⟨_, ⟨by decide, rfl⟩, ?_⟩)
           | (refine cond_i (fun h => ?_) (fun h => ?_)))
  all_goals (conv => whnf)
  all_goals
    refine int_eq ?_
    simp only [decide_eq_true_eq, decide_eq_false_iff_not] at *
    unfold clamp
    (repeat' split) <;> omega
theorem ticks_Add (a b : Int) : Fv Tryd.prog 83 [.int .i64 a, .int .i64 b] (.int .i64 (add a b)) := by
  refine Fv.of_awp Tryd.func83 rfl (by kernel_rfl) rfl (Nat.le_of_ble_eq_true rfl) ?_
  repeat' (conv => whnf
           first
           | (refine And.intro (by kernel_rfl) ?_)
           | (refine And.intro ⟨by kernel_rfl, by kernel_rfl⟩ ?_)
           | (refine Or.inl ⟨_, ticks_Clamp _, ?_⟩)
           | (refine ⟨_, ticks_Clamp _, ?_⟩)
           | (refine cond_f ?_ ?_)
           | (refine ⟨_, ⟨by decide, rfl⟩, ?_⟩)
           | (refine cond_i (fun h => ?_) (fun h => ?_)))
  all_goals (conv => whnf)
  refine int_eq ?_
  have h1 := clamp_bd a
  have h2 := clamp_bd b
  unfold add
  rw [wrap_i64 (by omega)]
theorem ref01_Add (a b : Int) : Fv Tryd.prog 136 [.int .i64 a, .int .i64 b] (.int .i64 (add a b)) := by
  refine Fv.of_awp Tryd.func136 rfl (by kernel_rfl) rfl (Nat.le_of_ble_eq_true rfl) ?_
  repeat' (conv => whnf
           first
           | (refine And.intro (by kernel_rfl) ?_)
           | (refine And.intro ⟨by kernel_rfl, by kernel_rfl⟩ ?_)
           | (refine Or.inl ⟨_, ref01_Clamp _, ?_⟩)
           | (refine ⟨_, ref01_Clamp _, ?_⟩)
           | (refine cond_f ?_ ?_)
           | (refine ⟨_, ⟨by decide, rfl⟩, ?_⟩)
           | (refine cond_i (fun h => ?_) (fun h => ?_)))
  all_goals (conv => whnf)
  all_goals
    refine int_eq ?_
    have h1 := clamp_bd a
    have h2 := clamp_bd b
    unfold add
    generalize clamp a = x at *
    generalize clamp b = y at *
    simp only [decide_eq_true_eq, decide_eq_false_iff_not] at *
    rw [wrap_i64 (by omega)] at *
    unfold clamp
    (repeat' split) <;> omega
theorem ticks_Sub (a b : Int) : Fv Tryd.prog 112 [.int .i64 a, .int .i64 b] (.int .i64 (sub a b)) := by
  refine Fv.of_awp Tryd.func112 rfl (by kernel_rfl) rfl (Nat.le_of_ble_eq_true rfl) ?_
  repeat' (conv => whnf
           first
           | (refine And.intro (by kernel_rfl) ?_)
           | (refine And.intro ⟨by kernel_rfl, by kernel_rfl⟩ ?_)
           | (refine Or.inl ⟨_, ticks_Clamp _, ?_⟩)
           | (refine ⟨_, ticks_Clamp _, ?_⟩)
           | (refine cond_f ?_ ?_)
           | (refine ⟨_, ⟨by decide, rfl⟩, ?_⟩)
           | (refine cond_i (fun h => ?_) (fun h => ?_)))
  all_goals (conv => whnf)
  refine int_eq ?_
  have h1 := clamp_bd a
  have h2 := clamp_bd b
  unfold sub
  rw [wrap_i64 (by omega)]
  (repeat' split) <;> omega
theorem ref01_Sub (a b : Int) : Fv Tryd.prog 30 [.int .i64 a, .int .i64 b] (.int .i64 (sub a b)) := by
  refine Fv.of_awp Tryd.func30 rfl (by kernel_rfl) rfl (Nat.le_of_ble_eq_true rfl) ?_
  repeat' (conv => whnf
           first
           | (refine And.intro (by kernel_rfl) ?_)
           | (refine And.intro ⟨by kernel_rfl, by kernel_rfl⟩ ?_)
           | (refine Or.inl ⟨_, ref01_Clamp _, ?_⟩)
           | (refine ⟨_, ref01_Clamp _, ?_⟩)
           | (refine cond_f ?_ ?_)
           | (refine ⟨_, ⟨by decide, rfl⟩, ?_⟩)
           | (refine cond_i (fun h => ?_) (fun h => ?_)))
  all_goals (conv => whnf)
  all_goals
    refine int_eq ?_
    have h1 := clamp_bd a
    have h2 := clamp_bd b
    simp only [decide_eq_true_eq, decide_eq_false_iff_not] at *
    unfold sub
    try rw [wrap_i64 (by omega)]
    (repeat' split) <;> omega
theorem code_names : Fv Tryd.prog 132 [] (.agg (names.map G.str)) := by
  refine Fv.of_awp Tryd.func132 rfl (by kernel_rfl) rfl (Nat.le_of_ble_eq_true rfl) ?_
  conv => whnf
  rfl
theorem code_Right (a : Int) : Fv Tryd.prog 107 [.int .i64 a] (.bool (right a)) := by
  refine Fv.of_awp Tryd.func107 rfl (by kernel_rfl) rfl (Nat.le_of_ble_eq_true rfl) ?_
  repeat' (conv => whnf
           first
           | (refine And.intro (by kernel_rfl) ?_)
           | (refine And.intro ⟨by kernel_rfl, by kernel_rfl⟩ ?_)
           | (refine Or.inl ⟨_, code_names, ?_⟩)
           | (refine ⟨_, code_names, ?_⟩)
           | (refine cond_f ?_ ?_)
           | (refine ⟨_, ⟨by decide, rfl⟩, ?_⟩)
           | (refine cond_i (fun h => ?_) (fun h => ?_)))
  all_goals (conv => whnf)
  all_goals
    refine bool_eq ?_
    unfold right
    simp only [decide_eq_true_eq, decide_eq_false_iff_not, ge_iff_le] at *
    rw [Bool.eq_iff_iff]
    simp
    omega
theorem ref05_Right (a : Int) : Fv Tryd.prog 115 [.int .i64 a] (.bool (right a)) := by
  refine Fv.of_awp Tryd.func115 rfl (by kernel_rfl) rfl (Nat.le_of_ble_eq_true rfl) ?_
  repeat' (conv => whnf
           first
           | (refine And.intro (by kernel_rfl) ?_)
           | (refine And.intro ⟨by kernel_rfl, by kernel_rfl⟩ ?_)
           | (refine cond_f ?_ ?_)
           | (refine ⟨_, ⟨by decide, rfl⟩, ?_⟩)
           | (refine cond_i (fun h => ?_) (fun h => ?_)))
  all_goals (conv => whnf)
  all_goals
    refine bool_eq ?_
    unfold right
    simp only [decide_eq_true_eq, decide_eq_false_iff_not, ge_iff_le] at *
    rw [Bool.eq_iff_iff]
    simp
    omega
theorem right_iff (a : Int) : right a = true ↔ 0 ≤ a ∧ a ≤ 16 := by unfold right; simp
theorem clean_right {a : Int} (h : right a = true) : clean a = a := by unfold clean; rw [if_pos ((right_iff a).1 h)]
theorem clean_wrong {a : Int} (h : right a = false) : clean a = 2 := by unfold clean; rw [if_neg (fun h' => by rw [(right_iff a).2 h'] at h; cases h)]
theorem code_Clean (a : Int) : Fv Tryd.prog 73 [.int .i64 a] (.int .i64 (clean a)) := by
  refine Fv.of_awp Tryd.func73 rfl (by kernel_rfl) rfl (Nat.le_of_ble_eq_true rfl) ?_
  repeat' (conv => whnf
           first
           | (refine And.intro (by kernel_rfl) ?_)
           | (refine And.intro ⟨by kernel_rfl, by kernel_rfl⟩ ?_)
           | (refine Or.inl ⟨_, code_Right _, ?_⟩)
           | (refine ⟨_, code_Right _, ?_⟩)
           | (refine cond_f ?_ ?_)
           | (refine ⟨_, ⟨by decide, rfl⟩, ?_⟩)
           | (refine cond_i (fun h => ?_) (fun h => ?_)))
  all_goals (conv => whnf)
  all_goals
    refine int_eq ?_
    simp only [Bool.not_eq_true', Bool.not_eq_false'] at *
    first | exact (clean_right ‹_›).symm | exact (clean_wrong ‹_›).symm
theorem ref05_Clean (a : Int) : Fv Tryd.prog 76 [.int .i64 a] (.int .i64 (clean a)) := by
  refine Fv.of_awp Tryd.func76 rfl (by kernel_rfl) rfl (Nat.le_of_ble_eq_true rfl) ?_
  repeat' (conv => whnf
           first
           | (refine And.intro (by kernel_rfl) ?_)
           | (refine And.intro ⟨by kernel_rfl, by kernel_rfl⟩ ?_)
           | (refine Or.inl ⟨_, ref05_Right _, ?_⟩)
           | (refine ⟨_, ref05_Right _, ?_⟩)
           | (refine cond_f ?_ ?_)
           | (refine ⟨_, ⟨by decide, rfl⟩, ?_⟩)
           | (refine cond_i (fun h => ?_) (fun h => ?_)))
  all_goals (conv => whnf)
  all_goals
    refine int_eq ?_
    first | exact (clean_right ‹_›).symm | exact (clean_wrong ‹_›).symm
theorem code_rank (a : Int) : Fv Tryd.prog 116 [.int .i64 a] (.int .i64 (rank a)) := by
  refine Fv.of_awp Tryd.func116 rfl (by kernel_rfl) rfl (Nat.le_of_ble_eq_true rfl) ?_
  repeat' (conv => whnf
           first
           | (refine And.intro (by kernel_rfl) ?_)
           | (refine And.intro ⟨by kernel_rfl, by kernel_rfl⟩ ?_)
           | (refine Or.inl ⟨_, code_Clean _, ?_⟩)
           | (refine ⟨_, code_Clean _, ?_⟩)
           | (refine cond_f ?_ ?_)
           | (refine ⟨_, ⟨by decide, rfl⟩, ?_⟩)
           | (refine cond_i (fun h => ?_) (fun h => ?_)))
  all_goals (conv => whnf)
  all_goals
    refine int_eq ?_
    have := clean_bd a
    unfold rank
    simp only [beq_iff_eq, beq_eq_false_iff_ne, ne_eq] at *
    try rw [wrap_i64 (by omega)]
    (repeat' split) <;> omega
theorem code_Join (a b : Int) : Fv Tryd.prog 79 [.int .i64 a, .int .i64 b] (.int .i64 (join a b)) := by
  refine Fv.of_awp Tryd.func79 rfl (by kernel_rfl) rfl (Nat.le_of_ble_eq_true rfl) ?_
  repeat' (conv => whnf
           first
           | (refine And.intro (by kernel_rfl) ?_)
           | (refine And.intro ⟨by kernel_rfl, by kernel_rfl⟩ ?_)
           | (refine Or.inl ⟨_, code_Clean _, ?_⟩)
           | (refine ⟨_, code_Clean _, ?_⟩)
           | (refine Or.inl ⟨_, code_rank _, ?_⟩)
           | (refine ⟨_, code_rank _, ?_⟩)
           | (refine cond_f ?_ ?_)
           | (refine ⟨_, ⟨by decide, rfl⟩, ?_⟩)
           | (refine cond_i (fun h => ?_) (fun h => ?_)))
  all_goals (conv => whnf)
  all_goals
    refine int_eq ?_
    simp only [rank_clean, decide_eq_true_eq, decide_eq_false_iff_not] at *
    unfold join
    (repeat' split) <;> omega
theorem ref05_place (a : Int) : Fv Tryd.prog 117 [.int .i64 a] (.int .i64 (place a)) := by
  refine Fv.of_awp Tryd.func117 rfl (by kernel_rfl) rfl (Nat.le_of_ble_eq_true rfl) ?_
  repeat' (conv => whnf
           first
           | (refine And.intro (by kernel_rfl) ?_)
           | (refine And.intro ⟨by kernel_rfl, by kernel_rfl⟩ ?_)
           | (refine cond_f ?_ ?_)
           | (refine ⟨_, ⟨by decide, rfl⟩, ?_⟩)
           | (refine cond_i (fun h => ?_) (fun h => ?_)))
  all_goals (conv => whnf)
  refine Has.ofN 18 ?_
  repeat' (conv => whnf
           first
           | (refine And.intro (by kernel_rfl) ?_)
           | (refine And.intro ⟨by kernel_rfl, by kernel_rfl⟩ ?_)
           | (refine Or.inl ⟨_, ref05_Clean _, ?_⟩)
           | (refine ⟨_, ref05_Clean _, ?_⟩)
           | (refine cond_f ?_ ?_)
           | (refine ⟨_, ⟨by decide, rfl⟩, ?_⟩)
           | (refine cond_i (fun h => ?_) (fun h => ?_)))
  all_goals (conv => whnf)
  all_goals
    refine int_eq ?_
    have hb := clean_bd a
    simp only [beq_iff_eq, beq_eq_false_iff_ne, ne_eq] at *
    unfold place
    generalize clean a = x at *
    first
    | (subst_vars; rfl)
    | (exfalso; omega)
    | (have : (x.toNat : Int) = x := Int.toNat_of_nonneg hb.1
       exfalso; omega)
    | skip
theorem ref05_Join (a b : Int) : Fv Tryd.prog 80 [.int .i64 a, .int .i64 b] (.int .i64 (join a b)) := by
  refine Fv.of_awp Tryd.func80 rfl (by kernel_rfl) rfl (Nat.le_of_ble_eq_true rfl) ?_
  repeat' (conv => whnf
           first
           | (refine And.intro (by kernel_rfl) ?_)
           | (refine And.intro ⟨by kernel_rfl, by kernel_rfl⟩ ?_)
           | (refine Or.inl ⟨_, ref05_Clean _, ?_⟩)
           | (refine ⟨_, ref05_Clean _, ?_⟩)
           | (refine Or.inl ⟨_, ref05_place _, ?_⟩)
           | (refine ⟨_, ref05_place _, ?_⟩)
           | (refine cond_f ?_ ?_)
           | (refine ⟨_, ⟨by decide, rfl⟩, ?_⟩)
           | (refine cond_i (fun h => ?_) (fun h => ?_)))
  all_goals (conv => whnf)
  all_goals
    refine int_eq ?_
    simp only [decide_eq_true_eq, decide_eq_false_iff_not, place_lt] at *
    unfold join
    (repeat' split) <;> omega
end Go.Proofs.YtfacmphjplablaaDoor.Cn
