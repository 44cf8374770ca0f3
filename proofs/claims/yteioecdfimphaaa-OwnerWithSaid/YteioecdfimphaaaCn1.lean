/- Contracts of the functions on times, codes and leases. No condition. -/
import Derived.Test.YteioecdfimphaaaSp1
import Derived.Test.YteioecdfimphaaaProg
import Derived.KernelRfl
namespace Go.Proofs.Yteioecdfimphaaa.Cn
open Go Go.Proofs Go.Proofs.Yteioecdfimphaaa.Av Go.Proofs.Yteioecdfimphaaa.Sp
set_option linter.unusedVariables false
set_option linter.unusedSimpArgs false
set_option maxRecDepth 100000

theorem int_eq {a b : Int} (h : a = b) : G.int .i64 a = G.int .i64 b := by rw [h]
theorem bool_eq {a b : Bool} (h : a = b) : G.bool a = G.bool b := by rw [h]

theorem ticks_Clamp (a : Int) : Fv Try.prog 57 [.int .i64 a] (.int .i64 (clamp a)) := by
  refine Fv.of_awp Try.func57 rfl (by kernel_rfl) rfl (Nat.le_of_ble_eq_true rfl) ?_
  repeat' (conv => whnf
           first
           | (refine And.intro (by kernel_rfl) ?_)
           | (refine And.intro ⟨by kernel_rfl, by kernel_rfl⟩ ?_)
           | (refine cond_f ?_ ?_)
           | (refine ⟨_, ⟨by decide, rfl⟩, ?_⟩)
           | (refine cond_i (fun h => ?_) (fun h => ?_)))
  all_goals (conv => whnf)
  refine int_eq ?_
  unfold clamp
  (repeat' split) <;> omega
theorem ref01_Clamp (a : Int) : Fv Try.prog 20 [.int .i64 a] (.int .i64 (clamp a)) := by
  refine Fv.of_awp Try.func20 rfl (by kernel_rfl) rfl (Nat.le_of_ble_eq_true rfl) ?_
  repeat' (conv => whnf
           first
           | (refine And.intro (by kernel_rfl) ?_)
           | (refine And.intro ⟨by kernel_rfl, by kernel_rfl⟩ ?_)
           | (refine cond_f ?_ ?_)
           | (refine ⟨_, ⟨by decide, rfl⟩, ?_⟩)
           | (refine cond_i (fun h => ?_) (fun h => ?_)))
  all_goals (conv => whnf)
  all_goals
    refine int_eq ?_
    simp only [decide_eq_true_eq, decide_eq_false_iff_not] at *
    unfold clamp
    (repeat' split) <;> omega
theorem ticks_Add (a b : Int) : Fv Try.prog 72 [.int .i64 a, .int .i64 b] (.int .i64 (add a b)) := by
  refine Fv.of_awp Try.func72 rfl (by kernel_rfl) rfl (Nat.le_of_ble_eq_true rfl) ?_
  repeat' (conv => whnf
           first
           | (refine And.intro (by kernel_rfl) ?_)
           | (refine And.intro ⟨by kernel_rfl, by kernel_rfl⟩ ?_)
           | (refine Or.inl ⟨_, ticks_Clamp _, ?_⟩)
           | (refine ⟨_, ticks_Clamp _, ?_⟩)
           | (refine cond_f ?_ ?_)
           | (refine ⟨_, ⟨by decide, rfl⟩, ?_⟩)
           | (refine cond_i (fun h => ?_) (fun h => ?_)))
  all_goals (conv => whnf)
  refine int_eq ?_
  have h1 := clamp_bd a
  have h2 := clamp_bd b
  unfold add
  rw [wrap_i64 (by omega)]
theorem ref01_Add (a b : Int) : Fv Try.prog 42 [.int .i64 a, .int .i64 b] (.int .i64 (add a b)) := by
  refine Fv.of_awp Try.func42 rfl (by kernel_rfl) rfl (Nat.le_of_ble_eq_true rfl) ?_
  repeat' (conv => whnf
           first
           | (refine And.intro (by kernel_rfl) ?_)
           | (refine And.intro ⟨by kernel_rfl, by kernel_rfl⟩ ?_)
           | (refine Or.inl ⟨_, ref01_Clamp _, ?_⟩)
           | (refine ⟨_, ref01_Clamp _, ?_⟩)
           | (refine cond_f ?_ ?_)
           | (refine ⟨_, ⟨by decide, rfl⟩, ?_⟩)
           | (refine cond_i (fun h => ?_) (fun h => ?_)))
  all_goals (conv => whnf)
  all_goals
    refine int_eq ?_
    have h1 := clamp_bd a
    have h2 := clamp_bd b
    unfold add
    generalize clamp a = x at *
    generalize clamp b = y at *
    simp only [decide_eq_true_eq, decide_eq_false_iff_not] at *
    rw [wrap_i64 (by omega)] at *
    unfold clamp
    (repeat' split) <;> omega
theorem ticks_Sub (a b : Int) : Fv Try.prog 100 [.int .i64 a, .int .i64 b] (.int .i64 (sub a b)) := by
  refine Fv.of_awp Try.func100 rfl (by kernel_rfl) rfl (Nat.le_of_ble_eq_true rfl) ?_
  repeat' (conv => whnf
           first
           | (refine And.intro (by kernel_rfl) ?_)
           | (refine And.intro ⟨by kernel_rfl, by kernel_rfl⟩ ?_)
           | (refine Or.inl ⟨_, ticks_Clamp _, ?_⟩)
           | (refine ⟨_, ticks_Clamp _, ?_⟩)
           | (refine cond_f ?_ ?_)
           | (refine ⟨_, ⟨by decide, rfl⟩, ?_⟩)
           | (refine cond_i (fun h => ?_) (fun h => ?_)))
  all_goals (conv => whnf)
  refine int_eq ?_
  have h1 := clamp_bd a
  have h2 := clamp_bd b
  unfold sub
  rw [wrap_i64 (by omega)]
  (repeat' split) <;> omega
theorem ref01_Sub (a b : Int) : Fv Try.prog 103 [.int .i64 a, .int .i64 b] (.int .i64 (sub a b)) := by
  refine Fv.of_awp Try.func103 rfl (by kernel_rfl) rfl (Nat.le_of_ble_eq_true rfl) ?_
  repeat' (conv => whnf
           first
           | (refine And.intro (by kernel_rfl) ?_)
           | (refine And.intro ⟨by kernel_rfl, by kernel_rfl⟩ ?_)
           | (refine Or.inl ⟨_, ref01_Clamp _, ?_⟩)
           | (refine ⟨_, ref01_Clamp _, ?_⟩)
           | (refine cond_f ?_ ?_)
           | (refine ⟨_, ⟨by decide, rfl⟩, ?_⟩)
           | (refine cond_i (fun h => ?_) (fun h => ?_)))
  all_goals (conv => whnf)
  all_goals
    refine int_eq ?_
    have h1 := clamp_bd a
    have h2 := clamp_bd b
    simp only [decide_eq_true_eq, decide_eq_false_iff_not] at *
    unfold sub
    try rw [wrap_i64 (by omega)]
    (repeat' split) <;> omega
theorem ticks_Up (a b : Int) : Fv Try.prog 84 [.int .i64 a, .int .i64 b] (.int .i64 (up a b)) := by
  refine Fv.of_awp Try.func84 rfl (by kernel_rfl) rfl (Nat.le_of_ble_eq_true rfl) ?_
  have h1 := clamp_bd a
  have h2 := grain_bd b
  have eg : (if 1 > clamp b then 1 else clamp b) = grain b := by unfold grain; have := clamp_bd b; (repeat' split) <;> omega
  have e1 : IntKind.i64.wrap (clamp a + grain b) = clamp a + grain b := wrap_i64 (by omega)
  have e2 : IntKind.i64.wrap (clamp a + grain b - 1) = clamp a + grain b - 1 := wrap_i64 (by omega)
  have e3 : (clamp a + grain b - 1).tdiv (grain b) = (clamp a + grain b - 1) / grain b := Int.tdiv_eq_ediv_of_nonneg (by omega)
  have b1 : 0 ≤ (clamp a + grain b - 1) / grain b := Int.ediv_nonneg (by omega) (by omega)
  have b2 : (clamp a + grain b - 1) / grain b * grain b ≤ clamp a + grain b - 1 := Int.ediv_mul_le _ (by omega)
  have b3 : (clamp a + grain b - 1) / grain b ≤ clamp a + grain b - 1 := Int.ediv_le_self _ (by omega)
  have b4 : 0 ≤ (clamp a + grain b - 1) / grain b * grain b := Int.mul_nonneg b1 (by omega)
  repeat' (conv => whnf
           first
           | (refine And.intro (by kernel_rfl) ?_)
           | (refine And.intro ⟨by kernel_rfl, by kernel_rfl⟩ ?_)
           | (refine Or.inl ⟨_, ticks_Clamp _, ?_⟩)
           | (refine ⟨_, ticks_Clamp _, ?_⟩)
           | (refine cond_f ?_ ?_)
           | (refine ⟨_, ⟨by decide, rfl⟩, ?_⟩)
           | (refine cond_i (fun h => ?_) (fun h => ?_)))
  all_goals (conv => whnf)
  · rw [eg]; simp; omega
  refine int_eq ?_
  rw [eg, e1, e2, e3, wrap_i64 (n := (clamp a + grain b - 1) / grain b) (by omega), wrap_i64 (by omega)]
  rfl
theorem ref01_Up (a b : Int) : Fv Try.prog 90 [.int .i64 a, .int .i64 b] (.int .i64 (up a b)) := by
  refine Fv.of_awp Try.func90 rfl (by kernel_rfl) rfl (Nat.le_of_ble_eq_true rfl) ?_
  have h1 := clamp_bd a
  have h2 := clamp_bd b
  repeat' (conv => whnf
           first
           | (refine And.intro (by kernel_rfl) ?_)
           | (refine And.intro ⟨by kernel_rfl, by kernel_rfl⟩ ?_)
           | (refine Or.inl ⟨_, ref01_Clamp _, ?_⟩)
           | (refine ⟨_, ref01_Clamp _, ?_⟩)
           | (refine Or.inl ⟨_, ref01_Add _ _, ?_⟩)
           | (refine ⟨_, ref01_Add _ _, ?_⟩)
           | (refine cond_f ?_ ?_)
           | (refine ⟨_, ⟨by decide, rfl⟩, ?_⟩)
           | (refine cond_i (fun h => ?_) (fun h => ?_)))
  all_goals (conv => whnf)
  all_goals try exact ‹_ = false›
  all_goals
    refine int_eq ?_
    simp only [beq_iff_eq, beq_eq_false_iff_ne, ne_eq] at *
    unfold up
  · rw [show grain b = 1 from by unfold grain; rw [if_pos (by assumption)], up_exact (by omega) (Int.emod_one _), clamp_id h1]
  · exact absurd (Int.tmod_one _) h
  · have eg : grain b = clamp b := by unfold grain; rw [if_neg (by assumption)]
    rw [Int.tmod_eq_emod_of_nonneg h1.1] at h
    rw [eg, up_exact (by omega) h, clamp_id h1]
  · have eg : grain b = clamp b := by unfold grain; rw [if_neg (by assumption)]
    rw [Int.tmod_eq_emod_of_nonneg h1.1] at h ⊢
    have h3 := Int.emod_nonneg (clamp a) (show clamp b ≠ 0 by omega)
    have h4 := Int.emod_lt_of_pos (clamp a) (show 0 < clamp b by omega)
    have h5 : clamp a % clamp b ≤ clamp a := by have e := Int.mul_ediv_add_emod (clamp a) (clamp b); have := Int.mul_nonneg h2.1 (Int.ediv_nonneg h1.1 h2.1); omega
    rw [eg, up_more (by omega) h, wrap_i64 (by omega)]
    unfold add
    rw [clamp_id (n := clamp a - clamp a % clamp b) (by omega), clamp_id h2]
theorem ticks_Past (a b c : Int) : Fv Try.prog 71 [.int .i64 a, .int .i64 b, .int .i64 c] (.bool (past a b c)) := by
  refine Fv.of_awp Try.func71 rfl (by kernel_rfl) rfl (Nat.le_of_ble_eq_true rfl) ?_
  repeat' (conv => whnf
           first
           | (refine And.intro (by kernel_rfl) ?_)
           | (refine And.intro ⟨by kernel_rfl, by kernel_rfl⟩ ?_)
           | (refine Or.inl ⟨_, ticks_Clamp _, ?_⟩)
           | (refine ⟨_, ticks_Clamp _, ?_⟩)
           | (refine Or.inl ⟨_, ticks_Up _ _, ?_⟩)
           | (refine ⟨_, ticks_Up _ _, ?_⟩)
           | (refine cond_f ?_ ?_)
           | (refine ⟨_, ⟨by decide, rfl⟩, ?_⟩)
           | (refine cond_i (fun h => ?_) (fun h => ?_)))
  all_goals (conv => whnf)
  rfl
theorem ref01_Past (a b c : Int) : Fv Try.prog 79 [.int .i64 a, .int .i64 b, .int .i64 c] (.bool (past a b c)) := by
  refine Fv.of_awp Try.func79 rfl (by kernel_rfl) rfl (Nat.le_of_ble_eq_true rfl) ?_
  repeat' (conv => whnf
           first
           | (refine And.intro (by kernel_rfl) ?_)
           | (refine And.intro ⟨by kernel_rfl, by kernel_rfl⟩ ?_)
           | (refine Or.inl ⟨_, ref01_Clamp _, ?_⟩)
           | (refine ⟨_, ref01_Clamp _, ?_⟩)
           | (refine Or.inl ⟨_, ref01_Up _ _, ?_⟩)
           | (refine ⟨_, ref01_Up _ _, ?_⟩)
           | (refine cond_f ?_ ?_)
           | (refine ⟨_, ⟨by decide, rfl⟩, ?_⟩)
           | (refine cond_i (fun h => ?_) (fun h => ?_)))
  all_goals (conv => whnf)
  rfl
theorem lease_Ends (a b : Int) : Fv Try.prog 58 [.int .i64 a, .int .i64 b] (.int .i64 (leaseEnds a b)) := by
  refine Fv.of_awp Try.func58 rfl (by kernel_rfl) rfl (Nat.le_of_ble_eq_true rfl) ?_
  repeat' (conv => whnf
           first
           | (refine And.intro (by kernel_rfl) ?_)
           | (refine And.intro ⟨by kernel_rfl, by kernel_rfl⟩ ?_)
           | (refine Or.inl ⟨_, ticks_Clamp _, ?_⟩)
           | (refine ⟨_, ticks_Clamp _, ?_⟩)
           | (refine cond_f ?_ ?_)
           | (refine ⟨_, ⟨by decide, rfl⟩, ?_⟩)
           | (refine cond_i (fun h => ?_) (fun h => ?_)))
  all_goals (conv => whnf)
  refine int_eq ?_
  unfold leaseEnds
  (repeat' split) <;> omega
theorem ref15_Ends (a b : Int) : Fv Try.prog 62 [.int .i64 a, .int .i64 b] (.int .i64 (leaseEnds a b)) := by
  refine Fv.of_awp Try.func62 rfl (by kernel_rfl) rfl (Nat.le_of_ble_eq_true rfl) ?_
  repeat' (conv => whnf
           first
           | (refine And.intro (by kernel_rfl) ?_)
           | (refine And.intro ⟨by kernel_rfl, by kernel_rfl⟩ ?_)
           | (refine Or.inl ⟨_, ref01_Clamp _, ?_⟩)
           | (refine ⟨_, ref01_Clamp _, ?_⟩)
           | (refine cond_f ?_ ?_)
           | (refine ⟨_, ⟨by decide, rfl⟩, ?_⟩)
           | (refine cond_i (fun h => ?_) (fun h => ?_)))
  all_goals (conv => whnf)
  all_goals
    refine int_eq ?_
    simp only [decide_eq_true_eq, decide_eq_false_iff_not] at *
    unfold leaseEnds
    (repeat' split) <;> omega
theorem lease_Over (a b c : Int) : Fv Try.prog 56 [.int .i64 a, .int .i64 b, .int .i64 c] (.tup [.int .i64 (leaseOver a b c), .bool (leaseOver a b c != 0)]) := by
  refine Fv.of_awp Try.func56 rfl (by kernel_rfl) rfl (Nat.le_of_ble_eq_true rfl) ?_
  repeat' (conv => whnf
           first
           | (refine And.intro (by kernel_rfl) ?_)
           | (refine And.intro ⟨by kernel_rfl, by kernel_rfl⟩ ?_)
           | (refine Or.inl ⟨_, ticks_Clamp _, ?_⟩)
           | (refine ⟨_, ticks_Clamp _, ?_⟩)
           | (refine cond_f ?_ ?_)
           | (refine ⟨_, ⟨by decide, rfl⟩, ?_⟩)
           | (refine cond_i (fun h => ?_) (fun h => ?_)))
  all_goals (conv => whnf)
  all_goals
    simp only [decide_eq_true_eq, decide_eq_false_iff_not, ge_iff_le] at *
    unfold leaseOver
    (repeat' split) <;> first | rfl | omega
theorem ref15_Over (a b c : Int) : Fv Try.prog 63 [.int .i64 a, .int .i64 b, .int .i64 c] (.int .i64 (leaseOver a b c)) := by
  refine Fv.of_awp Try.func63 rfl (by kernel_rfl) rfl (Nat.le_of_ble_eq_true rfl) ?_
  repeat' (conv => whnf
           first
           | (refine And.intro (by kernel_rfl) ?_)
           | (refine And.intro ⟨by kernel_rfl, by kernel_rfl⟩ ?_)
           | (refine Or.inl ⟨_, ref01_Clamp _, ?_⟩)
           | (refine ⟨_, ref01_Clamp _, ?_⟩)
           | (refine cond_f ?_ ?_)
           | (refine ⟨_, ⟨by decide, rfl⟩, ?_⟩)
           | (refine cond_i (fun h => ?_) (fun h => ?_)))
  all_goals (conv => whnf)
  all_goals
    refine int_eq ?_
    simp only [decide_eq_true_eq, decide_eq_false_iff_not] at *
    unfold leaseOver
    (repeat' split) <;> omega
theorem code_names : Fv Try.prog 91 [] (.agg (names.map G.str)) := by
  refine Fv.of_awp Try.func91 rfl (by kernel_rfl) rfl (Nat.le_of_ble_eq_true rfl) ?_
  conv => whnf
  rfl
theorem code_Right (a : Int) : Fv Try.prog 80 [.int .i64 a] (.bool (right a)) := by
  refine Fv.of_awp Try.func80 rfl (by kernel_rfl) rfl (Nat.le_of_ble_eq_true rfl) ?_
  repeat' (conv => whnf
           first
           | (refine And.intro (by kernel_rfl) ?_)
           | (refine And.intro ⟨by kernel_rfl, by kernel_rfl⟩ ?_)
           | (refine Or.inl ⟨_, code_names, ?_⟩)
           | (refine ⟨_, code_names, ?_⟩)
           | (refine cond_f ?_ ?_)
           | (refine ⟨_, ⟨by decide, rfl⟩, ?_⟩)
           | (refine cond_i (fun h => ?_) (fun h => ?_)))
  all_goals (conv => whnf)
  all_goals
    refine bool_eq ?_
    unfold right
    simp only [decide_eq_true_eq, decide_eq_false_iff_not, ge_iff_le] at *
    rw [Bool.eq_iff_iff]
    simp
    omega
theorem ref05_Right (a : Int) : Fv Try.prog 81 [.int .i64 a] (.bool (right a)) := by
  refine Fv.of_awp Try.func81 rfl (by kernel_rfl) rfl (Nat.le_of_ble_eq_true rfl) ?_
  repeat' (conv => whnf
           first
           | (refine And.intro (by kernel_rfl) ?_)
           | (refine And.intro ⟨by kernel_rfl, by kernel_rfl⟩ ?_)
           | (refine cond_f ?_ ?_)
           | (refine ⟨_, ⟨by decide, rfl⟩, ?_⟩)
           | (refine cond_i (fun h => ?_) (fun h => ?_)))
  all_goals (conv => whnf)
  all_goals
    refine bool_eq ?_
    unfold right
    simp only [decide_eq_true_eq, decide_eq_false_iff_not, ge_iff_le] at *
    rw [Bool.eq_iff_iff]
    simp
    omega
theorem right_iff (a : Int) : right a = true ↔ 0 ≤ a ∧ a ≤ 16 := by unfold right; simp
theorem clean_right {a : Int} (h : right a = true) : clean a = a := by unfold clean; rw [if_pos ((right_iff a).1 h)]
theorem clean_wrong {a : Int} (h : right a = false) : clean a = 2 := by unfold clean; rw [if_neg (fun h' => by rw [(right_iff a).2 h'] at h; cases h)]
theorem code_Clean (a : Int) : Fv Try.prog 53 [.int .i64 a] (.int .i64 (clean a)) := by
  refine Fv.of_awp Try.func53 rfl (by kernel_rfl) rfl (Nat.le_of_ble_eq_true rfl) ?_
  repeat' (conv => whnf
           first
           | (refine And.intro (by kernel_rfl) ?_)
           | (refine And.intro ⟨by kernel_rfl, by kernel_rfl⟩ ?_)
           | (refine Or.inl ⟨_, code_Right _, ?_⟩)
           | (refine ⟨_, code_Right _, ?_⟩)
           | (refine cond_f ?_ ?_)
           | (refine ⟨_, ⟨by decide, rfl⟩, ?_⟩)
           | (refine cond_i (fun h => ?_) (fun h => ?_)))
  all_goals (conv => whnf)
  all_goals
    refine int_eq ?_
    simp only [Bool.not_eq_true', Bool.not_eq_false'] at *
    first | exact (clean_right ‹_›).symm | exact (clean_wrong ‹_›).symm
theorem ref05_Clean (a : Int) : Fv Try.prog 54 [.int .i64 a] (.int .i64 (clean a)) := by
  refine Fv.of_awp Try.func54 rfl (by kernel_rfl) rfl (Nat.le_of_ble_eq_true rfl) ?_
  repeat' (conv => whnf
           first
           | (refine And.intro (by kernel_rfl) ?_)
           | (refine And.intro ⟨by kernel_rfl, by kernel_rfl⟩ ?_)
           | (refine Or.inl ⟨_, ref05_Right _, ?_⟩)
           | (refine ⟨_, ref05_Right _, ?_⟩)
           | (refine cond_f ?_ ?_)
           | (refine ⟨_, ⟨by decide, rfl⟩, ?_⟩)
           | (refine cond_i (fun h => ?_) (fun h => ?_)))
  all_goals (conv => whnf)
  all_goals
    refine int_eq ?_
    first | exact (clean_right ‹_›).symm | exact (clean_wrong ‹_›).symm
theorem code_rank (a : Int) : Fv Try.prog 82 [.int .i64 a] (.int .i64 (rank a)) := by
  refine Fv.of_awp Try.func82 rfl (by kernel_rfl) rfl (Nat.le_of_ble_eq_true rfl) ?_
  repeat' (conv => whnf
           first
           | (refine And.intro (by kernel_rfl) ?_)
           | (refine And.intro ⟨by kernel_rfl, by kernel_rfl⟩ ?_)
           | (refine Or.inl ⟨_, code_Clean _, ?_⟩)
           | (refine ⟨_, code_Clean _, ?_⟩)
           | (refine cond_f ?_ ?_)
           | (refine ⟨_, ⟨by decide, rfl⟩, ?_⟩)
           | (refine cond_i (fun h => ?_) (fun h => ?_)))
  all_goals (conv => whnf)
  all_goals
    refine int_eq ?_
    have := clean_bd a
    unfold rank
    simp only [beq_iff_eq, beq_eq_false_iff_ne, ne_eq] at *
    try rw [wrap_i64 (by omega)]
    (repeat' split) <;> omega
theorem code_Join (a b : Int) : Fv Try.prog 64 [.int .i64 a, .int .i64 b] (.int .i64 (join a b)) := by
  refine Fv.of_awp Try.func64 rfl (by kernel_rfl) rfl (Nat.le_of_ble_eq_true rfl) ?_
  repeat' (conv => whnf
           first
           | (refine And.intro (by kernel_rfl) ?_)
           | (refine And.intro ⟨by kernel_rfl, by kernel_rfl⟩ ?_)
           | (refine Or.inl ⟨_, code_Clean _, ?_⟩)
           | (refine ⟨_, code_Clean _, ?_⟩)
           | (refine Or.inl ⟨_, code_rank _, ?_⟩)
           | (refine ⟨_, code_rank _, ?_⟩)
           | (refine cond_f ?_ ?_)
           | (refine ⟨_, ⟨by decide, rfl⟩, ?_⟩)
           | (refine cond_i (fun h => ?_) (fun h => ?_)))
  all_goals (conv => whnf)
  all_goals
    refine int_eq ?_
    simp only [rank_clean, decide_eq_true_eq, decide_eq_false_iff_not] at *
    unfold join
    (repeat' split) <;> omega
theorem ref05_place (a : Int) : Fv Try.prog 83 [.int .i64 a] (.int .i64 (place a)) := by
  refine Fv.of_awp Try.func83 rfl (by kernel_rfl) rfl (Nat.le_of_ble_eq_true rfl) ?_
  repeat' (conv => whnf
           first
           | (refine And.intro (by kernel_rfl) ?_)
           | (refine And.intro ⟨by kernel_rfl, by kernel_rfl⟩ ?_)
           | (refine cond_f ?_ ?_)
           | (refine ⟨_, ⟨by decide, rfl⟩, ?_⟩)
           | (refine cond_i (fun h => ?_) (fun h => ?_)))
  all_goals (conv => whnf)
  refine Has.ofN 18 ?_
  repeat' (conv => whnf
           first
           | (refine And.intro (by kernel_rfl) ?_)
           | (refine And.intro ⟨by kernel_rfl, by kernel_rfl⟩ ?_)
           | (refine Or.inl ⟨_, ref05_Clean _, ?_⟩)
           | (refine ⟨_, ref05_Clean _, ?_⟩)
           | (refine cond_f ?_ ?_)
           | (refine ⟨_, ⟨by decide, rfl⟩, ?_⟩)
           | (refine cond_i (fun h => ?_) (fun h => ?_)))
  all_goals (conv => whnf)
  all_goals
    refine int_eq ?_
    have hb := clean_bd a
    simp only [beq_iff_eq, beq_eq_false_iff_ne, ne_eq] at *
    unfold place
    generalize clean a = x at *
    first
    | (subst_vars; rfl)
    | (exfalso; omega)
    | (have : (x.toNat : Int) = x := Int.toNat_of_nonneg hb.1
       exfalso; omega)
    | skip
theorem ref05_Join (a b : Int) : Fv Try.prog 65 [.int .i64 a, .int .i64 b] (.int .i64 (join a b)) := by
  refine Fv.of_awp Try.func65 rfl (by kernel_rfl) rfl (Nat.le_of_ble_eq_true rfl) ?_
  repeat' (conv => whnf
           first
           | (refine And.intro (by kernel_rfl) ?_)
           | (refine And.intro ⟨by kernel_rfl, by kernel_rfl⟩ ?_)
           | (refine Or.inl ⟨_, ref05_Clean _, ?_⟩)
           | (refine ⟨_, ref05_Clean _, ?_⟩)
           | (refine Or.inl ⟨_, ref05_place _, ?_⟩)
           | (refine ⟨_, ref05_place _, ?_⟩)
           | (refine cond_f ?_ ?_)
           | (refine ⟨_, ⟨by decide, rfl⟩, ?_⟩)
           | (refine cond_i (fun h => ?_) (fun h => ?_)))
  all_goals (conv => whnf)
  all_goals
    refine int_eq ?_
    simp only [decide_eq_true_eq, decide_eq_false_iff_not, place_lt] at *
    unfold join
    (repeat' split) <;> omega
end Go.Proofs.Yteioecdfimphaaa.Cn
