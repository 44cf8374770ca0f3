/- Contracts of the functions on owners. No condition. -/
import Derived.Test.YteioecdfimphaaaAv16
import Derived.Test.YteioecdfimphaaaSp2
import Derived.Test.YteioecdfimphaaaCn1
namespace Go.Proofs.Yteioecdfimphaaa.Cn
open Go Go.Proofs Go.Proofs.Yteioecdfimphaaa.Av Go.Proofs.Yteioecdfimphaaa.Sp
set_option linter.unusedVariables false
set_option linter.unusedSimpArgs false
set_option maxRecDepth 100000

theorem owner_IsRoot (o : Owner) : Fv Try.prog 22 [.agg o.g] (.bool (o.key.att == 0)) := by
  refine Fv.of_awp Try.func22 rfl (by kernel_rfl) rfl (Nat.le_of_ble_eq_true rfl) ?_
  repeat' (conv => whnf
           first
           | (refine And.intro (by kernel_rfl) ?_)
           | (refine And.intro ⟨by kernel_rfl, by kernel_rfl⟩ ?_)
           | (refine cond_f ?_ ?_)
           | (refine ⟨_, ⟨by decide, rfl⟩, ?_⟩)
           | (refine cond_i (fun h => ?_) (fun h => ?_)))
  all_goals (conv => whnf)
  all_goals rfl
theorem owner_Ends (o : Owner) : Fv Try.prog 21 [.agg o.g] (.int .i64 (ownerEnds o)) := by
  refine Fv.of_awp Try.func21 rfl (by kernel_rfl) rfl (Nat.le_of_ble_eq_true rfl) ?_
  repeat' (conv => whnf
           first
           | (refine And.intro (by kernel_rfl) ?_)
           | (refine And.intro ⟨by kernel_rfl, by kernel_rfl⟩ ?_)
           | (refine Or.inl ⟨_, owner_IsRoot o, ?_⟩)
           | (refine ⟨_, owner_IsRoot o, ?_⟩)
           | (refine Or.inl ⟨_, ticks_Clamp _, ?_⟩)
           | (refine ⟨_, ticks_Clamp _, ?_⟩)
           | (refine Or.inl ⟨_, lease_Ends _ _, ?_⟩)
           | (refine ⟨_, lease_Ends _ _, ?_⟩)
           | (refine cond_f ?_ ?_)
           | (refine ⟨_, ⟨by decide, rfl⟩, ?_⟩)
           | (refine cond_i (fun h => ?_) (fun h => ?_)))
  all_goals (conv => whnf)
  all_goals
    refine int_eq ?_
    simp only [beq_iff_eq, beq_eq_false_iff_ne, ne_eq] at *
    unfold ownerEnds
    simp [*]
theorem owner_Over (o : Owner) (n : Int) : Fv Try.prog 19 [.agg o.g, .int .i64 n] (.tup [.int .i64 (ownerOver o n), .bool (ownerOver o n != 0)]) := by
  refine Fv.of_awp Try.func19 rfl (by kernel_rfl) rfl (Nat.le_of_ble_eq_true rfl) ?_
  repeat' (conv => whnf
           first
           | (refine And.intro (by kernel_rfl) ?_)
           | (refine And.intro ⟨by kernel_rfl, by kernel_rfl⟩ ?_)
           | (refine Or.inl ⟨_, owner_IsRoot o, ?_⟩)
           | (refine ⟨_, owner_IsRoot o, ?_⟩)
           | (refine Or.inl ⟨_, lease_Over _ _ _, ?_⟩)
           | (refine ⟨_, lease_Over _ _ _, ?_⟩)
           | (refine cond_f ?_ ?_)
           | (refine ⟨_, ⟨by decide, rfl⟩, ?_⟩)
           | (refine cond_i (fun h => ?_) (fun h => ?_)))
  all_goals (conv => whnf)
  all_goals
    simp only [beq_iff_eq, beq_eq_false_iff_ne, ne_eq] at *
    unfold ownerOver
    simp [*]
theorem ref23_Ends (o : Owner) : Fv Try.prog 27 [.agg o.g] (.int .i64 (ownerEnds o)) := by
  refine Fv.of_awp Try.func27 rfl (by kernel_rfl) rfl (Nat.le_of_ble_eq_true rfl) ?_
  repeat' (conv => whnf
           first
           | (refine And.intro (by kernel_rfl) ?_)
           | (refine And.intro ⟨by kernel_rfl, by kernel_rfl⟩ ?_)
           | (refine Or.inl ⟨_, ref01_Clamp _, ?_⟩)
           | (refine ⟨_, ref01_Clamp _, ?_⟩)
           | (refine Or.inl ⟨_, ref15_Ends _ _, ?_⟩)
           | (refine ⟨_, ref15_Ends _ _, ?_⟩)
           | (refine cond_f ?_ ?_)
           | (refine ⟨_, ⟨by decide, rfl⟩, ?_⟩)
           | (refine cond_i (fun h => ?_) (fun h => ?_)))
  all_goals (conv => whnf)
  all_goals
    refine int_eq ?_
    simp only [beq_iff_eq, beq_eq_false_iff_ne, ne_eq] at *
    unfold ownerEnds
    simp [*]
theorem ref23_Over (o : Owner) (n : Int) : Fv Try.prog 28 [.agg o.g, .int .i64 n] (.int .i64 (ownerOver o n)) := by
  refine Fv.of_awp Try.func28 rfl (by kernel_rfl) rfl (Nat.le_of_ble_eq_true rfl) ?_
  repeat' (conv => whnf
           first
           | (refine And.intro (by kernel_rfl) ?_)
           | (refine And.intro ⟨by kernel_rfl, by kernel_rfl⟩ ?_)
           | (refine Or.inl ⟨_, ref15_Over _ _ _, ?_⟩)
           | (refine ⟨_, ref15_Over _ _ _, ?_⟩)
           | (refine cond_f ?_ ?_)
           | (refine ⟨_, ⟨by decide, rfl⟩, ?_⟩)
           | (refine cond_i (fun h => ?_) (fun h => ?_)))
  all_goals (conv => whnf)
  all_goals
    refine int_eq ?_
    simp only [beq_iff_eq, beq_eq_false_iff_ne, ne_eq] at *
    unfold ownerOver
    simp [*]
theorem ref23_value (n : Int) : Fv Try.prog 66 [.int .i64 n] (.int .i64 (value n)) := by
  refine Fv.of_awp Try.func66 rfl (by kernel_rfl) rfl (Nat.le_of_ble_eq_true rfl) ?_
  repeat' (conv => whnf
           first
           | (refine And.intro (by kernel_rfl) ?_)
           | (refine And.intro ⟨by kernel_rfl, by kernel_rfl⟩ ?_)
           | (refine cond_f ?_ ?_)
           | (refine ⟨_, ⟨by decide, rfl⟩, ?_⟩)
           | (refine cond_i (fun h => ?_) (fun h => ?_)))
  all_goals (conv => whnf)
  all_goals
    refine int_eq ?_
    simp only [decide_eq_true_eq, decide_eq_false_iff_not] at *
    unfold value
    (repeat' split) <;> omega
theorem owner_next (o : Owner) : Fv Try.prog 52 [.agg o.g] (.agg ({ o with pc := IntKind.i64.wrap (o.pc + 1), done := 0 } : Owner).g) := by
  refine Fv.of_awp Try.func52 rfl (by kernel_rfl) rfl (Nat.le_of_ble_eq_true rfl) ?_
  repeat' (conv => whnf
           first
           | (refine And.intro (by kernel_rfl) ?_)
           | (refine And.intro ⟨by kernel_rfl, by kernel_rfl⟩ ?_)
           | (refine cond_f ?_ ?_)
           | (refine ⟨_, ⟨by decide, rfl⟩, ?_⟩)
           | (refine cond_i (fun h => ?_) (fun h => ?_)))
  all_goals (conv => whnf)
  all_goals rfl

theorem up1 {k n : Nat} (hk : k < n) (hn : n < 4611686018427387904) : IntKind.i64.wrap ((k : Int) + 1) = (k : Int) + 1 := wrap_i64 (by omega)
theorem owner_Open (o : Owner) (hs : o.calls.length < 4611686018427387904) : Fv Try.prog 29 [.agg o.g] (.int .i64 (openN o.calls)) := by
  refine Fv.of_awp Try.func29 rfl (by kernel_rfl) rfl (Nat.le_of_ble_eq_true rfl) ?_
  repeat' (conv => whnf
           first
           | (refine And.intro (by kernel_rfl) ?_)
           | (refine And.intro ⟨by kernel_rfl, by kernel_rfl⟩ ?_)
           | (refine cond_f ?_ ?_)
           | (refine ⟨_, ⟨by decide, rfl⟩, ?_⟩)
           | (refine cond_i (fun h => ?_) (fun h => ?_)))
  all_goals (conv => whnf)
  refine Has.each [3, 7, 8, 9] [1, 5] o.calls.length (fun k acc => acc = openN (o.calls.take k)) (fun acc i =>
    St.of 20 [(3, .int .i64 acc), (7, .sl (o.calls.map Call.g)), (8, .int .i64 (o.calls.map Call.g).length), (9, .int .i64 i)] [] []) ⟨_, _, rfl, rfl, rfl⟩ (fun k acc hk hI => ?_) (fun acc hI => ?_)
  · have hb := openN_bd (o.calls.take k)
    have hl : (o.calls.take k).length ≤ k := List.length_take_le _ _
    refine awp_go ?_
    repeat' (conv => whnf
             first
             | (refine And.intro (by kernel_rfl) ?_)
             | (refine And.intro ⟨by kernel_rfl, by kernel_rfl⟩ ?_)
             | (refine cond_1 (lt_at hk) ?_)
             | (refine ⟨_, row_at hk, ?_⟩)
             | (refine cond_f ?_ ?_)
             | (refine ⟨_, ⟨by decide, rfl⟩, ?_⟩)
             | (refine cond_i (fun h => ?_) (fun h => ?_)))
    all_goals (conv => whnf)
    all_goals
      refine ⟨_, _, rfl, ?_, up1 hk hs⟩
      rw [← hI] at hb
      unfold openN at hI ⊢
      rw [fold_at hk, ← hI]
      unfold open1
      simp only [bne_iff_ne, bne_eq_false_iff_eq, ne_eq] at h
      first
      | (rw [if_pos h])
      | (rw [if_neg h]; exact wrap_i64 (by omega))
  · refine awp_go ?_
    repeat' (conv => whnf
             first
             | (refine And.intro (by kernel_rfl) ?_)
             | (refine And.intro ⟨by kernel_rfl, by kernel_rfl⟩ ?_)
             | (refine cond_0 lt_end ?_)
             | (refine cond_f ?_ ?_)
             | (refine ⟨_, ⟨by decide, rfl⟩, ?_⟩)
             | (refine cond_i (fun h => ?_) (fun h => ?_)))
    all_goals (conv => whnf)
    all_goals
      rw [hI, List.take_length]
theorem owner_Worst (o : Owner) (hs : o.calls.length < 4611686018427387904) : Fv Try.prog 31 [.agg o.g] (.int .i64 (worst o.calls)) := by
  refine Fv.of_awp Try.func31 rfl (by kernel_rfl) rfl (Nat.le_of_ble_eq_true rfl) ?_
  repeat' (conv => whnf
           first
           | (refine And.intro (by kernel_rfl) ?_)
           | (refine And.intro ⟨by kernel_rfl, by kernel_rfl⟩ ?_)
           | (refine cond_f ?_ ?_)
           | (refine ⟨_, ⟨by decide, rfl⟩, ?_⟩)
           | (refine cond_i (fun h => ?_) (fun h => ?_)))
  all_goals (conv => whnf)
  refine Has.each [3, 7, 8, 9] [1, 5] o.calls.length (fun k acc => acc = worst (o.calls.take k)) (fun acc i =>
    St.of 22 [(3, .int .i64 acc), (7, .sl (o.calls.map Call.g)), (8, .int .i64 (o.calls.map Call.g).length), (9, .int .i64 i)] [] []) ⟨_, _, rfl, rfl, rfl⟩ (fun k acc hk hI => ?_) (fun acc hI => ?_)
  · refine awp_go ?_
    repeat' (conv => whnf
             first
             | (refine And.intro (by kernel_rfl) ?_)
             | (refine And.intro ⟨by kernel_rfl, by kernel_rfl⟩ ?_)
             | (refine cond_1 (lt_at hk) ?_)
             | (refine ⟨_, row_at hk, ?_⟩)
             | (refine Or.inl ⟨_, code_Join _ _, ?_⟩)
             | (refine ⟨_, code_Join _ _, ?_⟩)
             | (refine cond_f ?_ ?_)
             | (refine ⟨_, ⟨by decide, rfl⟩, ?_⟩)
             | (refine cond_i (fun h => ?_) (fun h => ?_)))
    all_goals (conv => whnf)
    all_goals
      refine ⟨_, _, rfl, ?_, up1 hk hs⟩
      unfold worst at *
      rw [fold_at hk, ← hI]
      unfold worst1
      simp only [beq_iff_eq, beq_eq_false_iff_ne, ne_eq] at h
      first
      | (rw [if_pos h])
      | (rw [if_neg h])
  · refine awp_go ?_
    repeat' (conv => whnf
             first
             | (refine And.intro (by kernel_rfl) ?_)
             | (refine And.intro ⟨by kernel_rfl, by kernel_rfl⟩ ?_)
             | (refine cond_0 lt_end ?_)
             | (refine cond_f ?_ ?_)
             | (refine ⟨_, ⟨by decide, rfl⟩, ?_⟩)
             | (refine cond_i (fun h => ?_) (fun h => ?_)))
    all_goals (conv => whnf)
    all_goals
      rw [hI, List.take_length]
theorem owner_Sum (o : Owner) (n : Int) (hs : o.calls.length < 4611686018427387904) : Fv Try.prog 33 [.agg o.g, .int .i64 n] (.int .i64 (sum o.calls n)) := by
  refine Fv.of_awp Try.func33 rfl (by kernel_rfl) rfl (Nat.le_of_ble_eq_true rfl) ?_
  repeat' (conv => whnf
           first
           | (refine And.intro (by kernel_rfl) ?_)
           | (refine And.intro ⟨by kernel_rfl, by kernel_rfl⟩ ?_)
           | (refine cond_f ?_ ?_)
           | (refine ⟨_, ⟨by decide, rfl⟩, ?_⟩)
           | (refine cond_i (fun h => ?_) (fun h => ?_)))
  all_goals (conv => whnf)
  refine Has.each [5, 12, 13, 14] [2, 7] o.calls.length (fun k acc => acc = sum (o.calls.take k) n) (fun acc i =>
    St.of 27 [(5, .int .i64 acc), (12, .sl (o.calls.map Call.g)), (13, .int .i64 (o.calls.map Call.g).length), (14, .int .i64 i)] [] []) ⟨_, _, rfl, ?_, rfl⟩ (fun k acc hk hI => ?_) (fun acc hI => ?_)
  · show _ = value n
    unfold value; (repeat' split) <;> omega
  · refine awp_go ?_
    repeat' (conv => whnf
             first
             | (refine And.intro (by kernel_rfl) ?_)
             | (refine And.intro ⟨by kernel_rfl, by kernel_rfl⟩ ?_)
             | (refine cond_1 (lt_at hk) ?_)
             | (refine ⟨_, row_at hk, ?_⟩)
             | (refine cond_f ?_ ?_)
             | (refine ⟨_, ⟨by decide, rfl⟩, ?_⟩)
             | (refine cond_i (fun h => ?_) (fun h => ?_)))
    all_goals (conv => whnf)
    all_goals
      refine ⟨_, _, rfl, ?_, up1 hk hs⟩
      have hb := sum_bd (o.calls.take k) n
      unfold sum at *
      rw [fold_at hk, ← hI]
      rw [← hI] at hb
      unfold sum1
      have hv := value_bd o.calls[k].value
      have e : ∀ v : Int, (if 2147483647 < (if 0 > v then 0 else v) then 2147483647 else (if 0 > v then 0 else v)) = value v := by intro v; unfold value; (repeat' split) <;> omega
      rw [e, wrap_i64 (by omega), Int.tmod_eq_emod_of_nonneg (by omega)]
  · refine awp_go ?_
    repeat' (conv => whnf
             first
             | (refine And.intro (by kernel_rfl) ?_)
             | (refine And.intro ⟨by kernel_rfl, by kernel_rfl⟩ ?_)
             | (refine cond_0 lt_end ?_)
             | (refine cond_f ?_ ?_)
             | (refine ⟨_, ⟨by decide, rfl⟩, ?_⟩)
             | (refine cond_i (fun h => ?_) (fun h => ?_)))
    all_goals (conv => whnf)
    all_goals
      rw [hI, List.take_length]
theorem owner_Step (o : Owner) (l : List Pop) (hs : o.calls.length < 4611686018427387904) : Fv Try.prog 12 [.agg o.g, .sl (l.map Pop.g)] (.tup [.agg (stepO o l).1.g, .agg (stepO o l).2.g]) := by
  refine Fv.of_awp Try.func12 rfl (by kernel_rfl) rfl (Nat.le_of_ble_eq_true rfl) ?_
  by_cases hp : 0 ≤ o.pc ∧ o.pc.toNat < l.length
  · have e1 : decide (o.pc < 0) = false := by simp; omega
    have e2 : decide (o.pc ≥ ((l.map Pop.g).length : Int)) = false := by simp; omega
    have e3 : 0 ≤ o.pc ∧ (l.map Pop.g)[o.pc.toNat]? = some (l[o.pc.toNat]'hp.2).g := ⟨hp.1, by simp [List.getElem?_eq_getElem hp.2]⟩
    have e4 : stepO o l = stepOp o (l[o.pc.toNat]'hp.2) := by unfold stepO; rw [if_pos hp.1, List.getElem?_eq_getElem hp.2]
    rw [e4]
    generalize l[o.pc.toNat]'hp.2 = op at *
    repeat' (conv => whnf
             first
             | (refine And.intro (by kernel_rfl) ?_)
             | (refine And.intro ⟨by kernel_rfl, by kernel_rfl⟩ ?_)
             | (refine cond_0 e1 ?_)
             | (refine cond_0 e2 ?_)
             | (refine ⟨_, e3, ?_⟩)
             | (refine Or.inl ⟨_, owner_Open o hs, ?_⟩)
             | (refine ⟨_, owner_Open o hs, ?_⟩)
             | (refine Or.inl ⟨_, owner_Worst o hs, ?_⟩)
             | (refine ⟨_, owner_Worst o hs, ?_⟩)
             | (refine Or.inl ⟨_, owner_Sum o _ hs, ?_⟩)
             | (refine ⟨_, owner_Sum o _ hs, ?_⟩)
             | (refine Or.inl ⟨_, owner_next o, ?_⟩)
             | (refine ⟨_, owner_next o, ?_⟩)
             | (refine Or.inl ⟨_, owner_next { o with done := IntKind.i64.wrap (o.done + 1) }, ?_⟩)
             | (refine ⟨_, owner_next { o with done := IntKind.i64.wrap (o.done + 1) }, ?_⟩)
             | (refine Or.inl ⟨_, code_Clean _, ?_⟩)
             | (refine ⟨_, code_Clean _, ?_⟩)
             | (refine cond_f ?_ ?_)
             | (refine ⟨_, ⟨by decide, rfl⟩, ?_⟩)
             | (refine cond_i (fun h => ?_) (fun h => ?_)))
    all_goals (conv => whnf)
    all_goals
      clear e1 e2 e3 e4
      simp only [beq_iff_eq, beq_eq_false_iff_ne, bne_iff_ne, bne_eq_false_iff_eq, ne_eq, decide_eq_true_eq, decide_eq_false_iff_not] at *
      unfold stepOp
      (repeat' split) <;> first | rfl | (exfalso; omega)
  · have e4 : stepO o l = (o, ⟨4, sum o.calls 0, 0⟩) := by
      unfold stepO
      split
      · rw [List.getElem?_eq_none (by omega)]
      · rfl
    rw [e4]
    repeat' (conv => whnf
             first
             | (refine And.intro (by kernel_rfl) ?_)
             | (refine And.intro ⟨by kernel_rfl, by kernel_rfl⟩ ?_)
             | (refine Or.inl ⟨_, owner_Sum o _ hs, ?_⟩)
             | (refine ⟨_, owner_Sum o _ hs, ?_⟩)
             | (refine cond_f ?_ ?_)
             | (refine ⟨_, ⟨by decide, rfl⟩, ?_⟩)
             | (refine cond_i (fun h => ?_) (fun h => ?_)))
    all_goals (conv => whnf)
    all_goals first | rfl | (exfalso; simp only [decide_eq_true_eq, decide_eq_false_iff_not, List.length_map] at *; omega)
end Go.Proofs.Yteioecdfimphaaa.Cn
