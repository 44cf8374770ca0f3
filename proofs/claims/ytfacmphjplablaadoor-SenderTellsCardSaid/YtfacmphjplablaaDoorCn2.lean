
/- Contracts of the functions on owners. No condition. -/
import Derived.Test.YtfacmphjplablaaDoorAv16
import Derived.Test.YtfacmphjplablaaDoorSp2
import Derived.Test.YtfacmphjplablaaDoorCn1
namespace Go.Proofs.YtfacmphjplablaaDoor.Cn
open Go Go.Proofs Go.Proofs.YtfacmphjplablaaDoor.Av Go.Proofs.YtfacmphjplablaaDoor.Sp
set_option linter.unusedVariables false
set_option linter.unusedSimpArgs false
set_option maxRecDepth 100000

theorem owner_IsRoot (o : Owner) : Fv Tryd.prog 49 [.agg o.g] (.bool (o.key.att == 0)) := by
  refine Fv.of_awp Tryd.func49 rfl (by kernel_rfl) rfl (Nat.le_of_ble_eq_true rfl) ?_
  repeat' (conv => whnf
           first
           | (refine And.intro (by kernel_rfl) ?_)
           | (refine And.intro ⟨by kernel_rfl, by kernel_rfl⟩ ?_)
           | (refine cond_f ?_ ?_)
           | (refine ⟨_, ⟨by decide, rfl⟩, ?_⟩)
           | (refine cond_i (fun h => ?_) (fun h => ?_)))
  all_goals (conv => whnf)
  all_goals rfl
theorem ref23_value (n : Int) : Fv Tryd.prog 81 [.int .i64 n] (.int .i64 (value n)) := by
  refine Fv.of_awp Tryd.func81 rfl (by kernel_rfl) rfl (Nat.le_of_ble_eq_true rfl) ?_
  repeat' (conv => whnf
           first
           | (refine And.intro (by kernel_rfl) ?_)
           | (refine And.intro ⟨by kernel_rfl, by kernel_rfl⟩ ?_)
           | (refine cond_f ?_ ?_)
           | (refine ⟨_, ⟨by decide, rfl⟩, ?_⟩)
           | (refine cond_i (fun h => ?_) (fun h => ?_)))
  all_goals (conv => whnf)
  all_goals
    refine int_eq ?_
    simp only [decide_eq_true_eq, decide_eq_false_iff_not] at *
    unfold value
    (repeat' split) <;> omega

theorem up1 {k n : Nat} (hk : k < n) (hn : n < 4611686018427387904) : IntKind.i64.wrap ((k : Int) + 1) = (k : Int) + 1 := wrap_i64 (by omega)
theorem owner_Open (o : Owner) (hs : o.calls.length < 4611686018427387904) : Fv Tryd.prog 50 [.agg o.g] (.int .i64 (openN o.calls)) := by
  refine Fv.of_awp Tryd.func50 rfl (by kernel_rfl) rfl (Nat.le_of_ble_eq_true rfl) ?_
  repeat' (conv => whnf
           first
           | (refine And.intro (by kernel_rfl) ?_)
           | (refine And.intro ⟨by kernel_rfl, by kernel_rfl⟩ ?_)
           | (refine cond_f ?_ ?_)
           | (refine ⟨_, ⟨by decide, rfl⟩, ?_⟩)
           | (refine cond_i (fun h => ?_) (fun h => ?_)))
  all_goals (conv => whnf)
  refine Has.each [3, 7, 8, 9] [1, 5] o.calls.length (fun k acc => acc = openN (o.calls.take k)) (fun acc i =>
    St.of 20 [(3, .int .i64 acc), (7, .sl (o.calls.map Call.g)), (8, .int .i64 (o.calls.map Call.g).length), (9, .int .i64 i)] [] []) ⟨_, _, rfl, rfl, rfl⟩ (fun k acc hk hI => ?_) (fun acc hI => ?_)
  · have hb := openN_bd (o.calls.take k)
    have hl : (o.calls.take k).length ≤ k := List.length_take_le _ _
    refine awp_go ?_
    repeat' (conv => whnf
             first
             | (refine And.intro (by kernel_rfl) ?_)
             | (refine And.intro ⟨by kernel_rfl, by kernel_rfl⟩ ?_)
             | (refine cond_1 (lt_at hk) ?_)
             | (refine ⟨_, row_at hk, ?_⟩)
             | (refine cond_f ?_ ?_)
             | (refine ⟨_, ⟨by decide, rfl⟩, ?_⟩)
             | (refine cond_i (fun h => ?_) (fun h => ?_)))
    all_goals (conv => whnf)
    all_goals
      refine ⟨_, _, rfl, ?_, up1 hk hs⟩
      rw [← hI] at hb
      unfold openN at hI ⊢
      rw [fold_at hk, ← hI]
      unfold open1
      simp only [bne_iff_ne, bne_eq_false_iff_eq, ne_eq] at h
      first
      | (rw [if_pos h])
      | (rw [if_neg h]; exact wrap_i64 (by omega))
  · refine awp_go ?_
    repeat' (conv => whnf
             first
             | (refine And.intro (by kernel_rfl) ?_)
             | (refine And.intro ⟨by kernel_rfl, by kernel_rfl⟩ ?_)
             | (refine cond_0 lt_end ?_)
             | (refine cond_f ?_ ?_)
             | (refine ⟨_, ⟨by decide, rfl⟩, ?_⟩)
             | (refine cond_i (fun h => ?_) (fun h => ?_)))
    all_goals (conv => whnf)
    all_goals
      rw [hI, List.take_length]
theorem owner_Worst (o : Owner) (hs : o.calls.length < 4611686018427387904) : Fv Tryd.prog 51 [.agg o.g] (.int .i64 (worst o.calls)) := by
  refine Fv.of_awp Tryd.func51 rfl (by kernel_rfl) rfl (Nat.le_of_ble_eq_true rfl) ?_
  repeat' (conv => whnf
           first
           | (refine And.intro (by kernel_rfl) ?_)
           | (refine And.intro ⟨by kernel_rfl, by kernel_rfl⟩ ?_)
           | (refine cond_f ?_ ?_)
           | (refine ⟨_, ⟨by decide, rfl⟩, ?_⟩)
           | (refine cond_i (fun h => ?_) (fun h => ?_)))
  all_goals (conv => whnf)
  refine Has.each [3, 7, 8, 9] [1, 5] o.calls.length (fun k acc => acc = worst (o.calls.take k)) (fun acc i =>
    St.of 22 [(3, .int .i64 acc), (7, .sl (o.calls.map Call.g)), (8, .int .i64 (o.calls.map Call.g).length), (9, .int .i64 i)] [] []) ⟨_, _, rfl, rfl, rfl⟩ (fun k acc hk hI => ?_) (fun acc hI => ?_)
  · refine awp_go ?_
    repeat' (conv => whnf
             first
             | (refine And.intro (by kernel_rfl) ?_)
             | (refine And.intro ⟨by kernel_rfl, by kernel_rfl⟩ ?_)
             | (refine cond_1 (lt_at hk) ?_)
             | (refine ⟨_, row_at hk, ?_⟩)
             | (refine Or.inl ⟨_, code_Join _ _, ?_⟩)
             | (refine ⟨_, code_Join _ _, ?_⟩)
             | (refine cond_f ?_ ?_)
             | (refine ⟨_, ⟨by decide, rfl⟩, ?_⟩)
             | (refine cond_i (fun h => ?_) (fun h => ?_)))
    all_goals (conv => whnf)
    all_goals
      refine ⟨_, _, rfl, ?_, up1 hk hs⟩
      unfold worst at *
      rw [fold_at hk, ← hI]
      unfold worst1
      simp only [beq_iff_eq, beq_eq_false_iff_ne, ne_eq] at h
      first
      | (rw [if_pos h])
      | (rw [if_neg h])
  · refine awp_go ?_
    repeat' (conv => whnf
             first
             | (refine And.intro (by kernel_rfl) ?_)
             | (refine And.intro ⟨by kernel_rfl, by kernel_rfl⟩ ?_)
             | (refine cond_0 lt_end ?_)
             | (refine cond_f ?_ ?_)
             | (refine ⟨_, ⟨by decide, rfl⟩, ?_⟩)
             | (refine cond_i (fun h => ?_) (fun h => ?_)))
    all_goals (conv => whnf)
    all_goals
      rw [hI, List.take_length]
theorem owner_Sum (o : Owner) (n : Int) (hs : o.calls.length < 4611686018427387904) : Fv Tryd.prog 52 [.agg o.g, .int .i64 n] (.int .i64 (sum o.calls n)) := by
  refine Fv.of_awp Tryd.func52 rfl (by kernel_rfl) rfl (Nat.le_of_ble_eq_true rfl) ?_
  repeat' (conv => whnf
           first
           | (refine And.intro (by kernel_rfl) ?_)
           | (refine And.intro ⟨by kernel_rfl, by kernel_rfl⟩ ?_)
           | (refine cond_f ?_ ?_)
           | (refine ⟨_, ⟨by decide, rfl⟩, ?_⟩)
           | (refine cond_i (fun h => ?_) (fun h => ?_)))
  all_goals (conv => whnf)
  refine Has.each [5, 12, 13, 14] [2, 7] o.calls.length (fun k acc => acc = sum (o.calls.take k) n) (fun acc i =>
    St.of 27 [(5, .int .i64 acc), (12, .sl (o.calls.map Call.g)), (13, .int .i64 (o.calls.map Call.g).length), (14, .int .i64 i)] [] []) ⟨_, _, rfl, ?_, rfl⟩ (fun k acc hk hI => ?_) (fun acc hI => ?_)
  · show _ = value n
    unfold value; (repeat' split) <;> omega
  · refine awp_go ?_
    repeat' (conv => whnf
             first
             | (refine And.intro (by kernel_rfl) ?_)
             | (refine And.intro ⟨by kernel_rfl, by kernel_rfl⟩ ?_)
             | (refine cond_1 (lt_at hk) ?_)
             | (refine ⟨_, row_at hk, ?_⟩)
             | (refine cond_f ?_ ?_)
             | (refine ⟨_, ⟨by decide, rfl⟩, ?_⟩)
             | (refine cond_i (fun h => ?_) (fun h => ?_)))
    all_goals (conv => whnf)
    all_goals
      refine ⟨_, _, rfl, ?_, up1 hk hs⟩
      have hb := sum_bd (o.calls.take k) n
      unfold sum at *
      rw [fold_at hk, ← hI]
      rw [← hI] at hb
      unfold sum1
      have hv := value_bd o.calls[k].value
      have e : ∀ v : Int, (if 2147483647 < (if 0 > v then 0 else v) then 2147483647 else (if 0 > v then 0 else v)) = value v := by intro v; unfold value; (repeat' split) <;> omega
      rw [e, wrap_i64 (by omega), Int.tmod_eq_emod_of_nonneg (by omega)]
  · refine awp_go ?_
    repeat' (conv => whnf
             first
             | (refine And.intro (by kernel_rfl) ?_)
             | (refine And.intro ⟨by kernel_rfl, by kernel_rfl⟩ ?_)
             | (refine cond_0 lt_end ?_)
             | (refine cond_f ?_ ?_)
             | (refine ⟨_, ⟨by decide, rfl⟩, ?_⟩)
             | (refine cond_i (fun h => ?_) (fun h => ?_)))
    all_goals (conv => whnf)
    all_goals
      rw [hI, List.take_length]
end Go.Proofs.YtfacmphjplablaaDoor.Cn
