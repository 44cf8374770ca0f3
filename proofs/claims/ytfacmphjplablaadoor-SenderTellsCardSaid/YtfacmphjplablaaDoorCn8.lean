
/- Contracts of what the laws of owners reach. No condition but lengths. -/
import Derived.Test.YtfacmphjplablaaDoorCn2
import Derived.Test.YtfacmphjplablaaDoorSp6
namespace Go.Proofs.YtfacmphjplablaaDoor.Cn
open Go Go.Proofs Go.Proofs.YtfacmphjplablaaDoor.Av Go.Proofs.YtfacmphjplablaaDoor.Sp
set_option linter.unusedVariables false
set_option linter.unusedSimpArgs false
set_option maxRecDepth 100000
attribute [local irreducible] Fv Fp

theorem law23_One (c : Sp.Call) : Fv Tryd.prog 12 [.agg c.g] (.agg c.g) := by
  refine Fv.of_awp Tryd.func12 rfl (by kernel_rfl) rfl (Nat.le_of_ble_eq_true rfl) ?_
  repeat' (conv => whnf
           first
           | (refine And.intro (by kernel_rfl) ?_)
           | (refine And.intro ⟨by kernel_rfl, by kernel_rfl⟩ ?_)
           | (refine cond_f ?_ ?_)
           | (refine ⟨_, ⟨by decide, rfl⟩, ?_⟩)
           | (refine cond_i (fun h => ?_) (fun h => ?_)))
  all_goals (conv => whnf)
  all_goals rfl
theorem law23_Mine (o : Owner) (hs : o.calls.length ≤ 30) : Fv Tryd.prog 11 [.agg o.g] (.agg o.g) := by
  refine Fv.of_awp Tryd.func11 rfl (by kernel_rfl) rfl (Nat.le_of_ble_eq_true rfl) ?_
  repeat' (conv => whnf
           first
           | (refine And.intro (by kernel_rfl) ?_)
           | (refine And.intro ⟨by kernel_rfl, by kernel_rfl⟩ ?_)
           | (refine cond_f ?_ ?_)
           | (refine ⟨_, ⟨by decide, rfl⟩, ?_⟩)
           | (refine cond_i (fun h => ?_) (fun h => ?_)))
  all_goals (conv => whnf)
  refine Has.own0B 3 18 42 rfl rfl rfl ?_
  refine Has.each [1, 2, 3, 4] [] o.calls.length (OwnI Call.g o.calls) (fun b i =>
    St.of 45 [(1, .ptr 1 0), (2, .ptr 2 0), (3, .ptr 3 0), (4, .int .i64 i)] [(1, o.g), (2, zOwner.gw .nils), (3, o.gw (.own 42 0 b.1))] [(42, b.2)]) ⟨(0, []), _, rfl, ⟨rfl, rfl⟩, rfl⟩ (fun k b hk hI => ?_) (fun b hI => ?_)
  · obtain ⟨n, xs⟩ := b
    obtain ⟨rfl, rfl⟩ : n = k ∧ xs = _ := hI
    refine awp_go ?_
    repeat' (conv => whnf
             first
             | (refine And.intro (by kernel_rfl) ?_)
             | (refine And.intro ⟨by kernel_rfl, by kernel_rfl⟩ ?_)
             | (refine cond_1 (lt_at hk) ?_)
             | (refine ⟨_, row_at hk, ?_⟩)
             | (refine Or.inl ⟨_, law23_One o.calls[n], ?_⟩)
             | (refine ⟨_, law23_One o.calls[n], ?_⟩)
             | (refine ⟨app_at 13 104 (Nat.le_of_lt hk) (by kernel_rfl) (by kernel_rfl) (fun _ => rfl) (by omega), ?_⟩)
             | (refine cond_f ?_ ?_)
             | (refine ⟨_, ⟨by decide, rfl⟩, ?_⟩)
             | (refine cond_i (fun h => ?_) (fun h => ?_)))
    all_goals (conv => whnf)
    exact ⟨(_, _), _, rfl, ⟨rfl, own_app (R := Call.g) hk⟩, up1 hk (by omega)⟩
  · obtain ⟨n, xs⟩ := b
    obtain ⟨rfl, rfl⟩ : n = _ ∧ xs = _ := hI
    refine awp_go ?_
    repeat' (conv => whnf
             first
             | (refine And.intro (by kernel_rfl) ?_)
             | (refine And.intro ⟨by kernel_rfl, by kernel_rfl⟩ ?_)
             | (refine cond_0 lt_end ?_)
             | (refine ⟨own_le, ?_⟩)
             | (refine cond_f ?_ ?_)
             | (refine ⟨_, ⟨by decide, rfl⟩, ?_⟩)
             | (refine cond_i (fun h => ?_) (fun h => ?_)))
    all_goals (conv => whnf)
    simp only [own_all]
    rfl
set_option maxHeartbeats 2000000 in
theorem ref23_Open (o : Owner) (hs : o.calls.length < 4611686018427387904) : Fv Tryd.prog 17 [.agg o.g] (.int .i64 (openN o.calls)) := by
  refine Fv.of_awp Tryd.func17 rfl (by kernel_rfl) rfl (Nat.le_of_ble_eq_true rfl) ?_
  repeat' (conv => whnf
           first
           | (refine And.intro (by kernel_rfl) ?_)
           | (refine And.intro ⟨by kernel_rfl, by kernel_rfl⟩ ?_)
           | (refine cond_f ?_ ?_)
           | (refine ⟨_, ⟨by decide, rfl⟩, ?_⟩)
           | (refine cond_i (fun h => ?_) (fun h => ?_)))
  all_goals (conv => whnf)
  refine Has.each [1, 3, 4] [] o.calls.length (fun k acc => acc = openN (o.calls.take k)) (fun acc i =>
    St.of 22 [(1, .ptr 1 0), (3, .int .i64 acc), (4, .int .i64 i)] [(1, o.g)] []) ⟨_, _, rfl, rfl, rfl⟩ (fun k acc hk hI => ?_) (fun acc hI => ?_)
  · have hb := openN_bd (o.calls.take k)
    have hl : (o.calls.take k).length ≤ k := List.length_take_le _ _
    refine awp_go ?_
    repeat' (conv => whnf
             first
             | (refine And.intro (by kernel_rfl) ?_)
             | (refine And.intro ⟨by kernel_rfl, by kernel_rfl⟩ ?_)
             | (refine cond_1 (lt_at hk) ?_)
             | (refine ⟨_, row_at hk, ?_⟩)
             | (refine cond_f ?_ ?_)
             | (refine ⟨_, ⟨by decide, rfl⟩, ?_⟩)
             | (refine cond_i (fun h => ?_) (fun h => ?_)))
    all_goals (conv => whnf)
    all_goals
      refine ⟨_, _, rfl, ?_, up1 hk hs⟩
      rw [← hI] at hb
      unfold openN at hI ⊢
      rw [fold_at hk, ← hI]
      unfold open1
      simp only [bne_iff_ne, bne_eq_false_iff_eq, ne_eq] at h
      first
      | (rw [if_pos h])
      | (rw [if_neg h]; exact wrap_i64 (by omega))
  · refine awp_go ?_
    repeat' (conv => whnf
             first
             | (refine And.intro (by kernel_rfl) ?_)
             | (refine And.intro ⟨by kernel_rfl, by kernel_rfl⟩ ?_)
             | (refine cond_0 lt_end ?_)
             | (refine cond_f ?_ ?_)
             | (refine ⟨_, ⟨by decide, rfl⟩, ?_⟩)
             | (refine cond_i (fun h => ?_) (fun h => ?_)))
    all_goals (conv => whnf)
    all_goals
      rw [hI, List.take_length]
theorem ref23_Worst (o : Owner) (hs : o.calls.length < 4611686018427387904) : Fv Tryd.prog 54 [.agg o.g] (.int .i64 (worst o.calls)) := by
  refine Fv.of_awp Tryd.func54 rfl (by kernel_rfl) rfl (Nat.le_of_ble_eq_true rfl) ?_
  repeat' (conv => whnf
           first
           | (refine And.intro (by kernel_rfl) ?_)
           | (refine And.intro ⟨by kernel_rfl, by kernel_rfl⟩ ?_)
           | (refine cond_f ?_ ?_)
           | (refine ⟨_, ⟨by decide, rfl⟩, ?_⟩)
           | (refine cond_i (fun h => ?_) (fun h => ?_)))
  all_goals (conv => whnf)
  refine Has.each [1, 3, 4] [] o.calls.length (fun k acc => acc = worst (o.calls.take k)) (fun acc i =>
    St.of 28 [(1, .ptr 1 0), (3, .int .i64 acc), (4, .int .i64 i)] [(1, o.g)] []) ⟨_, _, rfl, rfl, rfl⟩ (fun k acc hk hI => ?_) (fun acc hI => ?_)
  · refine awp_go ?_
    repeat' (conv => whnf
             first
             | (refine And.intro (by kernel_rfl) ?_)
             | (refine And.intro ⟨by kernel_rfl, by kernel_rfl⟩ ?_)
             | (refine cond_1 (lt_at hk) ?_)
             | (refine ⟨_, row_at hk, ?_⟩)
             | (refine Or.inl ⟨_, ref05_Join _ _, ?_⟩)
             | (refine ⟨_, ref05_Join _ _, ?_⟩)
             | (refine cond_f ?_ ?_)
             | (refine ⟨_, ⟨by decide, rfl⟩, ?_⟩)
             | (refine cond_i (fun h => ?_) (fun h => ?_)))
    all_goals (conv => whnf)
    all_goals
      refine ⟨_, _, rfl, ?_, up1 hk hs⟩
      unfold worst at *
      rw [fold_at hk, ← hI]
      unfold worst1
      simp only [beq_iff_eq, beq_eq_false_iff_ne, ne_eq] at h
      first
      | (rw [if_pos h])
      | (rw [if_neg h])
  · refine awp_go ?_
    repeat' (conv => whnf
             first
             | (refine And.intro (by kernel_rfl) ?_)
             | (refine And.intro ⟨by kernel_rfl, by kernel_rfl⟩ ?_)
             | (refine cond_0 lt_end ?_)
             | (refine cond_f ?_ ?_)
             | (refine ⟨_, ⟨by decide, rfl⟩, ?_⟩)
             | (refine cond_i (fun h => ?_) (fun h => ?_)))
    all_goals (conv => whnf)
    all_goals
      rw [hI, List.take_length]
theorem ref23_Sum (o : Owner) (n : Int) (hs : o.calls.length < 4611686018427387904) : Fv Tryd.prog 55 [.agg o.g, .int .i64 n] (.int .i64 (sum o.calls n)) := by
  refine Fv.of_awp Tryd.func55 rfl (by kernel_rfl) rfl (Nat.le_of_ble_eq_true rfl) ?_
  repeat' (conv => whnf
           first
           | (refine And.intro (by kernel_rfl) ?_)
           | (refine And.intro ⟨by kernel_rfl, by kernel_rfl⟩ ?_)
           | (refine Or.inl ⟨_, ref23_value _, ?_⟩)
           | (refine ⟨_, ref23_value _, ?_⟩)
           | (refine cond_f ?_ ?_)
           | (refine ⟨_, ⟨by decide, rfl⟩, ?_⟩)
           | (refine cond_i (fun h => ?_) (fun h => ?_)))
  all_goals (conv => whnf)
  refine Has.each [1, 2, 5] [] o.calls.length (fun k acc => acc = sum (o.calls.take k) n) (fun acc i =>
    St.of 29 [(1, .int .i64 acc), (2, .ptr 2 0), (5, .int .i64 i)] [(2, o.g)] []) ⟨_, _, rfl, rfl, rfl⟩ (fun k acc hk hI => ?_) (fun acc hI => ?_)
  · have hb := sum_bd (o.calls.take k) n
    rw [← hI] at hb
    have hv := value_bd o.calls[k].value
    refine awp_go ?_
    repeat' (conv => whnf
             first
             | (refine And.intro (by kernel_rfl) ?_)
             | (refine And.intro ⟨by kernel_rfl, by kernel_rfl⟩ ?_)
             | (refine cond_1 (lt_at hk) ?_)
             | (refine ⟨_, row_at hk, ?_⟩)
             | (refine Or.inl ⟨_, ref23_value _, ?_⟩)
             | (refine ⟨_, ref23_value _, ?_⟩)
             | (refine cond_f ?_ ?_)
             | (refine ⟨_, ⟨by decide, rfl⟩, ?_⟩)
             | (refine cond_i (fun h => ?_) (fun h => ?_)))
    all_goals (conv => whnf)
    all_goals
      refine ⟨_, _, rfl, ?_, up1 hk hs⟩
      unfold sum at *
      rw [fold_at hk, ← hI]
      unfold sum1
      rw [wrap_i64 (n := acc + value o.calls[k].value) (by omega)] at *
      simp only [decide_eq_true_eq, decide_eq_false_iff_not] at h
      first
      | omega
      | (rw [wrap_i64 (by omega)]; omega)
  · refine awp_go ?_
    repeat' (conv => whnf
             first
             | (refine And.intro (by kernel_rfl) ?_)
             | (refine And.intro ⟨by kernel_rfl, by kernel_rfl⟩ ?_)
             | (refine cond_0 lt_end ?_)
             | (refine cond_f ?_ ?_)
             | (refine ⟨_, ⟨by decide, rfl⟩, ?_⟩)
             | (refine cond_i (fun h => ?_) (fun h => ?_)))
    all_goals (conv => whnf)
    all_goals
      rw [hI, List.take_length]
end Go.Proofs.YtfacmphjplablaaDoor.Cn
