/- The contract of the law of what is done to any call: the rounds. No condition but that the attempt is a number of 64 bits. -/
import Derived.Test.YteioecdfimphaaaCn7
namespace Go.Proofs.Yteioecdfimphaaa.Cn
open Go Go.Proofs Go.Proofs.Yteioecdfimphaaa.Av Go.Proofs.Yteioecdfimphaaa.Sp
set_option linter.unusedVariables false
set_option maxRecDepth 100000
attribute [local irreducible] Fv

set_option maxHeartbeats 40000000 in
theorem law21_CallPlays (c : Sp.Call) (conf : Config) (l : List Deed21) (wait grain : Int) (ha : c.att ≤ 9223372036854775807) : Fv Try.prog 10 [.agg c.g, .agg conf.g, .sl (l.map Deed21.g), .int .i64 wait, .int .i64 grain] (.bool true) := by
  refine Fv.of_awp Try.func10 rfl (by kernel_rfl) rfl (Nat.le_of_ble_eq_true rfl) ?_
  repeat' (conv => whnf
           first
           | (refine And.intro (by kernel_rfl) ?_)
           | (refine ⟨_, law21_awake, ?_⟩)
           | (refine cond_f ?_ ?_)
           | (refine ⟨_, ⟨by decide, rfl⟩, ?_⟩)
           | (refine cond_i (fun h => ?_) (fun h => ?_)))
  all_goals (conv => whnf)
  refine Has.each [2, 3, 4, 5, 6, 11, 12] [] (min l.length 40) (fun k (x : Sp.Call) => x.att ≤ 9223372036854775807) (fun x i =>
    St.of 132 [(2, .sl (l.map Deed21.g)), (3, .int .i64 wait), (4, .int .i64 grain), (5, .ptr 5 0), (6, .ptr 6 0), (11, .ptr 11 0), (12, .int .i64 i)] [(5, x.g), (6, conf.g), (11, x.g)] []) ⟨c, _, rfl, ha, rfl⟩ (fun k x hk hI => ?_) (fun x hI => ?_)
  · have hk1 : k < l.length := by omega
    have hk2 : decide ((k : Int) < 40) = true := by simp; omega
    have hs := law21_step x conf l[k] hI
    have hl := law21_like x conf l[k] hI
    have hI' := cStep_att x conf l[k] hI
    have hw : IntKind.i64.wrap ((k : Int) + 1) = (k : Int) + 1 := wrap_i64 (by omega)
    generalize cStep x conf l[k] = r at *
    obtain ⟨y, b⟩ := r
    simp only at hs hl hI'
    have q1 := eC y
    unfold Sp.Call.g at q1
    refine awp_go ?_
    repeat' (conv => whnf
             first
             | (refine And.intro (by kernel_rfl) ?_)
             | (refine cond_1 (lt_at hk1) ?_)
             | (refine cond_1 hk2 ?_)
             | (rw [q1])
             | (rw [eK])
             | (refine ⟨_, row_at hk1, ?_⟩)
             | (refine ⟨_, hs, ?_⟩)
             | (refine ⟨_, hl, ?_⟩)
             | (refine ⟨_, law21_theirs y, ?_⟩)
             | (refine ⟨_, call_Key y, ?_⟩)
             | (refine ⟨_, ref21_Key y, ?_⟩)
             | (refine ⟨_, call_Lost y _ _ _, ?_⟩)
             | (refine ⟨_, ref21_Lost y _ _ _, ?_⟩)
             | (refine ⟨_, call_Rested y _ _, ?_⟩)
             | (refine ⟨_, ref21_Rested y _ _, ?_⟩)
             | (refine cond_f ?_ ?_)
             | (refine ⟨_, ⟨by decide, rfl⟩, ?_⟩)
             | (refine cond_i (fun h => ?_) (fun h => ?_)))
    all_goals (conv => whnf)
    all_goals first | exact ⟨_, _, rfl, hI', hw⟩ | (exfalso; simp at h; done) | trace_state
  · refine awp_go ?_
    repeat' (conv => whnf
             first
             | (refine And.intro (by kernel_rfl) ?_)
             | (refine ⟨_, law21_awake, ?_⟩)
             | (refine cond_f ?_ ?_)
             | (refine ⟨_, ⟨by decide, rfl⟩, ?_⟩)
             | (refine cond_i (fun h => ?_) (fun h => ?_)))
    all_goals (conv => whnf)
    all_goals first | rfl | (exfalso; simp only [decide_eq_true_eq, List.length_map] at *; omega) | trace_state
end Go.Proofs.Yteioecdfimphaaa.Cn
