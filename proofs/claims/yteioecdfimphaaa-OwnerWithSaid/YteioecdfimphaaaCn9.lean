/- The laws of what an owner does next, and when it stops. No condition. -/
import Derived.Test.YteioecdfimphaaaCn3
import Derived.Test.YteioecdfimphaaaCn8
namespace Go.Proofs.Yteioecdfimphaaa.Cn
open Go Go.Proofs Go.Proofs.Yteioecdfimphaaa.Av Go.Proofs.Yteioecdfimphaaa.Sp
set_option linter.unusedVariables false
set_option linter.unusedSimpArgs false
set_option maxRecDepth 100000
attribute [local irreducible] Fv Fp

theorem stepO_same (o : Owner) (l : List Pop) : (stepO o l).1.key = o.key ∧ (stepO o l).1.deadline = o.deadline ∧ (stepO o l).1.until = o.until ∧ (stepO o l).1.calls = o.calls := by
  unfold stepO stepOp nextO
  (repeat' split) <;> exact ⟨rfl, rfl, rfl, rfl⟩
set_option maxHeartbeats 4000000 in
theorem law23_OwnerSteps (o : Owner) (l : List Pop) : Fv Try.prog 3 [.agg o.g, .sl (l.map Pop.g)] (.bool true) := by
  refine Fv.of_awp Try.func3 rfl (by kernel_rfl) rfl (Nat.le_of_ble_eq_true rfl) ?_
  by_cases hl : o.calls.length ≤ 30
  · have h1 := law23_Mine o hl
    have h2 := owner_Step o l (by omega)
    have h3 := ref23_Step o l (by omega)
    have hs := stepO_same o l
    generalize stepO o l = r at *
    obtain ⟨x, y⟩ := r
    simp only at h2 h3 hs
    obtain ⟨s1, s2, s3, s4⟩ := hs
    have h4 := law23_Theirs x (by rw [s4]; omega)
    have h5 := ref23_Same x x (by rw [s4]; omega)
    rw [decide_eq_true (rfl : x = x)] at h5
    repeat' (conv => whnf
             first
             | (refine And.intro (by kernel_rfl) ?_)
             | (refine And.intro ⟨by kernel_rfl, by kernel_rfl⟩ ?_)
             | (refine Or.inl ⟨_, law23_awake, ?_⟩)
             | (refine ⟨_, law23_awake, ?_⟩)
             | (refine Or.inl ⟨_, h1, ?_⟩)
             | (refine ⟨_, h1, ?_⟩)
             | (refine Or.inl ⟨_, h2, ?_⟩)
             | (refine ⟨_, h2, ?_⟩)
             | (refine Or.inl ⟨_, h3, ?_⟩)
             | (refine ⟨_, h3, ?_⟩)
             | (refine Or.inl ⟨_, h4, ?_⟩)
             | (refine ⟨_, h4, ?_⟩)
             | (refine Or.inl ⟨_, h5, ?_⟩)
             | (refine ⟨_, h5, ?_⟩)
             | (refine cond_f ?_ ?_)
             | (refine ⟨_, ⟨by decide, rfl⟩, ?_⟩)
             | (refine cond_i (fun h => ?_) (fun h => ?_)))
    all_goals (conv => whnf)
    all_goals first | rfl | skip
    all_goals (exfalso; simp [id_eqB, key_eqC, s1, s2, s3] at h; done)
  · skip
    repeat' (conv => whnf
             first
             | (refine And.intro (by kernel_rfl) ?_)
             | (refine And.intro ⟨by kernel_rfl, by kernel_rfl⟩ ?_)
             | (refine Or.inl ⟨_, law23_awake, ?_⟩)
             | (refine ⟨_, law23_awake, ?_⟩)
             | (refine cond_f ?_ ?_)
             | (refine ⟨_, ⟨by decide, rfl⟩, ?_⟩)
             | (refine cond_i (fun h => ?_) (fun h => ?_)))
    all_goals (conv => whnf)
    all_goals first | rfl | (exfalso; simp only [List.length_map, decide_eq_true_eq, decide_eq_false_iff_not] at *; omega)
theorem ends_up (o : Owner) (h : Int) : decide (ownerEnds { o with «until» := if h > o.until then h else o.until } ≥ ownerEnds o) = true := by
  unfold ownerEnds leaseEnds clamp
  simp only [ge_iff_le, decide_eq_true_eq]
  (repeat' split) <;> omega
theorem over_iff (o : Owner) (now : Int) : (ownerOver o now != 0) = (decide (clamp now ≥ ownerEnds o) || ((o.key.att == 0) && (clamp now == 1125899906842624))) := by
  rw [Bool.eq_iff_iff]
  simp only [bne_iff_ne, beq_iff_eq, Bool.or_eq_true, Bool.and_eq_true, decide_eq_true_eq]
  unfold ownerOver leaseOver ownerEnds leaseEnds clamp
  (repeat' split) <;> omega
set_option maxHeartbeats 4000000 in
theorem law23_OwnerStops (o : Owner) (now heard : Int) : Fv Try.prog 5 [.agg o.g, .int .i64 now, .int .i64 heard] (.bool true) := by
  refine Fv.of_awp Try.func5 rfl (by kernel_rfl) rfl (Nat.le_of_ble_eq_true rfl) ?_
  by_cases hl : o.calls.length ≤ 30
  · have h1 := law23_Mine o hl
    have h2 := owner_Over o now
    have h3 := owner_Ends o
    have h4 := owner_Ends { o with «until» := if heard > o.until then heard else o.until }
    have e1 := ends_up o heard
    have e2 := over_iff o now
    repeat' (conv => whnf
             first
             | (refine And.intro (by kernel_rfl) ?_)
             | (refine And.intro ⟨by kernel_rfl, by kernel_rfl⟩ ?_)
             | (refine Or.inl ⟨_, law23_awake, ?_⟩)
             | (refine ⟨_, law23_awake, ?_⟩)
             | (refine Or.inl ⟨_, h1, ?_⟩)
             | (refine ⟨_, h1, ?_⟩)
             | (refine Or.inl ⟨_, h2, ?_⟩)
             | (refine ⟨_, h2, ?_⟩)
             | (refine Or.inl ⟨_, h3, ?_⟩)
             | (refine ⟨_, h3, ?_⟩)
             | (refine Or.inl ⟨_, h4, ?_⟩)
             | (refine ⟨_, h4, ?_⟩)
             | (refine Or.inl ⟨_, ref01_Clamp _, ?_⟩)
             | (refine ⟨_, ref01_Clamp _, ?_⟩)
             | (refine Or.inl ⟨_, owner_IsRoot o, ?_⟩)
             | (refine ⟨_, owner_IsRoot o, ?_⟩)
             | (refine cond_f ?_ ?_)
             | (refine ⟨_, ⟨by decide, rfl⟩, ?_⟩)
             | (refine cond_i (fun h => ?_) (fun h => ?_)))
    all_goals (conv => whnf)
    all_goals first | rfl | (exfalso; rw [e2] at *; generalize decide (clamp now ≥ ownerEnds o) = p at *; generalize (o.key.att == 0) = q at *; generalize (clamp now == 1125899906842624) = r at *; revert p q r; simp_all; done) | (exfalso; simp_all; done)
  · skip
    repeat' (conv => whnf
             first
             | (refine And.intro (by kernel_rfl) ?_)
             | (refine And.intro ⟨by kernel_rfl, by kernel_rfl⟩ ?_)
             | (refine Or.inl ⟨_, law23_awake, ?_⟩)
             | (refine ⟨_, law23_awake, ?_⟩)
             | (refine cond_f ?_ ?_)
             | (refine ⟨_, ⟨by decide, rfl⟩, ?_⟩)
             | (refine cond_i (fun h => ?_) (fun h => ?_)))
    all_goals (conv => whnf)
    all_goals first | rfl | (exfalso; simp only [List.length_map, decide_eq_true_eq, decide_eq_false_iff_not] at *; omega)
end Go.Proofs.Yteioecdfimphaaa.Cn
