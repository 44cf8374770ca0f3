/- The laws of what an owner tells and of what is put in it. No condition. -/
import Derived.Test.YteioecdfimphaaaCn13
namespace Go.Proofs.Yteioecdfimphaaa.Cn
open Go Go.Proofs Go.Proofs.Yteioecdfimphaaa.Av Go.Proofs.Yteioecdfimphaaa.Sp
set_option linter.unusedVariables false
set_option linter.unusedSimpArgs false
set_option maxRecDepth 100000
attribute [local irreducible] Fv Fp

theorem owner_CloneV (o : Owner) (hs : o.calls.length ≤ 31) : Fv Try.prog 37 [.agg o.g] (.agg o.g) := by
  refine Fv.of_awp Try.func37 rfl (by kernel_rfl) rfl (Nat.le_of_ble_eq_true rfl) ?_
  repeat' (conv => whnf
           first
           | (refine And.intro (by kernel_rfl) ?_)
           | (refine And.intro ⟨by kernel_rfl, by kernel_rfl⟩ ?_)
           | (refine Or.inr ⟨_, slices_Clone o.calls hs, ?_⟩)
           | (refine ⟨own_le1, ?_⟩)
           | (rw [own_all1])
           | (refine cond_f ?_ ?_)
           | (refine ⟨_, ⟨by decide, rfl⟩, ?_⟩)
           | (refine cond_i (fun h => ?_) (fun h => ?_)))
  all_goals (conv => whnf)
  all_goals rfl
theorem withC_len (l : List Sp.Call) (c : Sp.Call) : (withC l c).length ≤ l.length + 1 := by
  unfold withC
  split <;> simp
set_option maxHeartbeats 8000000 in
theorem law23_OwnerTells (o p : Owner) (c : Sp.Call) (now v : Int) : Fv Try.prog 7 [.agg o.g, .agg p.g, .agg c.g, .int .i64 now, .int .i64 v] (.bool true) := by
  refine Fv.of_awp Try.func7 rfl (by kernel_rfl) rfl (Nat.le_of_ble_eq_true rfl) ?_
  by_cases hl : o.calls.length ≤ 30 ∧ p.calls.length ≤ 30
  · obtain ⟨hl, hp⟩ := hl
    have hw : (withO o c).calls.length ≤ 31 := by have := withC_len o.calls c; show (withC o.calls c).length ≤ 31; omega
    have m1 := law23_Mine o hl
    have m2 := law23_Mine p hp
    have m3 := law23_One c
    have m4 := law23_Theirs (withO o c) hw
    have e1 := owner_Ends o
    have e2 := ref23_Ends o
    have v1 := owner_Over o now
    have v2 := ref23_Over o now
    have p1 := owner_Open o (by omega)
    have p2 := ref23_Open o (by omega)
    have w1 := owner_Worst o (by omega)
    have w2 := ref23_Worst o (by omega)
    have s1 := owner_Sum o v (by omega)
    have s2 := ref23_Sum o v (by omega)
    have f1 := owner_Find o c.id (by omega)
    have f2 := ref23_Find o c.id (by omega)
    have x1 := owner_With o c (by omega)
    have x2 := ref23_With o c hl
    have q1 := owner_Same o p (by omega)
    have q2 := ref23_Same o p (by omega)
    have q3 := owner_Same o o (by omega)
    have q4 := ref23_Same (withO o c) (withO o c) (by omega)
    have k1 := owner_CloneV o (by omega)
    have r1 := owner_IsRoot o
    rw [decide_eq_true (rfl : o = o)] at q3
    rw [decide_eq_true (rfl : withO o c = withO o c)] at q4
    generalize decide (o = p) = bp at q1 q2
    generalize withO o c = y at *
    repeat' (conv => whnf
             first
             | (refine And.intro (by kernel_rfl) ?_)
             | (refine And.intro ⟨by kernel_rfl, by kernel_rfl⟩ ?_)
             | (refine Or.inl ⟨_, law23_awake, ?_⟩)
             | (refine ⟨_, law23_awake, ?_⟩)
             | (refine Or.inl ⟨_, m1, ?_⟩)
             | (refine ⟨_, m1, ?_⟩)
             | (refine Or.inl ⟨_, m2, ?_⟩)
             | (refine ⟨_, m2, ?_⟩)
             | (refine Or.inl ⟨_, m3, ?_⟩)
             | (refine ⟨_, m3, ?_⟩)
             | (refine Or.inl ⟨_, m4, ?_⟩)
             | (refine ⟨_, m4, ?_⟩)
             | (refine Or.inl ⟨_, e1, ?_⟩)
             | (refine ⟨_, e1, ?_⟩)
             | (refine Or.inl ⟨_, e2, ?_⟩)
             | (refine ⟨_, e2, ?_⟩)
             | (refine Or.inl ⟨_, v1, ?_⟩)
             | (refine ⟨_, v1, ?_⟩)
             | (refine Or.inl ⟨_, v2, ?_⟩)
             | (refine ⟨_, v2, ?_⟩)
             | (refine Or.inl ⟨_, p1, ?_⟩)
             | (refine ⟨_, p1, ?_⟩)
             | (refine Or.inl ⟨_, p2, ?_⟩)
             | (refine ⟨_, p2, ?_⟩)
             | (refine Or.inl ⟨_, w1, ?_⟩)
             | (refine ⟨_, w1, ?_⟩)
             | (refine Or.inl ⟨_, w2, ?_⟩)
             | (refine ⟨_, w2, ?_⟩)
             | (refine Or.inl ⟨_, s1, ?_⟩)
             | (refine ⟨_, s1, ?_⟩)
             | (refine Or.inl ⟨_, s2, ?_⟩)
             | (refine ⟨_, s2, ?_⟩)
             | (refine Or.inl ⟨_, f1, ?_⟩)
             | (refine ⟨_, f1, ?_⟩)
             | (refine Or.inl ⟨_, f2, ?_⟩)
             | (refine ⟨_, f2, ?_⟩)
             | (refine Or.inl ⟨_, x1, ?_⟩)
             | (refine ⟨_, x1, ?_⟩)
             | (refine Or.inl ⟨_, x2, ?_⟩)
             | (refine ⟨_, x2, ?_⟩)
             | (refine Or.inl ⟨_, q1, ?_⟩)
             | (refine ⟨_, q1, ?_⟩)
             | (refine Or.inl ⟨_, q2, ?_⟩)
             | (refine ⟨_, q2, ?_⟩)
             | (refine Or.inl ⟨_, q3, ?_⟩)
             | (refine ⟨_, q3, ?_⟩)
             | (refine Or.inl ⟨_, q4, ?_⟩)
             | (refine ⟨_, q4, ?_⟩)
             | (refine Or.inl ⟨_, k1, ?_⟩)
             | (refine ⟨_, k1, ?_⟩)
             | (refine Or.inl ⟨_, r1, ?_⟩)
             | (refine ⟨_, r1, ?_⟩)
             | (refine cond_f ?_ ?_)
             | (refine ⟨_, ⟨by decide, rfl⟩, ?_⟩)
             | (refine cond_i (fun h => ?_) (fun h => ?_)))
    all_goals (conv => whnf)
    all_goals first | rfl | (exfalso; simp at h; done)
  · skip
    repeat' (conv => whnf
             first
             | (refine And.intro (by kernel_rfl) ?_)
             | (refine And.intro ⟨by kernel_rfl, by kernel_rfl⟩ ?_)
             | (refine Or.inl ⟨_, law23_awake, ?_⟩)
             | (refine ⟨_, law23_awake, ?_⟩)
             | (refine cond_f ?_ ?_)
             | (refine ⟨_, ⟨by decide, rfl⟩, ?_⟩)
             | (refine cond_i (fun h => ?_) (fun h => ?_)))
    all_goals (conv => whnf)
    all_goals first | rfl | (exfalso; simp only [List.length_map, decide_eq_true_eq, decide_eq_false_iff_not] at *; omega)
end Go.Proofs.Yteioecdfimphaaa.Cn
