/- Contracts of owners' equality and of what is found and put by the law's own functions. No condition but lengths. -/
import Derived.Test.YteioecdfimphaaaCn11
namespace Go.Proofs.Yteioecdfimphaaa.Cn
open Go Go.Proofs Go.Proofs.Yteioecdfimphaaa.Av Go.Proofs.Yteioecdfimphaaa.Sp
set_option linter.unusedVariables false
set_option linter.unusedSimpArgs false
set_option maxRecDepth 100000
attribute [local irreducible] Fv Fp

set_option maxHeartbeats 4000000 in
theorem slices_Equal (l m : List Sp.Call) (hs : l.length < 4611686018427387904) : Fv Try.prog 61 [.sl (l.map Call.g), .sl (m.map Call.g)] (.bool (decide (l = m))) := by
  refine Fv.of_awp Try.func61 rfl (by kernel_rfl) rfl (Nat.le_of_ble_eq_true rfl) ?_
  repeat' (conv => whnf
           first
           | (refine And.intro (by kernel_rfl) ?_)
           | (refine And.intro ⟨by kernel_rfl, by kernel_rfl⟩ ?_)
           | (refine cond_f ?_ ?_)
           | (refine ⟨_, ⟨by decide, rfl⟩, ?_⟩)
           | (refine cond_i (fun h => ?_) (fun h => ?_)))
  all_goals (conv => whnf)
  · refine bool_eq ?_
    simp only [List.length_map, bne_iff_ne, ne_eq] at h
    rw [eq_comm, decide_eq_false_iff_not]
    rintro rfl
    exact h rfl
  · simp only [List.length_map, bne_eq_false_iff_eq] at h
    have hl : l.length = m.length := by omega
    refine Has.each [0, 1, 12, 13] [] l.length (fun k (_ : Unit) => l.take k = m.take k) (fun _ i =>
      St.of 26 [(0, .sl (l.map Call.g)), (1, .sl (m.map Call.g)), (12, .int .i64 ((l.map Call.g).length : Nat)), (13, .int .i64 i)] [] []) ⟨(), _, rfl, by simp, rfl⟩ (fun k _ hk hI => ?_) (fun _ hI => ?_)
    · have hk2 : k < m.length := by omega
      refine awp_go ?_
      repeat' (conv => whnf
               first
               | (refine And.intro (by kernel_rfl) ?_)
               | (refine And.intro ⟨by kernel_rfl, by kernel_rfl⟩ ?_)
               | (refine cond_1 (lt_at hk) ?_)
               | (refine ⟨_, row_at hk, ?_⟩)
               | (refine ⟨_, row_at hk2, ?_⟩)
               | (refine cond_f ?_ ?_)
               | (refine ⟨_, ⟨by decide, rfl⟩, ?_⟩)
               | (refine cond_i (fun h => ?_) (fun h => ?_)))
      all_goals (conv => whnf)
      all_goals simp only [call_eqB, Bool.not_eq_true', Bool.not_eq_false', decide_eq_true_eq, decide_eq_false_iff_not] at h
      · refine bool_eq ?_
        rw [eq_comm, decide_eq_false_iff_not]
        rintro rfl
        exact h rfl
      · exact ⟨(), _, rfl, by rw [take_at hk, take_at hk2, hI, h], up1 hk hs⟩
    · refine awp_go ?_
      repeat' (conv => whnf
               first
               | (refine And.intro (by kernel_rfl) ?_)
               | (refine And.intro ⟨by kernel_rfl, by kernel_rfl⟩ ?_)
               | (refine cond_0 lt_end ?_)
               | (refine cond_f ?_ ?_)
               | (refine ⟨_, ⟨by decide, rfl⟩, ?_⟩)
               | (refine cond_i (fun h => ?_) (fun h => ?_)))
      all_goals (conv => whnf)
      all_goals
        have he := take_eq_all hl hI
        refine bool_eq ?_
        simp [he]
set_option maxHeartbeats 4000000 in
theorem owner_Same (a b : Owner) (hs : a.calls.length < 4611686018427387904) : Fv Try.prog 26 [.agg a.g, .agg b.g] (.bool (decide (a = b))) := by
  refine Fv.of_awp Try.func26 rfl (by kernel_rfl) rfl (Nat.le_of_ble_eq_true rfl) ?_
  repeat' (conv => whnf
           first
           | (refine And.intro (by kernel_rfl) ?_)
           | (refine And.intro ⟨by kernel_rfl, by kernel_rfl⟩ ?_)
           | (refine Or.inl ⟨_, slices_Equal a.calls b.calls hs, ?_⟩)
           | (refine ⟨_, slices_Equal a.calls b.calls hs, ?_⟩)
           | (refine cond_f ?_ ?_)
           | (refine ⟨_, ⟨by decide, rfl⟩, ?_⟩)
           | (refine cond_i (fun h => ?_) (fun h => ?_)))
  all_goals (conv => whnf)
  all_goals
    simp only [id_eqB, key_eqC, beq_iff_eq, beq_eq_false_iff_ne, ne_eq, decide_eq_true_eq, decide_eq_false_iff_not] at *
    refine bool_eq ?_
    rw [Bool.eq_iff_iff]
    simp [owner_ext, sameH, *]
theorem ref23_Find (o : Owner) (d : Sp.Id) (hs : o.calls.length < 4611686018427387904) : Fv Try.prog 35 [.agg o.g, .agg d.g] (.int .i64 (findI o.calls d)) := by
  refine Fv.of_awp Try.func35 rfl (by kernel_rfl) rfl (Nat.le_of_ble_eq_true rfl) ?_
  repeat' (conv => whnf
           first
           | (refine And.intro (by kernel_rfl) ?_)
           | (refine And.intro ⟨by kernel_rfl, by kernel_rfl⟩ ?_)
           | (refine cond_f ?_ ?_)
           | (refine ⟨_, ⟨by decide, rfl⟩, ?_⟩)
           | (refine cond_i (fun h => ?_) (fun h => ?_)))
  all_goals (conv => whnf)
  refine Has.each [2, 3, 5] [] o.calls.length (fun k (_ : Unit) => findI (o.calls.take k) d = -1) (fun _ i =>
    St.of 22 [(2, .ptr 2 0), (3, .ptr 3 0), (5, .int .i64 i)] [(2, o.g), (3, d.g)] []) ⟨(), _, rfl, rfl, rfl⟩ (fun k _ hk hI => ?_) (fun _ hI => ?_)
  · refine awp_go ?_
    repeat' (conv => whnf
             first
             | (refine And.intro (by kernel_rfl) ?_)
             | (refine And.intro ⟨by kernel_rfl, by kernel_rfl⟩ ?_)
             | (refine cond_1 (lt_at hk) ?_)
             | (refine ⟨_, row_at hk, ?_⟩)
             | (refine cond_f ?_ ?_)
             | (refine ⟨_, ⟨by decide, rfl⟩, ?_⟩)
             | (refine cond_i (fun h => ?_) (fun h => ?_)))
    all_goals (conv => whnf)
    all_goals simp only [id_eqB, decide_eq_true_eq, decide_eq_false_iff_not] at h
    · rw [findI_hit hk hI h]
    · exact ⟨(), _, rfl, findI_step hk hI h, up1 hk hs⟩
  · rw [List.take_length] at hI
    rw [hI]
    refine awp_go ?_
    repeat' (conv => whnf
             first
             | (refine And.intro (by kernel_rfl) ?_)
             | (refine And.intro ⟨by kernel_rfl, by kernel_rfl⟩ ?_)
             | (refine cond_0 lt_end ?_)
             | (refine cond_f ?_ ?_)
             | (refine ⟨_, ⟨by decide, rfl⟩, ?_⟩)
             | (refine cond_i (fun h => ?_) (fun h => ?_)))
    all_goals (conv => whnf)
    all_goals rfl
end Go.Proofs.Yteioecdfimphaaa.Cn
