/- Contracts of what the laws of owners reach. No condition but lengths. -/
import Derived.Test.YteioecdfimphaaaCn2
import Derived.Test.YteioecdfimphaaaSp6
namespace Go.Proofs.Yteioecdfimphaaa.Cn
open Go Go.Proofs Go.Proofs.Yteioecdfimphaaa.Av Go.Proofs.Yteioecdfimphaaa.Sp
set_option linter.unusedVariables false
set_option linter.unusedSimpArgs false
set_option maxRecDepth 100000
attribute [local irreducible] Fv Fp

theorem law23_One (c : Sp.Call) : Fv Try.prog 24 [.agg c.g] (.agg c.g) := by
  refine Fv.of_awp Try.func24 rfl (by kernel_rfl) rfl (Nat.le_of_ble_eq_true rfl) ?_
  repeat' (conv => whnf
           first
           | (refine And.intro (by kernel_rfl) ?_)
           | (refine And.intro ⟨by kernel_rfl, by kernel_rfl⟩ ?_)
           | (refine cond_f ?_ ?_)
           | (refine ⟨_, ⟨by decide, rfl⟩, ?_⟩)
           | (refine cond_i (fun h => ?_) (fun h => ?_)))
  all_goals (conv => whnf)
  all_goals rfl
theorem law23_Mine (o : Owner) (hs : o.calls.length ≤ 30) : Fv Try.prog 13 [.agg o.g] (.agg o.g) := by
  refine Fv.of_awp Try.func13 rfl (by kernel_rfl) rfl (Nat.le_of_ble_eq_true rfl) ?_
  repeat' (conv => whnf
           first
           | (refine And.intro (by kernel_rfl) ?_)
           | (refine And.intro ⟨by kernel_rfl, by kernel_rfl⟩ ?_)
           | (refine cond_f ?_ ?_)
           | (refine ⟨_, ⟨by decide, rfl⟩, ?_⟩)
           | (refine cond_i (fun h => ?_) (fun h => ?_)))
  all_goals (conv => whnf)
  refine Has.own0B 3 18 42 rfl rfl rfl ?_
  refine Has.each [1, 2, 3, 4] [] o.calls.length (OwnI Call.g o.calls) (fun b i =>
    St.of 45 [(1, .ptr 1 0), (2, .ptr 2 0), (3, .ptr 3 0), (4, .int .i64 i)] [(1, o.g), (2, zOwner.gw .nils), (3, o.gw (.own 42 0 b.1))] [(42, b.2)]) ⟨(0, []), _, rfl, ⟨rfl, rfl⟩, rfl⟩ (fun k b hk hI => ?_) (fun b hI => ?_)
  · obtain ⟨n, xs⟩ := b
    obtain ⟨rfl, rfl⟩ : n = k ∧ xs = _ := hI
    refine awp_go ?_
    repeat' (conv => whnf
             first
             | (refine And.intro (by kernel_rfl) ?_)
             | (refine And.intro ⟨by kernel_rfl, by kernel_rfl⟩ ?_)
             | (refine cond_1 (lt_at hk) ?_)
             | (refine ⟨_, row_at hk, ?_⟩)
             | (refine Or.inl ⟨_, law23_One o.calls[n], ?_⟩)
             | (refine ⟨_, law23_One o.calls[n], ?_⟩)
             | (refine ⟨app_at 13 104 (Nat.le_of_lt hk) (by kernel_rfl) (by kernel_rfl) (fun _ => rfl) (by omega), ?_⟩)
             | (refine cond_f ?_ ?_)
             | (refine ⟨_, ⟨by decide, rfl⟩, ?_⟩)
             | (refine cond_i (fun h => ?_) (fun h => ?_)))
    all_goals (conv => whnf)
    exact ⟨(_, _), _, rfl, ⟨rfl, own_app (R := Call.g) hk⟩, up1 hk (by omega)⟩
  · obtain ⟨n, xs⟩ := b
    obtain ⟨rfl, rfl⟩ : n = _ ∧ xs = _ := hI
    refine awp_go ?_
    repeat' (conv => whnf
             first
             | (refine And.intro (by kernel_rfl) ?_)
             | (refine And.intro ⟨by kernel_rfl, by kernel_rfl⟩ ?_)
             | (refine cond_0 lt_end ?_)
             | (refine ⟨own_le, ?_⟩)
             | (refine cond_f ?_ ?_)
             | (refine ⟨_, ⟨by decide, rfl⟩, ?_⟩)
             | (refine cond_i (fun h => ?_) (fun h => ?_)))
    all_goals (conv => whnf)
    simp only [own_all]
    rfl
theorem law23_Theirs (o : Owner) (hs : o.calls.length ≤ 31) : Fv Try.prog 16 [.agg o.g] (.agg o.g) := by
  refine Fv.of_awp Try.func16 rfl (by kernel_rfl) rfl (Nat.le_of_ble_eq_true rfl) ?_
  repeat' (conv => whnf
           first
           | (refine And.intro (by kernel_rfl) ?_)
           | (refine And.intro ⟨by kernel_rfl, by kernel_rfl⟩ ?_)
           | (refine cond_f ?_ ?_)
           | (refine ⟨_, ⟨by decide, rfl⟩, ?_⟩)
           | (refine cond_i (fun h => ?_) (fun h => ?_)))
  all_goals (conv => whnf)
  refine Has.own0B 3 18 65 rfl rfl rfl ?_
  refine Has.each [1, 2, 3, 4] [5] o.calls.length (OwnI Call.g o.calls) (fun b i =>
    St.of 68 [(1, .ptr 1 0), (2, .ptr 2 0), (3, .ptr 3 0), (4, .int .i64 i)] [(1, o.g), (2, zOwner.gw .nils), (3, o.gw (.own 65 0 b.1))] [(65, b.2)]) ⟨(0, []), _, rfl, ⟨rfl, rfl⟩, rfl⟩ (fun k b hk hI => ?_) (fun b hI => ?_)
  · obtain ⟨n, xs⟩ := b
    obtain ⟨rfl, rfl⟩ : n = k ∧ xs = _ := hI
    refine awp_go ?_
    repeat' (conv => whnf
             first
             | (refine And.intro (by kernel_rfl) ?_)
             | (refine And.intro ⟨by kernel_rfl, by kernel_rfl⟩ ?_)
             | (refine cond_1 (lt_at hk) ?_)
             | (refine ⟨_, row_at hk, ?_⟩)
             | (refine ⟨app_at 13 104 (Nat.le_of_lt hk) (by kernel_rfl) (by kernel_rfl) (fun _ => rfl) (by omega), ?_⟩)
             | (refine cond_f ?_ ?_)
             | (refine ⟨_, ⟨by decide, rfl⟩, ?_⟩)
             | (refine cond_i (fun h => ?_) (fun h => ?_)))
    all_goals (conv => whnf)
    exact ⟨(_, _), _, rfl, ⟨rfl, own_app (R := Call.g) hk⟩, up1 hk (by omega)⟩
  · obtain ⟨n, xs⟩ := b
    obtain ⟨rfl, rfl⟩ : n = _ ∧ xs = _ := hI
    refine awp_go ?_
    repeat' (conv => whnf
             first
             | (refine And.intro (by kernel_rfl) ?_)
             | (refine And.intro ⟨by kernel_rfl, by kernel_rfl⟩ ?_)
             | (refine cond_0 lt_end ?_)
             | (refine ⟨own_le, ?_⟩)
             | (refine cond_f ?_ ?_)
             | (refine ⟨_, ⟨by decide, rfl⟩, ?_⟩)
             | (refine cond_i (fun h => ?_) (fun h => ?_)))
    all_goals (conv => whnf)
    simp only [own_all]
    rfl
set_option maxHeartbeats 2000000 in
theorem ref23_Same (a b : Owner) (hs : a.calls.length < 4611686018427387904) : Fv Try.prog 15 [.agg a.g, .agg b.g] (.bool (decide (a = b))) := by
  refine Fv.of_awp Try.func15 rfl (by kernel_rfl) rfl (Nat.le_of_ble_eq_true rfl) ?_
  repeat' (conv => whnf
           first
           | (refine And.intro (by kernel_rfl) ?_)
           | (refine And.intro ⟨by kernel_rfl, by kernel_rfl⟩ ?_)
           | (refine cond_f ?_ ?_)
           | (refine ⟨_, ⟨by decide, rfl⟩, ?_⟩)
           | (refine cond_i (fun h => ?_) (fun h => ?_)))
  all_goals (conv => whnf)
  · refine bool_eq ?_
    simp only [List.length_map, bne_iff_ne, ne_eq] at h
    rw [eq_comm, decide_eq_false_iff_not]
    rintro rfl
    exact h rfl
  · simp only [List.length_map, bne_eq_false_iff_eq] at h
    have hl : a.calls.length = b.calls.length := by omega
    refine Has.each [2, 3, 5] [] a.calls.length (fun k (_ : Unit) => a.calls.take k = b.calls.take k) (fun _ i =>
      St.of 99 [(2, .ptr 2 0), (3, .ptr 3 0), (5, .int .i64 i)] [(2, a.g), (3, b.g)] []) ⟨(), _, rfl, by simp, rfl⟩ (fun k _ hk hI => ?_) (fun _ hI => ?_)
    · have hk2 : k < b.calls.length := by omega
      refine awp_go ?_
      repeat' (conv => whnf
               first
               | (refine And.intro (by kernel_rfl) ?_)
               | (refine And.intro ⟨by kernel_rfl, by kernel_rfl⟩ ?_)
               | (refine cond_1 (lt_at hk) ?_)
               | (refine ⟨_, row_at hk, ?_⟩)
               | (refine ⟨_, row_at hk2, ?_⟩)
               | (refine cond_f ?_ ?_)
               | (refine ⟨_, ⟨by decide, rfl⟩, ?_⟩)
               | (refine cond_i (fun h => ?_) (fun h => ?_)))
      all_goals (conv => whnf)
      all_goals simp only [call_eqB, Bool.not_eq_true', Bool.not_eq_false', decide_eq_true_eq, decide_eq_false_iff_not] at h
      · refine bool_eq ?_
        rw [eq_comm, decide_eq_false_iff_not]
        rintro rfl
        exact h rfl
      · exact ⟨(), _, rfl, by rw [take_at hk, take_at hk2, hI, h], up1 hk hs⟩
    · refine awp_go ?_
      repeat' (conv => whnf
               first
               | (refine And.intro (by kernel_rfl) ?_)
               | (refine And.intro ⟨by kernel_rfl, by kernel_rfl⟩ ?_)
               | (refine cond_0 lt_end ?_)
               | (refine cond_f ?_ ?_)
               | (refine ⟨_, ⟨by decide, rfl⟩, ?_⟩)
               | (refine cond_i (fun h => ?_) (fun h => ?_)))
      all_goals (conv => whnf)
      all_goals
        have he := take_eq_all hl hI
        clear hI
        simp only [id_eqB, key_eqC, beq_iff_eq, beq_eq_false_iff_ne, ne_eq, decide_eq_true_eq, decide_eq_false_iff_not] at *
        refine bool_eq ?_
        rw [Bool.eq_iff_iff]
        simp [owner_ext, sameH, *]
set_option maxHeartbeats 2000000 in
theorem ref23_Open (o : Owner) (hs : o.calls.length < 4611686018427387904) : Fv Try.prog 30 [.agg o.g] (.int .i64 (openN o.calls)) := by
  refine Fv.of_awp Try.func30 rfl (by kernel_rfl) rfl (Nat.le_of_ble_eq_true rfl) ?_
  repeat' (conv => whnf
           first
           | (refine And.intro (by kernel_rfl) ?_)
           | (refine And.intro ⟨by kernel_rfl, by kernel_rfl⟩ ?_)
           | (refine cond_f ?_ ?_)
           | (refine ⟨_, ⟨by decide, rfl⟩, ?_⟩)
           | (refine cond_i (fun h => ?_) (fun h => ?_)))
  all_goals (conv => whnf)
  refine Has.each [1, 3, 4] [] o.calls.length (fun k acc => acc = openN (o.calls.take k)) (fun acc i =>
    St.of 22 [(1, .ptr 1 0), (3, .int .i64 acc), (4, .int .i64 i)] [(1, o.g)] []) ⟨_, _, rfl, rfl, rfl⟩ (fun k acc hk hI => ?_) (fun acc hI => ?_)
  · have hb := openN_bd (o.calls.take k)
    have hl : (o.calls.take k).length ≤ k := List.length_take_le _ _
    refine awp_go ?_
    repeat' (conv => whnf
             first
             | (refine And.intro (by kernel_rfl) ?_)
             | (refine And.intro ⟨by kernel_rfl, by kernel_rfl⟩ ?_)
             | (refine cond_1 (lt_at hk) ?_)
             | (refine ⟨_, row_at hk, ?_⟩)
             | (refine cond_f ?_ ?_)
             | (refine ⟨_, ⟨by decide, rfl⟩, ?_⟩)
             | (refine cond_i (fun h => ?_) (fun h => ?_)))
    all_goals (conv => whnf)
    all_goals
      refine ⟨_, _, rfl, ?_, up1 hk hs⟩
      rw [← hI] at hb
      unfold openN at hI ⊢
      rw [fold_at hk, ← hI]
      unfold open1
      simp only [bne_iff_ne, bne_eq_false_iff_eq, ne_eq] at h
      first
      | (rw [if_pos h])
      | (rw [if_neg h]; exact wrap_i64 (by omega))
  · refine awp_go ?_
    repeat' (conv => whnf
             first
             | (refine And.intro (by kernel_rfl) ?_)
             | (refine And.intro ⟨by kernel_rfl, by kernel_rfl⟩ ?_)
             | (refine cond_0 lt_end ?_)
             | (refine cond_f ?_ ?_)
             | (refine ⟨_, ⟨by decide, rfl⟩, ?_⟩)
             | (refine cond_i (fun h => ?_) (fun h => ?_)))
    all_goals (conv => whnf)
    all_goals
      rw [hI, List.take_length]
theorem ref23_Worst (o : Owner) (hs : o.calls.length < 4611686018427387904) : Fv Try.prog 32 [.agg o.g] (.int .i64 (worst o.calls)) := by
  refine Fv.of_awp Try.func32 rfl (by kernel_rfl) rfl (Nat.le_of_ble_eq_true rfl) ?_
  repeat' (conv => whnf
           first
           | (refine And.intro (by kernel_rfl) ?_)
           | (refine And.intro ⟨by kernel_rfl, by kernel_rfl⟩ ?_)
           | (refine cond_f ?_ ?_)
           | (refine ⟨_, ⟨by decide, rfl⟩, ?_⟩)
           | (refine cond_i (fun h => ?_) (fun h => ?_)))
  all_goals (conv => whnf)
  refine Has.each [1, 3, 4] [] o.calls.length (fun k acc => acc = worst (o.calls.take k)) (fun acc i =>
    St.of 28 [(1, .ptr 1 0), (3, .int .i64 acc), (4, .int .i64 i)] [(1, o.g)] []) ⟨_, _, rfl, rfl, rfl⟩ (fun k acc hk hI => ?_) (fun acc hI => ?_)
  · refine awp_go ?_
    repeat' (conv => whnf
             first
             | (refine And.intro (by kernel_rfl) ?_)
             | (refine And.intro ⟨by kernel_rfl, by kernel_rfl⟩ ?_)
             | (refine cond_1 (lt_at hk) ?_)
             | (refine ⟨_, row_at hk, ?_⟩)
             | (refine Or.inl ⟨_, ref05_Join _ _, ?_⟩)
             | (refine ⟨_, ref05_Join _ _, ?_⟩)
             | (refine cond_f ?_ ?_)
             | (refine ⟨_, ⟨by decide, rfl⟩, ?_⟩)
             | (refine cond_i (fun h => ?_) (fun h => ?_)))
    all_goals (conv => whnf)
    all_goals
      refine ⟨_, _, rfl, ?_, up1 hk hs⟩
      unfold worst at *
      rw [fold_at hk, ← hI]
      unfold worst1
      simp only [beq_iff_eq, beq_eq_false_iff_ne, ne_eq] at h
      first
      | (rw [if_pos h])
      | (rw [if_neg h])
  · refine awp_go ?_
    repeat' (conv => whnf
             first
             | (refine And.intro (by kernel_rfl) ?_)
             | (refine And.intro ⟨by kernel_rfl, by kernel_rfl⟩ ?_)
             | (refine cond_0 lt_end ?_)
             | (refine cond_f ?_ ?_)
             | (refine ⟨_, ⟨by decide, rfl⟩, ?_⟩)
             | (refine cond_i (fun h => ?_) (fun h => ?_)))
    all_goals (conv => whnf)
    all_goals
      rw [hI, List.take_length]
theorem ref23_Sum (o : Owner) (n : Int) (hs : o.calls.length < 4611686018427387904) : Fv Try.prog 34 [.agg o.g, .int .i64 n] (.int .i64 (sum o.calls n)) := by
  refine Fv.of_awp Try.func34 rfl (by kernel_rfl) rfl (Nat.le_of_ble_eq_true rfl) ?_
  repeat' (conv => whnf
           first
           | (refine And.intro (by kernel_rfl) ?_)
           | (refine And.intro ⟨by kernel_rfl, by kernel_rfl⟩ ?_)
           | (refine Or.inl ⟨_, ref23_value _, ?_⟩)
           | (refine ⟨_, ref23_value _, ?_⟩)
           | (refine cond_f ?_ ?_)
           | (refine ⟨_, ⟨by decide, rfl⟩, ?_⟩)
           | (refine cond_i (fun h => ?_) (fun h => ?_)))
  all_goals (conv => whnf)
  refine Has.each [1, 2, 5] [] o.calls.length (fun k acc => acc = sum (o.calls.take k) n) (fun acc i =>
    St.of 29 [(1, .int .i64 acc), (2, .ptr 2 0), (5, .int .i64 i)] [(2, o.g)] []) ⟨_, _, rfl, rfl, rfl⟩ (fun k acc hk hI => ?_) (fun acc hI => ?_)
  · have hb := sum_bd (o.calls.take k) n
    rw [← hI] at hb
    have hv := value_bd o.calls[k].value
    refine awp_go ?_
    repeat' (conv => whnf
             first
             | (refine And.intro (by kernel_rfl) ?_)
             | (refine And.intro ⟨by kernel_rfl, by kernel_rfl⟩ ?_)
             | (refine cond_1 (lt_at hk) ?_)
             | (refine ⟨_, row_at hk, ?_⟩)
             | (refine Or.inl ⟨_, ref23_value _, ?_⟩)
             | (refine ⟨_, ref23_value _, ?_⟩)
             | (refine cond_f ?_ ?_)
             | (refine ⟨_, ⟨by decide, rfl⟩, ?_⟩)
             | (refine cond_i (fun h => ?_) (fun h => ?_)))
    all_goals (conv => whnf)
    all_goals
      refine ⟨_, _, rfl, ?_, up1 hk hs⟩
      unfold sum at *
      rw [fold_at hk, ← hI]
      unfold sum1
      rw [wrap_i64 (n := acc + value o.calls[k].value) (by omega)] at *
      simp only [decide_eq_true_eq, decide_eq_false_iff_not] at h
      first
      | omega
      | (rw [wrap_i64 (by omega)]; omega)
  · refine awp_go ?_
    repeat' (conv => whnf
             first
             | (refine And.intro (by kernel_rfl) ?_)
             | (refine And.intro ⟨by kernel_rfl, by kernel_rfl⟩ ?_)
             | (refine cond_0 lt_end ?_)
             | (refine cond_f ?_ ?_)
             | (refine ⟨_, ⟨by decide, rfl⟩, ?_⟩)
             | (refine cond_i (fun h => ?_) (fun h => ?_)))
    all_goals (conv => whnf)
    all_goals
      rw [hI, List.take_length]
set_option maxHeartbeats 4000000 in
theorem ref23_Step (o : Owner) (l : List Pop) (hs : o.calls.length < 4611686018427387904) : Fv Try.prog 14 [.agg o.g, .sl (l.map Pop.g)] (.tup [.agg (stepO o l).1.g, .agg (stepO o l).2.g]) := by
  refine Fv.of_awp Try.func14 rfl (by kernel_rfl) rfl (Nat.le_of_ble_eq_true rfl) ?_
  by_cases hp : 0 ≤ o.pc ∧ o.pc.toNat < l.length
  · have e1 : decide (o.pc < 0) = false := by simp; omega
    have e2 : decide (o.pc ≥ ((l.map Pop.g).length : Int)) = false := by simp; omega
    have e3 : 0 ≤ o.pc ∧ (l.map Pop.g)[o.pc.toNat]? = some (l[o.pc.toNat]'hp.2).g := ⟨hp.1, by simp [List.getElem?_eq_getElem hp.2]⟩
    have e4 : stepO o l = stepOp o (l[o.pc.toNat]'hp.2) := by unfold stepO; rw [if_pos hp.1, List.getElem?_eq_getElem hp.2]
    rw [e4]
    generalize l[o.pc.toNat]'hp.2 = op at *
    repeat' (conv => whnf
             first
             | (refine And.intro (by kernel_rfl) ?_)
             | (refine And.intro ⟨by kernel_rfl, by kernel_rfl⟩ ?_)
             | (refine cond_0 e1 ?_)
             | (refine cond_0 e2 ?_)
             | (refine ⟨_, e3, ?_⟩)
             | (refine Or.inl ⟨_, ref23_Open o hs, ?_⟩)
             | (refine ⟨_, ref23_Open o hs, ?_⟩)
             | (refine Or.inl ⟨_, ref23_Worst o hs, ?_⟩)
             | (refine ⟨_, ref23_Worst o hs, ?_⟩)
             | (refine Or.inl ⟨_, ref23_Sum o _ hs, ?_⟩)
             | (refine ⟨_, ref23_Sum o _ hs, ?_⟩)
             | (refine Or.inl ⟨_, ref05_Clean _, ?_⟩)
             | (refine ⟨_, ref05_Clean _, ?_⟩)
             | (refine cond_f ?_ ?_)
             | (refine ⟨_, ⟨by decide, rfl⟩, ?_⟩)
             | (refine cond_i (fun h => ?_) (fun h => ?_)))
    all_goals (conv => whnf)
    all_goals
      clear e1 e2 e3 e4
      simp only [beq_iff_eq, beq_eq_false_iff_ne, bne_iff_ne, bne_eq_false_iff_eq, ne_eq, decide_eq_true_eq, decide_eq_false_iff_not] at *
      unfold stepOp
      (repeat' split) <;> first | rfl | (exfalso; omega)
  · have e4 : stepO o l = (o, ⟨4, sum o.calls 0, 0⟩) := by
      unfold stepO
      split
      · rw [List.getElem?_eq_none (by omega)]
      · rfl
    rw [e4]
    repeat' (conv => whnf
             first
             | (refine And.intro (by kernel_rfl) ?_)
             | (refine And.intro ⟨by kernel_rfl, by kernel_rfl⟩ ?_)
             | (refine Or.inl ⟨_, ref23_Sum o _ hs, ?_⟩)
             | (refine ⟨_, ref23_Sum o _ hs, ?_⟩)
             | (refine cond_f ?_ ?_)
             | (refine ⟨_, ⟨by decide, rfl⟩, ?_⟩)
             | (refine cond_i (fun h => ?_) (fun h => ?_)))
    all_goals (conv => whnf)
    all_goals first | rfl | (exfalso; simp only [decide_eq_true_eq, decide_eq_false_iff_not, List.length_map] at *; omega)
end Go.Proofs.Yteioecdfimphaaa.Cn
