
/- Contracts of the functions on waits, tokens, and whether one tries again. No condition but that the attempt is a number of 64 bits. -/
import Derived.Test.YtfacmphjplablaaDoorCn4
import Derived.Test.YtfacmphjplablaaDoorSp5
namespace Go.Proofs.YtfacmphjplablaaDoor.Cn
open Go Go.Proofs Go.Proofs.YtfacmphjplablaaDoor.Av Go.Proofs.YtfacmphjplablaaDoor.Sp
set_option linter.unusedVariables false
set_option linter.unusedSimpArgs false
set_option maxRecDepth 100000

theorem backoff_Step (b m a : Int) (ha : a ≤ 9223372036854775807) : Fv Tryd.prog 139 [.int .i64 b, .int .i64 m, .int .i64 a] (.int .i64 (stepB b m a)) := by
  refine Fv.of_awp Tryd.func139 rfl (by kernel_rfl) rfl (Nat.le_of_ble_eq_true rfl) ?_
  have hb := clamp_bd b
  have hm := clamp_bd m
  have hn := attI_bd a
  repeat' (conv => whnf
           first
           | (refine And.intro (by kernel_rfl) ?_)
           | (refine And.intro ⟨by kernel_rfl, by kernel_rfl⟩ ?_)
           | (refine Or.inl ⟨_, ticks_Clamp _, ?_⟩)
           | (refine ⟨_, ticks_Clamp _, ?_⟩)
           | (refine cond_f ?_ ?_)
           | (refine ⟨_, ⟨by decide, rfl⟩, ?_⟩)
           | (refine cond_i (fun h => ?_) (fun h => ?_)))
  all_goals (conv => whnf)
  have e0 : IntKind.i64.wrap ((if 1 > a then 1 else a) - 1) = (if 1 > a then 1 else a) - 1 := wrap_i64 (by split <;> omega)
  rw [e0]
  refine Has.each [0, 1, 14, 15] [] (attI a).toNat (fun k x => x = dbl (clamp b) k) (fun x i =>
    St.of 27 [(0, .int .i64 x), (1, .int .i64 (clamp m)), (14, .int .i64 (attI a)), (15, .int .i64 i)] [] []) ⟨clamp b, _, rfl, rfl, rfl⟩ (fun k x hk hI => ?_) (fun x hI => ?_)
  · have hle : decide ((k : Int) < attI a) = true := by simp; omega
    refine awp_go ?_
    repeat' (conv => whnf
             first
             | (refine And.intro (by kernel_rfl) ?_)
             | (refine And.intro ⟨by kernel_rfl, by kernel_rfl⟩ ?_)
             | (refine cond_1 hle ?_)
             | (refine Or.inl ⟨_, ticks_Add _ _, ?_⟩)
             | (refine ⟨_, ticks_Add _ _, ?_⟩)
             | (refine cond_f ?_ ?_)
             | (refine ⟨_, ⟨by decide, rfl⟩, ?_⟩)
             | (refine cond_i (fun h => ?_) (fun h => ?_)))
    all_goals (conv => whnf)
    · refine int_eq ?_
      subst hI
      simp only [decide_eq_true_eq] at h
      have h1 := dbl_le hb k ((attI a).toNat - k)
      rw [show k + ((attI a).toNat - k) = (attI a).toNat by omega] at h1
      unfold stepB
      (repeat' split) <;> omega
    · subst hI
      exact ⟨_, _, rfl, rfl, wrap_i64 (by omega)⟩
  · have hle : decide (((attI a).toNat : Int) < attI a) = false := by simp; omega
    refine awp_go ?_
    repeat' (conv => whnf
             first
             | (refine And.intro (by kernel_rfl) ?_)
             | (refine And.intro ⟨by kernel_rfl, by kernel_rfl⟩ ?_)
             | (refine cond_0 hle ?_)
             | (refine cond_f ?_ ?_)
             | (refine ⟨_, ⟨by decide, rfl⟩, ?_⟩)
             | (refine cond_i (fun h => ?_) (fun h => ?_)))
    all_goals (conv => whnf)
    subst hI
    refine int_eq ?_
    unfold stepB
    (repeat' split) <;> omega
theorem backoff_Delay (b m a j : Int) (ha : a ≤ 9223372036854775807) : Fv Tryd.prog 134 [.int .i64 b, .int .i64 m, .int .i64 a, .int .i64 j] (.int .i64 (delay b m a j)) := by
  refine Fv.of_awp Tryd.func134 rfl (by kernel_rfl) rfl (Nat.le_of_ble_eq_true rfl) ?_
  repeat' (conv => whnf
           first
           | (refine And.intro (by kernel_rfl) ?_)
           | (refine And.intro ⟨by kernel_rfl, by kernel_rfl⟩ ?_)
           | (refine Or.inl ⟨_, backoff_Step _ _ _ ha, ?_⟩)
           | (refine ⟨_, backoff_Step _ _ _ ha, ?_⟩)
           | (refine cond_f ?_ ?_)
           | (refine ⟨_, ⟨by decide, rfl⟩, ?_⟩)
           | (refine cond_i (fun h => ?_) (fun h => ?_)))
  all_goals (conv => whnf)
  all_goals
    refine int_eq ?_
    show _ = stepB b m a - stepB b m a / 2 * jit j / 1000
    have h1 := stepB_bd b m a
    have h2 := jit_bd j
    have h3 := delay_parts (stepB b m a / 2) (jit j) (by omega) h2.1
    rw [show (if 1000 < (if 0 > j then 0 else j) then 1000 else (if 0 > j then 0 else j)) = jit j from rfl]
    generalize stepB b m a = d at *
    generalize jit j = y at *
    have g1 : 0 ≤ d / 2 / 1000 * y := Int.mul_nonneg (by omega) (by omega)
    have g2 : d / 2 / 1000 * y ≤ 562949953422 * 1000 := Int.mul_le_mul (by omega) (by omega) (by omega) (by omega)
    have g3 : 0 ≤ d / 2 % 1000 * y := Int.mul_nonneg (by omega) (by omega)
    have g4 : d / 2 % 1000 * y ≤ 999 * 1000 := Int.mul_le_mul (by omega) (by omega) (by omega) (by omega)
    rw [Int.tdiv_eq_ediv_of_nonneg h1.1, wrap_i64 (n := d / 2) (by omega), Int.tdiv_eq_ediv_of_nonneg (a := d / 2) (by omega), Int.tmod_eq_emod_of_nonneg (a := d / 2) (by omega), wrap_i64 (n := d / 2 / 1000) (by omega),
      wrap_i64 (n := d / 2 / 1000 * y) (by omega), wrap_i64 (n := d - d / 2 / 1000 * y) (by omega), wrap_i64 (n := d / 2 % 1000 * y) (by omega), Int.tdiv_eq_ediv_of_nonneg g3, wrap_i64 (n := d / 2 % 1000 * y / 1000) (by omega), wrap_i64 (by omega)]
    omega
theorem ref18_Step (b m a : Int) (ha : a ≤ 9223372036854775807) : Fv Tryd.prog 140 [.int .i64 b, .int .i64 m, .int .i64 a] (.int .i64 (stepB b m a)) := by
  refine Fv.of_awp Tryd.func140 rfl (by kernel_rfl) rfl (Nat.le_of_ble_eq_true rfl) ?_
  have hb := clamp_bd b
  have hm := clamp_bd m
  have hn := attI_bd a
  repeat' (conv => whnf
           first
           | (refine And.intro (by kernel_rfl) ?_)
           | (refine And.intro ⟨by kernel_rfl, by kernel_rfl⟩ ?_)
           | (refine Or.inl ⟨_, ref01_Clamp _, ?_⟩)
           | (refine ⟨_, ref01_Clamp _, ?_⟩)
           | (refine cond_f ?_ ?_)
           | (refine ⟨_, ⟨by decide, rfl⟩, ?_⟩)
           | (refine cond_i (fun h => ?_) (fun h => ?_)))
  all_goals (conv => whnf)
  refine Has.each [0, 1, 2, 7] [] (attI a).toNat (fun k (x : Int × Int) => x.1 = dbl (clamp b) k ∧ x.2 = (k : Int) + 1) (fun x i =>
    St.of 29 [(0, .int .i64 x.1), (1, .int .i64 (clamp m)), (2, .int .i64 a), (7, .int .i64 x.2)] [] []) ⟨(clamp b, 1), 0, rfl, ⟨rfl, rfl⟩, rfl⟩ (fun k x hk hI => ?_) (fun x hI => ?_)
  · obtain ⟨x, y⟩ := x
    obtain ⟨hI, hy⟩ := hI
    simp only at hI hy ⊢
    have hq : y < a ∧ y ≤ 64 := by unfold attI at hk; (repeat' split at hk) <;> omega
    have hle : decide (y < a) = true := by simpa using hq.1
    have hle2 : decide (y ≤ 64) = true := by simpa using hq.2
    refine awp_go ?_
    repeat' (conv => whnf
             first
             | (refine And.intro (by kernel_rfl) ?_)
             | (refine And.intro ⟨by kernel_rfl, by kernel_rfl⟩ ?_)
             | (refine cond_1 hle ?_)
             | (refine cond_1 hle2 ?_)
             | (refine Or.inl ⟨_, ref01_Add _ _, ?_⟩)
             | (refine ⟨_, ref01_Add _ _, ?_⟩)
             | (refine cond_f ?_ ?_)
             | (refine ⟨_, ⟨by decide, rfl⟩, ?_⟩)
             | (refine cond_i (fun h => ?_) (fun h => ?_)))
    all_goals (conv => whnf)
    subst hI
    exact ⟨(_, _), _, rfl, ⟨rfl, by show IntKind.i64.wrap (y + 1) = _; rw [wrap_i64 (by omega)]; omega⟩, rfl⟩
  · obtain ⟨x, y⟩ := x
    obtain ⟨hI, hy⟩ := hI
    simp only at hI hy ⊢
    have hq : ¬ (y < a ∧ y ≤ 64) := by unfold attI at hy; (repeat' split at hy) <;> omega
    refine awp_go ?_
    repeat' (conv => whnf
             first
             | (refine And.intro (by kernel_rfl) ?_)
             | (refine And.intro ⟨by kernel_rfl, by kernel_rfl⟩ ?_)
             | (refine cond_f ?_ ?_)
             | (refine ⟨_, ⟨by decide, rfl⟩, ?_⟩)
             | (refine cond_i (fun h => ?_) (fun h => ?_)))
    all_goals (conv => whnf)
    all_goals try exact ‹_ = false›
    all_goals
      simp only [decide_eq_true_eq, decide_eq_false_iff_not] at *
      first
      | (exfalso; omega)
      | (subst hI; refine int_eq ?_; unfold stepB; (repeat' split) <;> omega)
theorem ref18_Delay (b m a j : Int) (ha : a ≤ 9223372036854775807) : Fv Tryd.prog 135 [.int .i64 b, .int .i64 m, .int .i64 a, .int .i64 j] (.int .i64 (delay b m a j)) := by
  refine Fv.of_awp Tryd.func135 rfl (by kernel_rfl) rfl (Nat.le_of_ble_eq_true rfl) ?_
  have h1 := stepB_bd b m a
  have fin : ∀ y : Int, 0 ≤ y ∧ y ≤ 1000 → y = jit j → IntKind.i64.wrap (stepB b m a - IntKind.i64.wrap ((IntKind.i64.wrap (IntKind.i64.wrap ((stepB b m a).tdiv 2) * y)).tdiv 1000)) = delay b m a j := fun y hy e => by
    show _ = stepB b m a - stepB b m a / 2 * jit j / 1000
    rw [← e]
    generalize stepB b m a = d at *
    have g1 : 0 ≤ d / 2 * y := Int.mul_nonneg (by omega) (by omega)
    have g2 : d / 2 * y ≤ 562949953421312 * 1000 := Int.mul_le_mul (by omega) (by omega) (by omega) (by omega)
    rw [Int.tdiv_eq_ediv_of_nonneg h1.1, wrap_i64 (n := d / 2) (by omega), wrap_i64 (n := d / 2 * y) (by omega), Int.tdiv_eq_ediv_of_nonneg g1, wrap_i64 (n := d / 2 * y / 1000) (by omega), wrap_i64 (by omega)]
  repeat' (conv => whnf
           first
           | (refine And.intro (by kernel_rfl) ?_)
           | (refine And.intro ⟨by kernel_rfl, by kernel_rfl⟩ ?_)
           | (refine Or.inl ⟨_, ref18_Step _ _ _ ha, ?_⟩)
           | (refine ⟨_, ref18_Step _ _ _ ha, ?_⟩)
           | (refine cond_f ?_ ?_)
           | (refine ⟨_, ⟨by decide, rfl⟩, ?_⟩)
           | (refine cond_i (fun h => ?_) (fun h => ?_)))
  all_goals (conv => whnf)
  all_goals
    simp only [decide_eq_true_eq, decide_eq_false_iff_not] at *
    first
    | exact int_eq (fin _ (by omega) (by unfold jit; (repeat' split) <;> omega))
    | (exfalso; omega)
theorem policy_Ready (c : Config) (f : Facts) (ha : f.att ≤ 9223372036854775807) : Fv Tryd.prog 122 [.agg c.g, .agg f.g] (.int .i64 (ready c f)) := by
  refine Fv.of_awp Tryd.func122 rfl (by kernel_rfl) rfl (Nat.le_of_ble_eq_true rfl) ?_
  repeat' (conv => whnf
           first
           | (refine And.intro (by kernel_rfl) ?_)
           | (refine And.intro ⟨by kernel_rfl, by kernel_rfl⟩ ?_)
           | (refine Or.inl ⟨_, ticks_Add _ _, ?_⟩)
           | (refine ⟨_, ticks_Add _ _, ?_⟩)
           | (refine Or.inl ⟨_, backoff_Delay _ _ _ _ ha, ?_⟩)
           | (refine ⟨_, backoff_Delay _ _ _ _ ha, ?_⟩)
           | (refine cond_f ?_ ?_)
           | (refine ⟨_, ⟨by decide, rfl⟩, ?_⟩)
           | (refine cond_i (fun h => ?_) (fun h => ?_)))
  all_goals (conv => whnf)
  all_goals
    simp only [decide_eq_true_eq, decide_eq_false_iff_not] at *
    refine int_eq ?_
    unfold ready
    split <;> first | rfl | omega
theorem ref20_Ready (c : Config) (f : Facts) (ha : f.att ≤ 9223372036854775807) : Fv Tryd.prog 125 [.agg c.g, .agg f.g] (.int .i64 (ready c f)) := by
  refine Fv.of_awp Tryd.func125 rfl (by kernel_rfl) rfl (Nat.le_of_ble_eq_true rfl) ?_
  repeat' (conv => whnf
           first
           | (refine And.intro (by kernel_rfl) ?_)
           | (refine And.intro ⟨by kernel_rfl, by kernel_rfl⟩ ?_)
           | (refine Or.inl ⟨_, ref01_Add _ _, ?_⟩)
           | (refine ⟨_, ref01_Add _ _, ?_⟩)
           | (refine Or.inl ⟨_, ref18_Delay _ _ _ _ ha, ?_⟩)
           | (refine ⟨_, ref18_Delay _ _ _ _ ha, ?_⟩)
           | (refine cond_f ?_ ?_)
           | (refine ⟨_, ⟨by decide, rfl⟩, ?_⟩)
           | (refine cond_i (fun h => ?_) (fun h => ?_)))
  all_goals (conv => whnf)
  all_goals
    simp only [decide_eq_true_eq, decide_eq_false_iff_not] at *
    refine int_eq ?_
    unfold ready
    split <;> first | rfl | omega
theorem ref19_Full (t : Int) : Fv Tryd.prog 123 [.int .i64 t] (.int .i64 (tFull t)) := by
  refine Fv.of_awp Tryd.func123 rfl (by kernel_rfl) rfl (Nat.le_of_ble_eq_true rfl) ?_
  repeat' (conv => whnf
           first
           | (refine And.intro (by kernel_rfl) ?_)
           | (refine And.intro ⟨by kernel_rfl, by kernel_rfl⟩ ?_)
           | (refine cond_f ?_ ?_)
           | (refine ⟨_, ⟨by decide, rfl⟩, ?_⟩)
           | (refine cond_i (fun h => ?_) (fun h => ?_)))
  all_goals (conv => whnf)
  all_goals
    refine int_eq ?_
    simp only [decide_eq_true_eq, decide_eq_false_iff_not] at *
    unfold tFull
    first | (rw [wrap_i64 (by omega)]; (repeat' split) <;> omega) | (exfalso; omega)
theorem ref19_clean (h t : Int) : Fv Tryd.prog 86 [.int .i64 h, .int .i64 t] (.int .i64 (tClean h t)) := by
  refine Fv.of_awp Tryd.func86 rfl (by kernel_rfl) rfl (Nat.le_of_ble_eq_true rfl) ?_
  have := tFull_bd t
  repeat' (conv => whnf
           first
           | (refine And.intro (by kernel_rfl) ?_)
           | (refine And.intro ⟨by kernel_rfl, by kernel_rfl⟩ ?_)
           | (refine Or.inl ⟨_, ref19_Full _, ?_⟩)
           | (refine ⟨_, ref19_Full _, ?_⟩)
           | (refine cond_f ?_ ?_)
           | (refine ⟨_, ⟨by decide, rfl⟩, ?_⟩)
           | (refine cond_i (fun h => ?_) (fun h => ?_)))
  all_goals (conv => whnf)
  all_goals
    refine int_eq ?_
    simp only [decide_eq_true_eq, decide_eq_false_iff_not] at *
    unfold tClean
    (repeat' split) <;> omega
theorem ref19_May (h t : Int) : Fv Tryd.prog 124 [.int .i64 h, .int .i64 t] (.bool (tMay h t)) := by
  refine Fv.of_awp Tryd.func124 rfl (by kernel_rfl) rfl (Nat.le_of_ble_eq_true rfl) ?_
  repeat' (conv => whnf
           first
           | (refine And.intro (by kernel_rfl) ?_)
           | (refine And.intro ⟨by kernel_rfl, by kernel_rfl⟩ ?_)
           | (refine Or.inl ⟨_, ref19_Full _, ?_⟩)
           | (refine ⟨_, ref19_Full _, ?_⟩)
           | (refine Or.inl ⟨_, ref19_clean _ _, ?_⟩)
           | (refine ⟨_, ref19_clean _ _, ?_⟩)
           | (refine cond_f ?_ ?_)
           | (refine ⟨_, ⟨by decide, rfl⟩, ?_⟩)
           | (refine cond_i (fun h => ?_) (fun h => ?_)))
  all_goals (conv => whnf)
  all_goals
    refine bool_eq ?_
    have h1 := tClean_bd h t
    have h2 := tFull_bd t
    have h3 : tFull t % 1000 = 0 := by unfold tFull; omega
    unfold tMay
    rw [Int.tdiv_eq_ediv_of_nonneg (by omega), wrap_i64 (by omega)]
    rw [decide_eq_decide]
    omega
theorem ref14_Enough (a b c : Int) : Fv Tryd.prog 46 [.int .i64 a, .int .i64 b, .int .i64 c] (.bool (enough a b c)) := by
  refine Fv.of_awp Tryd.func46 rfl (by kernel_rfl) rfl (Nat.le_of_ble_eq_true rfl) ?_
  have h1 : 0 ≤ sub a b := by unfold sub; split <;> omega
  repeat' (conv => whnf
           first
           | (refine And.intro (by kernel_rfl) ?_)
           | (refine And.intro ⟨by kernel_rfl, by kernel_rfl⟩ ?_)
           | (refine Or.inl ⟨_, ref01_Sub _ _, ?_⟩)
           | (refine ⟨_, ref01_Sub _ _, ?_⟩)
           | (refine Or.inl ⟨_, ref01_Clamp _, ?_⟩)
           | (refine ⟨_, ref01_Clamp _, ?_⟩)
           | (refine cond_f ?_ ?_)
           | (refine ⟨_, ⟨by decide, rfl⟩, ?_⟩)
           | (refine cond_i (fun h => ?_) (fun h => ?_)))
  all_goals (conv => whnf)
  all_goals
    refine bool_eq ?_
    simp only [bne_iff_ne, bne_eq_false_iff_eq, ne_eq] at *
    unfold enough
    simp
    try omega
theorem policy_Decide (c : Config) (f : Facts) (ha : f.att ≤ 9223372036854775807) : Fv Tryd.prog 85 [.agg c.g, .agg f.g] (.tup [.int .i64 (decideP c f).1, .int .i64 (decideP c f).2]) := by
  refine Fv.of_awp Tryd.func85 rfl (by kernel_rfl) rfl (Nat.le_of_ble_eq_true rfl) ?_
  repeat' (conv => whnf
           first
           | (refine And.intro (by kernel_rfl) ?_)
           | (refine And.intro ⟨by kernel_rfl, by kernel_rfl⟩ ?_)
           | (refine Or.inl ⟨_, code_Again _, ?_⟩)
           | (refine ⟨_, code_Again _, ?_⟩)
           | (refine Or.inl ⟨_, throttle_May _ _, ?_⟩)
           | (refine ⟨_, throttle_May _ _, ?_⟩)
           | (refine Or.inl ⟨_, policy_Ready c f ha, ?_⟩)
           | (refine ⟨_, policy_Ready c f ha, ?_⟩)
           | (refine Or.inl ⟨_, budget_Enough _ _ _, ?_⟩)
           | (refine ⟨_, budget_Enough _ _ _, ?_⟩)
           | (refine cond_f ?_ ?_)
           | (refine ⟨_, ⟨by decide, rfl⟩, ?_⟩)
           | (refine cond_i (fun h => ?_) (fun h => ?_)))
  all_goals (conv => whnf)
  all_goals
    simp only [beq_iff_eq, beq_eq_false_iff_ne, bne_iff_ne, bne_eq_false_iff_eq, ne_eq, decide_eq_true_eq, decide_eq_false_iff_not, Bool.not_eq_true', Bool.not_eq_false'] at *
    unfold decideP
    simp [*]
theorem ref20_Decide (c : Config) (f : Facts) (ha : f.att ≤ 9223372036854775807) : Fv Tryd.prog 87 [.agg c.g, .agg f.g] (.tup [.int .i64 (decideP c f).1, .int .i64 (decideP c f).2]) := by
  refine Fv.of_awp Tryd.func87 rfl (by kernel_rfl) rfl (Nat.le_of_ble_eq_true rfl) ?_
  repeat' (conv => whnf
           first
           | (refine And.intro (by kernel_rfl) ?_)
           | (refine And.intro ⟨by kernel_rfl, by kernel_rfl⟩ ?_)
           | (refine Or.inl ⟨_, ref19_May _ _, ?_⟩)
           | (refine ⟨_, ref19_May _ _, ?_⟩)
           | (refine Or.inl ⟨_, ref20_Ready c f ha, ?_⟩)
           | (refine ⟨_, ref20_Ready c f ha, ?_⟩)
           | (refine Or.inl ⟨_, ref14_Enough _ _ _, ?_⟩)
           | (refine ⟨_, ref14_Enough _ _ _, ?_⟩)
           | (refine cond_f ?_ ?_)
           | (refine ⟨_, ⟨by decide, rfl⟩, ?_⟩)
           | (refine cond_i (fun h => ?_) (fun h => ?_)))
  all_goals (conv => whnf)
  all_goals
    simp only [beq_iff_eq, beq_eq_false_iff_ne, bne_iff_ne, bne_eq_false_iff_eq, ne_eq, decide_eq_true_eq, decide_eq_false_iff_not, Bool.not_eq_true', Bool.not_eq_false'] at *
    unfold decideP
    simp [*]
end Go.Proofs.YtfacmphjplablaaDoor.Cn
