/- One text out of several: Cn4, Cn5, Cn6, Cn2, Cn8, Cn10, Cn11, Sh, Av17, Cn40, Cn43, Cn44, Cn60, Cn56. No condition but theirs. -/
import Derived.Shelf.Strconv.Itoa0
import Derived.Shelf.Strconv.Itoa1
import Derived.Shelf.LaysM
import Derived.Shelf.Strconv.Itoa2
import Derived.Shelf.Strconv.Itoa3
import Derived.Test.YtfacmphjplablaaDoorProg
import Derived.Below
import Derived.Sort.Grow
import Derived.WalkSmall
import Derived.KernelRfl
import Derived.Test.YtfacmphjplablaaDoorZSenderMay3
import Derived.Test.YtfacmphjplablaaDoorZSenderMay4
namespace Go.Proofs.YtfacmphjplablaaDoor.Cn
open Go Go.Proofs Go.Proofs.YtfacmphjplablaaDoor.Av Go.Proofs.YtfacmphjplablaaDoor.Sp
set_option linter.unusedVariables false
set_option linter.unusedSimpArgs false
set_option maxRecDepth 100000

theorem ticks_Mul (a b : Int) : Fv Tryd.prog 118 [.int .i64 a, .int .i64 b] (.int .i64 (mul a b)) := by
  refine Fv.of_awp Tryd.func118 rfl (by kernel_rfl) rfl (Nat.le_of_ble_eq_true rfl) ?_
  have h1 := clamp_bd a
  have h2 := clamp_bd b
  repeat' (conv => whnf
           first
           | (refine And.intro (by kernel_rfl) ?_)
           | (refine And.intro ⟨by kernel_rfl, by kernel_rfl⟩ ?_)
           | (refine Or.inl ⟨_, ticks_Clamp _, ?_⟩)
           | (refine ⟨_, ticks_Clamp _, ?_⟩)
           | (refine cond_f ?_ ?_)
           | (refine ⟨_, ⟨by decide, rfl⟩, ?_⟩)
           | (refine cond_i (fun h => ?_) (fun h => ?_)))
  all_goals (conv => whnf)
  all_goals try unfold mul
  all_goals
    generalize clamp a = x at *
    generalize clamp b = y at *
    simp only [decide_eq_true_eq, decide_eq_false_iff_not] at *
  · simp; omega
  all_goals refine int_eq ?_
  · have hy : 0 < y := by omega
    rw [Int.tdiv_eq_ediv_of_nonneg (by omega), wrap_i64 (by have := Int.ediv_le_self (a := 1125899906842624) y (by omega); have := Int.ediv_nonneg (a := 1125899906842624) (b := y) (by omega) (by omega); omega)] at h
    rw [if_pos ((Int.ediv_lt_iff_lt_mul hy).1 h)]
  · have hy : 0 < y := by omega
    rw [Int.tdiv_eq_ediv_of_nonneg (by omega), wrap_i64 (by have := Int.ediv_le_self (a := 1125899906842624) y (by omega); have := Int.ediv_nonneg (a := 1125899906842624) (b := y) (by omega) (by omega); omega)] at h
    have h3 : x * y ≤ 1125899906842624 := Int.mul_le_of_le_ediv hy (by omega)
    have h4 : 0 ≤ x * y := Int.mul_nonneg (by omega) (by omega)
    rw [if_neg (by omega), wrap_i64 (by omega)]
  · obtain rfl : y = 0 := by omega
    simp
    rfl
theorem code_Again (a : Int) : Fv Tryd.prog 120 [.int .i64 a] (.bool (decide (a = 14 ∨ a = 8))) := by
  refine Fv.of_awp Tryd.func120 rfl (by kernel_rfl) rfl (Nat.le_of_ble_eq_true rfl) ?_
  repeat' (conv => whnf
           first
           | (refine And.intro (by kernel_rfl) ?_)
           | (refine And.intro ⟨by kernel_rfl, by kernel_rfl⟩ ?_)
           | (refine cond_f ?_ ?_)
           | (refine ⟨_, ⟨by decide, rfl⟩, ?_⟩)
           | (refine cond_i (fun h => ?_) (fun h => ?_)))
  all_goals (conv => whnf)
  all_goals
    refine bool_eq ?_
    simp only [beq_iff_eq, beq_eq_false_iff_ne, ne_eq] at *
    simp [*]
    try rfl
theorem throttle_Full (t : Int) : Fv Tryd.prog 119 [.int .i64 t] (.int .i64 (tFull t)) := by
  refine Fv.of_awp Tryd.func119 rfl (by kernel_rfl) rfl (Nat.le_of_ble_eq_true rfl) ?_
  repeat' (conv => whnf
           first
           | (refine And.intro (by kernel_rfl) ?_)
           | (refine And.intro ⟨by kernel_rfl, by kernel_rfl⟩ ?_)
           | (refine cond_f ?_ ?_)
           | (refine ⟨_, ⟨by decide, rfl⟩, ?_⟩)
           | (refine cond_i (fun h => ?_) (fun h => ?_)))
  all_goals (conv => whnf)
  all_goals
    refine int_eq ?_
    unfold tFull
    exact wrap_i64 (by (repeat' split) <;> omega)
theorem throttle_clean (h t : Int) : Fv Tryd.prog 84 [.int .i64 h, .int .i64 t] (.int .i64 (tClean h t)) := by
  refine Fv.of_awp Tryd.func84 rfl (by kernel_rfl) rfl (Nat.le_of_ble_eq_true rfl) ?_
  repeat' (conv => whnf
           first
           | (refine And.intro (by kernel_rfl) ?_)
           | (refine And.intro ⟨by kernel_rfl, by kernel_rfl⟩ ?_)
           | (refine Or.inl ⟨_, throttle_Full _, ?_⟩)
           | (refine ⟨_, throttle_Full _, ?_⟩)
           | (refine cond_f ?_ ?_)
           | (refine ⟨_, ⟨by decide, rfl⟩, ?_⟩)
           | (refine cond_i (fun h => ?_) (fun h => ?_)))
  all_goals (conv => whnf)
  all_goals rfl
theorem throttle_May (h t : Int) : Fv Tryd.prog 121 [.int .i64 h, .int .i64 t] (.bool (tMay h t)) := by
  refine Fv.of_awp Tryd.func121 rfl (by kernel_rfl) rfl (Nat.le_of_ble_eq_true rfl) ?_
  repeat' (conv => whnf
           first
           | (refine And.intro (by kernel_rfl) ?_)
           | (refine And.intro ⟨by kernel_rfl, by kernel_rfl⟩ ?_)
           | (refine Or.inl ⟨_, throttle_Full _, ?_⟩)
           | (refine ⟨_, throttle_Full _, ?_⟩)
           | (refine Or.inl ⟨_, throttle_clean _ _, ?_⟩)
           | (refine ⟨_, throttle_clean _ _, ?_⟩)
           | (refine cond_f ?_ ?_)
           | (refine ⟨_, ⟨by decide, rfl⟩, ?_⟩)
           | (refine cond_i (fun h => ?_) (fun h => ?_)))
  all_goals (conv => whnf)
  all_goals
    refine bool_eq ?_
    have := tClean_bd h t
    unfold tMay
    rw [wrap_i64 (by omega)]
theorem budget_Left (a b : Int) : Fv Tryd.prog 74 [.int .i64 a, .int .i64 b] (.int .i64 (sub a b)) := by
  refine Fv.of_awp Tryd.func74 rfl (by kernel_rfl) rfl (Nat.le_of_ble_eq_true rfl) ?_
  repeat' (conv => whnf
           first
           | (refine And.intro (by kernel_rfl) ?_)
           | (refine And.intro ⟨by kernel_rfl, by kernel_rfl⟩ ?_)
           | (refine Or.inl ⟨_, ticks_Sub _ _, ?_⟩)
           | (refine ⟨_, ticks_Sub _ _, ?_⟩)
           | (refine cond_f ?_ ?_)
           | (refine ⟨_, ⟨by decide, rfl⟩, ?_⟩)
           | (refine cond_i (fun h => ?_) (fun h => ?_)))
  all_goals (conv => whnf)
  all_goals rfl
theorem budget_Enough (a b c : Int) : Fv Tryd.prog 40 [.int .i64 a, .int .i64 b, .int .i64 c] (.bool (enough a b c)) := by
  refine Fv.of_awp Tryd.func40 rfl (by kernel_rfl) rfl (Nat.le_of_ble_eq_true rfl) ?_
  repeat' (conv => whnf
           first
           | (refine And.intro (by kernel_rfl) ?_)
           | (refine And.intro ⟨by kernel_rfl, by kernel_rfl⟩ ?_)
           | (refine Or.inl ⟨_, budget_Left _ _, ?_⟩)
           | (refine ⟨_, budget_Left _ _, ?_⟩)
           | (refine Or.inl ⟨_, ticks_Clamp _, ?_⟩)
           | (refine ⟨_, ticks_Clamp _, ?_⟩)
           | (refine cond_f ?_ ?_)
           | (refine ⟨_, ⟨by decide, rfl⟩, ?_⟩)
           | (refine cond_i (fun h => ?_) (fun h => ?_)))
  all_goals (conv => whnf)
  all_goals
    refine bool_eq ?_
    unfold enough
    simp [*]
def cA : Config := ⟨0, 0, 0, 0, 0, 0, 0, 0, 3, 1, 1, 0, 10, []⟩
def fA1 : Facts := ⟨14, 1, false, 5, 10000, 10, 100, 0⟩
def fA2 : Facts := ⟨14, 1, true, 5, 10000, 10, 100, 0⟩
end Go.Proofs.YtfacmphjplablaaDoor.Cn
namespace Go.Proofs.YtfacmphjplablaaDoor.Cn
open Go Go.Proofs Go.Proofs.YtfacmphjplablaaDoor.Av Go.Proofs.YtfacmphjplablaaDoor.Sp
set_option linter.unusedVariables false
set_option linter.unusedSimpArgs false
set_option maxRecDepth 100000

theorem backoff_Step (b m a : Int) (ha : a ≤ 9223372036854775807) : Fv Tryd.prog 139 [.int .i64 b, .int .i64 m, .int .i64 a] (.int .i64 (stepB b m a)) := by
  refine Fv.of_awp Tryd.func139 rfl (by kernel_rfl) rfl (Nat.le_of_ble_eq_true rfl) ?_
  have hb := clamp_bd b
  have hm := clamp_bd m
  have hn := attI_bd a
  repeat' (conv => whnf
           first
           | (refine And.intro (by kernel_rfl) ?_)
           | (refine And.intro ⟨by kernel_rfl, by kernel_rfl⟩ ?_)
           | (refine Or.inl ⟨_, ticks_Clamp _, ?_⟩)
           | (refine ⟨_, ticks_Clamp _, ?_⟩)
           | (refine cond_f ?_ ?_)
           | (refine ⟨_, ⟨by decide, rfl⟩, ?_⟩)
           | (refine cond_i (fun h => ?_) (fun h => ?_)))
  all_goals (conv => whnf)
  have e0 : IntKind.i64.wrap ((if 1 > a then 1 else a) - 1) = (if 1 > a then 1 else a) - 1 := wrap_i64 (by split <;> omega)
  rw [e0]
  refine Has.each [0, 1, 14, 15] [] (attI a).toNat (fun k x => x = dbl (clamp b) k) (fun x i =>
    St.of 27 [(0, .int .i64 x), (1, .int .i64 (clamp m)), (14, .int .i64 (attI a)), (15, .int .i64 i)] [] []) ⟨clamp b, _, rfl, rfl, rfl⟩ (fun k x hk hI => ?_) (fun x hI => ?_)
  · have hle : decide ((k : Int) < attI a) = true := by simp; omega
    refine awp_go ?_
    repeat' (conv => whnf
             first
             | (refine And.intro (by kernel_rfl) ?_)
             | (refine And.intro ⟨by kernel_rfl, by kernel_rfl⟩ ?_)
             | (refine cond_1 hle ?_)
             | (refine Or.inl ⟨_, ticks_Add _ _, ?_⟩)
             | (refine ⟨_, ticks_Add _ _, ?_⟩)
             | (refine cond_f ?_ ?_)
             | (refine ⟨_, ⟨by decide, rfl⟩, ?_⟩)
             | (refine cond_i (fun h => ?_) (fun h => ?_)))
    all_goals (conv => whnf)
    · refine int_eq ?_
      subst hI
      simp only [decide_eq_true_eq] at h
      have h1 := dbl_le hb k ((attI a).toNat - k)
      rw [show k + ((attI a).toNat - k) = (attI a).toNat by omega] at h1
      unfold stepB
      (repeat' split) <;> omega
    · subst hI
      exact ⟨_, _, rfl, rfl, wrap_i64 (by omega)⟩
  · have hle : decide (((attI a).toNat : Int) < attI a) = false := by simp; omega
    refine awp_go ?_
    repeat' (conv => whnf
             first
             | (refine And.intro (by kernel_rfl) ?_)
             | (refine And.intro ⟨by kernel_rfl, by kernel_rfl⟩ ?_)
             | (refine cond_0 hle ?_)
             | (refine cond_f ?_ ?_)
             | (refine ⟨_, ⟨by decide, rfl⟩, ?_⟩)
             | (refine cond_i (fun h => ?_) (fun h => ?_)))
    all_goals (conv => whnf)
    subst hI
    refine int_eq ?_
    unfold stepB
    (repeat' split) <;> omega
theorem backoff_Delay (b m a j : Int) (ha : a ≤ 9223372036854775807) : Fv Tryd.prog 134 [.int .i64 b, .int .i64 m, .int .i64 a, .int .i64 j] (.int .i64 (delay b m a j)) := by
  refine Fv.of_awp Tryd.func134 rfl (by kernel_rfl) rfl (Nat.le_of_ble_eq_true rfl) ?_
  repeat' (conv => whnf
           first
           | (refine And.intro (by kernel_rfl) ?_)
           | (refine And.intro ⟨by kernel_rfl, by kernel_rfl⟩ ?_)
           | (refine Or.inl ⟨_, backoff_Step _ _ _ ha, ?_⟩)
           | (refine ⟨_, backoff_Step _ _ _ ha, ?_⟩)
           | (refine cond_f ?_ ?_)
           | (refine ⟨_, ⟨by decide, rfl⟩, ?_⟩)
           | (refine cond_i (fun h => ?_) (fun h => ?_)))
  all_goals (conv => whnf)
  all_goals
    refine int_eq ?_
    show _ = stepB b m a - stepB b m a / 2 * jit j / 1000
    have h1 := stepB_bd b m a
    have h2 := jit_bd j
    have h3 := delay_parts (stepB b m a / 2) (jit j) (by omega) h2.1
    rw [show (if 1000 < (if 0 > j then 0 else j) then 1000 else (if 0 > j then 0 else j)) = jit j from rfl]
    generalize stepB b m a = d at *
    generalize jit j = y at *
    have g1 : 0 ≤ d / 2 / 1000 * y := Int.mul_nonneg (by omega) (by omega)
    have g2 : d / 2 / 1000 * y ≤ 562949953422 * 1000 := Int.mul_le_mul (by omega) (by omega) (by omega) (by omega)
    have g3 : 0 ≤ d / 2 % 1000 * y := Int.mul_nonneg (by omega) (by omega)
    have g4 : d / 2 % 1000 * y ≤ 999 * 1000 := Int.mul_le_mul (by omega) (by omega) (by omega) (by omega)
    rw [Int.tdiv_eq_ediv_of_nonneg h1.1, wrap_i64 (n := d / 2) (by omega), Int.tdiv_eq_ediv_of_nonneg (a := d / 2) (by omega), Int.tmod_eq_emod_of_nonneg (a := d / 2) (by omega), wrap_i64 (n := d / 2 / 1000) (by omega),
      wrap_i64 (n := d / 2 / 1000 * y) (by omega), wrap_i64 (n := d - d / 2 / 1000 * y) (by omega), wrap_i64 (n := d / 2 % 1000 * y) (by omega), Int.tdiv_eq_ediv_of_nonneg g3, wrap_i64 (n := d / 2 % 1000 * y / 1000) (by omega), wrap_i64 (by omega)]
    omega
theorem ref18_Step (b m a : Int) (ha : a ≤ 9223372036854775807) : Fv Tryd.prog 140 [.int .i64 b, .int .i64 m, .int .i64 a] (.int .i64 (stepB b m a)) := by
  refine Fv.of_awp Tryd.func140 rfl (by kernel_rfl) rfl (Nat.le_of_ble_eq_true rfl) ?_
  have hb := clamp_bd b
  have hm := clamp_bd m
  have hn := attI_bd a
  repeat' (conv => whnf
           first
           | (refine And.intro (by kernel_rfl) ?_)
           | (refine And.intro ⟨by kernel_rfl, by kernel_rfl⟩ ?_)
           | (refine Or.inl ⟨_, ref01_Clamp _, ?_⟩)
           | (refine ⟨_, ref01_Clamp _, ?_⟩)
           | (refine cond_f ?_ ?_)
           | (refine ⟨_, ⟨by decide, rfl⟩, ?_⟩)
           | (refine cond_i (fun h => ?_) (fun h => ?_)))
  all_goals (conv => whnf)
  refine Has.each [0, 1, 2, 7] [] (attI a).toNat (fun k (x : Int × Int) => x.1 = dbl (clamp b) k ∧ x.2 = (k : Int) + 1) (fun x i =>
    St.of 29 [(0, .int .i64 x.1), (1, .int .i64 (clamp m)), (2, .int .i64 a), (7, .int .i64 x.2)] [] []) ⟨(clamp b, 1), 0, rfl, ⟨rfl, rfl⟩, rfl⟩ (fun k x hk hI => ?_) (fun x hI => ?_)
  · obtain ⟨x, y⟩ := x
    obtain ⟨hI, hy⟩ := hI
    simp only at hI hy ⊢
    have hq : y < a ∧ y ≤ 64 := by unfold attI at hk; (repeat' split at hk) <;> omega
    have hle : decide (y < a) = true := by simpa using hq.1
    have hle2 : decide (y ≤ 64) = true := by simpa using hq.2
    refine awp_go ?_
    repeat' (conv => whnf
             first
             | (refine And.intro (by kernel_rfl) ?_)
             | (refine And.intro ⟨by kernel_rfl, by kernel_rfl⟩ ?_)
             | (refine cond_1 hle ?_)
             | (refine cond_1 hle2 ?_)
             | (refine Or.inl ⟨_, ref01_Add _ _, ?_⟩)
             | (refine ⟨_, ref01_Add _ _, ?_⟩)
             | (refine cond_f ?_ ?_)
             | (refine ⟨_, ⟨by decide, rfl⟩, ?_⟩)
             | (refine cond_i (fun h => ?_) (fun h => ?_)))
    all_goals (conv => whnf)
    subst hI
    exact ⟨(_, _), _, rfl, ⟨rfl, by show IntKind.i64.wrap (y + 1) = _; rw [wrap_i64 (by omega)]; omega⟩, rfl⟩
  · obtain ⟨x, y⟩ := x
    obtain ⟨hI, hy⟩ := hI
    simp only at hI hy ⊢
    have hq : ¬ (y < a ∧ y ≤ 64) := by unfold attI at hy; (repeat' split at hy) <;> omega
    refine awp_go ?_
    repeat' (conv => whnf
             first
             | (refine And.intro (by kernel_rfl) ?_)
             | (refine And.intro ⟨by kernel_rfl, by kernel_rfl⟩ ?_)
             | (refine cond_f ?_ ?_)
             | (refine ⟨_, ⟨by decide, rfl⟩, ?_⟩)
             | (refine cond_i (fun h => ?_) (fun h => ?_)))
    all_goals (conv => whnf)
    all_goals try exact ‹_ = false›
    all_goals
      simp only [decide_eq_true_eq, decide_eq_false_iff_not] at *
      first
      | (exfalso; omega)
      | (subst hI; refine int_eq ?_; unfold stepB; (repeat' split) <;> omega)
theorem ref18_Delay (b m a j : Int) (ha : a ≤ 9223372036854775807) : Fv Tryd.prog 135 [.int .i64 b, .int .i64 m, .int .i64 a, .int .i64 j] (.int .i64 (delay b m a j)) := by
  refine Fv.of_awp Tryd.func135 rfl (by kernel_rfl) rfl (Nat.le_of_ble_eq_true rfl) ?_
  have h1 := stepB_bd b m a
  have fin : ∀ y : Int, 0 ≤ y ∧ y ≤ 1000 → y = jit j → IntKind.i64.wrap (stepB b m a - IntKind.i64.wrap ((IntKind.i64.wrap (IntKind.i64.wrap ((stepB b m a).tdiv 2) * y)).tdiv 1000)) = delay b m a j := fun y hy e => by
    show _ = stepB b m a - stepB b m a / 2 * jit j / 1000
    rw [← e]
    generalize stepB b m a = d at *
    have g1 : 0 ≤ d / 2 * y := Int.mul_nonneg (by omega) (by omega)
    have g2 : d / 2 * y ≤ 562949953421312 * 1000 := Int.mul_le_mul (by omega) (by omega) (by omega) (by omega)
    rw [Int.tdiv_eq_ediv_of_nonneg h1.1, wrap_i64 (n := d / 2) (by omega), wrap_i64 (n := d / 2 * y) (by omega), Int.tdiv_eq_ediv_of_nonneg g1, wrap_i64 (n := d / 2 * y / 1000) (by omega), wrap_i64 (by omega)]
  repeat' (conv => whnf
           first
           | (refine And.intro (by kernel_rfl) ?_)
           | (refine And.intro ⟨by kernel_rfl, by kernel_rfl⟩ ?_)
           | (refine Or.inl ⟨_, ref18_Step _ _ _ ha, ?_⟩)
           | (refine ⟨_, ref18_Step _ _ _ ha, ?_⟩)
           | (refine cond_f ?_ ?_)
           | (refine ⟨_, ⟨by decide, rfl⟩, ?_⟩)
           | (refine cond_i (fun h => ?_) (fun h => ?_)))
  all_goals (conv => whnf)
  all_goals
    simp only [decide_eq_true_eq, decide_eq_false_iff_not] at *
    first
    | exact int_eq (fin _ (by omega) (by unfold jit; (repeat' split) <;> omega))
    | (exfalso; omega)
theorem policy_Ready (c : Config) (f : Facts) (ha : f.att ≤ 9223372036854775807) : Fv Tryd.prog 122 [.agg c.g, .agg f.g] (.int .i64 (ready c f)) := by
  refine Fv.of_awp Tryd.func122 rfl (by kernel_rfl) rfl (Nat.le_of_ble_eq_true rfl) ?_
  repeat' (conv => whnf
           first
           | (refine And.intro (by kernel_rfl) ?_)
           | (refine And.intro ⟨by kernel_rfl, by kernel_rfl⟩ ?_)
           | (refine Or.inl ⟨_, ticks_Add _ _, ?_⟩)
           | (refine ⟨_, ticks_Add _ _, ?_⟩)
           | (refine Or.inl ⟨_, backoff_Delay _ _ _ _ ha, ?_⟩)
           | (refine ⟨_, backoff_Delay _ _ _ _ ha, ?_⟩)
           | (refine cond_f ?_ ?_)
           | (refine ⟨_, ⟨by decide, rfl⟩, ?_⟩)
           | (refine cond_i (fun h => ?_) (fun h => ?_)))
  all_goals (conv => whnf)
  all_goals
    simp only [decide_eq_true_eq, decide_eq_false_iff_not] at *
    refine int_eq ?_
    unfold ready
    split <;> first | rfl | omega
theorem ref20_Ready (c : Config) (f : Facts) (ha : f.att ≤ 9223372036854775807) : Fv Tryd.prog 125 [.agg c.g, .agg f.g] (.int .i64 (ready c f)) := by
  refine Fv.of_awp Tryd.func125 rfl (by kernel_rfl) rfl (Nat.le_of_ble_eq_true rfl) ?_
  repeat' (conv => whnf
           first
           | (refine And.intro (by kernel_rfl) ?_)
           | (refine And.intro ⟨by kernel_rfl, by kernel_rfl⟩ ?_)
           | (refine Or.inl ⟨_, ref01_Add _ _, ?_⟩)
           | (refine ⟨_, ref01_Add _ _, ?_⟩)
           | (refine Or.inl ⟨_, ref18_Delay _ _ _ _ ha, ?_⟩)
           | (refine ⟨_, ref18_Delay _ _ _ _ ha, ?_⟩)
           | (refine cond_f ?_ ?_)
           | (refine ⟨_, ⟨by decide, rfl⟩, ?_⟩)
           | (refine cond_i (fun h => ?_) (fun h => ?_)))
  all_goals (conv => whnf)
  all_goals
    simp only [decide_eq_true_eq, decide_eq_false_iff_not] at *
    refine int_eq ?_
    unfold ready
    split <;> first | rfl | omega
theorem ref19_Full (t : Int) : Fv Tryd.prog 123 [.int .i64 t] (.int .i64 (tFull t)) := by
  refine Fv.of_awp Tryd.func123 rfl (by kernel_rfl) rfl (Nat.le_of_ble_eq_true rfl) ?_
  repeat' (conv => whnf
           first
           | (refine And.intro (by kernel_rfl) ?_)
           | (refine And.intro ⟨by kernel_rfl, by kernel_rfl⟩ ?_)
           | (refine cond_f ?_ ?_)
           | (refine ⟨_, ⟨by decide, rfl⟩, ?_⟩)
           | (refine cond_i (fun h => ?_) (fun h => ?_)))
  all_goals (conv => whnf)
  all_goals
    refine int_eq ?_
    simp only [decide_eq_true_eq, decide_eq_false_iff_not] at *
    unfold tFull
    first | (rw [wrap_i64 (by omega)]; (repeat' split) <;> omega) | (exfalso; omega)
theorem ref19_clean (h t : Int) : Fv Tryd.prog 86 [.int .i64 h, .int .i64 t] (.int .i64 (tClean h t)) := by
  refine Fv.of_awp Tryd.func86 rfl (by kernel_rfl) rfl (Nat.le_of_ble_eq_true rfl) ?_
  have := tFull_bd t
  repeat' (conv => whnf
           first
           | (refine And.intro (by kernel_rfl) ?_)
           | (refine And.intro ⟨by kernel_rfl, by kernel_rfl⟩ ?_)
           | (refine Or.inl ⟨_, ref19_Full _, ?_⟩)
           | (refine ⟨_, ref19_Full _, ?_⟩)
           | (refine cond_f ?_ ?_)
           | (refine ⟨_, ⟨by decide, rfl⟩, ?_⟩)
           | (refine cond_i (fun h => ?_) (fun h => ?_)))
  all_goals (conv => whnf)
  all_goals
    refine int_eq ?_
    simp only [decide_eq_true_eq, decide_eq_false_iff_not] at *
    unfold tClean
    (repeat' split) <;> omega
theorem ref19_May (h t : Int) : Fv Tryd.prog 124 [.int .i64 h, .int .i64 t] (.bool (tMay h t)) := by
  refine Fv.of_awp Tryd.func124 rfl (by kernel_rfl) rfl (Nat.le_of_ble_eq_true rfl) ?_
  repeat' (conv => whnf
           first
           | (refine And.intro (by kernel_rfl) ?_)
           | (refine And.intro ⟨by kernel_rfl, by kernel_rfl⟩ ?_)
           | (refine Or.inl ⟨_, ref19_Full _, ?_⟩)
           | (refine ⟨_, ref19_Full _, ?_⟩)
           | (refine Or.inl ⟨_, ref19_clean _ _, ?_⟩)
           | (refine ⟨_, ref19_clean _ _, ?_⟩)
           | (refine cond_f ?_ ?_)
           | (refine ⟨_, ⟨by decide, rfl⟩, ?_⟩)
           | (refine cond_i (fun h => ?_) (fun h => ?_)))
  all_goals (conv => whnf)
  all_goals
    refine bool_eq ?_
    have h1 := tClean_bd h t
    have h2 := tFull_bd t
    have h3 : tFull t % 1000 = 0 := by unfold tFull; omega
    unfold tMay
    rw [Int.tdiv_eq_ediv_of_nonneg (by omega), wrap_i64 (by omega)]
    rw [decide_eq_decide]
    omega
theorem ref14_Enough (a b c : Int) : Fv Tryd.prog 46 [.int .i64 a, .int .i64 b, .int .i64 c] (.bool (enough a b c)) := by
  refine Fv.of_awp Tryd.func46 rfl (by kernel_rfl) rfl (Nat.le_of_ble_eq_true rfl) ?_
  have h1 : 0 ≤ sub a b := by unfold sub; split <;> omega
  repeat' (conv => whnf
           first
           | (refine And.intro (by kernel_rfl) ?_)
           | (refine And.intro ⟨by kernel_rfl, by kernel_rfl⟩ ?_)
           | (refine Or.inl ⟨_, ref01_Sub _ _, ?_⟩)
           | (refine ⟨_, ref01_Sub _ _, ?_⟩)
           | (refine Or.inl ⟨_, ref01_Clamp _, ?_⟩)
           | (refine ⟨_, ref01_Clamp _, ?_⟩)
           | (refine cond_f ?_ ?_)
           | (refine ⟨_, ⟨by decide, rfl⟩, ?_⟩)
           | (refine cond_i (fun h => ?_) (fun h => ?_)))
  all_goals (conv => whnf)
  all_goals
    refine bool_eq ?_
    simp only [bne_iff_ne, bne_eq_false_iff_eq, ne_eq] at *
    unfold enough
    simp
    try omega
theorem policy_Decide (c : Config) (f : Facts) (ha : f.att ≤ 9223372036854775807) : Fv Tryd.prog 85 [.agg c.g, .agg f.g] (.tup [.int .i64 (decideP c f).1, .int .i64 (decideP c f).2]) := by
  refine Fv.of_awp Tryd.func85 rfl (by kernel_rfl) rfl (Nat.le_of_ble_eq_true rfl) ?_
  repeat' (conv => whnf
           first
           | (refine And.intro (by kernel_rfl) ?_)
           | (refine And.intro ⟨by kernel_rfl, by kernel_rfl⟩ ?_)
           | (refine Or.inl ⟨_, code_Again _, ?_⟩)
           | (refine ⟨_, code_Again _, ?_⟩)
           | (refine Or.inl ⟨_, throttle_May _ _, ?_⟩)
           | (refine ⟨_, throttle_May _ _, ?_⟩)
           | (refine Or.inl ⟨_, policy_Ready c f ha, ?_⟩)
           | (refine ⟨_, policy_Ready c f ha, ?_⟩)
           | (refine Or.inl ⟨_, budget_Enough _ _ _, ?_⟩)
           | (refine ⟨_, budget_Enough _ _ _, ?_⟩)
           | (refine cond_f ?_ ?_)
           | (refine ⟨_, ⟨by decide, rfl⟩, ?_⟩)
           | (refine cond_i (fun h => ?_) (fun h => ?_)))
  all_goals (conv => whnf)
  all_goals
    simp only [beq_iff_eq, beq_eq_false_iff_ne, bne_iff_ne, bne_eq_false_iff_eq, ne_eq, decide_eq_true_eq, decide_eq_false_iff_not, Bool.not_eq_true', Bool.not_eq_false'] at *
    unfold decideP
    simp [*]
theorem ref20_Decide (c : Config) (f : Facts) (ha : f.att ≤ 9223372036854775807) : Fv Tryd.prog 87 [.agg c.g, .agg f.g] (.tup [.int .i64 (decideP c f).1, .int .i64 (decideP c f).2]) := by
  refine Fv.of_awp Tryd.func87 rfl (by kernel_rfl) rfl (Nat.le_of_ble_eq_true rfl) ?_
  repeat' (conv => whnf
           first
           | (refine And.intro (by kernel_rfl) ?_)
           | (refine And.intro ⟨by kernel_rfl, by kernel_rfl⟩ ?_)
           | (refine Or.inl ⟨_, ref19_May _ _, ?_⟩)
           | (refine ⟨_, ref19_May _ _, ?_⟩)
           | (refine Or.inl ⟨_, ref20_Ready c f ha, ?_⟩)
           | (refine ⟨_, ref20_Ready c f ha, ?_⟩)
           | (refine Or.inl ⟨_, ref14_Enough _ _ _, ?_⟩)
           | (refine ⟨_, ref14_Enough _ _ _, ?_⟩)
           | (refine cond_f ?_ ?_)
           | (refine ⟨_, ⟨by decide, rfl⟩, ?_⟩)
           | (refine cond_i (fun h => ?_) (fun h => ?_)))
  all_goals (conv => whnf)
  all_goals
    simp only [beq_iff_eq, beq_eq_false_iff_ne, bne_iff_ne, bne_eq_false_iff_eq, ne_eq, decide_eq_true_eq, decide_eq_false_iff_not, Bool.not_eq_true', Bool.not_eq_false'] at *
    unfold decideP
    simp [*]
end Go.Proofs.YtfacmphjplablaaDoor.Cn
namespace Go.Proofs.YtfacmphjplablaaDoor.Cn
open Go Go.Proofs Go.Proofs.YtfacmphjplablaaDoor.Av Go.Proofs.YtfacmphjplablaaDoor.Sp
set_option linter.unusedVariables false
set_option linter.unusedSimpArgs false
set_option maxRecDepth 100000

theorem call_Begin (c : Sp.Call) (n : Int) : Fv Tryd.prog 38 [.agg c.g, .int .i64 n] (.agg (cBegin c n).g) := by
  refine Fv.of_awp Tryd.func38 rfl (by kernel_rfl) rfl (Nat.le_of_ble_eq_true rfl) ?_
  repeat' (conv => whnf
           first
           | (refine And.intro (by kernel_rfl) ?_)
           | (refine And.intro ⟨by kernel_rfl, by kernel_rfl⟩ ?_)
           | (refine Or.inl ⟨_, ticks_Clamp _, ?_⟩)
           | (refine ⟨_, ticks_Clamp _, ?_⟩)
           | (refine cond_f ?_ ?_)
           | (refine ⟨_, ⟨by decide, rfl⟩, ?_⟩)
           | (refine cond_i (fun h => ?_) (fun h => ?_)))
  all_goals (conv => whnf)
  all_goals
    simp only [beq_iff_eq, beq_eq_false_iff_ne, bne_iff_ne, bne_eq_false_iff_eq, ne_eq, decide_eq_true_eq, decide_eq_false_iff_not] at *
    unfold cBegin
    split <;> first | rfl | (exfalso; omega)
theorem ref21_Begin (c : Sp.Call) (n : Int) : Fv Tryd.prog 44 [.agg c.g, .int .i64 n] (.agg (cBegin c n).g) := by
  refine Fv.of_awp Tryd.func44 rfl (by kernel_rfl) rfl (Nat.le_of_ble_eq_true rfl) ?_
  repeat' (conv => whnf
           first
           | (refine And.intro (by kernel_rfl) ?_)
           | (refine And.intro ⟨by kernel_rfl, by kernel_rfl⟩ ?_)
           | (refine Or.inl ⟨_, ref01_Clamp _, ?_⟩)
           | (refine ⟨_, ref01_Clamp _, ?_⟩)
           | (refine cond_f ?_ ?_)
           | (refine ⟨_, ⟨by decide, rfl⟩, ?_⟩)
           | (refine cond_i (fun h => ?_) (fun h => ?_)))
  all_goals (conv => whnf)
  all_goals
    simp only [beq_iff_eq, beq_eq_false_iff_ne, bne_iff_ne, bne_eq_false_iff_eq, ne_eq, decide_eq_true_eq, decide_eq_false_iff_not] at *
    unfold cBegin
    split <;> first | rfl | (exfalso; omega)
theorem call_Ends (c : Sp.Call) (n : Int) : Fv Tryd.prog 39 [.agg c.g, .int .i64 n] (.agg (cEnds c n).g) := by
  refine Fv.of_awp Tryd.func39 rfl (by kernel_rfl) rfl (Nat.le_of_ble_eq_true rfl) ?_
  repeat' (conv => whnf
           first
           | (refine And.intro (by kernel_rfl) ?_)
           | (refine And.intro ⟨by kernel_rfl, by kernel_rfl⟩ ?_)
           | (refine Or.inl ⟨_, code_Clean _, ?_⟩)
           | (refine ⟨_, code_Clean _, ?_⟩)
           | (refine cond_f ?_ ?_)
           | (refine ⟨_, ⟨by decide, rfl⟩, ?_⟩)
           | (refine cond_i (fun h => ?_) (fun h => ?_)))
  all_goals (conv => whnf)
  all_goals
    simp only [beq_iff_eq, beq_eq_false_iff_ne, bne_iff_ne, bne_eq_false_iff_eq, ne_eq, decide_eq_true_eq, decide_eq_false_iff_not] at *
    unfold cEnds
    split <;> first | rfl | (exfalso; omega)
theorem ref21_Ends (c : Sp.Call) (n : Int) : Fv Tryd.prog 45 [.agg c.g, .int .i64 n] (.agg (cEnds c n).g) := by
  refine Fv.of_awp Tryd.func45 rfl (by kernel_rfl) rfl (Nat.le_of_ble_eq_true rfl) ?_
  repeat' (conv => whnf
           first
           | (refine And.intro (by kernel_rfl) ?_)
           | (refine And.intro ⟨by kernel_rfl, by kernel_rfl⟩ ?_)
           | (refine Or.inl ⟨_, ref05_Clean _, ?_⟩)
           | (refine ⟨_, ref05_Clean _, ?_⟩)
           | (refine cond_f ?_ ?_)
           | (refine ⟨_, ⟨by decide, rfl⟩, ?_⟩)
           | (refine cond_i (fun h => ?_) (fun h => ?_)))
  all_goals (conv => whnf)
  all_goals
    simp only [beq_iff_eq, beq_eq_false_iff_ne, bne_iff_ne, bne_eq_false_iff_eq, ne_eq, decide_eq_true_eq, decide_eq_false_iff_not] at *
    unfold cEnds
    split <;> first | rfl | (exfalso; omega)
theorem cEnds_on {c : Sp.Call} {k : Int} (h : c.state = k) (hk : k ≠ 3) (n : Int) : cEnds c n = { c with state := 3, code := clean n, value := 0, ready := 0 } := by
  unfold cEnds; rw [if_neg (by omega)]
theorem call_Good (c : Sp.Call) (n : Int) : Fv Tryd.prog 37 [.agg c.g, .int .i64 n] (.agg (cGood c n).g) := by
  refine Fv.of_awp Tryd.func37 rfl (by kernel_rfl) rfl (Nat.le_of_ble_eq_true rfl) ?_
  by_cases hs : c.state = 1
  · have he := call_Ends c 0
    rw [cEnds_on hs (by decide)] at he
    have hg : cGood c n = { c with state := 3, code := clean 0, value := value n, ready := 0 } := by unfold cGood; rw [if_pos hs]
    have hn : (c.state != 1) = false := by simpa using hs
    have ev : ∀ v : Int, (if 2147483647 < (if 0 > v then 0 else v) then 2147483647 else (if 0 > v then 0 else v)) = value v := by intro v; unfold value; (repeat' split) <;> omega
    rw [hg, ← ev]
    repeat' (conv => whnf
             first
             | (refine And.intro (by kernel_rfl) ?_)
             | (refine And.intro ⟨by kernel_rfl, by kernel_rfl⟩ ?_)
             | (refine cond_0 hn ?_)
             | (refine Or.inl ⟨_, he, ?_⟩)
             | (refine ⟨_, he, ?_⟩)
             | (refine cond_f ?_ ?_)
             | (refine ⟨_, ⟨by decide, rfl⟩, ?_⟩)
             | (refine cond_i (fun h => ?_) (fun h => ?_)))
    all_goals (conv => whnf)
    all_goals rfl
  · have hg : cGood c n = c := by unfold cGood; rw [if_neg hs]
    have hn : (c.state != 1) = true := by simpa using hs
    rw [hg]
    repeat' (conv => whnf
             first
             | (refine And.intro (by kernel_rfl) ?_)
             | (refine And.intro ⟨by kernel_rfl, by kernel_rfl⟩ ?_)
             | (refine cond_1 hn ?_)
             | (refine cond_f ?_ ?_)
             | (refine ⟨_, ⟨by decide, rfl⟩, ?_⟩)
             | (refine cond_i (fun h => ?_) (fun h => ?_)))
    all_goals (conv => whnf)
    all_goals rfl
theorem call_Bad (c : Sp.Call) (conf : Config) (f : Facts) (ha : c.att ≤ 9223372036854775807) : Fv Tryd.prog 61 [.agg c.g, .agg conf.g, .agg f.g] (.tup [.agg (cBad c conf f).1.g, .int .i64 (cBad c conf f).2]) := by
  refine Fv.of_awp Tryd.func61 rfl (by kernel_rfl) rfl (Nat.le_of_ble_eq_true rfl) ?_
  by_cases hs : c.state = 1
  · have he := call_Ends c f.code
    rw [cEnds_on hs (by decide)] at he
    have hd := policy_Decide conf { f with att := c.att, committed := c.committed } ha
    have hn : (c.state != 1) = false := by simpa using hs
    unfold cBad
    rw [if_pos hs]
    generalize decideP conf { f with att := c.att, committed := c.committed } = r at *
    repeat' (conv => whnf
             first
             | (refine And.intro (by kernel_rfl) ?_)
             | (refine And.intro ⟨by kernel_rfl, by kernel_rfl⟩ ?_)
             | (refine cond_0 hn ?_)
             | (refine Or.inl ⟨_, hd, ?_⟩)
             | (refine ⟨_, hd, ?_⟩)
             | (refine Or.inl ⟨_, he, ?_⟩)
             | (refine ⟨_, he, ?_⟩)
             | (refine cond_f ?_ ?_)
             | (refine ⟨_, ⟨by decide, rfl⟩, ?_⟩)
             | (refine cond_i (fun h => ?_) (fun h => ?_)))
    all_goals (conv => whnf)
    all_goals
      simp only [bne_iff_ne, bne_eq_false_iff_eq, ne_eq] at *
      split <;> first | rfl | (exfalso; omega) | (rename_i hz; rw [hz]; rfl)
  · have hg : cBad c conf f = (c, 1) := by unfold cBad; rw [if_neg hs]
    have hn : (c.state != 1) = true := by simpa using hs
    rw [hg]
    repeat' (conv => whnf
             first
             | (refine And.intro (by kernel_rfl) ?_)
             | (refine And.intro ⟨by kernel_rfl, by kernel_rfl⟩ ?_)
             | (refine cond_1 hn ?_)
             | (refine cond_f ?_ ?_)
             | (refine ⟨_, ⟨by decide, rfl⟩, ?_⟩)
             | (refine cond_i (fun h => ?_) (fun h => ?_)))
    all_goals (conv => whnf)
    all_goals rfl
theorem ref21_Bad (c : Sp.Call) (conf : Config) (f : Facts) (ha : c.att ≤ 9223372036854775807) : Fv Tryd.prog 65 [.agg c.g, .agg conf.g, .agg f.g] (.tup [.agg (cBad c conf f).1.g, .int .i64 (cBad c conf f).2]) := by
  refine Fv.of_awp Tryd.func65 rfl (by kernel_rfl) rfl (Nat.le_of_ble_eq_true rfl) ?_
  by_cases hs : c.state = 1
  · have he := ref21_Ends c f.code
    rw [cEnds_on hs (by decide)] at he
    have hd := ref20_Decide conf { f with att := c.att, committed := c.committed } ha
    have hn : (c.state != 1) = false := by simpa using hs
    unfold cBad
    rw [if_pos hs]
    generalize decideP conf { f with att := c.att, committed := c.committed } = r at *
    repeat' (conv => whnf
             first
             | (refine And.intro (by kernel_rfl) ?_)
             | (refine And.intro ⟨by kernel_rfl, by kernel_rfl⟩ ?_)
             | (refine cond_0 hn ?_)
             | (refine Or.inl ⟨_, hd, ?_⟩)
             | (refine ⟨_, hd, ?_⟩)
             | (refine Or.inl ⟨_, he, ?_⟩)
             | (refine ⟨_, he, ?_⟩)
             | (refine cond_f ?_ ?_)
             | (refine ⟨_, ⟨by decide, rfl⟩, ?_⟩)
             | (refine cond_i (fun h => ?_) (fun h => ?_)))
    all_goals (conv => whnf)
    all_goals
      simp only [beq_iff_eq, beq_eq_false_iff_ne, ne_eq] at *
      split <;> first | rfl | (exfalso; omega) | (rename_i hz; rw [hz]; rfl)
  · have hg : cBad c conf f = (c, 1) := by unfold cBad; rw [if_neg hs]
    have hn : (c.state != 1) = true := by simpa using hs
    rw [hg]
    repeat' (conv => whnf
             first
             | (refine And.intro (by kernel_rfl) ?_)
             | (refine And.intro ⟨by kernel_rfl, by kernel_rfl⟩ ?_)
             | (refine cond_1 hn ?_)
             | (refine cond_f ?_ ?_)
             | (refine ⟨_, ⟨by decide, rfl⟩, ?_⟩)
             | (refine cond_i (fun h => ?_) (fun h => ?_)))
    all_goals (conv => whnf)
    all_goals rfl
theorem call_Key (c : Sp.Call) : Fv Tryd.prog 41 [.agg c.g] (.agg (Key.mk c.id c.att).g) := by
  refine Fv.of_awp Tryd.func41 rfl (by kernel_rfl) rfl (Nat.le_of_ble_eq_true rfl) ?_
  repeat' (conv => whnf
           first
           | (refine And.intro (by kernel_rfl) ?_)
           | (refine And.intro ⟨by kernel_rfl, by kernel_rfl⟩ ?_)
           | (refine cond_f ?_ ?_)
           | (refine ⟨_, ⟨by decide, rfl⟩, ?_⟩)
           | (refine cond_i (fun h => ?_) (fun h => ?_)))
  all_goals (conv => whnf)
  all_goals rfl
theorem ref21_Key (c : Sp.Call) : Fv Tryd.prog 47 [.agg c.g] (.agg (Key.mk c.id c.att).g) := by
  refine Fv.of_awp Tryd.func47 rfl (by kernel_rfl) rfl (Nat.le_of_ble_eq_true rfl) ?_
  repeat' (conv => whnf
           first
           | (refine And.intro (by kernel_rfl) ?_)
           | (refine And.intro ⟨by kernel_rfl, by kernel_rfl⟩ ?_)
           | (refine cond_f ?_ ?_)
           | (refine ⟨_, ⟨by decide, rfl⟩, ?_⟩)
           | (refine cond_i (fun h => ?_) (fun h => ?_)))
  all_goals (conv => whnf)
  all_goals rfl
end Go.Proofs.YtfacmphjplablaaDoor.Cn
namespace Go.Proofs.YtfacmphjplablaaDoor.Cn
open Go Go.Proofs Go.Proofs.YtfacmphjplablaaDoor.Av Go.Proofs.YtfacmphjplablaaDoor.Sp
set_option linter.unusedVariables false
set_option linter.unusedSimpArgs false
set_option maxRecDepth 100000

theorem owner_IsRoot (o : Owner) : Fv Tryd.prog 49 [.agg o.g] (.bool (o.key.att == 0)) := by
  refine Fv.of_awp Tryd.func49 rfl (by kernel_rfl) rfl (Nat.le_of_ble_eq_true rfl) ?_
  repeat' (conv => whnf
           first
           | (refine And.intro (by kernel_rfl) ?_)
           | (refine And.intro ⟨by kernel_rfl, by kernel_rfl⟩ ?_)
           | (refine cond_f ?_ ?_)
           | (refine ⟨_, ⟨by decide, rfl⟩, ?_⟩)
           | (refine cond_i (fun h => ?_) (fun h => ?_)))
  all_goals (conv => whnf)
  all_goals rfl
theorem ref23_value (n : Int) : Fv Tryd.prog 81 [.int .i64 n] (.int .i64 (value n)) := by
  refine Fv.of_awp Tryd.func81 rfl (by kernel_rfl) rfl (Nat.le_of_ble_eq_true rfl) ?_
  repeat' (conv => whnf
           first
           | (refine And.intro (by kernel_rfl) ?_)
           | (refine And.intro ⟨by kernel_rfl, by kernel_rfl⟩ ?_)
           | (refine cond_f ?_ ?_)
           | (refine ⟨_, ⟨by decide, rfl⟩, ?_⟩)
           | (refine cond_i (fun h => ?_) (fun h => ?_)))
  all_goals (conv => whnf)
  all_goals
    refine int_eq ?_
    simp only [decide_eq_true_eq, decide_eq_false_iff_not] at *
    unfold value
    (repeat' split) <;> omega

theorem owner_Open (o : Owner) (hs : o.calls.length < 4611686018427387904) : Fv Tryd.prog 50 [.agg o.g] (.int .i64 (openN o.calls)) := by
  refine Fv.of_awp Tryd.func50 rfl (by kernel_rfl) rfl (Nat.le_of_ble_eq_true rfl) ?_
  repeat' (conv => whnf
           first
           | (refine And.intro (by kernel_rfl) ?_)
           | (refine And.intro ⟨by kernel_rfl, by kernel_rfl⟩ ?_)
           | (refine cond_f ?_ ?_)
           | (refine ⟨_, ⟨by decide, rfl⟩, ?_⟩)
           | (refine cond_i (fun h => ?_) (fun h => ?_)))
  all_goals (conv => whnf)
  refine Has.each [3, 7, 8, 9] [1, 5] o.calls.length (fun k acc => acc = openN (o.calls.take k)) (fun acc i =>
    St.of 20 [(3, .int .i64 acc), (7, .sl (o.calls.map Call.g)), (8, .int .i64 (o.calls.map Call.g).length), (9, .int .i64 i)] [] []) ⟨_, _, rfl, rfl, rfl⟩ (fun k acc hk hI => ?_) (fun acc hI => ?_)
  · have hb := openN_bd (o.calls.take k)
    have hl : (o.calls.take k).length ≤ k := List.length_take_le _ _
    refine awp_go ?_
    repeat' (conv => whnf
             first
             | (refine And.intro (by kernel_rfl) ?_)
             | (refine And.intro ⟨by kernel_rfl, by kernel_rfl⟩ ?_)
             | (refine cond_1 (lt_at hk) ?_)
             | (refine ⟨_, row_at hk, ?_⟩)
             | (refine cond_f ?_ ?_)
             | (refine ⟨_, ⟨by decide, rfl⟩, ?_⟩)
             | (refine cond_i (fun h => ?_) (fun h => ?_)))
    all_goals (conv => whnf)
    all_goals
      refine ⟨_, _, rfl, ?_, up1 hk hs⟩
      rw [← hI] at hb
      unfold openN at hI ⊢
      rw [fold_at hk, ← hI]
      unfold open1
      simp only [bne_iff_ne, bne_eq_false_iff_eq, ne_eq] at h
      first
      | (rw [if_pos h])
      | (rw [if_neg h]; exact wrap_i64 (by omega))
  · refine awp_go ?_
    repeat' (conv => whnf
             first
             | (refine And.intro (by kernel_rfl) ?_)
             | (refine And.intro ⟨by kernel_rfl, by kernel_rfl⟩ ?_)
             | (refine cond_0 lt_end ?_)
             | (refine cond_f ?_ ?_)
             | (refine ⟨_, ⟨by decide, rfl⟩, ?_⟩)
             | (refine cond_i (fun h => ?_) (fun h => ?_)))
    all_goals (conv => whnf)
    all_goals
      rw [hI, List.take_length]
theorem owner_Worst (o : Owner) (hs : o.calls.length < 4611686018427387904) : Fv Tryd.prog 51 [.agg o.g] (.int .i64 (worst o.calls)) := by
  refine Fv.of_awp Tryd.func51 rfl (by kernel_rfl) rfl (Nat.le_of_ble_eq_true rfl) ?_
  repeat' (conv => whnf
           first
           | (refine And.intro (by kernel_rfl) ?_)
           | (refine And.intro ⟨by kernel_rfl, by kernel_rfl⟩ ?_)
           | (refine cond_f ?_ ?_)
           | (refine ⟨_, ⟨by decide, rfl⟩, ?_⟩)
           | (refine cond_i (fun h => ?_) (fun h => ?_)))
  all_goals (conv => whnf)
  refine Has.each [3, 7, 8, 9] [1, 5] o.calls.length (fun k acc => acc = worst (o.calls.take k)) (fun acc i =>
    St.of 22 [(3, .int .i64 acc), (7, .sl (o.calls.map Call.g)), (8, .int .i64 (o.calls.map Call.g).length), (9, .int .i64 i)] [] []) ⟨_, _, rfl, rfl, rfl⟩ (fun k acc hk hI => ?_) (fun acc hI => ?_)
  · refine awp_go ?_
    repeat' (conv => whnf
             first
             | (refine And.intro (by kernel_rfl) ?_)
             | (refine And.intro ⟨by kernel_rfl, by kernel_rfl⟩ ?_)
             | (refine cond_1 (lt_at hk) ?_)
             | (refine ⟨_, row_at hk, ?_⟩)
             | (refine Or.inl ⟨_, code_Join _ _, ?_⟩)
             | (refine ⟨_, code_Join _ _, ?_⟩)
             | (refine cond_f ?_ ?_)
             | (refine ⟨_, ⟨by decide, rfl⟩, ?_⟩)
             | (refine cond_i (fun h => ?_) (fun h => ?_)))
    all_goals (conv => whnf)
    all_goals
      refine ⟨_, _, rfl, ?_, up1 hk hs⟩
      unfold worst at *
      rw [fold_at hk, ← hI]
      unfold worst1
      simp only [beq_iff_eq, beq_eq_false_iff_ne, ne_eq] at h
      first
      | (rw [if_pos h])
      | (rw [if_neg h])
  · refine awp_go ?_
    repeat' (conv => whnf
             first
             | (refine And.intro (by kernel_rfl) ?_)
             | (refine And.intro ⟨by kernel_rfl, by kernel_rfl⟩ ?_)
             | (refine cond_0 lt_end ?_)
             | (refine cond_f ?_ ?_)
             | (refine ⟨_, ⟨by decide, rfl⟩, ?_⟩)
             | (refine cond_i (fun h => ?_) (fun h => ?_)))
    all_goals (conv => whnf)
    all_goals
      rw [hI, List.take_length]
theorem owner_Sum (o : Owner) (n : Int) (hs : o.calls.length < 4611686018427387904) : Fv Tryd.prog 52 [.agg o.g, .int .i64 n] (.int .i64 (sum o.calls n)) := by
  refine Fv.of_awp Tryd.func52 rfl (by kernel_rfl) rfl (Nat.le_of_ble_eq_true rfl) ?_
  repeat' (conv => whnf
           first
           | (refine And.intro (by kernel_rfl) ?_)
           | (refine And.intro ⟨by kernel_rfl, by kernel_rfl⟩ ?_)
           | (refine cond_f ?_ ?_)
           | (refine ⟨_, ⟨by decide, rfl⟩, ?_⟩)
           | (refine cond_i (fun h => ?_) (fun h => ?_)))
  all_goals (conv => whnf)
  refine Has.each [5, 12, 13, 14] [2, 7] o.calls.length (fun k acc => acc = sum (o.calls.take k) n) (fun acc i =>
    St.of 27 [(5, .int .i64 acc), (12, .sl (o.calls.map Call.g)), (13, .int .i64 (o.calls.map Call.g).length), (14, .int .i64 i)] [] []) ⟨_, _, rfl, ?_, rfl⟩ (fun k acc hk hI => ?_) (fun acc hI => ?_)
  · show _ = value n
    unfold value; (repeat' split) <;> omega
  · refine awp_go ?_
    repeat' (conv => whnf
             first
             | (refine And.intro (by kernel_rfl) ?_)
             | (refine And.intro ⟨by kernel_rfl, by kernel_rfl⟩ ?_)
             | (refine cond_1 (lt_at hk) ?_)
             | (refine ⟨_, row_at hk, ?_⟩)
             | (refine cond_f ?_ ?_)
             | (refine ⟨_, ⟨by decide, rfl⟩, ?_⟩)
             | (refine cond_i (fun h => ?_) (fun h => ?_)))
    all_goals (conv => whnf)
    all_goals
      refine ⟨_, _, rfl, ?_, up1 hk hs⟩
      have hb := sum_bd (o.calls.take k) n
      unfold sum at *
      rw [fold_at hk, ← hI]
      rw [← hI] at hb
      unfold sum1
      have hv := value_bd o.calls[k].value
      have e : ∀ v : Int, (if 2147483647 < (if 0 > v then 0 else v) then 2147483647 else (if 0 > v then 0 else v)) = value v := by intro v; unfold value; (repeat' split) <;> omega
      rw [e, wrap_i64 (by omega), Int.tmod_eq_emod_of_nonneg (by omega)]
  · refine awp_go ?_
    repeat' (conv => whnf
             first
             | (refine And.intro (by kernel_rfl) ?_)
             | (refine And.intro ⟨by kernel_rfl, by kernel_rfl⟩ ?_)
             | (refine cond_0 lt_end ?_)
             | (refine cond_f ?_ ?_)
             | (refine ⟨_, ⟨by decide, rfl⟩, ?_⟩)
             | (refine cond_i (fun h => ?_) (fun h => ?_)))
    all_goals (conv => whnf)
    all_goals
      rw [hI, List.take_length]
end Go.Proofs.YtfacmphjplablaaDoor.Cn
namespace Go.Proofs.YtfacmphjplablaaDoor.Cn
open Go Go.Proofs Go.Proofs.YtfacmphjplablaaDoor.Av Go.Proofs.YtfacmphjplablaaDoor.Sp
set_option linter.unusedVariables false
set_option linter.unusedSimpArgs false
set_option maxRecDepth 100000
attribute [local irreducible] Fv Fp

theorem law23_One (c : Sp.Call) : Fv Tryd.prog 12 [.agg c.g] (.agg c.g) := by
  refine Fv.of_awp Tryd.func12 rfl (by kernel_rfl) rfl (Nat.le_of_ble_eq_true rfl) ?_
  repeat' (conv => whnf
           first
           | (refine And.intro (by kernel_rfl) ?_)
           | (refine And.intro ⟨by kernel_rfl, by kernel_rfl⟩ ?_)
           | (refine cond_f ?_ ?_)
           | (refine ⟨_, ⟨by decide, rfl⟩, ?_⟩)
           | (refine cond_i (fun h => ?_) (fun h => ?_)))
  all_goals (conv => whnf)
  all_goals rfl
theorem law23_Mine (o : Owner) (hs : o.calls.length ≤ 30) : Fv Tryd.prog 11 [.agg o.g] (.agg o.g) := by
  refine Fv.of_awp Tryd.func11 rfl (by kernel_rfl) rfl (Nat.le_of_ble_eq_true rfl) ?_
  repeat' (conv => whnf
           first
           | (refine And.intro (by kernel_rfl) ?_)
           | (refine And.intro ⟨by kernel_rfl, by kernel_rfl⟩ ?_)
           | (refine cond_f ?_ ?_)
           | (refine ⟨_, ⟨by decide, rfl⟩, ?_⟩)
           | (refine cond_i (fun h => ?_) (fun h => ?_)))
  all_goals (conv => whnf)
  refine Has.own0B 3 18 42 rfl rfl rfl ?_
  refine Has.each [1, 2, 3, 4] [] o.calls.length (OwnI Call.g o.calls) (fun b i =>
    St.of 45 [(1, .ptr 1 0), (2, .ptr 2 0), (3, .ptr 3 0), (4, .int .i64 i)] [(1, o.g), (2, zOwner.gw .nils), (3, o.gw (.own 42 0 b.1))] [(42, b.2)]) ⟨(0, []), _, rfl, ⟨rfl, rfl⟩, rfl⟩ (fun k b hk hI => ?_) (fun b hI => ?_)
  · obtain ⟨n, xs⟩ := b
    obtain ⟨rfl, rfl⟩ : n = k ∧ xs = _ := hI
    refine awp_go ?_
    repeat' (conv => whnf
             first
             | (refine And.intro (by kernel_rfl) ?_)
             | (refine And.intro ⟨by kernel_rfl, by kernel_rfl⟩ ?_)
             | (refine cond_1 (lt_at hk) ?_)
             | (refine ⟨_, row_at hk, ?_⟩)
             | (refine Or.inl ⟨_, law23_One o.calls[n], ?_⟩)
             | (refine ⟨_, law23_One o.calls[n], ?_⟩)
             | (refine ⟨app_at 13 104 (Nat.le_of_lt hk) (by kernel_rfl) (by kernel_rfl) (fun _ => rfl) (by omega), ?_⟩)
             | (refine cond_f ?_ ?_)
             | (refine ⟨_, ⟨by decide, rfl⟩, ?_⟩)
             | (refine cond_i (fun h => ?_) (fun h => ?_)))
    all_goals (conv => whnf)
    exact ⟨(_, _), _, rfl, ⟨rfl, own_app (R := Call.g) hk⟩, up1 hk (by omega)⟩
  · obtain ⟨n, xs⟩ := b
    obtain ⟨rfl, rfl⟩ : n = _ ∧ xs = _ := hI
    refine awp_go ?_
    repeat' (conv => whnf
             first
             | (refine And.intro (by kernel_rfl) ?_)
             | (refine And.intro ⟨by kernel_rfl, by kernel_rfl⟩ ?_)
             | (refine cond_0 lt_end ?_)
             | (refine ⟨own_le, ?_⟩)
             | (refine cond_f ?_ ?_)
             | (refine ⟨_, ⟨by decide, rfl⟩, ?_⟩)
             | (refine cond_i (fun h => ?_) (fun h => ?_)))
    all_goals (conv => whnf)
    simp only [own_all]
    rfl
set_option maxHeartbeats 2000000 in
theorem ref23_Open (o : Owner) (hs : o.calls.length < 4611686018427387904) : Fv Tryd.prog 17 [.agg o.g] (.int .i64 (openN o.calls)) := by
  refine Fv.of_awp Tryd.func17 rfl (by kernel_rfl) rfl (Nat.le_of_ble_eq_true rfl) ?_
  repeat' (conv => whnf
           first
           | (refine And.intro (by kernel_rfl) ?_)
           | (refine And.intro ⟨by kernel_rfl, by kernel_rfl⟩ ?_)
           | (refine cond_f ?_ ?_)
           | (refine ⟨_, ⟨by decide, rfl⟩, ?_⟩)
           | (refine cond_i (fun h => ?_) (fun h => ?_)))
  all_goals (conv => whnf)
  refine Has.each [1, 3, 4] [] o.calls.length (fun k acc => acc = openN (o.calls.take k)) (fun acc i =>
    St.of 22 [(1, .ptr 1 0), (3, .int .i64 acc), (4, .int .i64 i)] [(1, o.g)] []) ⟨_, _, rfl, rfl, rfl⟩ (fun k acc hk hI => ?_) (fun acc hI => ?_)
  · have hb := openN_bd (o.calls.take k)
    have hl : (o.calls.take k).length ≤ k := List.length_take_le _ _
    refine awp_go ?_
    repeat' (conv => whnf
             first
             | (refine And.intro (by kernel_rfl) ?_)
             | (refine And.intro ⟨by kernel_rfl, by kernel_rfl⟩ ?_)
             | (refine cond_1 (lt_at hk) ?_)
             | (refine ⟨_, row_at hk, ?_⟩)
             | (refine cond_f ?_ ?_)
             | (refine ⟨_, ⟨by decide, rfl⟩, ?_⟩)
             | (refine cond_i (fun h => ?_) (fun h => ?_)))
    all_goals (conv => whnf)
    all_goals
      refine ⟨_, _, rfl, ?_, up1 hk hs⟩
      rw [← hI] at hb
      unfold openN at hI ⊢
      rw [fold_at hk, ← hI]
      unfold open1
      simp only [bne_iff_ne, bne_eq_false_iff_eq, ne_eq] at h
      first
      | (rw [if_pos h])
      | (rw [if_neg h]; exact wrap_i64 (by omega))
  · refine awp_go ?_
    repeat' (conv => whnf
             first
             | (refine And.intro (by kernel_rfl) ?_)
             | (refine And.intro ⟨by kernel_rfl, by kernel_rfl⟩ ?_)
             | (refine cond_0 lt_end ?_)
             | (refine cond_f ?_ ?_)
             | (refine ⟨_, ⟨by decide, rfl⟩, ?_⟩)
             | (refine cond_i (fun h => ?_) (fun h => ?_)))
    all_goals (conv => whnf)
    all_goals
      rw [hI, List.take_length]
theorem ref23_Worst (o : Owner) (hs : o.calls.length < 4611686018427387904) : Fv Tryd.prog 54 [.agg o.g] (.int .i64 (worst o.calls)) := by
  refine Fv.of_awp Tryd.func54 rfl (by kernel_rfl) rfl (Nat.le_of_ble_eq_true rfl) ?_
  repeat' (conv => whnf
           first
           | (refine And.intro (by kernel_rfl) ?_)
           | (refine And.intro ⟨by kernel_rfl, by kernel_rfl⟩ ?_)
           | (refine cond_f ?_ ?_)
           | (refine ⟨_, ⟨by decide, rfl⟩, ?_⟩)
           | (refine cond_i (fun h => ?_) (fun h => ?_)))
  all_goals (conv => whnf)
  refine Has.each [1, 3, 4] [] o.calls.length (fun k acc => acc = worst (o.calls.take k)) (fun acc i =>
    St.of 28 [(1, .ptr 1 0), (3, .int .i64 acc), (4, .int .i64 i)] [(1, o.g)] []) ⟨_, _, rfl, rfl, rfl⟩ (fun k acc hk hI => ?_) (fun acc hI => ?_)
  · refine awp_go ?_
    repeat' (conv => whnf
             first
             | (refine And.intro (by kernel_rfl) ?_)
             | (refine And.intro ⟨by kernel_rfl, by kernel_rfl⟩ ?_)
             | (refine cond_1 (lt_at hk) ?_)
             | (refine ⟨_, row_at hk, ?_⟩)
             | (refine Or.inl ⟨_, ref05_Join _ _, ?_⟩)
             | (refine ⟨_, ref05_Join _ _, ?_⟩)
             | (refine cond_f ?_ ?_)
             | (refine ⟨_, ⟨by decide, rfl⟩, ?_⟩)
             | (refine cond_i (fun h => ?_) (fun h => ?_)))
    all_goals (conv => whnf)
    all_goals
      refine ⟨_, _, rfl, ?_, up1 hk hs⟩
      unfold worst at *
      rw [fold_at hk, ← hI]
      unfold worst1
      simp only [beq_iff_eq, beq_eq_false_iff_ne, ne_eq] at h
      first
      | (rw [if_pos h])
      | (rw [if_neg h])
  · refine awp_go ?_
    repeat' (conv => whnf
             first
             | (refine And.intro (by kernel_rfl) ?_)
             | (refine And.intro ⟨by kernel_rfl, by kernel_rfl⟩ ?_)
             | (refine cond_0 lt_end ?_)
             | (refine cond_f ?_ ?_)
             | (refine ⟨_, ⟨by decide, rfl⟩, ?_⟩)
             | (refine cond_i (fun h => ?_) (fun h => ?_)))
    all_goals (conv => whnf)
    all_goals
      rw [hI, List.take_length]
theorem ref23_Sum (o : Owner) (n : Int) (hs : o.calls.length < 4611686018427387904) : Fv Tryd.prog 55 [.agg o.g, .int .i64 n] (.int .i64 (sum o.calls n)) := by
  refine Fv.of_awp Tryd.func55 rfl (by kernel_rfl) rfl (Nat.le_of_ble_eq_true rfl) ?_
  repeat' (conv => whnf
           first
           | (refine And.intro (by kernel_rfl) ?_)
           | (refine And.intro ⟨by kernel_rfl, by kernel_rfl⟩ ?_)
           | (refine Or.inl ⟨_, ref23_value _, ?_⟩)
           | (refine ⟨_, ref23_value _, ?_⟩)
           | (refine cond_f ?_ ?_)
           | (refine ⟨_, ⟨by decide, rfl⟩, ?_⟩)
           | (refine cond_i (fun h => ?_) (fun h => ?_)))
  all_goals (conv => whnf)
  refine Has.each [1, 2, 5] [] o.calls.length (fun k acc => acc = sum (o.calls.take k) n) (fun acc i =>
    St.of 29 [(1, .int .i64 acc), (2, .ptr 2 0), (5, .int .i64 i)] [(2, o.g)] []) ⟨_, _, rfl, rfl, rfl⟩ (fun k acc hk hI => ?_) (fun acc hI => ?_)
  · have hb := sum_bd (o.calls.take k) n
    rw [← hI] at hb
    have hv := value_bd o.calls[k].value
    refine awp_go ?_
    repeat' (conv => whnf
             first
             | (refine And.intro (by kernel_rfl) ?_)
             | (refine And.intro ⟨by kernel_rfl, by kernel_rfl⟩ ?_)
             | (refine cond_1 (lt_at hk) ?_)
             | (refine ⟨_, row_at hk, ?_⟩)
             | (refine Or.inl ⟨_, ref23_value _, ?_⟩)
             | (refine ⟨_, ref23_value _, ?_⟩)
             | (refine cond_f ?_ ?_)
             | (refine ⟨_, ⟨by decide, rfl⟩, ?_⟩)
             | (refine cond_i (fun h => ?_) (fun h => ?_)))
    all_goals (conv => whnf)
    all_goals
      refine ⟨_, _, rfl, ?_, up1 hk hs⟩
      unfold sum at *
      rw [fold_at hk, ← hI]
      unfold sum1
      rw [wrap_i64 (n := acc + value o.calls[k].value) (by omega)] at *
      simp only [decide_eq_true_eq, decide_eq_false_iff_not] at h
      first
      | omega
      | (rw [wrap_i64 (by omega)]; omega)
  · refine awp_go ?_
    repeat' (conv => whnf
             first
             | (refine And.intro (by kernel_rfl) ?_)
             | (refine And.intro ⟨by kernel_rfl, by kernel_rfl⟩ ?_)
             | (refine cond_0 lt_end ?_)
             | (refine cond_f ?_ ?_)
             | (refine ⟨_, ⟨by decide, rfl⟩, ?_⟩)
             | (refine cond_i (fun h => ?_) (fun h => ?_)))
    all_goals (conv => whnf)
    all_goals
      rw [hI, List.take_length]
end Go.Proofs.YtfacmphjplablaaDoor.Cn
namespace Go.Proofs.YtfacmphjplablaaDoor.Cn
open Go Go.Proofs Go.Proofs.YtfacmphjplablaaDoor.Av Go.Proofs.YtfacmphjplablaaDoor.Sp
set_option linter.unusedVariables false
set_option linter.unusedSimpArgs false
set_option maxRecDepth 100000
attribute [local irreducible] Fv Fp

theorem slices_Clone (l : List Sp.Call) (hs : l.length ≤ 31) : Fp Tryd.prog 109 [.sl (l.map Call.g)] [] [] (.own 0 0 l.length, [], [some (l.map Call.g)]) := by
  cases l with
  | nil =>
    refine Fp.nilCases (Fp.none0 (g0 := .nils) (fun _ _ _ => nils_room) ?_) ?_
    · refine Fp.of_awp Tryd.func109 rfl (by kernel_rfl) (Nat.le_of_ble_eq_true rfl) ?_
      repeat' (conv => whnf
               first
               | (refine And.intro (by kernel_rfl) ?_)
               | (refine And.intro ⟨by kernel_rfl, by kernel_rfl⟩ ?_)
               | (refine cond_f ?_ ?_)
               | (refine ⟨_, ⟨by decide, rfl⟩, ?_⟩)
               | (refine cond_i (fun h => ?_) (fun h => ?_)))
      all_goals (conv => whnf)
      all_goals rfl
    · refine Fp.of_awp Tryd.func109 rfl (by kernel_rfl) (Nat.le_of_ble_eq_true rfl) ?_
      repeat' (conv => whnf
               first
               | (refine And.intro (by kernel_rfl) ?_)
               | (refine And.intro ⟨by kernel_rfl, by kernel_rfl⟩ ?_)
               | (refine ⟨fits 104 (by kernel_rfl) (by simp), ?_⟩)
               | (refine cond_f ?_ ?_)
               | (refine ⟨_, ⟨by decide, rfl⟩, ?_⟩)
               | (refine cond_i (fun h => ?_) (fun h => ?_)))
      all_goals (conv => whnf)
      all_goals rfl
  | cons c l =>
    have h1 : okRows (Tryd.prog.cellsOf 35) ((c :: l).map Call.g) = true := ok_map 13 (by kernel_rfl) (fun _ => rfl) (fun _ => rfl)
    refine Fp.of_awp Tryd.func109 rfl (by kernel_rfl) (Nat.le_of_ble_eq_true rfl) ?_
    have h2 : (2 * ((c :: l).map Call.g).length + 1024) * 104 ≤ 281474976710656 := by rw [List.length_map]; omega
    repeat' (conv => whnf
             first
             | (refine And.intro (by kernel_rfl) ?_)
             | (refine And.intro ⟨by kernel_rfl, by kernel_rfl⟩ ?_)
             | (refine cond_1 h1 ?_)
             | (refine ⟨fits 104 (by kernel_rfl) h2, ?_⟩)
             | (refine cond_f ?_ ?_)
             | (refine ⟨_, ⟨by decide, rfl⟩, ?_⟩)
             | (refine cond_i (fun h => ?_) (fun h => ?_)))
    all_goals (conv => whnf)
    all_goals (simp only [List.length_map]; rfl)
theorem owner_Clone (o : Owner) (hs : o.calls.length ≤ 31) : Fp Tryd.prog 71 [.agg o.g] [] [] (.agg (o.gw (.own 0 0 o.calls.length)), [], [some (o.calls.map Call.g)]) := by
  refine Fp.of_awp Tryd.func71 rfl (by kernel_rfl) (Nat.le_of_ble_eq_true rfl) ?_
  repeat' (conv => whnf
           first
           | (refine And.intro (by kernel_rfl) ?_)
           | (refine And.intro ⟨by kernel_rfl, by kernel_rfl⟩ ?_)
           | (refine Or.inr ⟨_, slices_Clone o.calls hs, ?_⟩)
           | (refine cond_f ?_ ?_)
           | (refine ⟨_, ⟨by decide, rfl⟩, ?_⟩)
           | (refine cond_i (fun h => ?_) (fun h => ?_)))
  all_goals (conv => whnf)
  all_goals rfl
theorem owner_Find1 (c : Sp.Call) (d : Sp.Id) : Fp Tryd.prog 111 [.agg c.g, .ptr 0 0] [d.g] [] (.bool (decide (c.id = d)), [some d.g], []) := by
  refine Fp.of_awp Tryd.func111 rfl (by kernel_rfl) (Nat.le_of_ble_eq_true rfl) ?_
  repeat' (conv => whnf
           first
           | (refine And.intro (by kernel_rfl) ?_)
           | (refine And.intro ⟨by kernel_rfl, by kernel_rfl⟩ ?_)
           | (refine cond_f ?_ ?_)
           | (refine ⟨_, ⟨by decide, rfl⟩, ?_⟩)
           | (refine cond_i (fun h => ?_) (fun h => ?_)))
  all_goals (conv => whnf)
  rw [id_eqB c.id d]
  rfl
theorem findI_hit {l : List Sp.Call} {d : Sp.Id} {k : Nat} (hk : k < l.length) (hI : findI (l.take k) d = -1) (h : l[k].id = d) : findI l d = k := by
  unfold findI at *
  have e : l.findIdx? (fun c => c.id == d) = some k := by
    rw [List.findIdx?_eq_some_iff_getElem]
    refine ⟨hk, by simp [h], fun j hj => ?_⟩
    cases hf : (l.take k).findIdx? (fun c => c.id == d) with
    | some i => rw [hf] at hI; simp at hI
    | none =>
      rw [List.findIdx?_eq_none_iff] at hf
      have := hf (l[j]) (List.mem_take_iff_getElem.2 ⟨j, by omega, rfl⟩)
      simpa using this
  rw [e]
theorem findI_step {l : List Sp.Call} {d : Sp.Id} {k : Nat} (hk : k < l.length) (hI : findI (l.take k) d = -1) (h : ¬ l[k].id = d) : findI (l.take (k + 1)) d = -1 := by
  unfold findI at *
  cases hf : (l.take k).findIdx? (fun c => c.id == d) with
  | some i => rw [hf] at hI; simp at hI
  | none =>
    have e : (l.take (k + 1)).findIdx? (fun c => c.id == d) = none := by
      rw [List.findIdx?_eq_none_iff] at hf ⊢
      intro x hx
      rw [take_at hk, List.mem_append] at hx
      rcases hx with hx | hx
      · exact hf x hx
      · simp at hx; subst hx; simpa using h
    rw [e]
set_option maxHeartbeats 4000000 in
theorem slices_IndexFunc (l : List Sp.Call) (d : Sp.Id) (hs : l.length < 4611686018427387904) : Fp Tryd.prog 110 [.sl (l.map Call.g), .fn 111 [.ptr 0 0]] [d.g] [] (.int .i64 (findI l d), [some d.g], []) := by
  refine Fp.of_awp Tryd.func110 rfl (by kernel_rfl) (Nat.le_of_ble_eq_true rfl) ?_
  repeat' (conv => whnf
           first
           | (refine And.intro (by kernel_rfl) ?_)
           | (refine And.intro ⟨by kernel_rfl, by kernel_rfl⟩ ?_)
           | (refine cond_f ?_ ?_)
           | (refine ⟨_, ⟨by decide, rfl⟩, ?_⟩)
           | (refine cond_i (fun h => ?_) (fun h => ?_)))
  all_goals (conv => whnf)
  refine Has.each [0, 1, 7, 8] [] l.length (fun k (_ : Unit) => findI (l.take k) d = -1) (fun _ i =>
    St.ofP 19 1 0 [(0, .sl (l.map Call.g)), (1, .fn 111 [.ptr 27 0]), (7, .int .i64 ((l.map Call.g).length : Nat)), (8, .int .i64 i)] [(27, d.g)] []) ⟨(), _, rfl, rfl, rfl⟩ (fun k _ hk hI => ?_) (fun _ hI => ?_)
  · have hF := owner_Find1 l[k] d
    generalize hb : decide (l[k].id = d) = b at hF
    refine awp_go ?_
    repeat' (conv => whnf
             first
             | (refine And.intro (by kernel_rfl) ?_)
             | (refine And.intro ⟨by kernel_rfl, by kernel_rfl⟩ ?_)
             | (refine cond_1 (lt_at hk) ?_)
             | (refine ⟨_, row_at hk, ?_⟩)
             | (refine Or.inr ⟨_, hF, ?_⟩)
             | (refine cond_f ?_ ?_)
             | (refine ⟨_, ⟨by decide, rfl⟩, ?_⟩)
             | (refine cond_i (fun h => ?_) (fun h => ?_)))
    all_goals (conv => whnf)
    · rw [findI_hit hk hI (of_decide_eq_true (hb.trans h))]; rfl
    · exact ⟨(), _, rfl, findI_step hk hI (of_decide_eq_false (hb.trans h)), up1 hk hs⟩
  · rw [List.take_length] at hI
    rw [hI]
    refine awp_go ?_
    repeat' (conv => whnf
             first
             | (refine And.intro (by kernel_rfl) ?_)
             | (refine And.intro ⟨by kernel_rfl, by kernel_rfl⟩ ?_)
             | (refine cond_0 lt_end ?_)
             | (refine cond_f ?_ ?_)
             | (refine ⟨_, ⟨by decide, rfl⟩, ?_⟩)
             | (refine cond_i (fun h => ?_) (fun h => ?_)))
    all_goals (conv => whnf)
    all_goals rfl
theorem owner_Find (o : Owner) (d : Sp.Id) (hs : o.calls.length < 4611686018427387904) : Fv Tryd.prog 72 [.agg o.g, .agg d.g] (.int .i64 (findI o.calls d)) := by
  refine Fv.of_awp Tryd.func72 rfl (by kernel_rfl) rfl (Nat.le_of_ble_eq_true rfl) ?_
  repeat' (conv => whnf
           first
           | (refine And.intro (by kernel_rfl) ?_)
           | (refine And.intro ⟨by kernel_rfl, by kernel_rfl⟩ ?_)
           | (refine Or.inr ⟨_, slices_IndexFunc o.calls d hs, ?_⟩)
           | (refine cond_f ?_ ?_)
           | (refine ⟨_, ⟨by decide, rfl⟩, ?_⟩)
           | (refine cond_i (fun h => ?_) (fun h => ?_)))
  all_goals (conv => whnf)
  all_goals rfl
end Go.Proofs.YtfacmphjplablaaDoor.Cn
namespace Go.Proofs.YtfacmphjplablaaDoor.Cn
open Go Go.Proofs Go.Proofs.YtfacmphjplablaaDoor.Av Go.Proofs.YtfacmphjplablaaDoor.Sp
set_option linter.unusedVariables false
set_option linter.unusedSimpArgs false
set_option maxRecDepth 100000
attribute [local irreducible] Fv Fp

theorem own_app1 {α : Type} {l : List α} {R : α → List G} {x : List G} : ((l.map R ++ [x]).drop 0).take (l.length + [x].length) = l.map R ++ [x] := by rw [List.drop_zero]; exact List.take_of_length_le (by simp)
theorem own_set1 {α : Type} {l : List α} {R : α → List G} {x : List G} {i : Nat} : (((l.map R).set (0 + (i : Int).toNat) x).drop 0).take l.length = (l.map R).set i x := by
  rw [List.drop_zero, List.take_of_length_le (by simp), Nat.zero_add, Int.toNat_natCast]
set_option maxHeartbeats 4000000 in
theorem owner_With (o : Owner) (c : Sp.Call) (hs : o.calls.length ≤ 31) : Fv Tryd.prog 36 [.agg o.g, .agg c.g] (.agg (withO o c).g) := by
  refine Fv.of_awp Tryd.func36 rfl (by kernel_rfl) rfl (Nat.le_of_ble_eq_true rfl) ?_
  have h1 := owner_Clone o hs
  have h2 := owner_Find o c.id (by omega)
  unfold findI withO withC at *
  cases hf : o.calls.findIdx? (fun x => x.id == c.id) with
  | some i =>
    simp only [hf] at h2 ⊢
    have hi : i < o.calls.length := (List.findIdx?_eq_some_iff_getElem.1 hf).1
    have h3 : (0 ≤ (i : Int) ∧ (i : Int) < (o.calls.length : Int) ∧ (o.calls.map Call.g)[0 + (i : Int).toNat]? = some o.calls[i].g) := ⟨by omega, by omega, by simp [List.getElem?_eq_getElem hi]⟩
    have h4 : decide ((i : Int) ≥ 0) = true := by simp
    have h5 : (o.calls.map Call.g)[0 + (i : Int).toNat]? = some o.calls[i].g ∧ 0 + Tryd.prog.cellsOf 35 ≤ (o.calls[i].g).length := ⟨h3.2.2, Nat.le_of_ble_eq_true (by kernel_rfl)⟩
    repeat' (conv => whnf
             first
             | (refine And.intro (by kernel_rfl) ?_)
             | (refine And.intro ⟨by kernel_rfl, by kernel_rfl⟩ ?_)
             | (refine Or.inr ⟨_, h1, ?_⟩)
             | (refine Or.inl ⟨_, h2, ?_⟩)
             | (refine ⟨_, h2, ?_⟩)
             | (refine ⟨own_le1, ?_⟩)
             | (rw [own_all1])
             | (refine Or.inl ?_)
             | (refine cond_1 h4 ?_)
             | (refine ⟨_, h3, ?_⟩)
             | (refine ⟨_, h5, ?_⟩)
             | (refine cond_f ?_ ?_)
             | (refine ⟨_, ⟨by decide, rfl⟩, ?_⟩)
             | (refine cond_i (fun h => ?_) (fun h => ?_)))
    all_goals (conv => whnf)
    refine ⟨by rw [List.length_set, List.length_map]; omega, ?_⟩
    rw [own_set1]
    conv => whnf
    show G.agg (o.gw (.sl ((o.calls.map Call.g).set i c.g))) = _
    rw [← List.map_set]
    rfl
  | none =>
    simp only [hf] at h2 ⊢
    have h3 := app_at (P := Tryd.prog) (e := 35) (l := o.calls) (R := Call.g) (k := o.calls.length) (r := c.g) 13 104 (Nat.le_refl _) (by kernel_rfl) (by kernel_rfl) (fun _ => rfl) (by omega)
    rw [List.take_length] at h3
    repeat' (conv => whnf
             first
             | (refine And.intro (by kernel_rfl) ?_)
             | (refine And.intro ⟨by kernel_rfl, by kernel_rfl⟩ ?_)
             | (refine Or.inr ⟨_, h1, ?_⟩)
             | (refine Or.inl ⟨_, h2, ?_⟩)
             | (refine ⟨_, h2, ?_⟩)
             | (refine ⟨h3, ?_⟩)
             | (refine ⟨own_le1, ?_⟩)
             | (rw [own_all1])
             | (refine Or.inl ?_)
             | (refine cond_f ?_ ?_)
             | (refine ⟨_, ⟨by decide, rfl⟩, ?_⟩)
             | (refine cond_i (fun h => ?_) (fun h => ?_)))
    all_goals (conv => whnf)
    refine ⟨by simp, ?_⟩
    rw [own_app1]
    conv => whnf
    show G.agg (o.gw (.sl (o.calls.map Call.g ++ [c.g]))) = _
    rw [show o.calls.map Call.g ++ [c.g] = (o.calls ++ [c]).map Call.g from by rw [List.map_append]; rfl]
    rfl
end Go.Proofs.YtfacmphjplablaaDoor.Cn
namespace Go.Proofs
open Go.Shelf
def Tryd.laysM171_ren : Go.Shelf.Ren := ⟨fun | 171 => 114 | 243 => 133 | 246 => 138 | 283 => 142 | 284 => 143 | 285 => 144 | 286 => 145 | 129 => 147 | 317 => 146 | 318 => 148 | 319 => 149 | 320 => 150 | 337 => 151 | 338 => 152 | n => n, fun | 3 => 3 | 9 => 9 | 2 => 2 | 4 => 4 | 171 => 151 | 0 => 0 | 53 => 152 | 37 => 133 | 5 => 5 | 173 => 155 | 212 => 158 | 51 => 113 | 20 => 20 | 213 => 159 | 46 => 114 | 232 => 162 | 233 => 163 | n => n, fun | 17 => 0 | 18 => 1 | 19 => 2 | n => n⟩
theorem Tryd.laysM171 : Go.Proofs.LaysM.n171 Tryd.prog Tryd.laysM171_ren := {
  mixed := by kernel_rfl
  f129 := Tryd.func147.trans (congrArg some (by kernel_rfl))
  f171 := Tryd.func114.trans (congrArg some (by kernel_rfl))
  f243 := Tryd.func133.trans (congrArg some (by kernel_rfl))
  f246 := Tryd.func138.trans (congrArg some (by kernel_rfl))
  f283 := Tryd.func142.trans (congrArg some (by kernel_rfl))
  f284 := Tryd.func143.trans (congrArg some (by kernel_rfl))
  f285 := Tryd.func144.trans (congrArg some (by kernel_rfl))
  f286 := Tryd.func145.trans (congrArg some (by kernel_rfl))
  f317 := Tryd.func146.trans (congrArg some (by kernel_rfl))
  f318 := Tryd.func148.trans (congrArg some (by kernel_rfl))
  f319 := Tryd.func149.trans (congrArg some (by kernel_rfl))
  f320 := Tryd.func150.trans (congrArg some (by kernel_rfl))
  f337 := Tryd.func151.trans (congrArg some (by kernel_rfl))
  f338 := Tryd.func152.trans (congrArg some (by kernel_rfl))
  t0 := Tryd.underlying0
  a0 := Tryd.isAgg0
  z0 := Tryd.sizeOf0
  v0 := Tryd.zeroValue0
  t2 := Tryd.underlying2
  a2 := Tryd.isAgg2
  z2 := Tryd.sizeOf2
  v2 := Tryd.zeroValue2
  t3 := Tryd.underlying3
  a3 := Tryd.isAgg3
  z3 := Tryd.sizeOf3
  v3 := Tryd.zeroValue3
  t4 := Tryd.underlying4
  a4 := Tryd.isAgg4
  z4 := Tryd.sizeOf4
  v4 := Tryd.zeroValue4
  t5 := Tryd.underlying5
  a5 := Tryd.isAgg5
  z5 := Tryd.sizeOf5
  v5 := Tryd.zeroValue5
  t9 := Tryd.underlying9
  a9 := Tryd.isAgg9
  z9 := Tryd.sizeOf9
  v9 := Tryd.zeroValue9
  t20 := Tryd.underlying20
  a20 := Tryd.isAgg20
  z20 := Tryd.sizeOf20
  v20 := Tryd.zeroValue20
  t37 := Tryd.underlying133
  a37 := Tryd.isAgg133
  z37 := Tryd.sizeOf133
  v37 := Tryd.zeroValue133
  t46 := Tryd.underlying114
  a46 := Tryd.isAgg114
  z46 := Tryd.sizeOf114
  v46 := Tryd.zeroValue114
  t51 := Tryd.underlying113
  a51 := Tryd.isAgg113
  z51 := Tryd.sizeOf113
  v51 := Tryd.zeroValue113
  t53 := Tryd.underlying152
  a53 := Tryd.isAgg152
  z53 := Tryd.sizeOf152
  v53 := Tryd.zeroValue152
  t171 := Tryd.underlying151
  a171 := Tryd.isAgg151
  z171 := Tryd.sizeOf151
  v171 := Tryd.zeroValue151
  t173 := Tryd.underlying155
  a173 := Tryd.isAgg155
  z173 := Tryd.sizeOf155
  v173 := Tryd.zeroValue155
  t212 := Tryd.underlying158
  a212 := Tryd.isAgg158
  z212 := Tryd.sizeOf158
  v212 := Tryd.zeroValue158
  t213 := Tryd.underlying159
  a213 := Tryd.isAgg159
  z213 := Tryd.sizeOf159
  t232 := Tryd.underlying162
  a232 := Tryd.isAgg162
  z232 := Tryd.sizeOf162
  v232 := Tryd.zeroValue162
  t233 := Tryd.underlying163
  a233 := Tryd.isAgg163
  z233 := Tryd.sizeOf163
  v233 := Tryd.zeroValue163
  g17 := by kernel_rfl
  g18 := by kernel_rfl
  g19 := by kernel_rfl
  i0 := by kernel_rfl
  i2 := by kernel_rfl
  i3 := by kernel_rfl
  i4 := by kernel_rfl
  i5 := by kernel_rfl
  i9 := by kernel_rfl
  i20 := by kernel_rfl
  i37 := by kernel_rfl
  i46 := by kernel_rfl
  i51 := by kernel_rfl
  i53 := by kernel_rfl
  i171 := by kernel_rfl
  i173 := by kernel_rfl
  i212 := by kernel_rfl
  i232 := by kernel_rfl
  i233 := by kernel_rfl
  m17 := by kernel_rfl
  m18 := by kernel_rfl
  m19 := by kernel_rfl }
open Go.RowKit Go.Sort Go.Lib in
theorem Tryd.strconv_Itoa (n : Int) (h0 : -9223372036854775808 ≤ n) (h1 : n ≤ 9223372036854775807) (w : World) (htab : Lib.TabIs Tryd.prog w "internal/strconv.uint64pow10" .u64 Lib.pow10Tab) :
    Calls Tryd.prog 114 #[.int .i64 n] w fun e w' => e = .returned (.string ⟨(Lib.itoa n).toArray⟩) ∧ ∃ k os, w' = grow (w.drewN k) os := Any.strconv_Itoa Tryd.laysM171 n h0 h1 w htab
end Go.Proofs
namespace Go.Proofs.YtfacmphjplablaaDoor.Av
open Go Go.RowKit Go.Sort
set_option linter.unusedVariables false

theorem Fv.of_calls {P : Program} {f : FuncId} {args : List G} {g : G} (hb : hasBody P f = true)
    (h : ∀ (C : Cx) (w : World) (vs : List Value), vs.length = args.length → (∀ (i : Nat) g v, args[i]? = some g → vs[i]? = some v → Rep C w g v) → Fixed w C.ex →
      Calls P f ⟨vs⟩ w fun e w' => ∃ v, e = .returned v ∧ Rep C w' g v ∧ Below w.heap.size w w') : Fv P f args g := by
  refine ⟨hb, fun C w t0 vs hl hr hM ht hb0 hr0 hfx => (h C w vs hl hr hfx).mono fun e w' ⟨v, he, hv, hB⟩ => ?_⟩
  have nb : ∀ b B, C.box b = some B → False := fun b B hB => by obtain ⟨cs, hcs⟩ := hM.domB b B hB; simp at hcs
  have nr : ∀ k r, C.row k = some r → False := fun k r hk => by obtain ⟨xs, hxs⟩ := hM.domR k r hk; simp at hxs
  exact ⟨v, C, g, [], [], he, ⟨rfl, rfl, rfl⟩, hv,
    ⟨fun b cs hb => by simp at hb, fun k xs hk => by simp at hk, fun b B hB => (nb b B hB).elim, fun k r hk => (nr k r hk).elim, fun b _ B hB => (nb b B hB).elim, fun k _ B s sz n _ _ _ hk => (nr k _ hk).elim, fun b _ B _ _ _ hB => (nb b B hB).elim, fun X hX => Nat.lt_of_lt_of_le (hM.lt X hX) hB.size⟩,
    ⟨fun _ _ h => h, ⟨hB.os, hB.tape, hB.output, hB.size, fun B hlt _ => hB.block B hlt⟩, fun _ h => h, fun _ h => .inl h, fun b B hB => (nb b B hB).elim, fun k B s sz n hk => (nr k _ hk).elim⟩⟩
theorem below_grow (w : World) (os : Array Obj) : Below w.heap.size w (grow w os) :=
  ⟨rfl, rfl, rfl, by simp [grow], fun k hk => by simp only [grow]; rw [Array.getElem?_append_left hk]⟩
theorem below_drew (w : World) (k : Nat) : Below w.heap.size w (w.drewN k) := ⟨rfl, rfl, rfl, Nat.le_refl _, fun _ _ => rfl⟩
theorem below_grown (w : World) (k : Nat) (os : Array Obj) : Below w.heap.size w (grow (w.drewN k) os) := (below_drew w k).trans (below_grow (w.drewN k) os)
end Go.Proofs.YtfacmphjplablaaDoor.Av
namespace Go.Proofs.YtfacmphjplablaaDoor.Cn
open Go Go.Proofs Go.Proofs.YtfacmphjplablaaDoor.Av Go.Proofs.YtfacmphjplablaaDoor.Sp
set_option linter.unusedVariables false
set_option linter.unusedSimpArgs false
set_option maxRecDepth 100000

theorem tab_of {w : World} {ex : Nat → Prop} (h : Fixed w ex) : Lib.TabIs Tryd.prog w "internal/strconv.uint64pow10" .u64 Lib.pow10Tab := by
  obtain ⟨_, _, T, fz, h3⟩ := h (0, _) (List.mem_singleton.2 rfl)
  unfold Lib.TabIs World.var?
  rw [show Tryd.prog.globalNamed "internal/strconv.uint64pow10" = some 0 from by kernel_rfl]
  simp only [Option.bind_some]
  rw [h3]
  rfl
theorem strconv_Itoa (n : Int) (h : -9223372036854775808 ≤ n ∧ n ≤ 9223372036854775807) : Fv Tryd.prog 114 [.int .i64 n] (.str (strL (Lib.itoa n))) := by
  refine Fv.of_calls (by kernel_rfl) fun C w vs hl hr hfx => ?_
  match vs, hl with
  | [v], _ =>
    obtain rfl := (hr 0 _ v rfl rfl).int_inv
    exact (Tryd.strconv_Itoa n h.1 h.2 w (tab_of hfx)).mono fun e w' ⟨he, k, os, hw⟩ => ⟨_, he, .str _, by rw [hw]; exact below_grown w k os⟩
attribute [local irreducible] Fv Fp
theorem dec_small {n : Nat} (h : n < 10) : Lib.decDigits n = [UInt8.ofNat (48 + n)] := by rw [Lib.decDigits]; rw [dif_pos h]
theorem dec_more {n : Nat} (h : ¬ n < 10) : Lib.decDigits n = Lib.decDigits (n / 10) ++ [UInt8.ofNat (48 + n % 10)] := by rw [Lib.decDigits]; rw [dif_neg h]
theorem dig_at {n : Nat} (h : n < 10) : (⟨#[48, 49, 50, 51, 52, 53, 54, 55, 56, 57]⟩ : ByteArray).extract n (n + 1) = strL [UInt8.ofNat (48 + n)] := by
  have : n = 0 ∨ n = 1 ∨ n = 2 ∨ n = 3 ∨ n = 4 ∨ n = 5 ∨ n = 6 ∨ n = 7 ∨ n = 8 ∨ n = 9 := by omega
  rcases this with rfl | rfl | rfl | rfl | rfl | rfl | rfl | rfl | rfl | rfl <;> exact ext_list (by decide +kernel)
theorem dec_len (n : Nat) : (Lib.decDigits n).length ≤ n + 1 := by
  induction n using Nat.strongRecOn with
  | _ n ih =>
    by_cases h : n < 10
    · rw [dec_small h]; simp
    · rw [dec_more h]
      have := ih (n / 10) (by omega)
      simp only [List.length_append, List.length_cons, List.length_nil]
      omega
theorem digits_small (n : Int) (h0 : 0 ≤ n) (h : n < 10) (d : ByteArray) (hd : (⟨#[48, 49, 50, 51, 52, 53, 54, 55, 56, 57]⟩ : ByteArray).extract n.toNat (IntKind.i64.wrap (n + 1)).toNat = d) : Fv Tryd.prog 78 [.int .i64 n] (.str d) := by
  have w1 : IntKind.i64.wrap (n + 1) = n + 1 := wrap_i64 (by omega)
  have b1 : decide (n < 10) = true := decide_eq_true h
  have f1 : 0 ≤ n ∧ n ≤ IntKind.i64.wrap (n + 1) ∧ IntKind.i64.wrap (n + 1) ≤ ((10 : Nat) : Int) := by rw [w1]; omega
  refine Fv.of_awp Tryd.func78 rfl (by kernel_rfl) rfl (Nat.le_of_ble_eq_true rfl) ?_
  repeat' (conv => whnf
           first
           | (refine And.intro (by kernel_rfl) ?_)
           | (refine And.intro ⟨by kernel_rfl, by kernel_rfl⟩ ?_)
           | (refine cond_1 b1 ?_)
           | (refine ⟨f1, ?_⟩)
           | (refine cond_f ?_ ?_)
           | (refine ⟨_, ⟨by decide, rfl⟩, ?_⟩)
           | (refine cond_i (fun h => ?_) (fun h => ?_)))
  all_goals (conv => whnf)
  all_goals rw [hd]
theorem digits_more (n q r : Int) (x d : ByteArray) (h : ¬ n < 10) (hq : IntKind.i64.wrap (n.tdiv 10) = q) (hr : n.tmod 10 = r) (h0 : 0 ≤ r ∧ r < 10) (hd : (⟨#[48, 49, 50, 51, 52, 53, 54, 55, 56, 57]⟩ : ByteArray).extract r.toNat (IntKind.i64.wrap (r + 1)).toNat = d)
    (n1 : Fv Tryd.prog 78 [.int .i64 q] (.str x)) (hz : ((x.size + d.size : Nat) : Int) ≤ 9223372036854775807) : Fv Tryd.prog 78 [.int .i64 n] (.str (x ++ d)) := by
  have w1 : IntKind.i64.wrap (r + 1) = r + 1 := wrap_i64 (by omega)
  have b1 : decide (n < 10) = false := decide_eq_false h
  have f1 : 0 ≤ r ∧ r ≤ IntKind.i64.wrap (r + 1) ∧ IntKind.i64.wrap (r + 1) ≤ ((10 : Nat) : Int) := by rw [w1]; omega
  subst hq hr hd
  refine Fv.of_awp Tryd.func78 rfl (by kernel_rfl) rfl (Nat.le_of_ble_eq_true rfl) ?_
  repeat' (conv => whnf
           first
           | (refine And.intro (by kernel_rfl) ?_)
           | (refine And.intro ⟨by kernel_rfl, by kernel_rfl⟩ ?_)
           | (refine cond_0 b1 ?_)
           | (refine Or.inl ⟨_, n1, ?_⟩)
           | (refine ⟨_, n1, ?_⟩)
           | (refine ⟨f1, ?_⟩)
           | (refine ⟨hz, ?_⟩)
           | (refine cond_f ?_ ?_)
           | (refine ⟨_, ⟨by decide, rfl⟩, ?_⟩)
           | (refine cond_i (fun h => ?_) (fun h => ?_)))
  all_goals (conv => whnf)
  all_goals rfl
theorem ref02_Digits (n : Nat) : n < 9223372036854775807 → Fv Tryd.prog 78 [.int .i64 (n : Int)] (.str (strL (Lib.decDigits n))) := by
  induction n using Nat.strongRecOn with
  | _ n ih =>
    intro hn
    have lit : ∀ r : Nat, r < 10 → (⟨#[48, 49, 50, 51, 52, 53, 54, 55, 56, 57]⟩ : ByteArray).extract ((r : Nat) : Int).toNat (IntKind.i64.wrap (((r : Nat) : Int) + 1)).toNat = strL [UInt8.ofNat (48 + r)] := fun r hr => by
      rw [wrap_i64 (by omega), show (((r : Nat) : Int) + 1).toNat = r + 1 from by omega, Int.toNat_natCast]; exact dig_at hr
    by_cases h : n < 10
    · rw [dec_small h]
      exact digits_small n (by omega) (by omega) _ (lit n h)
    · rw [dec_more h, ← strL_app]
      have hl := dec_len (n / 10)
      refine digits_more n ((n / 10 : Nat) : Int) ((n % 10 : Nat) : Int) _ _ (by omega) ?_ ?_ ⟨by omega, by omega⟩ (lit (n % 10) (by omega)) (ih (n / 10) (by omega) (by omega)) (by rw [strL_size, strL_size]; simp only [List.length_cons, List.length_nil]; omega)
      · rw [Int.tdiv_eq_ediv_of_nonneg (by omega), wrap_i64 (by omega)]; rfl
      · rw [Int.tmod_eq_emod_of_nonneg (by omega)]; rfl
end Go.Proofs.YtfacmphjplablaaDoor.Cn
namespace Go.Proofs.YtfacmphjplablaaDoor.Cn
open Go Go.Proofs Go.Proofs.YtfacmphjplablaaDoor.Av Go.Proofs.YtfacmphjplablaaDoor.Sp
set_option linter.unusedVariables false
set_option linter.unusedSimpArgs false
set_option maxRecDepth 100000
attribute [local irreducible] Fv Fp

theorem itoa_pos {n : Int} (h : 0 ≤ n) : Lib.itoa n = Lib.decDigits n.toNat := by unfold Lib.itoa; rw [if_neg (by omega)]
theorem txt_app {n : Int} (c : UInt8) : txt n c = strL (Lib.decDigits n.toNat) ++ strL [c] := by unfold txt; rw [strL_app]
theorem qq {x : Int} {k : Int} (h : 0 ≤ x ∧ x ≤ 1125899906842624) (hk : 0 < k) : IntKind.i64.wrap (x.tdiv k) = x / k ∧ 0 ≤ x / k ∧ x / k ≤ 1125899906842624 := by
  have h1 : 0 ≤ x / k := Int.ediv_nonneg h.1 (by omega)
  have h2 : x / k ≤ x := Int.ediv_le_self _ h.1
  exact ⟨by rw [Int.tdiv_eq_ediv_of_nonneg h.1, wrap_i64 (by omega)], h1, by omega⟩
section
variable (t c : Int) (n1 : Fv Tryd.prog 42 [.int .i64 t] (.int .i64 c)) (q : Int) (x : ByteArray) (n2 : Fv Tryd.prog 114 [.int .i64 q] (.str x)) (hz : ((x.size + 1 : Nat) : Int) ≤ 9223372036854775807)
include n1 n2 hz
theorem enc_u (e : IntKind.i64.wrap (c.tdiv 1) = q) (h : q ≤ 99999999) : Fv Tryd.prog 75 [.int .i64 t] (.str (x ++ strL [117])) := by
  have u1 : Fv Tryd.prog 113 [.int .u8 117] (.int .i64 1) := timeout_unit 117
  have z : ((x.size + (⟨[(117 : UInt8)].toArray⟩ : ByteArray).size : Nat) : Int) ≤ 9223372036854775807 := hz
  subst e
  have b1 : decide (IntKind.i64.wrap (c.tdiv 1) ≤ 99999999) = true := decide_eq_true h
  refine Fv.of_awp Tryd.func75 rfl (by kernel_rfl) rfl (Nat.le_of_ble_eq_true rfl) ?_
  repeat' (conv => whnf
           first
           | (refine And.intro (by kernel_rfl) ?_)
           | (refine And.intro ⟨by kernel_rfl, by kernel_rfl⟩ ?_)
           | (refine Or.inl ⟨_, n1, ?_⟩)
           | (refine ⟨_, n1, ?_⟩)
           | (refine cond_f ?_ ?_)
           | (refine ⟨_, ⟨by decide, rfl⟩, ?_⟩)
           | (refine cond_i (fun h => ?_) (fun h => ?_)))
  all_goals (conv => whnf)
  refine Has.ofN 5 ?_
  repeat' (conv => whnf
           first
           | (refine And.intro (by kernel_rfl) ?_)
           | (refine And.intro ⟨by kernel_rfl, by kernel_rfl⟩ ?_)
           | (refine ⟨_, ⟨by decide, rfl⟩, ?_⟩)
           | (refine Or.inl ⟨_, u1, ?_⟩)
           | (refine ⟨_, u1, ?_⟩)
           | (refine cond_1 b1 ?_)
           | (refine Or.inl ⟨_, n2, ?_⟩)
           | (refine ⟨_, n2, ?_⟩)
           | (refine ⟨[117], rfl, ?_⟩)
           | (refine ⟨z, ?_⟩)
           | (refine cond_f ?_ ?_)
           | (refine ⟨_, ⟨by decide, rfl⟩, ?_⟩)
           | (refine cond_i (fun h => ?_) (fun h => ?_)))
  all_goals (conv => whnf)
  all_goals rfl
variable (h1 : ¬ IntKind.i64.wrap (c.tdiv 1) ≤ 99999999)
include h1
theorem enc_m (e : IntKind.i64.wrap (c.tdiv 1000) = q) (h : q ≤ 99999999) : Fv Tryd.prog 75 [.int .i64 t] (.str (x ++ strL [109])) := by
  have u1 : Fv Tryd.prog 113 [.int .u8 117] (.int .i64 1) := timeout_unit 117
  have u2 : Fv Tryd.prog 113 [.int .u8 109] (.int .i64 1000) := timeout_unit 109
  have z : ((x.size + (⟨[(109 : UInt8)].toArray⟩ : ByteArray).size : Nat) : Int) ≤ 9223372036854775807 := hz
  subst e
  have b1 : decide (IntKind.i64.wrap (c.tdiv 1) ≤ 99999999) = false := decide_eq_false h1
  have b2 : decide (IntKind.i64.wrap (c.tdiv 1000) ≤ 99999999) = true := decide_eq_true h
  refine Fv.of_awp Tryd.func75 rfl (by kernel_rfl) rfl (Nat.le_of_ble_eq_true rfl) ?_
  repeat' (conv => whnf
           first
           | (refine And.intro (by kernel_rfl) ?_)
           | (refine And.intro ⟨by kernel_rfl, by kernel_rfl⟩ ?_)
           | (refine Or.inl ⟨_, n1, ?_⟩)
           | (refine ⟨_, n1, ?_⟩)
           | (refine cond_f ?_ ?_)
           | (refine ⟨_, ⟨by decide, rfl⟩, ?_⟩)
           | (refine cond_i (fun h => ?_) (fun h => ?_)))
  all_goals (conv => whnf)
  refine Has.ofN 5 ?_
  repeat' (conv => whnf
           first
           | (refine And.intro (by kernel_rfl) ?_)
           | (refine And.intro ⟨by kernel_rfl, by kernel_rfl⟩ ?_)
           | (refine ⟨_, ⟨by decide, rfl⟩, ?_⟩)
           | (refine Or.inl ⟨_, u1, ?_⟩)
           | (refine ⟨_, u1, ?_⟩)
           | (refine cond_0 b1 ?_)
           | (refine Or.inl ⟨_, u2, ?_⟩)
           | (refine ⟨_, u2, ?_⟩)
           | (refine cond_1 b2 ?_)
           | (refine Or.inl ⟨_, n2, ?_⟩)
           | (refine ⟨_, n2, ?_⟩)
           | (refine ⟨[109], rfl, ?_⟩)
           | (refine ⟨z, ?_⟩)
           | (refine cond_f ?_ ?_)
           | (refine ⟨_, ⟨by decide, rfl⟩, ?_⟩)
           | (refine cond_i (fun h => ?_) (fun h => ?_)))
  all_goals (conv => whnf)
  all_goals rfl
variable (h2 : ¬ IntKind.i64.wrap (c.tdiv 1000) ≤ 99999999)
include h2
theorem enc_s (e : IntKind.i64.wrap (c.tdiv 1000000) = q) (h : q ≤ 99999999) : Fv Tryd.prog 75 [.int .i64 t] (.str (x ++ strL [83])) := by
  have u1 : Fv Tryd.prog 113 [.int .u8 117] (.int .i64 1) := timeout_unit 117
  have u2 : Fv Tryd.prog 113 [.int .u8 109] (.int .i64 1000) := timeout_unit 109
  have u3 : Fv Tryd.prog 113 [.int .u8 83] (.int .i64 1000000) := timeout_unit 83
  have z : ((x.size + (⟨[(83 : UInt8)].toArray⟩ : ByteArray).size : Nat) : Int) ≤ 9223372036854775807 := hz
  subst e
  have b1 : decide (IntKind.i64.wrap (c.tdiv 1) ≤ 99999999) = false := decide_eq_false h1
  have b2 : decide (IntKind.i64.wrap (c.tdiv 1000) ≤ 99999999) = false := decide_eq_false h2
  have b3 : decide (IntKind.i64.wrap (c.tdiv 1000000) ≤ 99999999) = true := decide_eq_true h
  refine Fv.of_awp Tryd.func75 rfl (by kernel_rfl) rfl (Nat.le_of_ble_eq_true rfl) ?_
  repeat' (conv => whnf
           first
           | (refine And.intro (by kernel_rfl) ?_)
           | (refine And.intro ⟨by kernel_rfl, by kernel_rfl⟩ ?_)
           | (refine Or.inl ⟨_, n1, ?_⟩)
           | (refine ⟨_, n1, ?_⟩)
           | (refine cond_f ?_ ?_)
           | (refine ⟨_, ⟨by decide, rfl⟩, ?_⟩)
           | (refine cond_i (fun h => ?_) (fun h => ?_)))
  all_goals (conv => whnf)
  refine Has.ofN 5 ?_
  repeat' (conv => whnf
           first
           | (refine And.intro (by kernel_rfl) ?_)
           | (refine And.intro ⟨by kernel_rfl, by kernel_rfl⟩ ?_)
           | (refine ⟨_, ⟨by decide, rfl⟩, ?_⟩)
           | (refine Or.inl ⟨_, u1, ?_⟩)
           | (refine ⟨_, u1, ?_⟩)
           | (refine cond_0 b1 ?_)
           | (refine Or.inl ⟨_, u2, ?_⟩)
           | (refine ⟨_, u2, ?_⟩)
           | (refine cond_0 b2 ?_)
           | (refine Or.inl ⟨_, u3, ?_⟩)
           | (refine ⟨_, u3, ?_⟩)
           | (refine cond_1 b3 ?_)
           | (refine Or.inl ⟨_, n2, ?_⟩)
           | (refine ⟨_, n2, ?_⟩)
           | (refine ⟨[83], rfl, ?_⟩)
           | (refine ⟨z, ?_⟩)
           | (refine cond_f ?_ ?_)
           | (refine ⟨_, ⟨by decide, rfl⟩, ?_⟩)
           | (refine cond_i (fun h => ?_) (fun h => ?_)))
  all_goals (conv => whnf)
  all_goals rfl
variable (h3 : ¬ IntKind.i64.wrap (c.tdiv 1000000) ≤ 99999999)
include h3
theorem enc_M (e : IntKind.i64.wrap (c.tdiv 60000000) = q) (h : q ≤ 99999999) : Fv Tryd.prog 75 [.int .i64 t] (.str (x ++ strL [77])) := by
  have u1 : Fv Tryd.prog 113 [.int .u8 117] (.int .i64 1) := timeout_unit 117
  have u2 : Fv Tryd.prog 113 [.int .u8 109] (.int .i64 1000) := timeout_unit 109
  have u3 : Fv Tryd.prog 113 [.int .u8 83] (.int .i64 1000000) := timeout_unit 83
  have u4 : Fv Tryd.prog 113 [.int .u8 77] (.int .i64 60000000) := timeout_unit 77
  have z : ((x.size + (⟨[(77 : UInt8)].toArray⟩ : ByteArray).size : Nat) : Int) ≤ 9223372036854775807 := hz
  subst e
  have b1 : decide (IntKind.i64.wrap (c.tdiv 1) ≤ 99999999) = false := decide_eq_false h1
  have b2 : decide (IntKind.i64.wrap (c.tdiv 1000) ≤ 99999999) = false := decide_eq_false h2
  have b3 : decide (IntKind.i64.wrap (c.tdiv 1000000) ≤ 99999999) = false := decide_eq_false h3
  have b4 : decide (IntKind.i64.wrap (c.tdiv 60000000) ≤ 99999999) = true := decide_eq_true h
  refine Fv.of_awp Tryd.func75 rfl (by kernel_rfl) rfl (Nat.le_of_ble_eq_true rfl) ?_
  repeat' (conv => whnf
           first
           | (refine And.intro (by kernel_rfl) ?_)
           | (refine And.intro ⟨by kernel_rfl, by kernel_rfl⟩ ?_)
           | (refine Or.inl ⟨_, n1, ?_⟩)
           | (refine ⟨_, n1, ?_⟩)
           | (refine cond_f ?_ ?_)
           | (refine ⟨_, ⟨by decide, rfl⟩, ?_⟩)
           | (refine cond_i (fun h => ?_) (fun h => ?_)))
  all_goals (conv => whnf)
  refine Has.ofN 5 ?_
  repeat' (conv => whnf
           first
           | (refine And.intro (by kernel_rfl) ?_)
           | (refine And.intro ⟨by kernel_rfl, by kernel_rfl⟩ ?_)
           | (refine ⟨_, ⟨by decide, rfl⟩, ?_⟩)
           | (refine Or.inl ⟨_, u1, ?_⟩)
           | (refine ⟨_, u1, ?_⟩)
           | (refine cond_0 b1 ?_)
           | (refine Or.inl ⟨_, u2, ?_⟩)
           | (refine ⟨_, u2, ?_⟩)
           | (refine cond_0 b2 ?_)
           | (refine Or.inl ⟨_, u3, ?_⟩)
           | (refine ⟨_, u3, ?_⟩)
           | (refine cond_0 b3 ?_)
           | (refine Or.inl ⟨_, u4, ?_⟩)
           | (refine ⟨_, u4, ?_⟩)
           | (refine cond_1 b4 ?_)
           | (refine Or.inl ⟨_, n2, ?_⟩)
           | (refine ⟨_, n2, ?_⟩)
           | (refine ⟨[77], rfl, ?_⟩)
           | (refine ⟨z, ?_⟩)
           | (refine cond_f ?_ ?_)
           | (refine ⟨_, ⟨by decide, rfl⟩, ?_⟩)
           | (refine cond_i (fun h => ?_) (fun h => ?_)))
  all_goals (conv => whnf)
  all_goals rfl
variable (h4 : ¬ IntKind.i64.wrap (c.tdiv 60000000) ≤ 99999999)
include h4
theorem enc_H (e : IntKind.i64.wrap (c.tdiv 3600000000) = q) : Fv Tryd.prog 75 [.int .i64 t] (.str (x ++ ⟨#[72]⟩)) := by
  have u1 : Fv Tryd.prog 113 [.int .u8 117] (.int .i64 1) := timeout_unit 117
  have u2 : Fv Tryd.prog 113 [.int .u8 109] (.int .i64 1000) := timeout_unit 109
  have u3 : Fv Tryd.prog 113 [.int .u8 83] (.int .i64 1000000) := timeout_unit 83
  have u4 : Fv Tryd.prog 113 [.int .u8 77] (.int .i64 60000000) := timeout_unit 77
  have u5 : Fv Tryd.prog 113 [.int .u8 72] (.int .i64 3600000000) := timeout_unit 72
  have z : ((x.size + (⟨#[72]⟩ : ByteArray).size : Nat) : Int) ≤ 9223372036854775807 := hz
  subst e
  have b1 : decide (IntKind.i64.wrap (c.tdiv 1) ≤ 99999999) = false := decide_eq_false h1
  have b2 : decide (IntKind.i64.wrap (c.tdiv 1000) ≤ 99999999) = false := decide_eq_false h2
  have b3 : decide (IntKind.i64.wrap (c.tdiv 1000000) ≤ 99999999) = false := decide_eq_false h3
  have b4 : decide (IntKind.i64.wrap (c.tdiv 60000000) ≤ 99999999) = false := decide_eq_false h4
  refine Fv.of_awp Tryd.func75 rfl (by kernel_rfl) rfl (Nat.le_of_ble_eq_true rfl) ?_
  repeat' (conv => whnf
           first
           | (refine And.intro (by kernel_rfl) ?_)
           | (refine And.intro ⟨by kernel_rfl, by kernel_rfl⟩ ?_)
           | (refine Or.inl ⟨_, n1, ?_⟩)
           | (refine ⟨_, n1, ?_⟩)
           | (refine cond_f ?_ ?_)
           | (refine ⟨_, ⟨by decide, rfl⟩, ?_⟩)
           | (refine cond_i (fun h => ?_) (fun h => ?_)))
  all_goals (conv => whnf)
  refine Has.ofN 5 ?_
  repeat' (conv => whnf
           first
           | (refine And.intro (by kernel_rfl) ?_)
           | (refine And.intro ⟨by kernel_rfl, by kernel_rfl⟩ ?_)
           | (refine ⟨_, ⟨by decide, rfl⟩, ?_⟩)
           | (refine Or.inl ⟨_, u1, ?_⟩)
           | (refine ⟨_, u1, ?_⟩)
           | (refine cond_0 b1 ?_)
           | (refine Or.inl ⟨_, u2, ?_⟩)
           | (refine ⟨_, u2, ?_⟩)
           | (refine cond_0 b2 ?_)
           | (refine Or.inl ⟨_, u3, ?_⟩)
           | (refine ⟨_, u3, ?_⟩)
           | (refine cond_0 b3 ?_)
           | (refine Or.inl ⟨_, u4, ?_⟩)
           | (refine ⟨_, u4, ?_⟩)
           | (refine cond_0 b4 ?_)
           | (refine Or.inl ⟨_, u5, ?_⟩)
           | (refine ⟨_, u5, ?_⟩)
           | (refine Or.inl ⟨_, n2, ?_⟩)
           | (refine ⟨_, n2, ?_⟩)
           | (refine ⟨z, ?_⟩)
           | (refine cond_f ?_ ?_)
           | (refine ⟨_, ⟨by decide, rfl⟩, ?_⟩)
           | (refine cond_i (fun h => ?_) (fun h => ?_)))
  all_goals (conv => whnf)
  all_goals rfl
end
theorem timeout_Encode (t : Int) : Fv Tryd.prog 75 [.int .i64 t] (.str (enc t)) := by
  have hc := clamp_bd t
  have n1 := ticks_Clamp t
  have it : ∀ q : Int, 0 ≤ q ∧ q ≤ 1125899906842624 → Fv Tryd.prog 114 [.int .i64 q] (.str (strL (Lib.decDigits q.toNat))) := fun q hq => by
    have := strconv_Itoa q (by omega)
    rw [itoa_pos hq.1] at this
    exact this
  have sz : ∀ q : Int, 0 ≤ q ∧ q ≤ 1125899906842624 → (((strL (Lib.decDigits q.toNat)).size + 1 : Nat) : Int) ≤ 9223372036854775807 := fun q hq => by
    rw [strL_size]; have := dec_len q.toNat; omega
  obtain ⟨a1, a2, a3⟩ := qq (k := 1) hc (by omega)
  obtain ⟨m1, m2, m3⟩ := qq (k := 1000) hc (by omega)
  obtain ⟨s1, s2, s3⟩ := qq (k := 1000000) hc (by omega)
  obtain ⟨M1, M2, M3⟩ := qq (k := 60000000) hc (by omega)
  obtain ⟨H1, H2, H3⟩ := qq (k := 3600000000) hc (by omega)
  rw [Int.ediv_one] at a1
  unfold enc
  split
  · rename_i h
    rw [txt_app]
    exact enc_u t _ n1 _ _ (it _ hc) (sz _ hc) a1 h
  · rename_i h
    have h1 : ¬ IntKind.i64.wrap ((clamp t).tdiv 1) ≤ 99999999 := by rw [a1]; exact h
    split
    · rename_i h
      rw [txt_app]
      exact enc_m t _ n1 _ _ (it _ ⟨m2, m3⟩) (sz _ ⟨m2, m3⟩) h1 m1 h
    · rename_i h
      have h2 : ¬ IntKind.i64.wrap ((clamp t).tdiv 1000) ≤ 99999999 := by rw [m1]; exact h
      split
      · rename_i h
        rw [txt_app]
        exact enc_s t _ n1 _ _ (it _ ⟨s2, s3⟩) (sz _ ⟨s2, s3⟩) h1 h2 s1 h
      · rename_i h
        have h3 : ¬ IntKind.i64.wrap ((clamp t).tdiv 1000000) ≤ 99999999 := by rw [s1]; exact h
        split
        · rename_i h
          rw [txt_app]
          exact enc_M t _ n1 _ _ (it _ ⟨M2, M3⟩) (sz _ ⟨M2, M3⟩) h1 h2 h3 M1 h
        · rename_i h
          have h4 : ¬ IntKind.i64.wrap ((clamp t).tdiv 60000000) ≤ 99999999 := by rw [M1]; exact h
          rw [txt_app]
          exact enc_H t _ n1 _ _ (it _ ⟨H2, H3⟩) (sz _ ⟨H2, H3⟩) h1 h2 h3 h4 H1
end Go.Proofs.YtfacmphjplablaaDoor.Cn
namespace Go.Proofs.YtfacmphjplablaaDoor.Cn
open Go Go.Proofs Go.Proofs.YtfacmphjplablaaDoor.Av Go.Proofs.YtfacmphjplablaaDoor.Sp
set_option linter.unusedVariables false
set_option linter.unusedSimpArgs false
set_option maxRecDepth 100000
attribute [local irreducible] Fv Fp

abbrev uns : ByteArray := ⟨#[117, 109, 83, 77, 72]⟩
section
variable (t c : Int) (n1 : Fv Tryd.prog 16 [.int .i64 t] (.int .i64 c)) (q : Int) (x : ByteArray) (n2 : Fv Tryd.prog 78 [.int .i64 q] (.str x)) (hz : ((x.size + 1 : Nat) : Int) ≤ 9223372036854775807)
include n1 n2 hz
theorem renc_u (e : IntKind.i64.wrap (c.tdiv 1) = q) (h : q < 100000000) : Fv Tryd.prog 48 [.int .i64 t] (.str (x ++ strL [117])) := by
  have u1 : Fv Tryd.prog 77 [.int .u8 (byteAt (⟨#[117, 109, 83, 77, 72]⟩ : ByteArray) (Int.toNat 0))] (.int .i64 1) := ref02_Unit 117
  subst e
  have b1 : decide (IntKind.i64.wrap (c.tdiv 1) < 100000000) = true := decide_eq_true h
  have ex : (⟨#[117, 109, 83, 77, 72]⟩ : ByteArray).extract (Int.toNat (0)) (Int.toNat (IntKind.i64.wrap (0 + 1))) = strL [117] := ext_list (by decide +kernel)
  have z : ((x.size + ((⟨#[117, 109, 83, 77, 72]⟩ : ByteArray).extract (Int.toNat (0)) (Int.toNat (IntKind.i64.wrap (0 + 1)))).size : Nat) : Int) ≤ 9223372036854775807 := by rw [ex]; exact hz
  rw [← ex]
  refine Fv.of_awp Tryd.func48 rfl (by kernel_rfl) rfl (Nat.le_of_ble_eq_true rfl) ?_
  repeat' (conv => whnf
           first
           | (refine And.intro (by kernel_rfl) ?_)
           | (refine And.intro ⟨by kernel_rfl, by kernel_rfl⟩ ?_)
           | (refine Or.inl ⟨_, n1, ?_⟩)
           | (refine ⟨_, n1, ?_⟩)
           | (refine cond_f ?_ ?_)
           | (refine ⟨_, ⟨by decide, rfl⟩, ?_⟩)
           | (refine cond_i (fun h => ?_) (fun h => ?_)))
  all_goals (conv => whnf)
  refine Has.ofN 5 ?_
  repeat' (conv => whnf
           first
           | (refine And.intro (by kernel_rfl) ?_)
           | (refine And.intro ⟨by kernel_rfl, by kernel_rfl⟩ ?_)
           | (refine Or.inl ⟨_, u1, ?_⟩)
           | (refine ⟨_, u1, ?_⟩)
           | (refine cond_1 b1 ?_)
           | (refine Or.inl ⟨_, n2, ?_⟩)
           | (refine ⟨_, n2, ?_⟩)
           | (refine ⟨⟨by decide +kernel, by decide +kernel, by decide +kernel⟩, ?_⟩)
           | (refine ⟨⟨by decide +kernel, by decide +kernel⟩, ?_⟩)
           | (refine ⟨z, ?_⟩)
           | (refine cond_f ?_ ?_)
           | (refine ⟨_, ⟨by decide, rfl⟩, ?_⟩)
           | (refine cond_i (fun h => ?_) (fun h => ?_)))
  all_goals (conv => whnf)
  all_goals rfl
variable (h1 : ¬ IntKind.i64.wrap (c.tdiv 1) < 100000000)
include h1
theorem renc_m (e : IntKind.i64.wrap (c.tdiv 1000) = q) (h : q < 100000000) : Fv Tryd.prog 48 [.int .i64 t] (.str (x ++ strL [109])) := by
  have u1 : Fv Tryd.prog 77 [.int .u8 (byteAt (⟨#[117, 109, 83, 77, 72]⟩ : ByteArray) (Int.toNat 0))] (.int .i64 1) := ref02_Unit 117
  have b1 : decide (IntKind.i64.wrap (c.tdiv 1) < 100000000) = false := decide_eq_false h1
  have u2 : Fv Tryd.prog 77 [.int .u8 (byteAt (⟨#[117, 109, 83, 77, 72]⟩ : ByteArray) (Int.toNat (IntKind.i64.wrap (0 + 1))))] (.int .i64 1000) := ref02_Unit 109
  subst e
  have b2 : decide (IntKind.i64.wrap (c.tdiv 1000) < 100000000) = true := decide_eq_true h
  have ex : (⟨#[117, 109, 83, 77, 72]⟩ : ByteArray).extract (Int.toNat (IntKind.i64.wrap (0 + 1))) (Int.toNat (IntKind.i64.wrap (IntKind.i64.wrap (0 + 1) + 1))) = strL [109] := ext_list (by decide +kernel)
  have z : ((x.size + ((⟨#[117, 109, 83, 77, 72]⟩ : ByteArray).extract (Int.toNat (IntKind.i64.wrap (0 + 1))) (Int.toNat (IntKind.i64.wrap (IntKind.i64.wrap (0 + 1) + 1)))).size : Nat) : Int) ≤ 9223372036854775807 := by rw [ex]; exact hz
  rw [← ex]
  refine Fv.of_awp Tryd.func48 rfl (by kernel_rfl) rfl (Nat.le_of_ble_eq_true rfl) ?_
  repeat' (conv => whnf
           first
           | (refine And.intro (by kernel_rfl) ?_)
           | (refine And.intro ⟨by kernel_rfl, by kernel_rfl⟩ ?_)
           | (refine Or.inl ⟨_, n1, ?_⟩)
           | (refine ⟨_, n1, ?_⟩)
           | (refine cond_f ?_ ?_)
           | (refine ⟨_, ⟨by decide, rfl⟩, ?_⟩)
           | (refine cond_i (fun h => ?_) (fun h => ?_)))
  all_goals (conv => whnf)
  refine Has.ofN 5 ?_
  repeat' (conv => whnf
           first
           | (refine And.intro (by kernel_rfl) ?_)
           | (refine And.intro ⟨by kernel_rfl, by kernel_rfl⟩ ?_)
           | (refine Or.inl ⟨_, u1, ?_⟩)
           | (refine ⟨_, u1, ?_⟩)
           | (refine cond_0 b1 ?_)
           | (refine Or.inl ⟨_, u2, ?_⟩)
           | (refine ⟨_, u2, ?_⟩)
           | (refine cond_1 b2 ?_)
           | (refine Or.inl ⟨_, n2, ?_⟩)
           | (refine ⟨_, n2, ?_⟩)
           | (refine ⟨⟨by decide +kernel, by decide +kernel, by decide +kernel⟩, ?_⟩)
           | (refine ⟨⟨by decide +kernel, by decide +kernel⟩, ?_⟩)
           | (refine ⟨z, ?_⟩)
           | (refine cond_f ?_ ?_)
           | (refine ⟨_, ⟨by decide, rfl⟩, ?_⟩)
           | (refine cond_i (fun h => ?_) (fun h => ?_)))
  all_goals (conv => whnf)
  all_goals rfl
variable (h2 : ¬ IntKind.i64.wrap (c.tdiv 1000) < 100000000)
include h2
theorem renc_s (e : IntKind.i64.wrap (c.tdiv 1000000) = q) (h : q < 100000000) : Fv Tryd.prog 48 [.int .i64 t] (.str (x ++ strL [83])) := by
  have u1 : Fv Tryd.prog 77 [.int .u8 (byteAt (⟨#[117, 109, 83, 77, 72]⟩ : ByteArray) (Int.toNat 0))] (.int .i64 1) := ref02_Unit 117
  have b1 : decide (IntKind.i64.wrap (c.tdiv 1) < 100000000) = false := decide_eq_false h1
  have u2 : Fv Tryd.prog 77 [.int .u8 (byteAt (⟨#[117, 109, 83, 77, 72]⟩ : ByteArray) (Int.toNat (IntKind.i64.wrap (0 + 1))))] (.int .i64 1000) := ref02_Unit 109
  have b2 : decide (IntKind.i64.wrap (c.tdiv 1000) < 100000000) = false := decide_eq_false h2
  have u3 : Fv Tryd.prog 77 [.int .u8 (byteAt (⟨#[117, 109, 83, 77, 72]⟩ : ByteArray) (Int.toNat (IntKind.i64.wrap (IntKind.i64.wrap (0 + 1) + 1))))] (.int .i64 1000000) := ref02_Unit 83
  subst e
  have b3 : decide (IntKind.i64.wrap (c.tdiv 1000000) < 100000000) = true := decide_eq_true h
  have ex : (⟨#[117, 109, 83, 77, 72]⟩ : ByteArray).extract (Int.toNat (IntKind.i64.wrap (IntKind.i64.wrap (0 + 1) + 1))) (Int.toNat (IntKind.i64.wrap (IntKind.i64.wrap (IntKind.i64.wrap (0 + 1) + 1) + 1))) = strL [83] := ext_list (by decide +kernel)
  have z : ((x.size + ((⟨#[117, 109, 83, 77, 72]⟩ : ByteArray).extract (Int.toNat (IntKind.i64.wrap (IntKind.i64.wrap (0 + 1) + 1))) (Int.toNat (IntKind.i64.wrap (IntKind.i64.wrap (IntKind.i64.wrap (0 + 1) + 1) + 1)))).size : Nat) : Int) ≤ 9223372036854775807 := by rw [ex]; exact hz
  rw [← ex]
  refine Fv.of_awp Tryd.func48 rfl (by kernel_rfl) rfl (Nat.le_of_ble_eq_true rfl) ?_
  repeat' (conv => whnf
           first
           | (refine And.intro (by kernel_rfl) ?_)
           | (refine And.intro ⟨by kernel_rfl, by kernel_rfl⟩ ?_)
           | (refine Or.inl ⟨_, n1, ?_⟩)
           | (refine ⟨_, n1, ?_⟩)
           | (refine cond_f ?_ ?_)
           | (refine ⟨_, ⟨by decide, rfl⟩, ?_⟩)
           | (refine cond_i (fun h => ?_) (fun h => ?_)))
  all_goals (conv => whnf)
  refine Has.ofN 5 ?_
  repeat' (conv => whnf
           first
           | (refine And.intro (by kernel_rfl) ?_)
           | (refine And.intro ⟨by kernel_rfl, by kernel_rfl⟩ ?_)
           | (refine Or.inl ⟨_, u1, ?_⟩)
           | (refine ⟨_, u1, ?_⟩)
           | (refine cond_0 b1 ?_)
           | (refine Or.inl ⟨_, u2, ?_⟩)
           | (refine ⟨_, u2, ?_⟩)
           | (refine cond_0 b2 ?_)
           | (refine Or.inl ⟨_, u3, ?_⟩)
           | (refine ⟨_, u3, ?_⟩)
           | (refine cond_1 b3 ?_)
           | (refine Or.inl ⟨_, n2, ?_⟩)
           | (refine ⟨_, n2, ?_⟩)
           | (refine ⟨⟨by decide +kernel, by decide +kernel, by decide +kernel⟩, ?_⟩)
           | (refine ⟨⟨by decide +kernel, by decide +kernel⟩, ?_⟩)
           | (refine ⟨z, ?_⟩)
           | (refine cond_f ?_ ?_)
           | (refine ⟨_, ⟨by decide, rfl⟩, ?_⟩)
           | (refine cond_i (fun h => ?_) (fun h => ?_)))
  all_goals (conv => whnf)
  all_goals rfl
variable (h3 : ¬ IntKind.i64.wrap (c.tdiv 1000000) < 100000000)
include h3
theorem renc_M (e : IntKind.i64.wrap (c.tdiv 60000000) = q) (h : q < 100000000) : Fv Tryd.prog 48 [.int .i64 t] (.str (x ++ strL [77])) := by
  have u1 : Fv Tryd.prog 77 [.int .u8 (byteAt (⟨#[117, 109, 83, 77, 72]⟩ : ByteArray) (Int.toNat 0))] (.int .i64 1) := ref02_Unit 117
  have b1 : decide (IntKind.i64.wrap (c.tdiv 1) < 100000000) = false := decide_eq_false h1
  have u2 : Fv Tryd.prog 77 [.int .u8 (byteAt (⟨#[117, 109, 83, 77, 72]⟩ : ByteArray) (Int.toNat (IntKind.i64.wrap (0 + 1))))] (.int .i64 1000) := ref02_Unit 109
  have b2 : decide (IntKind.i64.wrap (c.tdiv 1000) < 100000000) = false := decide_eq_false h2
  have u3 : Fv Tryd.prog 77 [.int .u8 (byteAt (⟨#[117, 109, 83, 77, 72]⟩ : ByteArray) (Int.toNat (IntKind.i64.wrap (IntKind.i64.wrap (0 + 1) + 1))))] (.int .i64 1000000) := ref02_Unit 83
  have b3 : decide (IntKind.i64.wrap (c.tdiv 1000000) < 100000000) = false := decide_eq_false h3
  have u4 : Fv Tryd.prog 77 [.int .u8 (byteAt (⟨#[117, 109, 83, 77, 72]⟩ : ByteArray) (Int.toNat (IntKind.i64.wrap (IntKind.i64.wrap (IntKind.i64.wrap (0 + 1) + 1) + 1))))] (.int .i64 60000000) := ref02_Unit 77
  subst e
  have b4 : decide (IntKind.i64.wrap (c.tdiv 60000000) < 100000000) = true := decide_eq_true h
  have ex : (⟨#[117, 109, 83, 77, 72]⟩ : ByteArray).extract (Int.toNat (IntKind.i64.wrap (IntKind.i64.wrap (IntKind.i64.wrap (0 + 1) + 1) + 1))) (Int.toNat (IntKind.i64.wrap (IntKind.i64.wrap (IntKind.i64.wrap (IntKind.i64.wrap (0 + 1) + 1) + 1) + 1))) = strL [77] := ext_list (by decide +kernel)
  have z : ((x.size + ((⟨#[117, 109, 83, 77, 72]⟩ : ByteArray).extract (Int.toNat (IntKind.i64.wrap (IntKind.i64.wrap (IntKind.i64.wrap (0 + 1) + 1) + 1))) (Int.toNat (IntKind.i64.wrap (IntKind.i64.wrap (IntKind.i64.wrap (IntKind.i64.wrap (0 + 1) + 1) + 1) + 1)))).size : Nat) : Int) ≤ 9223372036854775807 := by rw [ex]; exact hz
  rw [← ex]
  refine Fv.of_awp Tryd.func48 rfl (by kernel_rfl) rfl (Nat.le_of_ble_eq_true rfl) ?_
  repeat' (conv => whnf
           first
           | (refine And.intro (by kernel_rfl) ?_)
           | (refine And.intro ⟨by kernel_rfl, by kernel_rfl⟩ ?_)
           | (refine Or.inl ⟨_, n1, ?_⟩)
           | (refine ⟨_, n1, ?_⟩)
           | (refine cond_f ?_ ?_)
           | (refine ⟨_, ⟨by decide, rfl⟩, ?_⟩)
           | (refine cond_i (fun h => ?_) (fun h => ?_)))
  all_goals (conv => whnf)
  refine Has.ofN 5 ?_
  repeat' (conv => whnf
           first
           | (refine And.intro (by kernel_rfl) ?_)
           | (refine And.intro ⟨by kernel_rfl, by kernel_rfl⟩ ?_)
           | (refine Or.inl ⟨_, u1, ?_⟩)
           | (refine ⟨_, u1, ?_⟩)
           | (refine cond_0 b1 ?_)
           | (refine Or.inl ⟨_, u2, ?_⟩)
           | (refine ⟨_, u2, ?_⟩)
           | (refine cond_0 b2 ?_)
           | (refine Or.inl ⟨_, u3, ?_⟩)
           | (refine ⟨_, u3, ?_⟩)
           | (refine cond_0 b3 ?_)
           | (refine Or.inl ⟨_, u4, ?_⟩)
           | (refine ⟨_, u4, ?_⟩)
           | (refine cond_1 b4 ?_)
           | (refine Or.inl ⟨_, n2, ?_⟩)
           | (refine ⟨_, n2, ?_⟩)
           | (refine ⟨⟨by decide +kernel, by decide +kernel, by decide +kernel⟩, ?_⟩)
           | (refine ⟨⟨by decide +kernel, by decide +kernel⟩, ?_⟩)
           | (refine ⟨z, ?_⟩)
           | (refine cond_f ?_ ?_)
           | (refine ⟨_, ⟨by decide, rfl⟩, ?_⟩)
           | (refine cond_i (fun h => ?_) (fun h => ?_)))
  all_goals (conv => whnf)
  all_goals rfl
variable (h4 : ¬ IntKind.i64.wrap (c.tdiv 60000000) < 100000000)
include h4
theorem renc_H (e : IntKind.i64.wrap (c.tdiv 3600000000) = q) : Fv Tryd.prog 48 [.int .i64 t] (.str (x ++ ⟨#[72]⟩)) := by
  have u1 : Fv Tryd.prog 77 [.int .u8 (byteAt (⟨#[117, 109, 83, 77, 72]⟩ : ByteArray) (Int.toNat 0))] (.int .i64 1) := ref02_Unit 117
  have b1 : decide (IntKind.i64.wrap (c.tdiv 1) < 100000000) = false := decide_eq_false h1
  have u2 : Fv Tryd.prog 77 [.int .u8 (byteAt (⟨#[117, 109, 83, 77, 72]⟩ : ByteArray) (Int.toNat (IntKind.i64.wrap (0 + 1))))] (.int .i64 1000) := ref02_Unit 109
  have b2 : decide (IntKind.i64.wrap (c.tdiv 1000) < 100000000) = false := decide_eq_false h2
  have u3 : Fv Tryd.prog 77 [.int .u8 (byteAt (⟨#[117, 109, 83, 77, 72]⟩ : ByteArray) (Int.toNat (IntKind.i64.wrap (IntKind.i64.wrap (0 + 1) + 1))))] (.int .i64 1000000) := ref02_Unit 83
  have b3 : decide (IntKind.i64.wrap (c.tdiv 1000000) < 100000000) = false := decide_eq_false h3
  have u4 : Fv Tryd.prog 77 [.int .u8 (byteAt (⟨#[117, 109, 83, 77, 72]⟩ : ByteArray) (Int.toNat (IntKind.i64.wrap (IntKind.i64.wrap (IntKind.i64.wrap (0 + 1) + 1) + 1))))] (.int .i64 60000000) := ref02_Unit 77
  have b4 : decide (IntKind.i64.wrap (c.tdiv 60000000) < 100000000) = false := decide_eq_false h4
  have u5 : Fv Tryd.prog 77 [.int .u8 72] (.int .i64 3600000000) := ref02_Unit 72
  subst e
  have z : ((x.size + (⟨#[72]⟩ : ByteArray).size : Nat) : Int) ≤ 9223372036854775807 := hz
  refine Fv.of_awp Tryd.func48 rfl (by kernel_rfl) rfl (Nat.le_of_ble_eq_true rfl) ?_
  repeat' (conv => whnf
           first
           | (refine And.intro (by kernel_rfl) ?_)
           | (refine And.intro ⟨by kernel_rfl, by kernel_rfl⟩ ?_)
           | (refine Or.inl ⟨_, n1, ?_⟩)
           | (refine ⟨_, n1, ?_⟩)
           | (refine cond_f ?_ ?_)
           | (refine ⟨_, ⟨by decide, rfl⟩, ?_⟩)
           | (refine cond_i (fun h => ?_) (fun h => ?_)))
  all_goals (conv => whnf)
  refine Has.ofN 5 ?_
  repeat' (conv => whnf
           first
           | (refine And.intro (by kernel_rfl) ?_)
           | (refine And.intro ⟨by kernel_rfl, by kernel_rfl⟩ ?_)
           | (refine Or.inl ⟨_, u1, ?_⟩)
           | (refine ⟨_, u1, ?_⟩)
           | (refine cond_0 b1 ?_)
           | (refine Or.inl ⟨_, u2, ?_⟩)
           | (refine ⟨_, u2, ?_⟩)
           | (refine cond_0 b2 ?_)
           | (refine Or.inl ⟨_, u3, ?_⟩)
           | (refine ⟨_, u3, ?_⟩)
           | (refine cond_0 b3 ?_)
           | (refine Or.inl ⟨_, u4, ?_⟩)
           | (refine ⟨_, u4, ?_⟩)
           | (refine cond_0 b4 ?_)
           | (refine Or.inl ⟨_, u5, ?_⟩)
           | (refine ⟨_, u5, ?_⟩)
           | (refine Or.inl ⟨_, n2, ?_⟩)
           | (refine ⟨_, n2, ?_⟩)
           | (refine ⟨⟨by decide +kernel, by decide +kernel⟩, ?_⟩)
           | (refine ⟨z, ?_⟩)
           | (refine cond_f ?_ ?_)
           | (refine ⟨_, ⟨by decide, rfl⟩, ?_⟩)
           | (refine cond_i (fun h => ?_) (fun h => ?_)))
  all_goals (conv => whnf)
  all_goals rfl
end
theorem ref02_Encode (t : Int) : Fv Tryd.prog 48 [.int .i64 t] (.str (enc t)) := by
  have hc := clamp_bd t
  have n1 := ref01_Clamp t
  have it : ∀ q : Int, 0 ≤ q ∧ q ≤ 1125899906842624 → Fv Tryd.prog 78 [.int .i64 q] (.str (strL (Lib.decDigits q.toNat))) := fun q hq => by
    have := ref02_Digits q.toNat (by omega)
    rw [Int.toNat_of_nonneg hq.1] at this
    exact this
  have sz : ∀ q : Int, 0 ≤ q ∧ q ≤ 1125899906842624 → (((strL (Lib.decDigits q.toNat)).size + 1 : Nat) : Int) ≤ 9223372036854775807 := fun q hq => by
    rw [strL_size]; have := dec_len q.toNat; omega
  obtain ⟨a1, a2, a3⟩ := qq (k := 1) hc (by omega)
  obtain ⟨m1, m2, m3⟩ := qq (k := 1000) hc (by omega)
  obtain ⟨s1, s2, s3⟩ := qq (k := 1000000) hc (by omega)
  obtain ⟨M1, M2, M3⟩ := qq (k := 60000000) hc (by omega)
  obtain ⟨H1, H2, H3⟩ := qq (k := 3600000000) hc (by omega)
  rw [Int.ediv_one] at a1
  unfold enc
  split
  · rename_i h
    rw [txt_app]
    exact renc_u t _ n1 _ _ (it _ hc) (sz _ hc) a1 (by omega)
  · rename_i h
    have h1 : ¬ IntKind.i64.wrap ((clamp t).tdiv 1) < 100000000 := by rw [a1]; omega
    split
    · rename_i h
      rw [txt_app]
      exact renc_m t _ n1 _ _ (it _ ⟨m2, m3⟩) (sz _ ⟨m2, m3⟩) h1 m1 (by omega)
    · rename_i h
      have h2 : ¬ IntKind.i64.wrap ((clamp t).tdiv 1000) < 100000000 := by rw [m1]; omega
      split
      · rename_i h
        rw [txt_app]
        exact renc_s t _ n1 _ _ (it _ ⟨s2, s3⟩) (sz _ ⟨s2, s3⟩) h1 h2 s1 (by omega)
      · rename_i h
        have h3 : ¬ IntKind.i64.wrap ((clamp t).tdiv 1000000) < 100000000 := by rw [s1]; omega
        split
        · rename_i h
          rw [txt_app]
          exact renc_M t _ n1 _ _ (it _ ⟨M2, M3⟩) (sz _ ⟨M2, M3⟩) h1 h2 h3 M1 (by omega)
        · rename_i h
          have h4 : ¬ IntKind.i64.wrap ((clamp t).tdiv 60000000) < 100000000 := by rw [M1]; omega
          rw [txt_app]
          exact renc_H t _ n1 _ _ (it _ ⟨H2, H3⟩) (sz _ ⟨H2, H3⟩) h1 h2 h3 h4 H1
end Go.Proofs.YtfacmphjplablaaDoor.Cn
namespace Go.Proofs.YtfacmphjplablaaDoor.Cn
open Go Go.Proofs Go.Proofs.YtfacmphjplablaaDoor.Av Go.Proofs.YtfacmphjplablaaDoor.Sp
set_option linter.unusedVariables false
set_option linter.unusedSimpArgs false
set_option linter.unusedSectionVars false
set_option maxRecDepth 100000
attribute [local irreducible] Fv Fp

theorem budget_Hop (d n : Int) : Fv Tryd.prog 43 [.int .i64 d, .int .i64 n] (.str (enc (sub d n))) := by
  refine Fv.of_awp Tryd.func43 rfl (by kernel_rfl) rfl (Nat.le_of_ble_eq_true rfl) ?_
  repeat' (conv => whnf
           first
           | (refine And.intro (by kernel_rfl) ?_)
           | (refine And.intro ⟨by kernel_rfl, by kernel_rfl⟩ ?_)
           | (refine Or.inl ⟨_, budget_Left d n, ?_⟩)
           | (refine ⟨_, budget_Left d n, ?_⟩)
           | (refine Or.inl ⟨_, timeout_Encode (sub d n), ?_⟩)
           | (refine ⟨_, timeout_Encode (sub d n), ?_⟩)
           | (refine cond_f ?_ ?_)
           | (refine ⟨_, ⟨by decide, rfl⟩, ?_⟩)
           | (refine cond_i (fun h => ?_) (fun h => ?_)))
  all_goals (conv => whnf)
  all_goals rfl
theorem law26_theirs (c : Sp.Call) : Fv Tryd.prog 14 [.agg c.g] (.agg c.g) := by
  refine Fv.of_awp Tryd.func14 rfl (by kernel_rfl) rfl (Nat.le_of_ble_eq_true rfl) ?_
  repeat' (conv => whnf
           first
           | (refine And.intro (by kernel_rfl) ?_)
           | (refine And.intro ⟨by kernel_rfl, by kernel_rfl⟩ ?_)
           | (refine cond_f ?_ ?_)
           | (refine ⟨_, ⟨by decide, rfl⟩, ?_⟩)
           | (refine cond_i (fun h => ?_) (fun h => ?_)))
  all_goals (conv => whnf)
  all_goals rfl
section
variable (c : Config) (me : Int) (o : Owner) (x b : Sp.Call) (now n u : Int) (e : ByteArray)
  (n1 : Fv Tryd.prog 38 [.agg x.g, .int .i64 now] (.agg b.g)) (r1 : Fv Tryd.prog 44 [.agg x.g, .int .i64 now] (.agg b.g))
include n1 r1
theorem send_same (h : b = x) : Fv Tryd.prog 10 [.agg c.g, .int .i64 me, .agg o.g, .agg x.g, .int .i64 now] (.tup [.agg x.g, .agg zP.g]) ∧ Fv Tryd.prog 13 [.agg c.g, .int .i64 me, .agg o.g, .agg x.g, .int .i64 now] (.tup [.agg x.g, .agg zP.g]) := by
  have hb := (call_eqB b x).trans (decide_eq_true h)
  constructor
  · refine Fv.of_awp Tryd.func10 rfl (by kernel_rfl) rfl (Nat.le_of_ble_eq_true rfl) ?_
    repeat' (conv => whnf
             first
             | (refine And.intro (by kernel_rfl) ?_)
             | (refine And.intro ⟨by kernel_rfl, by kernel_rfl⟩ ?_)
             | (refine Or.inl ⟨_, n1, ?_⟩)
             | (refine ⟨_, n1, ?_⟩)
             | (refine cond_1 hb ?_)
             | (refine cond_f ?_ ?_)
             | (refine ⟨_, ⟨by decide, rfl⟩, ?_⟩)
             | (refine cond_i (fun h => ?_) (fun h => ?_)))
    all_goals (conv => whnf)
    all_goals rfl
  · refine Fv.of_awp Tryd.func13 rfl (by kernel_rfl) rfl (Nat.le_of_ble_eq_true rfl) ?_
    repeat' (conv => whnf
             first
             | (refine And.intro (by kernel_rfl) ?_)
             | (refine And.intro ⟨by kernel_rfl, by kernel_rfl⟩ ?_)
             | (refine Or.inl ⟨_, r1, ?_⟩)
             | (refine ⟨_, r1, ?_⟩)
             | (refine cond_1 hb ?_)
             | (refine cond_f ?_ ?_)
             | (refine ⟨_, ⟨by decide, rfl⟩, ?_⟩)
             | (refine cond_i (fun h => ?_) (fun h => ?_)))
    all_goals (conv => whnf)
    all_goals rfl
variable (h : ¬ b = x)
include h
theorem send_hops (y : Sp.Call) (h2 : o.hop ≥ c.hops) (n2 : Fv Tryd.prog 39 [.agg x.g, .int .i64 8] (.agg y.g)) (r2 : Fv Tryd.prog 45 [.agg x.g, .int .i64 8] (.agg y.g)) :
    Fv Tryd.prog 10 [.agg c.g, .int .i64 me, .agg o.g, .agg x.g, .int .i64 now] (.tup [.agg y.g, .agg zP.g]) ∧ Fv Tryd.prog 13 [.agg c.g, .int .i64 me, .agg o.g, .agg x.g, .int .i64 now] (.tup [.agg y.g, .agg zP.g]) := by
  have hb := (call_eqB b x).trans (decide_eq_false h)
  have b2 : decide (o.hop ≥ c.hops) = true := decide_eq_true h2
  constructor
  · refine Fv.of_awp Tryd.func10 rfl (by kernel_rfl) rfl (Nat.le_of_ble_eq_true rfl) ?_
    repeat' (conv => whnf
             first
             | (refine And.intro (by kernel_rfl) ?_)
             | (refine And.intro ⟨by kernel_rfl, by kernel_rfl⟩ ?_)
             | (refine Or.inl ⟨_, n1, ?_⟩)
             | (refine ⟨_, n1, ?_⟩)
             | (refine cond_0 hb ?_)
             | (refine cond_1 b2 ?_)
             | (refine Or.inl ⟨_, n2, ?_⟩)
             | (refine ⟨_, n2, ?_⟩)
             | (refine cond_f ?_ ?_)
             | (refine ⟨_, ⟨by decide, rfl⟩, ?_⟩)
             | (refine cond_i (fun h => ?_) (fun h => ?_)))
    all_goals (conv => whnf)
    all_goals rfl
  · refine Fv.of_awp Tryd.func13 rfl (by kernel_rfl) rfl (Nat.le_of_ble_eq_true rfl) ?_
    repeat' (conv => whnf
             first
             | (refine And.intro (by kernel_rfl) ?_)
             | (refine And.intro ⟨by kernel_rfl, by kernel_rfl⟩ ?_)
             | (refine Or.inl ⟨_, r1, ?_⟩)
             | (refine ⟨_, r1, ?_⟩)
             | (refine cond_0 hb ?_)
             | (refine cond_1 b2 ?_)
             | (refine Or.inl ⟨_, r2, ?_⟩)
             | (refine ⟨_, r2, ?_⟩)
             | (refine cond_f ?_ ?_)
             | (refine ⟨_, ⟨by decide, rfl⟩, ?_⟩)
             | (refine cond_i (fun h => ?_) (fun h => ?_)))
    all_goals (conv => whnf)
    all_goals rfl
variable (h2 : ¬ o.hop ≥ c.hops)
include h2
theorem send_late (y : Sp.Call) (n3 : Fv Tryd.prog 40 [.int .i64 o.deadline, .int .i64 now, .int .i64 c.least] (.bool false)) (r3 : Fv Tryd.prog 46 [.int .i64 o.deadline, .int .i64 now, .int .i64 c.least] (.bool false))
    (n2 : Fv Tryd.prog 39 [.agg x.g, .int .i64 4] (.agg y.g)) (r2 : Fv Tryd.prog 45 [.agg x.g, .int .i64 4] (.agg y.g)) :
    Fv Tryd.prog 10 [.agg c.g, .int .i64 me, .agg o.g, .agg x.g, .int .i64 now] (.tup [.agg y.g, .agg zP.g]) ∧ Fv Tryd.prog 13 [.agg c.g, .int .i64 me, .agg o.g, .agg x.g, .int .i64 now] (.tup [.agg y.g, .agg zP.g]) := by
  have hb := (call_eqB b x).trans (decide_eq_false h)
  have b2 : decide (o.hop ≥ c.hops) = false := decide_eq_false h2
  constructor
  · refine Fv.of_awp Tryd.func10 rfl (by kernel_rfl) rfl (Nat.le_of_ble_eq_true rfl) ?_
    repeat' (conv => whnf
             first
             | (refine And.intro (by kernel_rfl) ?_)
             | (refine And.intro ⟨by kernel_rfl, by kernel_rfl⟩ ?_)
             | (refine Or.inl ⟨_, n1, ?_⟩)
             | (refine ⟨_, n1, ?_⟩)
             | (refine cond_0 hb ?_)
             | (refine cond_0 b2 ?_)
             | (refine Or.inl ⟨_, n3, ?_⟩)
             | (refine ⟨_, n3, ?_⟩)
             | (refine Or.inl ⟨_, n2, ?_⟩)
             | (refine ⟨_, n2, ?_⟩)
             | (refine cond_f ?_ ?_)
             | (refine ⟨_, ⟨by decide, rfl⟩, ?_⟩)
             | (refine cond_i (fun h => ?_) (fun h => ?_)))
    all_goals (conv => whnf)
    all_goals rfl
  · refine Fv.of_awp Tryd.func13 rfl (by kernel_rfl) rfl (Nat.le_of_ble_eq_true rfl) ?_
    repeat' (conv => whnf
             first
             | (refine And.intro (by kernel_rfl) ?_)
             | (refine And.intro ⟨by kernel_rfl, by kernel_rfl⟩ ?_)
             | (refine Or.inl ⟨_, r1, ?_⟩)
             | (refine ⟨_, r1, ?_⟩)
             | (refine cond_0 hb ?_)
             | (refine cond_0 b2 ?_)
             | (refine Or.inl ⟨_, r3, ?_⟩)
             | (refine ⟨_, r3, ?_⟩)
             | (refine Or.inl ⟨_, r2, ?_⟩)
             | (refine ⟨_, r2, ?_⟩)
             | (refine cond_f ?_ ?_)
             | (refine ⟨_, ⟨by decide, rfl⟩, ?_⟩)
             | (refine cond_i (fun h => ?_) (fun h => ?_)))
    all_goals (conv => whnf)
    all_goals rfl
set_option maxHeartbeats 4000000 in
theorem send_call (l : Int) (n3 : Fv Tryd.prog 40 [.int .i64 o.deadline, .int .i64 now, .int .i64 c.least] (.bool true)) (r3 : Fv Tryd.prog 46 [.int .i64 o.deadline, .int .i64 now, .int .i64 c.least] (.bool true))
    (n4 : Fv Tryd.prog 42 [.int .i64 now] (.int .i64 n)) (r4 : Fv Tryd.prog 16 [.int .i64 now] (.int .i64 n)) (n5 : Fv Tryd.prog 42 [.int .i64 o.until] (.int .i64 u)) (r5 : Fv Tryd.prog 16 [.int .i64 o.until] (.int .i64 u))
    (n6 : Fv Tryd.prog 43 [.int .i64 o.deadline, .int .i64 now] (.str e)) (r6 : Fv Tryd.prog 30 [.int .i64 o.deadline, .int .i64 now] (.int .i64 l)) (r7 : Fv Tryd.prog 48 [.int .i64 l] (.str e)) :
    Fv Tryd.prog 10 [.agg c.g, .int .i64 me, .agg o.g, .agg x.g, .int .i64 now] (.tup [.agg b.g, .agg (callP me o x b n u e).g]) ∧ Fv Tryd.prog 13 [.agg c.g, .int .i64 me, .agg o.g, .agg x.g, .int .i64 now] (.tup [.agg b.g, .agg (callP me o x b n u e).g]) := by
  have hb := (call_eqB b x).trans (decide_eq_false h)
  have b2 : decide (o.hop ≥ c.hops) = false := decide_eq_false h2
  have n8 := call_Key b
  have r8 := ref21_Key b
  constructor
  · refine Fv.of_awp Tryd.func10 rfl (by kernel_rfl) rfl (Nat.le_of_ble_eq_true rfl) ?_
    repeat' (conv => whnf
             first
             | (refine And.intro (by kernel_rfl) ?_)
             | (refine And.intro ⟨by kernel_rfl, by kernel_rfl⟩ ?_)
             | (refine Or.inl ⟨_, n1, ?_⟩)
             | (refine ⟨_, n1, ?_⟩)
             | (refine cond_0 hb ?_)
             | (refine cond_0 b2 ?_)
             | (refine Or.inl ⟨_, n3, ?_⟩)
             | (refine ⟨_, n3, ?_⟩)
             | (refine Or.inl ⟨_, n8, ?_⟩)
             | (refine ⟨_, n8, ?_⟩)
             | (refine Or.inl ⟨_, n4, ?_⟩)
             | (refine ⟨_, n4, ?_⟩)
             | (refine Or.inl ⟨_, n5, ?_⟩)
             | (refine ⟨_, n5, ?_⟩)
             | (refine Or.inl ⟨_, n6, ?_⟩)
             | (refine ⟨_, n6, ?_⟩)
             | (refine cond_f ?_ ?_)
             | (refine ⟨_, ⟨by decide, rfl⟩, ?_⟩)
             | (refine cond_i (fun h => ?_) (fun h => ?_)))
    all_goals (conv => whnf)
    all_goals rfl
  · refine Fv.of_awp Tryd.func13 rfl (by kernel_rfl) rfl (Nat.le_of_ble_eq_true rfl) ?_
    repeat' (conv => whnf
             first
             | (refine And.intro (by kernel_rfl) ?_)
             | (refine And.intro ⟨by kernel_rfl, by kernel_rfl⟩ ?_)
             | (refine Or.inl ⟨_, r1, ?_⟩)
             | (refine ⟨_, r1, ?_⟩)
             | (refine cond_0 hb ?_)
             | (refine cond_0 b2 ?_)
             | (refine Or.inl ⟨_, r3, ?_⟩)
             | (refine ⟨_, r3, ?_⟩)
             | (refine Or.inl ⟨_, r8, ?_⟩)
             | (refine ⟨_, r8, ?_⟩)
             | (refine Or.inl ⟨_, r4, ?_⟩)
             | (refine ⟨_, r4, ?_⟩)
             | (refine Or.inl ⟨_, r5, ?_⟩)
             | (refine ⟨_, r5, ?_⟩)
             | (refine Or.inl ⟨_, r6, ?_⟩)
             | (refine ⟨_, r6, ?_⟩)
             | (refine Or.inl ⟨_, r7, ?_⟩)
             | (refine ⟨_, r7, ?_⟩)
             | (refine cond_f ?_ ?_)
             | (refine ⟨_, ⟨by decide, rfl⟩, ?_⟩)
             | (refine cond_i (fun h => ?_) (fun h => ?_)))
    all_goals (conv => whnf)
    all_goals rfl
end
theorem sender_Send (c : Config) (me : Int) (o : Owner) (x : Sp.Call) (now : Int) : Fv Tryd.prog 10 [.agg c.g, .int .i64 me, .agg o.g, .agg x.g, .int .i64 now] (.tup [.agg (sendF c me o x now).1.g, .agg (sendF c me o x now).2.g]) ∧ Fv Tryd.prog 13 [.agg c.g, .int .i64 me, .agg o.g, .agg x.g, .int .i64 now] (.tup [.agg (sendF c me o x now).1.g, .agg (sendF c me o x now).2.g]) := by
  have n1 := call_Begin x now
  have r1 := ref21_Begin x now
  unfold sendF
  by_cases h1 : cBegin x now = x
  · rw [if_pos h1]; exact send_same c me o x _ now n1 r1 h1
  rw [if_neg h1]
  by_cases h2 : o.hop ≥ c.hops
  · rw [if_pos h2]; exact send_hops c me o x _ now n1 r1 h1 _ h2 (call_Ends x 8) (ref21_Ends x 8)
  rw [if_neg h2]
  have n3 := budget_Enough o.deadline now c.least
  have r3 := ref14_Enough o.deadline now c.least
  by_cases h3 : enough o.deadline now c.least = false
  · rw [if_pos h3]; rw [h3] at n3 r3; exact send_late c me o x _ now n1 r1 h1 h2 _ n3 r3 (call_Ends x 4) (ref21_Ends x 4)
  rw [if_neg h3]
  rw [Bool.not_eq_false] at h3
  rw [h3] at n3 r3
  exact send_call c me o x _ now _ _ _ n1 r1 h1 h2 _ n3 r3 (ticks_Clamp now) (ref01_Clamp now) (ticks_Clamp o.until) (ref01_Clamp o.until) (budget_Hop o.deadline now) (ref01_Sub o.deadline now) (ref02_Encode _)

section
variable (o : Owner) (now k w s d t : Int)
  (p1 : Fv Tryd.prog 49 [.agg o.g] (.bool (o.key.att == 0)))
  (p2 : Fv Tryd.prog 50 [.agg o.g] (.int .i64 k)) (r2 : Fv Tryd.prog 17 [.agg o.g] (.int .i64 k))
  (p3 : Fv Tryd.prog 51 [.agg o.g] (.int .i64 w)) (r3 : Fv Tryd.prog 54 [.agg o.g] (.int .i64 w))
  (p4 : Fv Tryd.prog 52 [.agg o.g, .int .i64 0] (.int .i64 s)) (r4 : Fv Tryd.prog 55 [.agg o.g, .int .i64 0] (.int .i64 s))
  (p5 : Fv Tryd.prog 42 [.int .i64 now] (.int .i64 t)) (r5 : Fv Tryd.prog 16 [.int .i64 now] (.int .i64 t))
  (p6 : Fv Tryd.prog 42 [.int .i64 o.deadline] (.int .i64 d)) (r6 : Fv Tryd.prog 16 [.int .i64 o.deadline] (.int .i64 d))
include p1 p2 r2 p3 r3 p4 r4 p5 r5 p6 r6
theorem settled_A (ha : o.key.att ≠ 0) : Fv Tryd.prog 15 [.agg o.g, .int .i64 now] (.tup [.int .i64 0, .int .i64 0, .bool false]) ∧ Fv Tryd.prog 24 [.agg o.g, .int .i64 now] (.tup [.int .i64 0, .int .i64 0, .bool false]) := by
  have a0 : (o.key.att == 0) = false := beq_eq_false_iff_ne.2 ha
  have a1 : (!(o.key.att == 0)) = true := by rw [a0]; rfl
  constructor
  · refine Fv.of_awp Tryd.func15 rfl (by kernel_rfl) rfl (Nat.le_of_ble_eq_true rfl) ?_
    repeat' (conv => whnf
             first
             | (refine And.intro (by kernel_rfl) ?_)
             | (refine And.intro ⟨by kernel_rfl, by kernel_rfl⟩ ?_)
             | (refine Or.inl ⟨_, p1, ?_⟩)
             | (refine ⟨_, p1, ?_⟩)
             | (refine cond_1 a1 ?_)
             | (refine cond_0 a0 ?_)
             | (refine cond_f ?_ ?_)
             | (refine ⟨_, ⟨by decide, rfl⟩, ?_⟩)
             | (refine cond_i (fun h => ?_) (fun h => ?_)))
    all_goals (conv => whnf)
    all_goals rfl
  · refine Fv.of_awp Tryd.func24 rfl (by kernel_rfl) rfl (Nat.le_of_ble_eq_true rfl) ?_
    repeat' (conv => whnf
             first
             | (refine And.intro (by kernel_rfl) ?_)
             | (refine And.intro ⟨by kernel_rfl, by kernel_rfl⟩ ?_)
             | (refine cond_1 a1 ?_)
             | (refine cond_0 a0 ?_)
             | (refine cond_f ?_ ?_)
             | (refine ⟨_, ⟨by decide, rfl⟩, ?_⟩)
             | (refine cond_i (fun h => ?_) (fun h => ?_)))
    all_goals (conv => whnf)
    all_goals rfl
theorem settled_B (ha : o.key.att = 0) (hz : o.calls.length = 0) : Fv Tryd.prog 15 [.agg o.g, .int .i64 now] (.tup [.int .i64 0, .int .i64 0, .bool false]) ∧ Fv Tryd.prog 24 [.agg o.g, .int .i64 now] (.tup [.int .i64 0, .int .i64 0, .bool false]) := by
  have a0 : (o.key.att == 0) = true := beq_iff_eq.2 ha
  have a1 : (!(o.key.att == 0)) = false := by rw [a0]; rfl
  have z : (((o.calls.map Call.g).length : Int) == 0) = true := beq_iff_eq.2 (by rw [List.length_map]; omega)
  constructor
  · refine Fv.of_awp Tryd.func15 rfl (by kernel_rfl) rfl (Nat.le_of_ble_eq_true rfl) ?_
    repeat' (conv => whnf
             first
             | (refine And.intro (by kernel_rfl) ?_)
             | (refine And.intro ⟨by kernel_rfl, by kernel_rfl⟩ ?_)
             | (refine Or.inl ⟨_, p1, ?_⟩)
             | (refine ⟨_, p1, ?_⟩)
             | (refine cond_0 a1 ?_)
             | (refine cond_1 a0 ?_)
             | (refine cond_1 z ?_)
             | (refine cond_f ?_ ?_)
             | (refine ⟨_, ⟨by decide, rfl⟩, ?_⟩)
             | (refine cond_i (fun h => ?_) (fun h => ?_)))
    all_goals (conv => whnf)
    all_goals rfl
  · refine Fv.of_awp Tryd.func24 rfl (by kernel_rfl) rfl (Nat.le_of_ble_eq_true rfl) ?_
    repeat' (conv => whnf
             first
             | (refine And.intro (by kernel_rfl) ?_)
             | (refine And.intro ⟨by kernel_rfl, by kernel_rfl⟩ ?_)
             | (refine cond_0 a1 ?_)
             | (refine cond_1 a0 ?_)
             | (refine cond_1 z ?_)
             | (refine cond_f ?_ ?_)
             | (refine ⟨_, ⟨by decide, rfl⟩, ?_⟩)
             | (refine cond_i (fun h => ?_) (fun h => ?_)))
    all_goals (conv => whnf)
    all_goals rfl
theorem settled_C (ha : o.key.att = 0) (hz : o.calls.length ≠ 0) (hk : 0 < k) : Fv Tryd.prog 15 [.agg o.g, .int .i64 now] (.tup [.int .i64 0, .int .i64 0, .bool false]) ∧ Fv Tryd.prog 24 [.agg o.g, .int .i64 now] (.tup [.int .i64 0, .int .i64 0, .bool false]) := by
  have a0 : (o.key.att == 0) = true := beq_iff_eq.2 ha
  have a1 : (!(o.key.att == 0)) = false := by rw [a0]; rfl
  have z : (((o.calls.map Call.g).length : Int) == 0) = false := beq_eq_false_iff_ne.2 (by rw [List.length_map]; omega)
  have k1 : decide (k > 0) = true := decide_eq_true hk
  have k2 : (k == 0) = false := beq_eq_false_iff_ne.2 (by omega)
  have k3 : (!(k == 0)) = true := by rw [k2]; rfl
  constructor
  · refine Fv.of_awp Tryd.func15 rfl (by kernel_rfl) rfl (Nat.le_of_ble_eq_true rfl) ?_
    repeat' (conv => whnf
             first
             | (refine And.intro (by kernel_rfl) ?_)
             | (refine And.intro ⟨by kernel_rfl, by kernel_rfl⟩ ?_)
             | (refine Or.inl ⟨_, p1, ?_⟩)
             | (refine ⟨_, p1, ?_⟩)
             | (refine cond_0 a1 ?_)
             | (refine cond_1 a0 ?_)
             | (refine cond_0 z ?_)
             | (refine Or.inl ⟨_, p2, ?_⟩)
             | (refine ⟨_, p2, ?_⟩)
             | (refine cond_1 k1 ?_)
             | (refine cond_f ?_ ?_)
             | (refine ⟨_, ⟨by decide, rfl⟩, ?_⟩)
             | (refine cond_i (fun h => ?_) (fun h => ?_)))
    all_goals (conv => whnf)
    all_goals rfl
  · refine Fv.of_awp Tryd.func24 rfl (by kernel_rfl) rfl (Nat.le_of_ble_eq_true rfl) ?_
    repeat' (conv => whnf
             first
             | (refine And.intro (by kernel_rfl) ?_)
             | (refine And.intro ⟨by kernel_rfl, by kernel_rfl⟩ ?_)
             | (refine cond_0 a1 ?_)
             | (refine cond_1 a0 ?_)
             | (refine cond_0 z ?_)
             | (refine Or.inl ⟨_, r2, ?_⟩)
             | (refine ⟨_, r2, ?_⟩)
             | (refine cond_1 k3 ?_)
             | (refine cond_0 k2 ?_)
             | (refine cond_f ?_ ?_)
             | (refine ⟨_, ⟨by decide, rfl⟩, ?_⟩)
             | (refine cond_i (fun h => ?_) (fun h => ?_)))
    all_goals (conv => whnf)
    all_goals rfl
theorem settled_D (ha : o.key.att = 0) (hz : o.calls.length ≠ 0) (hk : k = 0) (hw : w = 0) : Fv Tryd.prog 15 [.agg o.g, .int .i64 now] (.tup [.int .i64 0, .int .i64 s, .bool true]) ∧ Fv Tryd.prog 24 [.agg o.g, .int .i64 now] (.tup [.int .i64 0, .int .i64 s, .bool true]) := by
  subst hw
  have a0 : (o.key.att == 0) = true := beq_iff_eq.2 ha
  have a1 : (!(o.key.att == 0)) = false := by rw [a0]; rfl
  have z : (((o.calls.map Call.g).length : Int) == 0) = false := beq_eq_false_iff_ne.2 (by rw [List.length_map]; omega)
  have k1 : decide (k > 0) = false := decide_eq_false (by omega)
  have k2 : (k == 0) = true := beq_iff_eq.2 (by omega)
  have k3 : (!(k == 0)) = false := by rw [k2]; rfl
  constructor
  · refine Fv.of_awp Tryd.func15 rfl (by kernel_rfl) rfl (Nat.le_of_ble_eq_true rfl) ?_
    repeat' (conv => whnf
             first
             | (refine And.intro (by kernel_rfl) ?_)
             | (refine And.intro ⟨by kernel_rfl, by kernel_rfl⟩ ?_)
             | (refine Or.inl ⟨_, p1, ?_⟩)
             | (refine ⟨_, p1, ?_⟩)
             | (refine cond_0 a1 ?_)
             | (refine cond_1 a0 ?_)
             | (refine cond_0 z ?_)
             | (refine Or.inl ⟨_, p2, ?_⟩)
             | (refine ⟨_, p2, ?_⟩)
             | (refine cond_0 k1 ?_)
             | (refine Or.inl ⟨_, p3, ?_⟩)
             | (refine ⟨_, p3, ?_⟩)
             | (refine Or.inl ⟨_, p4, ?_⟩)
             | (refine ⟨_, p4, ?_⟩)
             | (refine cond_f ?_ ?_)
             | (refine ⟨_, ⟨by decide, rfl⟩, ?_⟩)
             | (refine cond_i (fun h => ?_) (fun h => ?_)))
    all_goals (conv => whnf)
    all_goals rfl
  · refine Fv.of_awp Tryd.func24 rfl (by kernel_rfl) rfl (Nat.le_of_ble_eq_true rfl) ?_
    repeat' (conv => whnf
             first
             | (refine And.intro (by kernel_rfl) ?_)
             | (refine And.intro ⟨by kernel_rfl, by kernel_rfl⟩ ?_)
             | (refine cond_0 a1 ?_)
             | (refine cond_1 a0 ?_)
             | (refine cond_0 z ?_)
             | (refine Or.inl ⟨_, r2, ?_⟩)
             | (refine ⟨_, r2, ?_⟩)
             | (refine cond_0 k3 ?_)
             | (refine cond_1 k2 ?_)
             | (refine Or.inl ⟨_, r3, ?_⟩)
             | (refine ⟨_, r3, ?_⟩)
             | (refine Or.inl ⟨_, r4, ?_⟩)
             | (refine ⟨_, r4, ?_⟩)
             | (refine cond_f ?_ ?_)
             | (refine ⟨_, ⟨by decide, rfl⟩, ?_⟩)
             | (refine cond_i (fun h => ?_) (fun h => ?_)))
    all_goals (conv => whnf)
    all_goals rfl
theorem settled_E (ha : o.key.att = 0) (hz : o.calls.length ≠ 0) (hk : k = 0) (hw : w = 4) (ht : t < d) : Fv Tryd.prog 15 [.agg o.g, .int .i64 now] (.tup [.int .i64 0, .int .i64 0, .bool false]) ∧ Fv Tryd.prog 24 [.agg o.g, .int .i64 now] (.tup [.int .i64 0, .int .i64 0, .bool false]) := by
  subst hw
  have a0 : (o.key.att == 0) = true := beq_iff_eq.2 ha
  have a1 : (!(o.key.att == 0)) = false := by rw [a0]; rfl
  have z : (((o.calls.map Call.g).length : Int) == 0) = false := beq_eq_false_iff_ne.2 (by rw [List.length_map]; omega)
  have k1 : decide (k > 0) = false := decide_eq_false (by omega)
  have k2 : (k == 0) = true := beq_iff_eq.2 (by omega)
  have k3 : (!(k == 0)) = false := by rw [k2]; rfl
  have c1 : decide (t < d) = true := decide_eq_true ht
  have c2 : decide (d > t) = true := decide_eq_true ht
  constructor
  · refine Fv.of_awp Tryd.func15 rfl (by kernel_rfl) rfl (Nat.le_of_ble_eq_true rfl) ?_
    repeat' (conv => whnf
             first
             | (refine And.intro (by kernel_rfl) ?_)
             | (refine And.intro ⟨by kernel_rfl, by kernel_rfl⟩ ?_)
             | (refine Or.inl ⟨_, p1, ?_⟩)
             | (refine ⟨_, p1, ?_⟩)
             | (refine cond_0 a1 ?_)
             | (refine cond_1 a0 ?_)
             | (refine cond_0 z ?_)
             | (refine Or.inl ⟨_, p2, ?_⟩)
             | (refine ⟨_, p2, ?_⟩)
             | (refine cond_0 k1 ?_)
             | (refine Or.inl ⟨_, p3, ?_⟩)
             | (refine ⟨_, p3, ?_⟩)
             | (refine Or.inl ⟨_, p5, ?_⟩)
             | (refine ⟨_, p5, ?_⟩)
             | (refine Or.inl ⟨_, p6, ?_⟩)
             | (refine ⟨_, p6, ?_⟩)
             | (refine cond_1 c1 ?_)
             | (refine cond_f ?_ ?_)
             | (refine ⟨_, ⟨by decide, rfl⟩, ?_⟩)
             | (refine cond_i (fun h => ?_) (fun h => ?_)))
    all_goals (conv => whnf)
    all_goals rfl
  · refine Fv.of_awp Tryd.func24 rfl (by kernel_rfl) rfl (Nat.le_of_ble_eq_true rfl) ?_
    repeat' (conv => whnf
             first
             | (refine And.intro (by kernel_rfl) ?_)
             | (refine And.intro ⟨by kernel_rfl, by kernel_rfl⟩ ?_)
             | (refine cond_0 a1 ?_)
             | (refine cond_1 a0 ?_)
             | (refine cond_0 z ?_)
             | (refine Or.inl ⟨_, r2, ?_⟩)
             | (refine ⟨_, r2, ?_⟩)
             | (refine cond_0 k3 ?_)
             | (refine cond_1 k2 ?_)
             | (refine Or.inl ⟨_, r3, ?_⟩)
             | (refine ⟨_, r3, ?_⟩)
             | (refine Or.inl ⟨_, r6, ?_⟩)
             | (refine ⟨_, r6, ?_⟩)
             | (refine Or.inl ⟨_, r5, ?_⟩)
             | (refine ⟨_, r5, ?_⟩)
             | (refine cond_1 c2 ?_)
             | (refine cond_f ?_ ?_)
             | (refine ⟨_, ⟨by decide, rfl⟩, ?_⟩)
             | (refine cond_i (fun h => ?_) (fun h => ?_)))
    all_goals (conv => whnf)
    all_goals rfl
theorem settled_F (ha : o.key.att = 0) (hz : o.calls.length ≠ 0) (hk : k = 0) (hw : w = 4) (ht : ¬ t < d) : Fv Tryd.prog 15 [.agg o.g, .int .i64 now] (.tup [.int .i64 4, .int .i64 0, .bool true]) ∧ Fv Tryd.prog 24 [.agg o.g, .int .i64 now] (.tup [.int .i64 4, .int .i64 0, .bool true]) := by
  subst hw
  have a0 : (o.key.att == 0) = true := beq_iff_eq.2 ha
  have a1 : (!(o.key.att == 0)) = false := by rw [a0]; rfl
  have z : (((o.calls.map Call.g).length : Int) == 0) = false := beq_eq_false_iff_ne.2 (by rw [List.length_map]; omega)
  have k1 : decide (k > 0) = false := decide_eq_false (by omega)
  have k2 : (k == 0) = true := beq_iff_eq.2 (by omega)
  have k3 : (!(k == 0)) = false := by rw [k2]; rfl
  have c1 : decide (t < d) = false := decide_eq_false ht
  have c2 : decide (d > t) = false := decide_eq_false ht
  constructor
  · refine Fv.of_awp Tryd.func15 rfl (by kernel_rfl) rfl (Nat.le_of_ble_eq_true rfl) ?_
    repeat' (conv => whnf
             first
             | (refine And.intro (by kernel_rfl) ?_)
             | (refine And.intro ⟨by kernel_rfl, by kernel_rfl⟩ ?_)
             | (refine Or.inl ⟨_, p1, ?_⟩)
             | (refine ⟨_, p1, ?_⟩)
             | (refine cond_0 a1 ?_)
             | (refine cond_1 a0 ?_)
             | (refine cond_0 z ?_)
             | (refine Or.inl ⟨_, p2, ?_⟩)
             | (refine ⟨_, p2, ?_⟩)
             | (refine cond_0 k1 ?_)
             | (refine Or.inl ⟨_, p3, ?_⟩)
             | (refine ⟨_, p3, ?_⟩)
             | (refine Or.inl ⟨_, p5, ?_⟩)
             | (refine ⟨_, p5, ?_⟩)
             | (refine Or.inl ⟨_, p6, ?_⟩)
             | (refine ⟨_, p6, ?_⟩)
             | (refine cond_0 c1 ?_)
             | (refine cond_f ?_ ?_)
             | (refine ⟨_, ⟨by decide, rfl⟩, ?_⟩)
             | (refine cond_i (fun h => ?_) (fun h => ?_)))
    all_goals (conv => whnf)
    all_goals rfl
  · refine Fv.of_awp Tryd.func24 rfl (by kernel_rfl) rfl (Nat.le_of_ble_eq_true rfl) ?_
    repeat' (conv => whnf
             first
             | (refine And.intro (by kernel_rfl) ?_)
             | (refine And.intro ⟨by kernel_rfl, by kernel_rfl⟩ ?_)
             | (refine cond_0 a1 ?_)
             | (refine cond_1 a0 ?_)
             | (refine cond_0 z ?_)
             | (refine Or.inl ⟨_, r2, ?_⟩)
             | (refine ⟨_, r2, ?_⟩)
             | (refine cond_0 k3 ?_)
             | (refine cond_1 k2 ?_)
             | (refine Or.inl ⟨_, r3, ?_⟩)
             | (refine ⟨_, r3, ?_⟩)
             | (refine Or.inl ⟨_, r6, ?_⟩)
             | (refine ⟨_, r6, ?_⟩)
             | (refine Or.inl ⟨_, r5, ?_⟩)
             | (refine ⟨_, r5, ?_⟩)
             | (refine cond_0 c2 ?_)
             | (refine cond_f ?_ ?_)
             | (refine ⟨_, ⟨by decide, rfl⟩, ?_⟩)
             | (refine cond_i (fun h => ?_) (fun h => ?_)))
    all_goals (conv => whnf)
    all_goals rfl
theorem settled_G (ha : o.key.att = 0) (hz : o.calls.length ≠ 0) (hk : k = 0) (hw : w = 1) : Fv Tryd.prog 15 [.agg o.g, .int .i64 now] (.tup [.int .i64 13, .int .i64 0, .bool true]) ∧ Fv Tryd.prog 24 [.agg o.g, .int .i64 now] (.tup [.int .i64 13, .int .i64 0, .bool true]) := by
  subst hw
  have a0 : (o.key.att == 0) = true := beq_iff_eq.2 ha
  have a1 : (!(o.key.att == 0)) = false := by rw [a0]; rfl
  have z : (((o.calls.map Call.g).length : Int) == 0) = false := beq_eq_false_iff_ne.2 (by rw [List.length_map]; omega)
  have k1 : decide (k > 0) = false := decide_eq_false (by omega)
  have k2 : (k == 0) = true := beq_iff_eq.2 (by omega)
  have k3 : (!(k == 0)) = false := by rw [k2]; rfl
  constructor
  · refine Fv.of_awp Tryd.func15 rfl (by kernel_rfl) rfl (Nat.le_of_ble_eq_true rfl) ?_
    repeat' (conv => whnf
             first
             | (refine And.intro (by kernel_rfl) ?_)
             | (refine And.intro ⟨by kernel_rfl, by kernel_rfl⟩ ?_)
             | (refine Or.inl ⟨_, p1, ?_⟩)
             | (refine ⟨_, p1, ?_⟩)
             | (refine cond_0 a1 ?_)
             | (refine cond_1 a0 ?_)
             | (refine cond_0 z ?_)
             | (refine Or.inl ⟨_, p2, ?_⟩)
             | (refine ⟨_, p2, ?_⟩)
             | (refine cond_0 k1 ?_)
             | (refine Or.inl ⟨_, p3, ?_⟩)
             | (refine ⟨_, p3, ?_⟩)
             | (refine cond_f ?_ ?_)
             | (refine ⟨_, ⟨by decide, rfl⟩, ?_⟩)
             | (refine cond_i (fun h => ?_) (fun h => ?_)))
    all_goals (conv => whnf)
    all_goals rfl
  · refine Fv.of_awp Tryd.func24 rfl (by kernel_rfl) rfl (Nat.le_of_ble_eq_true rfl) ?_
    repeat' (conv => whnf
             first
             | (refine And.intro (by kernel_rfl) ?_)
             | (refine And.intro ⟨by kernel_rfl, by kernel_rfl⟩ ?_)
             | (refine cond_0 a1 ?_)
             | (refine cond_1 a0 ?_)
             | (refine cond_0 z ?_)
             | (refine Or.inl ⟨_, r2, ?_⟩)
             | (refine ⟨_, r2, ?_⟩)
             | (refine cond_0 k3 ?_)
             | (refine cond_1 k2 ?_)
             | (refine Or.inl ⟨_, r3, ?_⟩)
             | (refine ⟨_, r3, ?_⟩)
             | (refine cond_f ?_ ?_)
             | (refine ⟨_, ⟨by decide, rfl⟩, ?_⟩)
             | (refine cond_i (fun h => ?_) (fun h => ?_)))
    all_goals (conv => whnf)
    all_goals rfl
theorem settled_H (ha : o.key.att = 0) (hz : o.calls.length ≠ 0) (hk : k = 0) (h0 : w ≠ 0) (h1 : w ≠ 1) (h4 : w ≠ 4) : Fv Tryd.prog 15 [.agg o.g, .int .i64 now] (.tup [.int .i64 w, .int .i64 0, .bool true]) ∧ Fv Tryd.prog 24 [.agg o.g, .int .i64 now] (.tup [.int .i64 w, .int .i64 0, .bool true]) := by
  have a0 : (o.key.att == 0) = true := beq_iff_eq.2 ha
  have a1 : (!(o.key.att == 0)) = false := by rw [a0]; rfl
  have z : (((o.calls.map Call.g).length : Int) == 0) = false := beq_eq_false_iff_ne.2 (by rw [List.length_map]; omega)
  have k1 : decide (k > 0) = false := decide_eq_false (by omega)
  have k2 : (k == 0) = true := beq_iff_eq.2 (by omega)
  have k3 : (!(k == 0)) = false := by rw [k2]; rfl
  have w0 : (w == 0) = false := beq_eq_false_iff_ne.2 h0
  have w1 : (w == 1) = false := beq_eq_false_iff_ne.2 h1
  have w4 : (w == 4) = false := beq_eq_false_iff_ne.2 h4
  constructor
  · refine Fv.of_awp Tryd.func15 rfl (by kernel_rfl) rfl (Nat.le_of_ble_eq_true rfl) ?_
    repeat' (conv => whnf
             first
             | (refine And.intro (by kernel_rfl) ?_)
             | (refine And.intro ⟨by kernel_rfl, by kernel_rfl⟩ ?_)
             | (refine Or.inl ⟨_, p1, ?_⟩)
             | (refine ⟨_, p1, ?_⟩)
             | (refine cond_0 a1 ?_)
             | (refine cond_1 a0 ?_)
             | (refine cond_0 z ?_)
             | (refine Or.inl ⟨_, p2, ?_⟩)
             | (refine ⟨_, p2, ?_⟩)
             | (refine cond_0 k1 ?_)
             | (refine Or.inl ⟨_, p3, ?_⟩)
             | (refine ⟨_, p3, ?_⟩)
             | (refine cond_0 w0 ?_)
             | (refine cond_0 w1 ?_)
             | (refine cond_0 w4 ?_)
             | (refine cond_f ?_ ?_)
             | (refine ⟨_, ⟨by decide, rfl⟩, ?_⟩)
             | (refine cond_i (fun h => ?_) (fun h => ?_)))
    all_goals (conv => whnf)
    all_goals rfl
  · refine Fv.of_awp Tryd.func24 rfl (by kernel_rfl) rfl (Nat.le_of_ble_eq_true rfl) ?_
    repeat' (conv => whnf
             first
             | (refine And.intro (by kernel_rfl) ?_)
             | (refine And.intro ⟨by kernel_rfl, by kernel_rfl⟩ ?_)
             | (refine cond_0 a1 ?_)
             | (refine cond_1 a0 ?_)
             | (refine cond_0 z ?_)
             | (refine Or.inl ⟨_, r2, ?_⟩)
             | (refine ⟨_, r2, ?_⟩)
             | (refine cond_0 k3 ?_)
             | (refine cond_1 k2 ?_)
             | (refine Or.inl ⟨_, r3, ?_⟩)
             | (refine ⟨_, r3, ?_⟩)
             | (refine cond_0 w0 ?_)
             | (refine cond_0 w1 ?_)
             | (refine cond_0 w4 ?_)
             | (refine cond_f ?_ ?_)
             | (refine ⟨_, ⟨by decide, rfl⟩, ?_⟩)
             | (refine cond_i (fun h => ?_) (fun h => ?_)))
    all_goals (conv => whnf)
    all_goals rfl
end
theorem sender_Settled (o : Owner) (now : Int) (hs : o.calls.length ≤ 31) : Fv Tryd.prog 15 [.agg o.g, .int .i64 now] (.tup [.int .i64 (Sp.settle o now).1, .int .i64 (Sp.settle o now).2.1, .bool (Sp.settle o now).2.2]) ∧ Fv Tryd.prog 24 [.agg o.g, .int .i64 now] (.tup [.int .i64 (Sp.settle o now).1, .int .i64 (Sp.settle o now).2.1, .bool (Sp.settle o now).2.2]) := by
  have hk := openN_bd o.calls
  unfold Sp.settle
  by_cases ha : o.key.att = 0
  case neg =>
    rw [if_pos (.inl ha)]
    exact settled_A o now _ _ _ _ _ (owner_IsRoot o) (owner_Open o (by omega)) (ref23_Open o (by omega)) (owner_Worst o (by omega)) (ref23_Worst o (by omega)) (owner_Sum o 0 (by omega)) (ref23_Sum o 0 (by omega)) (ticks_Clamp now) (ref01_Clamp now) (ticks_Clamp _) (ref01_Clamp _) ha
  by_cases hz : o.calls.length = 0
  · rw [if_pos (.inr (.inl hz))]
    exact settled_B o now _ _ _ _ _ (owner_IsRoot o) (owner_Open o (by omega)) (ref23_Open o (by omega)) (owner_Worst o (by omega)) (ref23_Worst o (by omega)) (owner_Sum o 0 (by omega)) (ref23_Sum o 0 (by omega)) (ticks_Clamp now) (ref01_Clamp now) (ticks_Clamp _) (ref01_Clamp _) ha hz
  by_cases h0 : openN o.calls = 0
  case neg =>
    rw [if_pos (.inr (.inr h0))]
    exact settled_C o now _ _ _ _ _ (owner_IsRoot o) (owner_Open o (by omega)) (ref23_Open o (by omega)) (owner_Worst o (by omega)) (ref23_Worst o (by omega)) (owner_Sum o 0 (by omega)) (ref23_Sum o 0 (by omega)) (ticks_Clamp now) (ref01_Clamp now) (ticks_Clamp _) (ref01_Clamp _) ha hz (by omega)
  rw [if_neg (by omega)]
  by_cases w0 : worst o.calls = 0
  · rw [if_pos w0]; exact settled_D o now _ _ _ _ _ (owner_IsRoot o) (owner_Open o (by omega)) (ref23_Open o (by omega)) (owner_Worst o (by omega)) (ref23_Worst o (by omega)) (owner_Sum o 0 (by omega)) (ref23_Sum o 0 (by omega)) (ticks_Clamp now) (ref01_Clamp now) (ticks_Clamp _) (ref01_Clamp _) ha hz h0 w0
  rw [if_neg w0]
  by_cases w4 : worst o.calls = 4
  · rw [if_pos w4]
    by_cases ht : clamp now < clamp o.deadline
    · rw [if_pos ht]; exact settled_E o now _ _ _ _ _ (owner_IsRoot o) (owner_Open o (by omega)) (ref23_Open o (by omega)) (owner_Worst o (by omega)) (ref23_Worst o (by omega)) (owner_Sum o 0 (by omega)) (ref23_Sum o 0 (by omega)) (ticks_Clamp now) (ref01_Clamp now) (ticks_Clamp _) (ref01_Clamp _) ha hz h0 w4 ht
    · rw [if_neg ht]; exact settled_F o now _ _ _ _ _ (owner_IsRoot o) (owner_Open o (by omega)) (ref23_Open o (by omega)) (owner_Worst o (by omega)) (ref23_Worst o (by omega)) (owner_Sum o 0 (by omega)) (ref23_Sum o 0 (by omega)) (ticks_Clamp now) (ref01_Clamp now) (ticks_Clamp _) (ref01_Clamp _) ha hz h0 w4 ht
  rw [if_neg w4]
  by_cases w1 : worst o.calls = 1
  · rw [if_pos w1]; exact settled_G o now _ _ _ _ _ (owner_IsRoot o) (owner_Open o (by omega)) (ref23_Open o (by omega)) (owner_Worst o (by omega)) (ref23_Worst o (by omega)) (owner_Sum o 0 (by omega)) (ref23_Sum o 0 (by omega)) (ticks_Clamp now) (ref01_Clamp now) (ticks_Clamp _) (ref01_Clamp _) ha hz h0 w1
  · rw [if_neg w1]; exact settled_H o now _ _ _ _ _ (owner_IsRoot o) (owner_Open o (by omega)) (ref23_Open o (by omega)) (owner_Worst o (by omega)) (ref23_Worst o (by omega)) (owner_Sum o 0 (by omega)) (ref23_Sum o 0 (by omega)) (ticks_Clamp now) (ref01_Clamp now) (ticks_Clamp _) (ref01_Clamp _) ha hz h0 w0 w1 w4

theorem wrap_u32_bd (n : Int) : 0 ≤ IntKind.u32.wrap n ∧ IntKind.u32.wrap n < 4294967296 := by
  unfold IntKind.wrap IntKind.bits IntKind.signed
  simp only [Bool.false_and]
  simp
  omega
theorem wrap_u32_id {n : Int} (h : 0 ≤ n ∧ n < 4294967296) : IntKind.u32.wrap n = n := by
  unfold IntKind.wrap IntKind.bits IntKind.signed
  simp only [Bool.false_and]
  simp
  omega
theorem backoff_Jitter (a b c : Int) : Fv Tryd.prog 62 [.int .i64 a, .int .i64 b, .int .i64 c] (.int .i64 (jitter a b c)) := by
  refine Fv.of_awp Tryd.func62 rfl (by kernel_rfl) rfl (Nat.le_of_ble_eq_true rfl) ?_
  repeat' (conv => whnf
           first
           | (refine And.intro (by kernel_rfl) ?_)
           | (refine And.intro ⟨by kernel_rfl, by kernel_rfl⟩ ?_)
           | (refine cond_f ?_ ?_)
           | (refine ⟨_, ⟨by decide, rfl⟩, ?_⟩)
           | (refine cond_i (fun h => ?_) (fun h => ?_)))
  all_goals (conv => whnf)
  refine int_eq ?_
  unfold jitter
  rw [← Int.fdiv_eq_ediv_of_nonneg _ (by omega)]
  rfl
theorem ref18_Jitter (a b c : Int) : Fv Tryd.prog 64 [.int .i64 a, .int .i64 b, .int .i64 c] (.int .i64 (jitter a b c)) := by
  refine Fv.of_awp Tryd.func64 rfl (by kernel_rfl) rfl (Nat.le_of_ble_eq_true rfl) ?_
  repeat' (conv => whnf
           first
           | (refine And.intro (by kernel_rfl) ?_)
           | (refine And.intro ⟨by kernel_rfl, by kernel_rfl⟩ ?_)
           | (refine cond_f ?_ ?_)
           | (refine ⟨_, ⟨by decide, rfl⟩, ?_⟩)
           | (refine cond_i (fun h => ?_) (fun h => ?_)))
  all_goals (conv => whnf)
  refine int_eq ?_
  have hb : 0 ≤ jh a b c ∧ jh a b c < 4294967296 := wrap_u32_bd _
  have e : jh a b c / 32768 = IntKind.u32.wrap ((jh a b c).tdiv 32768) := by
    rw [Int.tdiv_eq_ediv_of_nonneg hb.1, wrap_u32_id (by omega)]
  unfold jitter
  rw [e]
  rfl
theorem throttle_Bad (h t : Int) : Fv Tryd.prog 60 [.int .i64 h, .int .i64 t] (.int .i64 (tBad h t)) := by
  have hb := tClean_bd h t
  have n1 := throttle_clean h t
  unfold tBad
  obtain ⟨x, hx⟩ : ∃ x, tClean h t = x := ⟨_, rfl⟩
  rw [hx] at hb n1 ⊢
  have w : IntKind.i64.wrap (x - 1000) = x - 1000 := wrap_i64 (by omega)
  refine Fv.of_awp Tryd.func60 rfl (by kernel_rfl) rfl (Nat.le_of_ble_eq_true rfl) ?_
  repeat' (conv => whnf
           first
           | (refine And.intro (by kernel_rfl) ?_)
           | (refine And.intro ⟨by kernel_rfl, by kernel_rfl⟩ ?_)
           | (refine Or.inl ⟨_, n1, ?_⟩)
           | (refine ⟨_, n1, ?_⟩)
           | (refine cond_f ?_ ?_)
           | (refine ⟨_, ⟨by decide, rfl⟩, ?_⟩)
           | (refine cond_i (fun h => ?_) (fun h => ?_)))
  all_goals (conv => whnf)
  all_goals
    refine int_eq ?_
    rw [w] at *
    simp only [decide_eq_true_eq, decide_eq_false_iff_not] at *
    split <;> omega
theorem ref19_Bad (h t : Int) : Fv Tryd.prog 63 [.int .i64 h, .int .i64 t] (.int .i64 (tBad h t)) := by
  have hb := tClean_bd h t
  have n1 := ref19_clean h t
  unfold tBad
  obtain ⟨x, hx⟩ : ∃ x, tClean h t = x := ⟨_, rfl⟩
  rw [hx] at hb n1 ⊢
  have w : IntKind.i64.wrap (x - 1000) = x - 1000 := wrap_i64 (by omega)
  refine Fv.of_awp Tryd.func63 rfl (by kernel_rfl) rfl (Nat.le_of_ble_eq_true rfl) ?_
  by_cases hc : x < 1000
  · have b1 : decide (x < 1000) = true := decide_eq_true hc
    repeat' (conv => whnf
             first
             | (refine And.intro (by kernel_rfl) ?_)
             | (refine And.intro ⟨by kernel_rfl, by kernel_rfl⟩ ?_)
             | (refine Or.inl ⟨_, n1, ?_⟩)
             | (refine ⟨_, n1, ?_⟩)
             | (refine cond_1 b1 ?_)
             | (refine cond_f ?_ ?_)
             | (refine ⟨_, ⟨by decide, rfl⟩, ?_⟩)
             | (refine cond_i (fun h => ?_) (fun h => ?_)))
    all_goals (conv => whnf)
    rw [if_pos hc]
  · have b1 : decide (x < 1000) = false := decide_eq_false hc
    repeat' (conv => whnf
             first
             | (refine And.intro (by kernel_rfl) ?_)
             | (refine And.intro ⟨by kernel_rfl, by kernel_rfl⟩ ?_)
             | (refine Or.inl ⟨_, n1, ?_⟩)
             | (refine ⟨_, n1, ?_⟩)
             | (refine cond_0 b1 ?_)
             | (refine cond_f ?_ ?_)
             | (refine ⟨_, ⟨by decide, rfl⟩, ?_⟩)
             | (refine cond_i (fun h => ?_) (fun h => ?_)))
    all_goals (conv => whnf)
    rw [if_neg hc]
    show G.int .i64 (IntKind.i64.wrap (x - 1000)) = _
    rw [w]
section
variable (c : Config) (me : Int) (o : Owner) (x : Sp.Call) (now have' n push : Int)
theorem failed_no (h : x.state ≠ 1) : Fv Tryd.prog 31 [.agg c.g, .int .i64 me, .agg o.g, .agg x.g, .int .i64 now, .int .i64 have', .int .i64 n, .int .i64 push] (.tup [.agg x.g, .int .i64 have']) ∧ Fv Tryd.prog 32 [.agg c.g, .int .i64 me, .agg o.g, .agg x.g, .int .i64 now, .int .i64 have', .int .i64 n, .int .i64 push] (.tup [.agg x.g, .int .i64 have']) := by
  have b0 : (x.state == 1) = false := beq_eq_false_iff_ne.2 h
  have b1 : (!(x.state == 1)) = true := by rw [b0]; rfl
  constructor
  · refine Fv.of_awp Tryd.func31 rfl (by kernel_rfl) rfl (Nat.le_of_ble_eq_true rfl) ?_
    repeat' (conv => whnf
             first
             | (refine And.intro (by kernel_rfl) ?_)
             | (refine And.intro ⟨by kernel_rfl, by kernel_rfl⟩ ?_)
             | (refine cond_1 b1 ?_)
             | (refine cond_0 b0 ?_)
             | (refine cond_f ?_ ?_)
             | (refine ⟨_, ⟨by decide, rfl⟩, ?_⟩)
             | (refine cond_i (fun h => ?_) (fun h => ?_)))
    all_goals (conv => whnf)
    all_goals rfl
  · refine Fv.of_awp Tryd.func32 rfl (by kernel_rfl) rfl (Nat.le_of_ble_eq_true rfl) ?_
    repeat' (conv => whnf
             first
             | (refine And.intro (by kernel_rfl) ?_)
             | (refine And.intro ⟨by kernel_rfl, by kernel_rfl⟩ ?_)
             | (refine cond_1 b1 ?_)
             | (refine cond_0 b0 ?_)
             | (refine cond_f ?_ ?_)
             | (refine ⟨_, ⟨by decide, rfl⟩, ?_⟩)
             | (refine cond_i (fun h => ?_) (fun h => ?_)))
    all_goals (conv => whnf)
    all_goals rfl
theorem failed_yes (h : x.state = 1) (y : Sp.Call) (z t j : Int) (n1 : Fv Tryd.prog 60 [.int .i64 have', .int .i64 c.tokens] (.int .i64 t)) (r1 : Fv Tryd.prog 63 [.int .i64 have', .int .i64 c.tokens] (.int .i64 t))
    (n2 : Fv Tryd.prog 62 [.int .i64 me, .int .i64 x.id.seq, .int .i64 x.att] (.int .i64 j)) (r2 : Fv Tryd.prog 64 [.int .i64 me, .int .i64 x.id.seq, .int .i64 x.att] (.int .i64 j))
    (n3 : Fv Tryd.prog 61 [.agg x.g, .agg c.g, .agg (Facts.mk n 0 false push t now o.deadline j).g] (.tup [.agg y.g, .int .i64 z])) (r3 : Fv Tryd.prog 65 [.agg x.g, .agg c.g, .agg (Facts.mk n 0 false push t now o.deadline j).g] (.tup [.agg y.g, .int .i64 z])) :
    Fv Tryd.prog 31 [.agg c.g, .int .i64 me, .agg o.g, .agg x.g, .int .i64 now, .int .i64 have', .int .i64 n, .int .i64 push] (.tup [.agg y.g, .int .i64 t]) ∧ Fv Tryd.prog 32 [.agg c.g, .int .i64 me, .agg o.g, .agg x.g, .int .i64 now, .int .i64 have', .int .i64 n, .int .i64 push] (.tup [.agg y.g, .int .i64 t]) := by
  have b0 : (x.state == 1) = true := beq_iff_eq.2 h
  have b1 : (!(x.state == 1)) = false := by rw [b0]; rfl
  constructor
  · refine Fv.of_awp Tryd.func31 rfl (by kernel_rfl) rfl (Nat.le_of_ble_eq_true rfl) ?_
    repeat' (conv => whnf
             first
             | (refine And.intro (by kernel_rfl) ?_)
             | (refine And.intro ⟨by kernel_rfl, by kernel_rfl⟩ ?_)
             | (refine cond_0 b1 ?_)
             | (refine cond_1 b0 ?_)
             | (refine Or.inl ⟨_, n1, ?_⟩)
             | (refine ⟨_, n1, ?_⟩)
             | (refine Or.inl ⟨_, n2, ?_⟩)
             | (refine ⟨_, n2, ?_⟩)
             | (refine Or.inl ⟨_, n3, ?_⟩)
             | (refine ⟨_, n3, ?_⟩)
             | (refine cond_f ?_ ?_)
             | (refine ⟨_, ⟨by decide, rfl⟩, ?_⟩)
             | (refine cond_i (fun h => ?_) (fun h => ?_)))
    all_goals (conv => whnf)
    all_goals rfl
  · refine Fv.of_awp Tryd.func32 rfl (by kernel_rfl) rfl (Nat.le_of_ble_eq_true rfl) ?_
    repeat' (conv => whnf
             first
             | (refine And.intro (by kernel_rfl) ?_)
             | (refine And.intro ⟨by kernel_rfl, by kernel_rfl⟩ ?_)
             | (refine cond_0 b1 ?_)
             | (refine cond_1 b0 ?_)
             | (refine Or.inl ⟨_, r1, ?_⟩)
             | (refine ⟨_, r1, ?_⟩)
             | (refine Or.inl ⟨_, r2, ?_⟩)
             | (refine ⟨_, r2, ?_⟩)
             | (refine Or.inl ⟨_, r3, ?_⟩)
             | (refine ⟨_, r3, ?_⟩)
             | (refine cond_f ?_ ?_)
             | (refine ⟨_, ⟨by decide, rfl⟩, ?_⟩)
             | (refine cond_i (fun h => ?_) (fun h => ?_)))
    all_goals (conv => whnf)
    all_goals rfl
theorem sender_Failed (ha : x.att ≤ 9223372036854775807) : Fv Tryd.prog 31 [.agg c.g, .int .i64 me, .agg o.g, .agg x.g, .int .i64 now, .int .i64 have', .int .i64 n, .int .i64 push] (.tup [.agg (failF c me o x now have' n push).1.g, .int .i64 (failF c me o x now have' n push).2]) ∧ Fv Tryd.prog 32 [.agg c.g, .int .i64 me, .agg o.g, .agg x.g, .int .i64 now, .int .i64 have', .int .i64 n, .int .i64 push] (.tup [.agg (failF c me o x now have' n push).1.g, .int .i64 (failF c me o x now have' n push).2]) := by
  unfold failF
  by_cases h : x.state = 1
  · rw [if_pos h]
    exact failed_yes c me o x now have' n push h _ _ _ _ (throttle_Bad _ _) (ref19_Bad _ _) (backoff_Jitter _ _ _) (ref18_Jitter _ _ _) (call_Bad x c (factsF c me o x now have' n push) ha) (ref21_Bad x c (factsF c me o x now have' n push) ha)
  · rw [if_neg h]; exact failed_no c me o x now have' n push h
end
def replyP (me : Int) (o : Owner) (n v : Int) : Packet := { zP with kind := 2, «from» := me, to := o.from, key := o.key, code := n, value := v }
def moreP (me : Int) (o : Owner) : Packet := { zP with kind := 2, «from» := me, to := o.from, key := o.key, more := true }
def refuseP (me : Int) (o : Owner) (d : Int) : Packet := { zP with kind := 5, «from» := me, to := o.from, key := o.key, delay := d }
theorem sender_Reply (me : Int) (o : Owner) (n v : Int) : Fv Tryd.prog 18 [.int .i64 me, .agg o.g, .int .i64 n, .int .i64 v] (.agg (replyP me o n v).g) := by
  refine Fv.of_awp Tryd.func18 rfl (by kernel_rfl) rfl (Nat.le_of_ble_eq_true rfl) ?_
  repeat' (conv => whnf
           first
           | (refine And.intro (by kernel_rfl) ?_)
           | (refine And.intro ⟨by kernel_rfl, by kernel_rfl⟩ ?_)
           | (refine cond_f ?_ ?_)
           | (refine ⟨_, ⟨by decide, rfl⟩, ?_⟩)
           | (refine cond_i (fun h => ?_) (fun h => ?_)))
  all_goals (conv => whnf)
  all_goals rfl
theorem sender_More (me : Int) (o : Owner) : Fv Tryd.prog 20 [.int .i64 me, .agg o.g] (.agg (moreP me o).g) := by
  refine Fv.of_awp Tryd.func20 rfl (by kernel_rfl) rfl (Nat.le_of_ble_eq_true rfl) ?_
  repeat' (conv => whnf
           first
           | (refine And.intro (by kernel_rfl) ?_)
           | (refine And.intro ⟨by kernel_rfl, by kernel_rfl⟩ ?_)
           | (refine cond_f ?_ ?_)
           | (refine ⟨_, ⟨by decide, rfl⟩, ?_⟩)
           | (refine cond_i (fun h => ?_) (fun h => ?_)))
  all_goals (conv => whnf)
  all_goals rfl
theorem sender_Refuse (me : Int) (o : Owner) (d : Int) : Fv Tryd.prog 22 [.int .i64 me, .agg o.g, .int .i64 d] (.agg (refuseP me o d).g) := by
  refine Fv.of_awp Tryd.func22 rfl (by kernel_rfl) rfl (Nat.le_of_ble_eq_true rfl) ?_
  repeat' (conv => whnf
           first
           | (refine And.intro (by kernel_rfl) ?_)
           | (refine And.intro ⟨by kernel_rfl, by kernel_rfl⟩ ?_)
           | (refine cond_f ?_ ?_)
           | (refine ⟨_, ⟨by decide, rfl⟩, ?_⟩)
           | (refine cond_i (fun h => ?_) (fun h => ?_)))
  all_goals (conv => whnf)
  all_goals rfl
theorem ref26_Answer (k me : Int) (o : Owner) : Fv Tryd.prog 53 [.int .i64 k, .int .i64 me, .agg o.g] (.agg (Packet.mk k me o.from o.key 0 0 ByteArray.empty 0 0 ⟨0, 0, 0⟩ ⟨⟨0, 0, 0⟩, 0⟩ 0 0 false 0).g) := by
  refine Fv.of_awp Tryd.func53 rfl (by kernel_rfl) rfl (Nat.le_of_ble_eq_true rfl) ?_
  repeat' (conv => whnf
           first
           | (refine And.intro (by kernel_rfl) ?_)
           | (refine And.intro ⟨by kernel_rfl, by kernel_rfl⟩ ?_)
           | (refine cond_f ?_ ?_)
           | (refine ⟨_, ⟨by decide, rfl⟩, ?_⟩)
           | (refine cond_i (fun h => ?_) (fun h => ?_)))
  all_goals (conv => whnf)
  all_goals rfl
theorem ref26_Reply (me : Int) (o : Owner) (n v : Int) : Fv Tryd.prog 19 [.int .i64 me, .agg o.g, .int .i64 n, .int .i64 v] (.agg (replyP me o n v).g) := by
  have n1 := ref26_Answer 2 me o
  refine Fv.of_awp Tryd.func19 rfl (by kernel_rfl) rfl (Nat.le_of_ble_eq_true rfl) ?_
  repeat' (conv => whnf
           first
           | (refine And.intro (by kernel_rfl) ?_)
           | (refine And.intro ⟨by kernel_rfl, by kernel_rfl⟩ ?_)
           | (refine Or.inl ⟨_, n1, ?_⟩)
           | (refine ⟨_, n1, ?_⟩)
           | (refine cond_f ?_ ?_)
           | (refine ⟨_, ⟨by decide, rfl⟩, ?_⟩)
           | (refine cond_i (fun h => ?_) (fun h => ?_)))
  all_goals (conv => whnf)
  all_goals rfl
theorem ref26_More (me : Int) (o : Owner) : Fv Tryd.prog 21 [.int .i64 me, .agg o.g] (.agg (moreP me o).g) := by
  have n1 := ref26_Answer 2 me o
  refine Fv.of_awp Tryd.func21 rfl (by kernel_rfl) rfl (Nat.le_of_ble_eq_true rfl) ?_
  repeat' (conv => whnf
           first
           | (refine And.intro (by kernel_rfl) ?_)
           | (refine And.intro ⟨by kernel_rfl, by kernel_rfl⟩ ?_)
           | (refine Or.inl ⟨_, n1, ?_⟩)
           | (refine ⟨_, n1, ?_⟩)
           | (refine cond_f ?_ ?_)
           | (refine ⟨_, ⟨by decide, rfl⟩, ?_⟩)
           | (refine cond_i (fun h => ?_) (fun h => ?_)))
  all_goals (conv => whnf)
  all_goals rfl
theorem ref26_Refuse (me : Int) (o : Owner) (d : Int) : Fv Tryd.prog 23 [.int .i64 me, .agg o.g, .int .i64 d] (.agg (refuseP me o d).g) := by
  have n1 := ref26_Answer 5 me o
  refine Fv.of_awp Tryd.func23 rfl (by kernel_rfl) rfl (Nat.le_of_ble_eq_true rfl) ?_
  repeat' (conv => whnf
           first
           | (refine And.intro (by kernel_rfl) ?_)
           | (refine And.intro ⟨by kernel_rfl, by kernel_rfl⟩ ?_)
           | (refine Or.inl ⟨_, n1, ?_⟩)
           | (refine ⟨_, n1, ?_⟩)
           | (refine cond_f ?_ ?_)
           | (refine ⟨_, ⟨by decide, rfl⟩, ?_⟩)
           | (refine cond_i (fun h => ?_) (fun h => ?_)))
  all_goals (conv => whnf)
  all_goals rfl

abbrev cW : Config := ⟨0, 0, 0, 0, 1, 1, 0, 0, 0, 0, 0, 0, 0, []⟩
abbrev oW (l : List Sp.Call) : Owner := ⟨⟨⟨0, 0, 1⟩, 0⟩, ⟨0, 0, 0⟩, ⟨⟨0, 0, 0⟩, 0⟩, 0, 0, 110, 60, 0, 0, 0, l⟩
abbrev xW : Sp.Call := ⟨⟨0, 0, 2⟩, 3, 0, 0, 0, 0, 0, false, 0, 0, 0⟩
abbrev bW : Sp.Call := ⟨⟨0, 0, 2⟩, 3, 0, 1, 1, 10, 0, false, 0, 0, 1⟩
abbrev gW : Sp.Call := ⟨⟨0, 0, 2⟩, 3, 0, 1, 3, 10, 0, false, 0, 7, 1⟩
abbrev pW (u : ByteArray) : Packet := ⟨1, 0, 3, ⟨⟨0, 0, 2⟩, 1⟩, 1, 10, u, 60, 0, ⟨0, 0, 0⟩, ⟨⟨0, 0, 1⟩, 0⟩, 0, 0, false, 0⟩
set_option maxHeartbeats 2000000 in
theorem awake26_of (u : ByteArray) (b1 : strEq u ⟨#[49, 48, 48, 117]⟩ = true) (n1 : Fv Tryd.prog 10 [.agg cW.g, .int .i64 0, .agg (oW []).g, .agg xW.g, .int .i64 10] (.tup [.agg bW.g, .agg (pW u).g]))
    (n2 : Fv Tryd.prog 36 [.agg (oW []).g, .agg bW.g] (.agg (oW [bW]).g)) (n3 : Fv Tryd.prog 15 [.agg (oW [bW]).g, .int .i64 20] (.tup [.int .i64 0, .int .i64 0, .bool false]))
    (n4 : Fv Tryd.prog 37 [.agg bW.g, .int .i64 7] (.agg gW.g)) (n5 : Fv Tryd.prog 36 [.agg (oW []).g, .agg gW.g] (.agg (oW [gW]).g)) (n6 : Fv Tryd.prog 15 [.agg (oW [gW]).g, .int .i64 20] (.tup [.int .i64 0, .int .i64 7, .bool true])) :
    Fv Tryd.prog 9 [] (.bool true) := by
  refine Fv.of_awp Tryd.func9 rfl (by kernel_rfl) rfl (Nat.le_of_ble_eq_true rfl) ?_
  repeat' (conv => whnf
           first
           | (refine And.intro (by kernel_rfl) ?_)
           | (refine And.intro ⟨by kernel_rfl, by kernel_rfl⟩ ?_)
           | (refine Or.inl ⟨_, Fv.nl n1, ?_⟩)
           | (refine ⟨_, Fv.nl n1, ?_⟩)
           | (refine Or.inl ⟨_, Fv.nl n2, ?_⟩)
           | (refine ⟨_, Fv.nl n2, ?_⟩)
           | (refine Or.inl ⟨_, n3, ?_⟩)
           | (refine ⟨_, n3, ?_⟩)
           | (refine Or.inl ⟨_, n4, ?_⟩)
           | (refine ⟨_, n4, ?_⟩)
           | (refine Or.inl ⟨_, Fv.nl n5, ?_⟩)
           | (refine ⟨_, Fv.nl n5, ?_⟩)
           | (refine Or.inl ⟨_, n6, ?_⟩)
           | (refine ⟨_, n6, ?_⟩)
           | (refine cond_1 b1 ?_)
           | (refine cond_f ?_ ?_)
           | (refine ⟨_, ⟨by decide, rfl⟩, ?_⟩)
           | (refine cond_i (fun h => ?_) (fun h => ?_)))
  all_goals (conv => whnf)
  all_goals rfl
theorem law26_awake : Fv Tryd.prog 9 [] (.bool true) := by
  have e2 : enc (sub 110 10) = ⟨#[49, 48, 48, 117]⟩ := by
    have hs : sub 110 10 = 100 := by decide
    have hc : clamp 100 = 100 := clamp_id (by omega)
    rw [hs]
    unfold enc
    rw [hc, if_pos (by omega)]
    unfold txt
    rw [show ((100 : Int)).toNat = 100 from rfl, dec_more (n := 100) (by decide), dec_more (n := 100 / 10) (by decide), dec_small (n := 100 / 10 / 10) (by decide)]
    rfl
  have e1 : sendF cW 0 (oW []) xW 10 = (bW, pW (enc (sub 110 10))) := by
    unfold sendF
    rw [if_neg (by decide), if_neg (by decide), if_neg (by decide)]
    rfl
  have n1 := (sender_Send cW 0 (oW []) xW 10).1
  rw [e1] at n1
  have n2 := owner_With (oW []) bW (by decide)
  have n3 := (sender_Settled (oW [bW]) 20 (by decide)).1
  rw [show Sp.settle (oW [bW]) 20 = (0, 0, false) from by decide] at n3
  have n4 := call_Good bW 7
  rw [show cGood bW 7 = gW from by decide] at n4
  have n5 := owner_With (oW []) gW (by decide)
  have n6 := (sender_Settled (oW [gW]) 20 (by decide)).1
  rw [show Sp.settle (oW [gW]) 20 = (0, 7, true) from by decide +kernel] at n6
  exact awake26_of _ (by rw [e2]; exact strEq_self _) n1 n2 n3 n4 n5 n6
section
variable (c : Config) (me : Int) (o : Owner) (x : Sp.Call) (now : Int)
theorem sends_no (h : o.calls.length > 30 ∨ x.tries < 0 ∨ x.tries > 1000000) : Fv Tryd.prog 3 [.agg c.g, .int .i64 me, .agg o.g, .agg x.g, .int .i64 now] (.bool true) := by
  have aw := law26_awake
  refine Fv.of_awp Tryd.func3 rfl (by kernel_rfl) rfl (Nat.le_of_ble_eq_true rfl) ?_
  by_cases h1 : o.calls.length > 30
  · have b1 : decide (((o.calls.map Call.g).length : Int) > 30) = true := decide_eq_true (by rw [List.length_map]; omega)
    repeat' (conv => whnf
             first
             | (refine And.intro (by kernel_rfl) ?_)
             | (refine And.intro ⟨by kernel_rfl, by kernel_rfl⟩ ?_)
             | (refine cond_1 b1 ?_)
             | (refine Or.inl ⟨_, aw, ?_⟩)
             | (refine ⟨_, aw, ?_⟩)
             | (refine cond_f ?_ ?_)
             | (refine ⟨_, ⟨by decide, rfl⟩, ?_⟩)
             | (refine cond_i (fun h => ?_) (fun h => ?_)))
    all_goals (conv => whnf)
    all_goals rfl
  have b1 : decide (((o.calls.map Call.g).length : Int) > 30) = false := decide_eq_false (by rw [List.length_map]; omega)
  by_cases h2 : x.tries < 0
  · have b2 : decide (x.tries < 0) = true := decide_eq_true h2
    repeat' (conv => whnf
             first
             | (refine And.intro (by kernel_rfl) ?_)
             | (refine And.intro ⟨by kernel_rfl, by kernel_rfl⟩ ?_)
             | (refine cond_0 b1 ?_)
             | (refine cond_1 b2 ?_)
             | (refine Or.inl ⟨_, aw, ?_⟩)
             | (refine ⟨_, aw, ?_⟩)
             | (refine cond_f ?_ ?_)
             | (refine ⟨_, ⟨by decide, rfl⟩, ?_⟩)
             | (refine cond_i (fun h => ?_) (fun h => ?_)))
    all_goals (conv => whnf)
    all_goals rfl
  · have b2 : decide (x.tries < 0) = false := decide_eq_false h2
    have b3 : decide (x.tries > 1000000) = true := decide_eq_true (by omega)
    repeat' (conv => whnf
             first
             | (refine And.intro (by kernel_rfl) ?_)
             | (refine And.intro ⟨by kernel_rfl, by kernel_rfl⟩ ?_)
             | (refine cond_0 b1 ?_)
             | (refine cond_0 b2 ?_)
             | (refine cond_1 b3 ?_)
             | (refine Or.inl ⟨_, aw, ?_⟩)
             | (refine ⟨_, aw, ?_⟩)
             | (refine cond_f ?_ ?_)
             | (refine ⟨_, ⟨by decide, rfl⟩, ?_⟩)
             | (refine cond_i (fun h => ?_) (fun h => ?_)))
    all_goals (conv => whnf)
    all_goals rfl
theorem sends_of (h : ¬ (o.calls.length > 30 ∨ x.tries < 0 ∨ x.tries > 1000000)) (y : Sp.Call) (p : Packet) (n1 : Fv Tryd.prog 10 [.agg c.g, .int .i64 me, .agg o.g, .agg x.g, .int .i64 now] (.tup [.agg y.g, .agg p.g]))
    (n2 : Fv Tryd.prog 13 [.agg c.g, .int .i64 me, .agg o.g, .agg x.g, .int .i64 now] (.tup [.agg y.g, .agg p.g])) : Fv Tryd.prog 3 [.agg c.g, .int .i64 me, .agg o.g, .agg x.g, .int .i64 now] (.bool true) := by
  have aw := law26_awake
  have b1 : decide (((o.calls.map Call.g).length : Int) > 30) = false := decide_eq_false (by rw [List.length_map]; omega)
  have b2 : decide (x.tries < 0) = false := decide_eq_false (by omega)
  have b3 : decide (x.tries > 1000000) = false := decide_eq_false (by omega)
  have m1 := law23_Mine o (by omega)
  have m2 := law23_One x
  have m3 := law26_theirs y
  have c1 := (call_eqB y y).trans (decide_eq_true rfl)
  refine Fv.of_awp Tryd.func3 rfl (by kernel_rfl) rfl (Nat.le_of_ble_eq_true rfl) ?_
  repeat' (conv => whnf
           first
           | (refine And.intro (by kernel_rfl) ?_)
           | (refine And.intro ⟨by kernel_rfl, by kernel_rfl⟩ ?_)
           | (refine cond_0 b1 ?_)
           | (refine cond_0 b2 ?_)
           | (refine cond_0 b3 ?_)
           | (refine Or.inl ⟨_, m1, ?_⟩)
           | (refine ⟨_, m1, ?_⟩)
           | (refine Or.inl ⟨_, m2, ?_⟩)
           | (refine ⟨_, m2, ?_⟩)
           | (refine Or.inl ⟨_, n1, ?_⟩)
           | (refine ⟨_, n1, ?_⟩)
           | (refine Or.inl ⟨_, n2, ?_⟩)
           | (refine ⟨_, n2, ?_⟩)
           | (refine Or.inl ⟨_, m3, ?_⟩)
           | (refine ⟨_, m3, ?_⟩)
           | (refine cond_1 c1 ?_)
           | (refine Or.inl ⟨_, aw, ?_⟩)
           | (refine ⟨_, aw, ?_⟩)
           | (refine cond_1 (by simp [strEq_self]) ?_)
           | (refine cond_f ?_ ?_)
           | (refine ⟨_, ⟨by decide, rfl⟩, ?_⟩)
           | (refine cond_i (fun h => ?_) (fun h => ?_)))
  all_goals (conv => whnf)
  all_goals rfl
theorem law26_SenderSends : Fv Tryd.prog 3 [.agg c.g, .int .i64 me, .agg o.g, .agg x.g, .int .i64 now] (.bool true) := by
  by_cases h : o.calls.length > 30 ∨ x.tries < 0 ∨ x.tries > 1000000
  · exact sends_no c me o x now h
  · exact sends_of c me o x now h _ _ (sender_Send c me o x now).1 (sender_Send c me o x now).2
variable (have' n push : Int)
theorem fails_no (h : o.calls.length > 30) : Fv Tryd.prog 7 [.agg c.g, .int .i64 me, .agg o.g, .agg x.g, .int .i64 now, .int .i64 have', .int .i64 n, .int .i64 push] (.bool true) := by
  have aw := law26_awake
  have b1 : decide (((o.calls.map Call.g).length : Int) > 30) = true := decide_eq_true (by rw [List.length_map]; omega)
  refine Fv.of_awp Tryd.func7 rfl (by kernel_rfl) rfl (Nat.le_of_ble_eq_true rfl) ?_
  repeat' (conv => whnf
           first
           | (refine And.intro (by kernel_rfl) ?_)
           | (refine And.intro ⟨by kernel_rfl, by kernel_rfl⟩ ?_)
           | (refine cond_1 b1 ?_)
           | (refine Or.inl ⟨_, aw, ?_⟩)
           | (refine ⟨_, aw, ?_⟩)
           | (refine cond_f ?_ ?_)
           | (refine ⟨_, ⟨by decide, rfl⟩, ?_⟩)
           | (refine cond_i (fun h => ?_) (fun h => ?_)))
  all_goals (conv => whnf)
  all_goals rfl
theorem fails_of (h : ¬ o.calls.length > 30) (y : Sp.Call) (t : Int) (n1 : Fv Tryd.prog 31 [.agg c.g, .int .i64 me, .agg o.g, .agg x.g, .int .i64 now, .int .i64 have', .int .i64 n, .int .i64 push] (.tup [.agg y.g, .int .i64 t]))
    (n2 : Fv Tryd.prog 32 [.agg c.g, .int .i64 me, .agg o.g, .agg x.g, .int .i64 now, .int .i64 have', .int .i64 n, .int .i64 push] (.tup [.agg y.g, .int .i64 t])) : Fv Tryd.prog 7 [.agg c.g, .int .i64 me, .agg o.g, .agg x.g, .int .i64 now, .int .i64 have', .int .i64 n, .int .i64 push] (.bool true) := by
  have aw := law26_awake
  have b1 : decide (((o.calls.map Call.g).length : Int) > 30) = false := decide_eq_false (by rw [List.length_map]; omega)
  have m1 := law23_Mine o (by omega)
  have m2 := law23_One x
  have m3 := law26_theirs y
  have c1 := (call_eqB y y).trans (decide_eq_true rfl)
  have c2 : (t == t) = true := by simp
  refine Fv.of_awp Tryd.func7 rfl (by kernel_rfl) rfl (Nat.le_of_ble_eq_true rfl) ?_
  repeat' (conv => whnf
           first
           | (refine And.intro (by kernel_rfl) ?_)
           | (refine And.intro ⟨by kernel_rfl, by kernel_rfl⟩ ?_)
           | (refine cond_0 b1 ?_)
           | (refine Or.inl ⟨_, m1, ?_⟩)
           | (refine ⟨_, m1, ?_⟩)
           | (refine Or.inl ⟨_, m2, ?_⟩)
           | (refine ⟨_, m2, ?_⟩)
           | (refine Or.inl ⟨_, n1, ?_⟩)
           | (refine ⟨_, n1, ?_⟩)
           | (refine Or.inl ⟨_, n2, ?_⟩)
           | (refine ⟨_, n2, ?_⟩)
           | (refine Or.inl ⟨_, m3, ?_⟩)
           | (refine ⟨_, m3, ?_⟩)
           | (refine cond_1 c1 ?_)
           | (refine cond_1 c2 ?_)
           | (refine Or.inl ⟨_, aw, ?_⟩)
           | (refine ⟨_, aw, ?_⟩)
           | (refine cond_f ?_ ?_)
           | (refine ⟨_, ⟨by decide, rfl⟩, ?_⟩)
           | (refine cond_i (fun h => ?_) (fun h => ?_)))
  all_goals (conv => whnf)
  all_goals rfl
theorem law26_SenderFails (ha : x.att ≤ 9223372036854775807) : Fv Tryd.prog 7 [.agg c.g, .int .i64 me, .agg o.g, .agg x.g, .int .i64 now, .int .i64 have', .int .i64 n, .int .i64 push] (.bool true) := by
  by_cases h : o.calls.length > 30
  · exact fails_no c me o x now have' n push h
  · exact fails_of c me o x now have' n push h _ _ (sender_Failed c me o x now have' n push ha).1 (sender_Failed c me o x now have' n push ha).2
end
end Go.Proofs.YtfacmphjplablaaDoor.Cn
namespace Go.Proofs.YtfacmphjplablaaDoor.Cn
open Go Go.Proofs Go.Proofs.YtfacmphjplablaaDoor.Av Go.Proofs.YtfacmphjplablaaDoor.Sp
set_option linter.unusedVariables false
set_option linter.unusedSimpArgs false
set_option linter.unusedSectionVars false
set_option maxRecDepth 100000
attribute [local irreducible] Fv Fp

theorem own_snoc {α : Type} {l : List α} {R : α → List G} {x : α} {r : List G} (h : R x = r) : ((l.map R).drop 0).take l.length ++ [r] = (l ++ [x]).map R := by
  rw [List.drop_zero, List.take_of_length_le (by simp), List.map_append, ← h]; rfl
theorem app_pk (l : List Packet) (r : List G) (h : l.length ≤ 1000) : 0 + l.length ≤ (l.map Packet.g).length ∧ (0 < l.length + [r].length ∨ l.map Packet.g = []) ∧ fitsB Tryd.prog 37 (l.length + [r].length) ∧ ∀ r ∈ l.map Packet.g, r.length = Tryd.prog.cellsOf 37 :=
  ⟨by simp, .inl (by simp), fits 192 (by kernel_rfl) (by simp; omega), fun r hr => by obtain ⟨x, _, rfl⟩ := List.mem_map.1 hr; rw [show Tryd.prog.cellsOf 37 = 23 from by kernel_rfl]; rfl⟩
theorem cancels1 (p : Packet) : Fv Tryd.prog 57 [.agg p.g] (.agg ({ p with kind := 3 } : Packet).g) := by
  refine Fv.of_awp Tryd.func57 rfl (by kernel_rfl) rfl (Nat.le_of_ble_eq_true rfl) ?_
  repeat' (conv => whnf
           first
           | (refine And.intro (by kernel_rfl) ?_)
           | (refine And.intro ⟨by kernel_rfl, by kernel_rfl⟩ ?_)
           | (refine cond_f ?_ ?_)
           | (refine ⟨_, ⟨by decide, rfl⟩, ?_⟩)
           | (refine cond_i (fun h => ?_) (fun h => ?_)))
  all_goals (conv => whnf)
  all_goals rfl
theorem keeps1 (p : Packet) (o : Owner) (u : Int) (n1 : Fv Tryd.prog 42 [.int .i64 o.until] (.int .i64 u)) : Fp Tryd.prog 58 [.agg p.g, .ptr 0 0] [o.g] [] (.agg ({ p with kind := 4, «until» := u } : Packet).g, [some o.g], []) := by
  refine Fp.of_awp Tryd.func58 rfl (by kernel_rfl) (Nat.le_of_ble_eq_true rfl) ?_
  repeat' (conv => whnf
           first
           | (refine And.intro (by kernel_rfl) ?_)
           | (refine And.intro ⟨by kernel_rfl, by kernel_rfl⟩ ?_)
           | (refine Or.inl ⟨_, n1, ?_⟩)
           | (refine ⟨_, n1, ?_⟩)
           | (refine cond_f ?_ ?_)
           | (refine ⟨_, ⟨by decide, rfl⟩, ?_⟩)
           | (refine cond_i (fun h => ?_) (fun h => ?_)))
  all_goals (conv => whnf)
  all_goals rfl
theorem waiting_C (me : Int) (o : Owner) (hs : o.calls.length ≤ 31) : Fv Tryd.prog 56 [.int .i64 me, .agg o.g, .fn 57 []] (.sl ((waitL 3 me 0 o.calls).map Packet.g)) := by
  refine Fv.of_awp Tryd.func56 rfl (by kernel_rfl) rfl (Nat.le_of_ble_eq_true rfl) ?_
  repeat' (conv => whnf
           first
           | (refine And.intro (by kernel_rfl) ?_)
           | (refine And.intro ⟨by kernel_rfl, by kernel_rfl⟩ ?_)
           | (refine cond_f ?_ ?_)
           | (refine ⟨_, ⟨by decide, rfl⟩, ?_⟩)
           | (refine cond_i (fun h => ?_) (fun h => ?_)))
  all_goals (conv => whnf)
  refine Has.own0 7 30 rfl rfl ?_
  refine Has.each [0, 2, 7, 11, 12, 13] [4, 9] o.calls.length (fun k (b : Nat × List (List G)) => b.1 = (waitL 3 me 0 (o.calls.take k)).length ∧ b.2 = (waitL 3 me 0 (o.calls.take k)).map Packet.g) (fun b i =>
    St.of 33 [(0, .int .i64 me), (2, .fn 57 []), (7, .own 30 0 b.1), (11, .sl (o.calls.map Call.g)), (12, .int .i64 ((o.calls.map Call.g).length : Nat)), (13, .int .i64 i)] [] [(30, b.2)]) ⟨(0, []), _, rfl, ⟨rfl, rfl⟩, rfl⟩ (fun k b hk hI => ?_) (fun b hI => ?_)
  · obtain ⟨n, xs⟩ := b
    obtain ⟨rfl, rfl⟩ : n = _ ∧ xs = _ := hI
    have hsn := waitL_snoc 3 me 0 o.calls k hk
    have hlen := waitL_len 3 me 0 (o.calls.take k)
    rw [List.length_take] at hlen
    obtain ⟨W, hW⟩ : ∃ W, waitL 3 me 0 (o.calls.take k) = W := ⟨_, rfl⟩
    rw [hW] at hsn hlen ⊢
    have n1 := call_Key o.calls[k]
    have n2 := cancels1 (waitP 0 me 0 o.calls[k])
    have ap := app_pk W ({ waitP 0 me 0 o.calls[k] with kind := 3 } : Packet).g (by omega)
    by_cases h : o.calls[k].state = 1
    · have b1 : (o.calls[k].state == 1) = true := beq_iff_eq.2 h
      rw [if_pos h] at hsn
      refine awp_go ?_
      repeat' (conv => whnf
               first
               | (refine And.intro (by kernel_rfl) ?_)
               | (refine And.intro ⟨by kernel_rfl, by kernel_rfl⟩ ?_)
               | (refine cond_1 (lt_at hk) ?_)
               | (refine ⟨_, row_at hk, ?_⟩)
               | (refine cond_1 b1 ?_)
               | (refine Or.inl ⟨_, n1, ?_⟩)
               | (refine ⟨_, n1, ?_⟩)
               | (refine Or.inl ⟨_, n2, ?_⟩)
               | (refine ⟨_, n2, ?_⟩)
               | (refine ⟨ap, ?_⟩)
               | (refine cond_f ?_ ?_)
               | (refine ⟨_, ⟨by decide, rfl⟩, ?_⟩)
               | (refine cond_i (fun h => ?_) (fun h => ?_)))
      all_goals (conv => whnf)
      refine ⟨(_, _), _, rfl, ⟨?_, ?_⟩, up1 hk (by omega)⟩
      · rw [hsn]; simp
      · rw [hsn]; exact own_snoc rfl
    · have b1 : (o.calls[k].state == 1) = false := beq_eq_false_iff_ne.2 h
      rw [if_neg h] at hsn
      refine awp_go ?_
      repeat' (conv => whnf
               first
               | (refine And.intro (by kernel_rfl) ?_)
               | (refine And.intro ⟨by kernel_rfl, by kernel_rfl⟩ ?_)
               | (refine cond_1 (lt_at hk) ?_)
               | (refine ⟨_, row_at hk, ?_⟩)
               | (refine cond_0 b1 ?_)
               | (refine cond_f ?_ ?_)
               | (refine ⟨_, ⟨by decide, rfl⟩, ?_⟩)
               | (refine cond_i (fun h => ?_) (fun h => ?_)))
      all_goals (conv => whnf)
      exact ⟨(_, _), _, rfl, ⟨by rw [hsn], by rw [hsn]⟩, up1 hk (by omega)⟩
  · obtain ⟨n, xs⟩ := b
    obtain ⟨rfl, rfl⟩ : n = _ ∧ xs = _ := hI
    rw [List.take_length]
    refine awp_go ?_
    repeat' (conv => whnf
             first
             | (refine And.intro (by kernel_rfl) ?_)
             | (refine And.intro ⟨by kernel_rfl, by kernel_rfl⟩ ?_)
             | (refine cond_0 lt_end ?_)
             | (refine ⟨own_le1, ?_⟩)
             | (rw [own_all1])
             | (refine cond_f ?_ ?_)
             | (refine ⟨_, ⟨by decide, rfl⟩, ?_⟩)
             | (refine cond_i (fun h => ?_) (fun h => ?_)))
    all_goals (conv => whnf)
    all_goals rfl
theorem waiting_K (me u : Int) (o : Owner) (hs : o.calls.length ≤ 31) (hu : Fv Tryd.prog 42 [.int .i64 o.until] (.int .i64 u)) :
    Fp Tryd.prog 56 [.int .i64 me, .agg o.g, .fn 58 [.ptr 0 0]] [o.g] [] (.own 0 0 (waitL 4 me u o.calls).length, [some o.g], [some ((waitL 4 me u o.calls).map Packet.g)]) := by
  refine Fp.of_awp Tryd.func56 rfl (by kernel_rfl) (Nat.le_of_ble_eq_true rfl) ?_
  repeat' (conv => whnf
           first
           | (refine And.intro (by kernel_rfl) ?_)
           | (refine And.intro ⟨by kernel_rfl, by kernel_rfl⟩ ?_)
           | (refine cond_f ?_ ?_)
           | (refine ⟨_, ⟨by decide, rfl⟩, ?_⟩)
           | (refine cond_i (fun h => ?_) (fun h => ?_)))
  all_goals (conv => whnf)
  refine Has.own0 7 30 rfl rfl ?_
  refine Has.each [0, 2, 7, 11, 12, 13] [4, 9] o.calls.length (fun k (b : Nat × List (List G)) => b.1 = (waitL 4 me u (o.calls.take k)).length ∧ b.2 = (waitL 4 me u (o.calls.take k)).map Packet.g) (fun b i =>
    St.ofP 33 1 0 [(0, .int .i64 me), (2, .fn 58 [.ptr 41 0]), (7, .own 30 0 b.1), (11, .sl (o.calls.map Call.g)), (12, .int .i64 ((o.calls.map Call.g).length : Nat)), (13, .int .i64 i)] [(41, o.g)] [(30, b.2)]) ⟨(0, []), _, rfl, ⟨rfl, rfl⟩, rfl⟩ (fun k b hk hI => ?_) (fun b hI => ?_)
  · obtain ⟨n, xs⟩ := b
    obtain ⟨rfl, rfl⟩ : n = _ ∧ xs = _ := hI
    have hsn := waitL_snoc 4 me u o.calls k hk
    have hlen := waitL_len 4 me u (o.calls.take k)
    rw [List.length_take] at hlen
    obtain ⟨W, hW⟩ : ∃ W, waitL 4 me u (o.calls.take k) = W := ⟨_, rfl⟩
    rw [hW] at hsn hlen ⊢
    have n1 := call_Key o.calls[k]
    have n2 := keeps1 (waitP 0 me 0 o.calls[k]) o u hu
    have ap := app_pk W ({ waitP 0 me 0 o.calls[k] with kind := 4, «until» := u } : Packet).g (by omega)
    by_cases h : o.calls[k].state = 1
    · have b1 : (o.calls[k].state == 1) = true := beq_iff_eq.2 h
      rw [if_pos h] at hsn
      refine awp_go ?_
      repeat' (conv => whnf
               first
               | (refine And.intro (by kernel_rfl) ?_)
               | (refine And.intro ⟨by kernel_rfl, by kernel_rfl⟩ ?_)
               | (refine cond_1 (lt_at hk) ?_)
               | (refine ⟨_, row_at hk, ?_⟩)
               | (refine cond_1 b1 ?_)
               | (refine Or.inl ⟨_, n1, ?_⟩)
               | (refine ⟨_, n1, ?_⟩)
               | (refine Or.inr ⟨_, n2, ?_⟩)
               | (refine ⟨ap, ?_⟩)
               | (refine cond_f ?_ ?_)
               | (refine ⟨_, ⟨by decide, rfl⟩, ?_⟩)
               | (refine cond_i (fun h => ?_) (fun h => ?_)))
      all_goals (conv => whnf)
      refine ⟨(_, _), _, rfl, ⟨?_, ?_⟩, up1 hk (by omega)⟩
      · rw [hsn]; simp
      · rw [hsn]; exact own_snoc rfl
    · have b1 : (o.calls[k].state == 1) = false := beq_eq_false_iff_ne.2 h
      rw [if_neg h] at hsn
      refine awp_go ?_
      repeat' (conv => whnf
               first
               | (refine And.intro (by kernel_rfl) ?_)
               | (refine And.intro ⟨by kernel_rfl, by kernel_rfl⟩ ?_)
               | (refine cond_1 (lt_at hk) ?_)
               | (refine ⟨_, row_at hk, ?_⟩)
               | (refine cond_0 b1 ?_)
               | (refine cond_f ?_ ?_)
               | (refine ⟨_, ⟨by decide, rfl⟩, ?_⟩)
               | (refine cond_i (fun h => ?_) (fun h => ?_)))
      all_goals (conv => whnf)
      exact ⟨(_, _), _, rfl, ⟨by rw [hsn], by rw [hsn]⟩, up1 hk (by omega)⟩
  · obtain ⟨n, xs⟩ := b
    obtain ⟨rfl, rfl⟩ : n = _ ∧ xs = _ := hI
    rw [List.take_length]
    refine awp_go ?_
    repeat' (conv => whnf
             first
             | (refine And.intro (by kernel_rfl) ?_)
             | (refine And.intro ⟨by kernel_rfl, by kernel_rfl⟩ ?_)
             | (refine cond_0 lt_end ?_)
             | (refine cond_f ?_ ?_)
             | (refine ⟨_, ⟨by decide, rfl⟩, ?_⟩)
             | (refine cond_i (fun h => ?_) (fun h => ?_)))
    all_goals (conv => whnf)
    all_goals rfl
theorem sender_Cancels (me : Int) (o : Owner) (hs : o.calls.length ≤ 31) : Fv Tryd.prog 26 [.int .i64 me, .agg o.g] (.sl ((waitL 3 me 0 o.calls).map Packet.g)) := by
  refine Fv.of_awp Tryd.func26 rfl (by kernel_rfl) rfl (Nat.le_of_ble_eq_true rfl) ?_
  repeat' (conv => whnf
           first
           | (refine And.intro (by kernel_rfl) ?_)
           | (refine And.intro ⟨by kernel_rfl, by kernel_rfl⟩ ?_)
           | (refine Or.inl ⟨_, waiting_C me o hs, ?_⟩)
           | (refine ⟨_, waiting_C me o hs, ?_⟩)
           | (refine cond_f ?_ ?_)
           | (refine ⟨_, ⟨by decide, rfl⟩, ?_⟩)
           | (refine cond_i (fun h => ?_) (fun h => ?_)))
  all_goals (conv => whnf)
  all_goals rfl
theorem sender_Keeps (me u : Int) (o : Owner) (hs : o.calls.length ≤ 31) (hu : Fv Tryd.prog 42 [.int .i64 o.until] (.int .i64 u)) : Fv Tryd.prog 28 [.int .i64 me, .agg o.g] (.sl ((waitL 4 me u o.calls).map Packet.g)) := by
  refine Fv.of_awp Tryd.func28 rfl (by kernel_rfl) rfl (Nat.le_of_ble_eq_true rfl) ?_
  repeat' (conv => whnf
           first
           | (refine And.intro (by kernel_rfl) ?_)
           | (refine And.intro ⟨by kernel_rfl, by kernel_rfl⟩ ?_)
           | (refine Or.inr ⟨_, waiting_K me u o hs hu, ?_⟩)
           | (refine ⟨own_le1, ?_⟩)
           | (rw [own_all1])
           | (refine cond_f ?_ ?_)
           | (refine ⟨_, ⟨by decide, rfl⟩, ?_⟩)
           | (refine cond_i (fun h => ?_) (fun h => ?_)))
  all_goals (conv => whnf)
  all_goals rfl
theorem ref26_Waiting3 (me : Int) (o : Owner) (hs : o.calls.length ≤ 31) : Fv Tryd.prog 27 [.int .i64 3, .int .i64 me, .agg o.g] (.sl ((waitL 3 me 0 o.calls).map Packet.g)) := by
  refine Fv.of_awp Tryd.func27 rfl (by kernel_rfl) rfl (Nat.le_of_ble_eq_true rfl) ?_
  repeat' (conv => whnf
           first
           | (refine And.intro (by kernel_rfl) ?_)
           | (refine And.intro ⟨by kernel_rfl, by kernel_rfl⟩ ?_)
           | (refine cond_f ?_ ?_)
           | (refine ⟨_, ⟨by decide, rfl⟩, ?_⟩)
           | (refine cond_i (fun h => ?_) (fun h => ?_)))
  all_goals (conv => whnf)
  refine Has.own0 7 42 rfl rfl ?_
  refine Has.each [0, 1, 5, 7, 8] [9, 10] o.calls.length (fun k (b : Nat × List (List G)) => b.1 = (waitL 3 me 0 (o.calls.take k)).length ∧ b.2 = (waitL 3 me 0 (o.calls.take k)).map Packet.g) (fun b i =>
    St.of 44 [(0, .int .i64 3), (1, .int .i64 me), (5, .ptr 5 0), (7, .own 42 0 b.1), (8, .int .i64 i)] [(5, o.g)] [(42, b.2)]) ⟨(0, []), _, rfl, ⟨rfl, rfl⟩, rfl⟩ (fun k b hk hI => ?_) (fun b hI => ?_)
  · obtain ⟨n, xs⟩ := b
    obtain ⟨rfl, rfl⟩ : n = _ ∧ xs = _ := hI
    have hsn := waitL_snoc 3 me 0 o.calls k hk
    have hlen := waitL_len 3 me 0 (o.calls.take k)
    rw [List.length_take] at hlen
    obtain ⟨W, hW⟩ : ∃ W, waitL 3 me 0 (o.calls.take k) = W := ⟨_, rfl⟩
    rw [hW] at hsn hlen ⊢
    have n1 := ref21_Key o.calls[k]
    have ap := app_pk W (waitP 3 me 0 o.calls[k]).g (by omega)
    by_cases h : o.calls[k].state = 1
    · have b0 : (o.calls[k].state == 1) = true := beq_iff_eq.2 h
      have b1 : (!(o.calls[k].state == 1)) = false := by rw [b0]; rfl
      rw [if_pos h] at hsn
      refine awp_go ?_
      repeat' (conv => whnf
               first
               | (refine And.intro (by kernel_rfl) ?_)
               | (refine And.intro ⟨by kernel_rfl, by kernel_rfl⟩ ?_)
               | (refine cond_1 (lt_at hk) ?_)
               | (refine ⟨_, row_at hk, ?_⟩)
               | (refine cond_0 b1 ?_)
               | (refine cond_1 b0 ?_)
               | (refine Or.inl ⟨_, n1, ?_⟩)
               | (refine ⟨_, n1, ?_⟩)
               | (refine ⟨ap, ?_⟩)
               | (refine cond_f ?_ ?_)
               | (refine ⟨_, ⟨by decide, rfl⟩, ?_⟩)
               | (refine cond_i (fun h => ?_) (fun h => ?_)))
      all_goals (conv => whnf)
      refine ⟨(_, _), _, rfl, ⟨?_, ?_⟩, up1 hk (by omega)⟩
      · rw [hsn]; simp
      · rw [hsn]; exact own_snoc rfl
    · have b0 : (o.calls[k].state == 1) = false := beq_eq_false_iff_ne.2 h
      have b1 : (!(o.calls[k].state == 1)) = true := by rw [b0]; rfl
      rw [if_neg h] at hsn
      refine awp_go ?_
      repeat' (conv => whnf
               first
               | (refine And.intro (by kernel_rfl) ?_)
               | (refine And.intro ⟨by kernel_rfl, by kernel_rfl⟩ ?_)
               | (refine cond_1 (lt_at hk) ?_)
               | (refine ⟨_, row_at hk, ?_⟩)
               | (refine cond_1 b1 ?_)
               | (refine cond_0 b0 ?_)
               | (refine cond_f ?_ ?_)
               | (refine ⟨_, ⟨by decide, rfl⟩, ?_⟩)
               | (refine cond_i (fun h => ?_) (fun h => ?_)))
      all_goals (conv => whnf)
      exact ⟨(_, _), _, rfl, ⟨by rw [hsn], by rw [hsn]⟩, up1 hk (by omega)⟩
  · obtain ⟨n, xs⟩ := b
    obtain ⟨rfl, rfl⟩ : n = _ ∧ xs = _ := hI
    rw [List.take_length]
    refine awp_go ?_
    repeat' (conv => whnf
             first
             | (refine And.intro (by kernel_rfl) ?_)
             | (refine And.intro ⟨by kernel_rfl, by kernel_rfl⟩ ?_)
             | (refine cond_0 lt_end ?_)
             | (refine ⟨own_le1, ?_⟩)
             | (rw [own_all1])
             | (refine cond_f ?_ ?_)
             | (refine ⟨_, ⟨by decide, rfl⟩, ?_⟩)
             | (refine cond_i (fun h => ?_) (fun h => ?_)))
    all_goals (conv => whnf)
    all_goals rfl
theorem ref26_Waiting4 (me u : Int) (o : Owner) (hs : o.calls.length ≤ 31) (hu : Fv Tryd.prog 16 [.int .i64 o.until] (.int .i64 u)) : Fv Tryd.prog 27 [.int .i64 4, .int .i64 me, .agg o.g] (.sl ((waitL 4 me u o.calls).map Packet.g)) := by
  refine Fv.of_awp Tryd.func27 rfl (by kernel_rfl) rfl (Nat.le_of_ble_eq_true rfl) ?_
  repeat' (conv => whnf
           first
           | (refine And.intro (by kernel_rfl) ?_)
           | (refine And.intro ⟨by kernel_rfl, by kernel_rfl⟩ ?_)
           | (refine cond_f ?_ ?_)
           | (refine ⟨_, ⟨by decide, rfl⟩, ?_⟩)
           | (refine cond_i (fun h => ?_) (fun h => ?_)))
  all_goals (conv => whnf)
  refine Has.own0 7 42 rfl rfl ?_
  refine Has.each [0, 1, 5, 7, 8] [9, 10] o.calls.length (fun k (b : Nat × List (List G)) => b.1 = (waitL 4 me u (o.calls.take k)).length ∧ b.2 = (waitL 4 me u (o.calls.take k)).map Packet.g) (fun b i =>
    St.of 44 [(0, .int .i64 4), (1, .int .i64 me), (5, .ptr 5 0), (7, .own 42 0 b.1), (8, .int .i64 i)] [(5, o.g)] [(42, b.2)]) ⟨(0, []), _, rfl, ⟨rfl, rfl⟩, rfl⟩ (fun k b hk hI => ?_) (fun b hI => ?_)
  · obtain ⟨n, xs⟩ := b
    obtain ⟨rfl, rfl⟩ : n = _ ∧ xs = _ := hI
    have hsn := waitL_snoc 4 me u o.calls k hk
    have hlen := waitL_len 4 me u (o.calls.take k)
    rw [List.length_take] at hlen
    obtain ⟨W, hW⟩ : ∃ W, waitL 4 me u (o.calls.take k) = W := ⟨_, rfl⟩
    rw [hW] at hsn hlen ⊢
    have n1 := ref21_Key o.calls[k]
    have ap := app_pk W (waitP 4 me u o.calls[k]).g (by omega)
    by_cases h : o.calls[k].state = 1
    · have b0 : (o.calls[k].state == 1) = true := beq_iff_eq.2 h
      have b1 : (!(o.calls[k].state == 1)) = false := by rw [b0]; rfl
      rw [if_pos h] at hsn
      refine awp_go ?_
      repeat' (conv => whnf
               first
               | (refine And.intro (by kernel_rfl) ?_)
               | (refine And.intro ⟨by kernel_rfl, by kernel_rfl⟩ ?_)
               | (refine cond_1 (lt_at hk) ?_)
               | (refine ⟨_, row_at hk, ?_⟩)
               | (refine cond_0 b1 ?_)
               | (refine cond_1 b0 ?_)
               | (refine Or.inl ⟨_, n1, ?_⟩)
               | (refine ⟨_, n1, ?_⟩)
               | (refine Or.inl ⟨_, hu, ?_⟩)
               | (refine ⟨_, hu, ?_⟩)
               | (refine ⟨ap, ?_⟩)
               | (refine cond_f ?_ ?_)
               | (refine ⟨_, ⟨by decide, rfl⟩, ?_⟩)
               | (refine cond_i (fun h => ?_) (fun h => ?_)))
      all_goals (conv => whnf)
      refine ⟨(_, _), _, rfl, ⟨?_, ?_⟩, up1 hk (by omega)⟩
      · rw [hsn]; simp
      · rw [hsn]; exact own_snoc rfl
    · have b0 : (o.calls[k].state == 1) = false := beq_eq_false_iff_ne.2 h
      have b1 : (!(o.calls[k].state == 1)) = true := by rw [b0]; rfl
      rw [if_neg h] at hsn
      refine awp_go ?_
      repeat' (conv => whnf
               first
               | (refine And.intro (by kernel_rfl) ?_)
               | (refine And.intro ⟨by kernel_rfl, by kernel_rfl⟩ ?_)
               | (refine cond_1 (lt_at hk) ?_)
               | (refine ⟨_, row_at hk, ?_⟩)
               | (refine cond_1 b1 ?_)
               | (refine cond_0 b0 ?_)
               | (refine cond_f ?_ ?_)
               | (refine ⟨_, ⟨by decide, rfl⟩, ?_⟩)
               | (refine cond_i (fun h => ?_) (fun h => ?_)))
      all_goals (conv => whnf)
      exact ⟨(_, _), _, rfl, ⟨by rw [hsn], by rw [hsn]⟩, up1 hk (by omega)⟩
  · obtain ⟨n, xs⟩ := b
    obtain ⟨rfl, rfl⟩ : n = _ ∧ xs = _ := hI
    rw [List.take_length]
    refine awp_go ?_
    repeat' (conv => whnf
             first
             | (refine And.intro (by kernel_rfl) ?_)
             | (refine And.intro ⟨by kernel_rfl, by kernel_rfl⟩ ?_)
             | (refine cond_0 lt_end ?_)
             | (refine ⟨own_le1, ?_⟩)
             | (rw [own_all1])
             | (refine cond_f ?_ ?_)
             | (refine ⟨_, ⟨by decide, rfl⟩, ?_⟩)
             | (refine cond_i (fun h => ?_) (fun h => ?_)))
    all_goals (conv => whnf)
    all_goals rfl
end Go.Proofs.YtfacmphjplablaaDoor.Cn
