
/- Contracts of the functions on calls, and of the law of what is done to them. No condition but that the attempt is a number of 64 bits. -/
import Derived.Test.YtfacmphjplablaaDoorCn5
namespace Go.Proofs.YtfacmphjplablaaDoor.Cn
open Go Go.Proofs Go.Proofs.YtfacmphjplablaaDoor.Av Go.Proofs.YtfacmphjplablaaDoor.Sp
set_option linter.unusedVariables false
set_option linter.unusedSimpArgs false
set_option maxRecDepth 100000

theorem call_Begin (c : Sp.Call) (n : Int) : Fv Tryd.prog 38 [.agg c.g, .int .i64 n] (.agg (cBegin c n).g) := by
  refine Fv.of_awp Tryd.func38 rfl (by kernel_rfl) rfl (Nat.le_of_ble_eq_true rfl) ?_
  repeat' (conv => whnf
           first
           | (refine And.intro (by kernel_rfl) ?_)
           | (refine And.intro ⟨by kernel_rfl, by kernel_rfl⟩ ?_)
           | (refine Or.inl ⟨_, ticks_Clamp _, ?_⟩)
           | (refine ⟨_, ticks_Clamp _, ?_⟩)
           | (refine cond_f ?_ ?_)
           | (refine ⟨_, ⟨by decide, rfl⟩, ?_⟩)
           | (refine cond_i (fun h => ?_) (fun h => ?_)))
  all_goals (conv => whnf)
  all_goals
    simp only [beq_iff_eq, beq_eq_false_iff_ne, bne_iff_ne, bne_eq_false_iff_eq, ne_eq, decide_eq_true_eq, decide_eq_false_iff_not] at *
    unfold cBegin
    split <;> first | rfl | (exfalso; omega)
theorem ref21_Begin (c : Sp.Call) (n : Int) : Fv Tryd.prog 44 [.agg c.g, .int .i64 n] (.agg (cBegin c n).g) := by
  refine Fv.of_awp Tryd.func44 rfl (by kernel_rfl) rfl (Nat.le_of_ble_eq_true rfl) ?_
  repeat' (conv => whnf
           first
           | (refine And.intro (by kernel_rfl) ?_)
           | (refine And.intro ⟨by kernel_rfl, by kernel_rfl⟩ ?_)
           | (refine Or.inl ⟨_, ref01_Clamp _, ?_⟩)
           | (refine ⟨_, ref01_Clamp _, ?_⟩)
           | (refine cond_f ?_ ?_)
           | (refine ⟨_, ⟨by decide, rfl⟩, ?_⟩)
           | (refine cond_i (fun h => ?_) (fun h => ?_)))
  all_goals (conv => whnf)
  all_goals
    simp only [beq_iff_eq, beq_eq_false_iff_ne, bne_iff_ne, bne_eq_false_iff_eq, ne_eq, decide_eq_true_eq, decide_eq_false_iff_not] at *
    unfold cBegin
    split <;> first | rfl | (exfalso; omega)
theorem call_Ends (c : Sp.Call) (n : Int) : Fv Tryd.prog 39 [.agg c.g, .int .i64 n] (.agg (cEnds c n).g) := by
  refine Fv.of_awp Tryd.func39 rfl (by kernel_rfl) rfl (Nat.le_of_ble_eq_true rfl) ?_
  repeat' (conv => whnf
           first
           | (refine And.intro (by kernel_rfl) ?_)
           | (refine And.intro ⟨by kernel_rfl, by kernel_rfl⟩ ?_)
           | (refine Or.inl ⟨_, code_Clean _, ?_⟩)
           | (refine ⟨_, code_Clean _, ?_⟩)
           | (refine cond_f ?_ ?_)
           | (refine ⟨_, ⟨by decide, rfl⟩, ?_⟩)
           | (refine cond_i (fun h => ?_) (fun h => ?_)))
  all_goals (conv => whnf)
  all_goals
    simp only [beq_iff_eq, beq_eq_false_iff_ne, bne_iff_ne, bne_eq_false_iff_eq, ne_eq, decide_eq_true_eq, decide_eq_false_iff_not] at *
    unfold cEnds
    split <;> first | rfl | (exfalso; omega)
theorem ref21_Ends (c : Sp.Call) (n : Int) : Fv Tryd.prog 45 [.agg c.g, .int .i64 n] (.agg (cEnds c n).g) := by
  refine Fv.of_awp Tryd.func45 rfl (by kernel_rfl) rfl (Nat.le_of_ble_eq_true rfl) ?_
  repeat' (conv => whnf
           first
           | (refine And.intro (by kernel_rfl) ?_)
           | (refine And.intro ⟨by kernel_rfl, by kernel_rfl⟩ ?_)
           | (refine Or.inl ⟨_, ref05_Clean _, ?_⟩)
           | (refine ⟨_, ref05_Clean _, ?_⟩)
           | (refine cond_f ?_ ?_)
           | (refine ⟨_, ⟨by decide, rfl⟩, ?_⟩)
           | (refine cond_i (fun h => ?_) (fun h => ?_)))
  all_goals (conv => whnf)
  all_goals
    simp only [beq_iff_eq, beq_eq_false_iff_ne, bne_iff_ne, bne_eq_false_iff_eq, ne_eq, decide_eq_true_eq, decide_eq_false_iff_not] at *
    unfold cEnds
    split <;> first | rfl | (exfalso; omega)
theorem cEnds_on {c : Sp.Call} {k : Int} (h : c.state = k) (hk : k ≠ 3) (n : Int) : cEnds c n = { c with state := 3, code := clean n, value := 0, ready := 0 } := by
  unfold cEnds; rw [if_neg (by omega)]
theorem call_Good (c : Sp.Call) (n : Int) : Fv Tryd.prog 37 [.agg c.g, .int .i64 n] (.agg (cGood c n).g) := by
  refine Fv.of_awp Tryd.func37 rfl (by kernel_rfl) rfl (Nat.le_of_ble_eq_true rfl) ?_
  by_cases hs : c.state = 1
  · have he := call_Ends c 0
    rw [cEnds_on hs (by decide)] at he
    have hg : cGood c n = { c with state := 3, code := clean 0, value := value n, ready := 0 } := by unfold cGood; rw [if_pos hs]
    have hn : (c.state != 1) = false := by simpa using hs
    have ev : ∀ v : Int, (if 2147483647 < (if 0 > v then 0 else v) then 2147483647 else (if 0 > v then 0 else v)) = value v := by intro v; unfold value; (repeat' split) <;> omega
    rw [hg, ← ev]
    repeat' (conv => whnf
             first
             | (refine And.intro (by kernel_rfl) ?_)
             | (refine And.intro ⟨by kernel_rfl, by kernel_rfl⟩ ?_)
             | (refine cond_0 hn ?_)
             | (refine Or.inl ⟨_, he, ?_⟩)
             | (refine ⟨_, he, ?_⟩)
             | (refine cond_f ?_ ?_)
             | (refine ⟨_, ⟨by decide, rfl⟩, ?_⟩)
             | (refine cond_i (fun h => ?_) (fun h => ?_)))
    all_goals (conv => whnf)
    all_goals rfl
  · have hg : cGood c n = c := by unfold cGood; rw [if_neg hs]
    have hn : (c.state != 1) = true := by simpa using hs
    rw [hg]
    repeat' (conv => whnf
             first
             | (refine And.intro (by kernel_rfl) ?_)
             | (refine And.intro ⟨by kernel_rfl, by kernel_rfl⟩ ?_)
             | (refine cond_1 hn ?_)
             | (refine cond_f ?_ ?_)
             | (refine ⟨_, ⟨by decide, rfl⟩, ?_⟩)
             | (refine cond_i (fun h => ?_) (fun h => ?_)))
    all_goals (conv => whnf)
    all_goals rfl
theorem call_Bad (c : Sp.Call) (conf : Config) (f : Facts) (ha : c.att ≤ 9223372036854775807) : Fv Tryd.prog 61 [.agg c.g, .agg conf.g, .agg f.g] (.tup [.agg (cBad c conf f).1.g, .int .i64 (cBad c conf f).2]) := by
  refine Fv.of_awp Tryd.func61 rfl (by kernel_rfl) rfl (Nat.le_of_ble_eq_true rfl) ?_
  by_cases hs : c.state = 1
  · have he := call_Ends c f.code
    rw [cEnds_on hs (by decide)] at he
    have hd := policy_Decide conf { f with att := c.att, committed := c.committed } ha
    have hn : (c.state != 1) = false := by simpa using hs
    unfold cBad
    rw [if_pos hs]
    generalize decideP conf { f with att := c.att, committed := c.committed } = r at *
    repeat' (conv => whnf
             first
             | (refine And.intro (by kernel_rfl) ?_)
             | (refine And.intro ⟨by kernel_rfl, by kernel_rfl⟩ ?_)
             | (refine cond_0 hn ?_)
             | (refine Or.inl ⟨_, hd, ?_⟩)
             | (refine ⟨_, hd, ?_⟩)
             | (refine Or.inl ⟨_, he, ?_⟩)
             | (refine ⟨_, he, ?_⟩)
             | (refine cond_f ?_ ?_)
             | (refine ⟨_, ⟨by decide, rfl⟩, ?_⟩)
             | (refine cond_i (fun h => ?_) (fun h => ?_)))
    all_goals (conv => whnf)
    all_goals
      simp only [bne_iff_ne, bne_eq_false_iff_eq, ne_eq] at *
      split <;> first | rfl | (exfalso; omega) | (rename_i hz; rw [hz]; rfl)
  · have hg : cBad c conf f = (c, 1) := by unfold cBad; rw [if_neg hs]
    have hn : (c.state != 1) = true := by simpa using hs
    rw [hg]
    repeat' (conv => whnf
             first
             | (refine And.intro (by kernel_rfl) ?_)
             | (refine And.intro ⟨by kernel_rfl, by kernel_rfl⟩ ?_)
             | (refine cond_1 hn ?_)
             | (refine cond_f ?_ ?_)
             | (refine ⟨_, ⟨by decide, rfl⟩, ?_⟩)
             | (refine cond_i (fun h => ?_) (fun h => ?_)))
    all_goals (conv => whnf)
    all_goals rfl
theorem ref21_Bad (c : Sp.Call) (conf : Config) (f : Facts) (ha : c.att ≤ 9223372036854775807) : Fv Tryd.prog 65 [.agg c.g, .agg conf.g, .agg f.g] (.tup [.agg (cBad c conf f).1.g, .int .i64 (cBad c conf f).2]) := by
  refine Fv.of_awp Tryd.func65 rfl (by kernel_rfl) rfl (Nat.le_of_ble_eq_true rfl) ?_
  by_cases hs : c.state = 1
  · have he := ref21_Ends c f.code
    rw [cEnds_on hs (by decide)] at he
    have hd := ref20_Decide conf { f with att := c.att, committed := c.committed } ha
    have hn : (c.state != 1) = false := by simpa using hs
    unfold cBad
    rw [if_pos hs]
    generalize decideP conf { f with att := c.att, committed := c.committed } = r at *
    repeat' (conv => whnf
             first
             | (refine And.intro (by kernel_rfl) ?_)
             | (refine And.intro ⟨by kernel_rfl, by kernel_rfl⟩ ?_)
             | (refine cond_0 hn ?_)
             | (refine Or.inl ⟨_, hd, ?_⟩)
             | (refine ⟨_, hd, ?_⟩)
             | (refine Or.inl ⟨_, he, ?_⟩)
             | (refine ⟨_, he, ?_⟩)
             | (refine cond_f ?_ ?_)
             | (refine ⟨_, ⟨by decide, rfl⟩, ?_⟩)
             | (refine cond_i (fun h => ?_) (fun h => ?_)))
    all_goals (conv => whnf)
    all_goals
      simp only [beq_iff_eq, beq_eq_false_iff_ne, ne_eq] at *
      split <;> first | rfl | (exfalso; omega) | (rename_i hz; rw [hz]; rfl)
  · have hg : cBad c conf f = (c, 1) := by unfold cBad; rw [if_neg hs]
    have hn : (c.state != 1) = true := by simpa using hs
    rw [hg]
    repeat' (conv => whnf
             first
             | (refine And.intro (by kernel_rfl) ?_)
             | (refine And.intro ⟨by kernel_rfl, by kernel_rfl⟩ ?_)
             | (refine cond_1 hn ?_)
             | (refine cond_f ?_ ?_)
             | (refine ⟨_, ⟨by decide, rfl⟩, ?_⟩)
             | (refine cond_i (fun h => ?_) (fun h => ?_)))
    all_goals (conv => whnf)
    all_goals rfl
theorem call_Key (c : Sp.Call) : Fv Tryd.prog 41 [.agg c.g] (.agg (Key.mk c.id c.att).g) := by
  refine Fv.of_awp Tryd.func41 rfl (by kernel_rfl) rfl (Nat.le_of_ble_eq_true rfl) ?_
  repeat' (conv => whnf
           first
           | (refine And.intro (by kernel_rfl) ?_)
           | (refine And.intro ⟨by kernel_rfl, by kernel_rfl⟩ ?_)
           | (refine cond_f ?_ ?_)
           | (refine ⟨_, ⟨by decide, rfl⟩, ?_⟩)
           | (refine cond_i (fun h => ?_) (fun h => ?_)))
  all_goals (conv => whnf)
  all_goals rfl
theorem ref21_Key (c : Sp.Call) : Fv Tryd.prog 47 [.agg c.g] (.agg (Key.mk c.id c.att).g) := by
  refine Fv.of_awp Tryd.func47 rfl (by kernel_rfl) rfl (Nat.le_of_ble_eq_true rfl) ?_
  repeat' (conv => whnf
           first
           | (refine And.intro (by kernel_rfl) ?_)
           | (refine And.intro ⟨by kernel_rfl, by kernel_rfl⟩ ?_)
           | (refine cond_f ?_ ?_)
           | (refine ⟨_, ⟨by decide, rfl⟩, ?_⟩)
           | (refine cond_i (fun h => ?_) (fun h => ?_)))
  all_goals (conv => whnf)
  all_goals rfl
end Go.Proofs.YtfacmphjplablaaDoor.Cn
