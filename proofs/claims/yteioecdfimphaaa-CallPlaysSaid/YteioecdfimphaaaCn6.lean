/- Contracts of the functions on calls, and of the law of what is done to them. No condition but that the attempt is a number of 64 bits. -/
import Derived.Test.YteioecdfimphaaaCn5
namespace Go.Proofs.Yteioecdfimphaaa.Cn
open Go Go.Proofs Go.Proofs.Yteioecdfimphaaa.Av Go.Proofs.Yteioecdfimphaaa.Sp
set_option linter.unusedVariables false
set_option linter.unusedSimpArgs false
set_option maxRecDepth 100000

theorem call_Begin (c : Sp.Call) (n : Int) : Fv Try.prog 40 [.agg c.g, .int .i64 n] (.agg (cBegin c n).g) := by
  refine Fv.of_awp Try.func40 rfl (by kernel_rfl) rfl (Nat.le_of_ble_eq_true rfl) ?_
  repeat' (conv => whnf
           first
           | (refine And.intro (by kernel_rfl) ?_)
           | (refine ⟨_, ticks_Clamp _, ?_⟩)
           | (refine cond_f ?_ ?_)
           | (refine ⟨_, ⟨by decide, rfl⟩, ?_⟩)
           | (refine cond_i (fun h => ?_) (fun h => ?_)))
  all_goals (conv => whnf)
  all_goals
    simp only [beq_iff_eq, beq_eq_false_iff_ne, bne_iff_ne, bne_eq_false_iff_eq, ne_eq, decide_eq_true_eq, decide_eq_false_iff_not] at *
    unfold cBegin
    split <;> first | rfl | (exfalso; omega)
theorem ref21_Begin (c : Sp.Call) (n : Int) : Fv Try.prog 74 [.agg c.g, .int .i64 n] (.agg (cBegin c n).g) := by
  refine Fv.of_awp Try.func74 rfl (by kernel_rfl) rfl (Nat.le_of_ble_eq_true rfl) ?_
  repeat' (conv => whnf
           first
           | (refine And.intro (by kernel_rfl) ?_)
           | (refine ⟨_, ref01_Clamp _, ?_⟩)
           | (refine cond_f ?_ ?_)
           | (refine ⟨_, ⟨by decide, rfl⟩, ?_⟩)
           | (refine cond_i (fun h => ?_) (fun h => ?_)))
  all_goals (conv => whnf)
  all_goals
    simp only [beq_iff_eq, beq_eq_false_iff_ne, bne_iff_ne, bne_eq_false_iff_eq, ne_eq, decide_eq_true_eq, decide_eq_false_iff_not] at *
    unfold cBegin
    split <;> first | rfl | (exfalso; omega)
theorem call_Ends (c : Sp.Call) (n : Int) : Fv Try.prog 70 [.agg c.g, .int .i64 n] (.agg (cEnds c n).g) := by
  refine Fv.of_awp Try.func70 rfl (by kernel_rfl) rfl (Nat.le_of_ble_eq_true rfl) ?_
  repeat' (conv => whnf
           first
           | (refine And.intro (by kernel_rfl) ?_)
           | (refine ⟨_, code_Clean _, ?_⟩)
           | (refine cond_f ?_ ?_)
           | (refine ⟨_, ⟨by decide, rfl⟩, ?_⟩)
           | (refine cond_i (fun h => ?_) (fun h => ?_)))
  all_goals (conv => whnf)
  all_goals
    simp only [beq_iff_eq, beq_eq_false_iff_ne, bne_iff_ne, bne_eq_false_iff_eq, ne_eq, decide_eq_true_eq, decide_eq_false_iff_not] at *
    unfold cEnds
    split <;> first | rfl | (exfalso; omega)
theorem ref21_Ends (c : Sp.Call) (n : Int) : Fv Try.prog 78 [.agg c.g, .int .i64 n] (.agg (cEnds c n).g) := by
  refine Fv.of_awp Try.func78 rfl (by kernel_rfl) rfl (Nat.le_of_ble_eq_true rfl) ?_
  repeat' (conv => whnf
           first
           | (refine And.intro (by kernel_rfl) ?_)
           | (refine ⟨_, ref05_Clean _, ?_⟩)
           | (refine cond_f ?_ ?_)
           | (refine ⟨_, ⟨by decide, rfl⟩, ?_⟩)
           | (refine cond_i (fun h => ?_) (fun h => ?_)))
  all_goals (conv => whnf)
  all_goals
    simp only [beq_iff_eq, beq_eq_false_iff_ne, bne_iff_ne, bne_eq_false_iff_eq, ne_eq, decide_eq_true_eq, decide_eq_false_iff_not] at *
    unfold cEnds
    split <;> first | rfl | (exfalso; omega)
theorem cEnds_on {c : Sp.Call} {k : Int} (h : c.state = k) (hk : k ≠ 3) (n : Int) : cEnds c n = { c with state := 3, code := clean n, value := 0, ready := 0 } := by
  unfold cEnds; rw [if_neg (by omega)]
theorem call_Good (c : Sp.Call) (n : Int) : Fv Try.prog 68 [.agg c.g, .int .i64 n] (.agg (cGood c n).g) := by
  refine Fv.of_awp Try.func68 rfl (by kernel_rfl) rfl (Nat.le_of_ble_eq_true rfl) ?_
  by_cases hs : c.state = 1
  · have he := call_Ends c 0
    rw [cEnds_on hs (by decide)] at he
    have hg : cGood c n = { c with state := 3, code := clean 0, value := value n, ready := 0 } := by unfold cGood; rw [if_pos hs]
    have hn : (c.state != 1) = false := by simpa using hs
    have ev : ∀ v : Int, (if 2147483647 < (if 0 > v then 0 else v) then 2147483647 else (if 0 > v then 0 else v)) = value v := by intro v; unfold value; (repeat' split) <;> omega
    rw [hg, ← ev]
    repeat' (conv => whnf
             first
             | (refine And.intro (by kernel_rfl) ?_)
             | (refine cond_0 hn ?_)
             | (refine ⟨_, he, ?_⟩)
             | (refine cond_f ?_ ?_)
             | (refine ⟨_, ⟨by decide, rfl⟩, ?_⟩)
             | (refine cond_i (fun h => ?_) (fun h => ?_)))
    all_goals (conv => whnf)
    all_goals rfl
  · have hg : cGood c n = c := by unfold cGood; rw [if_neg hs]
    have hn : (c.state != 1) = true := by simpa using hs
    rw [hg]
    repeat' (conv => whnf
             first
             | (refine And.intro (by kernel_rfl) ?_)
             | (refine cond_1 hn ?_)
             | (refine cond_f ?_ ?_)
             | (refine ⟨_, ⟨by decide, rfl⟩, ?_⟩)
             | (refine cond_i (fun h => ?_) (fun h => ?_)))
    all_goals (conv => whnf)
    all_goals rfl
theorem ref21_Good (c : Sp.Call) (n : Int) : Fv Try.prog 75 [.agg c.g, .int .i64 n] (.agg (cGood c n).g) := by
  refine Fv.of_awp Try.func75 rfl (by kernel_rfl) rfl (Nat.le_of_ble_eq_true rfl) ?_
  by_cases hs : c.state = 1
  · have he := ref21_Ends c 0
    rw [cEnds_on hs (by decide)] at he
    have hg : ∀ v, v = value n → ({ c with state := 3, code := clean 0, value := v, ready := 0 } : Sp.Call) = cGood c n := fun v e => by unfold cGood; rw [if_pos hs, e]
    have hn : (c.state == 1) = true := by simpa using hs
    repeat' (conv => whnf
             first
             | (refine And.intro (by kernel_rfl) ?_)
             | (refine cond_1 hn ?_)
             | (refine ⟨_, he, ?_⟩)
             | (refine cond_f ?_ ?_)
             | (refine ⟨_, ⟨by decide, rfl⟩, ?_⟩)
             | (refine cond_i (fun h => ?_) (fun h => ?_)))
    all_goals (conv => whnf)
    all_goals
      simp only [decide_eq_true_eq, decide_eq_false_iff_not] at *
      first
      | exact congrArg (fun c : Sp.Call => G.agg c.g) (hg _ (by unfold value; (repeat' split) <;> omega))
      | (exfalso; omega)
  · have hg : cGood c n = c := by unfold cGood; rw [if_neg hs]
    have hn : (c.state == 1) = false := by simpa using hs
    rw [hg]
    repeat' (conv => whnf
             first
             | (refine And.intro (by kernel_rfl) ?_)
             | (refine cond_0 hn ?_)
             | (refine cond_f ?_ ?_)
             | (refine ⟨_, ⟨by decide, rfl⟩, ?_⟩)
             | (refine cond_i (fun h => ?_) (fun h => ?_)))
    all_goals (conv => whnf)
    all_goals rfl
theorem call_Taken (c : Sp.Call) : Fv Try.prog 69 [.agg c.g] (.agg (cTaken c).g) := by
  refine Fv.of_awp Try.func69 rfl (by kernel_rfl) rfl (Nat.le_of_ble_eq_true rfl) ?_
  repeat' (conv => whnf
           first
           | (refine And.intro (by kernel_rfl) ?_)
           | (refine cond_f ?_ ?_)
           | (refine ⟨_, ⟨by decide, rfl⟩, ?_⟩)
           | (refine cond_i (fun h => ?_) (fun h => ?_)))
  all_goals (conv => whnf)
  all_goals
    simp only [beq_iff_eq, beq_eq_false_iff_ne, ne_eq] at *
    unfold cTaken
    split <;> first | rfl | (exfalso; omega)
theorem ref21_Taken (c : Sp.Call) : Fv Try.prog 76 [.agg c.g] (.agg (cTaken c).g) := by
  refine Fv.of_awp Try.func76 rfl (by kernel_rfl) rfl (Nat.le_of_ble_eq_true rfl) ?_
  repeat' (conv => whnf
           first
           | (refine And.intro (by kernel_rfl) ?_)
           | (refine cond_f ?_ ?_)
           | (refine ⟨_, ⟨by decide, rfl⟩, ?_⟩)
           | (refine cond_i (fun h => ?_) (fun h => ?_)))
  all_goals (conv => whnf)
  all_goals
    simp only [beq_iff_eq, beq_eq_false_iff_ne, ne_eq] at *
    unfold cTaken
    split <;> first | rfl | (exfalso; omega)
theorem call_Bad (c : Sp.Call) (conf : Config) (f : Facts) (ha : c.att ≤ 9223372036854775807) : Fv Try.prog 43 [.agg c.g, .agg conf.g, .agg f.g] (.tup [.agg (cBad c conf f).1.g, .int .i64 (cBad c conf f).2]) := by
  refine Fv.of_awp Try.func43 rfl (by kernel_rfl) rfl (Nat.le_of_ble_eq_true rfl) ?_
  by_cases hs : c.state = 1
  · have he := call_Ends c f.code
    rw [cEnds_on hs (by decide)] at he
    have hd := policy_Decide conf { f with att := c.att, committed := c.committed } ha
    have hn : (c.state != 1) = false := by simpa using hs
    unfold cBad
    rw [if_pos hs]
    generalize decideP conf { f with att := c.att, committed := c.committed } = r at *
    repeat' (conv => whnf
             first
             | (refine And.intro (by kernel_rfl) ?_)
             | (refine cond_0 hn ?_)
             | (refine ⟨_, hd, ?_⟩)
             | (refine ⟨_, he, ?_⟩)
             | (refine cond_f ?_ ?_)
             | (refine ⟨_, ⟨by decide, rfl⟩, ?_⟩)
             | (refine cond_i (fun h => ?_) (fun h => ?_)))
    all_goals (conv => whnf)
    all_goals
      simp only [bne_iff_ne, bne_eq_false_iff_eq, ne_eq] at *
      split <;> first | rfl | (exfalso; omega) | (rename_i hz; rw [hz]; rfl)
  · have hg : cBad c conf f = (c, 1) := by unfold cBad; rw [if_neg hs]
    have hn : (c.state != 1) = true := by simpa using hs
    rw [hg]
    repeat' (conv => whnf
             first
             | (refine And.intro (by kernel_rfl) ?_)
             | (refine cond_1 hn ?_)
             | (refine cond_f ?_ ?_)
             | (refine ⟨_, ⟨by decide, rfl⟩, ?_⟩)
             | (refine cond_i (fun h => ?_) (fun h => ?_)))
    all_goals (conv => whnf)
    all_goals rfl
theorem ref21_Bad (c : Sp.Call) (conf : Config) (f : Facts) (ha : c.att ≤ 9223372036854775807) : Fv Try.prog 77 [.agg c.g, .agg conf.g, .agg f.g] (.tup [.agg (cBad c conf f).1.g, .int .i64 (cBad c conf f).2]) := by
  refine Fv.of_awp Try.func77 rfl (by kernel_rfl) rfl (Nat.le_of_ble_eq_true rfl) ?_
  by_cases hs : c.state = 1
  · have he := ref21_Ends c f.code
    rw [cEnds_on hs (by decide)] at he
    have hd := ref20_Decide conf { f with att := c.att, committed := c.committed } ha
    have hn : (c.state != 1) = false := by simpa using hs
    unfold cBad
    rw [if_pos hs]
    generalize decideP conf { f with att := c.att, committed := c.committed } = r at *
    repeat' (conv => whnf
             first
             | (refine And.intro (by kernel_rfl) ?_)
             | (refine cond_0 hn ?_)
             | (refine ⟨_, hd, ?_⟩)
             | (refine ⟨_, he, ?_⟩)
             | (refine cond_f ?_ ?_)
             | (refine ⟨_, ⟨by decide, rfl⟩, ?_⟩)
             | (refine cond_i (fun h => ?_) (fun h => ?_)))
    all_goals (conv => whnf)
    all_goals
      simp only [beq_iff_eq, beq_eq_false_iff_ne, ne_eq] at *
      split <;> first | rfl | (exfalso; omega) | (rename_i hz; rw [hz]; rfl)
  · have hg : cBad c conf f = (c, 1) := by unfold cBad; rw [if_neg hs]
    have hn : (c.state != 1) = true := by simpa using hs
    rw [hg]
    repeat' (conv => whnf
             first
             | (refine And.intro (by kernel_rfl) ?_)
             | (refine cond_1 hn ?_)
             | (refine cond_f ?_ ?_)
             | (refine ⟨_, ⟨by decide, rfl⟩, ?_⟩)
             | (refine cond_i (fun h => ?_) (fun h => ?_)))
    all_goals (conv => whnf)
    all_goals rfl
theorem call_Lost (c : Sp.Call) (n w g : Int) : Fv Try.prog 41 [.agg c.g, .int .i64 n, .int .i64 w, .int .i64 g] (.bool (cLost c n w g)) := by
  refine Fv.of_awp Try.func41 rfl (by kernel_rfl) rfl (Nat.le_of_ble_eq_true rfl) ?_
  repeat' (conv => whnf
           first
           | (refine And.intro (by kernel_rfl) ?_)
           | (refine ⟨_, ticks_Past _ _ _, ?_⟩)
           | (refine ⟨_, ticks_Add _ _, ?_⟩)
           | (refine cond_f ?_ ?_)
           | (refine ⟨_, ⟨by decide, rfl⟩, ?_⟩)
           | (refine cond_i (fun h => ?_) (fun h => ?_)))
  all_goals (conv => whnf)
  all_goals
    refine bool_eq ?_
    unfold cLost
    simp [*]
theorem ref21_Lost (c : Sp.Call) (n w g : Int) : Fv Try.prog 50 [.agg c.g, .int .i64 n, .int .i64 w, .int .i64 g] (.bool (cLost c n w g)) := by
  refine Fv.of_awp Try.func50 rfl (by kernel_rfl) rfl (Nat.le_of_ble_eq_true rfl) ?_
  repeat' (conv => whnf
           first
           | (refine And.intro (by kernel_rfl) ?_)
           | (refine ⟨_, ref01_Past _ _ _, ?_⟩)
           | (refine ⟨_, ref01_Add _ _, ?_⟩)
           | (refine cond_f ?_ ?_)
           | (refine ⟨_, ⟨by decide, rfl⟩, ?_⟩)
           | (refine cond_i (fun h => ?_) (fun h => ?_)))
  all_goals (conv => whnf)
  all_goals
    refine bool_eq ?_
    unfold cLost
    simp [*]
theorem call_Rested (c : Sp.Call) (n g : Int) : Fv Try.prog 45 [.agg c.g, .int .i64 n, .int .i64 g] (.bool (cRested c n g)) := by
  refine Fv.of_awp Try.func45 rfl (by kernel_rfl) rfl (Nat.le_of_ble_eq_true rfl) ?_
  repeat' (conv => whnf
           first
           | (refine And.intro (by kernel_rfl) ?_)
           | (refine ⟨_, ticks_Past _ _ _, ?_⟩)
           | (refine cond_f ?_ ?_)
           | (refine ⟨_, ⟨by decide, rfl⟩, ?_⟩)
           | (refine cond_i (fun h => ?_) (fun h => ?_)))
  all_goals (conv => whnf)
  all_goals
    refine bool_eq ?_
    unfold cRested
    simp [*]
theorem ref21_Rested (c : Sp.Call) (n g : Int) : Fv Try.prog 51 [.agg c.g, .int .i64 n, .int .i64 g] (.bool (cRested c n g)) := by
  refine Fv.of_awp Try.func51 rfl (by kernel_rfl) rfl (Nat.le_of_ble_eq_true rfl) ?_
  repeat' (conv => whnf
           first
           | (refine And.intro (by kernel_rfl) ?_)
           | (refine ⟨_, ref01_Past _ _ _, ?_⟩)
           | (refine cond_f ?_ ?_)
           | (refine ⟨_, ⟨by decide, rfl⟩, ?_⟩)
           | (refine cond_i (fun h => ?_) (fun h => ?_)))
  all_goals (conv => whnf)
  all_goals
    refine bool_eq ?_
    unfold cRested
    simp [*]
theorem call_Key (c : Sp.Call) : Fv Try.prog 48 [.agg c.g] (.agg (Key.mk c.id c.att).g) := by
  refine Fv.of_awp Try.func48 rfl (by kernel_rfl) rfl (Nat.le_of_ble_eq_true rfl) ?_
  repeat' (conv => whnf
           first
           | (refine And.intro (by kernel_rfl) ?_)
           | (refine cond_f ?_ ?_)
           | (refine ⟨_, ⟨by decide, rfl⟩, ?_⟩)
           | (refine cond_i (fun h => ?_) (fun h => ?_)))
  all_goals (conv => whnf)
  all_goals rfl
theorem ref21_Key (c : Sp.Call) : Fv Try.prog 49 [.agg c.g] (.agg (Key.mk c.id c.att).g) := by
  refine Fv.of_awp Try.func49 rfl (by kernel_rfl) rfl (Nat.le_of_ble_eq_true rfl) ?_
  repeat' (conv => whnf
           first
           | (refine And.intro (by kernel_rfl) ?_)
           | (refine cond_f ?_ ?_)
           | (refine ⟨_, ⟨by decide, rfl⟩, ?_⟩)
           | (refine cond_i (fun h => ?_) (fun h => ?_)))
  all_goals (conv => whnf)
  all_goals rfl
theorem law21_mine (f : Facts) : Fv Try.prog 44 [.agg f.g] (.agg f.g) := by
  refine Fv.of_awp Try.func44 rfl (by kernel_rfl) rfl (Nat.le_of_ble_eq_true rfl) ?_
  repeat' (conv => whnf
           first
           | (refine And.intro (by kernel_rfl) ?_)
           | (refine cond_f ?_ ?_)
           | (refine ⟨_, ⟨by decide, rfl⟩, ?_⟩)
           | (refine cond_i (fun h => ?_) (fun h => ?_)))
  all_goals (conv => whnf)
  all_goals rfl
theorem law21_theirs (c : Sp.Call) : Fv Try.prog 47 [.agg c.g] (.agg c.g) := by
  refine Fv.of_awp Try.func47 rfl (by kernel_rfl) rfl (Nat.le_of_ble_eq_true rfl) ?_
  repeat' (conv => whnf
           first
           | (refine And.intro (by kernel_rfl) ?_)
           | (refine cond_f ?_ ?_)
           | (refine ⟨_, ⟨by decide, rfl⟩, ?_⟩)
           | (refine cond_i (fun h => ?_) (fun h => ?_)))
  all_goals (conv => whnf)
  all_goals rfl
end Go.Proofs.Yteioecdfimphaaa.Cn
