
/- Contracts: what a packet's kind has. No condition. -/
import Derived.Test.YtfpincfmcjiokaaCn76
namespace Go.Proofs.Ytfpincfmcjiokaa.Cn
open Go Go.Proofs Go.Proofs.Ytfpincfmcjiokaa.Av Go.Proofs.Ytfpincfmcjiokaa.Sp
set_option linter.unusedVariables false
set_option linter.unusedSimpArgs false
set_option linter.unusedSectionVars false
set_option maxRecDepth 100000
attribute [local irreducible] Fv Fp

def bareP (p : Packet) : Packet := { zP with kind := p.kind, «from» := p.from, to := p.to, key := p.key }
theorem packet_bare (p : Packet) : Fv Try.prog 26 [.agg p.g] (.agg (bareP p).g) := by
  refine Fv.of_awp Try.func26 rfl (by kernel_rfl) rfl (Nat.le_of_ble_eq_true rfl) ?_
  repeat' (conv => whnf
           first
           | (refine And.intro (by kernel_rfl) ?_)
           | (refine And.intro ⟨by kernel_rfl, by kernel_rfl⟩ ?_)
           | (refine cond_f ?_ ?_)
           | (refine ⟨_, ⟨by decide, rfl⟩, ?_⟩)
           | (refine cond_i (fun h => ?_) (fun h => ?_)))
  all_goals (conv => whnf)
  all_goals rfl
theorem packet_node (n : Int) : Fv Try.prog 21 [.int .i64 n] (.bool (decide (0 ≤ n ∧ n < 64))) := by
  refine Fv.of_awp Try.func21 rfl (by kernel_rfl) rfl (Nat.le_of_ble_eq_true rfl) ?_
  repeat' (conv => whnf
           first
           | (refine And.intro (by kernel_rfl) ?_)
           | (refine And.intro ⟨by kernel_rfl, by kernel_rfl⟩ ?_)
           | (refine cond_f ?_ ?_)
           | (refine ⟨_, ⟨by decide, rfl⟩, ?_⟩)
           | (refine cond_i (fun h => ?_) (fun h => ?_)))
  all_goals (conv => whnf)
  all_goals
    refine bool_eq ?_
    rw [Bool.eq_iff_iff]
    simp only [decide_eq_true_eq, decide_eq_false_iff_not, ge_iff_le, Bool.false_eq_true, false_iff] at *
    omega
theorem packet_tick (n : Int) : Fv Try.prog 25 [.int .i64 n] (.bool (tickI n)) := by
  refine Fv.of_awp Try.func25 rfl (by kernel_rfl) rfl (Nat.le_of_ble_eq_true rfl) ?_
  repeat' (conv => whnf
           first
           | (refine And.intro (by kernel_rfl) ?_)
           | (refine And.intro ⟨by kernel_rfl, by kernel_rfl⟩ ?_)
           | (refine cond_f ?_ ?_)
           | (refine ⟨_, ⟨by decide, rfl⟩, ?_⟩)
           | (refine cond_i (fun h => ?_) (fun h => ?_)))
  all_goals (conv => whnf)
  all_goals
    refine bool_eq ?_
    rw [Bool.eq_iff_iff, tickI_iff]
    simp only [decide_eq_true_eq, decide_eq_false_iff_not, ge_iff_le, Bool.false_eq_true, false_iff] at *
    omega
theorem ref08_time (n : Int) : Fv Try.prog 18 [.int .i64 n] (.bool (tickI n)) := by
  refine Fv.of_awp Try.func18 rfl (by kernel_rfl) rfl (Nat.le_of_ble_eq_true rfl) ?_
  repeat' (conv => whnf
           first
           | (refine And.intro (by kernel_rfl) ?_)
           | (refine And.intro ⟨by kernel_rfl, by kernel_rfl⟩ ?_)
           | (refine cond_f ?_ ?_)
           | (refine ⟨_, ⟨by decide, rfl⟩, ?_⟩)
           | (refine cond_i (fun h => ?_) (fun h => ?_)))
  all_goals (conv => whnf)
  all_goals
    refine bool_eq ?_
    rw [Bool.eq_iff_iff, tickI_iff]
    simp only [decide_eq_true_eq, decide_eq_false_iff_not, ge_iff_le, Bool.false_eq_true, false_iff] at *
    omega
theorem packet_attempt (k : Key) : Fv Try.prog 22 [.agg k.g] (.bool (okKey k && decide (1 ≤ k.att))) := by
  have n1 := ident_Key k
  generalize okKey k = b at *
  refine Fv.of_awp Try.func22 rfl (by kernel_rfl) rfl (Nat.le_of_ble_eq_true rfl) ?_
  cases b
  · skip
    repeat' (conv => whnf
             first
             | (refine And.intro (by kernel_rfl) ?_)
             | (refine And.intro ⟨by kernel_rfl, by kernel_rfl⟩ ?_)
             | (refine Or.inl ⟨_, n1, ?_⟩)
             | (refine ⟨_, n1, ?_⟩)
             | (refine cond_f ?_ ?_)
             | (refine ⟨_, ⟨by decide, rfl⟩, ?_⟩)
             | (refine cond_i (fun h => ?_) (fun h => ?_)))
    all_goals (conv => whnf)
    all_goals rfl
  · skip
    repeat' (conv => whnf
             first
             | (refine And.intro (by kernel_rfl) ?_)
             | (refine And.intro ⟨by kernel_rfl, by kernel_rfl⟩ ?_)
             | (refine Or.inl ⟨_, n1, ?_⟩)
             | (refine ⟨_, n1, ?_⟩)
             | (refine cond_f ?_ ?_)
             | (refine ⟨_, ⟨by decide, rfl⟩, ?_⟩)
             | (refine cond_i (fun h => ?_) (fun h => ?_)))
    all_goals (conv => whnf)
    all_goals rfl
set_option maxHeartbeats 4000000 in
theorem packet_Clean (p : Packet) : Fv Try.prog 9 [.agg p.g] (.agg (cleanP p).g) := by
  have n1 := packet_bare p
  refine Fv.of_awp Try.func9 rfl (by kernel_rfl) rfl (Nat.le_of_ble_eq_true rfl) ?_
  by_cases c1 : p.kind = 1
  · have b1 : (p.kind == 1) = true := by simp [c1]
    repeat' (conv => whnf
             first
             | (refine And.intro (by kernel_rfl) ?_)
             | (refine And.intro ⟨by kernel_rfl, by kernel_rfl⟩ ?_)
             | (refine Or.inl ⟨_, n1, ?_⟩)
             | (refine ⟨_, n1, ?_⟩)
             | (refine cond_1 b1 ?_)
             | (refine cond_f ?_ ?_)
             | (refine ⟨_, ⟨by decide, rfl⟩, ?_⟩)
             | (refine cond_i (fun h => ?_) (fun h => ?_)))
    all_goals (conv => whnf)
    all_goals
      unfold cleanP bareP zP zKey zId
      simp only [c1]
      rfl
  · have b1 : (p.kind == 1) = false := by simp [c1]
    by_cases c2 : p.kind = 2
    · have b2 : (p.kind == 2) = true := by simp [c2]
      repeat' (conv => whnf
               first
               | (refine And.intro (by kernel_rfl) ?_)
               | (refine And.intro ⟨by kernel_rfl, by kernel_rfl⟩ ?_)
               | (refine Or.inl ⟨_, n1, ?_⟩)
               | (refine ⟨_, n1, ?_⟩)
               | (refine cond_0 b1 ?_)
               | (refine cond_1 b2 ?_)
               | (refine cond_f ?_ ?_)
               | (refine ⟨_, ⟨by decide, rfl⟩, ?_⟩)
               | (refine cond_i (fun h => ?_) (fun h => ?_)))
      all_goals (conv => whnf)
      all_goals
        unfold cleanP bareP zP zKey zId
        simp only [c2]
        rfl
    · have b2 : (p.kind == 2) = false := by simp [c2]
      by_cases c4 : p.kind = 4
      · have b4 : (p.kind == 4) = true := by simp [c4]
        repeat' (conv => whnf
                 first
                 | (refine And.intro (by kernel_rfl) ?_)
                 | (refine And.intro ⟨by kernel_rfl, by kernel_rfl⟩ ?_)
                 | (refine Or.inl ⟨_, n1, ?_⟩)
                 | (refine ⟨_, n1, ?_⟩)
                 | (refine cond_0 b1 ?_)
                 | (refine cond_0 b2 ?_)
                 | (refine cond_1 b4 ?_)
                 | (refine cond_f ?_ ?_)
                 | (refine ⟨_, ⟨by decide, rfl⟩, ?_⟩)
                 | (refine cond_i (fun h => ?_) (fun h => ?_)))
        all_goals (conv => whnf)
        all_goals
          unfold cleanP bareP zP zKey zId
          simp only [c4]
          rfl
      · have b4 : (p.kind == 4) = false := by simp [c4]
        by_cases c5 : p.kind = 5
        · have b5 : (p.kind == 5) = true := by simp [c5]
          repeat' (conv => whnf
                   first
                   | (refine And.intro (by kernel_rfl) ?_)
                   | (refine And.intro ⟨by kernel_rfl, by kernel_rfl⟩ ?_)
                   | (refine Or.inl ⟨_, n1, ?_⟩)
                   | (refine ⟨_, n1, ?_⟩)
                   | (refine cond_0 b1 ?_)
                   | (refine cond_0 b2 ?_)
                   | (refine cond_0 b4 ?_)
                   | (refine cond_1 b5 ?_)
                   | (refine cond_f ?_ ?_)
                   | (refine ⟨_, ⟨by decide, rfl⟩, ?_⟩)
                   | (refine cond_i (fun h => ?_) (fun h => ?_)))
          all_goals (conv => whnf)
          all_goals
            unfold cleanP bareP zP zKey zId
            simp only [c5]
            rfl
        · have b5 : (p.kind == 5) = false := by simp [c5]
          have o : ¬ (p.kind = 1 ∨ p.kind = 4) := by omega
          repeat' (conv => whnf
                   first
                   | (refine And.intro (by kernel_rfl) ?_)
                   | (refine And.intro ⟨by kernel_rfl, by kernel_rfl⟩ ?_)
                   | (refine Or.inl ⟨_, n1, ?_⟩)
                   | (refine ⟨_, n1, ?_⟩)
                   | (refine cond_0 b1 ?_)
                   | (refine cond_0 b2 ?_)
                   | (refine cond_0 b4 ?_)
                   | (refine cond_0 b5 ?_)
                   | (refine cond_f ?_ ?_)
                   | (refine ⟨_, ⟨by decide, rfl⟩, ?_⟩)
                   | (refine cond_i (fun h => ?_) (fun h => ?_)))
          all_goals (conv => whnf)
          all_goals
            unfold cleanP bareP zP zKey zId
            simp only [if_neg c1, if_neg c2, if_neg c5, if_neg o]
            rfl
set_option maxHeartbeats 4000000 in
theorem ref08_Clean (p : Packet) : Fv Try.prog 10 [.agg p.g] (.agg (cleanP p).g) := by
  refine Fv.of_awp Try.func10 rfl (by kernel_rfl) rfl (Nat.le_of_ble_eq_true rfl) ?_
  by_cases c1 : p.kind = 1
  · have b1 : (p.kind != 1) = false := by simp [c1]
    have b2 : (p.kind != 2) = true := by simp [c1]
    have b5 : (p.kind != 5) = true := by simp [c1]
    repeat' (conv => whnf
             first
             | (refine And.intro (by kernel_rfl) ?_)
             | (refine And.intro ⟨by kernel_rfl, by kernel_rfl⟩ ?_)
             | (refine cond_0 b1 ?_)
             | (refine cond_1 b2 ?_)
             | (refine cond_1 b5 ?_)
             | (refine cond_f ?_ ?_)
             | (refine ⟨_, ⟨by decide, rfl⟩, ?_⟩)
             | (refine cond_i (fun h => ?_) (fun h => ?_)))
    all_goals (conv => whnf)
    all_goals
      unfold cleanP zKey zId
      simp only [c1]
      rfl
  · have b1 : (p.kind != 1) = true := by simp [c1]
    by_cases c2 : p.kind = 2
    · have b2 : (p.kind != 2) = false := by simp [c2]
      have b4 : (p.kind != 4) = true := by simp [c2]
      have b5 : (p.kind != 5) = true := by simp [c2]
      repeat' (conv => whnf
               first
               | (refine And.intro (by kernel_rfl) ?_)
               | (refine And.intro ⟨by kernel_rfl, by kernel_rfl⟩ ?_)
               | (refine cond_1 b1 ?_)
               | (refine cond_0 b2 ?_)
               | (refine cond_1 b4 ?_)
               | (refine cond_1 b5 ?_)
               | (refine cond_f ?_ ?_)
               | (refine ⟨_, ⟨by decide, rfl⟩, ?_⟩)
               | (refine cond_i (fun h => ?_) (fun h => ?_)))
      all_goals (conv => whnf)
      all_goals
        unfold cleanP zKey zId
        simp only [c2]
        rfl
    · have b2 : (p.kind != 2) = true := by simp [c2]
      by_cases c4 : p.kind = 4
      · have b4 : (p.kind != 4) = false := by simp [c4]
        have b5 : (p.kind != 5) = true := by simp [c4]
        repeat' (conv => whnf
                 first
                 | (refine And.intro (by kernel_rfl) ?_)
                 | (refine And.intro ⟨by kernel_rfl, by kernel_rfl⟩ ?_)
                 | (refine cond_1 b1 ?_)
                 | (refine cond_1 b2 ?_)
                 | (refine cond_0 b4 ?_)
                 | (refine cond_1 b5 ?_)
                 | (refine cond_f ?_ ?_)
                 | (refine ⟨_, ⟨by decide, rfl⟩, ?_⟩)
                 | (refine cond_i (fun h => ?_) (fun h => ?_)))
        all_goals (conv => whnf)
        all_goals
          unfold cleanP zKey zId
          simp only [c4]
          rfl
      · have b4 : (p.kind != 4) = true := by simp [c4]
        by_cases c5 : p.kind = 5
        · have b5 : (p.kind != 5) = false := by simp [c5]
          repeat' (conv => whnf
                   first
                   | (refine And.intro (by kernel_rfl) ?_)
                   | (refine And.intro ⟨by kernel_rfl, by kernel_rfl⟩ ?_)
                   | (refine cond_1 b1 ?_)
                   | (refine cond_1 b2 ?_)
                   | (refine cond_1 b4 ?_)
                   | (refine cond_0 b5 ?_)
                   | (refine cond_f ?_ ?_)
                   | (refine ⟨_, ⟨by decide, rfl⟩, ?_⟩)
                   | (refine cond_i (fun h => ?_) (fun h => ?_)))
          all_goals (conv => whnf)
          all_goals
            unfold cleanP zKey zId
            simp only [c5]
            rfl
        · have b5 : (p.kind != 5) = true := by simp [c5]
          have o : ¬ (p.kind = 1 ∨ p.kind = 4) := by omega
          repeat' (conv => whnf
                   first
                   | (refine And.intro (by kernel_rfl) ?_)
                   | (refine And.intro ⟨by kernel_rfl, by kernel_rfl⟩ ?_)
                   | (refine cond_1 b1 ?_)
                   | (refine cond_1 b2 ?_)
                   | (refine cond_1 b4 ?_)
                   | (refine cond_1 b5 ?_)
                   | (refine cond_f ?_ ?_)
                   | (refine ⟨_, ⟨by decide, rfl⟩, ?_⟩)
                   | (refine cond_i (fun h => ?_) (fun h => ?_)))
          all_goals (conv => whnf)
          all_goals
            unfold cleanP zKey zId
            simp only [if_neg c1, if_neg c2, if_neg c5, if_neg o]
            rfl
end Go.Proofs.Ytfpincfmcjiokaa.Cn
