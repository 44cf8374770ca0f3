/- The contract of the law of what is done to any call. No condition but that the attempt is a number of 64 bits. -/
import Derived.Test.YteioecdfimphaaaCn6
namespace Go.Proofs.Yteioecdfimphaaa.Cn
open Go Go.Proofs Go.Proofs.Yteioecdfimphaaa.Av Go.Proofs.Yteioecdfimphaaa.Sp
set_option linter.unusedVariables false
set_option linter.unusedSimpArgs false
set_option maxRecDepth 100000

set_option maxHeartbeats 4000000 in
theorem law21_step (c : Sp.Call) (conf : Config) (d : Deed21) (ha : c.att ≤ 9223372036854775807) : Fv Try.prog 38 [.agg c.g, .agg conf.g, .agg d.g] (.tup [.agg (cStep c conf d).1.g, .int .i64 (cStep c conf d).2]) := by
  refine Fv.of_awp Try.func38 rfl (by kernel_rfl) rfl (Nat.le_of_ble_eq_true rfl) ?_
  repeat' (conv => whnf
           first
           | (refine And.intro (by kernel_rfl) ?_)
           | (refine ⟨_, call_Begin c _, ?_⟩)
           | (refine ⟨_, call_Good c _, ?_⟩)
           | (refine ⟨_, call_Taken c, ?_⟩)
           | (refine ⟨_, law21_mine d.f, ?_⟩)
           | (refine ⟨_, call_Bad c conf d.f ha, ?_⟩)
           | (refine ⟨_, call_Ends c _, ?_⟩)
           | (refine cond_f ?_ ?_)
           | (refine ⟨_, ⟨by decide, rfl⟩, ?_⟩)
           | (refine cond_i (fun h => ?_) (fun h => ?_)))
  all_goals (conv => whnf)
  all_goals
    simp only [beq_iff_eq, beq_eq_false_iff_ne, ne_eq] at *
    unfold cStep
    (repeat' split) <;> first | rfl | (exfalso; omega)
set_option maxHeartbeats 4000000 in
theorem law21_like (c : Sp.Call) (conf : Config) (d : Deed21) (ha : c.att ≤ 9223372036854775807) : Fv Try.prog 46 [.agg c.g, .agg conf.g, .agg d.g] (.tup [.agg (cStep c conf d).1.g, .int .i64 (cStep c conf d).2]) := by
  refine Fv.of_awp Try.func46 rfl (by kernel_rfl) rfl (Nat.le_of_ble_eq_true rfl) ?_
  repeat' (conv => whnf
           first
           | (refine And.intro (by kernel_rfl) ?_)
           | (refine ⟨_, ref21_Begin c _, ?_⟩)
           | (refine ⟨_, ref21_Good c _, ?_⟩)
           | (refine ⟨_, ref21_Taken c, ?_⟩)
           | (refine ⟨_, ref21_Bad c conf d.f ha, ?_⟩)
           | (refine ⟨_, ref21_Ends c _, ?_⟩)
           | (refine cond_f ?_ ?_)
           | (refine ⟨_, ⟨by decide, rfl⟩, ?_⟩)
           | (refine cond_i (fun h => ?_) (fun h => ?_)))
  all_goals (conv => whnf)
  all_goals
    simp only [beq_iff_eq, beq_eq_false_iff_ne, ne_eq] at *
    unfold cStep
    (repeat' split) <;> first | rfl | (exfalso; omega)
def k0 : Sp.Call := ⟨⟨0, 0, 0⟩, 0, 0, 0, 0, 0, 0, false, 0, 0, 0⟩
def k1 : Sp.Call := ⟨⟨0, 0, 0⟩, 0, 0, 1, 1, 0, 0, false, 0, 0, 1⟩
def k2 : Sp.Call := ⟨⟨0, 0, 0⟩, 0, 0, 1, 2, 0, 1, false, 0, 0, 1⟩
def k3 : Sp.Call := ⟨⟨0, 0, 0⟩, 0, 0, 2, 1, 5, 0, false, 0, 0, 2⟩
def k4 : Sp.Call := ⟨⟨0, 0, 0⟩, 0, 0, 2, 3, 5, 0, false, 0, 7, 2⟩
def cK : Config := ⟨0, 0, 0, 0, 0, 0, 0, 0, 2, 1, 1, 0, 1, []⟩
def fK : Facts := ⟨14, 0, false, -2, 1000, 0, 99, 0⟩
theorem law21_awake : Fv Try.prog 39 [] (.bool true) := by
  refine Fv.of_awp Try.func39 rfl (by kernel_rfl) rfl (Nat.le_of_ble_eq_true rfl) ?_
  have h1 := call_Begin k0 0
  rw [show cBegin k0 0 = k1 from by decide +kernel] at h1
  have h2 := call_Bad k1 cK fK (by decide)
  rw [show cBad k1 cK fK = (k2, 0) from by decide +kernel] at h2
  have h3 := call_Begin k2 5
  rw [show cBegin k2 5 = k3 from by decide +kernel] at h3
  have h4 := call_Good k3 7
  rw [show cGood k3 7 = k4 from by decide +kernel] at h4
  repeat' (conv => whnf
           first
           | (refine And.intro (by kernel_rfl) ?_)
           | (refine ⟨_, h1, ?_⟩)
           | (refine ⟨_, Fv.nl h2, ?_⟩)
           | (refine ⟨_, h3, ?_⟩)
           | (refine ⟨_, h4, ?_⟩)
           | (refine cond_f ?_ ?_)
           | (refine ⟨_, ⟨by decide, rfl⟩, ?_⟩)
           | (refine cond_i (fun h => ?_) (fun h => ?_)))
  all_goals (conv => whnf)
  all_goals rfl
theorem sC : Try.prog.stoodInHeld 56 = false := by kernel_rfl
theorem sI : Try.prog.stoodInHeld 23 = false := by kernel_rfl
theorem sK : Try.prog.stoodInHeld 25 = false := by kernel_rfl
theorem nI : Try.prog.cellsOf 23 = 3 := by kernel_rfl
theorem eI (d : Nat) (a b c : Int) : eqT Try.prog (d + 2) 23 [.int .i64 a, .int .i64 b, .int .i64 c] [.int .i64 a, .int .i64 b, .int .i64 c] = some true := by
  unfold eqT
  rw [Try.underlying23]
  simp [sI, eqT.go, Try.underlying3, wide, aggD, eqT]
theorem eK (a b c e : Int) : eqT Try.prog 12 25 [.int .i64 a, .int .i64 b, .int .i64 c, .int .i64 e] [.int .i64 a, .int .i64 b, .int .i64 c, .int .i64 e] = some true := by
  unfold eqT
  rw [Try.underlying25]
  simp [sK, eqT.go, Try.underlying3, Try.underlying23, wide, aggD, nI, eI]
  simp [eqT, Try.underlying3]
theorem eC (y : Sp.Call) : eqT Try.prog 12 56 y.g y.g = some true := by
  unfold eqT
  rw [Try.underlying56]
  simp [sC, eqT.go, Try.underlying3, Try.underlying4, Try.underlying23, wide, aggD, nI, eI, Sp.Call.g]
  simp [eqT, Try.underlying3, Try.underlying4]
end Go.Proofs.Yteioecdfimphaaa.Cn
