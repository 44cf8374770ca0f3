
/- One text out of Cn50, Cn51, Cn52, Cn53. No condition but theirs. -/
import Derived.Test.YtfacmphjplablaaDoorSp14
import Derived.Test.YtfacmphjplablaaDoorCn6
import Derived.Test.YtfacmphjplablaaDoorCn11
import Derived.Test.YtfacmphjplablaaDoorCn44
namespace Go.Proofs.YtfacmphjplablaaDoor.Cn
open Go Go.Proofs Go.Proofs.YtfacmphjplablaaDoor.Av Go.Proofs.YtfacmphjplablaaDoor.Sp
set_option linter.unusedVariables false
set_option linter.unusedSimpArgs false
set_option linter.unusedSectionVars false
set_option maxRecDepth 100000
attribute [local irreducible] Fv Fp

theorem budget_Hop (d n : Int) : Fv Tryd.prog 43 [.int .i64 d, .int .i64 n] (.str (enc (sub d n))) := by
  refine Fv.of_awp Tryd.func43 rfl (by kernel_rfl) rfl (Nat.le_of_ble_eq_true rfl) ?_
  repeat' (conv => whnf
           first
           | (refine And.intro (by kernel_rfl) ?_)
           | (refine And.intro ⟨by kernel_rfl, by kernel_rfl⟩ ?_)
           | (refine Or.inl ⟨_, budget_Left d n, ?_⟩)
           | (refine ⟨_, budget_Left d n, ?_⟩)
           | (refine Or.inl ⟨_, timeout_Encode (sub d n), ?_⟩)
           | (refine ⟨_, timeout_Encode (sub d n), ?_⟩)
           | (refine cond_f ?_ ?_)
           | (refine ⟨_, ⟨by decide, rfl⟩, ?_⟩)
           | (refine cond_i (fun h => ?_) (fun h => ?_)))
  all_goals (conv => whnf)
  all_goals rfl
theorem law26_theirs (c : Sp.Call) : Fv Tryd.prog 14 [.agg c.g] (.agg c.g) := by
  refine Fv.of_awp Tryd.func14 rfl (by kernel_rfl) rfl (Nat.le_of_ble_eq_true rfl) ?_
  repeat' (conv => whnf
           first
           | (refine And.intro (by kernel_rfl) ?_)
           | (refine And.intro ⟨by kernel_rfl, by kernel_rfl⟩ ?_)
           | (refine cond_f ?_ ?_)
           | (refine ⟨_, ⟨by decide, rfl⟩, ?_⟩)
           | (refine cond_i (fun h => ?_) (fun h => ?_)))
  all_goals (conv => whnf)
  all_goals rfl
section
variable (c : Config) (me : Int) (o : Owner) (x b : Sp.Call) (now n u : Int) (e : ByteArray)
  (n1 : Fv Tryd.prog 38 [.agg x.g, .int .i64 now] (.agg b.g)) (r1 : Fv Tryd.prog 44 [.agg x.g, .int .i64 now] (.agg b.g))
include n1 r1
theorem send_same (h : b = x) : Fv Tryd.prog 10 [.agg c.g, .int .i64 me, .agg o.g, .agg x.g, .int .i64 now] (.tup [.agg x.g, .agg zP.g]) ∧ Fv Tryd.prog 13 [.agg c.g, .int .i64 me, .agg o.g, .agg x.g, .int .i64 now] (.tup [.agg x.g, .agg zP.g]) := by
  have hb := (call_eqB b x).trans (decide_eq_true h)
  constructor
  · refine Fv.of_awp Tryd.func10 rfl (by kernel_rfl) rfl (Nat.le_of_ble_eq_true rfl) ?_
    repeat' (conv => whnf
             first
             | (refine And.intro (by kernel_rfl) ?_)
             | (refine And.intro ⟨by kernel_rfl, by kernel_rfl⟩ ?_)
             | (refine Or.inl ⟨_, n1, ?_⟩)
             | (refine ⟨_, n1, ?_⟩)
             | (refine cond_1 hb ?_)
             | (refine cond_f ?_ ?_)
             | (refine ⟨_, ⟨by decide, rfl⟩, ?_⟩)
             | (refine cond_i (fun h => ?_) (fun h => ?_)))
    all_goals (conv => whnf)
    all_goals rfl
  · refine Fv.of_awp Tryd.func13 rfl (by kernel_rfl) rfl (Nat.le_of_ble_eq_true rfl) ?_
    repeat' (conv => whnf
             first
             | (refine And.intro (by kernel_rfl) ?_)
             | (refine And.intro ⟨by kernel_rfl, by kernel_rfl⟩ ?_)
             | (refine Or.inl ⟨_, r1, ?_⟩)
             | (refine ⟨_, r1, ?_⟩)
             | (refine cond_1 hb ?_)
             | (refine cond_f ?_ ?_)
             | (refine ⟨_, ⟨by decide, rfl⟩, ?_⟩)
             | (refine cond_i (fun h => ?_) (fun h => ?_)))
    all_goals (conv => whnf)
    all_goals rfl
variable (h : ¬ b = x)
include h
theorem send_hops (y : Sp.Call) (h2 : o.hop ≥ c.hops) (n2 : Fv Tryd.prog 39 [.agg x.g, .int .i64 8] (.agg y.g)) (r2 : Fv Tryd.prog 45 [.agg x.g, .int .i64 8] (.agg y.g)) :
    Fv Tryd.prog 10 [.agg c.g, .int .i64 me, .agg o.g, .agg x.g, .int .i64 now] (.tup [.agg y.g, .agg zP.g]) ∧ Fv Tryd.prog 13 [.agg c.g, .int .i64 me, .agg o.g, .agg x.g, .int .i64 now] (.tup [.agg y.g, .agg zP.g]) := by
  have hb := (call_eqB b x).trans (decide_eq_false h)
  have b2 : decide (o.hop ≥ c.hops) = true := decide_eq_true h2
  constructor
  · refine Fv.of_awp Tryd.func10 rfl (by kernel_rfl) rfl (Nat.le_of_ble_eq_true rfl) ?_
    repeat' (conv => whnf
             first
             | (refine And.intro (by kernel_rfl) ?_)
             | (refine And.intro ⟨by kernel_rfl, by kernel_rfl⟩ ?_)
             | (refine Or.inl ⟨_, n1, ?_⟩)
             | (refine ⟨_, n1, ?_⟩)
             | (refine cond_0 hb ?_)
             | (refine cond_1 b2 ?_)
             | (refine Or.inl ⟨_, n2, ?_⟩)
             | (refine ⟨_, n2, ?_⟩)
             | (refine cond_f ?_ ?_)
             | (refine ⟨_, ⟨by decide, rfl⟩, ?_⟩)
             | (refine cond_i (fun h => ?_) (fun h => ?_)))
    all_goals (conv => whnf)
    all_goals rfl
  · refine Fv.of_awp Tryd.func13 rfl (by kernel_rfl) rfl (Nat.le_of_ble_eq_true rfl) ?_
    repeat' (conv => whnf
             first
             | (refine And.intro (by kernel_rfl) ?_)
             | (refine And.intro ⟨by kernel_rfl, by kernel_rfl⟩ ?_)
             | (refine Or.inl ⟨_, r1, ?_⟩)
             | (refine ⟨_, r1, ?_⟩)
             | (refine cond_0 hb ?_)
             | (refine cond_1 b2 ?_)
             | (refine Or.inl ⟨_, r2, ?_⟩)
             | (refine ⟨_, r2, ?_⟩)
             | (refine cond_f ?_ ?_)
             | (refine ⟨_, ⟨by decide, rfl⟩, ?_⟩)
             | (refine cond_i (fun h => ?_) (fun h => ?_)))
    all_goals (conv => whnf)
    all_goals rfl
variable (h2 : ¬ o.hop ≥ c.hops)
include h2
theorem send_late (y : Sp.Call) (n3 : Fv Tryd.prog 40 [.int .i64 o.deadline, .int .i64 now, .int .i64 c.least] (.bool false)) (r3 : Fv Tryd.prog 46 [.int .i64 o.deadline, .int .i64 now, .int .i64 c.least] (.bool false))
    (n2 : Fv Tryd.prog 39 [.agg x.g, .int .i64 4] (.agg y.g)) (r2 : Fv Tryd.prog 45 [.agg x.g, .int .i64 4] (.agg y.g)) :
    Fv Tryd.prog 10 [.agg c.g, .int .i64 me, .agg o.g, .agg x.g, .int .i64 now] (.tup [.agg y.g, .agg zP.g]) ∧ Fv Tryd.prog 13 [.agg c.g, .int .i64 me, .agg o.g, .agg x.g, .int .i64 now] (.tup [.agg y.g, .agg zP.g]) := by
  have hb := (call_eqB b x).trans (decide_eq_false h)
  have b2 : decide (o.hop ≥ c.hops) = false := decide_eq_false h2
  constructor
  · refine Fv.of_awp Tryd.func10 rfl (by kernel_rfl) rfl (Nat.le_of_ble_eq_true rfl) ?_
    repeat' (conv => whnf
             first
             | (refine And.intro (by kernel_rfl) ?_)
             | (refine And.intro ⟨by kernel_rfl, by kernel_rfl⟩ ?_)
             | (refine Or.inl ⟨_, n1, ?_⟩)
             | (refine ⟨_, n1, ?_⟩)
             | (refine cond_0 hb ?_)
             | (refine cond_0 b2 ?_)
             | (refine Or.inl ⟨_, n3, ?_⟩)
             | (refine ⟨_, n3, ?_⟩)
             | (refine Or.inl ⟨_, n2, ?_⟩)
             | (refine ⟨_, n2, ?_⟩)
             | (refine cond_f ?_ ?_)
             | (refine ⟨_, ⟨by decide, rfl⟩, ?_⟩)
             | (refine cond_i (fun h => ?_) (fun h => ?_)))
    all_goals (conv => whnf)
    all_goals rfl
  · refine Fv.of_awp Tryd.func13 rfl (by kernel_rfl) rfl (Nat.le_of_ble_eq_true rfl) ?_
    repeat' (conv => whnf
             first
             | (refine And.intro (by kernel_rfl) ?_)
             | (refine And.intro ⟨by kernel_rfl, by kernel_rfl⟩ ?_)
             | (refine Or.inl ⟨_, r1, ?_⟩)
             | (refine ⟨_, r1, ?_⟩)
             | (refine cond_0 hb ?_)
             | (refine cond_0 b2 ?_)
             | (refine Or.inl ⟨_, r3, ?_⟩)
             | (refine ⟨_, r3, ?_⟩)
             | (refine Or.inl ⟨_, r2, ?_⟩)
             | (refine ⟨_, r2, ?_⟩)
             | (refine cond_f ?_ ?_)
             | (refine ⟨_, ⟨by decide, rfl⟩, ?_⟩)
             | (refine cond_i (fun h => ?_) (fun h => ?_)))
    all_goals (conv => whnf)
    all_goals rfl
set_option maxHeartbeats 4000000 in
theorem send_call (l : Int) (n3 : Fv Tryd.prog 40 [.int .i64 o.deadline, .int .i64 now, .int .i64 c.least] (.bool true)) (r3 : Fv Tryd.prog 46 [.int .i64 o.deadline, .int .i64 now, .int .i64 c.least] (.bool true))
    (n4 : Fv Tryd.prog 42 [.int .i64 now] (.int .i64 n)) (r4 : Fv Tryd.prog 16 [.int .i64 now] (.int .i64 n)) (n5 : Fv Tryd.prog 42 [.int .i64 o.until] (.int .i64 u)) (r5 : Fv Tryd.prog 16 [.int .i64 o.until] (.int .i64 u))
    (n6 : Fv Tryd.prog 43 [.int .i64 o.deadline, .int .i64 now] (.str e)) (r6 : Fv Tryd.prog 30 [.int .i64 o.deadline, .int .i64 now] (.int .i64 l)) (r7 : Fv Tryd.prog 48 [.int .i64 l] (.str e)) :
    Fv Tryd.prog 10 [.agg c.g, .int .i64 me, .agg o.g, .agg x.g, .int .i64 now] (.tup [.agg b.g, .agg (callP me o x b n u e).g]) ∧ Fv Tryd.prog 13 [.agg c.g, .int .i64 me, .agg o.g, .agg x.g, .int .i64 now] (.tup [.agg b.g, .agg (callP me o x b n u e).g]) := by
  have hb := (call_eqB b x).trans (decide_eq_false h)
  have b2 : decide (o.hop ≥ c.hops) = false := decide_eq_false h2
  have n8 := call_Key b
  have r8 := ref21_Key b
  constructor
  · refine Fv.of_awp Tryd.func10 rfl (by kernel_rfl) rfl (Nat.le_of_ble_eq_true rfl) ?_
    repeat' (conv => whnf
             first
             | (refine And.intro (by kernel_rfl) ?_)
             | (refine And.intro ⟨by kernel_rfl, by kernel_rfl⟩ ?_)
             | (refine Or.inl ⟨_, n1, ?_⟩)
             | (refine ⟨_, n1, ?_⟩)
             | (refine cond_0 hb ?_)
             | (refine cond_0 b2 ?_)
             | (refine Or.inl ⟨_, n3, ?_⟩)
             | (refine ⟨_, n3, ?_⟩)
             | (refine Or.inl ⟨_, n8, ?_⟩)
             | (refine ⟨_, n8, ?_⟩)
             | (refine Or.inl ⟨_, n4, ?_⟩)
             | (refine ⟨_, n4, ?_⟩)
             | (refine Or.inl ⟨_, n5, ?_⟩)
             | (refine ⟨_, n5, ?_⟩)
             | (refine Or.inl ⟨_, n6, ?_⟩)
             | (refine ⟨_, n6, ?_⟩)
             | (refine cond_f ?_ ?_)
             | (refine ⟨_, ⟨by decide, rfl⟩, ?_⟩)
             | (refine cond_i (fun h => ?_) (fun h => ?_)))
    all_goals (conv => whnf)
    all_goals rfl
  · refine Fv.of_awp Tryd.func13 rfl (by kernel_rfl) rfl (Nat.le_of_ble_eq_true rfl) ?_
    repeat' (conv => whnf
             first
             | (refine And.intro (by kernel_rfl) ?_)
             | (refine And.intro ⟨by kernel_rfl, by kernel_rfl⟩ ?_)
             | (refine Or.inl ⟨_, r1, ?_⟩)
             | (refine ⟨_, r1, ?_⟩)
             | (refine cond_0 hb ?_)
             | (refine cond_0 b2 ?_)
             | (refine Or.inl ⟨_, r3, ?_⟩)
             | (refine ⟨_, r3, ?_⟩)
             | (refine Or.inl ⟨_, r8, ?_⟩)
             | (refine ⟨_, r8, ?_⟩)
             | (refine Or.inl ⟨_, r4, ?_⟩)
             | (refine ⟨_, r4, ?_⟩)
             | (refine Or.inl ⟨_, r5, ?_⟩)
             | (refine ⟨_, r5, ?_⟩)
             | (refine Or.inl ⟨_, r6, ?_⟩)
             | (refine ⟨_, r6, ?_⟩)
             | (refine Or.inl ⟨_, r7, ?_⟩)
             | (refine ⟨_, r7, ?_⟩)
             | (refine cond_f ?_ ?_)
             | (refine ⟨_, ⟨by decide, rfl⟩, ?_⟩)
             | (refine cond_i (fun h => ?_) (fun h => ?_)))
    all_goals (conv => whnf)
    all_goals rfl
end
theorem sender_Send (c : Config) (me : Int) (o : Owner) (x : Sp.Call) (now : Int) : Fv Tryd.prog 10 [.agg c.g, .int .i64 me, .agg o.g, .agg x.g, .int .i64 now] (.tup [.agg (sendF c me o x now).1.g, .agg (sendF c me o x now).2.g]) ∧ Fv Tryd.prog 13 [.agg c.g, .int .i64 me, .agg o.g, .agg x.g, .int .i64 now] (.tup [.agg (sendF c me o x now).1.g, .agg (sendF c me o x now).2.g]) := by
  have n1 := call_Begin x now
  have r1 := ref21_Begin x now
  unfold sendF
  by_cases h1 : cBegin x now = x
  · rw [if_pos h1]; exact send_same c me o x _ now n1 r1 h1
  rw [if_neg h1]
  by_cases h2 : o.hop ≥ c.hops
  · rw [if_pos h2]; exact send_hops c me o x _ now n1 r1 h1 _ h2 (call_Ends x 8) (ref21_Ends x 8)
  rw [if_neg h2]
  have n3 := budget_Enough o.deadline now c.least
  have r3 := ref14_Enough o.deadline now c.least
  by_cases h3 : enough o.deadline now c.least = false
  · rw [if_pos h3]; rw [h3] at n3 r3; exact send_late c me o x _ now n1 r1 h1 h2 _ n3 r3 (call_Ends x 4) (ref21_Ends x 4)
  rw [if_neg h3]
  rw [Bool.not_eq_false] at h3
  rw [h3] at n3 r3
  exact send_call c me o x _ now _ _ _ n1 r1 h1 h2 _ n3 r3 (ticks_Clamp now) (ref01_Clamp now) (ticks_Clamp o.until) (ref01_Clamp o.until) (budget_Hop o.deadline now) (ref01_Sub o.deadline now) (ref02_Encode _)

section
variable (o : Owner) (now k w s d t : Int)
  (p1 : Fv Tryd.prog 49 [.agg o.g] (.bool (o.key.att == 0)))
  (p2 : Fv Tryd.prog 50 [.agg o.g] (.int .i64 k)) (r2 : Fv Tryd.prog 17 [.agg o.g] (.int .i64 k))
  (p3 : Fv Tryd.prog 51 [.agg o.g] (.int .i64 w)) (r3 : Fv Tryd.prog 54 [.agg o.g] (.int .i64 w))
  (p4 : Fv Tryd.prog 52 [.agg o.g, .int .i64 0] (.int .i64 s)) (r4 : Fv Tryd.prog 55 [.agg o.g, .int .i64 0] (.int .i64 s))
  (p5 : Fv Tryd.prog 42 [.int .i64 now] (.int .i64 t)) (r5 : Fv Tryd.prog 16 [.int .i64 now] (.int .i64 t))
  (p6 : Fv Tryd.prog 42 [.int .i64 o.deadline] (.int .i64 d)) (r6 : Fv Tryd.prog 16 [.int .i64 o.deadline] (.int .i64 d))
include p1 p2 r2 p3 r3 p4 r4 p5 r5 p6 r6
theorem settled_A (ha : o.key.att ≠ 0) : Fv Tryd.prog 15 [.agg o.g, .int .i64 now] (.tup [.int .i64 0, .int .i64 0, .bool false]) ∧ Fv Tryd.prog 24 [.agg o.g, .int .i64 now] (.tup [.int .i64 0, .int .i64 0, .bool false]) := by
  have a0 : (o.key.att == 0) = false := beq_eq_false_iff_ne.2 ha
  have a1 : (!(o.key.att == 0)) = true := by rw [a0]; rfl
  constructor
  · refine Fv.of_awp Tryd.func15 rfl (by kernel_rfl) rfl (Nat.le_of_ble_eq_true rfl) ?_
    repeat' (conv => whnf
             first
             | (refine And.intro (by kernel_rfl) ?_)
             | (refine And.intro ⟨by kernel_rfl, by kernel_rfl⟩ ?_)
             | (refine Or.inl ⟨_, p1, ?_⟩)
             | (refine ⟨_, p1, ?_⟩)
             | (refine cond_1 a1 ?_)
             | (refine cond_0 a0 ?_)
             | (refine cond_f ?_ ?_)
             | (refine ⟨_, ⟨by decide, rfl⟩, ?_⟩)
             | (refine cond_i (fun h => ?_) (fun h => ?_)))
    all_goals (conv => whnf)
    all_goals rfl
  · refine Fv.of_awp Tryd.func24 rfl (by kernel_rfl) rfl (Nat.le_of_ble_eq_true rfl) ?_
    repeat' (conv => whnf
             first
             | (refine And.intro (by kernel_rfl) ?_)
             | (refine And.intro ⟨by kernel_rfl, by kernel_rfl⟩ ?_)
             | (refine cond_1 a1 ?_)
             | (refine cond_0 a0 ?_)
             | (refine cond_f ?_ ?_)
             | (refine ⟨_, ⟨by decide, rfl⟩, ?_⟩)
             | (refine cond_i (fun h => ?_) (fun h => ?_)))
    all_goals (conv => whnf)
    all_goals rfl
theorem settled_B (ha : o.key.att = 0) (hz : o.calls.length = 0) : Fv Tryd.prog 15 [.agg o.g, .int .i64 now] (.tup [.int .i64 0, .int .i64 0, .bool false]) ∧ Fv Tryd.prog 24 [.agg o.g, .int .i64 now] (.tup [.int .i64 0, .int .i64 0, .bool false]) := by
  have a0 : (o.key.att == 0) = true := beq_iff_eq.2 ha
  have a1 : (!(o.key.att == 0)) = false := by rw [a0]; rfl
  have z : (((o.calls.map Call.g).length : Int) == 0) = true := beq_iff_eq.2 (by rw [List.length_map]; omega)
  constructor
  · refine Fv.of_awp Tryd.func15 rfl (by kernel_rfl) rfl (Nat.le_of_ble_eq_true rfl) ?_
    repeat' (conv => whnf
             first
             | (refine And.intro (by kernel_rfl) ?_)
             | (refine And.intro ⟨by kernel_rfl, by kernel_rfl⟩ ?_)
             | (refine Or.inl ⟨_, p1, ?_⟩)
             | (refine ⟨_, p1, ?_⟩)
             | (refine cond_0 a1 ?_)
             | (refine cond_1 a0 ?_)
             | (refine cond_1 z ?_)
             | (refine cond_f ?_ ?_)
             | (refine ⟨_, ⟨by decide, rfl⟩, ?_⟩)
             | (refine cond_i (fun h => ?_) (fun h => ?_)))
    all_goals (conv => whnf)
    all_goals rfl
  · refine Fv.of_awp Tryd.func24 rfl (by kernel_rfl) rfl (Nat.le_of_ble_eq_true rfl) ?_
    repeat' (conv => whnf
             first
             | (refine And.intro (by kernel_rfl) ?_)
             | (refine And.intro ⟨by kernel_rfl, by kernel_rfl⟩ ?_)
             | (refine cond_0 a1 ?_)
             | (refine cond_1 a0 ?_)
             | (refine cond_1 z ?_)
             | (refine cond_f ?_ ?_)
             | (refine ⟨_, ⟨by decide, rfl⟩, ?_⟩)
             | (refine cond_i (fun h => ?_) (fun h => ?_)))
    all_goals (conv => whnf)
    all_goals rfl
theorem settled_C (ha : o.key.att = 0) (hz : o.calls.length ≠ 0) (hk : 0 < k) : Fv Tryd.prog 15 [.agg o.g, .int .i64 now] (.tup [.int .i64 0, .int .i64 0, .bool false]) ∧ Fv Tryd.prog 24 [.agg o.g, .int .i64 now] (.tup [.int .i64 0, .int .i64 0, .bool false]) := by
  have a0 : (o.key.att == 0) = true := beq_iff_eq.2 ha
  have a1 : (!(o.key.att == 0)) = false := by rw [a0]; rfl
  have z : (((o.calls.map Call.g).length : Int) == 0) = false := beq_eq_false_iff_ne.2 (by rw [List.length_map]; omega)
  have k1 : decide (k > 0) = true := decide_eq_true hk
  have k2 : (k == 0) = false := beq_eq_false_iff_ne.2 (by omega)
  have k3 : (!(k == 0)) = true := by rw [k2]; rfl
  constructor
  · refine Fv.of_awp Tryd.func15 rfl (by kernel_rfl) rfl (Nat.le_of_ble_eq_true rfl) ?_
    repeat' (conv => whnf
             first
             | (refine And.intro (by kernel_rfl) ?_)
             | (refine And.intro ⟨by kernel_rfl, by kernel_rfl⟩ ?_)
             | (refine Or.inl ⟨_, p1, ?_⟩)
             | (refine ⟨_, p1, ?_⟩)
             | (refine cond_0 a1 ?_)
             | (refine cond_1 a0 ?_)
             | (refine cond_0 z ?_)
             | (refine Or.inl ⟨_, p2, ?_⟩)
             | (refine ⟨_, p2, ?_⟩)
             | (refine cond_1 k1 ?_)
             | (refine cond_f ?_ ?_)
             | (refine ⟨_, ⟨by decide, rfl⟩, ?_⟩)
             | (refine cond_i (fun h => ?_) (fun h => ?_)))
    all_goals (conv => whnf)
    all_goals rfl
  · refine Fv.of_awp Tryd.func24 rfl (by kernel_rfl) rfl (Nat.le_of_ble_eq_true rfl) ?_
    repeat' (conv => whnf
             first
             | (refine And.intro (by kernel_rfl) ?_)
             | (refine And.intro ⟨by kernel_rfl, by kernel_rfl⟩ ?_)
             | (refine cond_0 a1 ?_)
             | (refine cond_1 a0 ?_)
             | (refine cond_0 z ?_)
             | (refine Or.inl ⟨_, r2, ?_⟩)
             | (refine ⟨_, r2, ?_⟩)
             | (refine cond_1 k3 ?_)
             | (refine cond_0 k2 ?_)
             | (refine cond_f ?_ ?_)
             | (refine ⟨_, ⟨by decide, rfl⟩, ?_⟩)
             | (refine cond_i (fun h => ?_) (fun h => ?_)))
    all_goals (conv => whnf)
    all_goals rfl
theorem settled_D (ha : o.key.att = 0) (hz : o.calls.length ≠ 0) (hk : k = 0) (hw : w = 0) : Fv Tryd.prog 15 [.agg o.g, .int .i64 now] (.tup [.int .i64 0, .int .i64 s, .bool true]) ∧ Fv Tryd.prog 24 [.agg o.g, .int .i64 now] (.tup [.int .i64 0, .int .i64 s, .bool true]) := by
  subst hw
  have a0 : (o.key.att == 0) = true := beq_iff_eq.2 ha
  have a1 : (!(o.key.att == 0)) = false := by rw [a0]; rfl
  have z : (((o.calls.map Call.g).length : Int) == 0) = false := beq_eq_false_iff_ne.2 (by rw [List.length_map]; omega)
  have k1 : decide (k > 0) = false := decide_eq_false (by omega)
  have k2 : (k == 0) = true := beq_iff_eq.2 (by omega)
  have k3 : (!(k == 0)) = false := by rw [k2]; rfl
  constructor
  · refine Fv.of_awp Tryd.func15 rfl (by kernel_rfl) rfl (Nat.le_of_ble_eq_true rfl) ?_
    repeat' (conv => whnf
             first
             | (refine And.intro (by kernel_rfl) ?_)
             | (refine And.intro ⟨by kernel_rfl, by kernel_rfl⟩ ?_)
             | (refine Or.inl ⟨_, p1, ?_⟩)
             | (refine ⟨_, p1, ?_⟩)
             | (refine cond_0 a1 ?_)
             | (refine cond_1 a0 ?_)
             | (refine cond_0 z ?_)
             | (refine Or.inl ⟨_, p2, ?_⟩)
             | (refine ⟨_, p2, ?_⟩)
             | (refine cond_0 k1 ?_)
             | (refine Or.inl ⟨_, p3, ?_⟩)
             | (refine ⟨_, p3, ?_⟩)
             | (refine Or.inl ⟨_, p4, ?_⟩)
             | (refine ⟨_, p4, ?_⟩)
             | (refine cond_f ?_ ?_)
             | (refine ⟨_, ⟨by decide, rfl⟩, ?_⟩)
             | (refine cond_i (fun h => ?_) (fun h => ?_)))
    all_goals (conv => whnf)
    all_goals rfl
  · refine Fv.of_awp Tryd.func24 rfl (by kernel_rfl) rfl (Nat.le_of_ble_eq_true rfl) ?_
    repeat' (conv => whnf
             first
             | (refine And.intro (by kernel_rfl) ?_)
             | (refine And.intro ⟨by kernel_rfl, by kernel_rfl⟩ ?_)
             | (refine cond_0 a1 ?_)
             | (refine cond_1 a0 ?_)
             | (refine cond_0 z ?_)
             | (refine Or.inl ⟨_, r2, ?_⟩)
             | (refine ⟨_, r2, ?_⟩)
             | (refine cond_0 k3 ?_)
             | (refine cond_1 k2 ?_)
             | (refine Or.inl ⟨_, r3, ?_⟩)
             | (refine ⟨_, r3, ?_⟩)
             | (refine Or.inl ⟨_, r4, ?_⟩)
             | (refine ⟨_, r4, ?_⟩)
             | (refine cond_f ?_ ?_)
             | (refine ⟨_, ⟨by decide, rfl⟩, ?_⟩)
             | (refine cond_i (fun h => ?_) (fun h => ?_)))
    all_goals (conv => whnf)
    all_goals rfl
theorem settled_E (ha : o.key.att = 0) (hz : o.calls.length ≠ 0) (hk : k = 0) (hw : w = 4) (ht : t < d) : Fv Tryd.prog 15 [.agg o.g, .int .i64 now] (.tup [.int .i64 0, .int .i64 0, .bool false]) ∧ Fv Tryd.prog 24 [.agg o.g, .int .i64 now] (.tup [.int .i64 0, .int .i64 0, .bool false]) := by
  subst hw
  have a0 : (o.key.att == 0) = true := beq_iff_eq.2 ha
  have a1 : (!(o.key.att == 0)) = false := by rw [a0]; rfl
  have z : (((o.calls.map Call.g).length : Int) == 0) = false := beq_eq_false_iff_ne.2 (by rw [List.length_map]; omega)
  have k1 : decide (k > 0) = false := decide_eq_false (by omega)
  have k2 : (k == 0) = true := beq_iff_eq.2 (by omega)
  have k3 : (!(k == 0)) = false := by rw [k2]; rfl
  have c1 : decide (t < d) = true := decide_eq_true ht
  have c2 : decide (d > t) = true := decide_eq_true ht
  constructor
  · refine Fv.of_awp Tryd.func15 rfl (by kernel_rfl) rfl (Nat.le_of_ble_eq_true rfl) ?_
    repeat' (conv => whnf
             first
             | (refine And.intro (by kernel_rfl) ?_)
             | (refine And.intro ⟨by kernel_rfl, by kernel_rfl⟩ ?_)
             | (refine Or.inl ⟨_, p1, ?_⟩)
             | (refine ⟨_, p1, ?_⟩)
             | (refine cond_0 a1 ?_)
             | (refine cond_1 a0 ?_)
             | (refine cond_0 z ?_)
             | (refine Or.inl ⟨_, p2, ?_⟩)
             | (refine ⟨_, p2, ?_⟩)
             | (refine cond_0 k1 ?_)
             | (refine Or.inl ⟨_, p3, ?_⟩)
             | (refine ⟨_, p3, ?_⟩)
             | (refine Or.inl ⟨_, p5, ?_⟩)
             | (refine ⟨_, p5, ?_⟩)
             | (refine Or.inl ⟨_, p6, ?_⟩)
             | (refine ⟨_, p6, ?_⟩)
             | (refine cond_1 c1 ?_)
             | (refine cond_f ?_ ?_)
             | (refine ⟨_, ⟨by decide, rfl⟩, ?_⟩)
             | (refine cond_i (fun h => ?_) (fun h => ?_)))
    all_goals (conv => whnf)
    all_goals rfl
  · refine Fv.of_awp Tryd.func24 rfl (by kernel_rfl) rfl (Nat.le_of_ble_eq_true rfl) ?_
    repeat' (conv => whnf
             first
             | (refine And.intro (by kernel_rfl) ?_)
             | (refine And.intro ⟨by kernel_rfl, by kernel_rfl⟩ ?_)
             | (refine cond_0 a1 ?_)
             | (refine cond_1 a0 ?_)
             | (refine cond_0 z ?_)
             | (refine Or.inl ⟨_, r2, ?_⟩)
             | (refine ⟨_, r2, ?_⟩)
             | (refine cond_0 k3 ?_)
             | (refine cond_1 k2 ?_)
             | (refine Or.inl ⟨_, r3, ?_⟩)
             | (refine ⟨_, r3, ?_⟩)
             | (refine Or.inl ⟨_, r6, ?_⟩)
             | (refine ⟨_, r6, ?_⟩)
             | (refine Or.inl ⟨_, r5, ?_⟩)
             | (refine ⟨_, r5, ?_⟩)
             | (refine cond_1 c2 ?_)
             | (refine cond_f ?_ ?_)
             | (refine ⟨_, ⟨by decide, rfl⟩, ?_⟩)
             | (refine cond_i (fun h => ?_) (fun h => ?_)))
    all_goals (conv => whnf)
    all_goals rfl
theorem settled_F (ha : o.key.att = 0) (hz : o.calls.length ≠ 0) (hk : k = 0) (hw : w = 4) (ht : ¬ t < d) : Fv Tryd.prog 15 [.agg o.g, .int .i64 now] (.tup [.int .i64 4, .int .i64 0, .bool true]) ∧ Fv Tryd.prog 24 [.agg o.g, .int .i64 now] (.tup [.int .i64 4, .int .i64 0, .bool true]) := by
  subst hw
  have a0 : (o.key.att == 0) = true := beq_iff_eq.2 ha
  have a1 : (!(o.key.att == 0)) = false := by rw [a0]; rfl
  have z : (((o.calls.map Call.g).length : Int) == 0) = false := beq_eq_false_iff_ne.2 (by rw [List.length_map]; omega)
  have k1 : decide (k > 0) = false := decide_eq_false (by omega)
  have k2 : (k == 0) = true := beq_iff_eq.2 (by omega)
  have k3 : (!(k == 0)) = false := by rw [k2]; rfl
  have c1 : decide (t < d) = false := decide_eq_false ht
  have c2 : decide (d > t) = false := decide_eq_false ht
  constructor
  · refine Fv.of_awp Tryd.func15 rfl (by kernel_rfl) rfl (Nat.le_of_ble_eq_true rfl) ?_
    repeat' (conv => whnf
             first
             | (refine And.intro (by kernel_rfl) ?_)
             | (refine And.intro ⟨by kernel_rfl, by kernel_rfl⟩ ?_)
             | (refine Or.inl ⟨_, p1, ?_⟩)
             | (refine ⟨_, p1, ?_⟩)
             | (refine cond_0 a1 ?_)
             | (refine cond_1 a0 ?_)
             | (refine cond_0 z ?_)
             | (refine Or.inl ⟨_, p2, ?_⟩)
             | (refine ⟨_, p2, ?_⟩)
             | (refine cond_0 k1 ?_)
             | (refine Or.inl ⟨_, p3, ?_⟩)
             | (refine ⟨_, p3, ?_⟩)
             | (refine Or.inl ⟨_, p5, ?_⟩)
             | (refine ⟨_, p5, ?_⟩)
             | (refine Or.inl ⟨_, p6, ?_⟩)
             | (refine ⟨_, p6, ?_⟩)
             | (refine cond_0 c1 ?_)
             | (refine cond_f ?_ ?_)
             | (refine ⟨_, ⟨by decide, rfl⟩, ?_⟩)
             | (refine cond_i (fun h => ?_) (fun h => ?_)))
    all_goals (conv => whnf)
    all_goals rfl
  · refine Fv.of_awp Tryd.func24 rfl (by kernel_rfl) rfl (Nat.le_of_ble_eq_true rfl) ?_
    repeat' (conv => whnf
             first
             | (refine And.intro (by kernel_rfl) ?_)
             | (refine And.intro ⟨by kernel_rfl, by kernel_rfl⟩ ?_)
             | (refine cond_0 a1 ?_)
             | (refine cond_1 a0 ?_)
             | (refine cond_0 z ?_)
             | (refine Or.inl ⟨_, r2, ?_⟩)
             | (refine ⟨_, r2, ?_⟩)
             | (refine cond_0 k3 ?_)
             | (refine cond_1 k2 ?_)
             | (refine Or.inl ⟨_, r3, ?_⟩)
             | (refine ⟨_, r3, ?_⟩)
             | (refine Or.inl ⟨_, r6, ?_⟩)
             | (refine ⟨_, r6, ?_⟩)
             | (refine Or.inl ⟨_, r5, ?_⟩)
             | (refine ⟨_, r5, ?_⟩)
             | (refine cond_0 c2 ?_)
             | (refine cond_f ?_ ?_)
             | (refine ⟨_, ⟨by decide, rfl⟩, ?_⟩)
             | (refine cond_i (fun h => ?_) (fun h => ?_)))
    all_goals (conv => whnf)
    all_goals rfl
theorem settled_G (ha : o.key.att = 0) (hz : o.calls.length ≠ 0) (hk : k = 0) (hw : w = 1) : Fv Tryd.prog 15 [.agg o.g, .int .i64 now] (.tup [.int .i64 13, .int .i64 0, .bool true]) ∧ Fv Tryd.prog 24 [.agg o.g, .int .i64 now] (.tup [.int .i64 13, .int .i64 0, .bool true]) := by
  subst hw
  have a0 : (o.key.att == 0) = true := beq_iff_eq.2 ha
  have a1 : (!(o.key.att == 0)) = false := by rw [a0]; rfl
  have z : (((o.calls.map Call.g).length : Int) == 0) = false := beq_eq_false_iff_ne.2 (by rw [List.length_map]; omega)
  have k1 : decide (k > 0) = false := decide_eq_false (by omega)
  have k2 : (k == 0) = true := beq_iff_eq.2 (by omega)
  have k3 : (!(k == 0)) = false := by rw [k2]; rfl
  constructor
  · refine Fv.of_awp Tryd.func15 rfl (by kernel_rfl) rfl (Nat.le_of_ble_eq_true rfl) ?_
    repeat' (conv => whnf
             first
             | (refine And.intro (by kernel_rfl) ?_)
             | (refine And.intro ⟨by kernel_rfl, by kernel_rfl⟩ ?_)
             | (refine Or.inl ⟨_, p1, ?_⟩)
             | (refine ⟨_, p1, ?_⟩)
             | (refine cond_0 a1 ?_)
             | (refine cond_1 a0 ?_)
             | (refine cond_0 z ?_)
             | (refine Or.inl ⟨_, p2, ?_⟩)
             | (refine ⟨_, p2, ?_⟩)
             | (refine cond_0 k1 ?_)
             | (refine Or.inl ⟨_, p3, ?_⟩)
             | (refine ⟨_, p3, ?_⟩)
             | (refine cond_f ?_ ?_)
             | (refine ⟨_, ⟨by decide, rfl⟩, ?_⟩)
             | (refine cond_i (fun h => ?_) (fun h => ?_)))
    all_goals (conv => whnf)
    all_goals rfl
  · refine Fv.of_awp Tryd.func24 rfl (by kernel_rfl) rfl (Nat.le_of_ble_eq_true rfl) ?_
    repeat' (conv => whnf
             first
             | (refine And.intro (by kernel_rfl) ?_)
             | (refine And.intro ⟨by kernel_rfl, by kernel_rfl⟩ ?_)
             | (refine cond_0 a1 ?_)
             | (refine cond_1 a0 ?_)
             | (refine cond_0 z ?_)
             | (refine Or.inl ⟨_, r2, ?_⟩)
             | (refine ⟨_, r2, ?_⟩)
             | (refine cond_0 k3 ?_)
             | (refine cond_1 k2 ?_)
             | (refine Or.inl ⟨_, r3, ?_⟩)
             | (refine ⟨_, r3, ?_⟩)
             | (refine cond_f ?_ ?_)
             | (refine ⟨_, ⟨by decide, rfl⟩, ?_⟩)
             | (refine cond_i (fun h => ?_) (fun h => ?_)))
    all_goals (conv => whnf)
    all_goals rfl
theorem settled_H (ha : o.key.att = 0) (hz : o.calls.length ≠ 0) (hk : k = 0) (h0 : w ≠ 0) (h1 : w ≠ 1) (h4 : w ≠ 4) : Fv Tryd.prog 15 [.agg o.g, .int .i64 now] (.tup [.int .i64 w, .int .i64 0, .bool true]) ∧ Fv Tryd.prog 24 [.agg o.g, .int .i64 now] (.tup [.int .i64 w, .int .i64 0, .bool true]) := by
  have a0 : (o.key.att == 0) = true := beq_iff_eq.2 ha
  have a1 : (!(o.key.att == 0)) = false := by rw [a0]; rfl
  have z : (((o.calls.map Call.g).length : Int) == 0) = false := beq_eq_false_iff_ne.2 (by rw [List.length_map]; omega)
  have k1 : decide (k > 0) = false := decide_eq_false (by omega)
  have k2 : (k == 0) = true := beq_iff_eq.2 (by omega)
  have k3 : (!(k == 0)) = false := by rw [k2]; rfl
  have w0 : (w == 0) = false := beq_eq_false_iff_ne.2 h0
  have w1 : (w == 1) = false := beq_eq_false_iff_ne.2 h1
  have w4 : (w == 4) = false := beq_eq_false_iff_ne.2 h4
  constructor
  · refine Fv.of_awp Tryd.func15 rfl (by kernel_rfl) rfl (Nat.le_of_ble_eq_true rfl) ?_
    repeat' (conv => whnf
             first
             | (refine And.intro (by kernel_rfl) ?_)
             | (refine And.intro ⟨by kernel_rfl, by kernel_rfl⟩ ?_)
             | (refine Or.inl ⟨_, p1, ?_⟩)
             | (refine ⟨_, p1, ?_⟩)
             | (refine cond_0 a1 ?_)
             | (refine cond_1 a0 ?_)
             | (refine cond_0 z ?_)
             | (refine Or.inl ⟨_, p2, ?_⟩)
             | (refine ⟨_, p2, ?_⟩)
             | (refine cond_0 k1 ?_)
             | (refine Or.inl ⟨_, p3, ?_⟩)
             | (refine ⟨_, p3, ?_⟩)
             | (refine cond_0 w0 ?_)
             | (refine cond_0 w1 ?_)
             | (refine cond_0 w4 ?_)
             | (refine cond_f ?_ ?_)
             | (refine ⟨_, ⟨by decide, rfl⟩, ?_⟩)
             | (refine cond_i (fun h => ?_) (fun h => ?_)))
    all_goals (conv => whnf)
    all_goals rfl
  · refine Fv.of_awp Tryd.func24 rfl (by kernel_rfl) rfl (Nat.le_of_ble_eq_true rfl) ?_
    repeat' (conv => whnf
             first
             | (refine And.intro (by kernel_rfl) ?_)
             | (refine And.intro ⟨by kernel_rfl, by kernel_rfl⟩ ?_)
             | (refine cond_0 a1 ?_)
             | (refine cond_1 a0 ?_)
             | (refine cond_0 z ?_)
             | (refine Or.inl ⟨_, r2, ?_⟩)
             | (refine ⟨_, r2, ?_⟩)
             | (refine cond_0 k3 ?_)
             | (refine cond_1 k2 ?_)
             | (refine Or.inl ⟨_, r3, ?_⟩)
             | (refine ⟨_, r3, ?_⟩)
             | (refine cond_0 w0 ?_)
             | (refine cond_0 w1 ?_)
             | (refine cond_0 w4 ?_)
             | (refine cond_f ?_ ?_)
             | (refine ⟨_, ⟨by decide, rfl⟩, ?_⟩)
             | (refine cond_i (fun h => ?_) (fun h => ?_)))
    all_goals (conv => whnf)
    all_goals rfl
end
theorem sender_Settled (o : Owner) (now : Int) (hs : o.calls.length ≤ 31) : Fv Tryd.prog 15 [.agg o.g, .int .i64 now] (.tup [.int .i64 (Sp.settle o now).1, .int .i64 (Sp.settle o now).2.1, .bool (Sp.settle o now).2.2]) ∧ Fv Tryd.prog 24 [.agg o.g, .int .i64 now] (.tup [.int .i64 (Sp.settle o now).1, .int .i64 (Sp.settle o now).2.1, .bool (Sp.settle o now).2.2]) := by
  have hk := openN_bd o.calls
  unfold Sp.settle
  by_cases ha : o.key.att = 0
  case neg =>
    rw [if_pos (.inl ha)]
    exact settled_A o now _ _ _ _ _ (owner_IsRoot o) (owner_Open o (by omega)) (ref23_Open o (by omega)) (owner_Worst o (by omega)) (ref23_Worst o (by omega)) (owner_Sum o 0 (by omega)) (ref23_Sum o 0 (by omega)) (ticks_Clamp now) (ref01_Clamp now) (ticks_Clamp _) (ref01_Clamp _) ha
  by_cases hz : o.calls.length = 0
  · rw [if_pos (.inr (.inl hz))]
    exact settled_B o now _ _ _ _ _ (owner_IsRoot o) (owner_Open o (by omega)) (ref23_Open o (by omega)) (owner_Worst o (by omega)) (ref23_Worst o (by omega)) (owner_Sum o 0 (by omega)) (ref23_Sum o 0 (by omega)) (ticks_Clamp now) (ref01_Clamp now) (ticks_Clamp _) (ref01_Clamp _) ha hz
  by_cases h0 : openN o.calls = 0
  case neg =>
    rw [if_pos (.inr (.inr h0))]
    exact settled_C o now _ _ _ _ _ (owner_IsRoot o) (owner_Open o (by omega)) (ref23_Open o (by omega)) (owner_Worst o (by omega)) (ref23_Worst o (by omega)) (owner_Sum o 0 (by omega)) (ref23_Sum o 0 (by omega)) (ticks_Clamp now) (ref01_Clamp now) (ticks_Clamp _) (ref01_Clamp _) ha hz (by omega)
  rw [if_neg (by omega)]
  by_cases w0 : worst o.calls = 0
  · rw [if_pos w0]; exact settled_D o now _ _ _ _ _ (owner_IsRoot o) (owner_Open o (by omega)) (ref23_Open o (by omega)) (owner_Worst o (by omega)) (ref23_Worst o (by omega)) (owner_Sum o 0 (by omega)) (ref23_Sum o 0 (by omega)) (ticks_Clamp now) (ref01_Clamp now) (ticks_Clamp _) (ref01_Clamp _) ha hz h0 w0
  rw [if_neg w0]
  by_cases w4 : worst o.calls = 4
  · rw [if_pos w4]
    by_cases ht : clamp now < clamp o.deadline
    · rw [if_pos ht]; exact settled_E o now _ _ _ _ _ (owner_IsRoot o) (owner_Open o (by omega)) (ref23_Open o (by omega)) (owner_Worst o (by omega)) (ref23_Worst o (by omega)) (owner_Sum o 0 (by omega)) (ref23_Sum o 0 (by omega)) (ticks_Clamp now) (ref01_Clamp now) (ticks_Clamp _) (ref01_Clamp _) ha hz h0 w4 ht
    · rw [if_neg ht]; exact settled_F o now _ _ _ _ _ (owner_IsRoot o) (owner_Open o (by omega)) (ref23_Open o (by omega)) (owner_Worst o (by omega)) (ref23_Worst o (by omega)) (owner_Sum o 0 (by omega)) (ref23_Sum o 0 (by omega)) (ticks_Clamp now) (ref01_Clamp now) (ticks_Clamp _) (ref01_Clamp _) ha hz h0 w4 ht
  rw [if_neg w4]
  by_cases w1 : worst o.calls = 1
  · rw [if_pos w1]; exact settled_G o now _ _ _ _ _ (owner_IsRoot o) (owner_Open o (by omega)) (ref23_Open o (by omega)) (owner_Worst o (by omega)) (ref23_Worst o (by omega)) (owner_Sum o 0 (by omega)) (ref23_Sum o 0 (by omega)) (ticks_Clamp now) (ref01_Clamp now) (ticks_Clamp _) (ref01_Clamp _) ha hz h0 w1
  · rw [if_neg w1]; exact settled_H o now _ _ _ _ _ (owner_IsRoot o) (owner_Open o (by omega)) (ref23_Open o (by omega)) (owner_Worst o (by omega)) (ref23_Worst o (by omega)) (owner_Sum o 0 (by omega)) (ref23_Sum o 0 (by omega)) (ticks_Clamp now) (ref01_Clamp now) (ticks_Clamp _) (ref01_Clamp _) ha hz h0 w0 w1 w4

theorem wrap_u32_bd (n : Int) : 0 ≤ IntKind.u32.wrap n ∧ IntKind.u32.wrap n < 4294967296 := by
  unfold IntKind.wrap IntKind.bits IntKind.signed
  simp only [Bool.false_and]
  simp
  omega
theorem wrap_u32_id {n : Int} (h : 0 ≤ n ∧ n < 4294967296) : IntKind.u32.wrap n = n := by
  unfold IntKind.wrap IntKind.bits IntKind.signed
  simp only [Bool.false_and]
  simp
  omega
theorem backoff_Jitter (a b c : Int) : Fv Tryd.prog 62 [.int .i64 a, .int .i64 b, .int .i64 c] (.int .i64 (jitter a b c)) := by
  refine Fv.of_awp Tryd.func62 rfl (by kernel_rfl) rfl (Nat.le_of_ble_eq_true rfl) ?_
  repeat' (conv => whnf
           first
           | (refine And.intro (by kernel_rfl) ?_)
           | (refine And.intro ⟨by kernel_rfl, by kernel_rfl⟩ ?_)
           | (refine cond_f ?_ ?_)
           | (refine ⟨_, ⟨by decide, rfl⟩, ?_⟩)
           | (refine cond_i (fun h => ?_) (fun h => ?_)))
  all_goals (conv => whnf)
  refine int_eq ?_
  unfold jitter
  rw [← Int.fdiv_eq_ediv_of_nonneg _ (by omega)]
  rfl
theorem ref18_Jitter (a b c : Int) : Fv Tryd.prog 64 [.int .i64 a, .int .i64 b, .int .i64 c] (.int .i64 (jitter a b c)) := by
  refine Fv.of_awp Tryd.func64 rfl (by kernel_rfl) rfl (Nat.le_of_ble_eq_true rfl) ?_
  repeat' (conv => whnf
           first
           | (refine And.intro (by kernel_rfl) ?_)
           | (refine And.intro ⟨by kernel_rfl, by kernel_rfl⟩ ?_)
           | (refine cond_f ?_ ?_)
           | (refine ⟨_, ⟨by decide, rfl⟩, ?_⟩)
           | (refine cond_i (fun h => ?_) (fun h => ?_)))
  all_goals (conv => whnf)
  refine int_eq ?_
  have hb : 0 ≤ jh a b c ∧ jh a b c < 4294967296 := wrap_u32_bd _
  have e : jh a b c / 32768 = IntKind.u32.wrap ((jh a b c).tdiv 32768) := by
    rw [Int.tdiv_eq_ediv_of_nonneg hb.1, wrap_u32_id (by omega)]
  unfold jitter
  rw [e]
  rfl
theorem throttle_Bad (h t : Int) : Fv Tryd.prog 60 [.int .i64 h, .int .i64 t] (.int .i64 (tBad h t)) := by
  have hb := tClean_bd h t
  have n1 := throttle_clean h t
  unfold tBad
  obtain ⟨x, hx⟩ : ∃ x, tClean h t = x := ⟨_, rfl⟩
  rw [hx] at hb n1 ⊢
  have w : IntKind.i64.wrap (x - 1000) = x - 1000 := wrap_i64 (by omega)
  refine Fv.of_awp Tryd.func60 rfl (by kernel_rfl) rfl (Nat.le_of_ble_eq_true rfl) ?_
  repeat' (conv => whnf
           first
           | (refine And.intro (by kernel_rfl) ?_)
           | (refine And.intro ⟨by kernel_rfl, by kernel_rfl⟩ ?_)
           | (refine Or.inl ⟨_, n1, ?_⟩)
           | (refine ⟨_, n1, ?_⟩)
           | (refine cond_f ?_ ?_)
           | (refine ⟨_, ⟨by decide, rfl⟩, ?_⟩)
           | (refine cond_i (fun h => ?_) (fun h => ?_)))
  all_goals (conv => whnf)
  all_goals
    refine int_eq ?_
    rw [w] at *
    simp only [decide_eq_true_eq, decide_eq_false_iff_not] at *
    split <;> omega
theorem ref19_Bad (h t : Int) : Fv Tryd.prog 63 [.int .i64 h, .int .i64 t] (.int .i64 (tBad h t)) := by
  have hb := tClean_bd h t
  have n1 := ref19_clean h t
  unfold tBad
  obtain ⟨x, hx⟩ : ∃ x, tClean h t = x := ⟨_, rfl⟩
  rw [hx] at hb n1 ⊢
  have w : IntKind.i64.wrap (x - 1000) = x - 1000 := wrap_i64 (by omega)
  refine Fv.of_awp Tryd.func63 rfl (by kernel_rfl) rfl (Nat.le_of_ble_eq_true rfl) ?_
  by_cases hc : x < 1000
  · have b1 : decide (x < 1000) = true := decide_eq_true hc
    repeat' (conv => whnf
             first
             | (refine And.intro (by kernel_rfl) ?_)
             | (refine And.intro ⟨by kernel_rfl, by kernel_rfl⟩ ?_)
             | (refine Or.inl ⟨_, n1, ?_⟩)
             | (refine ⟨_, n1, ?_⟩)
             | (refine cond_1 b1 ?_)
             | (refine cond_f ?_ ?_)
             | (refine ⟨_, ⟨by decide, rfl⟩, ?_⟩)
             | (refine cond_i (fun h => ?_) (fun h => ?_)))
    all_goals (conv => whnf)
    rw [if_pos hc]
  · have b1 : decide (x < 1000) = false := decide_eq_false hc
    repeat' (conv => whnf
             first
             | (refine And.intro (by kernel_rfl) ?_)
             | (refine And.intro ⟨by kernel_rfl, by kernel_rfl⟩ ?_)
             | (refine Or.inl ⟨_, n1, ?_⟩)
             | (refine ⟨_, n1, ?_⟩)
             | (refine cond_0 b1 ?_)
             | (refine cond_f ?_ ?_)
             | (refine ⟨_, ⟨by decide, rfl⟩, ?_⟩)
             | (refine cond_i (fun h => ?_) (fun h => ?_)))
    all_goals (conv => whnf)
    rw [if_neg hc]
    show G.int .i64 (IntKind.i64.wrap (x - 1000)) = _
    rw [w]
section
variable (c : Config) (me : Int) (o : Owner) (x : Sp.Call) (now have' n push : Int)
theorem failed_no (h : x.state ≠ 1) : Fv Tryd.prog 31 [.agg c.g, .int .i64 me, .agg o.g, .agg x.g, .int .i64 now, .int .i64 have', .int .i64 n, .int .i64 push] (.tup [.agg x.g, .int .i64 have']) ∧ Fv Tryd.prog 32 [.agg c.g, .int .i64 me, .agg o.g, .agg x.g, .int .i64 now, .int .i64 have', .int .i64 n, .int .i64 push] (.tup [.agg x.g, .int .i64 have']) := by
  have b0 : (x.state == 1) = false := beq_eq_false_iff_ne.2 h
  have b1 : (!(x.state == 1)) = true := by rw [b0]; rfl
  constructor
  · refine Fv.of_awp Tryd.func31 rfl (by kernel_rfl) rfl (Nat.le_of_ble_eq_true rfl) ?_
    repeat' (conv => whnf
             first
             | (refine And.intro (by kernel_rfl) ?_)
             | (refine And.intro ⟨by kernel_rfl, by kernel_rfl⟩ ?_)
             | (refine cond_1 b1 ?_)
             | (refine cond_0 b0 ?_)
             | (refine cond_f ?_ ?_)
             | (refine ⟨_, ⟨by decide, rfl⟩, ?_⟩)
             | (refine cond_i (fun h => ?_) (fun h => ?_)))
    all_goals (conv => whnf)
    all_goals rfl
  · refine Fv.of_awp Tryd.func32 rfl (by kernel_rfl) rfl (Nat.le_of_ble_eq_true rfl) ?_
    repeat' (conv => whnf
             first
             | (refine And.intro (by kernel_rfl) ?_)
             | (refine And.intro ⟨by kernel_rfl, by kernel_rfl⟩ ?_)
             | (refine cond_1 b1 ?_)
             | (refine cond_0 b0 ?_)
             | (refine cond_f ?_ ?_)
             | (refine ⟨_, ⟨by decide, rfl⟩, ?_⟩)
             | (refine cond_i (fun h => ?_) (fun h => ?_)))
    all_goals (conv => whnf)
    all_goals rfl
theorem failed_yes (h : x.state = 1) (y : Sp.Call) (z t j : Int) (n1 : Fv Tryd.prog 60 [.int .i64 have', .int .i64 c.tokens] (.int .i64 t)) (r1 : Fv Tryd.prog 63 [.int .i64 have', .int .i64 c.tokens] (.int .i64 t))
    (n2 : Fv Tryd.prog 62 [.int .i64 me, .int .i64 x.id.seq, .int .i64 x.att] (.int .i64 j)) (r2 : Fv Tryd.prog 64 [.int .i64 me, .int .i64 x.id.seq, .int .i64 x.att] (.int .i64 j))
    (n3 : Fv Tryd.prog 61 [.agg x.g, .agg c.g, .agg (Facts.mk n 0 false push t now o.deadline j).g] (.tup [.agg y.g, .int .i64 z])) (r3 : Fv Tryd.prog 65 [.agg x.g, .agg c.g, .agg (Facts.mk n 0 false push t now o.deadline j).g] (.tup [.agg y.g, .int .i64 z])) :
    Fv Tryd.prog 31 [.agg c.g, .int .i64 me, .agg o.g, .agg x.g, .int .i64 now, .int .i64 have', .int .i64 n, .int .i64 push] (.tup [.agg y.g, .int .i64 t]) ∧ Fv Tryd.prog 32 [.agg c.g, .int .i64 me, .agg o.g, .agg x.g, .int .i64 now, .int .i64 have', .int .i64 n, .int .i64 push] (.tup [.agg y.g, .int .i64 t]) := by
  have b0 : (x.state == 1) = true := beq_iff_eq.2 h
  have b1 : (!(x.state == 1)) = false := by rw [b0]; rfl
  constructor
  · refine Fv.of_awp Tryd.func31 rfl (by kernel_rfl) rfl (Nat.le_of_ble_eq_true rfl) ?_
    repeat' (conv => whnf
             first
             | (refine And.intro (by kernel_rfl) ?_)
             | (refine And.intro ⟨by kernel_rfl, by kernel_rfl⟩ ?_)
             | (refine cond_0 b1 ?_)
             | (refine cond_1 b0 ?_)
             | (refine Or.inl ⟨_, n1, ?_⟩)
             | (refine ⟨_, n1, ?_⟩)
             | (refine Or.inl ⟨_, n2, ?_⟩)
             | (refine ⟨_, n2, ?_⟩)
             | (refine Or.inl ⟨_, n3, ?_⟩)
             | (refine ⟨_, n3, ?_⟩)
             | (refine cond_f ?_ ?_)
             | (refine ⟨_, ⟨by decide, rfl⟩, ?_⟩)
             | (refine cond_i (fun h => ?_) (fun h => ?_)))
    all_goals (conv => whnf)
    all_goals rfl
  · refine Fv.of_awp Tryd.func32 rfl (by kernel_rfl) rfl (Nat.le_of_ble_eq_true rfl) ?_
    repeat' (conv => whnf
             first
             | (refine And.intro (by kernel_rfl) ?_)
             | (refine And.intro ⟨by kernel_rfl, by kernel_rfl⟩ ?_)
             | (refine cond_0 b1 ?_)
             | (refine cond_1 b0 ?_)
             | (refine Or.inl ⟨_, r1, ?_⟩)
             | (refine ⟨_, r1, ?_⟩)
             | (refine Or.inl ⟨_, r2, ?_⟩)
             | (refine ⟨_, r2, ?_⟩)
             | (refine Or.inl ⟨_, r3, ?_⟩)
             | (refine ⟨_, r3, ?_⟩)
             | (refine cond_f ?_ ?_)
             | (refine ⟨_, ⟨by decide, rfl⟩, ?_⟩)
             | (refine cond_i (fun h => ?_) (fun h => ?_)))
    all_goals (conv => whnf)
    all_goals rfl
theorem sender_Failed (ha : x.att ≤ 9223372036854775807) : Fv Tryd.prog 31 [.agg c.g, .int .i64 me, .agg o.g, .agg x.g, .int .i64 now, .int .i64 have', .int .i64 n, .int .i64 push] (.tup [.agg (failF c me o x now have' n push).1.g, .int .i64 (failF c me o x now have' n push).2]) ∧ Fv Tryd.prog 32 [.agg c.g, .int .i64 me, .agg o.g, .agg x.g, .int .i64 now, .int .i64 have', .int .i64 n, .int .i64 push] (.tup [.agg (failF c me o x now have' n push).1.g, .int .i64 (failF c me o x now have' n push).2]) := by
  unfold failF
  by_cases h : x.state = 1
  · rw [if_pos h]
    exact failed_yes c me o x now have' n push h _ _ _ _ (throttle_Bad _ _) (ref19_Bad _ _) (backoff_Jitter _ _ _) (ref18_Jitter _ _ _) (call_Bad x c (factsF c me o x now have' n push) ha) (ref21_Bad x c (factsF c me o x now have' n push) ha)
  · rw [if_neg h]; exact failed_no c me o x now have' n push h
end
def replyP (me : Int) (o : Owner) (n v : Int) : Packet := { zP with kind := 2, «from» := me, to := o.from, key := o.key, code := n, value := v }
def moreP (me : Int) (o : Owner) : Packet := { zP with kind := 2, «from» := me, to := o.from, key := o.key, more := true }
def refuseP (me : Int) (o : Owner) (d : Int) : Packet := { zP with kind := 5, «from» := me, to := o.from, key := o.key, delay := d }
theorem sender_Reply (me : Int) (o : Owner) (n v : Int) : Fv Tryd.prog 18 [.int .i64 me, .agg o.g, .int .i64 n, .int .i64 v] (.agg (replyP me o n v).g) := by
  refine Fv.of_awp Tryd.func18 rfl (by kernel_rfl) rfl (Nat.le_of_ble_eq_true rfl) ?_
  repeat' (conv => whnf
           first
           | (refine And.intro (by kernel_rfl) ?_)
           | (refine And.intro ⟨by kernel_rfl, by kernel_rfl⟩ ?_)
           | (refine cond_f ?_ ?_)
           | (refine ⟨_, ⟨by decide, rfl⟩, ?_⟩)
           | (refine cond_i (fun h => ?_) (fun h => ?_)))
  all_goals (conv => whnf)
  all_goals rfl
theorem sender_More (me : Int) (o : Owner) : Fv Tryd.prog 20 [.int .i64 me, .agg o.g] (.agg (moreP me o).g) := by
  refine Fv.of_awp Tryd.func20 rfl (by kernel_rfl) rfl (Nat.le_of_ble_eq_true rfl) ?_
  repeat' (conv => whnf
           first
           | (refine And.intro (by kernel_rfl) ?_)
           | (refine And.intro ⟨by kernel_rfl, by kernel_rfl⟩ ?_)
           | (refine cond_f ?_ ?_)
           | (refine ⟨_, ⟨by decide, rfl⟩, ?_⟩)
           | (refine cond_i (fun h => ?_) (fun h => ?_)))
  all_goals (conv => whnf)
  all_goals rfl
theorem sender_Refuse (me : Int) (o : Owner) (d : Int) : Fv Tryd.prog 22 [.int .i64 me, .agg o.g, .int .i64 d] (.agg (refuseP me o d).g) := by
  refine Fv.of_awp Tryd.func22 rfl (by kernel_rfl) rfl (Nat.le_of_ble_eq_true rfl) ?_
  repeat' (conv => whnf
           first
           | (refine And.intro (by kernel_rfl) ?_)
           | (refine And.intro ⟨by kernel_rfl, by kernel_rfl⟩ ?_)
           | (refine cond_f ?_ ?_)
           | (refine ⟨_, ⟨by decide, rfl⟩, ?_⟩)
           | (refine cond_i (fun h => ?_) (fun h => ?_)))
  all_goals (conv => whnf)
  all_goals rfl
theorem ref26_Answer (k me : Int) (o : Owner) : Fv Tryd.prog 53 [.int .i64 k, .int .i64 me, .agg o.g] (.agg (Packet.mk k me o.from o.key 0 0 ByteArray.empty 0 0 ⟨0, 0, 0⟩ ⟨⟨0, 0, 0⟩, 0⟩ 0 0 false 0).g) := by
  refine Fv.of_awp Tryd.func53 rfl (by kernel_rfl) rfl (Nat.le_of_ble_eq_true rfl) ?_
  repeat' (conv => whnf
           first
           | (refine And.intro (by kernel_rfl) ?_)
           | (refine And.intro ⟨by kernel_rfl, by kernel_rfl⟩ ?_)
           | (refine cond_f ?_ ?_)
           | (refine ⟨_, ⟨by decide, rfl⟩, ?_⟩)
           | (refine cond_i (fun h => ?_) (fun h => ?_)))
  all_goals (conv => whnf)
  all_goals rfl
theorem ref26_Reply (me : Int) (o : Owner) (n v : Int) : Fv Tryd.prog 19 [.int .i64 me, .agg o.g, .int .i64 n, .int .i64 v] (.agg (replyP me o n v).g) := by
  have n1 := ref26_Answer 2 me o
  refine Fv.of_awp Tryd.func19 rfl (by kernel_rfl) rfl (Nat.le_of_ble_eq_true rfl) ?_
  repeat' (conv => whnf
           first
           | (refine And.intro (by kernel_rfl) ?_)
           | (refine And.intro ⟨by kernel_rfl, by kernel_rfl⟩ ?_)
           | (refine Or.inl ⟨_, n1, ?_⟩)
           | (refine ⟨_, n1, ?_⟩)
           | (refine cond_f ?_ ?_)
           | (refine ⟨_, ⟨by decide, rfl⟩, ?_⟩)
           | (refine cond_i (fun h => ?_) (fun h => ?_)))
  all_goals (conv => whnf)
  all_goals rfl
theorem ref26_More (me : Int) (o : Owner) : Fv Tryd.prog 21 [.int .i64 me, .agg o.g] (.agg (moreP me o).g) := by
  have n1 := ref26_Answer 2 me o
  refine Fv.of_awp Tryd.func21 rfl (by kernel_rfl) rfl (Nat.le_of_ble_eq_true rfl) ?_
  repeat' (conv => whnf
           first
           | (refine And.intro (by kernel_rfl) ?_)
           | (refine And.intro ⟨by kernel_rfl, by kernel_rfl⟩ ?_)
           | (refine Or.inl ⟨_, n1, ?_⟩)
           | (refine ⟨_, n1, ?_⟩)
           | (refine cond_f ?_ ?_)
           | (refine ⟨_, ⟨by decide, rfl⟩, ?_⟩)
           | (refine cond_i (fun h => ?_) (fun h => ?_)))
  all_goals (conv => whnf)
  all_goals rfl
theorem ref26_Refuse (me : Int) (o : Owner) (d : Int) : Fv Tryd.prog 23 [.int .i64 me, .agg o.g, .int .i64 d] (.agg (refuseP me o d).g) := by
  have n1 := ref26_Answer 5 me o
  refine Fv.of_awp Tryd.func23 rfl (by kernel_rfl) rfl (Nat.le_of_ble_eq_true rfl) ?_
  repeat' (conv => whnf
           first
           | (refine And.intro (by kernel_rfl) ?_)
           | (refine And.intro ⟨by kernel_rfl, by kernel_rfl⟩ ?_)
           | (refine Or.inl ⟨_, n1, ?_⟩)
           | (refine ⟨_, n1, ?_⟩)
           | (refine cond_f ?_ ?_)
           | (refine ⟨_, ⟨by decide, rfl⟩, ?_⟩)
           | (refine cond_i (fun h => ?_) (fun h => ?_)))
  all_goals (conv => whnf)
  all_goals rfl

abbrev cW : Config := ⟨0, 0, 0, 0, 1, 1, 0, 0, 0, 0, 0, 0, 0, []⟩
abbrev oW (l : List Sp.Call) : Owner := ⟨⟨⟨0, 0, 1⟩, 0⟩, ⟨0, 0, 0⟩, ⟨⟨0, 0, 0⟩, 0⟩, 0, 0, 110, 60, 0, 0, 0, l⟩
abbrev xW : Sp.Call := ⟨⟨0, 0, 2⟩, 3, 0, 0, 0, 0, 0, false, 0, 0, 0⟩
abbrev bW : Sp.Call := ⟨⟨0, 0, 2⟩, 3, 0, 1, 1, 10, 0, false, 0, 0, 1⟩
abbrev gW : Sp.Call := ⟨⟨0, 0, 2⟩, 3, 0, 1, 3, 10, 0, false, 0, 7, 1⟩
abbrev pW (u : ByteArray) : Packet := ⟨1, 0, 3, ⟨⟨0, 0, 2⟩, 1⟩, 1, 10, u, 60, 0, ⟨0, 0, 0⟩, ⟨⟨0, 0, 1⟩, 0⟩, 0, 0, false, 0⟩
set_option maxHeartbeats 2000000 in
theorem awake26_of (u : ByteArray) (b1 : strEq u ⟨#[49, 48, 48, 117]⟩ = true) (n1 : Fv Tryd.prog 10 [.agg cW.g, .int .i64 0, .agg (oW []).g, .agg xW.g, .int .i64 10] (.tup [.agg bW.g, .agg (pW u).g]))
    (n2 : Fv Tryd.prog 36 [.agg (oW []).g, .agg bW.g] (.agg (oW [bW]).g)) (n3 : Fv Tryd.prog 15 [.agg (oW [bW]).g, .int .i64 20] (.tup [.int .i64 0, .int .i64 0, .bool false]))
    (n4 : Fv Tryd.prog 37 [.agg bW.g, .int .i64 7] (.agg gW.g)) (n5 : Fv Tryd.prog 36 [.agg (oW []).g, .agg gW.g] (.agg (oW [gW]).g)) (n6 : Fv Tryd.prog 15 [.agg (oW [gW]).g, .int .i64 20] (.tup [.int .i64 0, .int .i64 7, .bool true])) :
    Fv Tryd.prog 9 [] (.bool true) := by
  refine Fv.of_awp Tryd.func9 rfl (by kernel_rfl) rfl (Nat.le_of_ble_eq_true rfl) ?_
  repeat' (conv => whnf
           first
           | (refine And.intro (by kernel_rfl) ?_)
           | (refine And.intro ⟨by kernel_rfl, by kernel_rfl⟩ ?_)
           | (refine Or.inl ⟨_, Fv.nl n1, ?_⟩)
           | (refine ⟨_, Fv.nl n1, ?_⟩)
           | (refine Or.inl ⟨_, Fv.nl n2, ?_⟩)
           | (refine ⟨_, Fv.nl n2, ?_⟩)
           | (refine Or.inl ⟨_, n3, ?_⟩)
           | (refine ⟨_, n3, ?_⟩)
           | (refine Or.inl ⟨_, n4, ?_⟩)
           | (refine ⟨_, n4, ?_⟩)
           | (refine Or.inl ⟨_, Fv.nl n5, ?_⟩)
           | (refine ⟨_, Fv.nl n5, ?_⟩)
           | (refine Or.inl ⟨_, n6, ?_⟩)
           | (refine ⟨_, n6, ?_⟩)
           | (refine cond_1 b1 ?_)
           | (refine cond_f ?_ ?_)
           | (refine ⟨_, ⟨by decide, rfl⟩, ?_⟩)
           | (refine cond_i (fun h => ?_) (fun h => ?_)))
  all_goals (conv => whnf)
  all_goals rfl
theorem law26_awake : Fv Tryd.prog 9 [] (.bool true) := by
  have e2 : enc (sub 110 10) = ⟨#[49, 48, 48, 117]⟩ := by
    have hs : sub 110 10 = 100 := by decide
    have hc : clamp 100 = 100 := clamp_id (by omega)
    rw [hs]
    unfold enc
    rw [hc, if_pos (by omega)]
    unfold txt
    rw [show ((100 : Int)).toNat = 100 from rfl, dec_more (n := 100) (by decide), dec_more (n := 100 / 10) (by decide), dec_small (n := 100 / 10 / 10) (by decide)]
    rfl
  have e1 : sendF cW 0 (oW []) xW 10 = (bW, pW (enc (sub 110 10))) := by
    unfold sendF
    rw [if_neg (by decide), if_neg (by decide), if_neg (by decide)]
    rfl
  have n1 := (sender_Send cW 0 (oW []) xW 10).1
  rw [e1] at n1
  have n2 := owner_With (oW []) bW (by decide)
  have n3 := (sender_Settled (oW [bW]) 20 (by decide)).1
  rw [show Sp.settle (oW [bW]) 20 = (0, 0, false) from by decide] at n3
  have n4 := call_Good bW 7
  rw [show cGood bW 7 = gW from by decide] at n4
  have n5 := owner_With (oW []) gW (by decide)
  have n6 := (sender_Settled (oW [gW]) 20 (by decide)).1
  rw [show Sp.settle (oW [gW]) 20 = (0, 7, true) from by decide +kernel] at n6
  exact awake26_of _ (by rw [e2]; exact strEq_self _) n1 n2 n3 n4 n5 n6
section
variable (c : Config) (me : Int) (o : Owner) (x : Sp.Call) (now : Int)
theorem sends_no (h : o.calls.length > 30 ∨ x.tries < 0 ∨ x.tries > 1000000) : Fv Tryd.prog 3 [.agg c.g, .int .i64 me, .agg o.g, .agg x.g, .int .i64 now] (.bool true) := by
  have aw := law26_awake
  refine Fv.of_awp Tryd.func3 rfl (by kernel_rfl) rfl (Nat.le_of_ble_eq_true rfl) ?_
  by_cases h1 : o.calls.length > 30
  · have b1 : decide (((o.calls.map Call.g).length : Int) > 30) = true := decide_eq_true (by rw [List.length_map]; omega)
    repeat' (conv => whnf
             first
             | (refine And.intro (by kernel_rfl) ?_)
             | (refine And.intro ⟨by kernel_rfl, by kernel_rfl⟩ ?_)
             | (refine cond_1 b1 ?_)
             | (refine Or.inl ⟨_, aw, ?_⟩)
             | (refine ⟨_, aw, ?_⟩)
             | (refine cond_f ?_ ?_)
             | (refine ⟨_, ⟨by decide, rfl⟩, ?_⟩)
             | (refine cond_i (fun h => ?_) (fun h => ?_)))
    all_goals (conv => whnf)
    all_goals rfl
  have b1 : decide (((o.calls.map Call.g).length : Int) > 30) = false := decide_eq_false (by rw [List.length_map]; omega)
  by_cases h2 : x.tries < 0
  · have b2 : decide (x.tries < 0) = true := decide_eq_true h2
    repeat' (conv => whnf
             first
             | (refine And.intro (by kernel_rfl) ?_)
             | (refine And.intro ⟨by kernel_rfl, by kernel_rfl⟩ ?_)
             | (refine cond_0 b1 ?_)
             | (refine cond_1 b2 ?_)
             | (refine Or.inl ⟨_, aw, ?_⟩)
             | (refine ⟨_, aw, ?_⟩)
             | (refine cond_f ?_ ?_)
             | (refine ⟨_, ⟨by decide, rfl⟩, ?_⟩)
             | (refine cond_i (fun h => ?_) (fun h => ?_)))
    all_goals (conv => whnf)
    all_goals rfl
  · have b2 : decide (x.tries < 0) = false := decide_eq_false h2
    have b3 : decide (x.tries > 1000000) = true := decide_eq_true (by omega)
    repeat' (conv => whnf
             first
             | (refine And.intro (by kernel_rfl) ?_)
             | (refine And.intro ⟨by kernel_rfl, by kernel_rfl⟩ ?_)
             | (refine cond_0 b1 ?_)
             | (refine cond_0 b2 ?_)
             | (refine cond_1 b3 ?_)
             | (refine Or.inl ⟨_, aw, ?_⟩)
             | (refine ⟨_, aw, ?_⟩)
             | (refine cond_f ?_ ?_)
             | (refine ⟨_, ⟨by decide, rfl⟩, ?_⟩)
             | (refine cond_i (fun h => ?_) (fun h => ?_)))
    all_goals (conv => whnf)
    all_goals rfl
theorem sends_of (h : ¬ (o.calls.length > 30 ∨ x.tries < 0 ∨ x.tries > 1000000)) (y : Sp.Call) (p : Packet) (n1 : Fv Tryd.prog 10 [.agg c.g, .int .i64 me, .agg o.g, .agg x.g, .int .i64 now] (.tup [.agg y.g, .agg p.g]))
    (n2 : Fv Tryd.prog 13 [.agg c.g, .int .i64 me, .agg o.g, .agg x.g, .int .i64 now] (.tup [.agg y.g, .agg p.g])) : Fv Tryd.prog 3 [.agg c.g, .int .i64 me, .agg o.g, .agg x.g, .int .i64 now] (.bool true) := by
  have aw := law26_awake
  have b1 : decide (((o.calls.map Call.g).length : Int) > 30) = false := decide_eq_false (by rw [List.length_map]; omega)
  have b2 : decide (x.tries < 0) = false := decide_eq_false (by omega)
  have b3 : decide (x.tries > 1000000) = false := decide_eq_false (by omega)
  have m1 := law23_Mine o (by omega)
  have m2 := law23_One x
  have m3 := law26_theirs y
  have c1 := (call_eqB y y).trans (decide_eq_true rfl)
  refine Fv.of_awp Tryd.func3 rfl (by kernel_rfl) rfl (Nat.le_of_ble_eq_true rfl) ?_
  repeat' (conv => whnf
           first
           | (refine And.intro (by kernel_rfl) ?_)
           | (refine And.intro ⟨by kernel_rfl, by kernel_rfl⟩ ?_)
           | (refine cond_0 b1 ?_)
           | (refine cond_0 b2 ?_)
           | (refine cond_0 b3 ?_)
           | (refine Or.inl ⟨_, m1, ?_⟩)
           | (refine ⟨_, m1, ?_⟩)
           | (refine Or.inl ⟨_, m2, ?_⟩)
           | (refine ⟨_, m2, ?_⟩)
           | (refine Or.inl ⟨_, n1, ?_⟩)
           | (refine ⟨_, n1, ?_⟩)
           | (refine Or.inl ⟨_, n2, ?_⟩)
           | (refine ⟨_, n2, ?_⟩)
           | (refine Or.inl ⟨_, m3, ?_⟩)
           | (refine ⟨_, m3, ?_⟩)
           | (refine cond_1 c1 ?_)
           | (refine Or.inl ⟨_, aw, ?_⟩)
           | (refine ⟨_, aw, ?_⟩)
           | (refine cond_1 (by simp [strEq_self]) ?_)
           | (refine cond_f ?_ ?_)
           | (refine ⟨_, ⟨by decide, rfl⟩, ?_⟩)
           | (refine cond_i (fun h => ?_) (fun h => ?_)))
  all_goals (conv => whnf)
  all_goals rfl
theorem law26_SenderSends : Fv Tryd.prog 3 [.agg c.g, .int .i64 me, .agg o.g, .agg x.g, .int .i64 now] (.bool true) := by
  by_cases h : o.calls.length > 30 ∨ x.tries < 0 ∨ x.tries > 1000000
  · exact sends_no c me o x now h
  · exact sends_of c me o x now h _ _ (sender_Send c me o x now).1 (sender_Send c me o x now).2
variable (have' n push : Int)
theorem fails_no (h : o.calls.length > 30) : Fv Tryd.prog 7 [.agg c.g, .int .i64 me, .agg o.g, .agg x.g, .int .i64 now, .int .i64 have', .int .i64 n, .int .i64 push] (.bool true) := by
  have aw := law26_awake
  have b1 : decide (((o.calls.map Call.g).length : Int) > 30) = true := decide_eq_true (by rw [List.length_map]; omega)
  refine Fv.of_awp Tryd.func7 rfl (by kernel_rfl) rfl (Nat.le_of_ble_eq_true rfl) ?_
  repeat' (conv => whnf
           first
           | (refine And.intro (by kernel_rfl) ?_)
           | (refine And.intro ⟨by kernel_rfl, by kernel_rfl⟩ ?_)
           | (refine cond_1 b1 ?_)
           | (refine Or.inl ⟨_, aw, ?_⟩)
           | (refine ⟨_, aw, ?_⟩)
           | (refine cond_f ?_ ?_)
           | (refine ⟨_, ⟨by decide, rfl⟩, ?_⟩)
           | (refine cond_i (fun h => ?_) (fun h => ?_)))
  all_goals (conv => whnf)
  all_goals rfl
theorem fails_of (h : ¬ o.calls.length > 30) (y : Sp.Call) (t : Int) (n1 : Fv Tryd.prog 31 [.agg c.g, .int .i64 me, .agg o.g, .agg x.g, .int .i64 now, .int .i64 have', .int .i64 n, .int .i64 push] (.tup [.agg y.g, .int .i64 t]))
    (n2 : Fv Tryd.prog 32 [.agg c.g, .int .i64 me, .agg o.g, .agg x.g, .int .i64 now, .int .i64 have', .int .i64 n, .int .i64 push] (.tup [.agg y.g, .int .i64 t])) : Fv Tryd.prog 7 [.agg c.g, .int .i64 me, .agg o.g, .agg x.g, .int .i64 now, .int .i64 have', .int .i64 n, .int .i64 push] (.bool true) := by
  have aw := law26_awake
  have b1 : decide (((o.calls.map Call.g).length : Int) > 30) = false := decide_eq_false (by rw [List.length_map]; omega)
  have m1 := law23_Mine o (by omega)
  have m2 := law23_One x
  have m3 := law26_theirs y
  have c1 := (call_eqB y y).trans (decide_eq_true rfl)
  have c2 : (t == t) = true := by simp
  refine Fv.of_awp Tryd.func7 rfl (by kernel_rfl) rfl (Nat.le_of_ble_eq_true rfl) ?_
  repeat' (conv => whnf
           first
           | (refine And.intro (by kernel_rfl) ?_)
           | (refine And.intro ⟨by kernel_rfl, by kernel_rfl⟩ ?_)
           | (refine cond_0 b1 ?_)
           | (refine Or.inl ⟨_, m1, ?_⟩)
           | (refine ⟨_, m1, ?_⟩)
           | (refine Or.inl ⟨_, m2, ?_⟩)
           | (refine ⟨_, m2, ?_⟩)
           | (refine Or.inl ⟨_, n1, ?_⟩)
           | (refine ⟨_, n1, ?_⟩)
           | (refine Or.inl ⟨_, n2, ?_⟩)
           | (refine ⟨_, n2, ?_⟩)
           | (refine Or.inl ⟨_, m3, ?_⟩)
           | (refine ⟨_, m3, ?_⟩)
           | (refine cond_1 c1 ?_)
           | (refine cond_1 c2 ?_)
           | (refine Or.inl ⟨_, aw, ?_⟩)
           | (refine ⟨_, aw, ?_⟩)
           | (refine cond_f ?_ ?_)
           | (refine ⟨_, ⟨by decide, rfl⟩, ?_⟩)
           | (refine cond_i (fun h => ?_) (fun h => ?_)))
  all_goals (conv => whnf)
  all_goals rfl
theorem law26_SenderFails (ha : x.att ≤ 9223372036854775807) : Fv Tryd.prog 7 [.agg c.g, .int .i64 me, .agg o.g, .agg x.g, .int .i64 now, .int .i64 have', .int .i64 n, .int .i64 push] (.bool true) := by
  by_cases h : o.calls.length > 30
  · exact fails_no c me o x now have' n push h
  · exact fails_of c me o x now have' n push h _ _ (sender_Failed c me o x now have' n push ha).1 (sender_Failed c me o x now have' n push ha).2
end
end Go.Proofs.YtfacmphjplablaaDoor.Cn
