
/- The law of the budget that a sender gives. No condition but that hops are numbers of 64 bits. -/
import Derived.Test.YtfacmphjplablaaDoorCn60
namespace Go.Proofs.YtfacmphjplablaaDoor.Cn
open Go Go.Proofs Go.Proofs.YtfacmphjplablaaDoor.Av Go.Proofs.YtfacmphjplablaaDoor.Sp
set_option linter.unusedVariables false
set_option linter.unusedSimpArgs false
set_option linter.unusedSectionVars false
set_option maxRecDepth 100000
attribute [local irreducible] Fv Fp

theorem dead_of (a n : Int) (s : ByteArray) (n1 : Fv Tryd.prog 82 [.str s] (.tup [.int .i64 n, .int .i64 0])) : Fv Tryd.prog 59 [.int .i64 a, .str s] (.tup [.int .i64 (add a n), .int .i64 0]) := by
  have n3 := ticks_Add a n
  refine Fv.of_awp Tryd.func59 rfl (by kernel_rfl) rfl (Nat.le_of_ble_eq_true rfl) ?_
  repeat' (conv => whnf
           first
           | (refine And.intro (by kernel_rfl) ?_)
           | (refine And.intro ⟨by kernel_rfl, by kernel_rfl⟩ ?_)
           | (refine Or.inl ⟨_, n1, ?_⟩)
           | (refine ⟨_, n1, ?_⟩)
           | (refine Or.inl ⟨_, n3, ?_⟩)
           | (refine ⟨_, n3, ?_⟩)
           | (refine cond_f ?_ ?_)
           | (refine ⟨_, ⟨by decide, rfl⟩, ?_⟩)
           | (refine cond_i (fun h => ?_) (fun h => ?_)))
  all_goals (conv => whnf)
  all_goals rfl
theorem admit_of (p : Packet) (n : Int) (n1 : Fv Tryd.prog 59 [.int .i64 p.stamp, .str p.timeout] (.tup [.int .i64 n, .int .i64 0])) : Fv Tryd.prog 29 [.agg p.g] (.int .i64 n) := by
  refine Fv.of_awp Tryd.func29 rfl (by kernel_rfl) rfl (Nat.le_of_ble_eq_true rfl) ?_
  repeat' (conv => whnf
           first
           | (refine And.intro (by kernel_rfl) ?_)
           | (refine And.intro ⟨by kernel_rfl, by kernel_rfl⟩ ?_)
           | (refine Or.inl ⟨_, n1, ?_⟩)
           | (refine ⟨_, n1, ?_⟩)
           | (refine cond_f ?_ ?_)
           | (refine ⟨_, ⟨by decide, rfl⟩, ?_⟩)
           | (refine cond_i (fun h => ?_) (fun h => ?_)))
  all_goals (conv => whnf)
  all_goals rfl
section
variable (c : Config) (me : Int) (o : Owner) (x : Sp.Call) (now : Int)
theorem budget_far (h : o.calls.length > 30) : Fv Tryd.prog 6 [.agg c.g, .int .i64 me, .agg o.g, .agg x.g, .int .i64 now] (.bool true) := by
  have aw := law26_awake
  have b1 : decide (((o.calls.map Call.g).length : Int) > 30) = true := decide_eq_true (by rw [List.length_map]; omega)
  refine Fv.of_awp Tryd.func6 rfl (by kernel_rfl) rfl (Nat.le_of_ble_eq_true rfl) ?_
  repeat' (conv => whnf
           first
           | (refine And.intro (by kernel_rfl) ?_)
           | (refine And.intro ⟨by kernel_rfl, by kernel_rfl⟩ ?_)
           | (refine cond_1 b1 ?_)
           | (refine Or.inl ⟨_, aw, ?_⟩)
           | (refine ⟨_, aw, ?_⟩)
           | (refine cond_f ?_ ?_)
           | (refine ⟨_, ⟨by decide, rfl⟩, ?_⟩)
           | (refine cond_i (fun h => ?_) (fun h => ?_)))
  all_goals (conv => whnf)
  all_goals rfl
variable (h : ¬ o.calls.length > 30)
include h
theorem budget_none0 (y : Sp.Call) (p : Packet) (hk : (p.kind == 0) = true) (hp : (p.kind == 0 && (p.from == 0 && (p.to == 0 && (((p.key.id.node == 0 && (p.key.id.inc == 0 && (p.key.id.seq == 0 && true))) && (p.key.att == 0 && true)) && (p.hop == 0 && (p.stamp == 0 && (strEq p.timeout ⟨#[]⟩ && (p.until == 0 && (p.program == 0 && ((p.root.node == 0 && (p.root.inc == 0 && (p.root.seq == 0 && true))) && (((p.parent.id.node == 0 && (p.parent.id.inc == 0 && (p.parent.id.seq == 0 && true))) && (p.parent.att == 0 && true)) && (p.code == 0 && (p.value == 0 && (p.more == false && (p.delay == 0 && true))))))))))))))) = true) (hy : y.state = 3 ∨ y = x) (n1 : Fv Tryd.prog 10 [.agg c.g, .int .i64 me, .agg o.g, .agg x.g, .int .i64 now] (.tup [.agg y.g, .agg p.g])) : Fv Tryd.prog 6 [.agg c.g, .int .i64 me, .agg o.g, .agg x.g, .int .i64 now] (.bool true) := by
  have aw := law26_awake
  have b1 : decide (((o.calls.map Call.g).length : Int) > 30) = false := decide_eq_false (by rw [List.length_map]; omega)
  have m1 := law23_Mine o (by omega)
  have m2 := law23_One x
  have m3 := law26_theirs y
  refine Fv.of_awp Tryd.func6 rfl (by kernel_rfl) rfl (Nat.le_of_ble_eq_true rfl) ?_
  by_cases h3 : y.state = 3
  · have b3 : (y.state == 3) = true := beq_iff_eq.2 h3
    repeat' (conv => whnf
             first
             | (refine And.intro (by kernel_rfl) ?_)
             | (refine And.intro ⟨by kernel_rfl, by kernel_rfl⟩ ?_)
             | (refine cond_0 b1 ?_)
             | (refine Or.inl ⟨_, m1, ?_⟩)
             | (refine ⟨_, m1, ?_⟩)
             | (refine Or.inl ⟨_, m2, ?_⟩)
             | (refine ⟨_, m2, ?_⟩)
             | (refine Or.inl ⟨_, n1, ?_⟩)
             | (refine ⟨_, n1, ?_⟩)
             | (refine cond_1 hk ?_)
             | (refine cond_1 hp ?_)
             | (refine cond_1 b3 ?_)
             | (refine Or.inl ⟨_, aw, ?_⟩)
             | (refine ⟨_, aw, ?_⟩)
             | (refine cond_f ?_ ?_)
             | (refine ⟨_, ⟨by decide, rfl⟩, ?_⟩)
             | (refine cond_i (fun h => ?_) (fun h => ?_)))
    all_goals (conv => whnf)
    all_goals rfl
  · have b3 : (y.state == 3) = false := beq_eq_false_iff_ne.2 h3
    obtain rfl : y = x := hy.resolve_left h3
    have c1 := (call_eqB y y).trans (decide_eq_true rfl)
    repeat' (conv => whnf
             first
             | (refine And.intro (by kernel_rfl) ?_)
             | (refine And.intro ⟨by kernel_rfl, by kernel_rfl⟩ ?_)
             | (refine cond_0 b1 ?_)
             | (refine Or.inl ⟨_, m1, ?_⟩)
             | (refine ⟨_, m1, ?_⟩)
             | (refine Or.inl ⟨_, m2, ?_⟩)
             | (refine ⟨_, m2, ?_⟩)
             | (refine Or.inl ⟨_, n1, ?_⟩)
             | (refine ⟨_, n1, ?_⟩)
             | (refine cond_1 hk ?_)
             | (refine cond_1 hp ?_)
             | (refine cond_0 b3 ?_)
             | (refine Or.inl ⟨_, m3, ?_⟩)
             | (refine ⟨_, m3, ?_⟩)
             | (refine cond_1 c1 ?_)
             | (refine Or.inl ⟨_, aw, ?_⟩)
             | (refine ⟨_, aw, ?_⟩)
             | (refine cond_f ?_ ?_)
             | (refine ⟨_, ⟨by decide, rfl⟩, ?_⟩)
             | (refine cond_i (fun h => ?_) (fun h => ?_)))
    all_goals (conv => whnf)
    all_goals rfl
theorem budget_none (y : Sp.Call) (hy : y.state = 3 ∨ y = x) (n1 : Fv Tryd.prog 10 [.agg c.g, .int .i64 me, .agg o.g, .agg x.g, .int .i64 now] (.tup [.agg y.g, .agg zP.g])) : Fv Tryd.prog 6 [.agg c.g, .int .i64 me, .agg o.g, .agg x.g, .int .i64 now] (.bool true) :=
  budget_none0 c me o x now h y zP rfl (by simp [zP, strEq_self]) hy n1
set_option maxHeartbeats 4000000 in
theorem budget_call (b : Sp.Call) (e : ByteArray) (D L cd cn u : Int) (n1 : Fv Tryd.prog 10 [.agg c.g, .int .i64 me, .agg o.g, .agg x.g, .int .i64 now] (.tup [.agg b.g, .agg (callP me o x b cn u e).g]))
    (n2 : Fv Tryd.prog 29 [.agg (callP me o x b cn u e).g] (.int .i64 D)) (n3 : Fv Tryd.prog 30 [.int .i64 o.deadline, .int .i64 now] (.int .i64 L))
    (n4 : Fv Tryd.prog 16 [.int .i64 o.until] (.int .i64 u)) (n5 : Fv Tryd.prog 16 [.int .i64 o.deadline] (.int .i64 cd)) (n6 : Fv Tryd.prog 16 [.int .i64 now] (.int .i64 cn))
    (h1 : b.state = 1) (h2 : b.att = IntKind.i64.wrap (x.att + 1)) (h3 : ¬ IntKind.i64.wrap (o.hop + 1) > c.hops) (h4 : D ≤ cd) (h5 : L > 99999999 ∨ D = cd) (h6 : cn < D) :
    Fv Tryd.prog 6 [.agg c.g, .int .i64 me, .agg o.g, .agg x.g, .int .i64 now] (.bool true) := by
  have aw := law26_awake
  have b1 : decide (((o.calls.map Call.g).length : Int) > 30) = false := decide_eq_false (by rw [List.length_map]; omega)
  have m1 := law23_Mine o (by omega)
  have m2 := law23_One x
  have s1 : (b.state == 1) = true := beq_iff_eq.2 h1
  have s2 : (!(b.state == 1)) = false := by rw [s1]; rfl
  have a1 : (b.att == IntKind.i64.wrap (x.att + 1)) = true := beq_iff_eq.2 h2
  have a2 : (!(b.att == IntKind.i64.wrap (x.att + 1))) = false := by rw [a1]; rfl
  have p1 : (IntKind.i64.wrap (o.hop + 1) == IntKind.i64.wrap (o.hop + 1)) = true := by simp
  have p2 : (!(IntKind.i64.wrap (o.hop + 1) == IntKind.i64.wrap (o.hop + 1))) = false := by simp
  have p3 : decide (IntKind.i64.wrap (o.hop + 1) > c.hops) = false := decide_eq_false h3
  have u1 : (u == u) = true := by simp
  have u2 : (!(u == u)) = false := by simp
  have d1 : decide (D ≤ cd) = true := decide_eq_true h4
  have d2 : decide (cn < D) = true := decide_eq_true h6
  refine Fv.of_awp Tryd.func6 rfl (by kernel_rfl) rfl (Nat.le_of_ble_eq_true rfl) ?_
  by_cases hl : L > 99999999
  · have l1 : decide (L > 99999999) = true := decide_eq_true hl
    repeat' (conv => whnf
             first
             | (refine And.intro (by kernel_rfl) ?_)
             | (refine And.intro ⟨by kernel_rfl, by kernel_rfl⟩ ?_)
             | (refine cond_0 b1 ?_)
             | (refine Or.inl ⟨_, m1, ?_⟩)
             | (refine ⟨_, m1, ?_⟩)
             | (refine Or.inl ⟨_, m2, ?_⟩)
             | (refine ⟨_, m2, ?_⟩)
             | (refine Or.inl ⟨_, n1, ?_⟩)
             | (refine ⟨_, n1, ?_⟩)
             | (refine Or.inl ⟨_, n2, ?_⟩)
             | (refine ⟨_, n2, ?_⟩)
             | (refine Or.inl ⟨_, n3, ?_⟩)
             | (refine ⟨_, n3, ?_⟩)
             | (refine Or.inl ⟨_, n4, ?_⟩)
             | (refine ⟨_, n4, ?_⟩)
             | (refine Or.inl ⟨_, n5, ?_⟩)
             | (refine ⟨_, n5, ?_⟩)
             | (refine Or.inl ⟨_, n6, ?_⟩)
             | (refine ⟨_, n6, ?_⟩)
             | (refine cond_0 s2 ?_)
             | (refine cond_1 s1 ?_)
             | (refine cond_0 a2 ?_)
             | (refine cond_1 a1 ?_)
             | (refine cond_0 p2 ?_)
             | (refine cond_1 p1 ?_)
             | (refine cond_0 p3 ?_)
             | (refine cond_0 u2 ?_)
             | (refine cond_1 u1 ?_)
             | (refine cond_1 d1 ?_)
             | (refine cond_1 l1 ?_)
             | (refine cond_1 d2 ?_)
             | (refine Or.inl ⟨_, aw, ?_⟩)
             | (refine ⟨_, aw, ?_⟩)
             | (refine cond_f ?_ ?_)
             | (refine ⟨_, ⟨by decide, rfl⟩, ?_⟩)
             | (refine cond_i (fun h => ?_) (fun h => ?_)))
    all_goals (conv => whnf)
    all_goals rfl
  · have l1 : decide (L > 99999999) = false := decide_eq_false hl
    have l2 : (D == cd) = true := beq_iff_eq.2 (by omega)
    repeat' (conv => whnf
             first
             | (refine And.intro (by kernel_rfl) ?_)
             | (refine And.intro ⟨by kernel_rfl, by kernel_rfl⟩ ?_)
             | (refine cond_0 b1 ?_)
             | (refine Or.inl ⟨_, m1, ?_⟩)
             | (refine ⟨_, m1, ?_⟩)
             | (refine Or.inl ⟨_, m2, ?_⟩)
             | (refine ⟨_, m2, ?_⟩)
             | (refine Or.inl ⟨_, n1, ?_⟩)
             | (refine ⟨_, n1, ?_⟩)
             | (refine Or.inl ⟨_, n2, ?_⟩)
             | (refine ⟨_, n2, ?_⟩)
             | (refine Or.inl ⟨_, n3, ?_⟩)
             | (refine ⟨_, n3, ?_⟩)
             | (refine Or.inl ⟨_, n4, ?_⟩)
             | (refine ⟨_, n4, ?_⟩)
             | (refine Or.inl ⟨_, n5, ?_⟩)
             | (refine ⟨_, n5, ?_⟩)
             | (refine Or.inl ⟨_, n6, ?_⟩)
             | (refine ⟨_, n6, ?_⟩)
             | (refine cond_0 s2 ?_)
             | (refine cond_1 s1 ?_)
             | (refine cond_0 a2 ?_)
             | (refine cond_1 a1 ?_)
             | (refine cond_0 p2 ?_)
             | (refine cond_1 p1 ?_)
             | (refine cond_0 p3 ?_)
             | (refine cond_0 u2 ?_)
             | (refine cond_1 u1 ?_)
             | (refine cond_1 d1 ?_)
             | (refine cond_0 l1 ?_)
             | (refine cond_1 l2 ?_)
             | (refine cond_1 d2 ?_)
             | (refine Or.inl ⟨_, aw, ?_⟩)
             | (refine ⟨_, aw, ?_⟩)
             | (refine cond_f ?_ ?_)
             | (refine ⟨_, ⟨by decide, rfl⟩, ?_⟩)
             | (refine cond_i (fun h => ?_) (fun h => ?_)))
    all_goals (conv => whnf)
    all_goals rfl
end
theorem cEnds_state (x : Sp.Call) (n : Int) : (cEnds x n).state = 3 := by
  unfold cEnds
  split
  · assumption
  · rfl
theorem cBegin_new {x : Sp.Call} {now : Int} (h : ¬ cBegin x now = x) : (cBegin x now).state = 1 ∧ (cBegin x now).att = IntKind.i64.wrap (x.att + 1) := by
  unfold cBegin at *
  split at h
  · rename_i h1; rw [if_pos h1]; exact ⟨rfl, rfl⟩
  · exact (h rfl).elim
theorem sub_now (d n : Int) : sub d (clamp n) = sub d n := by unfold sub; rw [clamp_clamp]
theorem law26_SenderBudget (c : Config) (me : Int) (o : Owner) (x : Sp.Call) (now : Int) (hh : -9223372036854775808 ≤ o.hop) (hc : c.hops ≤ 9223372036854775807) : Fv Tryd.prog 6 [.agg c.g, .int .i64 me, .agg o.g, .agg x.g, .int .i64 now] (.bool true) := by
  by_cases h : o.calls.length > 30
  · exact budget_far c me o x now h
  have n1 := (sender_Send c me o x now).1
  unfold sendF at n1
  by_cases h1 : cBegin x now = x
  · rw [if_pos h1] at n1; exact budget_none c me o x now h x (.inr rfl) n1
  rw [if_neg h1] at n1
  by_cases h2 : o.hop ≥ c.hops
  · rw [if_pos h2] at n1; exact budget_none c me o x now h _ (.inl (cEnds_state _ _)) n1
  rw [if_neg h2] at n1
  by_cases h3 : enough o.deadline now c.least = false
  · rw [if_pos h3] at n1; exact budget_none c me o x now h _ (.inl (cEnds_state _ _)) n1
  rw [if_neg h3] at n1
  have hs : 0 < sub o.deadline now := by
    unfold enough at h3
    simp only [Bool.not_eq_false, Bool.and_eq_true, decide_eq_true_eq] at h3
    exact h3.1
  have hlt : clamp now < clamp o.deadline := by
    unfold sub at hs
    split at hs <;> omega
  obtain ⟨b1, b2⟩ := cBegin_new h1
  have hw : IntKind.i64.wrap (o.hop + 1) = o.hop + 1 := wrap_i64 (by omega)
  obtain ⟨e1, e2, e3⟩ := next_ahead (d := o.deadline) (n := now) hlt
  have hb := cut_bd (clamp o.deadline - clamp now)
  have hu : un (clamp (clamp o.deadline - clamp now)) ≤ 60000000 := by rcases (uc_facts (clamp (clamp o.deadline - clamp now))).2.2 with h | h | h | h <;> omega
  have hk := cut_small (clamp o.deadline - clamp now)
  rw [e3] at hb hu hk
  have eD : add (clamp now) (cut (sub o.deadline now)) = clamp now + cut (clamp o.deadline - clamp now) := by
    rw [← e1]
    show _ = add now (cut (sub o.deadline now))
    unfold add
    rw [clamp_clamp]
  have n2 := timeout_Decode (enc (sub o.deadline now))
  rw [dec_enc, ← cut_eq] at n2
  have n2b := dead_of (clamp now) _ _ n2
  rw [eD] at n2b
  refine budget_call c me o x now h (cBegin x now) _ _ (sub o.deadline now) (clamp o.deadline) (clamp now) (clamp o.until) n1 (admit_of _ _ n2b) (ref01_Sub _ _) (ref01_Clamp _) (ref01_Clamp _) (ref01_Clamp _) b1 b2 (by omega) (by omega) ?_ ?_
  · rw [e2]
    by_cases h5 : clamp o.deadline - clamp now > 99999999
    · exact .inl h5
    · have := hk (by omega); right; omega
  · by_cases h5 : clamp o.deadline - clamp now > 99999999
    · omega
    · have := hk (by omega); omega
end Go.Proofs.YtfacmphjplablaaDoor.Cn
