
/- The law of a root that is settled. No condition. -/
import Derived.Test.YtfacmphjplablaaDoorCn60
namespace Go.Proofs.YtfacmphjplablaaDoor.Cn
open Go Go.Proofs Go.Proofs.YtfacmphjplablaaDoor.Av Go.Proofs.YtfacmphjplablaaDoor.Sp
set_option linter.unusedVariables false
set_option linter.unusedSimpArgs false
set_option linter.unusedSectionVars false
set_option maxRecDepth 100000
attribute [local irreducible] Fv Fp

theorem join_bd (a b : Int) : 0 ≤ join a b ∧ join a b ≤ 16 := by have := clean_bd a; have := clean_bd b; unfold join; split <;> omega
theorem worst_bd (l : List Sp.Call) : 0 ≤ worst l ∧ worst l ≤ 16 := by
  have key : ∀ (l : List Sp.Call) (n : Int), 0 ≤ n ∧ n ≤ 16 → 0 ≤ l.foldl worst1 n ∧ l.foldl worst1 n ≤ 16 := by
    intro l
    induction l with
    | nil => intro n h; exact h
    | cons c l ih => intro n h; exact ih _ (by unfold worst1; have := join_bd n c.code; split <;> omega)
  exact key l 0 (by omega)
theorem settle_no {o : Owner} {now n v : Int} (h : Sp.settle o now = (n, v, false)) : n = 0 ∧ v = 0 := by
  unfold Sp.settle at h
  (repeat' split at h) <;> simp at h <;> omega
theorem settle_yes {o : Owner} {now n v : Int} (h : Sp.settle o now = (n, v, true)) : n ≠ 1 ∧ (n = 4 → ¬ clamp now < clamp o.deadline) ∧ o.key.att = 0 ∧ openN o.calls = 0 ∧ 0 < o.calls.length ∧ 0 ≤ n ∧ n ≤ 16 ∧ (n = 0 ∨ v = 0) := by
  have hw := worst_bd o.calls
  unfold Sp.settle at h
  (repeat' split at h) <;> simp at h <;> omega
section
variable (o : Owner) (now : Int)
theorem roots_far (h : o.calls.length > 30) : Fv Tryd.prog 4 [.agg o.g, .int .i64 now] (.bool true) := by
  have aw := law26_awake
  have b1 : decide (((o.calls.map Call.g).length : Int) > 30) = true := decide_eq_true (by rw [List.length_map]; omega)
  refine Fv.of_awp Tryd.func4 rfl (by kernel_rfl) rfl (Nat.le_of_ble_eq_true rfl) ?_
  repeat' (conv => whnf
           first
           | (refine And.intro (by kernel_rfl) ?_)
           | (refine And.intro ⟨by kernel_rfl, by kernel_rfl⟩ ?_)
           | (refine cond_1 b1 ?_)
           | (refine Or.inl ⟨_, aw, ?_⟩)
           | (refine ⟨_, aw, ?_⟩)
           | (refine cond_f ?_ ?_)
           | (refine ⟨_, ⟨by decide, rfl⟩, ?_⟩)
           | (refine cond_i (fun h => ?_) (fun h => ?_)))
  all_goals (conv => whnf)
  all_goals rfl
theorem roots_no (h : ¬ o.calls.length > 30) (n1 : Fv Tryd.prog 15 [.agg o.g, .int .i64 now] (.tup [.int .i64 0, .int .i64 0, .bool false])) : Fv Tryd.prog 4 [.agg o.g, .int .i64 now] (.bool true) := by
  have aw := law26_awake
  have b1 : decide (((o.calls.map Call.g).length : Int) > 30) = false := decide_eq_false (by rw [List.length_map]; omega)
  have m1 := law23_Mine o (by omega)
  refine Fv.of_awp Tryd.func4 rfl (by kernel_rfl) rfl (Nat.le_of_ble_eq_true rfl) ?_
  repeat' (conv => whnf
           first
           | (refine And.intro (by kernel_rfl) ?_)
           | (refine And.intro ⟨by kernel_rfl, by kernel_rfl⟩ ?_)
           | (refine cond_0 b1 ?_)
           | (refine Or.inl ⟨_, m1, ?_⟩)
           | (refine ⟨_, m1, ?_⟩)
           | (refine Or.inl ⟨_, n1, ?_⟩)
           | (refine ⟨_, n1, ?_⟩)
           | (refine Or.inl ⟨_, aw, ?_⟩)
           | (refine ⟨_, aw, ?_⟩)
           | (refine cond_f ?_ ?_)
           | (refine ⟨_, ⟨by decide, rfl⟩, ?_⟩)
           | (refine cond_i (fun h => ?_) (fun h => ?_)))
  all_goals (conv => whnf)
  all_goals rfl
variable (n v d t : Int) (n1 : Fv Tryd.prog 15 [.agg o.g, .int .i64 now] (.tup [.int .i64 n, .int .i64 v, .bool true])) (n2 : Fv Tryd.prog 16 [.int .i64 now] (.int .i64 t)) (n3 : Fv Tryd.prog 16 [.int .i64 o.deadline] (.int .i64 d))
  (n4 : Fv Tryd.prog 17 [.agg o.g] (.int .i64 0)) (h : ¬ o.calls.length > 30) (h1 : o.key.att = 0) (h2 : 0 < o.calls.length)
include n1 n2 n3 n4 h h1 h2
theorem roots_0 (hn : n = 0) : Fv Tryd.prog 4 [.agg o.g, .int .i64 now] (.bool true) := by
  have aw := law26_awake
  have b1 : decide (((o.calls.map Call.g).length : Int) > 30) = false := decide_eq_false (by rw [List.length_map]; omega)
  have b2 : decide (((o.calls.map Call.g).length : Int) > 0) = true := decide_eq_true (by rw [List.length_map]; omega)
  have b3 : (o.key.att == 0) = true := beq_iff_eq.2 h1
  have m1 := law23_Mine o (by omega)
  subst hn
  refine Fv.of_awp Tryd.func4 rfl (by kernel_rfl) rfl (Nat.le_of_ble_eq_true rfl) ?_
  repeat' (conv => whnf
           first
           | (refine And.intro (by kernel_rfl) ?_)
           | (refine And.intro ⟨by kernel_rfl, by kernel_rfl⟩ ?_)
           | (refine cond_0 b1 ?_)
           | (refine Or.inl ⟨_, m1, ?_⟩)
           | (refine ⟨_, m1, ?_⟩)
           | (refine Or.inl ⟨_, n1, ?_⟩)
           | (refine ⟨_, n1, ?_⟩)
           | (refine cond_1 b3 ?_)
           | (refine Or.inl ⟨_, n4, ?_⟩)
           | (refine ⟨_, n4, ?_⟩)
           | (refine cond_1 b2 ?_)
           | (refine Or.inl ⟨_, aw, ?_⟩)
           | (refine ⟨_, aw, ?_⟩)
           | (refine cond_f ?_ ?_)
           | (refine ⟨_, ⟨by decide, rfl⟩, ?_⟩)
           | (refine cond_i (fun h => ?_) (fun h => ?_)))
  all_goals (conv => whnf)
  all_goals rfl
theorem roots_4 (hn : n = 4) (hv : v = 0) (ht : ¬ t < d) : Fv Tryd.prog 4 [.agg o.g, .int .i64 now] (.bool true) := by
  have aw := law26_awake
  have b1 : decide (((o.calls.map Call.g).length : Int) > 30) = false := decide_eq_false (by rw [List.length_map]; omega)
  have b2 : decide (((o.calls.map Call.g).length : Int) > 0) = true := decide_eq_true (by rw [List.length_map]; omega)
  have b3 : (o.key.att == 0) = true := beq_iff_eq.2 h1
  have b4 : decide (t < d) = false := decide_eq_false ht
  have m1 := law23_Mine o (by omega)
  subst hn
  subst hv
  refine Fv.of_awp Tryd.func4 rfl (by kernel_rfl) rfl (Nat.le_of_ble_eq_true rfl) ?_
  repeat' (conv => whnf
           first
           | (refine And.intro (by kernel_rfl) ?_)
           | (refine And.intro ⟨by kernel_rfl, by kernel_rfl⟩ ?_)
           | (refine cond_0 b1 ?_)
           | (refine Or.inl ⟨_, m1, ?_⟩)
           | (refine ⟨_, m1, ?_⟩)
           | (refine Or.inl ⟨_, n1, ?_⟩)
           | (refine ⟨_, n1, ?_⟩)
           | (refine Or.inl ⟨_, n2, ?_⟩)
           | (refine ⟨_, n2, ?_⟩)
           | (refine Or.inl ⟨_, n3, ?_⟩)
           | (refine ⟨_, n3, ?_⟩)
           | (refine cond_0 b4 ?_)
           | (refine cond_1 b3 ?_)
           | (refine Or.inl ⟨_, n4, ?_⟩)
           | (refine ⟨_, n4, ?_⟩)
           | (refine cond_1 b2 ?_)
           | (refine Or.inl ⟨_, aw, ?_⟩)
           | (refine ⟨_, aw, ?_⟩)
           | (refine cond_f ?_ ?_)
           | (refine ⟨_, ⟨by decide, rfl⟩, ?_⟩)
           | (refine cond_i (fun h => ?_) (fun h => ?_)))
  all_goals (conv => whnf)
  all_goals rfl
theorem roots_n (hn : 0 ≤ n ∧ n ≤ 16) (c0 : n ≠ 0) (c1 : n ≠ 1) (c4 : n ≠ 4) (hv : v = 0) : Fv Tryd.prog 4 [.agg o.g, .int .i64 now] (.bool true) := by
  have aw := law26_awake
  have b1 : decide (((o.calls.map Call.g).length : Int) > 30) = false := decide_eq_false (by rw [List.length_map]; omega)
  have b2 : decide (((o.calls.map Call.g).length : Int) > 0) = true := decide_eq_true (by rw [List.length_map]; omega)
  have b3 : (o.key.att == 0) = true := beq_iff_eq.2 h1
  have e0 : (n == 0) = false := beq_eq_false_iff_ne.2 c0
  have e1 : (n == 1) = false := beq_eq_false_iff_ne.2 c1
  have e4 : (n == 4) = false := beq_eq_false_iff_ne.2 c4
  have e5 : decide (n ≥ 0) = true := decide_eq_true hn.1
  have e6 : decide (n ≤ 16) = true := decide_eq_true hn.2
  have m1 := law23_Mine o (by omega)
  subst hv
  refine Fv.of_awp Tryd.func4 rfl (by kernel_rfl) rfl (Nat.le_of_ble_eq_true rfl) ?_
  repeat' (conv => whnf
           first
           | (refine And.intro (by kernel_rfl) ?_)
           | (refine And.intro ⟨by kernel_rfl, by kernel_rfl⟩ ?_)
           | (refine cond_0 b1 ?_)
           | (refine Or.inl ⟨_, m1, ?_⟩)
           | (refine ⟨_, m1, ?_⟩)
           | (refine Or.inl ⟨_, n1, ?_⟩)
           | (refine ⟨_, n1, ?_⟩)
           | (refine cond_0 e0 ?_)
           | (refine cond_0 e1 ?_)
           | (refine cond_0 e4 ?_)
           | (refine cond_1 e5 ?_)
           | (refine cond_1 e6 ?_)
           | (refine cond_1 b3 ?_)
           | (refine Or.inl ⟨_, n4, ?_⟩)
           | (refine ⟨_, n4, ?_⟩)
           | (refine cond_1 b2 ?_)
           | (refine Or.inl ⟨_, aw, ?_⟩)
           | (refine ⟨_, aw, ?_⟩)
           | (refine cond_f ?_ ?_)
           | (refine ⟨_, ⟨by decide, rfl⟩, ?_⟩)
           | (refine cond_i (fun h => ?_) (fun h => ?_)))
  all_goals (conv => whnf)
  all_goals rfl
end
theorem law26_SenderRoots (o : Owner) (now : Int) : Fv Tryd.prog 4 [.agg o.g, .int .i64 now] (.bool true) := by
  by_cases h : o.calls.length > 30
  · exact roots_far o now h
  have n1 := (sender_Settled o now (by omega)).1
  obtain ⟨⟨n, v, b⟩, hs⟩ : ∃ s, Sp.settle o now = s := ⟨_, rfl⟩
  rw [hs] at n1
  cases b with
  | false =>
    obtain ⟨rfl, rfl⟩ := settle_no hs
    exact roots_no o now h n1
  | true =>
    obtain ⟨c1, c4, ha, hk, hl, g1, g2, g3⟩ := settle_yes hs
    have n4 := ref23_Open o (by omega)
    rw [hk] at n4
    by_cases c0 : n = 0
    · exact roots_0 o now n v _ _ n1 (ref01_Clamp now) (ref01_Clamp o.deadline) n4 h ha hl c0
    by_cases c5 : n = 4
    · exact roots_4 o now n v _ _ n1 (ref01_Clamp now) (ref01_Clamp o.deadline) n4 h ha hl c5 (by omega) (c4 c5)
    · exact roots_n o now n v _ _ n1 (ref01_Clamp now) (ref01_Clamp o.deadline) n4 h ha hl ⟨g1, g2⟩ c0 c1 c5 (by omega)
end Go.Proofs.YtfacmphjplablaaDoor.Cn
