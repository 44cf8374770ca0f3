
/- Contracts: whether a packet may be. No condition. -/
import Derived.Test.YtfpincfmcjiokaaCn77
import Derived.Test.YtfpincfmcjiokaaCn42
namespace Go.Proofs.Ytfpincfmcjiokaa.Cn
open Go Go.Proofs Go.Proofs.Ytfpincfmcjiokaa.Av Go.Proofs.Ytfpincfmcjiokaa.Sp
set_option linter.unusedVariables false
set_option linter.unusedSimpArgs false
set_option linter.unusedSectionVars false
set_option maxRecDepth 100000
attribute [local irreducible] Fv Fp

theorem strEq_dec (a b : ByteArray) : strEq a b = decide (a = b) := by
  rw [Bool.eq_iff_iff, decide_eq_true_eq]
  constructor
  · intro h
    rw [strEq_eq, beq_iff_eq, ByteArray.toList_eq, ByteArray.toList_eq] at h
    exact ext_list h
  · rintro rfl; exact strEq_self _
theorem packet_eqB (c d : Packet) : (c.kind == d.kind && (c.from == d.from && (c.to == d.to && (((c.key.id.node == d.key.id.node && (c.key.id.inc == d.key.id.inc && (c.key.id.seq == d.key.id.seq && true))) && (c.key.att == d.key.att && true)) && (c.hop == d.hop && (c.stamp == d.stamp && (strEq c.timeout d.timeout && (c.until == d.until && (c.program == d.program &&
    ((c.root.node == d.root.node && (c.root.inc == d.root.inc && (c.root.seq == d.root.seq && true))) && (((c.parent.id.node == d.parent.id.node && (c.parent.id.inc == d.parent.id.inc && (c.parent.id.seq == d.parent.id.seq && true))) && (c.parent.att == d.parent.att && true)) && (c.code == d.code && (c.value == d.value && (c.more == d.more && (c.delay == d.delay && true))))))))))))))) = decide (c = d) := by
  rw [key_eqB c.key d.key, id_eqB c.root d.root, key_eqB c.parent d.parent, strEq_dec]
  obtain ⟨_, _, _, _, _, _, _, _, _, _, _, _, _, _, _⟩ := c
  obtain ⟨_, _, _, _, _, _, _, _, _, _, _, _, _, _, _⟩ := d
  rw [Bool.eq_iff_iff]
  simp only [Bool.and_eq_true, beq_iff_eq, decide_eq_true_eq, Packet.mk.injEq, and_true]
theorem code_RightP (a : Int) : Fv Try.prog 24 [.int .i64 a] (.bool (right a)) := code_Right a
theorem call_of (p : Packet) (x e : Int) (a b c d : Bool) (n1 : Fv Try.prog 51 [.str p.timeout] (.tup [.int .i64 x, .int .i64 e]))
    (n2 : Fv Try.prog 25 [.int .i64 p.stamp] (.bool a)) (n3 : Fv Try.prog 25 [.int .i64 p.until] (.bool b))
    (n4 : Fv Try.prog 52 [.agg p.root.g] (.bool c)) (n5 : Fv Try.prog 50 [.agg p.parent.g] (.bool d)) :
    Fv Try.prog 23 [.agg p.g] (.bool (decide (e = 0 ∧ 1 ≤ p.hop ∧ p.hop ≤ 16 ∧ 0 ≤ p.program ∧ p.program < 16) && a && b && c && d)) := by
  refine Fv.of_awp Try.func23 rfl (by kernel_rfl) rfl (Nat.le_of_ble_eq_true rfl) ?_
  repeat' (conv => whnf
           first
           | (refine And.intro (by kernel_rfl) ?_)
           | (refine And.intro ⟨by kernel_rfl, by kernel_rfl⟩ ?_)
           | (refine Or.inl ⟨_, n1, ?_⟩)
           | (refine ⟨_, n1, ?_⟩)
           | (refine Or.inl ⟨_, n2, ?_⟩)
           | (refine ⟨_, n2, ?_⟩)
           | (refine Or.inl ⟨_, n3, ?_⟩)
           | (refine ⟨_, n3, ?_⟩)
           | (refine Or.inl ⟨_, n4, ?_⟩)
           | (refine ⟨_, n4, ?_⟩)
           | (refine Or.inl ⟨_, n5, ?_⟩)
           | (refine ⟨_, n5, ?_⟩)
           | (refine cond_f ?_ ?_)
           | (refine ⟨_, ⟨by decide, rfl⟩, ?_⟩)
           | (refine cond_i (fun h => ?_) (fun h => ?_)))
  all_goals (conv => whnf)
  all_goals
    refine bool_eq ?_
    rw [Bool.eq_iff_iff]
    simp only [decide_eq_true_eq, decide_eq_false_iff_not, ge_iff_le, beq_iff_eq, beq_eq_false_iff_ne, ne_eq, Bool.false_eq_true, false_iff, Bool.and_eq_true, not_and, Bool.not_eq_true] at *
    first
      | (intros; omega)
      | (simp only [*]; omega)
      | (simp [*]; done)
      | (simp [*]; omega)
theorem packet_call (p : Packet) : Fv Try.prog 23 [.agg p.g] (.bool (okCall p)) :=
  call_of p _ _ _ _ _ _ (timeout_Decode p.timeout) (packet_tick _) (packet_tick _) (ident_Right _) (ident_Key _)
set_option maxHeartbeats 4000000 in
theorem right_of (p q : Packet) (a b k c v t : Bool) (n1 : Fv Try.prog 21 [.int .i64 p.from] (.bool a)) (n2 : Fv Try.prog 21 [.int .i64 p.to] (.bool b))
    (n3 : Fv Try.prog 22 [.agg p.key.g] (.bool k)) (n4 : Fv Try.prog 9 [.agg p.g] (.agg q.g)) (n5 : Fv Try.prog 23 [.agg p.g] (.bool c))
    (n6 : Fv Try.prog 24 [.int .i64 p.code] (.bool v)) (n7 : Fv Try.prog 25 [.int .i64 p.until] (.bool t)) :
    Fv Try.prog 8 [.agg p.g] (.bool (a && b && k && decide (q = p) && (if p.kind = 1 then c else if p.kind = 2 then v && decide (0 ≤ p.value ∧ p.value < 2147483648 ∧ (p.more = true → p.code = 0 ∧ p.value = 0))
      else if p.kind = 3 then true else if p.kind = 4 then t else if p.kind = 5 then decide (-1 ≤ p.delay ∧ p.delay ≤ 1125899906842624) else false))) := by
  refine Fv.of_awp Try.func8 rfl (by kernel_rfl) rfl (Nat.le_of_ble_eq_true rfl) ?_
  cases a
  · skip
    repeat' (conv => whnf
             first
             | (refine And.intro (by kernel_rfl) ?_)
             | (refine And.intro ⟨by kernel_rfl, by kernel_rfl⟩ ?_)
             | (refine Or.inl ⟨_, n1, ?_⟩)
             | (refine ⟨_, n1, ?_⟩)
             | (refine cond_f ?_ ?_)
             | (refine ⟨_, ⟨by decide, rfl⟩, ?_⟩)
             | (refine cond_i (fun h => ?_) (fun h => ?_)))
    all_goals (conv => whnf)
    all_goals rfl
  cases b
  · skip
    repeat' (conv => whnf
             first
             | (refine And.intro (by kernel_rfl) ?_)
             | (refine And.intro ⟨by kernel_rfl, by kernel_rfl⟩ ?_)
             | (refine Or.inl ⟨_, n1, ?_⟩)
             | (refine ⟨_, n1, ?_⟩)
             | (refine Or.inl ⟨_, n2, ?_⟩)
             | (refine ⟨_, n2, ?_⟩)
             | (refine cond_f ?_ ?_)
             | (refine ⟨_, ⟨by decide, rfl⟩, ?_⟩)
             | (refine cond_i (fun h => ?_) (fun h => ?_)))
    all_goals (conv => whnf)
    all_goals rfl
  cases k
  · skip
    repeat' (conv => whnf
             first
             | (refine And.intro (by kernel_rfl) ?_)
             | (refine And.intro ⟨by kernel_rfl, by kernel_rfl⟩ ?_)
             | (refine Or.inl ⟨_, n1, ?_⟩)
             | (refine ⟨_, n1, ?_⟩)
             | (refine Or.inl ⟨_, n2, ?_⟩)
             | (refine ⟨_, n2, ?_⟩)
             | (refine Or.inl ⟨_, n3, ?_⟩)
             | (refine ⟨_, n3, ?_⟩)
             | (refine cond_f ?_ ?_)
             | (refine ⟨_, ⟨by decide, rfl⟩, ?_⟩)
             | (refine cond_i (fun h => ?_) (fun h => ?_)))
    all_goals (conv => whnf)
    all_goals rfl
  have hq := packet_eqB q p
  by_cases e : q = p
  · rw [decide_eq_true e] at hq
    have hq2 := congrArg Bool.not hq
    simp only [decide_eq_true e, Bool.true_and]
    repeat' (conv => whnf
             first
             | (refine And.intro (by kernel_rfl) ?_)
             | (refine And.intro ⟨by kernel_rfl, by kernel_rfl⟩ ?_)
             | (refine Or.inl ⟨_, n1, ?_⟩)
             | (refine ⟨_, n1, ?_⟩)
             | (refine Or.inl ⟨_, n2, ?_⟩)
             | (refine ⟨_, n2, ?_⟩)
             | (refine Or.inl ⟨_, n3, ?_⟩)
             | (refine ⟨_, n3, ?_⟩)
             | (refine Or.inl ⟨_, n4, ?_⟩)
             | (refine ⟨_, n4, ?_⟩)
             | (rw [hq])
             | (refine Or.inl ⟨_, n5, ?_⟩)
             | (refine ⟨_, n5, ?_⟩)
             | (refine Or.inl ⟨_, n6, ?_⟩)
             | (refine ⟨_, n6, ?_⟩)
             | (refine Or.inl ⟨_, n7, ?_⟩)
             | (refine ⟨_, n7, ?_⟩)
             | (refine cond_f ?_ ?_)
             | (refine ⟨_, ⟨by decide, rfl⟩, ?_⟩)
             | (refine cond_i (fun h => ?_) (fun h => ?_)))
    all_goals (conv => whnf)
    all_goals
      clear hq hq2 n1 n2 n3 n4 n5 n6 n7 e
      refine bool_eq ?_
      simp only [beq_iff_eq, beq_eq_false_iff_ne, ne_eq, decide_eq_true_eq, decide_eq_false_iff_not, Bool.not_eq_true', Bool.not_eq_false', ge_iff_le] at *
      simp only [*, if_true, if_false, Bool.true_and, Bool.false_and]
    all_goals try rfl
    all_goals
      rw [Bool.eq_iff_iff]
      simp
  · rw [decide_eq_false e] at hq
    repeat' (conv => whnf
             first
             | (refine And.intro (by kernel_rfl) ?_)
             | (refine And.intro ⟨by kernel_rfl, by kernel_rfl⟩ ?_)
             | (refine Or.inl ⟨_, n1, ?_⟩)
             | (refine ⟨_, n1, ?_⟩)
             | (refine Or.inl ⟨_, n2, ?_⟩)
             | (refine ⟨_, n2, ?_⟩)
             | (refine Or.inl ⟨_, n3, ?_⟩)
             | (refine ⟨_, n3, ?_⟩)
             | (refine Or.inl ⟨_, n4, ?_⟩)
             | (refine ⟨_, n4, ?_⟩)
             | (rw [hq])
             | (refine cond_f ?_ ?_)
             | (refine ⟨_, ⟨by decide, rfl⟩, ?_⟩)
             | (refine cond_i (fun h => ?_) (fun h => ?_)))
    all_goals (conv => whnf)
    all_goals
      rw [decide_eq_false e]
      rfl
theorem packet_Right (p : Packet) : Fv Try.prog 8 [.agg p.g] (.bool (okP p)) := by
  have := right_of p (cleanP p) _ _ _ _ _ _ (packet_node _) (packet_node _) (packet_attempt _) (packet_Clean p) (packet_call p) (code_Right _) (packet_tick _)
  have e : okP p = (decide (0 ≤ p.from ∧ p.from < 64) && decide (0 ≤ p.to ∧ p.to < 64) && (okKey p.key && decide (1 ≤ p.key.att)) && decide (cleanP p = p) && (if p.kind = 1 then okCall p else if p.kind = 2 then right p.code && decide (0 ≤ p.value ∧ p.value < 2147483648 ∧ (p.more = true → p.code = 0 ∧ p.value = 0))
      else if p.kind = 3 then true else if p.kind = 4 then tickI p.until else if p.kind = 5 then decide (-1 ≤ p.delay ∧ p.delay ≤ 1125899906842624) else false)) := by
    unfold okP okHead okKind
    congr 1
    rw [Bool.eq_iff_iff]
    simp only [Bool.and_eq_true, decide_eq_true_eq, and_assoc]
  rw [e]
  exact this
end Go.Proofs.Ytfpincfmcjiokaa.Cn
