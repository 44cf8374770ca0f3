
/- Law 8: packets. No condition. -/
import Derived.Test.YtfpincfmcjiokaaCn84
import Derived.Test.YtfpincfmcjiokaaCn81
import Derived.Test.YtfpincfmcjiokaaCn79
namespace Go.Proofs.Ytfpincfmcjiokaa.Cn
open Go Go.Proofs Go.Proofs.Ytfpincfmcjiokaa.Av Go.Proofs.Ytfpincfmcjiokaa.Sp
set_option linter.unusedVariables false
set_option linter.unusedSimpArgs false
set_option linter.unusedSectionVars false
set_option maxRecDepth 100000
attribute [local irreducible] Fv Fp

def pA : Packet := ⟨3, 0, 1, ⟨⟨0, 0, 1⟩, 1⟩, 0, 0, ⟨#[]⟩, 0, 0, zId, zKey, 0, 0, false, 0⟩
theorem pA_ok : okP pA = true := by decide +kernel
theorem pA_size : (codeP pA).size = 12 := by
  unfold codeP
  rw [seal_size]
  decide +kernel
theorem pA_eqB (c : Packet) : (c.kind == 3 && (c.from == 0 && (c.to == 1 && (((c.key.id.node == 0 && (c.key.id.inc == 0 && (c.key.id.seq == 1 && true))) && (c.key.att == 1 && true)) && (c.hop == 0 && (c.stamp == 0 && (strEq c.timeout ⟨#[]⟩ && (c.until == 0 && (c.program == 0 && ((c.root.node == 0 && (c.root.inc == 0 && (c.root.seq == 0 && true))) && (((c.parent.id.node == 0 && (c.parent.id.inc == 0 && (c.parent.id.seq == 0 && true))) && (c.parent.att == 0 && true)) && (c.code == 0 && (c.value == 0 && (c.more == false && (c.delay == 0 && true))))))))))))))) = decide (c = pA) := packet_eqB c pA
theorem zP_eqB (c : Packet) : (c.kind == 0 && (c.from == 0 && (c.to == 0 && (((c.key.id.node == 0 && (c.key.id.inc == 0 && (c.key.id.seq == 0 && true))) && (c.key.att == 0 && true)) && (c.hop == 0 && (c.stamp == 0 && (strEq c.timeout ⟨#[]⟩ && (c.until == 0 && (c.program == 0 && ((c.root.node == 0 && (c.root.inc == 0 && (c.root.seq == 0 && true))) && (((c.parent.id.node == 0 && (c.parent.id.inc == 0 && (c.parent.id.seq == 0 && true))) && (c.parent.att == 0 && true)) && (c.code == 0 && (c.value == 0 && (c.more == false && (c.delay == 0 && true))))))))))))))) = decide (c = zP) := packet_eqB c zP
theorem awake08_of (S : ByteArray) (q : Packet) (ok : Bool) (hs : (((S.size : Nat) : Int) == 12) = true) (n1 : Fv Try.prog 11 [.agg pA.g] (.str S)) (n2 : Fv Try.prog 12 [.str S] (.tup [.agg q.g, .int .i64 0]))
    (n3 : Fv Try.prog 8 [.agg pA.g] (.bool ok)) (hq : (q.kind == 3 && (q.from == 0 && (q.to == 1 && (((q.key.id.node == 0 && (q.key.id.inc == 0 && (q.key.id.seq == 1 && true))) && (q.key.att == 1 && true)) && (q.hop == 0 && (q.stamp == 0 && (strEq q.timeout ⟨#[]⟩ && (q.until == 0 && (q.program == 0 && ((q.root.node == 0 && (q.root.inc == 0 && (q.root.seq == 0 && true))) && (((q.parent.id.node == 0 && (q.parent.id.inc == 0 && (q.parent.id.seq == 0 && true))) && (q.parent.att == 0 && true)) && (q.code == 0 && (q.value == 0 && (q.more == false && (q.delay == 0 && true))))))))))))))) = true) : Fv Try.prog 6 [] (.bool ok) := by
  refine Fv.of_awp Try.func6 rfl (by kernel_rfl) rfl (Nat.le_of_ble_eq_true rfl) ?_
  repeat' (conv => whnf
           first
           | (refine And.intro (by kernel_rfl) ?_)
           | (refine And.intro ⟨by kernel_rfl, by kernel_rfl⟩ ?_)
           | (refine Or.inl ⟨_, n1, ?_⟩)
           | (refine ⟨_, n1, ?_⟩)
           | (refine Or.inl ⟨_, n2, ?_⟩)
           | (refine ⟨_, n2, ?_⟩)
           | (refine cond_1 hs ?_)
           | (refine cond_1 hq ?_)
           | (refine Or.inl ⟨_, n3, ?_⟩)
           | (refine ⟨_, n3, ?_⟩)
           | (refine cond_f ?_ ?_)
           | (refine ⟨_, ⟨by decide, rfl⟩, ?_⟩)
           | (refine cond_i (fun h => ?_) (fun h => ?_)))
  all_goals (conv => whnf)
  all_goals rfl
theorem law08_awake : Fv Try.prog 6 [] (.bool true) := by
  have n1 := packet_Code pA pA_ok
  have n2 := packet_Parse (codeP pA) (by rw [pA_size]; decide)
  have n3 := packet_Right pA
  rw [parse_code pA_ok] at n2
  rw [pA_ok] at n3
  exact awake08_of (codeP pA) pA true (by rw [pA_size]; rfl) n1 n2 n3 (by rw [pA_eqB]; exact decide_eq_true rfl)
section
variable (aw : Fv Try.prog 6 [] (.bool true))
include aw
theorem tells_long (p : Packet) (h : 60 < p.timeout.size) : Fv Try.prog 3 [.agg p.g] (.bool true) := by
  have b1 : decide (((p.timeout.size : Nat) : Int) > 60) = true := decide_eq_true (by omega)
  refine Fv.of_awp Try.func3 rfl (by kernel_rfl) rfl (Nat.le_of_ble_eq_true rfl) ?_
  repeat' (conv => whnf
           first
           | (refine And.intro (by kernel_rfl) ?_)
           | (refine And.intro ⟨by kernel_rfl, by kernel_rfl⟩ ?_)
           | (refine cond_1 b1 ?_)
           | (refine Or.inl ⟨_, aw, ?_⟩)
           | (refine ⟨_, aw, ?_⟩)
           | (refine cond_f ?_ ?_)
           | (refine ⟨_, ⟨by decide, rfl⟩, ?_⟩)
           | (refine cond_i (fun h => ?_) (fun h => ?_)))
  all_goals (conv => whnf)
  all_goals rfl
set_option maxHeartbeats 4000000 in
theorem tells_no (p q : Packet) (h : ¬ 60 < p.timeout.size) (n1 : Fv Try.prog 7 [.agg p.g] (.bool false)) (n2 : Fv Try.prog 8 [.agg p.g] (.bool false))
    (n3 : Fv Try.prog 9 [.agg p.g] (.agg q.g)) (n4 : Fv Try.prog 10 [.agg p.g] (.agg q.g)) : Fv Try.prog 3 [.agg p.g] (.bool true) := by
  have b1 : decide (((p.timeout.size : Nat) : Int) > 60) = false := decide_eq_false (by omega)
  have hq := packet_eqB q q
  rw [decide_eq_true rfl] at hq
  refine Fv.of_awp Try.func3 rfl (by kernel_rfl) rfl (Nat.le_of_ble_eq_true rfl) ?_
  repeat' (conv => whnf
           first
           | (refine And.intro (by kernel_rfl) ?_)
           | (refine And.intro ⟨by kernel_rfl, by kernel_rfl⟩ ?_)
           | (refine cond_0 b1 ?_)
           | (refine Or.inl ⟨_, n1, ?_⟩)
           | (refine ⟨_, n1, ?_⟩)
           | (refine Or.inl ⟨_, n2, ?_⟩)
           | (refine ⟨_, n2, ?_⟩)
           | (refine Or.inl ⟨_, n3, ?_⟩)
           | (refine ⟨_, n3, ?_⟩)
           | (refine Or.inl ⟨_, n4, ?_⟩)
           | (refine ⟨_, n4, ?_⟩)
           | (rw [hq])
           | (refine Or.inl ⟨_, aw, ?_⟩)
           | (refine ⟨_, aw, ?_⟩)
           | (refine cond_f ?_ ?_)
           | (refine ⟨_, ⟨by decide, rfl⟩, ?_⟩)
           | (refine cond_i (fun h => ?_) (fun h => ?_)))
  all_goals (conv => whnf)
  all_goals rfl
set_option maxHeartbeats 4000000 in
theorem tells_yes (p q : Packet) (S : ByteArray) (h : ¬ 60 < p.timeout.size) (n1 : Fv Try.prog 7 [.agg p.g] (.bool true)) (n2 : Fv Try.prog 8 [.agg p.g] (.bool true))
    (n3 : Fv Try.prog 9 [.agg p.g] (.agg q.g)) (n4 : Fv Try.prog 10 [.agg p.g] (.agg q.g)) (n5 : Fv Try.prog 11 [.agg p.g] (.str S))
    (n6 : Fv Try.prog 12 [.str S] (.tup [.agg p.g, .int .i64 0])) (n7 : Fv Try.prog 13 [.agg p.g] (.str S)) : Fv Try.prog 3 [.agg p.g] (.bool true) := by
  have b1 : decide (((p.timeout.size : Nat) : Int) > 60) = false := decide_eq_false (by omega)
  have hq := packet_eqB q q
  have hp := packet_eqB p p
  have hs := strEq_self S
  rw [decide_eq_true rfl] at hq hp
  refine Fv.of_awp Try.func3 rfl (by kernel_rfl) rfl (Nat.le_of_ble_eq_true rfl) ?_
  repeat' (conv => whnf
           first
           | (refine And.intro (by kernel_rfl) ?_)
           | (refine And.intro ⟨by kernel_rfl, by kernel_rfl⟩ ?_)
           | (refine cond_0 b1 ?_)
           | (refine Or.inl ⟨_, n1, ?_⟩)
           | (refine ⟨_, n1, ?_⟩)
           | (refine Or.inl ⟨_, n2, ?_⟩)
           | (refine ⟨_, n2, ?_⟩)
           | (refine Or.inl ⟨_, n3, ?_⟩)
           | (refine ⟨_, n3, ?_⟩)
           | (refine Or.inl ⟨_, n4, ?_⟩)
           | (refine ⟨_, n4, ?_⟩)
           | (rw [hq])
           | (refine Or.inl ⟨_, n5, ?_⟩)
           | (refine ⟨_, n5, ?_⟩)
           | (refine Or.inl ⟨_, n6, ?_⟩)
           | (refine ⟨_, n6, ?_⟩)
           | (refine Or.inl ⟨_, n7, ?_⟩)
           | (refine ⟨_, n7, ?_⟩)
           | (rw [hs])
           | (rw [hp])
           | (refine Or.inl ⟨_, aw, ?_⟩)
           | (refine ⟨_, aw, ?_⟩)
           | (refine cond_f ?_ ?_)
           | (refine ⟨_, ⟨by decide, rfl⟩, ?_⟩)
           | (refine cond_i (fun h => ?_) (fun h => ?_)))
  all_goals (conv => whnf)
  all_goals rfl
set_option maxHeartbeats 4000000 in
theorem once_of (s u S : ByteArray) (p : Packet) (e : Int) (n1 : Fv Try.prog 14 [.str u] (.str S)) (n2 : Fv Try.prog 12 [.str S] (.tup [.agg p.g, .int .i64 e]))
    (n3 : e = 0 → Fv Try.prog 11 [.agg p.g] (.str S)) (n4 : e = 0 → Fv Try.prog 8 [.agg p.g] (.bool true)) (hu : u = if 300 < s.size then s.extract 0 300 else s) : Fv Try.prog 4 [.str s] (.bool true) := by
  have hs := strEq_self S
  refine Fv.of_awp Try.func4 rfl (by kernel_rfl) rfl (Nat.le_of_ble_eq_true rfl) ?_
  by_cases h : 300 < s.size
  · have b1 : decide (((s.size : Nat) : Int) > 300) = true := decide_eq_true (by omega)
    rw [if_pos h] at hu
    have f : (0 : Int) ≤ 0 ∧ (0 : Int) ≤ 300 ∧ (300 : Int) ≤ (s.size : Int) := by omega
    subst hu
    by_cases he : e = 0
    · have b2 : (e != 0) = false := by simp [he]
      have n3 := n3 he
      have n4 := n4 he
      repeat' (conv => whnf
               first
               | (refine And.intro (by kernel_rfl) ?_)
               | (refine And.intro ⟨by kernel_rfl, by kernel_rfl⟩ ?_)
               | (refine cond_1 b1 ?_)
               | (refine ⟨f, ?_⟩)
               | (refine Or.inl ⟨_, n1, ?_⟩)
               | (refine ⟨_, n1, ?_⟩)
               | (refine Or.inl ⟨_, n2, ?_⟩)
               | (refine ⟨_, n2, ?_⟩)
               | (refine cond_0 b2 ?_)
               | (refine Or.inl ⟨_, n3, ?_⟩)
               | (refine ⟨_, n3, ?_⟩)
               | (rw [hs])
               | (refine Or.inl ⟨_, n4, ?_⟩)
               | (refine ⟨_, n4, ?_⟩)
               | (refine Or.inl ⟨_, aw, ?_⟩)
               | (refine ⟨_, aw, ?_⟩)
               | (refine cond_f ?_ ?_)
               | (refine ⟨_, ⟨by decide, rfl⟩, ?_⟩)
               | (refine cond_i (fun h => ?_) (fun h => ?_)))
      all_goals (conv => whnf)
      all_goals rfl
    · have b2 : (e != 0) = true := by simp [he]
      repeat' (conv => whnf
               first
               | (refine And.intro (by kernel_rfl) ?_)
               | (refine And.intro ⟨by kernel_rfl, by kernel_rfl⟩ ?_)
               | (refine cond_1 b1 ?_)
               | (refine ⟨f, ?_⟩)
               | (refine Or.inl ⟨_, n1, ?_⟩)
               | (refine ⟨_, n1, ?_⟩)
               | (refine Or.inl ⟨_, n2, ?_⟩)
               | (refine ⟨_, n2, ?_⟩)
               | (refine cond_1 b2 ?_)
               | (refine Or.inl ⟨_, aw, ?_⟩)
               | (refine ⟨_, aw, ?_⟩)
               | (refine cond_f ?_ ?_)
               | (refine ⟨_, ⟨by decide, rfl⟩, ?_⟩)
               | (refine cond_i (fun h => ?_) (fun h => ?_)))
      all_goals (conv => whnf)
      all_goals rfl
  · have b1 : decide (((s.size : Nat) : Int) > 300) = false := decide_eq_false (by omega)
    rw [if_neg h] at hu
    subst hu
    by_cases he : e = 0
    · have b2 : (e != 0) = false := by simp [he]
      have n3 := n3 he
      have n4 := n4 he
      repeat' (conv => whnf
               first
               | (refine And.intro (by kernel_rfl) ?_)
               | (refine And.intro ⟨by kernel_rfl, by kernel_rfl⟩ ?_)
               | (refine cond_0 b1 ?_)
               | (refine Or.inl ⟨_, n1, ?_⟩)
               | (refine ⟨_, n1, ?_⟩)
               | (refine Or.inl ⟨_, n2, ?_⟩)
               | (refine ⟨_, n2, ?_⟩)
               | (refine cond_0 b2 ?_)
               | (refine Or.inl ⟨_, n3, ?_⟩)
               | (refine ⟨_, n3, ?_⟩)
               | (rw [hs])
               | (refine Or.inl ⟨_, n4, ?_⟩)
               | (refine ⟨_, n4, ?_⟩)
               | (refine Or.inl ⟨_, aw, ?_⟩)
               | (refine ⟨_, aw, ?_⟩)
               | (refine cond_f ?_ ?_)
               | (refine ⟨_, ⟨by decide, rfl⟩, ?_⟩)
               | (refine cond_i (fun h => ?_) (fun h => ?_)))
      all_goals (conv => whnf)
      all_goals rfl
    · have b2 : (e != 0) = true := by simp [he]
      repeat' (conv => whnf
               first
               | (refine And.intro (by kernel_rfl) ?_)
               | (refine And.intro ⟨by kernel_rfl, by kernel_rfl⟩ ?_)
               | (refine cond_0 b1 ?_)
               | (refine Or.inl ⟨_, n1, ?_⟩)
               | (refine ⟨_, n1, ?_⟩)
               | (refine Or.inl ⟨_, n2, ?_⟩)
               | (refine ⟨_, n2, ?_⟩)
               | (refine cond_1 b2 ?_)
               | (refine Or.inl ⟨_, aw, ?_⟩)
               | (refine ⟨_, aw, ?_⟩)
               | (refine cond_f ?_ ?_)
               | (refine ⟨_, ⟨by decide, rfl⟩, ?_⟩)
               | (refine cond_i (fun h => ?_) (fun h => ?_)))
      all_goals (conv => whnf)
      all_goals rfl
set_option maxHeartbeats 4000000 in
theorem finds_out (p : Packet) (at' x : Int) (S : ByteArray) (ok : Bool) (n1 : Fv Try.prog 7 [.agg p.g] (.bool ok)) (n2 : ok = true → Fv Try.prog 11 [.agg p.g] (.str S))
    (h : 60 < p.timeout.size ∨ ok = false ∨ x = 0 ∨ at' < 0 ∨ at' ≥ S.size) : Fv Try.prog 5 [.agg p.g, .int .i64 at', .int .u8 x] (.bool true) := by
  refine Fv.of_awp Try.func5 rfl (by kernel_rfl) rfl (Nat.le_of_ble_eq_true rfl) ?_
  by_cases h1 : 60 < p.timeout.size
  · have b1 : decide (((p.timeout.size : Nat) : Int) > 60) = true := decide_eq_true (by omega)
    repeat' (conv => whnf
             first
             | (refine And.intro (by kernel_rfl) ?_)
             | (refine And.intro ⟨by kernel_rfl, by kernel_rfl⟩ ?_)
             | (refine cond_1 b1 ?_)
             | (refine Or.inl ⟨_, aw, ?_⟩)
             | (refine ⟨_, aw, ?_⟩)
             | (refine cond_f ?_ ?_)
             | (refine ⟨_, ⟨by decide, rfl⟩, ?_⟩)
             | (refine cond_i (fun h => ?_) (fun h => ?_)))
    all_goals (conv => whnf)
    all_goals rfl
  have b1 : decide (((p.timeout.size : Nat) : Int) > 60) = false := decide_eq_false (by omega)
  cases ok
  · skip
    repeat' (conv => whnf
             first
             | (refine And.intro (by kernel_rfl) ?_)
             | (refine And.intro ⟨by kernel_rfl, by kernel_rfl⟩ ?_)
             | (refine cond_0 b1 ?_)
             | (refine Or.inl ⟨_, n1, ?_⟩)
             | (refine ⟨_, n1, ?_⟩)
             | (refine Or.inl ⟨_, aw, ?_⟩)
             | (refine ⟨_, aw, ?_⟩)
             | (refine cond_f ?_ ?_)
             | (refine ⟨_, ⟨by decide, rfl⟩, ?_⟩)
             | (refine cond_i (fun h => ?_) (fun h => ?_)))
    all_goals (conv => whnf)
    all_goals rfl
  have n2 := n2 rfl
  by_cases h3 : x = 0
  · have b2 : (x == 0) = true := by simp [h3]
    repeat' (conv => whnf
             first
             | (refine And.intro (by kernel_rfl) ?_)
             | (refine And.intro ⟨by kernel_rfl, by kernel_rfl⟩ ?_)
             | (refine cond_0 b1 ?_)
             | (refine Or.inl ⟨_, n1, ?_⟩)
             | (refine ⟨_, n1, ?_⟩)
             | (refine cond_1 b2 ?_)
             | (refine Or.inl ⟨_, aw, ?_⟩)
             | (refine ⟨_, aw, ?_⟩)
             | (refine cond_f ?_ ?_)
             | (refine ⟨_, ⟨by decide, rfl⟩, ?_⟩)
             | (refine cond_i (fun h => ?_) (fun h => ?_)))
    all_goals (conv => whnf)
    all_goals rfl
  have b2 : (x == 0) = false := by simp [h3]
  by_cases h4 : at' < 0
  · have b3 : decide (at' < 0) = true := decide_eq_true h4
    repeat' (conv => whnf
             first
             | (refine And.intro (by kernel_rfl) ?_)
             | (refine And.intro ⟨by kernel_rfl, by kernel_rfl⟩ ?_)
             | (refine cond_0 b1 ?_)
             | (refine Or.inl ⟨_, n1, ?_⟩)
             | (refine ⟨_, n1, ?_⟩)
             | (refine cond_0 b2 ?_)
             | (refine Or.inl ⟨_, n2, ?_⟩)
             | (refine ⟨_, n2, ?_⟩)
             | (refine cond_1 b3 ?_)
             | (refine Or.inl ⟨_, aw, ?_⟩)
             | (refine ⟨_, aw, ?_⟩)
             | (refine cond_f ?_ ?_)
             | (refine ⟨_, ⟨by decide, rfl⟩, ?_⟩)
             | (refine cond_i (fun h => ?_) (fun h => ?_)))
    all_goals (conv => whnf)
    all_goals rfl
  have b3 : decide (at' < 0) = false := decide_eq_false h4
  have h5 : at' ≥ (S.size : Int) := by rcases h with h | h | h | h | h <;> first | exact absurd h h1 | (cases h; done) | exact absurd h h3 | exact absurd h h4 | exact h
  have b4 : decide (at' ≥ (S.size : Int)) = true := decide_eq_true h5
  repeat' (conv => whnf
           first
           | (refine And.intro (by kernel_rfl) ?_)
           | (refine And.intro ⟨by kernel_rfl, by kernel_rfl⟩ ?_)
           | (refine cond_0 b1 ?_)
           | (refine Or.inl ⟨_, n1, ?_⟩)
           | (refine ⟨_, n1, ?_⟩)
           | (refine cond_0 b2 ?_)
           | (refine Or.inl ⟨_, n2, ?_⟩)
           | (refine ⟨_, n2, ?_⟩)
           | (refine cond_0 b3 ?_)
           | (refine cond_1 b4 ?_)
           | (refine Or.inl ⟨_, aw, ?_⟩)
           | (refine ⟨_, aw, ?_⟩)
           | (refine cond_f ?_ ?_)
           | (refine ⟨_, ⟨by decide, rfl⟩, ?_⟩)
           | (refine cond_i (fun h => ?_) (fun h => ?_)))
  all_goals (conv => whnf)
  all_goals rfl
set_option maxHeartbeats 4000000 in
theorem finds_in (p q : Packet) (at' x : Int) (S C : ByteArray) (n1 : Fv Try.prog 7 [.agg p.g] (.bool true)) (n2 : Fv Try.prog 11 [.agg p.g] (.str S))
    (n3 : Fv Try.prog 15 [.str S, .int .i64 at', .int .u8 x] (.str C)) (n4 : Fv Try.prog 12 [.str C] (.tup [.agg q.g, .int .i64 4]))
    (h1 : ¬ 60 < p.timeout.size) (h2 : x ≠ 0) (h3 : 0 ≤ at') (h4 : at' < S.size) (hq : (q.kind == 0 && (q.from == 0 && (q.to == 0 && (((q.key.id.node == 0 && (q.key.id.inc == 0 && (q.key.id.seq == 0 && true))) && (q.key.att == 0 && true)) && (q.hop == 0 && (q.stamp == 0 && (strEq q.timeout ⟨#[]⟩ && (q.until == 0 && (q.program == 0 && ((q.root.node == 0 && (q.root.inc == 0 && (q.root.seq == 0 && true))) && (((q.parent.id.node == 0 && (q.parent.id.inc == 0 && (q.parent.id.seq == 0 && true))) && (q.parent.att == 0 && true)) && (q.code == 0 && (q.value == 0 && (q.more == false && (q.delay == 0 && true))))))))))))))) = true) : Fv Try.prog 5 [.agg p.g, .int .i64 at', .int .u8 x] (.bool true) := by
  have b1 : decide (((p.timeout.size : Nat) : Int) > 60) = false := decide_eq_false (by omega)
  have b2 : (x == 0) = false := by simp [h2]
  have b3 : decide (at' < 0) = false := decide_eq_false (by omega)
  have b4 : decide (at' ≥ (S.size : Int)) = false := decide_eq_false (by omega)
  refine Fv.of_awp Try.func5 rfl (by kernel_rfl) rfl (Nat.le_of_ble_eq_true rfl) ?_
  repeat' (conv => whnf
           first
           | (refine And.intro (by kernel_rfl) ?_)
           | (refine And.intro ⟨by kernel_rfl, by kernel_rfl⟩ ?_)
           | (refine cond_0 b1 ?_)
           | (refine Or.inl ⟨_, n1, ?_⟩)
           | (refine ⟨_, n1, ?_⟩)
           | (refine cond_0 b2 ?_)
           | (refine Or.inl ⟨_, n2, ?_⟩)
           | (refine ⟨_, n2, ?_⟩)
           | (refine cond_0 b3 ?_)
           | (refine cond_0 b4 ?_)
           | (refine Or.inl ⟨_, n3, ?_⟩)
           | (refine ⟨_, n3, ?_⟩)
           | (refine Or.inl ⟨_, n4, ?_⟩)
           | (refine ⟨_, n4, ?_⟩)
           | (refine cond_1 hq ?_)
           | (refine Or.inl ⟨_, aw, ?_⟩)
           | (refine ⟨_, aw, ?_⟩)
           | (refine cond_f ?_ ?_)
           | (refine ⟨_, ⟨by decide, rfl⟩, ?_⟩)
           | (refine cond_i (fun h => ?_) (fun h => ?_)))
  all_goals (conv => whnf)
  all_goals rfl
end
theorem code_size {p : Packet} (h : okP p = true) : (codeP p).size < 1000000 := by
  have := code_le p h
  unfold codeP; rw [seal_size]; omega
theorem law08_PacketTells (p : Packet) : Fv Try.prog 3 [.agg p.g] (.bool true) := by
  by_cases h : 60 < p.timeout.size
  · exact tells_long law08_awake p h
  have n1 := ref08_Right p
  have n2 := packet_Right p
  have n3 := packet_Clean p
  have n4 := ref08_Clean p
  cases ok : okP p with
  | false =>
    rw [ok] at n1 n2
    exact tells_no law08_awake p _ h n1 n2 n3 n4
  | true =>
    rw [ok] at n1 n2
    have n6 := packet_Parse (codeP p) (by have := code_size ok; omega)
    rw [parse_code ok] at n6
    exact tells_yes law08_awake p _ _ h n1 n2 n3 n4 (packet_Code p ok) n6 (ref08_Code p ok)
theorem law08_PacketOnce (s : ByteArray) : Fv Try.prog 4 [.str s] (.bool true) := by
  have hz : (if 300 < s.size then s.extract 0 300 else s).size ≤ 300 := by
    split
    · rw [ByteArray.size_extract]; omega
    · omega
  generalize hu : (if 300 < s.size then s.extract 0 300 else s) = u at hz
  have hS : (sealB u).size < 4611686018427387904 := by rw [seal_size]; omega
  refine once_of law08_awake s u (sealB u) (parseP (sealB u)).1 (parseP (sealB u)).2 (ref03_Seal u (by omega)) (packet_Parse _ hS) (fun he => ?_) (fun he => ?_) hu.symm
  · obtain ⟨h1, h2⟩ := parse_inv he
    have := packet_Code _ h1
    rw [h2] at this
    exact this
  · obtain ⟨h1, h2⟩ := parse_inv he
    have := packet_Right (parseP (sealB u)).1
    rw [h1] at this
    exact this
theorem wf_u8 {n : Int} (h : (Lit.int .u8 n).wf = true) : 0 ≤ n ∧ n ≤ 255 := by
  simp [Lit.wf, IntKind.min, IntKind.max, IntKind.signed, IntKind.bits] at h
  omega
theorem law08_PacketFinds (p : Packet) (at' x : Int) (hx : 0 ≤ x ∧ x ≤ 255) : Fv Try.prog 5 [.agg p.g, .int .i64 at', .int .u8 x] (.bool true) := by
  by_cases h : 60 < p.timeout.size ∨ okP p = false ∨ x = 0 ∨ at' < 0 ∨ at' ≥ (codeP p).size
  · exact finds_out law08_awake p at' x _ _ (ref08_Right p) (fun ok => packet_Code p ok) h
  · obtain ⟨h1, h⟩ := not_or.1 h
    obtain ⟨h2, h⟩ := not_or.1 h
    obtain ⟨h3, h⟩ := not_or.1 h
    obtain ⟨h4, h5⟩ := not_or.1 h
    have ok : okP p = true := by simpa using h2
    obtain ⟨i, rfl⟩ := Int.eq_ofNat_of_zero_le (show 0 ≤ at' by omega)
    obtain ⟨y, rfl⟩ : ∃ y : UInt8, x = (y.toNat : Int) := ⟨UInt8.ofNat x.toNat, by rw [UInt8.toNat_ofNat']; omega⟩
    have hi : i < (codeP p).size := by omega
    have hy : y ≠ 0 := fun e => h3 (by rw [e]; rfl)
    have hc := ref03_Changed (codeP p) i y hi (code_size ok)
    have ho : openB (changed (codeP p) i y) = (⟨#[]⟩, false) := open_changed _ i y hi hy
    have hz : (changed (codeP p) i y).size = (codeP p).size := by unfold changed; rw [strL_size, List.length_set, size_list]
    have n4 := packet_Parse (changed (codeP p) i y) (by have := code_size ok; omega)
    have e : parseP (changed (codeP p) i y) = (zP, 4) := by unfold parseP; rw [ho]; rfl
    rw [e] at n4
    have n1 := ref08_Right p
    rw [ok] at n1
    exact finds_in law08_awake p zP _ _ _ _ n1 (packet_Code p ok) hc n4 h1 h3 (by omega) (by omega) (by rw [zP_eqB]; exact decide_eq_true rfl)
end Go.Proofs.Ytfpincfmcjiokaa.Cn
