
/- Contracts: a packet's bytes. No condition but that it may be. -/
import Derived.Test.YtfpincfmcjiokaaCn78
namespace Go.Proofs.Ytfpincfmcjiokaa.Cn
open Go Go.Proofs Go.Proofs.Ytfpincfmcjiokaa.Av Go.Proofs.Ytfpincfmcjiokaa.Sp
set_option linter.unusedVariables false
set_option linter.unusedSimpArgs false
set_option linter.unusedSectionVars false
set_option maxRecDepth 100000
attribute [local irreducible] Fv Fp

theorem numB_one {n : Nat} (h : n < 256) : (numB (n : Int) 1).size = 1 := by rw [show (1 : Int) = ((1 : Nat) : Int) from rfl, numB_yes (by omega) (by omega) (by omega), strL_size, dgs_len]
theorem strEq_no {a b : ByteArray} (h : a.size ≠ b.size) : strEq a b = false := by
  rw [strEq_dec, decide_eq_false_iff_not]
  rintro rfl
  exact h rfl
theorem bytes_Text (s : ByteArray) (h : s.size < 256) : Fv Try.prog 29 [.str s] (.str (textB s)) := by
  have n1 := bytes_Num (s.size : Nat) 1
  have hx := numB_one h
  unfold textB
  rw [if_pos h]
  generalize numB (s.size : Nat) 1 = x at *
  have b1 : strEq x ⟨#[]⟩ = false := strEq_no (by rw [hx]; decide)
  have z1 : ((x.size + s.size : Nat) : Int) ≤ 9223372036854775807 := by omega
  refine Fv.of_awp Try.func29 rfl (by kernel_rfl) rfl (Nat.le_of_ble_eq_true rfl) ?_
  repeat' (conv => whnf
           first
           | (refine And.intro (by kernel_rfl) ?_)
           | (refine And.intro ⟨by kernel_rfl, by kernel_rfl⟩ ?_)
           | (refine Or.inl ⟨_, n1, ?_⟩)
           | (refine ⟨_, n1, ?_⟩)
           | (refine cond_0 b1 ?_)
           | (refine ⟨z1, ?_⟩)
           | (refine cond_f ?_ ?_)
           | (refine ⟨_, ⟨by decide, rfl⟩, ?_⟩)
           | (refine cond_i (fun h => ?_) (fun h => ?_)))
  all_goals (conv => whnf)
  all_goals rfl
theorem ref04_Text (s : ByteArray) (h : s.size < 256) : Fv Try.prog 44 [.str s] (.str (textB s)) := by
  have b2 : decide ((s.size : Int) > 255) = false := decide_eq_false (by omega)
  have hx : numB (s.size : Nat) 1 = strL [UInt8.ofNat s.size] := by
    rw [show (1 : Int) = ((1 : Nat) : Int) from rfl, numB_yes (by omega) (by omega) (by omega)]
    unfold dgs
    simp
  have hq : [[G.int .u8 (IntKind.u8.wrap (s.size : Nat))]] = [UInt8.ofNat s.size].map (fun b => [G.int .u8 b.toNat]) := by rw [wrap_u8]; rfl
  have z1 : (((strL [UInt8.ofNat s.size]).size + s.size : Nat) : Int) ≤ 9223372036854775807 := by rw [strL_size]; simp only [List.length_cons, List.length_nil]; omega
  unfold textB
  rw [if_pos h, hx]
  refine Fv.of_awp Try.func44 rfl (by kernel_rfl) rfl (Nat.le_of_ble_eq_true rfl) ?_
  repeat' (conv => whnf
           first
           | (refine And.intro (by kernel_rfl) ?_)
           | (refine And.intro ⟨by kernel_rfl, by kernel_rfl⟩ ?_)
           | (refine cond_0 b2 ?_)
           | (refine ⟨_, hq, ?_⟩)
           | (refine ⟨z1, ?_⟩)
           | (refine cond_f ?_ ?_)
           | (refine ⟨_, ⟨by decide, rfl⟩, ?_⟩)
           | (refine cond_i (fun h => ?_) (fun h => ?_)))
  all_goals (conv => whnf)
  all_goals rfl
theorem ref08_flag (b : Bool) : Fv Try.prog 46 [.bool b] (.str (flagB b)) := by
  have n1 := ref04_Num 1 1 (by decide)
  have n2 := ref04_Num 0 1 (by decide)
  have e1 : numB 1 1 = flagB true := rfl
  have e2 : numB 0 1 = flagB false := rfl
  rw [e1] at n1
  rw [e2] at n2
  refine Fv.of_awp Try.func46 rfl (by kernel_rfl) rfl (Nat.le_of_ble_eq_true rfl) ?_
  cases b
  · skip
    repeat' (conv => whnf
             first
             | (refine And.intro (by kernel_rfl) ?_)
             | (refine And.intro ⟨by kernel_rfl, by kernel_rfl⟩ ?_)
             | (refine Or.inl ⟨_, n1, ?_⟩)
             | (refine ⟨_, n1, ?_⟩)
             | (refine Or.inl ⟨_, n2, ?_⟩)
             | (refine ⟨_, n2, ?_⟩)
             | (refine cond_f ?_ ?_)
             | (refine ⟨_, ⟨by decide, rfl⟩, ?_⟩)
             | (refine cond_i (fun h => ?_) (fun h => ?_)))
    all_goals (conv => whnf)
    all_goals rfl
  · skip
    repeat' (conv => whnf
             first
             | (refine And.intro (by kernel_rfl) ?_)
             | (refine And.intro ⟨by kernel_rfl, by kernel_rfl⟩ ?_)
             | (refine Or.inl ⟨_, n1, ?_⟩)
             | (refine ⟨_, n1, ?_⟩)
             | (refine Or.inl ⟨_, n2, ?_⟩)
             | (refine ⟨_, n2, ?_⟩)
             | (refine cond_f ?_ ?_)
             | (refine ⟨_, ⟨by decide, rfl⟩, ?_⟩)
             | (refine cond_i (fun h => ?_) (fun h => ?_)))
    all_goals (conv => whnf)
    all_goals rfl
theorem textB_le (s : ByteArray) (h : s.size < 256) : (textB s).size ≤ 263 := by
  unfold textB; rw [if_pos h, ByteArray.size_append]; have := numB_le (s.size : Nat) 1; omega
theorem flagB_le (b : Bool) : (flagB b).size ≤ 1 := by unfold flagB; rw [strL_size]; simp
/-- Sums of short texts are short. -/
theorem sz2 {a b : ByteArray} {m n : Nat} (h1 : a.size ≤ m) (h2 : b.size ≤ n) (h : m + n ≤ 100000) : ((a.size + b.size : Nat) : Int) ≤ 9223372036854775807 ∧ (a ++ b).size ≤ m + n := ⟨by omega, by rw [ByteArray.size_append]; omega⟩
section
variable (p : Packet) (a b c k : ByteArray) (n1 : Fv Try.prog 27 [.int .i64 p.kind, .int .i64 1] (.str a)) (n2 : Fv Try.prog 27 [.int .i64 p.from, .int .i64 1] (.str b))
  (n3 : Fv Try.prog 27 [.int .i64 p.to, .int .i64 1] (.str c)) (n4 : Fv Try.prog 28 [.agg p.key.g] (.str k))
  (s1 : a.size ≤ 7) (s2 : b.size ≤ 7) (s3 : c.size ≤ 7) (s4 : k.size ≤ 28)
include n1 n2 n3 n4 s1 s2 s3 s4
set_option maxHeartbeats 4000000 in
theorem code_1 (hk : p.kind = 1) (h s t u g i q out : ByteArray) (m1 : Fv Try.prog 27 [.int .i64 p.hop, .int .i64 1] (.str h)) (m2 : Fv Try.prog 27 [.int .i64 p.stamp, .int .i64 7] (.str s))
    (m3 : Fv Try.prog 29 [.str p.timeout] (.str t)) (m4 : Fv Try.prog 27 [.int .i64 p.until, .int .i64 7] (.str u)) (m5 : Fv Try.prog 27 [.int .i64 p.program, .int .i64 1] (.str g))
    (m6 : Fv Try.prog 30 [.agg p.root.g] (.str i)) (m7 : Fv Try.prog 28 [.agg p.parent.g] (.str q))
    (m8 : Fv Try.prog 32 [.str ((a ++ b ++ c ++ k) ++ (h ++ s ++ t ++ u ++ g ++ i ++ q))] (.str out))
    (t1 : h.size ≤ 7) (t2 : s.size ≤ 7) (t3 : t.size ≤ 263) (t4 : u.size ≤ 7) (t5 : g.size ≤ 7) (t6 : i.size ≤ 21) (t7 : q.size ≤ 28) :
    Fv Try.prog 11 [.agg p.g] (.str out) := by
  have b1 : (p.kind == 1) = true := by simp [hk]
  have z1 := sz2 s1 s2 (by decide)
  have z2 := sz2 z1.2 s3 (by decide)
  have z3 := sz2 z2.2 s4 (by decide)
  have y1 := sz2 t1 t2 (by decide)
  have y2 := sz2 y1.2 t3 (by decide)
  have y3 := sz2 y2.2 t4 (by decide)
  have y4 := sz2 y3.2 t5 (by decide)
  have y5 := sz2 y4.2 t6 (by decide)
  have y6 := sz2 y5.2 t7 (by decide)
  have y7 := sz2 z3.2 y6.2 (by decide)
  refine Fv.of_awp Try.func11 rfl (by kernel_rfl) rfl (Nat.le_of_ble_eq_true rfl) ?_
  repeat' (conv => whnf
           first
           | (refine And.intro (by kernel_rfl) ?_)
           | (refine And.intro ⟨by kernel_rfl, by kernel_rfl⟩ ?_)
           | (refine Or.inl ⟨_, n1, ?_⟩)
           | (refine ⟨_, n1, ?_⟩)
           | (refine Or.inl ⟨_, n2, ?_⟩)
           | (refine ⟨_, n2, ?_⟩)
           | (refine Or.inl ⟨_, n3, ?_⟩)
           | (refine ⟨_, n3, ?_⟩)
           | (refine Or.inl ⟨_, n4, ?_⟩)
           | (refine ⟨_, n4, ?_⟩)
           | (refine ⟨z1.1, ?_⟩)
           | (refine ⟨z2.1, ?_⟩)
           | (refine ⟨z3.1, ?_⟩)
           | (refine cond_1 b1 ?_)
           | (refine Or.inl ⟨_, m1, ?_⟩)
           | (refine ⟨_, m1, ?_⟩)
           | (refine Or.inl ⟨_, m2, ?_⟩)
           | (refine ⟨_, m2, ?_⟩)
           | (refine Or.inl ⟨_, m3, ?_⟩)
           | (refine ⟨_, m3, ?_⟩)
           | (refine Or.inl ⟨_, m4, ?_⟩)
           | (refine ⟨_, m4, ?_⟩)
           | (refine Or.inl ⟨_, m5, ?_⟩)
           | (refine ⟨_, m5, ?_⟩)
           | (refine Or.inl ⟨_, m6, ?_⟩)
           | (refine ⟨_, m6, ?_⟩)
           | (refine Or.inl ⟨_, m7, ?_⟩)
           | (refine ⟨_, m7, ?_⟩)
           | (refine ⟨y1.1, ?_⟩)
           | (refine ⟨y2.1, ?_⟩)
           | (refine ⟨y3.1, ?_⟩)
           | (refine ⟨y4.1, ?_⟩)
           | (refine ⟨y5.1, ?_⟩)
           | (refine ⟨y6.1, ?_⟩)
           | (refine ⟨y7.1, ?_⟩)
           | (refine Or.inl ⟨_, m8, ?_⟩)
           | (refine ⟨_, m8, ?_⟩)
           | (refine cond_f ?_ ?_)
           | (refine ⟨_, ⟨by decide, rfl⟩, ?_⟩)
           | (refine cond_i (fun h => ?_) (fun h => ?_)))
  all_goals (conv => whnf)
  all_goals rfl
set_option maxHeartbeats 4000000 in
theorem code_2 (hk : p.kind = 2) (h s t out : ByteArray) (m1 : Fv Try.prog 27 [.int .i64 p.code, .int .i64 1] (.str h)) (m2 : Fv Try.prog 27 [.int .i64 p.value, .int .i64 4] (.str s))
    (m3 : Fv Try.prog 31 [.bool p.more] (.str t)) (m8 : Fv Try.prog 32 [.str ((a ++ b ++ c ++ k) ++ (h ++ s ++ t))] (.str out))
    (t1 : h.size ≤ 7) (t2 : s.size ≤ 7) (t3 : t.size ≤ 1) : Fv Try.prog 11 [.agg p.g] (.str out) := by
  have b1 : (p.kind == 1) = false := by simp [hk]
  have b2 : (p.kind == 2) = true := by simp [hk]
  have z1 := sz2 s1 s2 (by decide)
  have z2 := sz2 z1.2 s3 (by decide)
  have z3 := sz2 z2.2 s4 (by decide)
  have y1 := sz2 t1 t2 (by decide)
  have y2 := sz2 y1.2 t3 (by decide)
  have y7 := sz2 z3.2 y2.2 (by decide)
  refine Fv.of_awp Try.func11 rfl (by kernel_rfl) rfl (Nat.le_of_ble_eq_true rfl) ?_
  repeat' (conv => whnf
           first
           | (refine And.intro (by kernel_rfl) ?_)
           | (refine And.intro ⟨by kernel_rfl, by kernel_rfl⟩ ?_)
           | (refine Or.inl ⟨_, n1, ?_⟩)
           | (refine ⟨_, n1, ?_⟩)
           | (refine Or.inl ⟨_, n2, ?_⟩)
           | (refine ⟨_, n2, ?_⟩)
           | (refine Or.inl ⟨_, n3, ?_⟩)
           | (refine ⟨_, n3, ?_⟩)
           | (refine Or.inl ⟨_, n4, ?_⟩)
           | (refine ⟨_, n4, ?_⟩)
           | (refine ⟨z1.1, ?_⟩)
           | (refine ⟨z2.1, ?_⟩)
           | (refine ⟨z3.1, ?_⟩)
           | (refine cond_0 b1 ?_)
           | (refine cond_1 b2 ?_)
           | (refine Or.inl ⟨_, m1, ?_⟩)
           | (refine ⟨_, m1, ?_⟩)
           | (refine Or.inl ⟨_, m2, ?_⟩)
           | (refine ⟨_, m2, ?_⟩)
           | (refine Or.inl ⟨_, m3, ?_⟩)
           | (refine ⟨_, m3, ?_⟩)
           | (refine ⟨y1.1, ?_⟩)
           | (refine ⟨y2.1, ?_⟩)
           | (refine ⟨y7.1, ?_⟩)
           | (refine Or.inl ⟨_, m8, ?_⟩)
           | (refine ⟨_, m8, ?_⟩)
           | (refine cond_f ?_ ?_)
           | (refine ⟨_, ⟨by decide, rfl⟩, ?_⟩)
           | (refine cond_i (fun h => ?_) (fun h => ?_)))
  all_goals (conv => whnf)
  all_goals rfl
set_option maxHeartbeats 4000000 in
theorem code_3 (hk : p.kind = 3) (out : ByteArray) (m8 : Fv Try.prog 32 [.str (a ++ b ++ c ++ k)] (.str out)) : Fv Try.prog 11 [.agg p.g] (.str out) := by
  have b1 : (p.kind == 1) = false := by simp [hk]
  have b2 : (p.kind == 2) = false := by simp [hk]
  have b4 : (p.kind == 4) = false := by simp [hk]
  have b5 : (p.kind == 5) = false := by simp [hk]
  have z1 := sz2 s1 s2 (by decide)
  have z2 := sz2 z1.2 s3 (by decide)
  have z3 := sz2 z2.2 s4 (by decide)
  refine Fv.of_awp Try.func11 rfl (by kernel_rfl) rfl (Nat.le_of_ble_eq_true rfl) ?_
  repeat' (conv => whnf
           first
           | (refine And.intro (by kernel_rfl) ?_)
           | (refine And.intro ⟨by kernel_rfl, by kernel_rfl⟩ ?_)
           | (refine Or.inl ⟨_, n1, ?_⟩)
           | (refine ⟨_, n1, ?_⟩)
           | (refine Or.inl ⟨_, n2, ?_⟩)
           | (refine ⟨_, n2, ?_⟩)
           | (refine Or.inl ⟨_, n3, ?_⟩)
           | (refine ⟨_, n3, ?_⟩)
           | (refine Or.inl ⟨_, n4, ?_⟩)
           | (refine ⟨_, n4, ?_⟩)
           | (refine ⟨z1.1, ?_⟩)
           | (refine ⟨z2.1, ?_⟩)
           | (refine ⟨z3.1, ?_⟩)
           | (refine cond_0 b1 ?_)
           | (refine cond_0 b2 ?_)
           | (refine cond_0 b4 ?_)
           | (refine cond_0 b5 ?_)
           | (refine Or.inl ⟨_, m8, ?_⟩)
           | (refine ⟨_, m8, ?_⟩)
           | (refine cond_f ?_ ?_)
           | (refine ⟨_, ⟨by decide, rfl⟩, ?_⟩)
           | (refine cond_i (fun h => ?_) (fun h => ?_)))
  all_goals (conv => whnf)
  all_goals rfl
set_option maxHeartbeats 4000000 in
theorem code_4 (hk : p.kind = 4) (u out : ByteArray) (m1 : Fv Try.prog 27 [.int .i64 p.until, .int .i64 7] (.str u)) (m8 : Fv Try.prog 32 [.str ((a ++ b ++ c ++ k) ++ u)] (.str out)) (t1 : u.size ≤ 7) :
    Fv Try.prog 11 [.agg p.g] (.str out) := by
  have b1 : (p.kind == 1) = false := by simp [hk]
  have b2 : (p.kind == 2) = false := by simp [hk]
  have b4 : (p.kind == 4) = true := by simp [hk]
  have z1 := sz2 s1 s2 (by decide)
  have z2 := sz2 z1.2 s3 (by decide)
  have z3 := sz2 z2.2 s4 (by decide)
  have y1 := sz2 z3.2 t1 (by decide)
  refine Fv.of_awp Try.func11 rfl (by kernel_rfl) rfl (Nat.le_of_ble_eq_true rfl) ?_
  repeat' (conv => whnf
           first
           | (refine And.intro (by kernel_rfl) ?_)
           | (refine And.intro ⟨by kernel_rfl, by kernel_rfl⟩ ?_)
           | (refine Or.inl ⟨_, n1, ?_⟩)
           | (refine ⟨_, n1, ?_⟩)
           | (refine Or.inl ⟨_, n2, ?_⟩)
           | (refine ⟨_, n2, ?_⟩)
           | (refine Or.inl ⟨_, n3, ?_⟩)
           | (refine ⟨_, n3, ?_⟩)
           | (refine Or.inl ⟨_, n4, ?_⟩)
           | (refine ⟨_, n4, ?_⟩)
           | (refine ⟨z1.1, ?_⟩)
           | (refine ⟨z2.1, ?_⟩)
           | (refine ⟨z3.1, ?_⟩)
           | (refine cond_0 b1 ?_)
           | (refine cond_0 b2 ?_)
           | (refine cond_1 b4 ?_)
           | (refine Or.inl ⟨_, m1, ?_⟩)
           | (refine ⟨_, m1, ?_⟩)
           | (refine ⟨y1.1, ?_⟩)
           | (refine Or.inl ⟨_, m8, ?_⟩)
           | (refine ⟨_, m8, ?_⟩)
           | (refine cond_f ?_ ?_)
           | (refine ⟨_, ⟨by decide, rfl⟩, ?_⟩)
           | (refine cond_i (fun h => ?_) (fun h => ?_)))
  all_goals (conv => whnf)
  all_goals rfl
set_option maxHeartbeats 4000000 in
theorem code_5 (hk : p.kind = 5) (u out : ByteArray) (m1 : Fv Try.prog 27 [.int .i64 (IntKind.i64.wrap (p.delay + 1)), .int .i64 7] (.str u)) (m8 : Fv Try.prog 32 [.str ((a ++ b ++ c ++ k) ++ u)] (.str out)) (t1 : u.size ≤ 7) :
    Fv Try.prog 11 [.agg p.g] (.str out) := by
  have b1 : (p.kind == 1) = false := by simp [hk]
  have b2 : (p.kind == 2) = false := by simp [hk]
  have b4 : (p.kind == 4) = false := by simp [hk]
  have b5 : (p.kind == 5) = true := by simp [hk]
  have z1 := sz2 s1 s2 (by decide)
  have z2 := sz2 z1.2 s3 (by decide)
  have z3 := sz2 z2.2 s4 (by decide)
  have y1 := sz2 z3.2 t1 (by decide)
  refine Fv.of_awp Try.func11 rfl (by kernel_rfl) rfl (Nat.le_of_ble_eq_true rfl) ?_
  repeat' (conv => whnf
           first
           | (refine And.intro (by kernel_rfl) ?_)
           | (refine And.intro ⟨by kernel_rfl, by kernel_rfl⟩ ?_)
           | (refine Or.inl ⟨_, n1, ?_⟩)
           | (refine ⟨_, n1, ?_⟩)
           | (refine Or.inl ⟨_, n2, ?_⟩)
           | (refine ⟨_, n2, ?_⟩)
           | (refine Or.inl ⟨_, n3, ?_⟩)
           | (refine ⟨_, n3, ?_⟩)
           | (refine Or.inl ⟨_, n4, ?_⟩)
           | (refine ⟨_, n4, ?_⟩)
           | (refine ⟨z1.1, ?_⟩)
           | (refine ⟨z2.1, ?_⟩)
           | (refine ⟨z3.1, ?_⟩)
           | (refine cond_0 b1 ?_)
           | (refine cond_0 b2 ?_)
           | (refine cond_0 b4 ?_)
           | (refine cond_1 b5 ?_)
           | (refine Or.inl ⟨_, m1, ?_⟩)
           | (refine ⟨_, m1, ?_⟩)
           | (refine ⟨y1.1, ?_⟩)
           | (refine Or.inl ⟨_, m8, ?_⟩)
           | (refine ⟨_, m8, ?_⟩)
           | (refine cond_f ?_ ?_)
           | (refine ⟨_, ⟨by decide, rfl⟩, ?_⟩)
           | (refine cond_i (fun h => ?_) (fun h => ?_)))
  all_goals (conv => whnf)
  all_goals rfl
end
end Go.Proofs.Ytfpincfmcjiokaa.Cn
