
/- Contracts: a packet's bytes, the document's too. No condition but that it may be. -/
import Derived.Test.YtfpincfmcjiokaaCn80
namespace Go.Proofs.Ytfpincfmcjiokaa.Cn
open Go Go.Proofs Go.Proofs.Ytfpincfmcjiokaa.Av Go.Proofs.Ytfpincfmcjiokaa.Sp
set_option linter.unusedVariables false
set_option linter.unusedSimpArgs false
set_option linter.unusedSectionVars false
set_option maxRecDepth 100000
attribute [local irreducible] Fv Fp

section
variable (p : Packet) (a b c k : ByteArray) (n1 : Fv Try.prog 42 [.int .i64 p.kind, .int .i64 1] (.str a)) (n2 : Fv Try.prog 42 [.int .i64 p.from, .int .i64 1] (.str b))
  (n3 : Fv Try.prog 42 [.int .i64 p.to, .int .i64 1] (.str c)) (n4 : Fv Try.prog 43 [.agg p.key.g] (.str k))
  (s1 : a.size ≤ 7) (s2 : b.size ≤ 7) (s3 : c.size ≤ 7) (s4 : k.size ≤ 28)
include n1 n2 n3 n4 s1 s2 s3 s4
set_option maxHeartbeats 4000000 in
theorem rcode_1 (hk : p.kind = 1) (h s t u g i q out : ByteArray) (m1 : Fv Try.prog 42 [.int .i64 p.hop, .int .i64 1] (.str h)) (m2 : Fv Try.prog 42 [.int .i64 p.stamp, .int .i64 7] (.str s))
    (m3 : Fv Try.prog 44 [.str p.timeout] (.str t)) (m4 : Fv Try.prog 42 [.int .i64 p.until, .int .i64 7] (.str u)) (m5 : Fv Try.prog 42 [.int .i64 p.program, .int .i64 1] (.str g))
    (m6 : Fv Try.prog 45 [.agg p.root.g] (.str i)) (m7 : Fv Try.prog 43 [.agg p.parent.g] (.str q))
    (m8 : Fv Try.prog 14 [.str (a ++ b ++ c ++ k ++ h ++ s ++ t ++ u ++ g ++ i ++ q)] (.str out))
    (t1 : h.size ≤ 7) (t2 : s.size ≤ 7) (t3 : t.size ≤ 263) (t4 : u.size ≤ 7) (t5 : g.size ≤ 7) (t6 : i.size ≤ 21) (t7 : q.size ≤ 28) :
    Fv Try.prog 13 [.agg p.g] (.str out) := by
  have b1 : (p.kind == 1) = true := by simp [hk]
  have b2 : (p.kind == 2) = false := by simp [hk]
  have b4 : (p.kind == 4) = false := by simp [hk]
  have b5 : (p.kind == 5) = false := by simp [hk]
  have z1 := sz2 s1 s2 (by decide)
  have z2 := sz2 z1.2 s3 (by decide)
  have z3 := sz2 z2.2 s4 (by decide)
  have y1 := sz2 z3.2 t1 (by decide)
  have y2 := sz2 y1.2 t2 (by decide)
  have y3 := sz2 y2.2 t3 (by decide)
  have y4 := sz2 y3.2 t4 (by decide)
  have y5 := sz2 y4.2 t5 (by decide)
  have y6 := sz2 y5.2 t6 (by decide)
  have y7 := sz2 y6.2 t7 (by decide)
  refine Fv.of_awp Try.func13 rfl (by kernel_rfl) rfl (Nat.le_of_ble_eq_true rfl) ?_
  repeat' (conv => whnf
           first
           | (refine And.intro (by kernel_rfl) ?_)
           | (refine And.intro ⟨by kernel_rfl, by kernel_rfl⟩ ?_)
           | (refine Or.inl ⟨_, n1, ?_⟩)
           | (refine ⟨_, n1, ?_⟩)
           | (refine Or.inl ⟨_, n2, ?_⟩)
           | (refine ⟨_, n2, ?_⟩)
           | (refine Or.inl ⟨_, n3, ?_⟩)
           | (refine ⟨_, n3, ?_⟩)
           | (refine Or.inl ⟨_, n4, ?_⟩)
           | (refine ⟨_, n4, ?_⟩)
           | (refine ⟨z1.1, ?_⟩)
           | (refine ⟨z2.1, ?_⟩)
           | (refine ⟨z3.1, ?_⟩)
           | (refine cond_1 b1 ?_)
           | (refine cond_0 b2 ?_)
           | (refine cond_0 b4 ?_)
           | (refine cond_0 b5 ?_)
           | (refine Or.inl ⟨_, m1, ?_⟩)
           | (refine ⟨_, m1, ?_⟩)
           | (refine Or.inl ⟨_, m2, ?_⟩)
           | (refine ⟨_, m2, ?_⟩)
           | (refine Or.inl ⟨_, m3, ?_⟩)
           | (refine ⟨_, m3, ?_⟩)
           | (refine Or.inl ⟨_, m4, ?_⟩)
           | (refine ⟨_, m4, ?_⟩)
           | (refine Or.inl ⟨_, m5, ?_⟩)
           | (refine ⟨_, m5, ?_⟩)
           | (refine Or.inl ⟨_, m6, ?_⟩)
           | (refine ⟨_, m6, ?_⟩)
           | (refine Or.inl ⟨_, m7, ?_⟩)
           | (refine ⟨_, m7, ?_⟩)
           | (refine ⟨y1.1, ?_⟩)
           | (refine ⟨y2.1, ?_⟩)
           | (refine ⟨y3.1, ?_⟩)
           | (refine ⟨y4.1, ?_⟩)
           | (refine ⟨y5.1, ?_⟩)
           | (refine ⟨y6.1, ?_⟩)
           | (refine ⟨y7.1, ?_⟩)
           | (refine Or.inl ⟨_, m8, ?_⟩)
           | (refine ⟨_, m8, ?_⟩)
           | (refine cond_f ?_ ?_)
           | (refine ⟨_, ⟨by decide, rfl⟩, ?_⟩)
           | (refine cond_i (fun h => ?_) (fun h => ?_)))
  all_goals (conv => whnf)
  all_goals rfl
set_option maxHeartbeats 4000000 in
theorem rcode_2 (hk : p.kind = 2) (h s t out : ByteArray) (m1 : Fv Try.prog 42 [.int .i64 p.code, .int .i64 1] (.str h)) (m2 : Fv Try.prog 42 [.int .i64 p.value, .int .i64 4] (.str s))
    (m3 : Fv Try.prog 46 [.bool p.more] (.str t)) (m8 : Fv Try.prog 14 [.str (a ++ b ++ c ++ k ++ h ++ s ++ t)] (.str out))
    (t1 : h.size ≤ 7) (t2 : s.size ≤ 7) (t3 : t.size ≤ 1) : Fv Try.prog 13 [.agg p.g] (.str out) := by
  have b1 : (p.kind == 1) = false := by simp [hk]
  have b2 : (p.kind == 2) = true := by simp [hk]
  have b4 : (p.kind == 4) = false := by simp [hk]
  have b5 : (p.kind == 5) = false := by simp [hk]
  have z1 := sz2 s1 s2 (by decide)
  have z2 := sz2 z1.2 s3 (by decide)
  have z3 := sz2 z2.2 s4 (by decide)
  have y1 := sz2 z3.2 t1 (by decide)
  have y2 := sz2 y1.2 t2 (by decide)
  have y7 := sz2 y2.2 t3 (by decide)
  refine Fv.of_awp Try.func13 rfl (by kernel_rfl) rfl (Nat.le_of_ble_eq_true rfl) ?_
  repeat' (conv => whnf
           first
           | (refine And.intro (by kernel_rfl) ?_)
           | (refine And.intro ⟨by kernel_rfl, by kernel_rfl⟩ ?_)
           | (refine Or.inl ⟨_, n1, ?_⟩)
           | (refine ⟨_, n1, ?_⟩)
           | (refine Or.inl ⟨_, n2, ?_⟩)
           | (refine ⟨_, n2, ?_⟩)
           | (refine Or.inl ⟨_, n3, ?_⟩)
           | (refine ⟨_, n3, ?_⟩)
           | (refine Or.inl ⟨_, n4, ?_⟩)
           | (refine ⟨_, n4, ?_⟩)
           | (refine ⟨z1.1, ?_⟩)
           | (refine ⟨z2.1, ?_⟩)
           | (refine ⟨z3.1, ?_⟩)
           | (refine cond_0 b1 ?_)
           | (refine cond_1 b2 ?_)
           | (refine cond_0 b4 ?_)
           | (refine cond_0 b5 ?_)
           | (refine Or.inl ⟨_, m1, ?_⟩)
           | (refine ⟨_, m1, ?_⟩)
           | (refine Or.inl ⟨_, m2, ?_⟩)
           | (refine ⟨_, m2, ?_⟩)
           | (refine Or.inl ⟨_, m3, ?_⟩)
           | (refine ⟨_, m3, ?_⟩)
           | (refine ⟨y1.1, ?_⟩)
           | (refine ⟨y2.1, ?_⟩)
           | (refine ⟨y7.1, ?_⟩)
           | (refine Or.inl ⟨_, m8, ?_⟩)
           | (refine ⟨_, m8, ?_⟩)
           | (refine cond_f ?_ ?_)
           | (refine ⟨_, ⟨by decide, rfl⟩, ?_⟩)
           | (refine cond_i (fun h => ?_) (fun h => ?_)))
  all_goals (conv => whnf)
  all_goals rfl
set_option maxHeartbeats 4000000 in
theorem rcode_3 (hk : p.kind = 3) (out : ByteArray) (m8 : Fv Try.prog 14 [.str (a ++ b ++ c ++ k)] (.str out)) : Fv Try.prog 13 [.agg p.g] (.str out) := by
  have b1 : (p.kind == 1) = false := by simp [hk]
  have b2 : (p.kind == 2) = false := by simp [hk]
  have b4 : (p.kind == 4) = false := by simp [hk]
  have b5 : (p.kind == 5) = false := by simp [hk]
  have z1 := sz2 s1 s2 (by decide)
  have z2 := sz2 z1.2 s3 (by decide)
  have z3 := sz2 z2.2 s4 (by decide)
  refine Fv.of_awp Try.func13 rfl (by kernel_rfl) rfl (Nat.le_of_ble_eq_true rfl) ?_
  repeat' (conv => whnf
           first
           | (refine And.intro (by kernel_rfl) ?_)
           | (refine And.intro ⟨by kernel_rfl, by kernel_rfl⟩ ?_)
           | (refine Or.inl ⟨_, n1, ?_⟩)
           | (refine ⟨_, n1, ?_⟩)
           | (refine Or.inl ⟨_, n2, ?_⟩)
           | (refine ⟨_, n2, ?_⟩)
           | (refine Or.inl ⟨_, n3, ?_⟩)
           | (refine ⟨_, n3, ?_⟩)
           | (refine Or.inl ⟨_, n4, ?_⟩)
           | (refine ⟨_, n4, ?_⟩)
           | (refine ⟨z1.1, ?_⟩)
           | (refine ⟨z2.1, ?_⟩)
           | (refine ⟨z3.1, ?_⟩)
           | (refine cond_0 b1 ?_)
           | (refine cond_0 b2 ?_)
           | (refine cond_0 b4 ?_)
           | (refine cond_0 b5 ?_)
           | (refine Or.inl ⟨_, m8, ?_⟩)
           | (refine ⟨_, m8, ?_⟩)
           | (refine cond_f ?_ ?_)
           | (refine ⟨_, ⟨by decide, rfl⟩, ?_⟩)
           | (refine cond_i (fun h => ?_) (fun h => ?_)))
  all_goals (conv => whnf)
  all_goals rfl
set_option maxHeartbeats 4000000 in
theorem rcode_4 (hk : p.kind = 4) (u out : ByteArray) (m1 : Fv Try.prog 42 [.int .i64 p.until, .int .i64 7] (.str u)) (m8 : Fv Try.prog 14 [.str (a ++ b ++ c ++ k ++ u)] (.str out)) (t1 : u.size ≤ 7) :
    Fv Try.prog 13 [.agg p.g] (.str out) := by
  have b1 : (p.kind == 1) = false := by simp [hk]
  have b2 : (p.kind == 2) = false := by simp [hk]
  have b4 : (p.kind == 4) = true := by simp [hk]
  have b5 : (p.kind == 5) = false := by simp [hk]
  have z1 := sz2 s1 s2 (by decide)
  have z2 := sz2 z1.2 s3 (by decide)
  have z3 := sz2 z2.2 s4 (by decide)
  have y1 := sz2 z3.2 t1 (by decide)
  refine Fv.of_awp Try.func13 rfl (by kernel_rfl) rfl (Nat.le_of_ble_eq_true rfl) ?_
  repeat' (conv => whnf
           first
           | (refine And.intro (by kernel_rfl) ?_)
           | (refine And.intro ⟨by kernel_rfl, by kernel_rfl⟩ ?_)
           | (refine Or.inl ⟨_, n1, ?_⟩)
           | (refine ⟨_, n1, ?_⟩)
           | (refine Or.inl ⟨_, n2, ?_⟩)
           | (refine ⟨_, n2, ?_⟩)
           | (refine Or.inl ⟨_, n3, ?_⟩)
           | (refine ⟨_, n3, ?_⟩)
           | (refine Or.inl ⟨_, n4, ?_⟩)
           | (refine ⟨_, n4, ?_⟩)
           | (refine ⟨z1.1, ?_⟩)
           | (refine ⟨z2.1, ?_⟩)
           | (refine ⟨z3.1, ?_⟩)
           | (refine cond_0 b1 ?_)
           | (refine cond_0 b2 ?_)
           | (refine cond_1 b4 ?_)
           | (refine cond_0 b5 ?_)
           | (refine Or.inl ⟨_, m1, ?_⟩)
           | (refine ⟨_, m1, ?_⟩)
           | (refine ⟨y1.1, ?_⟩)
           | (refine Or.inl ⟨_, m8, ?_⟩)
           | (refine ⟨_, m8, ?_⟩)
           | (refine cond_f ?_ ?_)
           | (refine ⟨_, ⟨by decide, rfl⟩, ?_⟩)
           | (refine cond_i (fun h => ?_) (fun h => ?_)))
  all_goals (conv => whnf)
  all_goals rfl
set_option maxHeartbeats 4000000 in
theorem rcode_5 (hk : p.kind = 5) (u out : ByteArray) (m1 : Fv Try.prog 42 [.int .i64 (IntKind.i64.wrap (p.delay + 1)), .int .i64 7] (.str u)) (m8 : Fv Try.prog 14 [.str (a ++ b ++ c ++ k ++ u)] (.str out)) (t1 : u.size ≤ 7) :
    Fv Try.prog 13 [.agg p.g] (.str out) := by
  have b1 : (p.kind == 1) = false := by simp [hk]
  have b2 : (p.kind == 2) = false := by simp [hk]
  have b4 : (p.kind == 4) = false := by simp [hk]
  have b5 : (p.kind == 5) = true := by simp [hk]
  have z1 := sz2 s1 s2 (by decide)
  have z2 := sz2 z1.2 s3 (by decide)
  have z3 := sz2 z2.2 s4 (by decide)
  have y1 := sz2 z3.2 t1 (by decide)
  refine Fv.of_awp Try.func13 rfl (by kernel_rfl) rfl (Nat.le_of_ble_eq_true rfl) ?_
  repeat' (conv => whnf
           first
           | (refine And.intro (by kernel_rfl) ?_)
           | (refine And.intro ⟨by kernel_rfl, by kernel_rfl⟩ ?_)
           | (refine Or.inl ⟨_, n1, ?_⟩)
           | (refine ⟨_, n1, ?_⟩)
           | (refine Or.inl ⟨_, n2, ?_⟩)
           | (refine ⟨_, n2, ?_⟩)
           | (refine Or.inl ⟨_, n3, ?_⟩)
           | (refine ⟨_, n3, ?_⟩)
           | (refine Or.inl ⟨_, n4, ?_⟩)
           | (refine ⟨_, n4, ?_⟩)
           | (refine ⟨z1.1, ?_⟩)
           | (refine ⟨z2.1, ?_⟩)
           | (refine ⟨z3.1, ?_⟩)
           | (refine cond_0 b1 ?_)
           | (refine cond_0 b2 ?_)
           | (refine cond_0 b4 ?_)
           | (refine cond_1 b5 ?_)
           | (refine Or.inl ⟨_, m1, ?_⟩)
           | (refine ⟨_, m1, ?_⟩)
           | (refine ⟨y1.1, ?_⟩)
           | (refine Or.inl ⟨_, m8, ?_⟩)
           | (refine ⟨_, m8, ?_⟩)
           | (refine cond_f ?_ ?_)
           | (refine ⟨_, ⟨by decide, rfl⟩, ?_⟩)
           | (refine cond_i (fun h => ?_) (fun h => ?_)))
  all_goals (conv => whnf)
  all_goals rfl
end
theorem head_sum (p : Packet) : headB p = numB p.kind 1 ++ numB p.from 1 ++ numB p.to 1 ++ keyB p.key := rfl
theorem seal_s (s : ByteArray) (n : Nat) (hs : s.size ≤ n) (hn : n ≤ 100000) : s.size < 4611686018427387904 := by omega
theorem head_le (p : Packet) : (headB p).size ≤ 49 := by
  have s1 := numB_le p.kind 1
  have s2 := numB_le p.from 1
  have s3 := numB_le p.to 1
  have s4 := keyB_le p.key
  unfold headB; simp only [ByteArray.size_append]; omega
theorem tail_le (p : Packet) (h : okP p = true) : (tailB p).size ≤ 1000 := by
  have q1 := numB_le p.hop 1
  have q2 := numB_le p.stamp 7
  have q4 := numB_le p.until 7
  have q5 := numB_le p.program 1
  have q6 := idB_le p.root
  have q7 := keyB_le p.parent
  have q8 := numB_le p.code 1
  have q9 := numB_le p.value 4
  have q10 := flagB_le p.more
  have q11 := numB_le (p.delay + 1) 7
  unfold tailB
  split
  · rename_i k
    have hk : okCall p = true := by
      unfold okP okKind at h
      rw [Bool.and_eq_true, if_pos k] at h
      exact h.2
    have q3 := textB_le p.timeout (dec_size ((okCall_iff p).1 hk).1.1)
    simp only [ByteArray.size_append]; omega
  · (repeat' split) <;> (try simp only [ByteArray.size_append]) <;> first | omega | (show 0 ≤ 1000; omega)
theorem code_le (p : Packet) (h : okP p = true) : (headB p ++ tailB p).size ≤ 1049 := by
  have := head_le p
  have := tail_le p h
  rw [ByteArray.size_append]; omega
theorem packet_Code (p : Packet) (h : okP p = true) : Fv Try.prog 11 [.agg p.g] (.str (codeP p)) := by
  have n1 := bytes_Num p.kind 1
  have n2 := bytes_Num p.from 1
  have n3 := bytes_Num p.to 1
  have n4 := ident_KeyCode p.key
  have s1 := numB_le p.kind 1
  have s2 := numB_le p.from 1
  have s3 := numB_le p.to 1
  have s4 := keyB_le p.key
  have hs := crc_Seal (headB p ++ tailB p) (by have := code_le p h; omega)
  have ok2 := h
  unfold okP at ok2
  rw [Bool.and_eq_true] at ok2
  have hk := ok2.2
  unfold okKind at hk
  have he : headB p = numB p.kind 1 ++ numB p.from 1 ++ numB p.to 1 ++ keyB p.key := rfl
  unfold codeP
  rcases kinds ok2.2 with k | k | k | k | k
  · rw [if_pos k] at hk
    have hd := dec_size ((okCall_iff p).1 hk).1.1
    refine code_1 p _ _ _ _ n1 n2 n3 n4 s1 s2 s3 s4 k _ _ _ _ _ _ _ _ (bytes_Num _ _) (bytes_Num _ _) (bytes_Text _ hd) (bytes_Num _ _) (bytes_Num _ _) (ident_Code _) (ident_KeyCode _) ?_ (numB_le _ _) (numB_le _ _) (textB_le _ hd) (numB_le _ _) (numB_le _ _) (idB_le _) (keyB_le _)
    have e : tailB p = numB p.hop 1 ++ numB p.stamp 7 ++ textB p.timeout ++ numB p.until 7 ++ numB p.program 1 ++ idB p.root ++ keyB p.parent := by unfold tailB; rw [if_pos k]
    rw [he, e] at hs ⊢
    exact hs
  · refine code_2 p _ _ _ _ n1 n2 n3 n4 s1 s2 s3 s4 k _ _ _ _ (bytes_Num _ _) (bytes_Num _ _) (bytes_Flag _) ?_ (numB_le _ _) (numB_le _ _) (flagB_le _)
    have e : tailB p = numB p.code 1 ++ numB p.value 4 ++ flagB p.more := by unfold tailB; rw [if_neg (by omega), if_pos k]
    rw [he, e] at hs ⊢
    exact hs
  · refine code_3 p _ _ _ _ n1 n2 n3 n4 s1 s2 s3 s4 k _ ?_
    have e : tailB p = ⟨#[]⟩ := by unfold tailB; rw [if_neg (by omega), if_neg (by omega), if_neg (by omega), if_neg (by omega)]
    have e2 : headB p ++ (⟨#[]⟩ : ByteArray) = headB p := ext_list (by rw [app_list]; exact List.append_nil _)
    rw [e, e2] at hs ⊢
    exact hs
  · refine code_4 p _ _ _ _ n1 n2 n3 n4 s1 s2 s3 s4 k _ _ (bytes_Num _ _) ?_ (numB_le _ _)
    have e : tailB p = numB p.until 7 := by unfold tailB; rw [if_neg (by omega), if_neg (by omega), if_pos k]
    rw [he, e] at hs ⊢
    exact hs
  · have hw : -1 ≤ p.delay ∧ p.delay ≤ 1125899906842624 := by rw [if_neg (by omega), if_neg (by omega), if_neg (by omega), if_neg (by omega), if_pos k] at hk; simpa using hk
    refine code_5 p _ _ _ _ n1 n2 n3 n4 s1 s2 s3 s4 k _ _ (bytes_Num _ _) ?_ (numB_le _ _)
    have e : tailB p = numB (p.delay + 1) 7 := by unfold tailB; rw [if_neg (by omega), if_neg (by omega), if_neg (by omega), if_pos k]
    rw [wrap_i64 ⟨by omega, by omega⟩]
    rw [he, e] at hs ⊢
    exact hs
theorem key_bd {k : Key} (h : okKey k = true) : k.id.node ≤ 9223372036854775807 ∧ k.id.inc ≤ 9223372036854775807 ∧ k.id.seq ≤ 9223372036854775807 ∧ k.att ≤ 9223372036854775807 := by
  obtain ⟨h1, h2, h3⟩ := (okKey_iff k).1 h
  have := (okId_iff _).1 h1
  omega
theorem ref08_Code (p : Packet) (h : okP p = true) : Fv Try.prog 13 [.agg p.g] (.str (codeP p)) := by
  have ok2 := h
  unfold okP at ok2
  rw [Bool.and_eq_true, okHead_iff] at ok2
  obtain ⟨⟨⟨f1, f2, f3, f4⟩, f5, f6, f7⟩, hk⟩ := ok2
  have hks := kinds hk
  have n1 := ref04_Num p.kind 1 (by omega)
  have n2 := ref04_Num p.from 1 (by omega)
  have n3 := ref04_Num p.to 1 (by omega)
  have n4 := ref07_KeyCode p.key (key_bd f5)
  have s1 := numB_le p.kind 1
  have s2 := numB_le p.from 1
  have s3 := numB_le p.to 1
  have s4 := keyB_le p.key
  have hs := ref03_Seal (headB p ++ tailB p) (by have := code_le p h; omega)
  unfold okKind at hk
  have he : headB p = numB p.kind 1 ++ numB p.from 1 ++ numB p.to 1 ++ keyB p.key := rfl
  unfold codeP
  rcases hks with k | k | k | k | k
  · rw [if_pos k] at hk
    obtain ⟨⟨d1, d2, d3, d4, d5⟩, ⟨d6, d7⟩, ⟨d8, d9⟩, d10, d11⟩ := (okCall_iff p).1 hk
    have hd := dec_size d1
    have d12 := (okId_iff _).1 d10
    refine rcode_1 p _ _ _ _ n1 n2 n3 n4 s1 s2 s3 s4 k _ _ _ _ _ _ _ _ (ref04_Num _ _ (by omega)) (ref04_Num _ _ (by omega)) (ref04_Text _ hd) (ref04_Num _ _ (by omega)) (ref04_Num _ _ (by omega)) (ref07_Code _ (by omega)) (ref07_KeyCode _ (key_bd d11)) ?_ (numB_le _ _) (numB_le _ _) (textB_le _ hd) (numB_le _ _) (numB_le _ _) (idB_le _) (keyB_le _)
    have e : tailB p = numB p.hop 1 ++ numB p.stamp 7 ++ textB p.timeout ++ numB p.until 7 ++ numB p.program 1 ++ idB p.root ++ keyB p.parent := by unfold tailB; rw [if_pos k]
    rw [he, e] at hs ⊢
    simp only [← ByteArray.append_assoc] at hs ⊢
    exact hs
  · rw [if_neg (by omega), if_pos k, Bool.and_eq_true, decide_eq_true_eq] at hk
    obtain ⟨c1, c2, c3, _⟩ := hk
    have c1 := (right_iff _).1 c1
    refine rcode_2 p _ _ _ _ n1 n2 n3 n4 s1 s2 s3 s4 k _ _ _ _ (ref04_Num _ _ (by omega)) (ref04_Num _ _ (by omega)) (ref08_flag _) ?_ (numB_le _ _) (numB_le _ _) (flagB_le _)
    have e : tailB p = numB p.code 1 ++ numB p.value 4 ++ flagB p.more := by unfold tailB; rw [if_neg (by omega), if_pos k]
    rw [he, e] at hs ⊢
    simp only [← ByteArray.append_assoc] at hs ⊢
    exact hs
  · refine rcode_3 p _ _ _ _ n1 n2 n3 n4 s1 s2 s3 s4 k _ ?_
    have e : tailB p = ⟨#[]⟩ := by unfold tailB; rw [if_neg (by omega), if_neg (by omega), if_neg (by omega), if_neg (by omega)]
    have e2 : headB p ++ (⟨#[]⟩ : ByteArray) = headB p := ext_list (by rw [app_list]; exact List.append_nil _)
    rw [e, e2] at hs ⊢
    exact hs
  · rw [if_neg (by omega), if_neg (by omega), if_neg (by omega), if_pos k] at hk
    have hk := (tickI_iff _).1 hk
    refine rcode_4 p _ _ _ _ n1 n2 n3 n4 s1 s2 s3 s4 k _ _ (ref04_Num _ _ (by omega)) ?_ (numB_le _ _)
    have e : tailB p = numB p.until 7 := by unfold tailB; rw [if_neg (by omega), if_neg (by omega), if_pos k]
    rw [he, e] at hs ⊢
    exact hs
  · have hw : -1 ≤ p.delay ∧ p.delay ≤ 1125899906842624 := by rw [if_neg (by omega), if_neg (by omega), if_neg (by omega), if_neg (by omega), if_pos k] at hk; simpa using hk
    have hw2 : IntKind.i64.wrap (p.delay + 1) = p.delay + 1 := wrap_i64 ⟨by omega, by omega⟩
    refine rcode_5 p _ _ _ _ n1 n2 n3 n4 s1 s2 s3 s4 k _ _ (ref04_Num _ _ (by rw [hw2]; omega)) ?_ (numB_le _ _)
    have e : tailB p = numB (p.delay + 1) 7 := by unfold tailB; rw [if_neg (by omega), if_neg (by omega), if_neg (by omega), if_pos k]
    rw [hw2]
    rw [he, e] at hs ⊢
    exact hs
end Go.Proofs.Ytfpincfmcjiokaa.Cn
