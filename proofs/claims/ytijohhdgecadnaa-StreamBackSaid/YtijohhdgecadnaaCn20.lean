
/- Contracts of the program's reader of bytes. No condition but that it is within its bytes. -/
import Derived.Test.YtijohhdgecadnaaCn0
import Derived.Test.YtijohhdgecadnaaSp1
import Derived.Test.YtijohhdgecadnaaProg
import Derived.KernelRfl
import Derived.Test.YtijohhdgecadnaaSp7
import Derived.Test.YtijohhdgecadnaaAv16
namespace Go.Proofs.Ytijohhdgecadnaa.Cn
open Go Go.Proofs Go.Proofs.Ytijohhdgecadnaa.Av Go.Proofs.Ytijohhdgecadnaa.Sp
set_option linter.unusedVariables false
set_option linter.unusedSimpArgs false
set_option maxRecDepth 100000
attribute [local irreducible] Fv Fp

theorem pr_Fail (r : Rd) (e : Int) : Fp Try.prog 29 [.ptr 0 0, .int .i64 e] [r.gp] [] (.tup [], [some (rFail r e).gp], []) := by
  refine Fp.of_awp Try.func29 rfl (by kernel_rfl) (Nat.le_of_ble_eq_true rfl) ?_
  unfold rFail
  repeat' (conv => whnf
           first
           | (refine And.intro (by kernel_rfl) ?_)
           | (refine And.intro ⟨by kernel_rfl, by kernel_rfl⟩ ?_)
           | (refine cond_f ?_ ?_)
           | (refine ⟨_, ⟨by decide, rfl⟩, ?_⟩)
           | (refine cond_i (fun h => ?_) (fun h => ?_)))
  all_goals (conv => whnf)
  · rw [if_pos (by simpa using h)]; rfl
  · rw [if_neg (by simpa using h)]; rfl
theorem pr_Left (r : Rd) (h : r.ok) : Fp Try.prog 22 [.ptr 0 0] [r.gp] [] (.int .i64 (rLeft r), [some r.gp], []) := by
  refine Fp.of_awp Try.func22 rfl (by kernel_rfl) (Nat.le_of_ble_eq_true rfl) ?_
  have hp := r.p_size h
  unfold rLeft
  repeat' (conv => whnf
           first
           | (refine And.intro (by kernel_rfl) ?_)
           | (refine And.intro ⟨by kernel_rfl, by kernel_rfl⟩ ?_)
           | (refine cond_f ?_ ?_)
           | (refine ⟨_, ⟨by decide, rfl⟩, ?_⟩)
           | (refine cond_i (fun h => ?_) (fun h => ?_)))
  all_goals (conv => whnf)
  · rw [if_neg (by simpa using h)]; rfl
  · rw [if_pos (by simpa using h), ← hp]; rfl
theorem take_bad (s : ByteArray) (b n : Int) (h : b ≠ 0) : Fp Try.prog 54 [.ptr 0 0, .int .i64 n] [[.str s, .int .i64 b]] [] (.tup [.str ⟨#[]⟩, .bool false], [some [.str s, .int .i64 b]], []) := by
  refine Fp.of_awp Try.func54 rfl (by kernel_rfl) (Nat.le_of_ble_eq_true rfl) ?_
  have b1 : (b != 0) = true := by simpa using h
  repeat' (conv => whnf
           first
           | (refine And.intro (by kernel_rfl) ?_)
           | (refine And.intro ⟨by kernel_rfl, by kernel_rfl⟩ ?_)
           | (refine cond_1 b1 ?_)
           | (refine cond_f ?_ ?_)
           | (refine ⟨_, ⟨by decide, rfl⟩, ?_⟩)
           | (refine cond_i (fun h => ?_) (fun h => ?_)))
  all_goals (conv => whnf)
  all_goals rfl
theorem take_long (s : ByteArray) (n : Int) (h : n > s.size) : Fp Try.prog 54 [.ptr 0 0, .int .i64 n] [[.str s, .int .i64 0]] [] (.tup [.str ⟨#[]⟩, .bool false], [some [.str s, .int .i64 3]], []) := by
  refine Fp.of_awp Try.func54 rfl (by kernel_rfl) (Nat.le_of_ble_eq_true rfl) ?_
  have b1 : decide (n > (s.size : Int)) = true := by simpa using h
  repeat' (conv => whnf
           first
           | (refine And.intro (by kernel_rfl) ?_)
           | (refine And.intro ⟨by kernel_rfl, by kernel_rfl⟩ ?_)
           | (refine cond_1 b1 ?_)
           | (refine cond_f ?_ ?_)
           | (refine ⟨_, ⟨by decide, rfl⟩, ?_⟩)
           | (refine cond_i (fun h => ?_) (fun h => ?_)))
  all_goals (conv => whnf)
  all_goals rfl
set_option maxHeartbeats 1000000 in
theorem take_ok (s : ByteArray) (n : Nat) (h : n ≤ s.size) : Fp Try.prog 54 [.ptr 0 0, .int .i64 (n : Int)] [[.str s, .int .i64 0]] [] (.tup [.str (s.extract 0 n), .bool true], [some [.str (s.extract n s.size), .int .i64 0]], []) := by
  refine Fp.of_awp Try.func54 rfl (by kernel_rfl) (Nat.le_of_ble_eq_true rfl) ?_
  have b1 : decide ((n : Int) > (s.size : Int)) = false := by simpa using h
  have f1 : (0 : Int) ≤ ((0 : Nat) : Int) ∧ ((0 : Nat) : Int) ≤ (n : Int) ∧ (n : Int) ≤ (s.size : Int) := ⟨by omega, by omega, by omega⟩
  have f2 : (0 : Int) ≤ (n : Int) ∧ (n : Int) ≤ (s.size : Int) ∧ (s.size : Int) ≤ (s.size : Int) := ⟨by omega, by omega, by omega⟩
  repeat' (conv => whnf
           first
           | (refine And.intro (by kernel_rfl) ?_)
           | (refine And.intro ⟨by kernel_rfl, by kernel_rfl⟩ ?_)
           | (refine cond_0 b1 ?_)
           | (refine ⟨f1, ?_⟩)
           | (refine ⟨f2, ?_⟩)
           | (refine cond_f ?_ ?_)
           | (refine ⟨_, ⟨by decide, rfl⟩, ?_⟩)
           | (refine cond_i (fun h => ?_) (fun h => ?_)))
  all_goals (conv => whnf)
  all_goals rfl
theorem pr_take (r : Rd) (n : Int) (h : r.ok) (hn : 0 ≤ n) : Fp Try.prog 54 [.ptr 0 0, .int .i64 n] [r.gp] [] (.tup [.str (rTake r n).2, .bool (decide (r.bad = 0 ∧ ¬ n > (r.S.size : Int) - r.at'))], [some (rTake r n).1.gp], []) := by
  have hp := r.p_size h
  have h' : r.at' ≤ r.S.size := h
  unfold rTake
  by_cases hb : r.bad = 0
  · rw [if_neg (by simpa using hb)]
    by_cases hl : n > (r.S.size : Int) - r.at'
    · rw [if_pos hl, decide_eq_false (by simp [hl])]
      have := take_long r.p n (by omega)
      rw [← hb] at this
      exact this
    · rw [if_neg hl, decide_eq_true ⟨hb, hl⟩]
      obtain ⟨m, rfl⟩ := Int.eq_ofNat_of_zero_le hn
      have := take_ok r.p m (by omega)
      rw [p_take r m (by omega), p_drop r m (by omega)] at this
      unfold Rd.gp
      rw [hb]
      exact this
  · rw [if_pos hb, decide_eq_false (by simp [hb])]
    exact take_bad r.p r.bad n hb
set_option maxHeartbeats 4000000 in
theorem num_no (s : ByteArray) (b w : Int) (h : w < 1 ∨ 7 < w) : Fp Try.prog 26 [.ptr 0 0, .int .i64 w] [[.str s, .int .i64 b]] [] (.int .i64 0, [some [.str s, .int .i64 (if b = 0 then 2 else b)]], []) := by
  have f1 := pr_Fail ⟨s, 0, b⟩ 2
  have e : (⟨s, 0, b⟩ : Rd).p = s := by show s.extract 0 s.size = s; exact ByteArray.extract_zero_size
  unfold rFail Rd.gp at f1
  simp only [show (({ S := s, at' := 0, bad := if b = 0 then 2 else b } : Rd).p) = s from by show s.extract 0 s.size = s; exact ByteArray.extract_zero_size, e] at f1
  have f2 := take_bad s (if b = 0 then 2 else b) w (by split <;> omega)
  generalize (if b = 0 then (2 : Int) else b) = c at *
  refine Fp.of_awp Try.func26 rfl (by kernel_rfl) (Nat.le_of_ble_eq_true rfl) ?_
  repeat' (conv => whnf
           first
           | (refine And.intro (by kernel_rfl) ?_)
           | (refine And.intro ⟨by kernel_rfl, by kernel_rfl⟩ ?_)
           | (refine Or.inr ⟨_, f1, ?_⟩)
           | (refine Or.inr ⟨_, f2, ?_⟩)
           | (refine cond_f ?_ ?_)
           | (refine ⟨_, ⟨by decide, rfl⟩, ?_⟩)
           | (refine cond_i (fun h => ?_) (fun h => ?_)))
  all_goals (conv => whnf)
  all_goals first | rfl | (exfalso; simp only [decide_eq_false_iff_not] at *; omega)
theorem num_bad (s : ByteArray) (b w : Int) (h : b ≠ 0) (hw : 1 ≤ w ∧ w ≤ 7) : Fp Try.prog 26 [.ptr 0 0, .int .i64 w] [[.str s, .int .i64 b]] [] (.int .i64 0, [some [.str s, .int .i64 b]], []) := by
  have f2 := take_bad s b w h
  have b1 : decide (w < 1) = false := by simp; omega
  have b2 : decide (w > 7) = false := by simp; omega
  refine Fp.of_awp Try.func26 rfl (by kernel_rfl) (Nat.le_of_ble_eq_true rfl) ?_
  repeat' (conv => whnf
           first
           | (refine And.intro (by kernel_rfl) ?_)
           | (refine And.intro ⟨by kernel_rfl, by kernel_rfl⟩ ?_)
           | (refine cond_0 b1 ?_)
           | (refine cond_0 b2 ?_)
           | (refine Or.inr ⟨_, f2, ?_⟩)
           | (refine cond_f ?_ ?_)
           | (refine ⟨_, ⟨by decide, rfl⟩, ?_⟩)
           | (refine cond_i (fun h => ?_) (fun h => ?_)))
  all_goals (conv => whnf)
  all_goals rfl
theorem num_long (s : ByteArray) (w : Int) (h : w > s.size) (hw : 1 ≤ w ∧ w ≤ 7) : Fp Try.prog 26 [.ptr 0 0, .int .i64 w] [[.str s, .int .i64 0]] [] (.int .i64 0, [some [.str s, .int .i64 3]], []) := by
  have f2 := take_long s w h
  have b1 : decide (w < 1) = false := by simp; omega
  have b2 : decide (w > 7) = false := by simp; omega
  refine Fp.of_awp Try.func26 rfl (by kernel_rfl) (Nat.le_of_ble_eq_true rfl) ?_
  repeat' (conv => whnf
           first
           | (refine And.intro (by kernel_rfl) ?_)
           | (refine And.intro ⟨by kernel_rfl, by kernel_rfl⟩ ?_)
           | (refine cond_0 b1 ?_)
           | (refine cond_0 b2 ?_)
           | (refine Or.inr ⟨_, f2, ?_⟩)
           | (refine cond_f ?_ ?_)
           | (refine ⟨_, ⟨by decide, rfl⟩, ?_⟩)
           | (refine cond_i (fun h => ?_) (fun h => ?_)))
  all_goals (conv => whnf)
  all_goals rfl
set_option maxHeartbeats 2000000 in
theorem num_ok (s : ByteArray) (n : Nat) (h : n ≤ s.size) (hw : 1 ≤ n ∧ n ≤ 7) : Fp Try.prog 26 [.ptr 0 0, .int .i64 (n : Int)] [[.str s, .int .i64 0]] [] (.int .i64 (numOf (s.extract 0 n) 0 n), [some [.str (s.extract n s.size), .int .i64 0]], []) := by
  have f2 := take_ok s n h
  have b1 : decide ((n : Int) < 1) = false := by simp; omega
  have b2 : decide ((n : Int) > 7) = false := by simp; omega
  have hz : (s.extract 0 n).size = n := by rw [ByteArray.size_extract]; omega
  generalize s.extract 0 n = t at *
  generalize s.extract n s.size = u at *
  refine Fp.of_awp Try.func26 rfl (by kernel_rfl) (Nat.le_of_ble_eq_true rfl) ?_
  repeat' (conv => whnf
           first
           | (refine And.intro (by kernel_rfl) ?_)
           | (refine And.intro ⟨by kernel_rfl, by kernel_rfl⟩ ?_)
           | (refine cond_0 b1 ?_)
           | (refine cond_0 b2 ?_)
           | (refine Or.inr ⟨_, f2, ?_⟩)
           | (refine cond_f ?_ ?_)
           | (refine ⟨_, ⟨by decide, rfl⟩, ?_⟩)
           | (refine cond_i (fun h => ?_) (fun h => ?_)))
  all_goals (conv => whnf)
  refine Has.each [5, 7, 26, 27] [] n (fun k acc => acc = numOf t 0 k) (fun acc i =>
    St.ofP 39 1 0 [(5, .str t), (7, .int .i64 acc), (26, .int .i64 (t.size : Nat)), (27, .int .i64 i)] [(47, [.str u, .int .i64 0])] []) ⟨0, _, rfl, rfl, rfl⟩ (fun k acc hk hI => ?_) (fun acc hI => ?_)
  · have c1 : decide ((k : Int) < (t.size : Int)) = true := by simp; omega
    have c2 : (0 : Int) ≤ (k : Int) ∧ (k : Int) < (t.size : Int) := ⟨by omega, by omega⟩
    refine awp_go ?_
    repeat' (conv => whnf
             first
             | (refine And.intro (by kernel_rfl) ?_)
             | (refine And.intro ⟨by kernel_rfl, by kernel_rfl⟩ ?_)
             | (refine cond_1 c1 ?_)
             | (refine ⟨c2, ?_⟩)
             | (refine cond_f ?_ ?_)
             | (refine ⟨_, ⟨by decide, rfl⟩, ?_⟩)
             | (refine cond_i (fun h => ?_) (fun h => ?_)))
    all_goals (conv => whnf)
    refine ⟨_, _, rfl, ?_, up1 hk (by omega)⟩
    have hb := numOf_bd t 0 k
    rw [← hI] at hb
    have hb2 := byteAt_bd t k
    have hb3 : (256 : Int) ^ k ≤ 256 ^ 6 := by exact_mod_cast Nat.pow_le_pow_right (by omega) (by omega)
    have hb4 : (256 : Int) ^ 6 = 281474976710656 := by decide
    rw [numOf_succ, ← hI, Nat.zero_add, Int.toNat_natCast, show (2 : Int) ^ min (Int.toNat 8) IntKind.i64.bits = 256 from by decide, wrap_i64 (n := acc * 256) (by omega), wrap_i64 (n := byteAt t k) (by omega)]
    rw [show IntKind.i64.bits = 64 from rfl, shl_or acc (byteAt t k) (by omega) hb2]
    exact wrap_i64 (by omega)
  · have c1 : decide ((n : Int) < (t.size : Int)) = false := by simp; omega
    refine awp_go ?_
    repeat' (conv => whnf
             first
             | (refine And.intro (by kernel_rfl) ?_)
             | (refine And.intro ⟨by kernel_rfl, by kernel_rfl⟩ ?_)
             | (refine cond_0 c1 ?_)
             | (refine cond_f ?_ ?_)
             | (refine ⟨_, ⟨by decide, rfl⟩, ?_⟩)
             | (refine cond_i (fun h => ?_) (fun h => ?_)))
    all_goals (conv => whnf)
    all_goals rw [hI]; rfl
theorem pr_Num (r : Rd) (w : Int) (h : r.ok) : Fp Try.prog 26 [.ptr 0 0, .int .i64 w] [r.gp] [] (.int .i64 (rNum r w).2, [some (rNum r w).1.gp], []) := by
  have hp := r.p_size h
  have h' : r.at' ≤ r.S.size := h
  unfold rNum
  by_cases hw : w < 1 ∨ 7 < w
  · rw [if_pos hw]
    exact num_no r.p r.bad w hw
  · rw [if_neg hw]
    by_cases hb : r.bad = 0
    · rw [if_neg (by simpa using hb)]
      by_cases hl : w > (r.S.size : Int) - r.at'
      · rw [if_pos hl]
        have := num_long r.p w (by omega) (by omega)
        unfold Rd.gp
        rw [hb]
        exact this
      · rw [if_neg hl]
        obtain ⟨m, rfl⟩ := Int.eq_ofNat_of_zero_le (show 0 ≤ w by omega)
        have := num_ok r.p m (by omega) (by omega)
        rw [p_take r m (by omega), p_drop r m (by omega), numOf_cut r.S r.at' m (by omega) m (by omega)] at this
        unfold Rd.gp
        rw [hb]
        exact this
    · rw [if_pos hb]
      exact num_bad r.p r.bad w hb (by omega)
theorem rNum_bd (r : Rd) (w : Int) : 0 ≤ (rNum r w).2 := by
  unfold rNum
  (repeat' split) <;> first | exact Int.le_refl 0 | exact (numOf_bd _ _ _).1
set_option maxHeartbeats 1000000 in
theorem pr_Text (r : Rd) (h : r.ok) : Fp Try.prog 27 [.ptr 0 0] [r.gp] [] (.str (rText r).2, [some (rText r).1.gp], []) := by
  have f1 := pr_Num r 1 h
  have f2 := pr_take (rNum r 1).1 (rNum r 1).2 (rNum_ok r 1 h) (rNum_bd r 1)
  unfold rText
  generalize rNum r 1 = x at *
  generalize decide (x.1.bad = 0 ∧ ¬ x.2 > (x.1.S.size : Int) - x.1.at') = b at f2
  generalize rTake x.1 x.2 = y at *
  refine Fp.of_awp Try.func27 rfl (by kernel_rfl) (Nat.le_of_ble_eq_true rfl) ?_
  repeat' (conv => whnf
           first
           | (refine And.intro (by kernel_rfl) ?_)
           | (refine And.intro ⟨by kernel_rfl, by kernel_rfl⟩ ?_)
           | (refine Or.inr ⟨_, f1, ?_⟩)
           | (refine Or.inr ⟨_, f2, ?_⟩)
           | (refine cond_f ?_ ?_)
           | (refine ⟨_, ⟨by decide, rfl⟩, ?_⟩)
           | (refine cond_i (fun h => ?_) (fun h => ?_)))
  all_goals (conv => whnf)
  all_goals rfl
set_option maxHeartbeats 1000000 in
theorem pr_Flag (r : Rd) (h : r.ok) : Fp Try.prog 28 [.ptr 0 0] [r.gp] [] (.bool (rFlag r).2, [some (rFlag r).1.gp], []) := by
  have f1 := pr_Num r 1 h
  have f2 := pr_Fail (rNum r 1).1 5
  unfold rFlag
  generalize rNum r 1 = x at *
  refine Fp.of_awp Try.func28 rfl (by kernel_rfl) (Nat.le_of_ble_eq_true rfl) ?_
  unfold rFail at f2
  repeat' (conv => whnf
           first
           | (refine And.intro (by kernel_rfl) ?_)
           | (refine And.intro ⟨by kernel_rfl, by kernel_rfl⟩ ?_)
           | (refine Or.inr ⟨_, f1, ?_⟩)
           | (refine Or.inr ⟨_, f2, ?_⟩)
           | (refine cond_f ?_ ?_)
           | (refine ⟨_, ⟨by decide, rfl⟩, ?_⟩)
           | (refine cond_i (fun h => ?_) (fun h => ?_)))
  all_goals (conv => whnf)
  · have h : x.2 > 1 := by simpa using h
    simp only [h, and_true]
    rfl
  · have h : ¬ x.2 > 1 := by simpa using h
    simp only [h, and_false, if_false]
    rfl
set_option maxHeartbeats 1000000 in
theorem pr_End (r : Rd) (h : r.ok) : Fp Try.prog 24 [.ptr 0 0] [r.gp] [] (.int .i64 (rEnd r).bad, [some (rEnd r).gp], []) := by
  have f1 := pr_Left r h
  unfold rEnd
  generalize rLeft r = x at *
  refine Fp.of_awp Try.func24 rfl (by kernel_rfl) (Nat.le_of_ble_eq_true rfl) ?_
  repeat' (conv => whnf
           first
           | (refine And.intro (by kernel_rfl) ?_)
           | (refine And.intro ⟨by kernel_rfl, by kernel_rfl⟩ ?_)
           | (refine Or.inr ⟨_, f1, ?_⟩)
           | (refine cond_f ?_ ?_)
           | (refine ⟨_, ⟨by decide, rfl⟩, ?_⟩)
           | (refine cond_i (fun h => ?_) (fun h => ?_)))
  all_goals (conv => whnf)
  · rw [if_pos (by simpa using h)]; rfl
  · rw [if_neg (by simpa using h)]; rfl
theorem pr_Open (s : ByteArray) : Fp Try.prog 20 [.str s] [] [] (.ptr 0 0, [some [.str s, .int .i64 0]], []) := by
  refine Fp.of_awp Try.func20 rfl (by kernel_rfl) (Nat.le_of_ble_eq_true rfl) ?_
  repeat' (conv => whnf
           first
           | (refine And.intro (by kernel_rfl) ?_)
           | (refine And.intro ⟨by kernel_rfl, by kernel_rfl⟩ ?_)
           | (refine cond_f ?_ ?_)
           | (refine ⟨_, ⟨by decide, rfl⟩, ?_⟩)
           | (refine cond_i (fun h => ?_) (fun h => ?_)))
  all_goals (conv => whnf)
  all_goals rfl
end Go.Proofs.Ytijohhdgecadnaa.Cn
