
/- Contracts of the law's own reader of bytes. No condition but that it is within its bytes, and these of a length. -/
import Derived.Test.YtijohhdgecadnaaSp1
import Derived.Test.YtijohhdgecadnaaProg
import Derived.KernelRfl
import Derived.Test.YtijohhdgecadnaaCn20
import Derived.Test.YtijohhdgecadnaaAv16
namespace Go.Proofs.Ytijohhdgecadnaa.Cn
open Go Go.Proofs Go.Proofs.Ytijohhdgecadnaa.Av Go.Proofs.Ytijohhdgecadnaa.Sp
set_option linter.unusedVariables false
set_option linter.unusedSimpArgs false
set_option maxRecDepth 100000
attribute [local irreducible] Fv Fp

theorem rr_Fail (r : Rd) (e : Int) : Fp Try.prog 53 [.ptr 0 0, .int .i64 e] [r.gr] [] (.tup [], [some (rFail r e).gr], []) := by
  refine Fp.of_awp Try.func53 rfl (by kernel_rfl) (Nat.le_of_ble_eq_true rfl) ?_
  unfold rFail
  repeat' (conv => whnf
           first
           | (refine And.intro (by kernel_rfl) ?_)
           | (refine And.intro ⟨by kernel_rfl, by kernel_rfl⟩ ?_)
           | (refine cond_f ?_ ?_)
           | (refine ⟨_, ⟨by decide, rfl⟩, ?_⟩)
           | (refine cond_i (fun h => ?_) (fun h => ?_)))
  all_goals (conv => whnf)
  · rw [if_pos (by simpa using h)]; rfl
  · rw [if_neg (by simpa using h)]; rfl
def _root_.Go.Proofs.Ytijohhdgecadnaa.Sp.Rd.fit (r : Rd) : Prop := r.at' ≤ r.S.size ∧ r.S.size < 4611686018427387904
theorem rr_Left (r : Rd) (h : r.fit) : Fp Try.prog 23 [.ptr 0 0] [r.gr] [] (.int .i64 (rLeft r), [some r.gr], []) := by
  obtain ⟨h1, h2⟩ := h
  refine Fp.of_awp Try.func23 rfl (by kernel_rfl) (Nat.le_of_ble_eq_true rfl) ?_
  have hp : IntKind.i64.wrap ((r.S.size : Int) - r.at') = (r.S.size : Int) - r.at' := wrap_i64 (by omega)
  unfold rLeft
  repeat' (conv => whnf
           first
           | (refine And.intro (by kernel_rfl) ?_)
           | (refine And.intro ⟨by kernel_rfl, by kernel_rfl⟩ ?_)
           | (refine cond_f ?_ ?_)
           | (refine ⟨_, ⟨by decide, rfl⟩, ?_⟩)
           | (refine cond_i (fun h => ?_) (fun h => ?_)))
  all_goals (conv => whnf)
  · rw [if_neg (by simpa using h)]; rfl
  · rw [if_pos (by simpa using h), hp]; rfl
set_option maxHeartbeats 4000000 in
theorem rnum_bad (S : ByteArray) (a b w : Int) (h : b ≠ 0) : Fp Try.prog 50 [.ptr 0 0, .int .i64 w] [[.str S, .int .i64 a, .int .i64 b]] [] (.int .i64 0, [some [.str S, .int .i64 a, .int .i64 b]], []) := by
  have b1 : (b == 0) = false := by simpa using h
  have b2 : (b != 0) = true := by simpa using h
  refine Fp.of_awp Try.func50 rfl (by kernel_rfl) (Nat.le_of_ble_eq_true rfl) ?_
  repeat' (conv => whnf
           first
           | (refine And.intro (by kernel_rfl) ?_)
           | (refine And.intro ⟨by kernel_rfl, by kernel_rfl⟩ ?_)
           | (refine cond_0 b1 ?_)
           | (refine cond_1 b2 ?_)
           | (refine cond_f ?_ ?_)
           | (refine ⟨_, ⟨by decide, rfl⟩, ?_⟩)
           | (refine cond_i (fun h => ?_) (fun h => ?_)))
  all_goals (conv => whnf)
  all_goals rfl
set_option maxHeartbeats 4000000 in
theorem rnum_no (S : ByteArray) (a w : Int) (h : w < 1 ∨ 7 < w) : Fp Try.prog 50 [.ptr 0 0, .int .i64 w] [[.str S, .int .i64 a, .int .i64 0]] [] (.int .i64 0, [some [.str S, .int .i64 a, .int .i64 2]], []) := by
  refine Fp.of_awp Try.func50 rfl (by kernel_rfl) (Nat.le_of_ble_eq_true rfl) ?_
  by_cases hw : w < 1
  · have b1 : decide (w < 1) = true := by simpa using hw
    repeat' (conv => whnf
             first
             | (refine And.intro (by kernel_rfl) ?_)
             | (refine And.intro ⟨by kernel_rfl, by kernel_rfl⟩ ?_)
             | (refine cond_1 b1 ?_)
             | (refine cond_f ?_ ?_)
             | (refine ⟨_, ⟨by decide, rfl⟩, ?_⟩)
             | (refine cond_i (fun h => ?_) (fun h => ?_)))
    all_goals (conv => whnf)
    all_goals rfl
  · have b1 : decide (w < 1) = false := by simpa using hw
    have b2 : decide (w > 7) = true := by simp; omega
    repeat' (conv => whnf
             first
             | (refine And.intro (by kernel_rfl) ?_)
             | (refine And.intro ⟨by kernel_rfl, by kernel_rfl⟩ ?_)
             | (refine cond_0 b1 ?_)
             | (refine cond_1 b2 ?_)
             | (refine cond_f ?_ ?_)
             | (refine ⟨_, ⟨by decide, rfl⟩, ?_⟩)
             | (refine cond_i (fun h => ?_) (fun h => ?_)))
    all_goals (conv => whnf)
    all_goals rfl
set_option maxHeartbeats 4000000 in
theorem rnum_long (S : ByteArray) (a w : Int) (h : w > (S.size : Int) - a) (ha : 0 ≤ a ∧ a ≤ S.size ∧ S.size < 4611686018427387904) (hw : 1 ≤ w ∧ w ≤ 7) : Fp Try.prog 50 [.ptr 0 0, .int .i64 w] [[.str S, .int .i64 a, .int .i64 0]] [] (.int .i64 0, [some [.str S, .int .i64 a, .int .i64 3]], []) := by
  refine Fp.of_awp Try.func50 rfl (by kernel_rfl) (Nat.le_of_ble_eq_true rfl) ?_
  have b1 : decide (w < 1) = false := by simp; omega
  have b2 : decide (w > 7) = false := by simp; omega
  have b3 : decide (w > IntKind.i64.wrap ((S.size : Int) - a)) = true := by rw [wrap_i64 (by omega)]; simpa using h
  repeat' (conv => whnf
           first
           | (refine And.intro (by kernel_rfl) ?_)
           | (refine And.intro ⟨by kernel_rfl, by kernel_rfl⟩ ?_)
           | (refine cond_0 b1 ?_)
           | (refine cond_0 b2 ?_)
           | (refine cond_1 b3 ?_)
           | (refine cond_f ?_ ?_)
           | (refine ⟨_, ⟨by decide, rfl⟩, ?_⟩)
           | (refine cond_i (fun h => ?_) (fun h => ?_)))
  all_goals (conv => whnf)
  all_goals rfl
set_option maxHeartbeats 4000000 in
theorem rnum_ok (S : ByteArray) (a n : Nat) (h : a + n ≤ S.size) (ha : S.size < 4611686018427387904) (hw : 1 ≤ n ∧ n ≤ 7) : Fp Try.prog 50 [.ptr 0 0, .int .i64 (n : Int)] [[.str S, .int .i64 (a : Int), .int .i64 0]] [] (.int .i64 (numOf S a n), [some [.str S, .int .i64 ((a + n : Nat) : Int), .int .i64 0]], []) := by
  refine Fp.of_awp Try.func50 rfl (by kernel_rfl) (Nat.le_of_ble_eq_true rfl) ?_
  have b1 : decide ((n : Int) < 1) = false := by simp; omega
  have b2 : decide ((n : Int) > 7) = false := by simp; omega
  have b3 : decide ((n : Int) > IntKind.i64.wrap ((S.size : Int) - (a : Int))) = false := by rw [wrap_i64 (by omega)]; simp; omega
  repeat' (conv => whnf
           first
           | (refine And.intro (by kernel_rfl) ?_)
           | (refine And.intro ⟨by kernel_rfl, by kernel_rfl⟩ ?_)
           | (refine cond_0 b1 ?_)
           | (refine cond_0 b2 ?_)
           | (refine cond_0 b3 ?_)
           | (refine cond_f ?_ ?_)
           | (refine ⟨_, ⟨by decide, rfl⟩, ?_⟩)
           | (refine cond_i (fun h => ?_) (fun h => ?_)))
  all_goals (conv => whnf)
  refine Has.each [0, 1, 5, 6] [] n (fun k acc => acc = numOf S a k) (fun acc i =>
    St.ofP 80 1 0 [(0, .ptr 88 0), (1, .int .i64 (n : Nat)), (5, .int .i64 acc), (6, .int .i64 i)] [(88, [.str S, .int .i64 (a : Nat), .int .i64 0])] []) ⟨0, _, rfl, rfl, rfl⟩ (fun k acc hk hI => ?_) (fun acc hI => ?_)
  · have c1 : decide ((k : Int) < (n : Int)) = true := by simp; omega
    have c3 : IntKind.i64.wrap ((a : Int) + (k : Int)) = ((a + k : Nat) : Int) := by rw [wrap_i64 (by omega)]; omega
    have c2 : (0 : Int) ≤ IntKind.i64.wrap ((a : Int) + (k : Int)) ∧ IntKind.i64.wrap ((a : Int) + (k : Int)) < (S.size : Int) := by rw [c3]; omega
    refine awp_go ?_
    repeat' (conv => whnf
             first
             | (refine And.intro (by kernel_rfl) ?_)
             | (refine And.intro ⟨by kernel_rfl, by kernel_rfl⟩ ?_)
             | (refine cond_1 c1 ?_)
             | (refine ⟨c2, ?_⟩)
             | (refine cond_f ?_ ?_)
             | (refine ⟨_, ⟨by decide, rfl⟩, ?_⟩)
             | (refine cond_i (fun h => ?_) (fun h => ?_)))
    all_goals (conv => whnf)
    refine ⟨_, _, rfl, ?_, up1 hk (by omega)⟩
    have hb := numOf_bd S a k
    rw [← hI] at hb
    have hb2 := byteAt_bd S (a + k)
    have hb3 : (256 : Int) ^ k ≤ 256 ^ 6 := by exact_mod_cast Nat.pow_le_pow_right (by omega) (by omega)
    have hb4 : (256 : Int) ^ 6 = 281474976710656 := by decide
    rw [numOf_succ, ← hI, c3, Int.toNat_natCast, wrap_i64 (n := acc * 256) (by omega), wrap_i64 (n := byteAt S (a + k)) (by omega)]
    exact wrap_i64 (by omega)
  · have c1 : decide ((n : Int) < (n : Int)) = false := by simp
    have c3 : IntKind.i64.wrap ((a : Int) + (n : Int)) = ((a + n : Nat) : Int) := by rw [wrap_i64 (by omega)]; omega
    refine awp_go ?_
    repeat' (conv => whnf
             first
             | (refine And.intro (by kernel_rfl) ?_)
             | (refine And.intro ⟨by kernel_rfl, by kernel_rfl⟩ ?_)
             | (refine cond_0 c1 ?_)
             | (refine cond_f ?_ ?_)
             | (refine ⟨_, ⟨by decide, rfl⟩, ?_⟩)
             | (refine cond_i (fun h => ?_) (fun h => ?_)))
    all_goals (conv => whnf)
    all_goals rw [hI, ← c3]; rfl
theorem rr_Num (r : Rd) (w : Int) (h : r.fit) : Fp Try.prog 50 [.ptr 0 0, .int .i64 w] [r.gr] [] (.int .i64 (rNum r w).2, [some (rNum r w).1.gr], []) := by
  obtain ⟨h1, h2⟩ := h
  unfold rNum
  by_cases hb : r.bad = 0
  · by_cases hw : w < 1 ∨ 7 < w
    · rw [if_pos hw]
      have := rnum_no r.S r.at' w hw
      unfold Rd.gr rFail
      rw [hb]
      exact this
    · rw [if_neg hw, if_neg (by simpa using hb)]
      by_cases hl : w > (r.S.size : Int) - r.at'
      · rw [if_pos hl]
        have := rnum_long r.S r.at' w hl (by omega) (by omega)
        unfold Rd.gr
        rw [hb]
        exact this
      · rw [if_neg hl]
        obtain ⟨m, rfl⟩ := Int.eq_ofNat_of_zero_le (show 0 ≤ w by omega)
        have := rnum_ok r.S r.at' m (by omega) h2 (by omega)
        unfold Rd.gr
        rw [hb]
        exact this
  · have := rnum_bad r.S r.at' r.bad w hb
    split
    · unfold rFail Rd.gr
      rw [if_neg hb]
      exact this
    · exact this
set_option maxHeartbeats 4000000 in
theorem rtext (x : Rd) (r : Rd) (n : Int) (hx : x.fit) (hn : 0 ≤ n) (f1 : Fp Try.prog 50 [.ptr 0 0, .int .i64 1] [r.gr] [] (.int .i64 n, [some x.gr], [])) : Fp Try.prog 51 [.ptr 0 0] [r.gr] [] (.str (rTake x n).2, [some (rTake x n).1.gr], []) := by
  obtain ⟨h1, h2⟩ := hx
  refine Fp.of_awp Try.func51 rfl (by kernel_rfl) (Nat.le_of_ble_eq_true rfl) ?_
  have hp : IntKind.i64.wrap ((x.S.size : Int) - (x.at' : Int)) = (x.S.size : Int) - x.at' := wrap_i64 (by omega)
  unfold rTake
  by_cases hb : x.bad = 0
  · have b1 : (x.bad == 0) = true := by simpa using hb
    have b2 : (x.bad != 0) = false := by simpa using hb
    rw [if_neg (by simpa using hb)]
    by_cases hl : n > (x.S.size : Int) - x.at'
    · rw [if_pos hl]
      have b3 : decide (n > IntKind.i64.wrap ((x.S.size : Int) - (x.at' : Int))) = true := by rw [hp]; simpa using hl
      repeat' (conv => whnf
               first
               | (refine And.intro (by kernel_rfl) ?_)
               | (refine And.intro ⟨by kernel_rfl, by kernel_rfl⟩ ?_)
               | (refine Or.inr ⟨_, f1, ?_⟩)
               | (refine cond_1 b1 ?_)
               | (refine cond_1 b3 ?_)
               | (refine cond_f ?_ ?_)
               | (refine ⟨_, ⟨by decide, rfl⟩, ?_⟩)
               | (refine cond_i (fun h => ?_) (fun h => ?_)))
      all_goals (conv => whnf)
      all_goals rfl
    · rw [if_neg hl]
      have b3 : decide (n > IntKind.i64.wrap ((x.S.size : Int) - (x.at' : Int))) = false := by rw [hp]; simpa using hl
      have c3 : IntKind.i64.wrap ((x.at' : Int) + n) = x.at' + n := wrap_i64 (by omega)
      have c2 : (0 : Int) ≤ (x.at' : Int) ∧ (x.at' : Int) ≤ IntKind.i64.wrap ((x.at' : Int) + n) ∧ IntKind.i64.wrap ((x.at' : Int) + n) ≤ (x.S.size : Int) := by rw [c3]; omega
      repeat' (conv => whnf
               first
               | (refine And.intro (by kernel_rfl) ?_)
               | (refine And.intro ⟨by kernel_rfl, by kernel_rfl⟩ ?_)
               | (refine Or.inr ⟨_, f1, ?_⟩)
               | (refine cond_1 b1 ?_)
               | (refine cond_0 b3 ?_)
               | (refine cond_0 b2 ?_)
               | (refine ⟨c2, ?_⟩)
               | (refine cond_f ?_ ?_)
               | (refine ⟨_, ⟨by decide, rfl⟩, ?_⟩)
               | (refine cond_i (fun h => ?_) (fun h => ?_)))
      all_goals (conv => whnf)
      obtain ⟨m, rfl⟩ := Int.eq_ofNat_of_zero_le hn
      rw [c3, show (x.at' : Int) + (m : Int) = ((x.at' + m : Nat) : Int) from by omega]
      rfl
  · have b1 : (x.bad == 0) = false := by simpa using hb
    have b2 : (x.bad != 0) = true := by simpa using hb
    rw [if_pos hb]
    repeat' (conv => whnf
             first
             | (refine And.intro (by kernel_rfl) ?_)
             | (refine And.intro ⟨by kernel_rfl, by kernel_rfl⟩ ?_)
             | (refine Or.inr ⟨_, f1, ?_⟩)
             | (refine cond_0 b1 ?_)
             | (refine cond_1 b2 ?_)
             | (refine cond_f ?_ ?_)
             | (refine ⟨_, ⟨by decide, rfl⟩, ?_⟩)
             | (refine cond_i (fun h => ?_) (fun h => ?_)))
    all_goals (conv => whnf)
    all_goals rfl
theorem rNum_fit (r : Rd) (w : Int) (h : r.fit) : (rNum r w).1.fit := by
  have h1 : r.at' ≤ r.S.size := h.1
  have h2 : r.S.size < 4611686018427387904 := h.2
  refine ⟨rNum_ok r w h1, ?_⟩
  unfold rNum
  (repeat' split) <;> exact h2
theorem rr_Text (r : Rd) (h : r.fit) : Fp Try.prog 51 [.ptr 0 0] [r.gr] [] (.str (rText r).2, [some (rText r).1.gr], []) :=
  rtext (rNum r 1).1 r (rNum r 1).2 (rNum_fit r 1 h) (rNum_bd r 1) (rr_Num r 1 h)
set_option maxHeartbeats 1000000 in
theorem rr_Flag (r : Rd) (h : r.fit) : Fp Try.prog 52 [.ptr 0 0] [r.gr] [] (.bool (rFlag r).2, [some (rFlag r).1.gr], []) := by
  have f1 := rr_Num r 1 h
  unfold rFlag
  generalize rNum r 1 = x at *
  refine Fp.of_awp Try.func52 rfl (by kernel_rfl) (Nat.le_of_ble_eq_true rfl) ?_
  repeat' (conv => whnf
           first
           | (refine And.intro (by kernel_rfl) ?_)
           | (refine And.intro ⟨by kernel_rfl, by kernel_rfl⟩ ?_)
           | (refine Or.inr ⟨_, f1, ?_⟩)
           | (refine cond_f ?_ ?_)
           | (refine ⟨_, ⟨by decide, rfl⟩, ?_⟩)
           | (refine cond_i (fun h => ?_) (fun h => ?_)))
  all_goals (conv => whnf)
  · rename_i h0
    have e : (if x.1.bad = 0 ∧ x.2 > 1 then (5 : Int) else x.1.bad) = 5 := if_pos ⟨by simpa using h0, by simpa using h⟩
    simp only [e]; rfl
  · have e : (if x.1.bad = 0 ∧ x.2 > 1 then (5 : Int) else x.1.bad) = x.1.bad := if_neg (fun q => by simp at h; omega)
    simp only [e]; rfl
  · have e : (if x.1.bad = 0 ∧ x.2 > 1 then (5 : Int) else x.1.bad) = x.1.bad := if_neg (fun q => by simp at h; omega)
    simp only [e]; rfl
set_option maxHeartbeats 1000000 in
theorem rr_End (r : Rd) (h : r.fit) : Fp Try.prog 25 [.ptr 0 0] [r.gr] [] (.int .i64 (rEnd r).bad, [some (rEnd r).gr], []) := by
  have f1 := rr_Left r h
  unfold rEnd
  generalize rLeft r = x at *
  refine Fp.of_awp Try.func25 rfl (by kernel_rfl) (Nat.le_of_ble_eq_true rfl) ?_
  repeat' (conv => whnf
           first
           | (refine And.intro (by kernel_rfl) ?_)
           | (refine And.intro ⟨by kernel_rfl, by kernel_rfl⟩ ?_)
           | (refine Or.inr ⟨_, f1, ?_⟩)
           | (refine cond_f ?_ ?_)
           | (refine ⟨_, ⟨by decide, rfl⟩, ?_⟩)
           | (refine cond_i (fun h => ?_) (fun h => ?_)))
  all_goals (conv => whnf)
  · rw [if_pos (by simpa using h)]; rfl
  · rw [if_neg (by simpa using h)]; rfl
end Go.Proofs.Ytijohhdgecadnaa.Cn
