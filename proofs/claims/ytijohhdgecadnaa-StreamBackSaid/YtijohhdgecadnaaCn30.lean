
/- Contracts of the program's stream: made, what is wrong, the first message. No condition. -/
import Derived.Test.YtijohhdgecadnaaSp1
import Derived.Test.YtijohhdgecadnaaProg
import Derived.KernelRfl
import Derived.Test.YtijohhdgecadnaaSp8
import Derived.Test.YtijohhdgecadnaaCn20
import Derived.Test.YtijohhdgecadnaaCn24
import Derived.Test.YtijohhdgecadnaaAv16
namespace Go.Proofs.Ytijohhdgecadnaa.Cn
open Go Go.Proofs Go.Proofs.Ytijohhdgecadnaa.Av Go.Proofs.Ytijohhdgecadnaa.Sp
set_option linter.unusedVariables false
set_option linter.unusedSimpArgs false
set_option maxRecDepth 100000
attribute [local irreducible] Fv Fp

theorem strEq_nil (s : ByteArray) : strEq s ⟨#[]⟩ = decide (s.size = 0) := by
  unfold strEq
  obtain ⟨⟨l⟩⟩ := s
  cases l with
  | nil => rfl
  | cons a l => simp [ByteArray.size]
theorem st_New : Fp Try.prog 30 [] [] [] (.ptr 0 0, [some (⟨emptyB, false, 0⟩ : Stm).g], []) := by
  refine Fp.of_awp Try.func30 rfl (by kernel_rfl) (Nat.le_of_ble_eq_true rfl) ?_
  repeat' (conv => whnf
           first
           | (refine And.intro (by kernel_rfl) ?_)
           | (refine And.intro ⟨by kernel_rfl, by kernel_rfl⟩ ?_)
           | (refine cond_f ?_ ?_)
           | (refine ⟨_, ⟨by decide, rfl⟩, ?_⟩)
           | (refine cond_i (fun h => ?_) (fun h => ?_)))
  all_goals (conv => whnf)
  all_goals rfl
theorem st_Left (m : Stm) : Fp Try.prog 33 [.ptr 0 0] [m.g] [] (.int .i64 (m.s.size : Nat), [some m.g], []) := by
  refine Fp.of_awp Try.func33 rfl (by kernel_rfl) (Nat.le_of_ble_eq_true rfl) ?_
  repeat' (conv => whnf
           first
           | (refine And.intro (by kernel_rfl) ?_)
           | (refine And.intro ⟨by kernel_rfl, by kernel_rfl⟩ ?_)
           | (refine cond_f ?_ ?_)
           | (refine ⟨_, ⟨by decide, rfl⟩, ?_⟩)
           | (refine cond_i (fun h => ?_) (fun h => ?_)))
  all_goals (conv => whnf)
  all_goals rfl
theorem st_Over (m : Stm) : Fp Try.prog 36 [.ptr 0 0] [m.g] [] (.bool m.last, [some m.g], []) := by
  refine Fp.of_awp Try.func36 rfl (by kernel_rfl) (Nat.le_of_ble_eq_true rfl) ?_
  repeat' (conv => whnf
           first
           | (refine And.intro (by kernel_rfl) ?_)
           | (refine And.intro ⟨by kernel_rfl, by kernel_rfl⟩ ?_)
           | (refine cond_f ?_ ?_)
           | (refine ⟨_, ⟨by decide, rfl⟩, ?_⟩)
           | (refine cond_i (fun h => ?_) (fun h => ?_)))
  all_goals (conv => whnf)
  all_goals rfl
theorem st_wrong (s : ByteArray) (l : Bool) (b e : Int) : Fp Try.prog 72 [.ptr 0 0, .int .i64 e] [[.str s, .bool l, .int .i64 b]] [] (.tup [], [some [.str ⟨#[]⟩, .bool l, .int .i64 e]], []) := by
  refine Fp.of_awp Try.func72 rfl (by kernel_rfl) (Nat.le_of_ble_eq_true rfl) ?_
  repeat' (conv => whnf
           first
           | (refine And.intro (by kernel_rfl) ?_)
           | (refine And.intro ⟨by kernel_rfl, by kernel_rfl⟩ ?_)
           | (refine cond_f ?_ ?_)
           | (refine ⟨_, ⟨by decide, rfl⟩, ?_⟩)
           | (refine cond_i (fun h => ?_) (fun h => ?_)))
  all_goals (conv => whnf)
  all_goals rfl
theorem next_a (s : ByteArray) (l : Bool) (b : Int) (h : b ≠ 0) : Fp Try.prog 55 [.ptr 0 0] [[.str s, .bool l, .int .i64 b]] [] (.tup [.agg [.str ⟨#[]⟩, .bool false], .bool false], [some [.str s, .bool l, .int .i64 b]], []) := by
  have b1 : (b != 0) = true := by simpa using h
  refine Fp.of_awp Try.func55 rfl (by kernel_rfl) (Nat.le_of_ble_eq_true rfl) ?_
  repeat' (conv => whnf
           first
           | (refine And.intro (by kernel_rfl) ?_)
           | (refine And.intro ⟨by kernel_rfl, by kernel_rfl⟩ ?_)
           | (refine cond_1 b1 ?_)
           | (refine cond_f ?_ ?_)
           | (refine ⟨_, ⟨by decide, rfl⟩, ?_⟩)
           | (refine cond_i (fun h => ?_) (fun h => ?_)))
  all_goals (conv => whnf)
  all_goals rfl
theorem next_b (s : ByteArray) (l : Bool) (h : strEq s ⟨#[]⟩ = true) : Fp Try.prog 55 [.ptr 0 0] [[.str s, .bool l, .int .i64 0]] [] (.tup [.agg [.str ⟨#[]⟩, .bool false], .bool false], [some [.str s, .bool l, .int .i64 0]], []) := by
  refine Fp.of_awp Try.func55 rfl (by kernel_rfl) (Nat.le_of_ble_eq_true rfl) ?_
  repeat' (conv => whnf
           first
           | (refine And.intro (by kernel_rfl) ?_)
           | (refine And.intro ⟨by kernel_rfl, by kernel_rfl⟩ ?_)
           | (refine cond_1 h ?_)
           | (refine cond_f ?_ ?_)
           | (refine ⟨_, ⟨by decide, rfl⟩, ?_⟩)
           | (refine cond_i (fun h => ?_) (fun h => ?_)))
  all_goals (conv => whnf)
  all_goals rfl
theorem next_c (s : ByteArray) (h : strEq s ⟨#[]⟩ = false) : Fp Try.prog 55 [.ptr 0 0] [[.str s, .bool true, .int .i64 0]] [] (.tup [.agg [.str ⟨#[]⟩, .bool false], .bool false], [some [.str ⟨#[]⟩, .bool true, .int .i64 6]], []) := by
  have n1 := st_wrong s true 0 6
  refine Fp.of_awp Try.func55 rfl (by kernel_rfl) (Nat.le_of_ble_eq_true rfl) ?_
  repeat' (conv => whnf
           first
           | (refine And.intro (by kernel_rfl) ?_)
           | (refine And.intro ⟨by kernel_rfl, by kernel_rfl⟩ ?_)
           | (refine cond_0 h ?_)
           | (refine Or.inr ⟨_, n1, ?_⟩)
           | (refine cond_f ?_ ?_)
           | (refine ⟨_, ⟨by decide, rfl⟩, ?_⟩)
           | (refine cond_i (fun h => ?_) (fun h => ?_)))
  all_goals (conv => whnf)
  all_goals rfl
theorem next_d (s : ByteArray) (h : strEq s ⟨#[]⟩ = false) (h0 : 0 < s.size) (b1 : decide (byteAt s 0 > 1) = true) : Fp Try.prog 55 [.ptr 0 0] [[.str s, .bool false, .int .i64 0]] [] (.tup [.agg [.str ⟨#[]⟩, .bool false], .bool false], [some [.str ⟨#[]⟩, .bool false, .int .i64 5]], []) := by
  have n1 := st_wrong s false 0 5
  have f1 : (0 : Int) ≤ 0 ∧ (0 : Int) < (s.size : Int) := ⟨by omega, by omega⟩
  refine Fp.of_awp Try.func55 rfl (by kernel_rfl) (Nat.le_of_ble_eq_true rfl) ?_
  repeat' (conv => whnf
           first
           | (refine And.intro (by kernel_rfl) ?_)
           | (refine And.intro ⟨by kernel_rfl, by kernel_rfl⟩ ?_)
           | (refine cond_0 h ?_)
           | (refine ⟨f1, ?_⟩)
           | (refine cond_1 b1 ?_)
           | (refine Or.inr ⟨_, n1, ?_⟩)
           | (refine cond_f ?_ ?_)
           | (refine ⟨_, ⟨by decide, rfl⟩, ?_⟩)
           | (refine cond_i (fun h => ?_) (fun h => ?_)))
  all_goals (conv => whnf)
  all_goals rfl
theorem next_e (s : ByteArray) (h : strEq s ⟨#[]⟩ = false) (h0 : 0 < s.size) (b1 : decide (byteAt s 0 > 1) = false) (b2 : decide ((s.size : Int) < 5) = true) : Fp Try.prog 55 [.ptr 0 0] [[.str s, .bool false, .int .i64 0]] [] (.tup [.agg [.str ⟨#[]⟩, .bool false], .bool false], [some [.str s, .bool false, .int .i64 0]], []) := by
  have f1 : (0 : Int) ≤ 0 ∧ (0 : Int) < (s.size : Int) := ⟨by omega, by omega⟩
  refine Fp.of_awp Try.func55 rfl (by kernel_rfl) (Nat.le_of_ble_eq_true rfl) ?_
  repeat' (conv => whnf
           first
           | (refine And.intro (by kernel_rfl) ?_)
           | (refine And.intro ⟨by kernel_rfl, by kernel_rfl⟩ ?_)
           | (refine cond_0 h ?_)
           | (refine ⟨f1, ?_⟩)
           | (refine cond_0 b1 ?_)
           | (refine cond_1 b2 ?_)
           | (refine cond_f ?_ ?_)
           | (refine ⟨_, ⟨by decide, rfl⟩, ?_⟩)
           | (refine cond_i (fun h => ?_) (fun h => ?_)))
  all_goals (conv => whnf)
  all_goals rfl
section
variable (s p q : ByteArray) (x : Bool) (n : Int) (h : strEq s ⟨#[]⟩ = false) (h0 : 0 < s.size) (b1 : decide (byteAt s 0 > 1) = false) (b2 : decide ((s.size : Int) < 5) = false)
  (n1 : Fp Try.prog 20 [.str s] [] [] (.ptr 0 0, [some [.str s, .int .i64 0]], []))
  (n2 : Fp Try.prog 28 [.ptr 0 0] [[.str s, .int .i64 0]] [] (.bool x, [some [.str p, .int .i64 0]], []))
  (n3 : Fp Try.prog 26 [.ptr 0 0, .int .i64 4] [[.str p, .int .i64 0]] [] (.int .i64 n, [some [.str q, .int .i64 0]], []))
include h h0 b1 b2 n1 n2 n3
theorem next_f (b3 : decide (n > 4096) = true) : Fp Try.prog 55 [.ptr 0 0] [[.str s, .bool false, .int .i64 0]] [] (.tup [.agg [.str ⟨#[]⟩, .bool false], .bool false], [some [.str ⟨#[]⟩, .bool false, .int .i64 3]], []) := by
  have n4 := st_wrong s false 0 3
  have f1 : (0 : Int) ≤ 0 ∧ (0 : Int) < (s.size : Int) := ⟨by omega, by omega⟩
  refine Fp.of_awp Try.func55 rfl (by kernel_rfl) (Nat.le_of_ble_eq_true rfl) ?_
  repeat' (conv => whnf
           first
           | (refine And.intro (by kernel_rfl) ?_)
           | (refine And.intro ⟨by kernel_rfl, by kernel_rfl⟩ ?_)
           | (refine cond_0 h ?_)
           | (refine ⟨f1, ?_⟩)
           | (refine cond_0 b1 ?_)
           | (refine cond_0 b2 ?_)
           | (refine Or.inr ⟨_, n1, ?_⟩)
           | (refine Or.inr ⟨_, n2, ?_⟩)
           | (refine Or.inr ⟨_, n3, ?_⟩)
           | (refine cond_1 b3 ?_)
           | (refine Or.inr ⟨_, n4, ?_⟩)
           | (refine cond_f ?_ ?_)
           | (refine ⟨_, ⟨by decide, rfl⟩, ?_⟩)
           | (refine cond_i (fun h => ?_) (fun h => ?_)))
  all_goals (conv => whnf)
  all_goals rfl
variable (k : Int) (n4 : Fp Try.prog 22 [.ptr 0 0] [[.str q, .int .i64 0]] [] (.int .i64 k, [some [.str q, .int .i64 0]], []))
include n4
theorem next_g (b3 : decide (n > 4096) = false) (b4 : decide (k < n) = true) : Fp Try.prog 55 [.ptr 0 0] [[.str s, .bool false, .int .i64 0]] [] (.tup [.agg [.str ⟨#[]⟩, .bool false], .bool false], [some [.str s, .bool false, .int .i64 0]], []) := by
  have f1 : (0 : Int) ≤ 0 ∧ (0 : Int) < (s.size : Int) := ⟨by omega, by omega⟩
  refine Fp.of_awp Try.func55 rfl (by kernel_rfl) (Nat.le_of_ble_eq_true rfl) ?_
  repeat' (conv => whnf
           first
           | (refine And.intro (by kernel_rfl) ?_)
           | (refine And.intro ⟨by kernel_rfl, by kernel_rfl⟩ ?_)
           | (refine cond_0 h ?_)
           | (refine ⟨f1, ?_⟩)
           | (refine cond_0 b1 ?_)
           | (refine cond_0 b2 ?_)
           | (refine Or.inr ⟨_, n1, ?_⟩)
           | (refine Or.inr ⟨_, n2, ?_⟩)
           | (refine Or.inr ⟨_, n3, ?_⟩)
           | (refine cond_0 b3 ?_)
           | (refine Or.inr ⟨_, n4, ?_⟩)
           | (refine cond_1 b4 ?_)
           | (refine cond_f ?_ ?_)
           | (refine ⟨_, ⟨by decide, rfl⟩, ?_⟩)
           | (refine cond_i (fun h => ?_) (fun h => ?_)))
  all_goals (conv => whnf)
  all_goals rfl
theorem next_h (w : Int) (hw : IntKind.i64.wrap (5 + n) = w) (b3 : decide (n > 4096) = false) (b4 : decide (k < n) = false) (f2 : (0 : Int) ≤ 5 ∧ (5 : Int) ≤ w ∧ w ≤ (s.size : Int)) (f3 : 0 ≤ w ∧ w ≤ (s.size : Int) ∧ (s.size : Int) ≤ (s.size : Int)) :
    Fp Try.prog 55 [.ptr 0 0] [[.str s, .bool false, .int .i64 0]] [] (.tup [.agg [.str (s.extract 5 w.toNat), .bool x], .bool true], [some [.str (s.extract w.toNat s.size), .bool x, .int .i64 0]], []) := by
  have f1 : (0 : Int) ≤ 0 ∧ (0 : Int) < (s.size : Int) := ⟨by omega, by omega⟩
  rw [← hw] at f2 f3 ⊢
  refine Fp.of_awp Try.func55 rfl (by kernel_rfl) (Nat.le_of_ble_eq_true rfl) ?_
  repeat' (conv => whnf
           first
           | (refine And.intro (by kernel_rfl) ?_)
           | (refine And.intro ⟨by kernel_rfl, by kernel_rfl⟩ ?_)
           | (refine cond_0 h ?_)
           | (refine ⟨f1, ?_⟩)
           | (refine cond_0 b1 ?_)
           | (refine cond_0 b2 ?_)
           | (refine Or.inr ⟨_, n1, ?_⟩)
           | (refine Or.inr ⟨_, n2, ?_⟩)
           | (refine Or.inr ⟨_, n3, ?_⟩)
           | (refine cond_0 b3 ?_)
           | (refine Or.inr ⟨_, n4, ?_⟩)
           | (refine cond_0 b4 ?_)
           | (refine ⟨f2, ?_⟩)
           | (refine ⟨f3, ?_⟩)
           | (refine cond_f ?_ ?_)
           | (refine ⟨_, ⟨by decide, rfl⟩, ?_⟩)
           | (refine cond_i (fun h => ?_) (fun h => ?_)))
  all_goals (conv => whnf)
  all_goals rfl
end
theorem flag0 (s : ByteArray) (h : 0 < s.size) (h1 : ¬ byteAt s 0 > 1) : rFlag ⟨s, 0, 0⟩ = (⟨s, 1, 0⟩, byteAt s 0 == 1) := by
  have e : rNum ⟨s, 0, 0⟩ 1 = (⟨s, 1, 0⟩, byteAt s 0) := by
    unfold rNum
    rw [if_neg (by omega), if_neg (by simp), if_neg (by simp only; omega)]
    show (_, numOf s 0 1) = _
    rw [numOf_succ]
    have : numOf s 0 0 = 0 := rfl
    rw [this]
    simp
  unfold rFlag
  rw [e]
  simp [h1]
theorem num1_4 (s : ByteArray) (h : 5 ≤ s.size) : rNum ⟨s, 1, 0⟩ 4 = (⟨s, 5, 0⟩, numOf s 1 4) := by
  unfold rNum
  rw [if_neg (by omega), if_neg (by simp), if_neg (by simp only; omega)]
  rfl
def nextG (m : Stm) : G := match (nextM m).2 with | none => .tup [.agg [.str ⟨#[]⟩, .bool false], .bool false] | some x => .tup [.agg x.g, .bool true]
theorem st_next (m : Stm) (hs : m.s.size < 4611686018427387904) : Fp Try.prog 55 [.ptr 0 0] [m.g] [] (nextG m, [some (nextM m).1.g], []) := by
  obtain ⟨s, l, b⟩ := m
  unfold nextG nextM
  simp only at hs ⊢
  by_cases hb : b = 0
  · subst hb
    by_cases h0 : s.size = 0
    · rw [if_pos (.inr h0)]
      exact next_b s l (by rw [strEq_nil]; simpa using h0)
    · rw [if_neg (by simp [h0])]
      have hn : strEq s ⟨#[]⟩ = false := by rw [strEq_nil]; simpa using h0
      cases l with
      | true => rw [if_pos rfl]; exact next_c s hn
      | false =>
        rw [if_neg (by simp)]
        by_cases h1 : byteAt s 0 > 1
        · rw [if_pos h1]; exact next_d s hn (by omega) (by simpa using h1)
        · rw [if_neg h1]
          by_cases h2 : s.size < 5
          · rw [if_pos h2]; exact next_e s hn (by omega) (by simpa using h1) (by simp; omega)
          · rw [if_neg h2]
            have c2 : decide ((s.size : Int) < 5) = false := by simp; omega
            have q2 := pr_Flag ⟨s, 0, 0⟩ (Nat.zero_le _)
            rw [flag0 s (by omega) h1] at q2
            have q3 := pr_Num ⟨s, 1, 0⟩ 4 (show 1 ≤ s.size by omega)
            rw [num1_4 s (by omega)] at q3
            have q4 := pr_Left ⟨s, 5, 0⟩ (show 5 ≤ s.size by omega)
            rw [reader_eq] at q2
            have hbd := numOf_bd s 1 4
            have hneed : (need s : Int) = numOf s 1 4 := by unfold need; omega
            have e4 : rLeft ⟨s, 5, 0⟩ = (s.size : Int) - 5 := rfl
            rw [e4] at q4
            by_cases h3 : need s > 4096
            · rw [if_pos h3]
              exact next_f s _ _ _ _ hn (by omega) (by simpa using h1) c2 (pr_Open s) q2 q3 (by simp; omega)
            · rw [if_neg h3]
              by_cases h4 : s.size < 5 + need s
              · rw [if_pos h4]
                exact next_g s _ _ _ _ hn (by omega) (by simpa using h1) c2 (pr_Open s) q2 q3 _ q4 (by simp; omega) (by simp; omega)
              · rw [if_neg h4]
                have := next_h s _ _ _ _ hn (by omega) (by simpa using h1) c2 (pr_Open s) q2 q3 _ q4 (5 + (need s : Int)) (by rw [← hneed]; exact wrap_i64 (by omega)) (by simp; omega) (by simp; omega) ⟨by omega, by omega, by omega⟩ ⟨by omega, by omega, by omega⟩
                have e5 : (5 + (need s : Int)).toNat = 5 + need s := by omega
                rw [e5] at this
                exact this
  · rw [if_pos (.inl hb)]
    exact next_a s l b hb
end Go.Proofs.Ytijohhdgecadnaa.Cn
