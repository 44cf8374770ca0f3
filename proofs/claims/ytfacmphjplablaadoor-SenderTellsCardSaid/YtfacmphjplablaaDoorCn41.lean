
/- Contracts: products of times; a text's span. No condition. -/
import Derived.Test.YtfacmphjplablaaDoorCn1
import Derived.Test.YtfacmphjplablaaDoorCn40
import Derived.Test.YtfacmphjplablaaDoorSp11
namespace Go.Proofs.YtfacmphjplablaaDoor.Cn
open Go Go.Proofs Go.Proofs.YtfacmphjplablaaDoor.Av Go.Proofs.YtfacmphjplablaaDoor.Sp
set_option linter.unusedVariables false
set_option linter.unusedSimpArgs false
set_option maxRecDepth 100000
attribute [local irreducible] Fv Fp

theorem tmul_of (a b x y m : Int) (hx : 0 ≤ x ∧ x ≤ 1125899906842624) (hy : 0 ≤ y ∧ y ≤ 1125899906842624) (hm : clamp (x * y) = m) (n1 : Fv Tryd.prog 42 [.int .i64 a] (.int .i64 x)) (n2 : Fv Tryd.prog 42 [.int .i64 b] (.int .i64 y)) :
    Fv Tryd.prog 118 [.int .i64 a, .int .i64 b] (.int .i64 m) := by
  refine Fv.of_awp Tryd.func118 rfl (by kernel_rfl) rfl (Nat.le_of_ble_eq_true rfl) ?_
  by_cases h : y > 0
  · have b1 : decide (y > 0) = true := decide_eq_true h
    have b0 : (y == 0) = false := by simp; omega
    have hd : IntKind.i64.wrap ((1125899906842624 : Int).tdiv y) = 1125899906842624 / y := by
      have h1 : 0 ≤ 1125899906842624 / y := Int.ediv_nonneg (by omega) (by omega)
      have h2 : 1125899906842624 / y ≤ 1125899906842624 := Int.ediv_le_self _ (by omega)
      rw [Int.tdiv_eq_ediv_of_nonneg (by omega), wrap_i64 (by omega)]
    by_cases h2 : x > 1125899906842624 / y
    · have b2 : decide (x > IntKind.i64.wrap ((1125899906842624 : Int).tdiv y)) = true := decide_eq_true (by rw [hd]; exact h2)
      have h3 : 1125899906842624 < x * y := (Int.ediv_lt_iff_lt_mul h).1 h2
      have e : m = 1125899906842624 := by rw [← hm]; unfold clamp; rw [if_neg (by omega), if_pos (by omega)]
      repeat' (conv => whnf
               first
               | (refine And.intro (by kernel_rfl) ?_)
               | (refine And.intro ⟨by kernel_rfl, by kernel_rfl⟩ ?_)
               | (refine Or.inl ⟨_, n1, ?_⟩)
               | (refine ⟨_, n1, ?_⟩)
               | (refine Or.inl ⟨_, n2, ?_⟩)
               | (refine ⟨_, n2, ?_⟩)
               | (refine cond_1 b1 ?_)
               | (refine cond_f b0 ?_)
               | (refine cond_1 b2 ?_)
               | (refine cond_f ?_ ?_)
               | (refine ⟨_, ⟨by decide, rfl⟩, ?_⟩)
               | (refine cond_i (fun h => ?_) (fun h => ?_)))
      all_goals (conv => whnf)
      all_goals rw [e]
    · have b2 : decide (x > IntKind.i64.wrap ((1125899906842624 : Int).tdiv y)) = false := decide_eq_false (by rw [hd]; exact h2)
      have h3 : x * y ≤ 1125899906842624 := by
        have := (Int.le_ediv_iff_mul_le (a := x) (b := 1125899906842624) h).1 (by omega)
        exact this
      have h4 : 0 ≤ x * y := Int.mul_nonneg hx.1 hy.1
      have e : m = IntKind.i64.wrap (x * y) := by rw [← hm, clamp_id ⟨h4, h3⟩, wrap_i64 ⟨by omega, by omega⟩]
      repeat' (conv => whnf
               first
               | (refine And.intro (by kernel_rfl) ?_)
               | (refine And.intro ⟨by kernel_rfl, by kernel_rfl⟩ ?_)
               | (refine Or.inl ⟨_, n1, ?_⟩)
               | (refine ⟨_, n1, ?_⟩)
               | (refine Or.inl ⟨_, n2, ?_⟩)
               | (refine ⟨_, n2, ?_⟩)
               | (refine cond_1 b1 ?_)
               | (refine cond_f b0 ?_)
               | (refine cond_0 b2 ?_)
               | (refine cond_f ?_ ?_)
               | (refine ⟨_, ⟨by decide, rfl⟩, ?_⟩)
               | (refine cond_i (fun h => ?_) (fun h => ?_)))
      all_goals (conv => whnf)
      all_goals rw [e]
  · have b1 : decide (y > 0) = false := decide_eq_false h
    obtain rfl : y = 0 := by omega
    have e : m = IntKind.i64.wrap (x * 0) := by rw [← hm, Int.mul_zero]; rfl
    repeat' (conv => whnf
             first
             | (refine And.intro (by kernel_rfl) ?_)
             | (refine And.intro ⟨by kernel_rfl, by kernel_rfl⟩ ?_)
             | (refine Or.inl ⟨_, n1, ?_⟩)
             | (refine ⟨_, n1, ?_⟩)
             | (refine Or.inl ⟨_, n2, ?_⟩)
             | (refine ⟨_, n2, ?_⟩)
             | (refine cond_0 b1 ?_)
             | (refine cond_f ?_ ?_)
             | (refine ⟨_, ⟨by decide, rfl⟩, ?_⟩)
             | (refine cond_i (fun h => ?_) (fun h => ?_)))
    all_goals (conv => whnf)
    all_goals rw [e]
theorem ticks_MulT (a b : Int) : Fv Tryd.prog 118 [.int .i64 a, .int .i64 b] (.int .i64 (mulT a b)) :=
  tmul_of a b (clamp a) (clamp b) _ (clamp_bd a) (clamp_bd b) rfl (ticks_Clamp a) (ticks_Clamp b)
structure MulB where
  n : Int
  a : Int
  b : Int
end Go.Proofs.YtfacmphjplablaaDoor.Cn
