
/- Contracts: products of times; a text's span. No condition. -/
import Derived.Test.YtfpincfmcjiokaaCn1
import Derived.Test.YtfpincfmcjiokaaCn40u
import Derived.Test.YtfpincfmcjiokaaSp11
namespace Go.Proofs.Ytfpincfmcjiokaa.Cn
open Go Go.Proofs Go.Proofs.Ytfpincfmcjiokaa.Av Go.Proofs.Ytfpincfmcjiokaa.Sp
set_option linter.unusedVariables false
set_option linter.unusedSimpArgs false
set_option maxRecDepth 100000
attribute [local irreducible] Fv Fp

theorem tmul_of (a b x y m : Int) (hx : 0 ≤ x ∧ x ≤ 1125899906842624) (hy : 0 ≤ y ∧ y ≤ 1125899906842624) (hm : clamp (x * y) = m) (n1 : Fv Try.prog 63 [.int .i64 a] (.int .i64 x)) (n2 : Fv Try.prog 63 [.int .i64 b] (.int .i64 y)) :
    Fv Try.prog 61 [.int .i64 a, .int .i64 b] (.int .i64 m) := by
  refine Fv.of_awp Try.func61 rfl (by kernel_rfl) rfl (Nat.le_of_ble_eq_true rfl) ?_
  by_cases h : y > 0
  · have b1 : decide (y > 0) = true := decide_eq_true h
    have b0 : (y == 0) = false := by simp; omega
    have hd : IntKind.i64.wrap ((1125899906842624 : Int).tdiv y) = 1125899906842624 / y := by
      have h1 : 0 ≤ 1125899906842624 / y := Int.ediv_nonneg (by omega) (by omega)
      have h2 : 1125899906842624 / y ≤ 1125899906842624 := Int.ediv_le_self _ (by omega)
      rw [Int.tdiv_eq_ediv_of_nonneg (by omega), wrap_i64 (by omega)]
    by_cases h2 : x > 1125899906842624 / y
    · have b2 : decide (x > IntKind.i64.wrap ((1125899906842624 : Int).tdiv y)) = true := decide_eq_true (by rw [hd]; exact h2)
      have h3 : 1125899906842624 < x * y := (Int.ediv_lt_iff_lt_mul h).1 h2
      have e : m = 1125899906842624 := by rw [← hm]; unfold clamp; rw [if_neg (by omega), if_pos (by omega)]
      repeat' (conv => whnf
               first
               | (refine And.intro (by kernel_rfl) ?_)
               | (refine And.intro ⟨by kernel_rfl, by kernel_rfl⟩ ?_)
               | (refine Or.inl ⟨_, n1, ?_⟩)
               | (refine ⟨_, n1, ?_⟩)
               | (refine Or.inl ⟨_, n2, ?_⟩)
               | (refine ⟨_, n2, ?_⟩)
               | (refine cond_1 b1 ?_)
               | (refine cond_f b0 ?_)
               | (refine cond_1 b2 ?_)
               | (refine cond_f ?_ ?_)
               | (refine ⟨_, ⟨by decide, rfl⟩, ?_⟩)
               | (refine cond_i (fun h => ?_) (fun h => ?_)))
      all_goals (conv => whnf)
      all_goals rw [e]
    · have b2 : decide (x > IntKind.i64.wrap ((1125899906842624 : Int).tdiv y)) = false := decide_eq_false (by rw [hd]; exact h2)
      have h3 : x * y ≤ 1125899906842624 := by
        have := (Int.le_ediv_iff_mul_le (a := x) (b := 1125899906842624) h).1 (by omega)
        exact this
      have h4 : 0 ≤ x * y := Int.mul_nonneg hx.1 hy.1
      have e : m = IntKind.i64.wrap (x * y) := by rw [← hm, clamp_id ⟨h4, h3⟩, wrap_i64 ⟨by omega, by omega⟩]
      repeat' (conv => whnf
               first
               | (refine And.intro (by kernel_rfl) ?_)
               | (refine And.intro ⟨by kernel_rfl, by kernel_rfl⟩ ?_)
               | (refine Or.inl ⟨_, n1, ?_⟩)
               | (refine ⟨_, n1, ?_⟩)
               | (refine Or.inl ⟨_, n2, ?_⟩)
               | (refine ⟨_, n2, ?_⟩)
               | (refine cond_1 b1 ?_)
               | (refine cond_f b0 ?_)
               | (refine cond_0 b2 ?_)
               | (refine cond_f ?_ ?_)
               | (refine ⟨_, ⟨by decide, rfl⟩, ?_⟩)
               | (refine cond_i (fun h => ?_) (fun h => ?_)))
      all_goals (conv => whnf)
      all_goals rw [e]
  · have b1 : decide (y > 0) = false := decide_eq_false h
    obtain rfl : y = 0 := by omega
    have e : m = IntKind.i64.wrap (x * 0) := by rw [← hm, Int.mul_zero]; rfl
    repeat' (conv => whnf
             first
             | (refine And.intro (by kernel_rfl) ?_)
             | (refine And.intro ⟨by kernel_rfl, by kernel_rfl⟩ ?_)
             | (refine Or.inl ⟨_, n1, ?_⟩)
             | (refine ⟨_, n1, ?_⟩)
             | (refine Or.inl ⟨_, n2, ?_⟩)
             | (refine ⟨_, n2, ?_⟩)
             | (refine cond_0 b1 ?_)
             | (refine cond_f ?_ ?_)
             | (refine ⟨_, ⟨by decide, rfl⟩, ?_⟩)
             | (refine cond_i (fun h => ?_) (fun h => ?_)))
    all_goals (conv => whnf)
    all_goals rw [e]
theorem ticks_MulT (a b : Int) : Fv Try.prog 61 [.int .i64 a, .int .i64 b] (.int .i64 (mulT a b)) :=
  tmul_of a b (clamp a) (clamp b) _ (clamp_bd a) (clamp_bd b) rfl (ticks_Clamp a) (ticks_Clamp b)
structure MulB where
  n : Int
  a : Int
  b : Int
theorem rmul_of (a b x y m : Int) (hx : 0 ≤ x ∧ x ≤ 1125899906842624) (hy : 0 ≤ y ∧ y ≤ 1125899906842624) (hm : clamp (x * y) = m) (n1 : Fv Try.prog 58 [.int .i64 a] (.int .i64 x)) (n2 : Fv Try.prog 58 [.int .i64 b] (.int .i64 y)) :
    Fv Try.prog 49 [.int .i64 a, .int .i64 b] (.int .i64 m) := by
  refine Fv.of_awp Try.func49 rfl (by kernel_rfl) rfl (Nat.le_of_ble_eq_true rfl) ?_
  repeat' (conv => whnf
           first
           | (refine And.intro (by kernel_rfl) ?_)
           | (refine And.intro ⟨by kernel_rfl, by kernel_rfl⟩ ?_)
           | (refine Or.inl ⟨_, n1, ?_⟩)
           | (refine ⟨_, n1, ?_⟩)
           | (refine Or.inl ⟨_, n2, ?_⟩)
           | (refine ⟨_, n2, ?_⟩)
           | (refine cond_f ?_ ?_)
           | (refine ⟨_, ⟨by decide, rfl⟩, ?_⟩)
           | (refine cond_i (fun h => ?_) (fun h => ?_)))
  all_goals (conv => whnf)
  refine Has.loopD [0, 1, 5] [] (fun j st => ∃ s : MulB, (0 ≤ s.n ∧ s.n ≤ 1125899906842624) ∧ (0 ≤ s.a ∧ s.a ≤ 1125899906842624) ∧ (0 ≤ s.b ∧ s.b ≤ 1125899906842624) ∧ clamp (s.n + s.a * s.b) = m ∧ s.b.toNat = j ∧ st = St.of 24 [(0, .int .i64 s.a), (1, .int .i64 s.b), (5, .int .i64 s.n)] [] []) y.toNat ⟨⟨0, x, y⟩, by simp, hx, hy, by simpa using hm, rfl, rfl⟩ (fun j st hJ => ?_)
  obtain ⟨⟨n, a, b⟩, h1, h2, h3, h4, rfl, rfl⟩ := hJ
  simp only at h1 h2 h3 h4 ⊢
  by_cases hb : b > 0
  · have b1 : decide (b > 0) = true := decide_eq_true hb
    have q1 : b.tmod 2 = b % 2 := Int.tmod_eq_emod_of_nonneg h3.1
    have q2 : IntKind.i64.wrap (b.tdiv 2) = b / 2 := by rw [Int.tdiv_eq_ediv_of_nonneg h3.1, wrap_i64 (by omega)]
    have hr := mul_round h1 h2 h3.1
    rw [h4] at hr
    have ha2 := clamp_bd (clamp a + clamp a)
    have na := ref01_Add a a
    have nn := ref01_Add n a
    by_cases ho : b % 2 = 1
    · have b2 : (b.tmod 2 == 1) = true := by rw [q1]; simpa using ho
      rw [if_pos ho] at hr
      refine awp_go ?_
      repeat' (conv => whnf
               first
               | (refine And.intro (by kernel_rfl) ?_)
               | (refine And.intro ⟨by kernel_rfl, by kernel_rfl⟩ ?_)
               | (refine cond_1 b1 ?_)
               | (refine cond_1 b2 ?_)
               | (refine Or.inl ⟨_, nn, ?_⟩)
               | (refine ⟨_, nn, ?_⟩)
               | (refine Or.inl ⟨_, na, ?_⟩)
               | (refine ⟨_, na, ?_⟩)
               | (refine cond_f ?_ ?_)
               | (refine ⟨_, ⟨by decide, rfl⟩, ?_⟩)
               | (refine cond_i (fun h => ?_) (fun h => ?_)))
      all_goals (conv => whnf)
      refine ⟨(b / 2).toNat, by omega, ⟨add n a, add a a, b / 2⟩, clamp_bd _, ha2, ⟨by simp only; omega, by simp only; omega⟩, hr, rfl, ?_⟩
      simp only
      rw [← q2]
      rfl
    · have b2 : (b.tmod 2 == 1) = false := by rw [q1]; simpa using ho
      rw [if_neg ho] at hr
      refine awp_go ?_
      repeat' (conv => whnf
               first
               | (refine And.intro (by kernel_rfl) ?_)
               | (refine And.intro ⟨by kernel_rfl, by kernel_rfl⟩ ?_)
               | (refine cond_1 b1 ?_)
               | (refine cond_0 b2 ?_)
               | (refine Or.inl ⟨_, na, ?_⟩)
               | (refine ⟨_, na, ?_⟩)
               | (refine cond_f ?_ ?_)
               | (refine ⟨_, ⟨by decide, rfl⟩, ?_⟩)
               | (refine cond_i (fun h => ?_) (fun h => ?_)))
      all_goals (conv => whnf)
      refine ⟨(b / 2).toNat, by omega, ⟨n, add a a, b / 2⟩, h1, ha2, ⟨by simp only; omega, by simp only; omega⟩, hr, rfl, ?_⟩
      simp only
      rw [← q2]
      rfl
  · have b1 : decide (b > 0) = false := decide_eq_false hb
    have e : m = n := by rw [← h4, show b = 0 from by omega, Int.mul_zero, Int.add_zero, clamp_id h1]
    refine awp_go ?_
    repeat' (conv => whnf
             first
             | (refine And.intro (by kernel_rfl) ?_)
             | (refine And.intro ⟨by kernel_rfl, by kernel_rfl⟩ ?_)
             | (refine cond_0 b1 ?_)
             | (refine cond_f ?_ ?_)
             | (refine ⟨_, ⟨by decide, rfl⟩, ?_⟩)
             | (refine cond_i (fun h => ?_) (fun h => ?_)))
    all_goals (conv => whnf)
    all_goals rw [e]
theorem ref01_Mul (a b : Int) : Fv Try.prog 49 [.int .i64 a, .int .i64 b] (.int .i64 (mulT a b)) :=
  rmul_of a b (clamp a) (clamp b) _ (clamp_bd a) (clamp_bd b) rfl (ref01_Clamp a) (ref01_Clamp b)
end Go.Proofs.Ytfpincfmcjiokaa.Cn
