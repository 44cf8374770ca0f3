/- The plain law of TicksTell: for all whole numbers and texts in their kinds' bounds the printed function answers true. -/
import Derived.Test.YtfaoeafmgigpcaaMTicksTellx1
import Derived.OpenShut
import Derived.Test.YtfaoeafmgigpcaaTk
namespace Go.Proofs.Ytfaoeafmgigpcaa.Pure
open Go.RowKit Go.Proofs.Ytfaoeafmgigpcaa.MTicksTell Go.Proofs.YtfaoeafmgigpcaaW.PrintWords Go.Proofs.YtfaoeafmgigpcaaW.PrintLast Go.Proofs.Ytfaoeafmgigpcaa.Tk
set_option linter.unusedVariables false
set_option linter.unusedSimpArgs false

namespace TicksTellB
theorem clamp_s (a : Int) : ticks_Clamp.f a = some (cl a) := by
  unfold ticks_Clamp.f mn mx cl; congr 1; (repeat' split) <;> omega
theorem add_s (a b : Int) : ticks_Add.f a b = some (ad a b) := by
  have h1 := cl_lo a; have h2 := cl_hi a; have h3 := cl_lo b; have h4 := cl_hi b
  unfold ticks_Add.f; simp only [clamp_s, Option.bind_some]; rw [w64 (by omega) (by omega)]; rfl
theorem sub_s (a b : Int) : ticks_Sub.f a b = some (sb a b) := by
  have h1 := cl_lo a; have h2 := cl_hi a; have h3 := cl_lo b; have h4 := cl_hi b
  unfold ticks_Sub.f; simp only [clamp_s, Option.bind_some]; rw [w64 (by omega) (by omega)]; unfold mx sb; congr 1; (repeat' split) <;> omega
theorem mul_s (a b : Int) : ticks_Mul.f a b = some (ml a b) := by
  have h1 := cl_lo a; have h2 := cl_hi a; have h3 := cl_lo b; have h4 := cl_hi b
  unfold ticks_Mul.f; simp only [clamp_s, Option.bind_some]
  by_cases hb : cl b > 0
  · have e1 : (1125899906842624 : Int) / cl b ≤ 1125899906842624 := Int.ediv_le_self _ (by omega)
    have e0 : 0 ≤ (1125899906842624 : Int) / cl b := Int.ediv_nonneg (by omega) (by omega)
    rw [if_pos hb, if_neg (by omega), w64 (by omega) (by omega)]
    have e := Int.ediv_lt_iff_lt_mul (a := 1125899906842624) (b := cl a) hb
    by_cases hc : cl a > 1125899906842624 / cl b
    · rw [if_pos hc]; unfold ml; rw [cl_top (a := cl a * cl b) (by have := e.1 hc; omega)]
    · have hm : ¬ (1125899906842624 < cl a * cl b) := fun h => hc (e.2 h)
      have hn : 0 ≤ cl a * cl b := Int.mul_nonneg h1 h3
      rw [if_neg hc, w64 (by omega) (by omega)]; unfold ml; rw [cl_id (a := cl a * cl b) (by omega) (by omega)]
  · have hz : cl b = 0 := by omega
    rw [if_neg hb, hz, Int.mul_zero]; unfold ml; rw [hz, Int.mul_zero]; decide +kernel
theorem up_s (a b : Int) : ticks_Up.f a b = some (up a b) := by
  have h1 := cl_lo a; have h2 := cl_hi a; have h3 := gr_lo b; have h4 := gr_hi b
  have l := quot_lo (T := cl a) (gr_lo b); have u := quot_hi (T := cl a) (gr_lo b)
  have e1 : (cl a + gr b - 1) / gr b ≤ cl a + gr b - 1 := Int.ediv_le_self _ (by omega)
  have e0 : 0 ≤ (cl a + gr b - 1) / gr b := Int.ediv_nonneg (by omega) (by omega)
  have g : mx (cl b) 1 = gr b := rfl
  unfold ticks_Up.f; simp only [clamp_s, Option.bind_some, g]
  rw [if_neg (by omega), w64 (n := cl a + gr b) (by omega) (by omega), w64 (n := cl a + gr b - 1) (by omega) (by omega), Int.tdiv_eq_ediv_of_nonneg (by omega), w64 (n := (cl a + gr b - 1) / gr b) (by omega) (by omega), w64 (by omega) (by omega)]; rfl
theorem past_s (a b c : Int) : ticks_Past.f a b c = some (decide (up b c ≤ cl a)) := by
  unfold ticks_Past.f; simp only [clamp_s, up_s, Option.bind_some, ge_iff_le]
theorem awake_s : hourglasslaw01_awake.f = some true := by
  unfold hourglasslaw01_awake.f; simp only [up_s, add_s, past_s, Option.bind_some]; decide +kernel
theorem rclamp_s (a : Int) : hourglassref01_Clamp.f a = some (cl a) := by
  unfold hourglassref01_Clamp.f cl; (repeat' split) <;> first | rfl | omega
theorem radd_s (a b : Int) : hourglassref01_Add.f a b = some (ad a b) := by
  have h1 := cl_lo a; have h2 := cl_hi a; have h3 := cl_lo b; have h4 := cl_hi b
  unfold hourglassref01_Add.f; simp only [rclamp_s, Option.bind_some]; rw [w64 (by omega) (by omega), w64 (by omega) (by omega)]
  by_cases h : cl a > 1125899906842624 - cl b
  · rw [if_pos h]; unfold ad; rw [cl_top (a := cl a + cl b) (by omega)]
  · rw [if_neg h]; unfold ad; rw [cl_id (a := cl a + cl b) (by omega) (by omega)]
theorem rsub_s (a b : Int) : hourglassref01_Sub.f a b = some (sb a b) := by
  have h1 := cl_lo a; have h2 := cl_hi a; have h3 := cl_lo b; have h4 := cl_hi b
  unfold hourglassref01_Sub.f; simp only [rclamp_s, Option.bind_some]; rw [w64 (by omega) (by omega)]; unfold sb; split <;> rfl
theorem rmul_l (k : Nat) : ∀ (x n o : Int), 0 ≤ x → x ≤ 1125899906842624 → 0 ≤ n → n ≤ 1125899906842624 → n < 2 ^ k → 0 ≤ o → o ≤ 1125899906842624 →
    hourglassref01_Mul.l0 (k + 1) x n o = some (cl (o + x * n)) := by
  induction k with
  | zero =>
    intro x n o _ _ h0 _ h1 ho ho'
    have hz : n = 0 := by simp at h1; omega
    subst hz
    simp only [hourglassref01_Mul.l0]; rw [if_neg (by omega), Int.mul_zero, Int.add_zero, cl_id ho ho']
  | succ k ih =>
    intro x n o hx hx' h0 hn h1 ho ho'
    by_cases hz : n = 0
    · subst hz; simp only [hourglassref01_Mul.l0]; rw [if_neg (by omega), Int.mul_zero, Int.add_zero, cl_id ho ho']
    · have hp : (2 : Int) ^ (k + 1) = 2 ^ k * 2 := Int.pow_succ 2 k
      have c1 : cl o = o := cl_id ho ho'
      have c2 : cl x = x := cl_id hx hx'
      have ed : Int.tdiv n 2 = n / 2 := Int.tdiv_eq_ediv_of_nonneg h0
      have em : Int.tmod n 2 = n % 2 := Int.tmod_eq_emod_of_nonneg h0
      have eq : n = 2 * (n / 2) + n % 2 := by omega
      have r1 := cl_lo (x + x); have r2 := cl_hi (x + x); have r3 := cl_lo (o + x); have r4 := cl_hi (o + x)
      rw [hourglassref01_Mul.l0]
      simp only [radd_s, Option.bind_some, ed, em]
      rw [if_pos (by omega), w64 (n := n / 2) (by omega) (by omega)]
      unfold ad; rw [c1, c2]
      by_cases hr : n % 2 = 1
      · rw [if_pos hr, ih _ _ _ r1 r2 (by omega) (by omega) (by omega) r3 r4]
        have := dbl_step (o := o) (a := x) (n := n) ho hx h0 (n / 2) 1 (by omega) (by omega) (Or.inr rfl)
        rw [Int.one_mul] at this; rw [this]
      · rw [if_neg hr, ih _ _ _ r1 r2 (by omega) (by omega) (by omega) ho ho']
        have := dbl_step (o := o) (a := x) (n := n) ho hx h0 (n / 2) 0 (by omega) (by omega) (Or.inl rfl)
        rw [Int.zero_mul, Int.add_zero, c1] at this; rw [this]
theorem rmul_s (a b : Int) : hourglassref01_Mul.f 52 a b = some (ml a b) := by
  have h1 := cl_lo a; have h2 := cl_hi a; have h3 := cl_lo b; have h4 := cl_hi b
  unfold hourglassref01_Mul.f; simp only [rclamp_s, Option.bind_some]
  rw [rmul_l 51 _ _ _ h1 h2 h3 h4 (by omega) (by omega) (by omega), Int.zero_add]; rfl
theorem rup_s (a b : Int) : hourglassref01_Up.f a b = some (up a b) := by
  have h1 := cl_lo a; have h2 := cl_hi a; have h3 := cl_lo b; have h4 := cl_hi b
  unfold hourglassref01_Up.f; simp only [rclamp_s, Option.bind_some, radd_s]
  rw [Int.tmod_eq_emod_of_nonneg h1, Int.tmod_eq_emod_of_nonneg h1, up_rest]
  by_cases hz : cl b = 0
  · have g : gr b = 1 := by unfold gr; rw [if_pos (by omega)]
    rw [if_pos hz, g, if_pos (by omega), if_pos (by omega)]
  · have g : gr b = cl b := by unfold gr; rw [if_neg (by omega)]
    have l := Int.emod_nonneg (cl a) hz
    have u := Int.emod_lt_of_pos (cl a) (show 0 < cl b by omega)
    have m : cl a % cl b ≤ cl a := by
      have := Int.mul_ediv_add_emod (cl a) (cl b); have := Int.mul_nonneg h3 (Int.ediv_nonneg h1 h3); omega
    rw [if_neg hz, g]
    by_cases hr : cl a % cl b = 0
    · rw [if_pos hr, if_pos hr]
    · rw [if_neg hr, if_neg hr, w64 (by omega) (by omega)]; unfold ad; rw [cl_cl, cl_id (a := cl a - cl a % cl b) (by omega) (by omega)]
theorem rpast_s (a b c : Int) : hourglassref01_Past.f a b c = some (decide (up b c ≤ cl a)) := by
  unfold hourglassref01_Past.f; simp only [rclamp_s, rup_s, Option.bind_some]
end TicksTellB
open TicksTellB

theorem TicksTell : hourglasslaw01_TicksTell.Pure := by
  intro a b c _ _ _
  refine ⟨52, ?_⟩
  unfold hourglasslaw01_TicksTell.f
  simp only [clamp_s, rclamp_s, add_s, radd_s, sub_s, rsub_s, mul_s, rmul_s, up_s, rup_s, past_s, rpast_s, awake_s, Option.bind_some, if_true, beq_self_eq_true]

end Go.Proofs.Ytfaoeafmgigpcaa.Pure
