/- The plain law of TicksRise: for all whole numbers and texts in their kinds' bounds the printed function answers true. -/
import Derived.Test.YtfaoeafmgigpcaaMTicksRisex1
import Derived.OpenShut
import Derived.Test.YtfaoeafmgigpcaaTk
namespace Go.Proofs.Ytfaoeafmgigpcaa.Pure
open Go.RowKit Go.Proofs.Ytfaoeafmgigpcaa.MTicksRise Go.Proofs.YtfaoeafmgigpcaaW.PrintWords Go.Proofs.YtfaoeafmgigpcaaW.PrintLast Go.Proofs.Ytfaoeafmgigpcaa.Tk
set_option linter.unusedVariables false
set_option linter.unusedSimpArgs false

namespace TicksRiseB
theorem clamp_s (a : Int) : ticks_Clamp.f a = some (cl a) := by
  unfold ticks_Clamp.f mn mx cl; congr 1; (repeat' split) <;> omega
theorem add_s (a b : Int) : ticks_Add.f a b = some (ad a b) := by
  have h1 := cl_lo a; have h2 := cl_hi a; have h3 := cl_lo b; have h4 := cl_hi b
  unfold ticks_Add.f; simp only [clamp_s, Option.bind_some]; rw [w64 (by omega) (by omega)]; rfl
theorem sub_s (a b : Int) : ticks_Sub.f a b = some (sb a b) := by
  have h1 := cl_lo a; have h2 := cl_hi a; have h3 := cl_lo b; have h4 := cl_hi b
  unfold ticks_Sub.f; simp only [clamp_s, Option.bind_some]; rw [w64 (by omega) (by omega)]; unfold mx sb; congr 1; (repeat' split) <;> omega
theorem mul_s (a b : Int) : ticks_Mul.f a b = some (ml a b) := by
  have h1 := cl_lo a; have h2 := cl_hi a; have h3 := cl_lo b; have h4 := cl_hi b
  unfold ticks_Mul.f; simp only [clamp_s, Option.bind_some]
  by_cases hb : cl b > 0
  · have e1 : (1125899906842624 : Int) / cl b ≤ 1125899906842624 := Int.ediv_le_self _ (by omega)
    have e0 : 0 ≤ (1125899906842624 : Int) / cl b := Int.ediv_nonneg (by omega) (by omega)
    rw [if_pos hb, if_neg (by omega), w64 (by omega) (by omega)]
    have e := Int.ediv_lt_iff_lt_mul (a := 1125899906842624) (b := cl a) hb
    by_cases hc : cl a > 1125899906842624 / cl b
    · rw [if_pos hc]; unfold ml; rw [cl_top (a := cl a * cl b) (by have := e.1 hc; omega)]
    · have hm : ¬ (1125899906842624 < cl a * cl b) := fun h => hc (e.2 h)
      have hn : 0 ≤ cl a * cl b := Int.mul_nonneg h1 h3
      rw [if_neg hc, w64 (by omega) (by omega)]; unfold ml; rw [cl_id (a := cl a * cl b) (by omega) (by omega)]
  · have hz : cl b = 0 := by omega
    rw [if_neg hb, hz, Int.mul_zero]; unfold ml; rw [hz, Int.mul_zero]; decide +kernel
theorem up_s (a b : Int) : ticks_Up.f a b = some (up a b) := by
  have h1 := cl_lo a; have h2 := cl_hi a; have h3 := gr_lo b; have h4 := gr_hi b
  have l := quot_lo (T := cl a) (gr_lo b); have u := quot_hi (T := cl a) (gr_lo b)
  have e1 : (cl a + gr b - 1) / gr b ≤ cl a + gr b - 1 := Int.ediv_le_self _ (by omega)
  have e0 : 0 ≤ (cl a + gr b - 1) / gr b := Int.ediv_nonneg (by omega) (by omega)
  have g : mx (cl b) 1 = gr b := rfl
  unfold ticks_Up.f; simp only [clamp_s, Option.bind_some, g]
  rw [if_neg (by omega), w64 (n := cl a + gr b) (by omega) (by omega), w64 (n := cl a + gr b - 1) (by omega) (by omega), Int.tdiv_eq_ediv_of_nonneg (by omega), w64 (n := (cl a + gr b - 1) / gr b) (by omega) (by omega), w64 (by omega) (by omega)]; rfl
theorem past_s (a b c : Int) : ticks_Past.f a b c = some (decide (up b c ≤ cl a)) := by
  unfold ticks_Past.f; simp only [clamp_s, up_s, Option.bind_some, ge_iff_le]
theorem awake_s : hourglasslaw01_awake.f = some true := by
  unfold hourglasslaw01_awake.f; simp only [up_s, add_s, past_s, Option.bind_some]; decide +kernel
end TicksRiseB
open TicksRiseB

theorem TicksRise : hourglasslaw01_TicksRise.Pure := by
  intro a b c _ _ _
  refine ⟨1, ?_⟩
  have main : ∀ x y : Int, x ≤ y → hourglasslaw01_TicksRise.j0 1 x y c = some true := by
    intro x y h
    unfold hourglasslaw01_TicksRise.j0
    simp only [add_s, sub_s, mul_s, up_s, clamp_s, awake_s, Option.bind_some]
    rw [if_pos (cl_mono h), if_pos (ad_mono c h), if_pos (sb_mono c h), if_pos (show sb c x ≥ sb c y from sb_anti c h), if_pos (ml_mono c h), if_pos (up_mono c h)]
  unfold hourglasslaw01_TicksRise.f
  by_cases h : a > b
  · rw [if_pos h]; exact main _ _ (by omega)
  · rw [if_neg h]; exact main _ _ (by omega)

end Go.Proofs.Ytfaoeafmgigpcaa.Pure
