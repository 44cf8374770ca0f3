/- The plain law of TicksGrain: for all whole numbers and texts in their kinds' bounds the printed function answers true. -/
import Derived.Test.YtfaoeafmgigpcaaPTicksGrainx1
import Derived.OpenShut
import Derived.Test.YtfaoeafmgigpcaaTk
namespace Go.Proofs.Ytfaoeafmgigpcaa.Pure
open Go.RowKit Go.Proofs.Ytfaoeafmgigpcaa.PTicksGrain Go.Proofs.YtfaoeafmgigpcaaW.PrintWords Go.Proofs.YtfaoeafmgigpcaaW.PrintLast Go.Proofs.Ytfaoeafmgigpcaa.Tk
set_option linter.unusedVariables false
set_option linter.unusedSimpArgs false

namespace TicksGrainB
theorem clamp_s (a : Int) : ticks_Clamp.f a = some (cl a) := by
  unfold ticks_Clamp.f mn mx cl; congr 1; (repeat' split) <;> omega
theorem add_s (a b : Int) : ticks_Add.f a b = some (ad a b) := by
  have h1 := cl_lo a; have h2 := cl_hi a; have h3 := cl_lo b; have h4 := cl_hi b
  unfold ticks_Add.f; simp only [clamp_s, Option.bind_some]; rw [w64 (by omega) (by omega)]; rfl
theorem up_s (a b : Int) : ticks_Up.f a b = some (up a b) := by
  have h1 := cl_lo a; have h2 := cl_hi a; have h3 := gr_lo b; have h4 := gr_hi b
  have l := quot_lo (T := cl a) (gr_lo b); have u := quot_hi (T := cl a) (gr_lo b)
  have e1 : (cl a + gr b - 1) / gr b ≤ cl a + gr b - 1 := Int.ediv_le_self _ (by omega)
  have e0 : 0 ≤ (cl a + gr b - 1) / gr b := Int.ediv_nonneg (by omega) (by omega)
  have g : mx (cl b) 1 = gr b := rfl
  unfold ticks_Up.f; simp only [clamp_s, Option.bind_some, g]
  rw [if_neg (by omega), w64 (n := cl a + gr b) (by omega) (by omega), w64 (n := cl a + gr b - 1) (by omega) (by omega), Int.tdiv_eq_ediv_of_nonneg (by omega), w64 (n := (cl a + gr b - 1) / gr b) (by omega) (by omega), w64 (by omega) (by omega)]; rfl
theorem past_s (a b c : Int) : ticks_Past.f a b c = some (decide (up b c ≤ cl a)) := by
  unfold ticks_Past.f; simp only [clamp_s, up_s, Option.bind_some, ge_iff_le]
theorem awake_s : hourglasslaw01_awake.f = some true := by
  unfold hourglasslaw01_awake.f; simp only [up_s, add_s, past_s, Option.bind_some]; decide +kernel
end TicksGrainB
open TicksGrainB

theorem TicksGrain : hourglasslaw01_TicksGrain.Pure := by
  intro now later t g _ _ _ _
  refine ⟨1, ?_⟩
  have hg : mx (cl g) 1 = gr g := rfl
  have h1 := cl_lo t; have h2 := cl_hi t; have h3 := gr_lo g; have h4 := gr_hi g
  have l := up_lo t g; have u := up_hi t g; have ub : up t g ≤ 1125899906842624 := cl_hi _
  have e : Int.tmod (up t g) (gr g) = up t g % gr g := Int.tmod_eq_emod_of_nonneg (by omega)
  have main : hourglasslaw01_TicksGrain.j0 1 now later t g (up t g) (gr g) false = some true := by
    have fin : (if later < now then (some true : Option Bool) else (if decide (up t g ≤ cl now) = true then (if decide (up t g ≤ cl later) = true then some true else some false) else some true)) = some true := by
      by_cases hl : later < now
      · rw [if_pos hl]
      · have hm := cl_mono (show now ≤ later by omega)
        rw [if_neg hl]
        by_cases hp : up t g ≤ cl now
        · rw [if_pos (by simpa using hp), if_pos (by simp; omega)]
        · rw [if_neg (by simpa using hp)]
    unfold hourglasslaw01_TicksGrain.j0
    simp only [past_s, awake_s, Option.bind_some, e]
    rw [if_neg (by simp), if_neg (by omega)]
    by_cases hz : up t g % gr g = 0
    · rw [if_pos hz]; exact fin
    · rw [if_neg hz, if_pos ((up_mod t g).resolve_left hz)]; exact fin
  unfold hourglasslaw01_TicksGrain.f
  simp only [up_s, clamp_s, Option.bind_some, hg]
  rw [if_neg (by omega), w64 (by omega) (by omega), if_neg (by omega)]
  by_cases hu : up (up t g) g = up t g
  · rw [if_pos hu]; exact main
  · have ht := (up_up t g).resolve_left hu
    have hb : (up t g != 1125899906842624) = false := by simp [ht]
    rw [if_neg hu, hb]; exact main

end Go.Proofs.Ytfaoeafmgigpcaa.Pure
