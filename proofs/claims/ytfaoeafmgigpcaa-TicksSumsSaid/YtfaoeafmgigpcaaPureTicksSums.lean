/- The plain law of TicksSums: for all whole numbers and texts in their kinds' bounds the printed function answers true. -/
import Derived.Test.YtfaoeafmgigpcaaPTicksSumsx1
import Derived.OpenShut
import Derived.Test.YtfaoeafmgigpcaaTk
namespace Go.Proofs.Ytfaoeafmgigpcaa.Pure
open Go.RowKit Go.Proofs.Ytfaoeafmgigpcaa.PTicksSums Go.Proofs.YtfaoeafmgigpcaaW.PrintWords Go.Proofs.YtfaoeafmgigpcaaW.PrintLast Go.Proofs.Ytfaoeafmgigpcaa.Tk
set_option linter.unusedVariables false
set_option linter.unusedSimpArgs false

namespace TicksSumsB
theorem clamp_s (a : Int) : ticks_Clamp.f a = some (cl a) := by
  unfold ticks_Clamp.f mn mx cl; congr 1; (repeat' split) <;> omega
theorem add_s (a b : Int) : ticks_Add.f a b = some (ad a b) := by
  have h1 := cl_lo a; have h2 := cl_hi a; have h3 := cl_lo b; have h4 := cl_hi b
  unfold ticks_Add.f; simp only [clamp_s, Option.bind_some]; rw [w64 (by omega) (by omega)]; rfl
theorem sub_s (a b : Int) : ticks_Sub.f a b = some (sb a b) := by
  have h1 := cl_lo a; have h2 := cl_hi a; have h3 := cl_lo b; have h4 := cl_hi b
  unfold ticks_Sub.f; simp only [clamp_s, Option.bind_some]; rw [w64 (by omega) (by omega)]; unfold mx sb; congr 1; (repeat' split) <;> omega
theorem up_s (a b : Int) : ticks_Up.f a b = some (up a b) := by
  have h1 := cl_lo a; have h2 := cl_hi a; have h3 := gr_lo b; have h4 := gr_hi b
  have l := quot_lo (T := cl a) (gr_lo b); have u := quot_hi (T := cl a) (gr_lo b)
  have e1 : (cl a + gr b - 1) / gr b ≤ cl a + gr b - 1 := Int.ediv_le_self _ (by omega)
  have e0 : 0 ≤ (cl a + gr b - 1) / gr b := Int.ediv_nonneg (by omega) (by omega)
  have g : mx (cl b) 1 = gr b := rfl
  unfold ticks_Up.f; simp only [clamp_s, Option.bind_some, g]
  rw [if_neg (by omega), w64 (n := cl a + gr b) (by omega) (by omega), w64 (n := cl a + gr b - 1) (by omega) (by omega), Int.tdiv_eq_ediv_of_nonneg (by omega), w64 (n := (cl a + gr b - 1) / gr b) (by omega) (by omega), w64 (by omega) (by omega)]; rfl
theorem past_s (a b c : Int) : ticks_Past.f a b c = some (decide (up b c ≤ cl a)) := by
  unfold ticks_Past.f; simp only [clamp_s, up_s, Option.bind_some, ge_iff_le]
theorem awake_s : hourglasslaw01_awake.f = some true := by
  unfold hourglasslaw01_awake.f; simp only [up_s, add_s, past_s, Option.bind_some]; decide +kernel
end TicksSumsB
open TicksSumsB

theorem TicksSums : hourglasslaw01_TicksSums.Pure := by
  intro a b c _ _ _
  refine ⟨1, ?_⟩
  have g := ad_ge a b
  have hd : decide (ad a b < cl a) = false := by simp; omega
  unfold hourglasslaw01_TicksSums.f
  simp only [add_s, clamp_s, Option.bind_some]
  rw [if_pos (ad_comm a b), if_pos (ad_assoc a b c), hd]
  unfold hourglasslaw01_TicksSums.j0
  simp only [sub_s, clamp_s, awake_s, Option.bind_some]
  rw [if_neg (by simp)]
  rcases ad_sb a b with h | h
  · rw [if_pos h]
  · rw [if_pos h]; split <;> rfl

end Go.Proofs.Ytfaoeafmgigpcaa.Pure
