/- The plain law of CodeNames: for all whole numbers and texts in their kinds' bounds the printed function answers true. -/
import Derived.Test.YtfaoeafmgigpcaaFCodeNamesx1
import Derived.OpenShut
import Derived.Test.YtfaoeafmgigpcaaTk
import Derived.Test.YtfaoeafmgigpcaaCo
namespace Go.Proofs.Ytfaoeafmgigpcaa.Pure
open Go.RowKit Go.Proofs.Ytfaoeafmgigpcaa.FCodeNames Go.Proofs.YtfaoeafmgigpcaaW.PrintWords Go.Proofs.YtfaoeafmgigpcaaW.PrintLast Go.Proofs.Ytfaoeafmgigpcaa.Tk Go.Proofs.Ytfaoeafmgigpcaa.Co
set_option linter.unusedVariables false
set_option linter.unusedSimpArgs false

namespace CodeNamesB
theorem cclean_s (c : Int) : code_Clean.f c = some (cc c) := by
  unfold code_Clean.f code_Right.f cc
  by_cases h : c ≥ 0
  · by_cases h2 : c < 17
    · rw [if_pos h, decide_eq_true h2, if_pos ⟨h, h2⟩]; rfl
    · rw [if_pos h, decide_eq_false h2, if_neg (by omega)]; rfl
  · rw [if_neg h, if_neg (by omega)]; rfl
theorem crank_s (c : Int) : code_rank.f c = some (rk (cc c)) := by
  have h0 := cc_lo c; have h1 := cc_hi c
  unfold code_rank.f; simp only [cclean_s, Option.bind_some]; rw [w64 (by omega) (by omega)]; unfold rk; (repeat' split) <;> rfl
theorem cjoin_s (a b : Int) : code_Join.f a b = some (jn a b) := by
  unfold code_Join.f; simp only [cclean_s, crank_s, Option.bind_some, cc_cc]; unfold jn; split <;> rfl
theorem ctext_s (c : Int) : code_Text.f c = some (code_nm (cc c)) := by
  unfold code_Text.f; simp only [cclean_s, Option.bind_some]; rw [if_pos (cc_lo c), if_pos (cc_hi c)]
theorem cagain_s (c : Int) : code_Again.f c = some (decide (c = 14 ∨ c = 8)) := by
  unfold code_Again.f
  by_cases h : c = 14
  · rw [if_pos h]; simp [h]
  · rw [if_neg h]; congr 1; rw [Bool.eq_iff_iff]; simp [h]
theorem awake_s : hourglasslaw05_awake.f = some true := by
  unfold hourglasslaw05_awake.f; simp only [cjoin_s, ctext_s, cagain_s, Option.bind_some]; decide +kernel
end CodeNamesB
open CodeNamesB

theorem CodeNames : hourglasslaw05_CodeNames.Pure := by
  intro a b _ _
  unfold hourglasslaw05_CodeNames.f
  have fnd : code_find (code_nm (cc a)) 17 0 = (cc a, 0) := by
    rcases upto17 (cc_lo a) (cc_hi a) with h | h | h | h | h | h | h | h | h | h | h | h | h | h | h | h | h <;> rw [h] <;> decide +kernel
  have same : ∀ x y : Fin 17, ((code_nm (x.val : Int)).toList == (code_nm (y.val : Int)).toList) = ((x.val : Int) == (y.val : Int)) := by decide +kernel
  have e : ((code_nm (cc a)).toList == (code_nm (cc b)).toList) = (cc a == cc b) := by
    have a0 := cc_lo a; have a1 := cc_hi a; have b0 := cc_lo b; have b1 := cc_hi b
    have := same ⟨(cc a).toNat, by omega⟩ ⟨(cc b).toNat, by omega⟩
    simpa [Int.toNat_of_nonneg a0, Int.toNat_of_nonneg b0] using this
  simp only [ctext_s, cclean_s, code_Parse.f, fnd, awake_s, Option.bind_some]
  rw [if_pos trivial, if_pos trivial, e, if_pos (by simp)]

end Go.Proofs.Ytfaoeafmgigpcaa.Pure
