/- The plain law of BackoffRises: for all whole numbers and texts in their kinds' bounds the printed function answers true. -/
import Derived.Test.YtfaoeafmgigpcaaPBackoffRisesx1
import Derived.OpenShut
import Derived.Test.YtfaoeafmgigpcaaTk
import Derived.Test.YtfaoeafmgigpcaaBo
namespace Go.Proofs.Ytfaoeafmgigpcaa.Pure
open Go.RowKit Go.Proofs.Ytfaoeafmgigpcaa.PBackoffRises Go.Proofs.YtfaoeafmgigpcaaW.PrintWords Go.Proofs.YtfaoeafmgigpcaaW.PrintLast Go.Proofs.Ytfaoeafmgigpcaa.Tk Go.Proofs.Ytfaoeafmgigpcaa.Bo
set_option linter.unusedVariables false
set_option linter.unusedSimpArgs false

namespace BackoffRisesB
theorem clamp_s (a : Int) : ticks_Clamp.f a = some (cl a) := by
  unfold ticks_Clamp.f mn mx cl; congr 1; (repeat' split) <;> omega
theorem add_s (a b : Int) : ticks_Add.f a b = some (ad a b) := by
  have h1 := cl_lo a; have h2 := cl_hi a; have h3 := cl_lo b; have h4 := cl_hi b
  unfold ticks_Add.f; simp only [clamp_s, Option.bind_some]; rw [w64 (by omega) (by omega)]; rfl
theorem step_l (m : Int) (hm0 : 0 ≤ m) (hm1 : m ≤ 1125899906842624) (N : Int) (hN : N ≤ 64) (d : Nat) : ∀ (k : Nat) (x i : Int), 0 ≤ x → x ≤ 1125899906842624 → 0 ≤ i → N - i = d → d < k →
    backoff_Step.l0 k x m N i = some (if m < rep d x then m else rep d x) := by
  induction d with
  | zero =>
    intro k x i h0 h1 hi hd hk
    obtain ⟨k, rfl⟩ : ∃ j, k = j + 1 := ⟨k - 1, by omega⟩
    simp only [backoff_Step.l0]; rw [if_neg (by omega)]; rfl
  | succ d ih =>
    intro k x i h0 h1 hi hd hk
    obtain ⟨k, rfl⟩ : ∃ j, k = j + 1 := ⟨k - 1, by omega⟩
    have b := rep_bd (d + 1) x h0 h1
    simp only [backoff_Step.l0]; rw [if_pos (by omega)]
    by_cases hx : x ≥ m
    · rw [if_pos hx]; congr 1; unfold mn; (repeat' split) <;> omega
    · have c : cl x = x := cl_id h0 h1
      have e : ad x x = cl (x + x) := by unfold ad; rw [c]
      rw [if_neg hx, add_s, Option.bind_some, e, w64 (by omega) (by omega), ih k _ _ (cl_lo _) (cl_hi _) (by omega) (by omega) (by omega)]; rfl
theorem step_s (k : Nat) (hk : 64 < k) (b m : Int) {att : Int} (h : (Lit.int .i64 att).wf = true) : backoff_Step.f k b m att = some (stp b m att) := by
  have hb := bounds_i64 h
  unfold backoff_Step.f; simp only [clamp_s, Option.bind_some]
  have e : mn (wrap64 ((mx att 1) - 1)) 64 = (nn att : Int) := by
    have : wrap64 ((mx att 1) - 1) = mx att 1 - 1 := by apply w64 <;> (unfold mx; split <;> omega)
    rw [this]; unfold mn mx nn; (repeat' split) <;> omega
  have hn : (nn att : Int) ≤ 64 := by unfold nn; (repeat' split) <;> omega
  rw [e, step_l _ (cl_lo m) (cl_hi m) _ hn (nn att) k _ _ (cl_lo b) (cl_hi b) (by omega) (by omega) (by omega)]; rfl
theorem delay_s (k : Nat) (hk : 64 < k) (b m : Int) {att : Int} (h : (Lit.int .i64 att).wf = true) (j : Int) : backoff_Delay.f k b m att j = some (dly (stp b m att) j) := by
  unfold backoff_Delay.f; rw [step_s k hk b m h]; simp only [Option.bind_some]
  have h0 := stp_lo b m att; have h1 := stp_hi b m att
  generalize stp b m att = s at h0 h1 ⊢
  have J : mn (mx j 0) 1000 = jc j := by unfold mn mx jc; (repeat' split) <;> omega
  have j0 := jc_lo j; have j1 := jc_hi j
  have p := off_parts (s / 2) (jc j)
  have o0 := off_lo h0 j0; have o1 := off_hi h0 j1
  have a0 : 0 ≤ s / 2 / 1000 * jc j := Int.mul_nonneg (by omega) j0
  have a1 : s / 2 / 1000 * jc j ≤ s / 2 / 1000 * 1000 := Int.mul_le_mul_of_nonneg_left j1 (by omega)
  have b0 : 0 ≤ s / 2 % 1000 * jc j := Int.mul_nonneg (by omega) j0
  have b1 : s / 2 % 1000 * jc j ≤ s / 2 % 1000 * 1000 := Int.mul_le_mul_of_nonneg_left j1 (by omega)
  rw [J, Int.tdiv_eq_ediv_of_nonneg h0, w64 (n := s / 2) (by omega) (by omega), Int.tdiv_eq_ediv_of_nonneg (a := s / 2) (by omega), w64 (n := s / 2 / 1000) (by omega) (by omega), Int.tmod_eq_emod_of_nonneg (by omega),
    w64 (n := s / 2 / 1000 * jc j) (by omega) (by omega), w64 (n := s / 2 % 1000 * jc j) (by omega) (by omega), Int.tdiv_eq_ediv_of_nonneg b0, w64 (n := s / 2 % 1000 * jc j / 1000) (by omega) (by omega), w64 (n := s - s / 2 / 1000 * jc j) (by omega) (by omega), w64 (by omega) (by omega)]
  unfold dly; congr 1; omega
theorem awake_s : hourglasslaw18_awake.f 66 = some true := by
  unfold hourglasslaw18_awake.f; rw [step_s 66 (by decide) 10 35 (by decide), step_s 66 (by decide) 10 35 (by decide), delay_s 66 (by decide) 10 35 (by decide)]; decide +kernel
theorem awake_k (k : Nat) (hk : 64 < k) : hourglasslaw18_awake.f k = some true := by
  have : hourglasslaw18_awake.f k = hourglasslaw18_awake.f 66 := by
    unfold hourglasslaw18_awake.f
    rw [step_s 66 (by decide) 10 35 (by decide), step_s 66 (by decide) 10 35 (by decide), delay_s 66 (by decide) 10 35 (by decide), step_s k hk 10 35 (by decide), step_s k hk 10 35 (by decide), delay_s k hk 10 35 (by decide)]
  rw [this, awake_s]
end BackoffRisesB
open BackoffRisesB

theorem BackoffRises : hourglasslaw18_BackoffRises.Pure := by
  intro b m x y j l _ _ hx hy hj hl
  refine ⟨68, ?_⟩
  have main : ∀ p q u v : Int, (Lit.int .i64 p).wf = true → (Lit.int .i64 q).wf = true → p ≤ q → u ≤ v → hourglasslaw18_BackoffRises.j1 67 b m p q u v = some true := by
    intro p q u v hp hq h h'
    rw [hourglasslaw18_BackoffRises.j1]
    simp only [step_s 66 (by decide) b m hp, step_s 66 (by decide) b m hq, delay_s 66 (by decide) b m hp, awake_s, Option.bind_some]
    rw [if_pos (stp_mono b m h), if_pos (dly_anti (stp_lo b m p) h')]
  have next : ∀ p q : Int, (Lit.int .i64 p).wf = true → (Lit.int .i64 q).wf = true → p ≤ q → hourglasslaw18_BackoffRises.j0 68 b m p q j l = some true := by
    intro p q hp hq h
    rw [hourglasslaw18_BackoffRises.j0]
    by_cases c : j > l
    · rw [if_pos c]; exact main _ _ _ _ hp hq h (by omega)
    · rw [if_neg c]; exact main _ _ _ _ hp hq h (by omega)
  unfold hourglasslaw18_BackoffRises.f
  by_cases c : x > y
  · rw [if_pos c]; exact next _ _ hy hx (by omega)
  · rw [if_neg c]; exact next _ _ hx hy (by omega)

end Go.Proofs.Ytfaoeafmgigpcaa.Pure
