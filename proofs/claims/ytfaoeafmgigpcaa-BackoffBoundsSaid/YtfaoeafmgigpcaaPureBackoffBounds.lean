/- The plain law of BackoffBounds: for all whole numbers and texts in their kinds' bounds the printed function answers true. -/
import Derived.Test.YtfaoeafmgigpcaaPBackoffBoundsx1
import Derived.OpenShut
import Derived.Test.YtfaoeafmgigpcaaTk
import Derived.Test.YtfaoeafmgigpcaaBo
namespace Go.Proofs.Ytfaoeafmgigpcaa.Pure
open Go.RowKit Go.Proofs.Ytfaoeafmgigpcaa.PBackoffBounds Go.Proofs.YtfaoeafmgigpcaaW.PrintWords Go.Proofs.YtfaoeafmgigpcaaW.PrintLast Go.Proofs.Ytfaoeafmgigpcaa.Tk Go.Proofs.Ytfaoeafmgigpcaa.Bo
set_option linter.unusedVariables false
set_option linter.unusedSimpArgs false

namespace BackoffBoundsB
theorem clamp_s (a : Int) : ticks_Clamp.f a = some (cl a) := by
  unfold ticks_Clamp.f mn mx cl; congr 1; (repeat' split) <;> omega
theorem add_s (a b : Int) : ticks_Add.f a b = some (ad a b) := by
  have h1 := cl_lo a; have h2 := cl_hi a; have h3 := cl_lo b; have h4 := cl_hi b
  unfold ticks_Add.f; simp only [clamp_s, Option.bind_some]; rw [w64 (by omega) (by omega)]; rfl
theorem step_l (m : Int) (hm0 : 0 ≤ m) (hm1 : m ≤ 1125899906842624) (N : Int) (hN : N ≤ 64) (d : Nat) : ∀ (k : Nat) (x i : Int), 0 ≤ x → x ≤ 1125899906842624 → 0 ≤ i → N - i = d → d < k →
    backoff_Step.l0 k x m N i = some (if m < rep d x then m else rep d x) := by
  induction d with
  | zero =>
    intro k x i h0 h1 hi hd hk
    obtain ⟨k, rfl⟩ : ∃ j, k = j + 1 := ⟨k - 1, by omega⟩
    simp only [backoff_Step.l0]; rw [if_neg (by omega)]; rfl
  | succ d ih =>
    intro k x i h0 h1 hi hd hk
    obtain ⟨k, rfl⟩ : ∃ j, k = j + 1 := ⟨k - 1, by omega⟩
    have b := rep_bd (d + 1) x h0 h1
    simp only [backoff_Step.l0]; rw [if_pos (by omega)]
    by_cases hx : x ≥ m
    · rw [if_pos hx]; congr 1; unfold mn; (repeat' split) <;> omega
    · have c : cl x = x := cl_id h0 h1
      have e : ad x x = cl (x + x) := by unfold ad; rw [c]
      rw [if_neg hx, add_s, Option.bind_some, e, w64 (by omega) (by omega), ih k _ _ (cl_lo _) (cl_hi _) (by omega) (by omega) (by omega)]; rfl
theorem step_s (k : Nat) (hk : 64 < k) (b m : Int) {att : Int} (h : (Lit.int .i64 att).wf = true) : backoff_Step.f k b m att = some (stp b m att) := by
  have hb := bounds_i64 h
  unfold backoff_Step.f; simp only [clamp_s, Option.bind_some]
  have e : mn (wrap64 ((mx att 1) - 1)) 64 = (nn att : Int) := by
    have : wrap64 ((mx att 1) - 1) = mx att 1 - 1 := by apply w64 <;> (unfold mx; split <;> omega)
    rw [this]; unfold mn mx nn; (repeat' split) <;> omega
  have hn : (nn att : Int) ≤ 64 := by unfold nn; (repeat' split) <;> omega
  rw [e, step_l _ (cl_lo m) (cl_hi m) _ hn (nn att) k _ _ (cl_lo b) (cl_hi b) (by omega) (by omega) (by omega)]; rfl
theorem delay_s (k : Nat) (hk : 64 < k) (b m : Int) {att : Int} (h : (Lit.int .i64 att).wf = true) (j : Int) : backoff_Delay.f k b m att j = some (dly (stp b m att) j) := by
  unfold backoff_Delay.f; rw [step_s k hk b m h]; simp only [Option.bind_some]
  have h0 := stp_lo b m att; have h1 := stp_hi b m att
  generalize stp b m att = s at h0 h1 ⊢
  have J : mn (mx j 0) 1000 = jc j := by unfold mn mx jc; (repeat' split) <;> omega
  have j0 := jc_lo j; have j1 := jc_hi j
  have p := off_parts (s / 2) (jc j)
  have o0 := off_lo h0 j0; have o1 := off_hi h0 j1
  have a0 : 0 ≤ s / 2 / 1000 * jc j := Int.mul_nonneg (by omega) j0
  have a1 : s / 2 / 1000 * jc j ≤ s / 2 / 1000 * 1000 := Int.mul_le_mul_of_nonneg_left j1 (by omega)
  have b0 : 0 ≤ s / 2 % 1000 * jc j := Int.mul_nonneg (by omega) j0
  have b1 : s / 2 % 1000 * jc j ≤ s / 2 % 1000 * 1000 := Int.mul_le_mul_of_nonneg_left j1 (by omega)
  rw [J, Int.tdiv_eq_ediv_of_nonneg h0, w64 (n := s / 2) (by omega) (by omega), Int.tdiv_eq_ediv_of_nonneg (a := s / 2) (by omega), w64 (n := s / 2 / 1000) (by omega) (by omega), Int.tmod_eq_emod_of_nonneg (by omega),
    w64 (n := s / 2 / 1000 * jc j) (by omega) (by omega), w64 (n := s / 2 % 1000 * jc j) (by omega) (by omega), Int.tdiv_eq_ediv_of_nonneg b0, w64 (n := s / 2 % 1000 * jc j / 1000) (by omega) (by omega), w64 (n := s - s / 2 / 1000 * jc j) (by omega) (by omega), w64 (by omega) (by omega)]
  unfold dly; congr 1; omega
theorem awake_s : hourglasslaw18_awake.f 66 = some true := by
  unfold hourglasslaw18_awake.f; rw [step_s 66 (by decide) 10 35 (by decide), step_s 66 (by decide) 10 35 (by decide), delay_s 66 (by decide) 10 35 (by decide)]; decide +kernel
theorem awake_k (k : Nat) (hk : 64 < k) : hourglasslaw18_awake.f k = some true := by
  have : hourglasslaw18_awake.f k = hourglasslaw18_awake.f 66 := by
    unfold hourglasslaw18_awake.f
    rw [step_s 66 (by decide) 10 35 (by decide), step_s 66 (by decide) 10 35 (by decide), delay_s 66 (by decide) 10 35 (by decide), step_s k hk 10 35 (by decide), step_s k hk 10 35 (by decide), delay_s k hk 10 35 (by decide)]
  rw [this, awake_s]
def jit (a b c : Int) : Int := (Go.bits .xor .u32 (Go.bits .xor .u32 (Go.bits .xor .u32 (a % 4294967296 * 2654435761 % 4294967296) (b % 4294967296 * 40503 % 4294967296)) (c % 4294967296 * 2246822519 % 4294967296)) (Go.bits .xor .u32 (Go.bits .xor .u32 (a % 4294967296 * 2654435761 % 4294967296) (b % 4294967296 * 40503 % 4294967296)) (c % 4294967296 * 2246822519 % 4294967296) / 32768)) % 1001
theorem u32_bd (x y : Int) : 0 ≤ Go.bits .xor .u32 x y ∧ Go.bits .xor .u32 x y ≤ 4294967295 := bounds_u32 (wf_bits .xor .u32 x y)
theorem jitter_s (a b c : Int) : backoff_Jitter.f a b c = some (jit a b c) := by
  unfold backoff_Jitter.f jit
  generalize hH : Go.bits .xor .u32 (Go.bits .xor .u32 (a % 4294967296 * 2654435761 % 4294967296) (b % 4294967296 * 40503 % 4294967296)) (c % 4294967296 * 2246822519 % 4294967296) = H
  have hb := u32_bd H (H / 32768)
  rw [Int.tmod_eq_emod_of_nonneg hb.1, w64 (by omega) (by omega)]
theorem jit_lo (a b c : Int) : 0 ≤ jit a b c := by unfold jit; omega
theorem jit_hi (a b c : Int) : jit a b c ≤ 1000 := by unfold jit; omega
end BackoffBoundsB
open BackoffBoundsB

theorem BackoffBounds : hourglasslaw18_BackoffBounds.Pure := by
  intro b m a j _ _ ha _
  refine ⟨66, ?_⟩
  unfold hourglasslaw18_BackoffBounds.f
  simp only [step_s 66 (by decide) b m ha, delay_s 66 (by decide) b m ha, jitter_s, awake_s, Option.bind_some]
  have h0 := stp_lo b m a; have h1 := stp_hi b m a
  generalize stp b m a = s at h0 h1 ⊢
  have l := dly_lo h0 j
  rw [Int.tdiv_eq_ediv_of_nonneg h0, w64 (n := s / 2) (by omega) (by omega), w64 (by omega) (by omega),
    if_pos (dly_hi h0 j), if_pos l, if_pos (dly_none s), if_pos (dly_all s), if_pos (jit_lo b m a), if_pos (jit_hi b m a)]

end Go.Proofs.Ytfaoeafmgigpcaa.Pure
