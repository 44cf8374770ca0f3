/- The plain law of PolicyAgain: for all whole numbers and texts in their kinds' bounds the printed function answers true. -/
import Derived.Test.YtfaoeafmgigpcaaFPolicyAgainx3
import Derived.OpenShut
import Derived.Test.YtfaoeafmgigpcaaTk
import Derived.Test.YtfaoeafmgigpcaaBo
import Derived.Test.YtfaoeafmgigpcaaPo
import Derived.Test.YtfaoeafmgigpcaaOpenPolicyAgain
namespace Go.Proofs.Ytfaoeafmgigpcaa.Pure
open Go.RowKit Go.Proofs.Ytfaoeafmgigpcaa.FPolicyAgain Go.Proofs.YtfaoeafmgigpcaaW.PrintWords Go.Proofs.YtfaoeafmgigpcaaW.PrintLast Go.Proofs.Ytfaoeafmgigpcaa.Tk Go.Proofs.Ytfaoeafmgigpcaa.Bo Go.Proofs.Ytfaoeafmgigpcaa.Po Go.Proofs.Ytfaoeafmgigpcaa.OpenPolicyAgain
set_option linter.unusedVariables false
set_option linter.unusedSimpArgs false

namespace PolicyAgainB
theorem clamp_s (a : Int) : ticks_Clamp.f a = some (cl a) := by
  unfold ticks_Clamp.f mn mx cl; congr 1; (repeat' split) <;> omega
theorem add_s (a b : Int) : ticks_Add.f a b = some (ad a b) := by
  have h1 := cl_lo a; have h2 := cl_hi a; have h3 := cl_lo b; have h4 := cl_hi b
  unfold ticks_Add.f; simp only [clamp_s, Option.bind_some]; rw [w64 (by omega) (by omega)]; rfl
theorem step_l (m : Int) (hm0 : 0 ≤ m) (hm1 : m ≤ 1125899906842624) (N : Int) (hN : N ≤ 64) (d : Nat) : ∀ (k : Nat) (x i : Int), 0 ≤ x → x ≤ 1125899906842624 → 0 ≤ i → N - i = d → d < k →
    backoff_Step.l0 k x m N i = some (if m < rep d x then m else rep d x) := by
  induction d with
  | zero =>
    intro k x i h0 h1 hi hd hk
    obtain ⟨k, rfl⟩ : ∃ j, k = j + 1 := ⟨k - 1, by omega⟩
    simp only [backoff_Step.l0]; rw [if_neg (by omega)]; rfl
  | succ d ih =>
    intro k x i h0 h1 hi hd hk
    obtain ⟨k, rfl⟩ : ∃ j, k = j + 1 := ⟨k - 1, by omega⟩
    have b := rep_bd (d + 1) x h0 h1
    simp only [backoff_Step.l0]; rw [if_pos (by omega)]
    by_cases hx : x ≥ m
    · rw [if_pos hx]; congr 1; unfold mn; (repeat' split) <;> omega
    · have c : cl x = x := cl_id h0 h1
      have e : ad x x = cl (x + x) := by unfold ad; rw [c]
      rw [if_neg hx, add_s, Option.bind_some, e, w64 (by omega) (by omega), ih k _ _ (cl_lo _) (cl_hi _) (by omega) (by omega) (by omega)]; rfl
theorem step_s (k : Nat) (hk : 64 < k) (b m : Int) {att : Int} (h : (Lit.int .i64 att).wf = true) : backoff_Step.f k b m att = some (stp b m att) := by
  have hb := bounds_i64 h
  unfold backoff_Step.f; simp only [clamp_s, Option.bind_some]
  have e : mn (wrap64 ((mx att 1) - 1)) 64 = (nn att : Int) := by
    have : wrap64 ((mx att 1) - 1) = mx att 1 - 1 := by apply w64 <;> (unfold mx; split <;> omega)
    rw [this]; unfold mn mx nn; (repeat' split) <;> omega
  have hn : (nn att : Int) ≤ 64 := by unfold nn; (repeat' split) <;> omega
  rw [e, step_l _ (cl_lo m) (cl_hi m) _ hn (nn att) k _ _ (cl_lo b) (cl_hi b) (by omega) (by omega) (by omega)]; rfl
theorem delay_s (k : Nat) (hk : 64 < k) (b m : Int) {att : Int} (h : (Lit.int .i64 att).wf = true) (j : Int) : backoff_Delay.f k b m att j = some (dly (stp b m att) j) := by
  unfold backoff_Delay.f; rw [step_s k hk b m h]; simp only [Option.bind_some]
  have h0 := stp_lo b m att; have h1 := stp_hi b m att
  generalize stp b m att = s at h0 h1 ⊢
  have J : mn (mx j 0) 1000 = jc j := by unfold mn mx jc; (repeat' split) <;> omega
  have j0 := jc_lo j; have j1 := jc_hi j
  have p := off_parts (s / 2) (jc j)
  have o0 := off_lo h0 j0; have o1 := off_hi h0 j1
  have a0 : 0 ≤ s / 2 / 1000 * jc j := Int.mul_nonneg (by omega) j0
  have a1 : s / 2 / 1000 * jc j ≤ s / 2 / 1000 * 1000 := Int.mul_le_mul_of_nonneg_left j1 (by omega)
  have b0 : 0 ≤ s / 2 % 1000 * jc j := Int.mul_nonneg (by omega) j0
  have b1 : s / 2 % 1000 * jc j ≤ s / 2 % 1000 * 1000 := Int.mul_le_mul_of_nonneg_left j1 (by omega)
  rw [J, Int.tdiv_eq_ediv_of_nonneg h0, w64 (n := s / 2) (by omega) (by omega), Int.tdiv_eq_ediv_of_nonneg (a := s / 2) (by omega), w64 (n := s / 2 / 1000) (by omega) (by omega), Int.tmod_eq_emod_of_nonneg (by omega),
    w64 (n := s / 2 / 1000 * jc j) (by omega) (by omega), w64 (n := s / 2 % 1000 * jc j) (by omega) (by omega), Int.tdiv_eq_ediv_of_nonneg b0, w64 (n := s / 2 % 1000 * jc j / 1000) (by omega) (by omega), w64 (n := s - s / 2 / 1000 * jc j) (by omega) (by omega), w64 (by omega) (by omega)]
  unfold dly; congr 1; omega
theorem sub_s (a b : Int) : ticks_Sub.f a b = some (sb a b) := by
  have h1 := cl_lo a; have h2 := cl_hi a; have h3 := cl_lo b; have h4 := cl_hi b
  unfold ticks_Sub.f; simp only [clamp_s, Option.bind_some]; rw [w64 (by omega) (by omega)]; unfold mx sb; congr 1; (repeat' split) <;> omega
theorem left_s (a b : Int) : budget_Left.f a b = some (sb a b) := by
  unfold budget_Left.f; simp only [sub_s, Option.bind_some]
theorem enough_s (a b c : Int) : budget_Enough.f a b c = some (eno a b c) := by
  unfold budget_Enough.f; simp only [left_s, clamp_s, Option.bind_some]
  by_cases h : sb a b > 0
  · rw [if_pos h]; unfold eno; congr 1; simp; intro _; omega
  · rw [if_neg h]; unfold eno; congr 1; simp; intro _; omega
theorem full_s (t : Int) : throttle_Full.f t = some (full t) := by
  unfold throttle_Full.f full mn mx; rfl
theorem cln_s (h t : Int) : throttle_clean.f h t = some (cln h t) := by
  unfold throttle_clean.f; simp only [full_s, Option.bind_some]; unfold cln mn mx; rfl
theorem may_s (h t : Int) : throttle_May.f h t = some (may h t) := by
  have a := cln_lo h t; have b := cln_hi h t; have c := full_hi t
  unfold throttle_May.f; simp only [cln_s, full_s, Option.bind_some]; rw [w64 (by omega) (by omega)]; rfl
theorem ready_s (k : Nat) (hk : 64 < k) (c0 c1 c2 c3 c4 c5 c6 c7 c8 c9 c10 c11 c12 : Int) (l : List (List S81)) (f0 : Int) {f1 : Int} (f2 : Bool) (f3 f4 f5 f6 f7 : Int) (h : (Lit.int .i64 f1).wf = true) : policy_Ready.f k c0 c1 c2 c3 c4 c5 c6 c7 c8 c9 c10 c11 c12 l f0 f1 f2 f3 f4 f5 f6 f7 = some (rdy c9 c10 f1 f7 f3 f5) := by
  unfold policy_Ready.f; simp only [delay_s k hk c9 c10 h, add_s, Option.bind_some]; unfold rdy
  by_cases a : f3 ≥ 0
  · rw [if_pos a, if_pos (by omega)]
  · rw [if_neg a, if_neg (by omega)]
theorem again_s (c : Int) : code_Again.f c = some (decide (c = 14 ∨ c = 8)) := by
  unfold code_Again.f
  by_cases h : c = 14
  · rw [if_pos h]; simp [h]
  · rw [if_neg h]; congr 1; rw [Bool.eq_iff_iff]; simp [h]
theorem decide_s (k : Nat) (hk : 64 < k) (c0 c1 c2 c3 c4 c5 c6 c7 c8 c9 c10 c11 c12 : Int) (l : List (List S81)) (f0 : Int) {f1 : Int} (f2 : Bool) (f3 f4 f5 f6 f7 : Int) (h : (Lit.int .i64 f1).wf = true) : policy_Decide.f k c0 c1 c2 c3 c4 c5 c6 c7 c8 c9 c10 c11 c12 l f0 f1 f2 f3 f4 f5 f6 f7 = some (dec c9 c10 c8 c12 c4 f0 f1 f2 f3 f4 f5 f6 f7) := by
  unfold policy_Decide.f; simp only [again_s, may_s, ready_s k hk _ _ _ _ _ _ _ _ _ _ _ _ _ _ _ _ _ _ _ _ _ h, enough_s, Option.bind_some]; unfold dec
  by_cases a : f0 = 14 ∨ f0 = 8
  · rw [if_pos (by simpa using a), if_pos a]
    by_cases b : f2 = true
    · rw [if_pos b, if_pos b]
    rw [if_neg b, if_neg b]
    by_cases c : f1 ≥ c8
    · rw [if_pos c, if_pos (show c8 ≤ f1 from c)]
    rw [if_neg c, if_neg (show ¬ c8 ≤ f1 from c)]
    by_cases d : f3 = -1
    · rw [if_pos d, if_pos d]
    rw [if_neg d, if_neg d]
    by_cases e : may f4 c12 = true
    · rw [if_pos e, if_pos e]; split <;> rfl
    · rw [if_neg e, if_neg e]
  · rw [if_neg (by simpa using a), if_neg a]
theorem mine_s (f0 f1 : Int) (f2 : Bool) (f3 f4 f5 f6 f7 : Int) : hourglasslaw20_mine.f f0 f1 f2 f3 f4 f5 f6 f7 = some (f0, f1, f2, f3, f4, f5, f6, f7) := rfl
theorem awake_s (k : Nat) (hk : 64 < k) : hourglasslaw20_awake.f k = some true := by
  unfold hourglasslaw20_awake.f
  rw [decide_s k hk _ _ _ _ _ _ _ _ _ _ _ _ _ _ _ _ _ _ _ _ _ (by decide), decide_s k hk _ _ _ _ _ _ _ _ _ _ _ _ _ _ _ _ _ _ _ _ _ (by decide)]; decide +kernel
theorem rclamp_s (a : Int) : hourglassref01_Clamp.f a = some (cl a) := by
  unfold hourglassref01_Clamp.f cl; (repeat' split) <;> first | rfl | omega
theorem radd_s (a b : Int) : hourglassref01_Add.f a b = some (ad a b) := by
  have h1 := cl_lo a; have h2 := cl_hi a; have h3 := cl_lo b; have h4 := cl_hi b
  unfold hourglassref01_Add.f; simp only [rclamp_s, Option.bind_some]; rw [w64 (by omega) (by omega), w64 (by omega) (by omega)]
  by_cases h : cl a > 1125899906842624 - cl b
  · rw [if_pos h]; unfold ad; rw [cl_top (a := cl a + cl b) (by omega)]
  · rw [if_neg h]; unfold ad; rw [cl_id (a := cl a + cl b) (by omega) (by omega)]
theorem rfull_s (t : Int) : hourglassref19_Full.f t = some (full t) := by
  unfold hourglassref19_Full.f full
  by_cases h : t < 1
  · simp [h]
  · rw [if_neg h]
    by_cases h2 : t > 1000
    · rw [if_pos h2]; simp [h, h2]
    · rw [if_neg h2, w64 (by omega) (by omega)]; simp only [if_neg h]; rw [if_neg (by omega)]; congr 1; omega
end PolicyAgainB
open PolicyAgainB

theorem PolicyAgain : PureS := by
  intro c f hc hf
  obtain ⟨c0, c1, c2, c3, c4, c5, c6, c7, c8, c9, c10, c11, c12, l⟩ := c
  obtain ⟨f0, f1, f2, f3, f4, f5, f6, f7⟩ := f
  obtain ⟨_, h1, _, _, h4, _⟩ := hf
  have b4 := bounds_i64 h4
  refine ⟨100, ?_⟩
  show hourglasslaw20_PolicyAgain.f 100 c0 c1 c2 c3 c4 c5 c6 c7 c8 c9 c10 c11 c12 l f0 f1 f2 f3 f4 f5 f6 f7 = some true
  unfold hourglasslaw20_PolicyAgain.f
  simp only [mine_s, decide_s 100 (by decide) _ _ _ _ _ _ _ _ _ _ _ _ _ _ _ _ _ _ _ _ _ h1, rfull_s, awake_s 100 (by decide), Option.bind_some]
  by_cases z : (dec c9 c10 c8 c12 c4 f0 f1 f2 f3 f4 f5 f6 f7).1 = 0
  · rw [if_pos z, dec_at z]
    obtain ⟨p1, p2, p3, p4, p5, p6⟩ := dec_zero.1 z
    have q1 := rdy_lo c9 c10 f1 f7 f3 f5; have q2 := rdy_cl c9 c10 f1 f7 f3 f5
    have q3 : 0 < sb f6 (rdy c9 c10 f1 f7 f3 f5) ∧ cl c4 ≤ sb f6 (rdy c9 c10 f1 f7 f3 f5) := by unfold eno at p6; simpa using p6
    have q4 : 0 ≤ f3 → rdy c9 c10 f1 f7 f3 f5 = ad f5 f3 := fun h => by unfold rdy; rw [if_pos h]
    generalize rdy c9 c10 f1 f7 f3 f5 = at_ at q1 q2 q3 q4 ⊢
    have d0 := cl_lo f6; have d1 := cl_hi f6; have d2 := cl_lo at_; have d3 := cl_hi at_
    have q5 : at_ < cl f6 ∧ cl c4 ≤ cl f6 - at_ := by
      unfold sb at q3; rw [q2] at q3; split at q3 <;> omega
    have J1 : hourglasslaw20_PolicyAgain.j1 99 at_ false c0 c1 c2 c3 c4 c5 c6 c7 c8 c9 c10 c11 c12 l f0 f1 f2 f3 f4 f5 f6 f7 = some true := by
      rw [hourglasslaw20_PolicyAgain.j1, if_neg (by simp)]
      simp only [rclamp_s, Option.bind_some]
      rw [if_pos (show at_ ≥ cl f5 from q1), if_pos q5.1, w64 (by omega) (by omega), if_pos (show cl f6 - at_ ≥ cl c4 from q5.2), awake_s 98 (by decide)]; rfl
    have J0 : hourglasslaw20_PolicyAgain.j0 100 at_ false c0 c1 c2 c3 c4 c5 c6 c7 c8 c9 c10 c11 c12 l f0 f1 f2 f3 f4 f5 f6 f7 = some true := by
      rw [hourglasslaw20_PolicyAgain.j0, if_neg (by simp)]
      by_cases g : f3 ≥ 0
      · rw [if_pos g, radd_s, Option.bind_some]
        have : (at_ != ad f5 f3) = false := by simp [q4 g]
        rw [this]; exact J1
      · rw [if_neg g]; exact J1
    have fin : (if f2 = true then hourglasslaw20_PolicyAgain.j0 100 at_ true c0 c1 c2 c3 c4 c5 c6 c7 c8 c9 c10 c11 c12 l f0 f1 f2 f3 f4 f5 f6 f7 else if f1 ≥ c8 then hourglasslaw20_PolicyAgain.j0 100 at_ true c0 c1 c2 c3 c4 c5 c6 c7 c8 c9 c10 c11 c12 l f0 f1 f2 f3 f4 f5 f6 f7
        else if f3 = -1 then hourglasslaw20_PolicyAgain.j0 100 at_ true c0 c1 c2 c3 c4 c5 c6 c7 c8 c9 c10 c11 c12 l f0 f1 f2 f3 f4 f5 f6 f7
        else if wrap64 (2 * mx f4 0) ≤ full c12 then hourglasslaw20_PolicyAgain.j0 100 at_ (decide (f4 < full c12)) c0 c1 c2 c3 c4 c5 c6 c7 c8 c9 c10 c11 c12 l f0 f1 f2 f3 f4 f5 f6 f7
        else hourglasslaw20_PolicyAgain.j0 100 at_ false c0 c1 c2 c3 c4 c5 c6 c7 c8 c9 c10 c11 c12 l f0 f1 f2 f3 f4 f5 f6 f7) = some true := by
      rw [if_neg (by simp [p2]), if_neg (by omega), if_neg p4]
      by_cases g : wrap64 (2 * mx f4 0) ≤ full c12
      · rw [if_pos g]
        have hb : ¬ f4 < full c12 := by
          intro hlt
          have f1' := full_hi c12; have f2' := full_lo c12
          unfold may at p5; simp at p5
          have e : cln f4 c12 = mx f4 0 := by unfold cln mx; (repeat' split) <;> omega
          have e2 : 0 ≤ mx f4 0 ∧ mx f4 0 ≤ full c12 := by unfold mx; split <;> omega
          rw [e] at p5
          rw [w64 (by omega) (by omega)] at g; omega
        rw [decide_eq_false hb]; exact J0
      · rw [if_neg g]; exact J0
    by_cases k1 : f0 = 14
    · rw [if_pos k1]; exact fin
    · rw [if_neg k1, if_pos (by omega)]; exact fin
  · rw [if_neg z]
    obtain ⟨n1, n2, n3⟩ := dec_not z
    rw [if_pos n1, if_pos (show (dec c9 c10 c8 c12 c4 f0 f1 f2 f3 f4 f5 f6 f7).1 ≥ 1 from n2), if_pos n3]

end Go.Proofs.Ytfaoeafmgigpcaa.Pure
