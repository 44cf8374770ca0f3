/- The plain law of PolicyDecides: for all whole numbers and texts in their kinds' bounds the printed function answers true. -/
import Derived.Test.YtfaoeafmgigpcaaFPolicyDecidesx5
import Derived.OpenShut
import Derived.Test.YtfaoeafmgigpcaaTk
import Derived.Test.YtfaoeafmgigpcaaBo
import Derived.Test.YtfaoeafmgigpcaaPo
import Derived.Test.YtfaoeafmgigpcaaOpenPolicyDecides
namespace Go.Proofs.Ytfaoeafmgigpcaa.Pure
open Go.RowKit Go.Proofs.Ytfaoeafmgigpcaa.FPolicyDecides Go.Proofs.YtfaoeafmgigpcaaW.PrintWords Go.Proofs.YtfaoeafmgigpcaaW.PrintLast Go.Proofs.Ytfaoeafmgigpcaa.Tk Go.Proofs.Ytfaoeafmgigpcaa.Bo Go.Proofs.Ytfaoeafmgigpcaa.Po Go.Proofs.Ytfaoeafmgigpcaa.OpenPolicyDecides
set_option linter.unusedVariables false
set_option linter.unusedSimpArgs false

namespace PolicyDecidesB
theorem clamp_s (a : Int) : ticks_Clamp.f a = some (cl a) := by
  unfold ticks_Clamp.f mn mx cl; congr 1; (repeat' split) <;> omega
theorem add_s (a b : Int) : ticks_Add.f a b = some (ad a b) := by
  have h1 := cl_lo a; have h2 := cl_hi a; have h3 := cl_lo b; have h4 := cl_hi b
  unfold ticks_Add.f; simp only [clamp_s, Option.bind_some]; rw [w64 (by omega) (by omega)]; rfl
theorem step_l (m : Int) (hm0 : 0 ≤ m) (hm1 : m ≤ 1125899906842624) (N : Int) (hN : N ≤ 64) (d : Nat) : ∀ (k : Nat) (x i : Int), 0 ≤ x → x ≤ 1125899906842624 → 0 ≤ i → N - i = d → d < k →
    backoff_Step.l0 k x m N i = some (if m < rep d x then m else rep d x) := by
  induction d with
  | zero =>
    intro k x i h0 h1 hi hd hk
    obtain ⟨k, rfl⟩ : ∃ j, k = j + 1 := ⟨k - 1, by omega⟩
    simp only [backoff_Step.l0]; rw [if_neg (by omega)]; rfl
  | succ d ih =>
    intro k x i h0 h1 hi hd hk
    obtain ⟨k, rfl⟩ : ∃ j, k = j + 1 := ⟨k - 1, by omega⟩
    have b := rep_bd (d + 1) x h0 h1
    simp only [backoff_Step.l0]; rw [if_pos (by omega)]
    by_cases hx : x ≥ m
    · rw [if_pos hx]; congr 1; unfold mn; (repeat' split) <;> omega
    · have c : cl x = x := cl_id h0 h1
      have e : ad x x = cl (x + x) := by unfold ad; rw [c]
      rw [if_neg hx, add_s, Option.bind_some, e, w64 (by omega) (by omega), ih k _ _ (cl_lo _) (cl_hi _) (by omega) (by omega) (by omega)]; rfl
theorem step_s (k : Nat) (hk : 64 < k) (b m : Int) {att : Int} (h : (Lit.int .i64 att).wf = true) : backoff_Step.f k b m att = some (stp b m att) := by
  have hb := bounds_i64 h
  unfold backoff_Step.f; simp only [clamp_s, Option.bind_some]
  have e : mn (wrap64 ((mx att 1) - 1)) 64 = (nn att : Int) := by
    have : wrap64 ((mx att 1) - 1) = mx att 1 - 1 := by apply w64 <;> (unfold mx; split <;> omega)
    rw [this]; unfold mn mx nn; (repeat' split) <;> omega
  have hn : (nn att : Int) ≤ 64 := by unfold nn; (repeat' split) <;> omega
  rw [e, step_l _ (cl_lo m) (cl_hi m) _ hn (nn att) k _ _ (cl_lo b) (cl_hi b) (by omega) (by omega) (by omega)]; rfl
theorem delay_s (k : Nat) (hk : 64 < k) (b m : Int) {att : Int} (h : (Lit.int .i64 att).wf = true) (j : Int) : backoff_Delay.f k b m att j = some (dly (stp b m att) j) := by
  unfold backoff_Delay.f; rw [step_s k hk b m h]; simp only [Option.bind_some]
  have h0 := stp_lo b m att; have h1 := stp_hi b m att
  generalize stp b m att = s at h0 h1 ⊢
  have J : mn (mx j 0) 1000 = jc j := by unfold mn mx jc; (repeat' split) <;> omega
  have j0 := jc_lo j; have j1 := jc_hi j
  have p := off_parts (s / 2) (jc j)
  have o0 := off_lo h0 j0; have o1 := off_hi h0 j1
  have a0 : 0 ≤ s / 2 / 1000 * jc j := Int.mul_nonneg (by omega) j0
  have a1 : s / 2 / 1000 * jc j ≤ s / 2 / 1000 * 1000 := Int.mul_le_mul_of_nonneg_left j1 (by omega)
  have b0 : 0 ≤ s / 2 % 1000 * jc j := Int.mul_nonneg (by omega) j0
  have b1 : s / 2 % 1000 * jc j ≤ s / 2 % 1000 * 1000 := Int.mul_le_mul_of_nonneg_left j1 (by omega)
  rw [J, Int.tdiv_eq_ediv_of_nonneg h0, w64 (n := s / 2) (by omega) (by omega), Int.tdiv_eq_ediv_of_nonneg (a := s / 2) (by omega), w64 (n := s / 2 / 1000) (by omega) (by omega), Int.tmod_eq_emod_of_nonneg (by omega),
    w64 (n := s / 2 / 1000 * jc j) (by omega) (by omega), w64 (n := s / 2 % 1000 * jc j) (by omega) (by omega), Int.tdiv_eq_ediv_of_nonneg b0, w64 (n := s / 2 % 1000 * jc j / 1000) (by omega) (by omega), w64 (n := s - s / 2 / 1000 * jc j) (by omega) (by omega), w64 (by omega) (by omega)]
  unfold dly; congr 1; omega
theorem rclamp_s (a : Int) : hourglassref01_Clamp.f a = some (cl a) := by
  unfold hourglassref01_Clamp.f cl; (repeat' split) <;> first | rfl | omega
theorem radd_s (a b : Int) : hourglassref01_Add.f a b = some (ad a b) := by
  have h1 := cl_lo a; have h2 := cl_hi a; have h3 := cl_lo b; have h4 := cl_hi b
  unfold hourglassref01_Add.f; simp only [rclamp_s, Option.bind_some]; rw [w64 (by omega) (by omega), w64 (by omega) (by omega)]
  by_cases h : cl a > 1125899906842624 - cl b
  · rw [if_pos h]; unfold ad; rw [cl_top (a := cl a + cl b) (by omega)]
  · rw [if_neg h]; unfold ad; rw [cl_id (a := cl a + cl b) (by omega) (by omega)]
theorem rstep_l (m : Int) (att : Int) (d : Nat) : ∀ (k : Nat) (x i : Int), 0 ≤ x → x ≤ 1125899906842624 → 1 ≤ i → i ≤ 65 → d = ((if 65 < att then 65 else att) - i).toNat → d < k →
    hourglassref18_Step.l0 k x m att i = some (if m < rep d x then m else rep d x) := by
  induction d with
  | zero =>
    intro k x i h0 h1 hi hi' hd hk
    obtain ⟨k, rfl⟩ : ∃ j, k = j + 1 := ⟨k - 1, by omega⟩
    have fin : (if x > m then (some m : Option Int) else some x) = some (if m < rep 0 x then m else rep 0 x) := by
      show (if m < x then (some m : Option Int) else some x) = some (if m < x then m else x)
      by_cases hx : m < x
      · rw [if_pos hx, if_pos hx]
      · rw [if_neg hx, if_neg hx]
    simp only [hourglassref18_Step.l0, fin]
    by_cases ha : i < att
    · rw [if_pos ha, if_neg (by split at hd <;> omega)]
    · rw [if_neg ha]
  | succ d ih =>
    intro k x i h0 h1 hi hi' hd hk
    obtain ⟨k, rfl⟩ : ∃ j, k = j + 1 := ⟨k - 1, by omega⟩
    have c : cl x = x := cl_id h0 h1
    have e : ad x x = cl (x + x) := by unfold ad; rw [c]
    simp only [hourglassref18_Step.l0]; rw [if_pos (by split at hd <;> omega), if_pos (by split at hd <;> omega), radd_s, Option.bind_some, e, w64 (by omega) (by omega), ih k _ _ (cl_lo _) (cl_hi _) (by omega) (by split at hd <;> omega) (by split at hd <;> split <;> omega) (by omega)]; rfl
theorem rstep_s (k : Nat) (hk : 64 < k) (b m att : Int) : hourglassref18_Step.f k b m att = some (stp b m att) := by
  unfold hourglassref18_Step.f; simp only [rclamp_s, Option.bind_some]
  have e : nn att = ((if 65 < att then 65 else att) - 1).toNat := by unfold nn; (repeat' split) <;> omega
  rw [rstep_l _ att (nn att) k _ _ (cl_lo b) (cl_hi b) (by omega) (by omega) e (by rw [e]; split <;> omega)]; rfl
theorem rdelay_s (k : Nat) (hk : 64 < k) (b m att j : Int) : hourglassref18_Delay.f k b m att j = some (dly (stp b m att) j) := by
  unfold hourglassref18_Delay.f; rw [rstep_s k hk b m att]; simp only [Option.bind_some]
  have h0 := stp_lo b m att; have h1 := stp_hi b m att
  generalize stp b m att = s at h0 h1 ⊢
  have key : ∀ J : Int, 0 ≤ J → J ≤ 1000 → wrap64 (s - wrap64 (Int.tdiv (wrap64 ((wrap64 (Int.tdiv s 2)) * J)) 1000)) = s - s / 2 * J / 1000 := by
    intro J j0 j1
    have a0 : 0 ≤ s / 2 * J := Int.mul_nonneg (by omega) j0
    have a1 : s / 2 * J ≤ s / 2 * 1000 := Int.mul_le_mul_of_nonneg_left j1 (by omega)
    rw [Int.tdiv_eq_ediv_of_nonneg h0, w64 (n := s / 2) (by omega) (by omega), w64 (n := s / 2 * J) (by omega) (by omega), Int.tdiv_eq_ediv_of_nonneg a0, w64 (n := s / 2 * J / 1000) (by omega) (by omega), w64 (by omega) (by omega)]
  rw [key 1000 (by omega) (by omega), key 0 (by omega) (by omega)]
  unfold dly jc
  by_cases hj : j < 0
  · rw [if_pos hj, if_neg (by omega), if_pos hj]
  · rw [if_neg hj, if_neg hj]
    by_cases hj2 : j > 1000
    · rw [if_pos hj2, if_pos hj2]
    · rw [if_neg hj2, if_neg hj2, key j (by omega) (by omega)]
theorem sub_s (a b : Int) : ticks_Sub.f a b = some (sb a b) := by
  have h1 := cl_lo a; have h2 := cl_hi a; have h3 := cl_lo b; have h4 := cl_hi b
  unfold ticks_Sub.f; simp only [clamp_s, Option.bind_some]; rw [w64 (by omega) (by omega)]; unfold mx sb; congr 1; (repeat' split) <;> omega
theorem rsub_s (a b : Int) : hourglassref01_Sub.f a b = some (sb a b) := by
  have h1 := cl_lo a; have h2 := cl_hi a; have h3 := cl_lo b; have h4 := cl_hi b
  unfold hourglassref01_Sub.f; simp only [rclamp_s, Option.bind_some]; rw [w64 (by omega) (by omega)]; unfold sb; split <;> rfl
theorem left_s (a b : Int) : budget_Left.f a b = some (sb a b) := by
  unfold budget_Left.f; simp only [sub_s, Option.bind_some]
theorem enough_s (a b c : Int) : budget_Enough.f a b c = some (eno a b c) := by
  unfold budget_Enough.f; simp only [left_s, clamp_s, Option.bind_some]
  by_cases h : sb a b > 0
  · rw [if_pos h]; unfold eno; congr 1; simp; intro _; omega
  · rw [if_neg h]; unfold eno; congr 1; simp; intro _; omega
theorem renough_s (a b c : Int) : hourglassref14_Enough.f a b c = some (eno a b c) := by
  have h0 := sb_lo a b
  unfold hourglassref14_Enough.f; simp only [rsub_s, rclamp_s, Option.bind_some]
  by_cases h : sb a b = 0
  · rw [if_pos h]; unfold eno; congr 1; simp; intro _; omega
  · rw [if_neg h]; unfold eno; congr 1; simp; intro _; omega
theorem full_s (t : Int) : throttle_Full.f t = some (full t) := by
  unfold throttle_Full.f full mn mx; rfl
theorem cln_s (h t : Int) : throttle_clean.f h t = some (cln h t) := by
  unfold throttle_clean.f; simp only [full_s, Option.bind_some]; unfold cln mn mx; rfl
theorem may_s (h t : Int) : throttle_May.f h t = some (may h t) := by
  have a := cln_lo h t; have b := cln_hi h t; have c := full_hi t
  unfold throttle_May.f; simp only [cln_s, full_s, Option.bind_some]; rw [w64 (by omega) (by omega)]; rfl
theorem rfull_s (t : Int) : hourglassref19_Full.f t = some (full t) := by
  unfold hourglassref19_Full.f full
  by_cases h : t < 1
  · simp [h]
  · rw [if_neg h]
    by_cases h2 : t > 1000
    · rw [if_pos h2]; simp [h, h2]
    · rw [if_neg h2, w64 (by omega) (by omega)]; simp only [if_neg h]; rw [if_neg (by omega)]; congr 1; omega
theorem rcln_s (h t : Int) : hourglassref19_clean.f h t = some (cln h t) := by
  have c := full_lo t
  unfold hourglassref19_clean.f; simp only [rfull_s, Option.bind_some]; unfold cln
  by_cases a : h < 0
  · rw [if_pos a]; simp only [if_pos a]; rw [if_neg (by omega)]
  · rw [if_neg a]; simp only [if_neg a]
    by_cases b : h > full t
    · rw [if_pos b, if_pos (by omega)]
    · rw [if_neg b, if_neg (by omega)]
theorem rmay_s (h t : Int) : hourglassref19_May.f h t = some (may h t) := by
  have a := full_lo t; have b := full_hi t; have c := full_even t
  unfold hourglassref19_May.f; simp only [rcln_s, rfull_s, Option.bind_some]; rw [Int.tdiv_eq_ediv_of_nonneg (by omega), w64 (by omega) (by omega)]
  unfold may; congr 1; simp; omega
theorem ready_s (k : Nat) (hk : 64 < k) (c0 c1 c2 c3 c4 c5 c6 c7 c8 c9 c10 c11 c12 : Int) (l : List (List S81)) (f0 : Int) {f1 : Int} (f2 : Bool) (f3 f4 f5 f6 f7 : Int) (h : (Lit.int .i64 f1).wf = true) : policy_Ready.f k c0 c1 c2 c3 c4 c5 c6 c7 c8 c9 c10 c11 c12 l f0 f1 f2 f3 f4 f5 f6 f7 = some (rdy c9 c10 f1 f7 f3 f5) := by
  unfold policy_Ready.f; simp only [delay_s k hk c9 c10 h, add_s, Option.bind_some]; unfold rdy
  by_cases a : f3 ≥ 0
  · rw [if_pos a, if_pos (by omega)]
  · rw [if_neg a, if_neg (by omega)]
theorem again_s (c : Int) : code_Again.f c = some (decide (c = 14 ∨ c = 8)) := by
  unfold code_Again.f
  by_cases h : c = 14
  · rw [if_pos h]; simp [h]
  · rw [if_neg h]; congr 1; rw [Bool.eq_iff_iff]; simp [h]
theorem decide_s (k : Nat) (hk : 64 < k) (c0 c1 c2 c3 c4 c5 c6 c7 c8 c9 c10 c11 c12 : Int) (l : List (List S81)) (f0 : Int) {f1 : Int} (f2 : Bool) (f3 f4 f5 f6 f7 : Int) (h : (Lit.int .i64 f1).wf = true) : policy_Decide.f k c0 c1 c2 c3 c4 c5 c6 c7 c8 c9 c10 c11 c12 l f0 f1 f2 f3 f4 f5 f6 f7 = some (dec c9 c10 c8 c12 c4 f0 f1 f2 f3 f4 f5 f6 f7) := by
  unfold policy_Decide.f; simp only [again_s, may_s, ready_s k hk _ _ _ _ _ _ _ _ _ _ _ _ _ _ _ _ _ _ _ _ _ h, enough_s, Option.bind_some]; unfold dec
  by_cases a : f0 = 14 ∨ f0 = 8
  · rw [if_pos (by simpa using a), if_pos a]
    by_cases b : f2 = true
    · rw [if_pos b, if_pos b]
    rw [if_neg b, if_neg b]
    by_cases c : f1 ≥ c8
    · rw [if_pos c, if_pos (show c8 ≤ f1 from c)]
    rw [if_neg c, if_neg (show ¬ c8 ≤ f1 from c)]
    by_cases d : f3 = -1
    · rw [if_pos d, if_pos d]
    rw [if_neg d, if_neg d]
    by_cases e : may f4 c12 = true
    · rw [if_pos e, if_pos e]; split <;> rfl
    · rw [if_neg e, if_neg e]
  · rw [if_neg (by simpa using a), if_neg a]
theorem mine_s (f0 f1 : Int) (f2 : Bool) (f3 f4 f5 f6 f7 : Int) : hourglasslaw20_mine.f f0 f1 f2 f3 f4 f5 f6 f7 = some (f0, f1, f2, f3, f4, f5, f6, f7) := rfl
theorem awake_s (k : Nat) (hk : 64 < k) : hourglasslaw20_awake.f k = some true := by
  unfold hourglasslaw20_awake.f
  rw [decide_s k hk _ _ _ _ _ _ _ _ _ _ _ _ _ _ _ _ _ _ _ _ _ (by decide), decide_s k hk _ _ _ _ _ _ _ _ _ _ _ _ _ _ _ _ _ _ _ _ _ (by decide)]; decide +kernel
theorem rready_s (k : Nat) (hk : 64 < k) (c0 c1 c2 c3 c4 c5 c6 c7 c8 c9 c10 c11 c12 : Int) (l : List (List S81)) (f0 f1 : Int) (f2 : Bool) (f3 f4 f5 f6 f7 : Int) : hourglassref20_Ready.f k c0 c1 c2 c3 c4 c5 c6 c7 c8 c9 c10 c11 c12 l f0 f1 f2 f3 f4 f5 f6 f7 = some (rdy c9 c10 f1 f7 f3 f5) := by
  unfold hourglassref20_Ready.f; simp only [rdelay_s k hk c9 c10, radd_s, Option.bind_some]; unfold rdy
  by_cases a : f3 > -1
  · rw [if_pos a, if_pos (by omega)]
  · rw [if_neg a, if_neg (by omega)]
theorem rdecide_j (k : Nat) (hk : 64 < k) (b : Bool) (c0 c1 c2 c3 c4 c5 c6 c7 c8 c9 c10 c11 c12 : Int) (l : List (List S81)) (f0 f1 : Int) (f2 : Bool) (f3 f4 f5 f6 f7 : Int) (hb : b = !(decide (f0 = 14 ∨ f0 = 8))) : hourglassref20_Decide.j0 (k + 1) b c0 c1 c2 c3 c4 c5 c6 c7 c8 c9 c10 c11 c12 l f0 f1 f2 f3 f4 f5 f6 f7 = some (dec c9 c10 c8 c12 c4 f0 f1 f2 f3 f4 f5 f6 f7) := by
  subst hb
  simp only [hourglassref20_Decide.j0, rmay_s, rready_s k hk, renough_s, Option.bind_some]; unfold dec
  by_cases a : f0 = 14 ∨ f0 = 8
  · rw [decide_eq_true a, if_neg (by simp), if_pos a]
    by_cases b : f2 = true
    · rw [if_pos b, if_pos b]
    rw [if_neg b, if_neg b]
    by_cases c : c8 ≤ f1
    · rw [if_pos c, if_pos c]
    rw [if_neg c, if_neg c]
    by_cases d : f3 = -1
    · rw [if_pos d, if_pos d]
    rw [if_neg d, if_neg d]
    by_cases e : may f4 c12 = true
    · rw [if_pos e, if_pos e]; split <;> rfl
    · rw [if_neg e, if_neg e]
  · rw [decide_eq_false a, if_pos (by decide), if_neg a]
theorem rdecide_s (k : Nat) (hk : 64 < k) (c0 c1 c2 c3 c4 c5 c6 c7 c8 c9 c10 c11 c12 : Int) (l : List (List S81)) (f0 f1 : Int) (f2 : Bool) (f3 f4 f5 f6 f7 : Int) : hourglassref20_Decide.f (k + 1) c0 c1 c2 c3 c4 c5 c6 c7 c8 c9 c10 c11 c12 l f0 f1 f2 f3 f4 f5 f6 f7 = some (dec c9 c10 c8 c12 c4 f0 f1 f2 f3 f4 f5 f6 f7) := by
  unfold hourglassref20_Decide.f
  by_cases a : f0 = 14
  · rw [if_pos a]; exact rdecide_j k hk _ _ _ _ _ _ _ _ _ _ _ _ _ _ _ _ _ _ _ _ _ _ _ (by simp [a])
  · rw [if_neg a]; refine rdecide_j k hk _ _ _ _ _ _ _ _ _ _ _ _ _ _ _ _ _ _ _ _ _ _ _ ?_
    by_cases b : f0 = 8
    · simp [b]
    · simp [a, b]
theorem mul_s (a b : Int) : ticks_Mul.f a b = some (ml a b) := by
  have h1 := cl_lo a; have h2 := cl_hi a; have h3 := cl_lo b; have h4 := cl_hi b
  unfold ticks_Mul.f; simp only [clamp_s, Option.bind_some]
  by_cases hb : cl b > 0
  · have e1 : (1125899906842624 : Int) / cl b ≤ 1125899906842624 := Int.ediv_le_self _ (by omega)
    have e0 : 0 ≤ (1125899906842624 : Int) / cl b := Int.ediv_nonneg (by omega) (by omega)
    rw [if_pos hb, if_neg (by omega), w64 (by omega) (by omega)]
    have e := Int.ediv_lt_iff_lt_mul (a := 1125899906842624) (b := cl a) hb
    by_cases hc : cl a > 1125899906842624 / cl b
    · rw [if_pos hc]; unfold ml; rw [cl_top (a := cl a * cl b) (by have := e.1 hc; omega)]
    · have hm : ¬ (1125899906842624 < cl a * cl b) := fun h => hc (e.2 h)
      have hn : 0 ≤ cl a * cl b := Int.mul_nonneg h1 h3
      rw [if_neg hc, w64 (by omega) (by omega)]; unfold ml; rw [cl_id (a := cl a * cl b) (by omega) (by omega)]
  · have hz : cl b = 0 := by omega
    rw [if_neg hb, hz, Int.mul_zero]; unfold ml; rw [hz, Int.mul_zero]; decide +kernel
theorem most_l (c0 c1 c2 c3 c4 c5 c6 c7 c8 c9 c10 c11 c12 : Int) (l : List (List S81)) (N : Int) (hN : N ≤ 16) (d : Nat) : ∀ (k : Nat) (a x i : Int), 0 ≤ i → N - i = d → d < k →
    policy_Most.l0 k a x N i c0 c1 c2 c3 c4 c5 c6 c7 c8 c9 c10 c11 c12 l = some (mo (ml c7 c8) d a x) := by
  induction d with
  | zero =>
    intro k a x i h0 hd hk
    obtain ⟨k, rfl⟩ : ∃ j, k = j + 1 := ⟨k - 1, by omega⟩
    simp only [policy_Most.l0]; rw [if_neg (by omega)]; rfl
  | succ d ih =>
    intro k a x i h0 hd hk
    obtain ⟨k, rfl⟩ : ∃ j, k = j + 1 := ⟨k - 1, by omega⟩
    simp only [policy_Most.l0, mul_s, add_s, Option.bind_some]; rw [if_pos (by omega), w64 (by omega) (by omega), ih k _ _ _ (by omega) (by omega) (by omega)]; rfl
theorem most_s (k : Nat) (hk : 16 < k) (c0 c1 c2 c3 c4 c5 c6 c7 c8 c9 c10 c11 c12 : Int) (l : List (List S81)) : policy_Most.f k c0 c1 c2 c3 c4 c5 c6 c7 c8 c9 c10 c11 c12 l = some (mst c7 c8 c5) := by
  unfold policy_Most.f
  have e : mn (mx c5 0) 16 = (lv c5 : Int) := by unfold mn mx lv; (repeat' split) <;> omega
  have hl : lv c5 ≤ 16 := by unfold lv; (repeat' split) <;> omega
  rw [e, most_l _ _ _ _ _ _ _ _ _ _ _ _ _ _ _ (by omega) (lv c5) k _ _ _ (by omega) (by omega) (by omega)]; rfl
theorem rmul_l (k : Nat) : ∀ (x n o : Int), 0 ≤ x → x ≤ 1125899906842624 → 0 ≤ n → n ≤ 1125899906842624 → n < 2 ^ k → 0 ≤ o → o ≤ 1125899906842624 →
    hourglassref01_Mul.l0 (k + 1) x n o = some (cl (o + x * n)) := by
  induction k with
  | zero =>
    intro x n o _ _ h0 _ h1 ho ho'
    have hz : n = 0 := by simp at h1; omega
    subst hz
    simp only [hourglassref01_Mul.l0]; rw [if_neg (by omega), Int.mul_zero, Int.add_zero, cl_id ho ho']
  | succ k ih =>
    intro x n o hx hx' h0 hn h1 ho ho'
    by_cases hz : n = 0
    · subst hz; simp only [hourglassref01_Mul.l0]; rw [if_neg (by omega), Int.mul_zero, Int.add_zero, cl_id ho ho']
    · have hp : (2 : Int) ^ (k + 1) = 2 ^ k * 2 := Int.pow_succ 2 k
      have c1 : cl o = o := cl_id ho ho'
      have c2 : cl x = x := cl_id hx hx'
      have ed : Int.tdiv n 2 = n / 2 := Int.tdiv_eq_ediv_of_nonneg h0
      have em : Int.tmod n 2 = n % 2 := Int.tmod_eq_emod_of_nonneg h0
      have eq : n = 2 * (n / 2) + n % 2 := by omega
      have r1 := cl_lo (x + x); have r2 := cl_hi (x + x); have r3 := cl_lo (o + x); have r4 := cl_hi (o + x)
      rw [hourglassref01_Mul.l0]
      simp only [radd_s, Option.bind_some, ed, em]
      rw [if_pos (by omega), w64 (n := n / 2) (by omega) (by omega)]
      unfold ad; rw [c1, c2]
      by_cases hr : n % 2 = 1
      · rw [if_pos hr, ih _ _ _ r1 r2 (by omega) (by omega) (by omega) r3 r4]
        have := dbl_step (o := o) (a := x) (n := n) ho hx h0 (n / 2) 1 (by omega) (by omega) (Or.inr rfl)
        rw [Int.one_mul] at this; rw [this]
      · rw [if_neg hr, ih _ _ _ r1 r2 (by omega) (by omega) (by omega) ho ho']
        have := dbl_step (o := o) (a := x) (n := n) ho hx h0 (n / 2) 0 (by omega) (by omega) (Or.inl rfl)
        rw [Int.zero_mul, Int.add_zero, c1] at this; rw [this]
theorem rmul_s (a b : Int) : hourglassref01_Mul.f 52 a b = some (ml a b) := by
  have h1 := cl_lo a; have h2 := cl_hi a; have h3 := cl_lo b; have h4 := cl_hi b
  unfold hourglassref01_Mul.f; simp only [rclamp_s, Option.bind_some]
  rw [rmul_l 51 _ _ _ h1 h2 h3 h4 (by omega) (by omega) (by omega), Int.zero_add]; rfl
theorem rmul_k (k : Nat) (hk : 52 ≤ k) (a b : Int) : hourglassref01_Mul.f k a b = some (ml a b) := at_rounds (g := fun k => hourglassref01_Mul.f k a b) (fun k => hourglassref01_Mul.mono a b k) hk (rmul_s a b)
theorem rmost_in (c0 c1 c2 c3 c4 c5 c6 c7 c8 c9 c10 c11 c12 : Int) (l : List (List S81)) (K : Nat) (hK : 52 ≤ K) (a n : Int) (hn : n ≤ 16) (d : Nat) : ∀ (p i : Int), 0 ≤ i → n - i = d →
    hourglassref20_Most.l1 (K + d + 1) a n p i c0 c1 c2 c3 c4 c5 c6 c7 c8 c9 c10 c11 c12 l = hourglassref20_Most.l0 K (ad a (it (ml c7 c8) d p)) (n + 1) c0 c1 c2 c3 c4 c5 c6 c7 c8 c9 c10 c11 c12 l := by
  induction d with
  | zero =>
    intro p i h0 hd
    rw [hourglassref20_Most.l1, if_neg (by omega), radd_s, Option.bind_some, w64 (by omega) (by omega)]; rfl
  | succ d ih =>
    intro p i h0 hd
    rw [show K + (d + 1) + 1 = (K + d + 1) + 1 from by omega]
    rw [hourglassref20_Most.l1, if_pos (by omega), rmul_k (K + d + 1) (by omega), Option.bind_some, rmul_k (K + d + 1) (by omega), Option.bind_some, w64 (by omega) (by omega), ih _ _ (by omega) (by omega)]; rfl
theorem rmost_out (c0 c1 c2 c3 c4 c5 c6 c7 c8 c9 c10 c11 c12 : Int) (l : List (List S81)) (d : Nat) : ∀ (K : Nat) (a n : Int), 1 ≤ n → n ≤ 17 → (d : Int) = (if 16 < c5 then 16 else c5) + 1 - n ∨ (d = 0 ∧ (if 16 < c5 then 16 else c5) + 1 < n) → 60 + 30 * d ≤ K →
    hourglassref20_Most.l0 K a n c0 c1 c2 c3 c4 c5 c6 c7 c8 c9 c10 c11 c12 l = some (mo (ml c7 c8) d a (it (ml c7 c8) (n - 1).toNat 1)) := by
  induction d with
  | zero =>
    intro K a n h0 h1 hd hK
    obtain ⟨K, rfl⟩ : ∃ j, K = j + 2 := ⟨K - 2, by omega⟩
    rw [hourglassref20_Most.l0]
    by_cases c : n ≤ c5
    · rw [if_pos c, hourglassref20_Most.j1, if_neg (by simp; split at hd <;> omega)]; rfl
    · rw [if_neg c, hourglassref20_Most.j1, if_neg (by simp)]; rfl
  | succ d ih =>
    intro K a n h0 h1 hd hK
    have c : n ≤ c5 := by split at hd <;> omega
    have c' : n ≤ 16 := by split at hd <;> omega
    obtain ⟨K', e⟩ : ∃ K', K = (K' + n.toNat + 1) + 2 := ⟨K - n.toNat - 3, by omega⟩
    subst e
    rw [hourglassref20_Most.l0, if_pos c, hourglassref20_Most.j1, if_pos (by simpa using c'), rmost_in _ _ _ _ _ _ _ _ _ _ _ _ _ _ K' (by omega) a n c' n.toNat 1 0 (by omega) (by omega), ih K' _ _ (by omega) (by omega) (by split at hd <;> split <;> omega) (by omega)]
    have en : (n + 1 - 1).toNat = (n - 1).toNat + 1 := by omega
    have en' : n.toNat = (n - 1).toNat + 1 := by omega
    rw [en, en', it_snoc]; rfl
theorem rmost_s (k : Nat) (hk : 600 ≤ k) (c0 c1 c2 c3 c4 c5 c6 c7 c8 c9 c10 c11 c12 : Int) (l : List (List S81)) : hourglassref20_Most.f k c0 c1 c2 c3 c4 c5 c6 c7 c8 c9 c10 c11 c12 l = some (mst c7 c8 c5) := by
  unfold hourglassref20_Most.f
  have hl : lv c5 ≤ 16 := by unfold lv; (repeat' split) <;> omega
  rw [rmost_out _ _ _ _ _ _ _ _ _ _ _ _ _ _ (lv c5) k 0 1 (by omega) (by omega) (by unfold lv; (repeat' split) <;> omega) (by omega)]; rfl
end PolicyDecidesB
open PolicyDecidesB

theorem PolicyDecides : PureS := by
  intro c f hc hf
  obtain ⟨_, h1, _⟩ := hf
  refine ⟨700, ?_⟩
  unfold hourglasslaw20_PolicyDecides.f
  simp only [mine_s, decide_s 700 (by decide) _ _ _ _ _ _ _ _ _ _ _ _ _ _ _ _ _ _ _ _ _ h1, rdecide_s 699 (by decide), ready_s 700 (by decide) _ _ _ _ _ _ _ _ _ _ _ _ _ _ _ _ _ _ _ _ _ h1, rready_s 700 (by decide), most_s 700 (by decide), rmost_s 700 (by decide), awake_s 700 (by decide), Option.bind_some, if_true]

end Go.Proofs.Ytfaoeafmgigpcaa.Pure
