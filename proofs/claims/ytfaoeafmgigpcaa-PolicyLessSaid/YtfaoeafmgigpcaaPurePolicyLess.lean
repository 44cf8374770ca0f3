/- The plain law of PolicyLess: for all whole numbers and texts in their kinds' bounds the printed function answers true. -/
import Derived.Test.YtfaoeafmgigpcaaPPolicyLessx2
import Derived.OpenShut
import Derived.Test.YtfaoeafmgigpcaaTk
import Derived.Test.YtfaoeafmgigpcaaBo
import Derived.Test.YtfaoeafmgigpcaaPo
import Derived.Test.YtfaoeafmgigpcaaOpenPolicyLess
namespace Go.Proofs.Ytfaoeafmgigpcaa.Pure
open Go.RowKit Go.Proofs.Ytfaoeafmgigpcaa.PPolicyLess Go.Proofs.YtfaoeafmgigpcaaW.PrintWords Go.Proofs.YtfaoeafmgigpcaaW.PrintLast Go.Proofs.Ytfaoeafmgigpcaa.Tk Go.Proofs.Ytfaoeafmgigpcaa.Bo Go.Proofs.Ytfaoeafmgigpcaa.Po Go.Proofs.Ytfaoeafmgigpcaa.OpenPolicyLess
set_option linter.unusedVariables false
set_option linter.unusedSimpArgs false

namespace PolicyLessB
theorem clamp_s (a : Int) : ticks_Clamp.f a = some (cl a) := by
  unfold ticks_Clamp.f mn mx cl; congr 1; (repeat' split) <;> omega
theorem add_s (a b : Int) : ticks_Add.f a b = some (ad a b) := by
  have h1 := cl_lo a; have h2 := cl_hi a; have h3 := cl_lo b; have h4 := cl_hi b
  unfold ticks_Add.f; simp only [clamp_s, Option.bind_some]; rw [w64 (by omega) (by omega)]; rfl
theorem step_l (m : Int) (hm0 : 0 ≤ m) (hm1 : m ≤ 1125899906842624) (N : Int) (hN : N ≤ 64) (d : Nat) : ∀ (k : Nat) (x i : Int), 0 ≤ x → x ≤ 1125899906842624 → 0 ≤ i → N - i = d → d < k →
    backoff_Step.l0 k x m N i = some (if m < rep d x then m else rep d x) := by
  induction d with
  | zero =>
    intro k x i h0 h1 hi hd hk
    obtain ⟨k, rfl⟩ : ∃ j, k = j + 1 := ⟨k - 1, by omega⟩
    simp only [backoff_Step.l0]; rw [if_neg (by omega)]; rfl
  | succ d ih =>
    intro k x i h0 h1 hi hd hk
    obtain ⟨k, rfl⟩ : ∃ j, k = j + 1 := ⟨k - 1, by omega⟩
    have b := rep_bd (d + 1) x h0 h1
    simp only [backoff_Step.l0]; rw [if_pos (by omega)]
    by_cases hx : x ≥ m
    · rw [if_pos hx]; congr 1; unfold mn; (repeat' split) <;> omega
    · have c : cl x = x := cl_id h0 h1
      have e : ad x x = cl (x + x) := by unfold ad; rw [c]
      rw [if_neg hx, add_s, Option.bind_some, e, w64 (by omega) (by omega), ih k _ _ (cl_lo _) (cl_hi _) (by omega) (by omega) (by omega)]; rfl
theorem step_s (k : Nat) (hk : 64 < k) (b m : Int) {att : Int} (h : (Lit.int .i64 att).wf = true) : backoff_Step.f k b m att = some (stp b m att) := by
  have hb := bounds_i64 h
  unfold backoff_Step.f; simp only [clamp_s, Option.bind_some]
  have e : mn (wrap64 ((mx att 1) - 1)) 64 = (nn att : Int) := by
    have : wrap64 ((mx att 1) - 1) = mx att 1 - 1 := by apply w64 <;> (unfold mx; split <;> omega)
    rw [this]; unfold mn mx nn; (repeat' split) <;> omega
  have hn : (nn att : Int) ≤ 64 := by unfold nn; (repeat' split) <;> omega
  rw [e, step_l _ (cl_lo m) (cl_hi m) _ hn (nn att) k _ _ (cl_lo b) (cl_hi b) (by omega) (by omega) (by omega)]; rfl
theorem delay_s (k : Nat) (hk : 64 < k) (b m : Int) {att : Int} (h : (Lit.int .i64 att).wf = true) (j : Int) : backoff_Delay.f k b m att j = some (dly (stp b m att) j) := by
  unfold backoff_Delay.f; rw [step_s k hk b m h]; simp only [Option.bind_some]
  have h0 := stp_lo b m att; have h1 := stp_hi b m att
  generalize stp b m att = s at h0 h1 ⊢
  have J : mn (mx j 0) 1000 = jc j := by unfold mn mx jc; (repeat' split) <;> omega
  have j0 := jc_lo j; have j1 := jc_hi j
  have p := off_parts (s / 2) (jc j)
  have o0 := off_lo h0 j0; have o1 := off_hi h0 j1
  have a0 : 0 ≤ s / 2 / 1000 * jc j := Int.mul_nonneg (by omega) j0
  have a1 : s / 2 / 1000 * jc j ≤ s / 2 / 1000 * 1000 := Int.mul_le_mul_of_nonneg_left j1 (by omega)
  have b0 : 0 ≤ s / 2 % 1000 * jc j := Int.mul_nonneg (by omega) j0
  have b1 : s / 2 % 1000 * jc j ≤ s / 2 % 1000 * 1000 := Int.mul_le_mul_of_nonneg_left j1 (by omega)
  rw [J, Int.tdiv_eq_ediv_of_nonneg h0, w64 (n := s / 2) (by omega) (by omega), Int.tdiv_eq_ediv_of_nonneg (a := s / 2) (by omega), w64 (n := s / 2 / 1000) (by omega) (by omega), Int.tmod_eq_emod_of_nonneg (by omega),
    w64 (n := s / 2 / 1000 * jc j) (by omega) (by omega), w64 (n := s / 2 % 1000 * jc j) (by omega) (by omega), Int.tdiv_eq_ediv_of_nonneg b0, w64 (n := s / 2 % 1000 * jc j / 1000) (by omega) (by omega), w64 (n := s - s / 2 / 1000 * jc j) (by omega) (by omega), w64 (by omega) (by omega)]
  unfold dly; congr 1; omega
theorem sub_s (a b : Int) : ticks_Sub.f a b = some (sb a b) := by
  have h1 := cl_lo a; have h2 := cl_hi a; have h3 := cl_lo b; have h4 := cl_hi b
  unfold ticks_Sub.f; simp only [clamp_s, Option.bind_some]; rw [w64 (by omega) (by omega)]; unfold mx sb; congr 1; (repeat' split) <;> omega
theorem left_s (a b : Int) : budget_Left.f a b = some (sb a b) := by
  unfold budget_Left.f; simp only [sub_s, Option.bind_some]
theorem enough_s (a b c : Int) : budget_Enough.f a b c = some (eno a b c) := by
  unfold budget_Enough.f; simp only [left_s, clamp_s, Option.bind_some]
  by_cases h : sb a b > 0
  · rw [if_pos h]; unfold eno; congr 1; simp; intro _; omega
  · rw [if_neg h]; unfold eno; congr 1; simp; intro _; omega
theorem full_s (t : Int) : throttle_Full.f t = some (full t) := by
  unfold throttle_Full.f full mn mx; rfl
theorem cln_s (h t : Int) : throttle_clean.f h t = some (cln h t) := by
  unfold throttle_clean.f; simp only [full_s, Option.bind_some]; unfold cln mn mx; rfl
theorem may_s (h t : Int) : throttle_May.f h t = some (may h t) := by
  have a := cln_lo h t; have b := cln_hi h t; have c := full_hi t
  unfold throttle_May.f; simp only [cln_s, full_s, Option.bind_some]; rw [w64 (by omega) (by omega)]; rfl
theorem ready_s (k : Nat) (hk : 64 < k) (c0 c1 c2 c3 c4 c5 c6 c7 c8 c9 c10 c11 c12 : Int) (l : List (List S81)) (f0 : Int) {f1 : Int} (f2 : Bool) (f3 f4 f5 f6 f7 : Int) (h : (Lit.int .i64 f1).wf = true) : policy_Ready.f k c0 c1 c2 c3 c4 c5 c6 c7 c8 c9 c10 c11 c12 l f0 f1 f2 f3 f4 f5 f6 f7 = some (rdy c9 c10 f1 f7 f3 f5) := by
  unfold policy_Ready.f; simp only [delay_s k hk c9 c10 h, add_s, Option.bind_some]; unfold rdy
  by_cases a : f3 ≥ 0
  · rw [if_pos a, if_pos (by omega)]
  · rw [if_neg a, if_neg (by omega)]
theorem again_s (c : Int) : code_Again.f c = some (decide (c = 14 ∨ c = 8)) := by
  unfold code_Again.f
  by_cases h : c = 14
  · rw [if_pos h]; simp [h]
  · rw [if_neg h]; congr 1; rw [Bool.eq_iff_iff]; simp [h]
theorem decide_s (k : Nat) (hk : 64 < k) (c0 c1 c2 c3 c4 c5 c6 c7 c8 c9 c10 c11 c12 : Int) (l : List (List S81)) (f0 : Int) {f1 : Int} (f2 : Bool) (f3 f4 f5 f6 f7 : Int) (h : (Lit.int .i64 f1).wf = true) : policy_Decide.f k c0 c1 c2 c3 c4 c5 c6 c7 c8 c9 c10 c11 c12 l f0 f1 f2 f3 f4 f5 f6 f7 = some (dec c9 c10 c8 c12 c4 f0 f1 f2 f3 f4 f5 f6 f7) := by
  unfold policy_Decide.f; simp only [again_s, may_s, ready_s k hk _ _ _ _ _ _ _ _ _ _ _ _ _ _ _ _ _ _ _ _ _ h, enough_s, Option.bind_some]; unfold dec
  by_cases a : f0 = 14 ∨ f0 = 8
  · rw [if_pos (by simpa using a), if_pos a]
    by_cases b : f2 = true
    · rw [if_pos b, if_pos b]
    rw [if_neg b, if_neg b]
    by_cases c : f1 ≥ c8
    · rw [if_pos c, if_pos (show c8 ≤ f1 from c)]
    rw [if_neg c, if_neg (show ¬ c8 ≤ f1 from c)]
    by_cases d : f3 = -1
    · rw [if_pos d, if_pos d]
    rw [if_neg d, if_neg d]
    by_cases e : may f4 c12 = true
    · rw [if_pos e, if_pos e]; split <;> rfl
    · rw [if_neg e, if_neg e]
  · rw [if_neg (by simpa using a), if_neg a]
theorem mine_s (f0 f1 : Int) (f2 : Bool) (f3 f4 f5 f6 f7 : Int) : hourglasslaw20_mine.f f0 f1 f2 f3 f4 f5 f6 f7 = some (f0, f1, f2, f3, f4, f5, f6, f7) := rfl
theorem awake_s (k : Nat) (hk : 64 < k) : hourglasslaw20_awake.f k = some true := by
  unfold hourglasslaw20_awake.f
  rw [decide_s k hk _ _ _ _ _ _ _ _ _ _ _ _ _ _ _ _ _ _ _ _ _ (by decide), decide_s k hk _ _ _ _ _ _ _ _ _ _ _ _ _ _ _ _ _ _ _ _ _ (by decide)]; decide +kernel
end PolicyLessB
open PolicyLessB

theorem PolicyLess : PureS := by
  intro c f dl hv hc hf hdl hhv
  obtain ⟨c0, c1, c2, c3, c4, c5, c6, c7, c8, c9, c10, c11, c12, l⟩ := c
  obtain ⟨f0, f1, f2, f3, f4, f5, f6, f7⟩ := f
  obtain ⟨_, h1, _⟩ := hf
  have b1 := bounds_i64 h1
  refine ⟨100, ?_⟩
  have yes : ∀ k, 64 < k → hourglasslaw20_PolicyLess.j0 (k + 1) dl hv true c0 c1 c2 c3 c4 c5 c6 c7 c8 c9 c10 c11 c12 l f0 f1 f2 f3 f4 f5 f6 f7 = some true := by
    intro k hk
    rw [hourglasslaw20_PolicyLess.j0, if_pos rfl, awake_s k hk]; rfl
  show hourglasslaw20_PolicyLess.f 100 c0 c1 c2 c3 c4 c5 c6 c7 c8 c9 c10 c11 c12 l f0 f1 f2 f3 f4 f5 f6 f7 dl hv = some true
  unfold hourglasslaw20_PolicyLess.f
  by_cases a1 : f3 < 0
  · rw [if_pos a1]; exact yes 99 (by decide)
  rw [if_neg a1]
  by_cases a2 : dl > f6
  · rw [if_pos a2]; exact yes 99 (by decide)
  rw [if_neg a2]
  by_cases a3 : hv > f4
  · rw [decide_eq_true a3]; exact yes 99 (by decide)
  rw [decide_eq_false a3, hourglasslaw20_PolicyLess.j0, if_neg (by simp)]
  simp only [mine_s, decide_s 99 (by decide) _ _ _ _ _ _ _ _ _ _ _ _ _ _ _ _ _ _ _ _ _ h1, Option.bind_some]
  have r1 : ∀ at_ : Int, rdy c9 c10 at_ f7 f3 f5 = ad f5 f3 := fun at_ => by unfold rdy; rw [if_pos (by omega)]
  have less : (dec c9 c10 c8 c12 c4 f0 f1 f2 f3 hv f5 dl f7).1 = 0 → (dec c9 c10 c8 c12 c4 f0 f1 f2 f3 f4 f5 f6 f7).1 = 0 := by
    intro h
    obtain ⟨p1, p2, p3, p4, p5, p6⟩ := dec_zero.1 h
    exact dec_zero.2 ⟨p1, p2, p3, p4, may_mono c12 (by omega) p5, eno_mono _ _ (by omega) p6⟩
  have last : ∀ k, 64 < k → (if (dec c9 c10 c8 c12 c4 f0 f1 f2 f3 hv f5 dl f7).1 = 0 then (if (dec c9 c10 c8 c12 c4 f0 f1 f2 f3 f4 f5 f6 f7).1 = 0 then (hourglasslaw20_awake.f k).bind fun t => some t else some false) else (hourglasslaw20_awake.f k).bind fun t => some t) = some true := by
    intro k hk
    rw [awake_s k hk]
    by_cases q : (dec c9 c10 c8 c12 c4 f0 f1 f2 f3 hv f5 dl f7).1 = 0
    · rw [if_pos q, if_pos (less q)]; rfl
    · rw [if_neg q]; rfl
  have off : ∀ k, 64 < k → hourglasslaw20_PolicyLess.j1 (k + 1) (dec c9 c10 c8 c12 c4 f0 f1 f2 f3 f4 f5 f6 f7).1 (dec c9 c10 c8 c12 c4 f0 f1 f2 f3 hv f5 dl f7).1 false c0 c1 c2 c3 c4 c5 c6 c7 c8 c9 c10 c11 c12 l f0 f1 f2 f3 f4 f5 f6 f7 = some true := by
    intro k hk
    rw [hourglasslaw20_PolicyLess.j1, if_neg (by simp)]; exact last k hk
  by_cases a4 : f1 < 1000000
  · rw [if_pos a4]
    by_cases a5 : f1 > -1000000
    · have w1 : wrap64 (f1 + 1) = f1 + 1 := w64 (by omega) (by omega)
      have h1' : (Lit.int .i64 (f1 + 1)).wf = true := by rw [← w1]; exact wrap64_wf _
      rw [decide_eq_true a5, hourglasslaw20_PolicyLess.j1, if_pos rfl]
      simp only [mine_s, w1, decide_s 98 (by decide) _ _ _ _ _ _ _ _ _ _ _ _ _ _ _ _ _ _ _ _ _ h1', Option.bind_some]
      have more : (dec c9 c10 c8 c12 c4 f0 (f1 + 1) f2 f3 f4 f5 f6 f7).1 = 0 → (dec c9 c10 c8 c12 c4 f0 f1 f2 f3 f4 f5 f6 f7).1 = 0 := by
        intro h
        obtain ⟨p1, p2, p3, p4, p5, p6⟩ := dec_zero.1 h
        exact dec_zero.2 ⟨p1, p2, by omega, p4, p5, by rw [r1] at p6 ⊢; exact p6⟩
      by_cases q : (dec c9 c10 c8 c12 c4 f0 (f1 + 1) f2 f3 f4 f5 f6 f7).1 = 0
      · rw [if_pos q, if_pos (more q), awake_s 98 (by decide)]; split <;> rfl
      · rw [if_neg q]; exact last 98 (by decide)
    · rw [decide_eq_false a5]; exact off 98 (by decide)
  · rw [if_neg a4]; exact off 98 (by decide)

end Go.Proofs.Ytfaoeafmgigpcaa.Pure
