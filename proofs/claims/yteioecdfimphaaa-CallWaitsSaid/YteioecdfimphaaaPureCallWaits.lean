/- The plain law of CallWaits: for all whole numbers and texts in their kinds' bounds the printed function answers true. -/
import Derived.Test.YteioecdfimphaaaFCallWaitsx4
import Derived.OpenShut
import Derived.Test.YteioecdfimphaaaTk
import Derived.Test.YteioecdfimphaaaBo
import Derived.Test.YteioecdfimphaaaPo
import Derived.Test.YteioecdfimphaaaCo
import Derived.Test.YteioecdfimphaaaCa
import Derived.Test.YteioecdfimphaaaOpenCallWaits
namespace Go.Proofs.Yteioecdfimphaaa.Pure
open Go.RowKit Go.Proofs.Yteioecdfimphaaa.FCallWaits Go.Proofs.YteioecdfimphaaaW.PrintWords Go.Proofs.YteioecdfimphaaaW.PrintLast Go.Proofs.Yteioecdfimphaaa.Tk Go.Proofs.Yteioecdfimphaaa.Bo Go.Proofs.Yteioecdfimphaaa.Po Go.Proofs.Yteioecdfimphaaa.Co Go.Proofs.Yteioecdfimphaaa.Ca Go.Proofs.Yteioecdfimphaaa.OpenCallWaits
set_option linter.unusedVariables false
set_option linter.unusedSimpArgs false

namespace CallWaitsB
theorem clamp_s (a : Int) : ticks_Clamp.f a = some (cl a) := by
  unfold ticks_Clamp.f mn mx cl; congr 1; (repeat' split) <;> omega
theorem add_s (a b : Int) : ticks_Add.f a b = some (ad a b) := by
  have h1 := cl_lo a; have h2 := cl_hi a; have h3 := cl_lo b; have h4 := cl_hi b
  unfold ticks_Add.f; simp only [clamp_s, Option.bind_some]; rw [w64 (by omega) (by omega)]; rfl
theorem sub_s (a b : Int) : ticks_Sub.f a b = some (sb a b) := by
  have h1 := cl_lo a; have h2 := cl_hi a; have h3 := cl_lo b; have h4 := cl_hi b
  unfold ticks_Sub.f; simp only [clamp_s, Option.bind_some]; rw [w64 (by omega) (by omega)]; unfold mx sb; congr 1; (repeat' split) <;> omega
theorem up_s (a b : Int) : ticks_Up.f a b = some (up a b) := by
  have h1 := cl_lo a; have h2 := cl_hi a; have h3 := gr_lo b; have h4 := gr_hi b
  have l := quot_lo (T := cl a) (gr_lo b); have u := quot_hi (T := cl a) (gr_lo b)
  have e1 : (cl a + gr b - 1) / gr b ≤ cl a + gr b - 1 := Int.ediv_le_self _ (by omega)
  have e0 : 0 ≤ (cl a + gr b - 1) / gr b := Int.ediv_nonneg (by omega) (by omega)
  have g : mx (cl b) 1 = gr b := rfl
  unfold ticks_Up.f; simp only [clamp_s, Option.bind_some, g]
  rw [if_neg (by omega), w64 (n := cl a + gr b) (by omega) (by omega), w64 (n := cl a + gr b - 1) (by omega) (by omega), Int.tdiv_eq_ediv_of_nonneg (by omega), w64 (n := (cl a + gr b - 1) / gr b) (by omega) (by omega), w64 (by omega) (by omega)]; rfl
theorem past_s (a b c : Int) : ticks_Past.f a b c = some (decide (up b c ≤ cl a)) := by
  unfold ticks_Past.f; simp only [clamp_s, up_s, Option.bind_some, ge_iff_le]
theorem rclamp_s (a : Int) : hourglassref01_Clamp.f a = some (cl a) := by
  unfold hourglassref01_Clamp.f cl; (repeat' split) <;> first | rfl | omega
theorem radd_s (a b : Int) : hourglassref01_Add.f a b = some (ad a b) := by
  have h1 := cl_lo a; have h2 := cl_hi a; have h3 := cl_lo b; have h4 := cl_hi b
  unfold hourglassref01_Add.f; simp only [rclamp_s, Option.bind_some]; rw [w64 (by omega) (by omega), w64 (by omega) (by omega)]
  by_cases h : cl a > 1125899906842624 - cl b
  · rw [if_pos h]; unfold ad; rw [cl_top (a := cl a + cl b) (by omega)]
  · rw [if_neg h]; unfold ad; rw [cl_id (a := cl a + cl b) (by omega) (by omega)]
theorem cclean_s (c : Int) : code_Clean.f c = some (cc c) := by
  unfold code_Clean.f code_Right.f cc
  by_cases h : c ≥ 0
  · by_cases h2 : c < 17
    · rw [if_pos h, decide_eq_true h2, if_pos ⟨h, h2⟩]; rfl
    · rw [if_pos h, decide_eq_false h2, if_neg (by omega)]; rfl
  · rw [if_neg h, if_neg (by omega)]; rfl
theorem left_s (a b : Int) : budget_Left.f a b = some (sb a b) := by
  unfold budget_Left.f; simp only [sub_s, Option.bind_some]
theorem enough_s (a b c : Int) : budget_Enough.f a b c = some (eno a b c) := by
  unfold budget_Enough.f; simp only [left_s, clamp_s, Option.bind_some]
  by_cases h : sb a b > 0
  · rw [if_pos h]; unfold eno; congr 1; simp; intro _; omega
  · rw [if_neg h]; unfold eno; congr 1; simp; intro _; omega
theorem full_s (t : Int) : throttle_Full.f t = some (full t) := by
  unfold throttle_Full.f full mn mx; rfl
theorem cln_s (h t : Int) : throttle_clean.f h t = some (cln h t) := by
  unfold throttle_clean.f; simp only [full_s, Option.bind_some]; unfold cln mn mx; rfl
theorem may_s (h t : Int) : throttle_May.f h t = some (may h t) := by
  have a := cln_lo h t; have b := cln_hi h t; have c := full_hi t
  unfold throttle_May.f; simp only [cln_s, full_s, Option.bind_some]; rw [w64 (by omega) (by omega)]; rfl
theorem step_l (m : Int) (hm0 : 0 ≤ m) (hm1 : m ≤ 1125899906842624) (N : Int) (hN : N ≤ 64) (d : Nat) : ∀ (k : Nat) (x i : Int), 0 ≤ x → x ≤ 1125899906842624 → 0 ≤ i → N - i = d → d < k →
    backoff_Step.l0 k x m N i = some (if m < rep d x then m else rep d x) := by
  induction d with
  | zero =>
    intro k x i h0 h1 hi hd hk
    obtain ⟨k, rfl⟩ : ∃ j, k = j + 1 := ⟨k - 1, by omega⟩
    simp only [backoff_Step.l0]; rw [if_neg (by omega)]; rfl
  | succ d ih =>
    intro k x i h0 h1 hi hd hk
    obtain ⟨k, rfl⟩ : ∃ j, k = j + 1 := ⟨k - 1, by omega⟩
    have b := rep_bd (d + 1) x h0 h1
    simp only [backoff_Step.l0]; rw [if_pos (by omega)]
    by_cases hx : x ≥ m
    · rw [if_pos hx]; congr 1; unfold mn; (repeat' split) <;> omega
    · have c : cl x = x := cl_id h0 h1
      have e : ad x x = cl (x + x) := by unfold ad; rw [c]
      rw [if_neg hx, add_s, Option.bind_some, e, w64 (by omega) (by omega), ih k _ _ (cl_lo _) (cl_hi _) (by omega) (by omega) (by omega)]; rfl
theorem step_s (k : Nat) (hk : 64 < k) (b m : Int) {att : Int} (h : (Lit.int .i64 att).wf = true) : backoff_Step.f k b m att = some (stp b m att) := by
  have hb := bounds_i64 h
  unfold backoff_Step.f; simp only [clamp_s, Option.bind_some]
  have e : mn (wrap64 ((mx att 1) - 1)) 64 = (nn att : Int) := by
    have : wrap64 ((mx att 1) - 1) = mx att 1 - 1 := by apply w64 <;> (unfold mx; split <;> omega)
    rw [this]; unfold mn mx nn; (repeat' split) <;> omega
  have hn : (nn att : Int) ≤ 64 := by unfold nn; (repeat' split) <;> omega
  rw [e, step_l _ (cl_lo m) (cl_hi m) _ hn (nn att) k _ _ (cl_lo b) (cl_hi b) (by omega) (by omega) (by omega)]; rfl
theorem delay_s (k : Nat) (hk : 64 < k) (b m : Int) {att : Int} (h : (Lit.int .i64 att).wf = true) (j : Int) : backoff_Delay.f k b m att j = some (dly (stp b m att) j) := by
  unfold backoff_Delay.f; rw [step_s k hk b m h]; simp only [Option.bind_some]
  have h0 := stp_lo b m att; have h1 := stp_hi b m att
  generalize stp b m att = s at h0 h1 ⊢
  have J : mn (mx j 0) 1000 = jc j := by unfold mn mx jc; (repeat' split) <;> omega
  have j0 := jc_lo j; have j1 := jc_hi j
  have p := off_parts (s / 2) (jc j)
  have o0 := off_lo h0 j0; have o1 := off_hi h0 j1
  have a0 : 0 ≤ s / 2 / 1000 * jc j := Int.mul_nonneg (by omega) j0
  have a1 : s / 2 / 1000 * jc j ≤ s / 2 / 1000 * 1000 := Int.mul_le_mul_of_nonneg_left j1 (by omega)
  have b0 : 0 ≤ s / 2 % 1000 * jc j := Int.mul_nonneg (by omega) j0
  have b1 : s / 2 % 1000 * jc j ≤ s / 2 % 1000 * 1000 := Int.mul_le_mul_of_nonneg_left j1 (by omega)
  rw [J, Int.tdiv_eq_ediv_of_nonneg h0, w64 (n := s / 2) (by omega) (by omega), Int.tdiv_eq_ediv_of_nonneg (a := s / 2) (by omega), w64 (n := s / 2 / 1000) (by omega) (by omega), Int.tmod_eq_emod_of_nonneg (by omega),
    w64 (n := s / 2 / 1000 * jc j) (by omega) (by omega), w64 (n := s / 2 % 1000 * jc j) (by omega) (by omega), Int.tdiv_eq_ediv_of_nonneg b0, w64 (n := s / 2 % 1000 * jc j / 1000) (by omega) (by omega), w64 (n := s - s / 2 / 1000 * jc j) (by omega) (by omega), w64 (by omega) (by omega)]
  unfold dly; congr 1; omega
theorem ready_s (k : Nat) (hk : 64 < k) (c0 c1 c2 c3 c4 c5 c6 c7 c8 c9 c10 c11 c12 : Int) (l : List (List S46)) (f0 : Int) {f1 : Int} (f2 : Bool) (f3 f4 f5 f6 f7 : Int) (h : (Lit.int .i64 f1).wf = true) : policy_Ready.f k c0 c1 c2 c3 c4 c5 c6 c7 c8 c9 c10 c11 c12 l f0 f1 f2 f3 f4 f5 f6 f7 = some (rdy c9 c10 f1 f7 f3 f5) := by
  unfold policy_Ready.f; simp only [delay_s k hk c9 c10 h, add_s, Option.bind_some]; unfold rdy
  by_cases a : f3 ≥ 0
  · rw [if_pos a, if_pos (by omega)]
  · rw [if_neg a, if_neg (by omega)]
theorem again_s (c : Int) : code_Again.f c = some (decide (c = 14 ∨ c = 8)) := by
  unfold code_Again.f
  by_cases h : c = 14
  · rw [if_pos h]; simp [h]
  · rw [if_neg h]; congr 1; rw [Bool.eq_iff_iff]; simp [h]
theorem decide_s (k : Nat) (hk : 64 < k) (c0 c1 c2 c3 c4 c5 c6 c7 c8 c9 c10 c11 c12 : Int) (l : List (List S46)) (f0 : Int) {f1 : Int} (f2 : Bool) (f3 f4 f5 f6 f7 : Int) (h : (Lit.int .i64 f1).wf = true) : policy_Decide.f k c0 c1 c2 c3 c4 c5 c6 c7 c8 c9 c10 c11 c12 l f0 f1 f2 f3 f4 f5 f6 f7 = some (dec c9 c10 c8 c12 c4 f0 f1 f2 f3 f4 f5 f6 f7) := by
  unfold policy_Decide.f; simp only [again_s, may_s, ready_s k hk _ _ _ _ _ _ _ _ _ _ _ _ _ _ _ _ _ _ _ _ _ h, enough_s, Option.bind_some]; unfold dec
  by_cases a : f0 = 14 ∨ f0 = 8
  · rw [if_pos (by simpa using a), if_pos a]
    by_cases b : f2 = true
    · rw [if_pos b, if_pos b]
    rw [if_neg b, if_neg b]
    by_cases c : f1 ≥ c8
    · rw [if_pos c, if_pos (show c8 ≤ f1 from c)]
    rw [if_neg c, if_neg (show ¬ c8 ≤ f1 from c)]
    by_cases d : f3 = -1
    · rw [if_pos d, if_pos d]
    rw [if_neg d, if_neg d]
    by_cases e : may f4 c12 = true
    · rw [if_pos e, if_pos e]; split <;> rfl
    · rw [if_neg e, if_neg e]
  · rw [if_neg (by simpa using a), if_neg a]
theorem begin_s (k : Nat) (hk : 2 ≤ k) (x : Cl) (now : Int) (a0 : -9223372036854775808 ≤ x.att) (t0 : 0 ≤ x.tries) (t1 : x.tries ≤ 2000000) : call_Begin.f k x.nd x.inc x.sq x.to x.pr x.att x.st x.sent x.rdy x.com x.code x.val x.tries now = some (bg x now).t := by
  obtain ⟨k, rfl⟩ : ∃ j, k = j + 1 := ⟨k - 1, by omega⟩
  unfold call_Begin.f bg
  by_cases q : (x.st = 0 ∨ x.st = 2) ∧ x.att < 5
  · have e : decide (x.att ≥ 5) = false := decide_eq_false (by omega)
    have e2 : ∀ z, (if x.st = 0 then z else if x.st = 2 then z else call_Begin.j0 (k + 1) now true x.nd x.inc x.sq x.to x.pr x.att x.st x.sent x.rdy x.com x.code x.val x.tries) = z := by
      intro z; rcases q.1 with s | s
      · rw [if_pos s]
      · rw [if_neg (by omega), if_pos s]
    rw [e2, e, call_Begin.j0, if_neg (by simp), clamp_s, Option.bind_some, w64 (by omega) (by omega), w64 (by omega) (by omega), if_pos q]; rfl
  · have e2 : (if x.st = 0 then call_Begin.j0 (k + 1) now (decide (x.att ≥ 5)) x.nd x.inc x.sq x.to x.pr x.att x.st x.sent x.rdy x.com x.code x.val x.tries else if x.st = 2 then call_Begin.j0 (k + 1) now (decide (x.att ≥ 5)) x.nd x.inc x.sq x.to x.pr x.att x.st x.sent x.rdy x.com x.code x.val x.tries else call_Begin.j0 (k + 1) now true x.nd x.inc x.sq x.to x.pr x.att x.st x.sent x.rdy x.com x.code x.val x.tries) = call_Begin.j0 (k + 1) now true x.nd x.inc x.sq x.to x.pr x.att x.st x.sent x.rdy x.com x.code x.val x.tries := by
      by_cases s : x.st = 0
      · rw [if_pos s, decide_eq_true (by omega)]
      · by_cases s2 : x.st = 2
        · rw [if_neg s, if_pos s2, decide_eq_true (by omega)]
        · rw [if_neg s, if_neg s2]
    rw [e2, call_Begin.j0, if_pos rfl, if_neg q]; rfl
theorem ends_s (x : Cl) (n : Int) : call_Ends.f x.nd x.inc x.sq x.to x.pr x.att x.st x.sent x.rdy x.com x.code x.val x.tries n = some (en x n).t := by
  unfold call_Ends.f en; simp only [cclean_s, Option.bind_some]
  by_cases q : x.st = 3
  · rw [if_pos q, if_pos q]; rfl
  · rw [if_neg q, if_neg q]; rfl
theorem good_s (x : Cl) (v : Int) : call_Good.f x.nd x.inc x.sq x.to x.pr x.att x.st x.sent x.rdy x.com x.code x.val x.tries v = some (gdd x v).t := by
  unfold call_Good.f gdd; simp only [ends_s, Option.bind_some]
  by_cases q : x.st = 1
  · rw [if_pos q, if_pos q]; rfl
  · rw [if_neg q, if_neg q]; rfl
theorem bad_s (k : Nat) (hk : 64 < k) (x : Cl) (c0 c1 c2 c3 c4 c5 c6 c7 c8 c9 c10 c11 c12 : Int) (l : List (List S46)) (f0 f1 : Int) (f2 : Bool) (f3 f4 f5 f6 f7 : Int) (h : (Lit.int .i64 x.att).wf = true) :
    call_Bad.f k x.nd x.inc x.sq x.to x.pr x.att x.st x.sent x.rdy x.com x.code x.val x.tries c0 c1 c2 c3 c4 c5 c6 c7 c8 c9 c10 c11 c12 l f0 f1 f2 f3 f4 f5 f6 f7 = some ((bd x ⟨c9, c10, c8, c12, c4⟩ ⟨f0, f3, f4, f5, f6, f7⟩).1.tw (bd x ⟨c9, c10, c8, c12, c4⟩ ⟨f0, f3, f4, f5, f6, f7⟩).2) := by
  unfold call_Bad.f bd dc; simp only [decide_s k hk c0 c1 c2 c3 c4 c5 c6 c7 c8 c9 c10 c11 c12 l f0 x.com f3 f4 f5 f6 f7 h, ends_s, Option.bind_some]
  by_cases q : x.st = 1
  · rw [if_pos q, if_pos q]
    by_cases z : (dec c9 c10 c8 c12 c4 f0 x.att x.com f3 f4 f5 f6 f7).1 = 0
    · rw [if_pos z, if_pos z]; rfl
    · rw [if_neg z, if_neg z]; rfl
  · rw [if_neg q, if_neg q]; rfl
theorem lost_s (x : Cl) (now wait grain : Int) : call_Lost.f x.nd x.inc x.sq x.to x.pr x.att x.st x.sent x.rdy x.com x.code x.val x.tries now wait grain = some (lost x now wait grain) := by
  unfold call_Lost.f lost; simp only [add_s, past_s, Option.bind_some]
  by_cases q : x.st = 1
  · rw [if_pos q]; congr 1; simp [q]
  · rw [if_neg q]; congr 1; simp [q]
theorem rested_s (x : Cl) (now grain : Int) : call_Rested.f x.nd x.inc x.sq x.to x.pr x.att x.st x.sent x.rdy x.com x.code x.val x.tries now grain = some (rested x now grain) := by
  unfold call_Rested.f rested; simp only [past_s, Option.bind_some]
  by_cases q : x.st = 2
  · rw [if_pos q]; congr 1; simp [q]
  · rw [if_neg q]; congr 1; simp [q]
theorem awake_s (k : Nat) (hk : 72 < k) : hourglasslaw21_awake.f k = some true := by
  refine at_rounds (g := hourglasslaw21_awake.f) hourglasslaw21_awake.mono (k := 73) hk ?_
  decide +kernel
end CallWaitsB
open CallWaitsB

theorem waits_1 (k : Nat) (hk : 80 < k) (y : Cl) (now wait grain : Int) (b : Bool) (hs : y.st = 2) (hb : b = true → rested y now grain = false) :
    hourglasslaw21_CallWaits.j1 k now wait grain b y.nd y.inc y.sq y.to y.pr y.att y.st y.sent y.rdy y.com y.code y.val y.tries = some true := by
  obtain ⟨k, rfl⟩ : ∃ j, k = j + 1 := ⟨k - 1, by omega⟩
  have hl : lost y now wait grain = false := by unfold lost; simp [hs]
  rw [hourglasslaw21_CallWaits.j1, if_pos hs]
  simp only [lost_s, rested_s, hl, Option.bind_some, awake_s k (by omega)]
  by_cases q : b = true
  · rw [if_pos q]; simp [hb q]
  · rw [if_neg q]; simp
theorem waits_0 (k : Nat) (hk : 90 < k) (now wait grain : Int) (c0 c1 c2 c3 c4 c5 c6 c7 c8 c9 c10 c11 c12 : Int) (l : List (List S46)) (f0 f1 : Int) (f2 : Bool) (f3 f4 f5 f6 f7 : Int) (x : Cl) (hs : x.st = 1) (h : (Lit.int .i64 x.att).wf = true) :
    hourglasslaw21_CallWaits.j0 k now wait grain false c0 c1 c2 c3 c4 c5 c6 c7 c8 c9 c10 c11 c12 l f0 f1 f2 f3 f4 f5 f6 f7 x.nd x.inc x.sq x.to x.pr x.att x.st x.sent x.rdy x.com x.code x.val x.tries = some true := by
  obtain ⟨k, rfl⟩ : ∃ j, k = j + 1 := ⟨k - 1, by omega⟩
  rw [hourglasslaw21_CallWaits.j0, if_neg (by simp)]
  simp only [hourglasslaw21_mine.f, Option.bind_some, bad_s k (by omega) x c0 c1 c2 c3 c4 c5 c6 c7 c8 c9 c10 c11 c12 l _ _ _ _ _ _ _ _ h, rclamp_s, radd_s, awake_s k (by omega)]
  unfold bd
  rw [if_pos hs]
  by_cases z : (dc x ⟨c9, c10, c8, c12, c4⟩ ⟨f0, f3, f4, f5, f6, f7⟩).1 = 0
  · rw [if_pos z]
    have e : (dc x ⟨c9, c10, c8, c12, c4⟩ ⟨f0, f3, f4, f5, f6, f7⟩).2 = rdy c9 c10 x.att f7 f3 f5 := dec_at z
    have lo := rdy_lo c9 c10 x.att f7 f3 f5
    have hc := rdy_cl c9 c10 x.att f7 f3 f5
    have hu := up_lo (rdy c9 c10 x.att f7 f3 f5) grain
    rw [hc] at hu
    show (if (dc x ⟨c9, c10, c8, c12, c4⟩ ⟨f0, f3, f4, f5, f6, f7⟩).1 = 0 then _ else _) = _
    rw [if_pos z]
    have no : cl now < rdy c9 c10 x.att f7 f3 f5 → rested { x with st := 2, rdy := (dc x ⟨c9, c10, c8, c12, c4⟩ ⟨f0, f3, f4, f5, f6, f7⟩).2 } now grain = false := by
      intro q; unfold rested; rw [e]; simp; omega
    by_cases q : cl now < cl f5
    · rw [if_pos q]; exact waits_1 k (by omega) { x with st := 2, rdy := (dc x ⟨c9, c10, c8, c12, c4⟩ ⟨f0, f3, f4, f5, f6, f7⟩).2 } now wait grain true rfl (fun _ => no (by omega))
    · rw [if_neg q]
      by_cases p : f3 ≥ 0
      · rw [if_pos p]
        refine waits_1 k (by omega) { x with st := 2, rdy := (dc x ⟨c9, c10, c8, c12, c4⟩ ⟨f0, f3, f4, f5, f6, f7⟩).2 } now wait grain _ rfl (fun t => no ?_)
        have t' := of_decide_eq_true t
        unfold rdy; rw [if_pos p]; exact t'
      · rw [if_neg p]
        exact waits_1 k (by omega) { x with st := 2, rdy := (dc x ⟨c9, c10, c8, c12, c4⟩ ⟨f0, f3, f4, f5, f6, f7⟩).2 } now wait grain false rfl (fun t => by cases t)
  · rw [if_neg z]
    show (if (dc x ⟨c9, c10, c8, c12, c4⟩ ⟨f0, f3, f4, f5, f6, f7⟩).1 = 0 then _ else (if (en x f0).st = 3 then _ else _)) = _
    rw [if_neg z, if_pos (en_st x f0)]
    have r := rested_s (en x f0) now grain
    have n : rested (en x f0) now grain = false := by unfold rested; simp [en_st]
    rw [n] at r
    show ((call_Rested.f (en x f0).nd (en x f0).inc (en x f0).sq (en x f0).to (en x f0).pr (en x f0).att (en x f0).st (en x f0).sent (en x f0).rdy (en x f0).com (en x f0).code (en x f0).val (en x f0).tries now grain).bind _) = _
    rw [r]; rfl
theorem CallWaits : PureS := by
  intro c f now wait grain hc hf _ _ _
  obtain ⟨c0, c1, c2, c3, c4, c5, c6, c7, c8, c9, c10, c11, c12, l⟩ := c
  obtain ⟨f0, f1, f2, f3, f4, f5, f6, f7⟩ := f
  refine ⟨100, ?_⟩
  have b := begin_s 100 (by omega) ⟨0, 0, 0, 0, 0, 0, 0, 0, 0, false, 0, 0, 0⟩ f5 (by simp) (by simp) (by simp)
  have fin := waits_0 100 (by omega) now wait grain c0 c1 c2 c3 c4 c5 c6 c7 c8 c9 c10 c11 c12 l f0 f1 f2 f3 f4 f5 f6 f7 ⟨0, 0, 0, 0, 0, 1, 1, cl f5, 0, false, 0, 0, 1⟩ rfl (by show (Lit.int .i64 1).wf = true; decide)
  have ll := lost_s ⟨0, 0, 0, 0, 0, 1, 1, cl f5, 0, false, 0, 0, 1⟩ now wait grain
  have b' : call_Begin.f 100 0 0 0 0 0 0 0 0 0 false 0 0 0 f5 = some (Cl.t ⟨0, 0, 0, 0, 0, 1, 1, cl f5, 0, false, 0, 0, 1⟩) := b
  show hourglasslaw21_CallWaits.f 100 c0 c1 c2 c3 c4 c5 c6 c7 c8 c9 c10 c11 c12 l f0 f1 f2 f3 f4 f5 f6 f7 now wait grain = some true
  unfold hourglasslaw21_CallWaits.f
  simp only [b', Option.bind_some]
  show ((call_Lost.f 0 0 0 0 0 1 1 (cl f5) 0 false 0 0 1 now wait grain).bind _) = _
  have ll' : call_Lost.f 0 0 0 0 0 1 1 (cl f5) 0 false 0 0 1 now wait grain = some (lost ⟨0, 0, 0, 0, 0, 1, 1, cl f5, 0, false, 0, 0, 1⟩ now wait grain) := ll
  simp only [ll', Option.bind_some, rclamp_s, radd_s]
  by_cases q : lost ⟨0, 0, 0, 0, 0, 1, 1, cl f5, 0, false, 0, 0, 1⟩ now wait grain = true
  · rw [if_pos q]
    have u : up (ad (cl f5) wait) grain ≤ cl now := by unfold lost at q; simp at q; exact q
    have e : ad (cl f5) wait = ad f5 wait := by unfold ad; rw [cl_cl]
    have v := up_lo (ad (cl f5) wait) grain
    rw [e] at u v
    rw [cl_id (ad_lo f5 wait) (ad_hi f5 wait)] at v
    have n : decide (cl now < ad f5 wait) = false := decide_eq_false (by omega)
    rw [n]; exact fin
  · rw [if_neg q]; exact fin

end Go.Proofs.Yteioecdfimphaaa.Pure
