/- The plain law of CallBounds: for all whole numbers and texts in their kinds' bounds the printed function answers true. -/
import Derived.Test.YteioecdfimphaaaFCallBoundsx7
import Derived.OpenShut
import Derived.Test.YteioecdfimphaaaTk
import Derived.Test.YteioecdfimphaaaBo
import Derived.Test.YteioecdfimphaaaPo
import Derived.Test.YteioecdfimphaaaCo
import Derived.Test.YteioecdfimphaaaCa
import Derived.Test.YteioecdfimphaaaOpenCallBounds
namespace Go.Proofs.Yteioecdfimphaaa.Pure
open Go.RowKit Go.Proofs.Yteioecdfimphaaa.FCallBounds Go.Proofs.YteioecdfimphaaaW.PrintWords Go.Proofs.YteioecdfimphaaaW.PrintLast Go.Proofs.Yteioecdfimphaaa.Tk Go.Proofs.Yteioecdfimphaaa.Bo Go.Proofs.Yteioecdfimphaaa.Po Go.Proofs.Yteioecdfimphaaa.Co Go.Proofs.Yteioecdfimphaaa.Ca Go.Proofs.Yteioecdfimphaaa.OpenCallBounds
set_option linter.unusedVariables false
set_option linter.unusedSimpArgs false

namespace CallBoundsB
theorem clamp_s (a : Int) : ticks_Clamp.f a = some (cl a) := by
  unfold ticks_Clamp.f mn mx cl; congr 1; (repeat' split) <;> omega
theorem add_s (a b : Int) : ticks_Add.f a b = some (ad a b) := by
  have h1 := cl_lo a; have h2 := cl_hi a; have h3 := cl_lo b; have h4 := cl_hi b
  unfold ticks_Add.f; simp only [clamp_s, Option.bind_some]; rw [w64 (by omega) (by omega)]; rfl
theorem sub_s (a b : Int) : ticks_Sub.f a b = some (sb a b) := by
  have h1 := cl_lo a; have h2 := cl_hi a; have h3 := cl_lo b; have h4 := cl_hi b
  unfold ticks_Sub.f; simp only [clamp_s, Option.bind_some]; rw [w64 (by omega) (by omega)]; unfold mx sb; congr 1; (repeat' split) <;> omega
theorem cclean_s (c : Int) : code_Clean.f c = some (cc c) := by
  unfold code_Clean.f code_Right.f cc
  by_cases h : c ≥ 0
  · by_cases h2 : c < 17
    · rw [if_pos h, decide_eq_true h2, if_pos ⟨h, h2⟩]; rfl
    · rw [if_pos h, decide_eq_false h2, if_neg (by omega)]; rfl
  · rw [if_neg h, if_neg (by omega)]; rfl
theorem left_s (a b : Int) : budget_Left.f a b = some (sb a b) := by
  unfold budget_Left.f; simp only [sub_s, Option.bind_some]
theorem enough_s (a b c : Int) : budget_Enough.f a b c = some (eno a b c) := by
  unfold budget_Enough.f; simp only [left_s, clamp_s, Option.bind_some]
  by_cases h : sb a b > 0
  · rw [if_pos h]; unfold eno; congr 1; simp; intro _; omega
  · rw [if_neg h]; unfold eno; congr 1; simp; intro _; omega
theorem full_s (t : Int) : throttle_Full.f t = some (full t) := by
  unfold throttle_Full.f full mn mx; rfl
theorem cln_s (h t : Int) : throttle_clean.f h t = some (cln h t) := by
  unfold throttle_clean.f; simp only [full_s, Option.bind_some]; unfold cln mn mx; rfl
theorem may_s (h t : Int) : throttle_May.f h t = some (may h t) := by
  have a := cln_lo h t; have b := cln_hi h t; have c := full_hi t
  unfold throttle_May.f; simp only [cln_s, full_s, Option.bind_some]; rw [w64 (by omega) (by omega)]; rfl
theorem step_l (m : Int) (hm0 : 0 ≤ m) (hm1 : m ≤ 1125899906842624) (N : Int) (hN : N ≤ 64) (d : Nat) : ∀ (k : Nat) (x i : Int), 0 ≤ x → x ≤ 1125899906842624 → 0 ≤ i → N - i = d → d < k →
    backoff_Step.l0 k x m N i = some (if m < rep d x then m else rep d x) := by
  induction d with
  | zero =>
    intro k x i h0 h1 hi hd hk
    obtain ⟨k, rfl⟩ : ∃ j, k = j + 1 := ⟨k - 1, by omega⟩
    simp only [backoff_Step.l0]; rw [if_neg (by omega)]; rfl
  | succ d ih =>
    intro k x i h0 h1 hi hd hk
    obtain ⟨k, rfl⟩ : ∃ j, k = j + 1 := ⟨k - 1, by omega⟩
    have b := rep_bd (d + 1) x h0 h1
    simp only [backoff_Step.l0]; rw [if_pos (by omega)]
    by_cases hx : x ≥ m
    · rw [if_pos hx]; congr 1; unfold mn; (repeat' split) <;> omega
    · have c : cl x = x := cl_id h0 h1
      have e : ad x x = cl (x + x) := by unfold ad; rw [c]
      rw [if_neg hx, add_s, Option.bind_some, e, w64 (by omega) (by omega), ih k _ _ (cl_lo _) (cl_hi _) (by omega) (by omega) (by omega)]; rfl
theorem step_s (k : Nat) (hk : 64 < k) (b m : Int) {att : Int} (h : (Lit.int .i64 att).wf = true) : backoff_Step.f k b m att = some (stp b m att) := by
  have hb := bounds_i64 h
  unfold backoff_Step.f; simp only [clamp_s, Option.bind_some]
  have e : mn (wrap64 ((mx att 1) - 1)) 64 = (nn att : Int) := by
    have : wrap64 ((mx att 1) - 1) = mx att 1 - 1 := by apply w64 <;> (unfold mx; split <;> omega)
    rw [this]; unfold mn mx nn; (repeat' split) <;> omega
  have hn : (nn att : Int) ≤ 64 := by unfold nn; (repeat' split) <;> omega
  rw [e, step_l _ (cl_lo m) (cl_hi m) _ hn (nn att) k _ _ (cl_lo b) (cl_hi b) (by omega) (by omega) (by omega)]; rfl
theorem delay_s (k : Nat) (hk : 64 < k) (b m : Int) {att : Int} (h : (Lit.int .i64 att).wf = true) (j : Int) : backoff_Delay.f k b m att j = some (dly (stp b m att) j) := by
  unfold backoff_Delay.f; rw [step_s k hk b m h]; simp only [Option.bind_some]
  have h0 := stp_lo b m att; have h1 := stp_hi b m att
  generalize stp b m att = s at h0 h1 ⊢
  have J : mn (mx j 0) 1000 = jc j := by unfold mn mx jc; (repeat' split) <;> omega
  have j0 := jc_lo j; have j1 := jc_hi j
  have p := off_parts (s / 2) (jc j)
  have o0 := off_lo h0 j0; have o1 := off_hi h0 j1
  have a0 : 0 ≤ s / 2 / 1000 * jc j := Int.mul_nonneg (by omega) j0
  have a1 : s / 2 / 1000 * jc j ≤ s / 2 / 1000 * 1000 := Int.mul_le_mul_of_nonneg_left j1 (by omega)
  have b0 : 0 ≤ s / 2 % 1000 * jc j := Int.mul_nonneg (by omega) j0
  have b1 : s / 2 % 1000 * jc j ≤ s / 2 % 1000 * 1000 := Int.mul_le_mul_of_nonneg_left j1 (by omega)
  rw [J, Int.tdiv_eq_ediv_of_nonneg h0, w64 (n := s / 2) (by omega) (by omega), Int.tdiv_eq_ediv_of_nonneg (a := s / 2) (by omega), w64 (n := s / 2 / 1000) (by omega) (by omega), Int.tmod_eq_emod_of_nonneg (by omega),
    w64 (n := s / 2 / 1000 * jc j) (by omega) (by omega), w64 (n := s / 2 % 1000 * jc j) (by omega) (by omega), Int.tdiv_eq_ediv_of_nonneg b0, w64 (n := s / 2 % 1000 * jc j / 1000) (by omega) (by omega), w64 (n := s - s / 2 / 1000 * jc j) (by omega) (by omega), w64 (by omega) (by omega)]
  unfold dly; congr 1; omega
theorem ready_s (k : Nat) (hk : 64 < k) (c0 c1 c2 c3 c4 c5 c6 c7 c8 c9 c10 c11 c12 : Int) (l : List (List S46)) (f0 : Int) {f1 : Int} (f2 : Bool) (f3 f4 f5 f6 f7 : Int) (h : (Lit.int .i64 f1).wf = true) : policy_Ready.f k c0 c1 c2 c3 c4 c5 c6 c7 c8 c9 c10 c11 c12 l f0 f1 f2 f3 f4 f5 f6 f7 = some (rdy c9 c10 f1 f7 f3 f5) := by
  unfold policy_Ready.f; simp only [delay_s k hk c9 c10 h, add_s, Option.bind_some]; unfold rdy
  by_cases a : f3 ≥ 0
  · rw [if_pos a, if_pos (by omega)]
  · rw [if_neg a, if_neg (by omega)]
theorem again_s (c : Int) : code_Again.f c = some (decide (c = 14 ∨ c = 8)) := by
  unfold code_Again.f
  by_cases h : c = 14
  · rw [if_pos h]; simp [h]
  · rw [if_neg h]; congr 1; rw [Bool.eq_iff_iff]; simp [h]
theorem decide_s (k : Nat) (hk : 64 < k) (c0 c1 c2 c3 c4 c5 c6 c7 c8 c9 c10 c11 c12 : Int) (l : List (List S46)) (f0 : Int) {f1 : Int} (f2 : Bool) (f3 f4 f5 f6 f7 : Int) (h : (Lit.int .i64 f1).wf = true) : policy_Decide.f k c0 c1 c2 c3 c4 c5 c6 c7 c8 c9 c10 c11 c12 l f0 f1 f2 f3 f4 f5 f6 f7 = some (dec c9 c10 c8 c12 c4 f0 f1 f2 f3 f4 f5 f6 f7) := by
  unfold policy_Decide.f; simp only [again_s, may_s, ready_s k hk _ _ _ _ _ _ _ _ _ _ _ _ _ _ _ _ _ _ _ _ _ h, enough_s, Option.bind_some]; unfold dec
  by_cases a : f0 = 14 ∨ f0 = 8
  · rw [if_pos (by simpa using a), if_pos a]
    by_cases b : f2 = true
    · rw [if_pos b, if_pos b]
    rw [if_neg b, if_neg b]
    by_cases c : f1 ≥ c8
    · rw [if_pos c, if_pos (show c8 ≤ f1 from c)]
    rw [if_neg c, if_neg (show ¬ c8 ≤ f1 from c)]
    by_cases d : f3 = -1
    · rw [if_pos d, if_pos d]
    rw [if_neg d, if_neg d]
    by_cases e : may f4 c12 = true
    · rw [if_pos e, if_pos e]; split <;> rfl
    · rw [if_neg e, if_neg e]
  · rw [if_neg (by simpa using a), if_neg a]
theorem begin_s (k : Nat) (hk : 2 ≤ k) (x : Cl) (now : Int) (a0 : -9223372036854775808 ≤ x.att) (t0 : 0 ≤ x.tries) (t1 : x.tries ≤ 2000000) : call_Begin.f k x.nd x.inc x.sq x.to x.pr x.att x.st x.sent x.rdy x.com x.code x.val x.tries now = some (bg x now).t := by
  obtain ⟨k, rfl⟩ : ∃ j, k = j + 1 := ⟨k - 1, by omega⟩
  unfold call_Begin.f bg
  by_cases q : (x.st = 0 ∨ x.st = 2) ∧ x.att < 5
  · have e : decide (x.att ≥ 5) = false := decide_eq_false (by omega)
    have e2 : ∀ z, (if x.st = 0 then z else if x.st = 2 then z else call_Begin.j0 (k + 1) now true x.nd x.inc x.sq x.to x.pr x.att x.st x.sent x.rdy x.com x.code x.val x.tries) = z := by
      intro z; rcases q.1 with s | s
      · rw [if_pos s]
      · rw [if_neg (by omega), if_pos s]
    rw [e2, e, call_Begin.j0, if_neg (by simp), clamp_s, Option.bind_some, w64 (by omega) (by omega), w64 (by omega) (by omega), if_pos q]; rfl
  · have e2 : (if x.st = 0 then call_Begin.j0 (k + 1) now (decide (x.att ≥ 5)) x.nd x.inc x.sq x.to x.pr x.att x.st x.sent x.rdy x.com x.code x.val x.tries else if x.st = 2 then call_Begin.j0 (k + 1) now (decide (x.att ≥ 5)) x.nd x.inc x.sq x.to x.pr x.att x.st x.sent x.rdy x.com x.code x.val x.tries else call_Begin.j0 (k + 1) now true x.nd x.inc x.sq x.to x.pr x.att x.st x.sent x.rdy x.com x.code x.val x.tries) = call_Begin.j0 (k + 1) now true x.nd x.inc x.sq x.to x.pr x.att x.st x.sent x.rdy x.com x.code x.val x.tries := by
      by_cases s : x.st = 0
      · rw [if_pos s, decide_eq_true (by omega)]
      · by_cases s2 : x.st = 2
        · rw [if_neg s, if_pos s2, decide_eq_true (by omega)]
        · rw [if_neg s, if_neg s2]
    rw [e2, call_Begin.j0, if_pos rfl, if_neg q]; rfl
theorem ends_s (x : Cl) (n : Int) : call_Ends.f x.nd x.inc x.sq x.to x.pr x.att x.st x.sent x.rdy x.com x.code x.val x.tries n = some (en x n).t := by
  unfold call_Ends.f en; simp only [cclean_s, Option.bind_some]
  by_cases q : x.st = 3
  · rw [if_pos q, if_pos q]; rfl
  · rw [if_neg q, if_neg q]; rfl
theorem good_s (x : Cl) (v : Int) : call_Good.f x.nd x.inc x.sq x.to x.pr x.att x.st x.sent x.rdy x.com x.code x.val x.tries v = some (gdd x v).t := by
  unfold call_Good.f gdd; simp only [ends_s, Option.bind_some]
  by_cases q : x.st = 1
  · rw [if_pos q, if_pos q]; rfl
  · rw [if_neg q, if_neg q]; rfl
theorem bad_s (k : Nat) (hk : 64 < k) (x : Cl) (c0 c1 c2 c3 c4 c5 c6 c7 c8 c9 c10 c11 c12 : Int) (l : List (List S46)) (f0 f1 : Int) (f2 : Bool) (f3 f4 f5 f6 f7 : Int) (h : (Lit.int .i64 x.att).wf = true) :
    call_Bad.f k x.nd x.inc x.sq x.to x.pr x.att x.st x.sent x.rdy x.com x.code x.val x.tries c0 c1 c2 c3 c4 c5 c6 c7 c8 c9 c10 c11 c12 l f0 f1 f2 f3 f4 f5 f6 f7 = some ((bd x ⟨c9, c10, c8, c12, c4⟩ ⟨f0, f3, f4, f5, f6, f7⟩).1.tw (bd x ⟨c9, c10, c8, c12, c4⟩ ⟨f0, f3, f4, f5, f6, f7⟩).2) := by
  unfold call_Bad.f bd dc; simp only [decide_s k hk c0 c1 c2 c3 c4 c5 c6 c7 c8 c9 c10 c11 c12 l f0 x.com f3 f4 f5 f6 f7 h, ends_s, Option.bind_some]
  by_cases q : x.st = 1
  · rw [if_pos q, if_pos q]
    by_cases z : (dec c9 c10 c8 c12 c4 f0 x.att x.com f3 f4 f5 f6 f7).1 = 0
    · rw [if_pos z, if_pos z]; rfl
    · rw [if_neg z, if_neg z]; rfl
  · rw [if_neg q, if_neg q]; rfl
theorem taken_s (x : Cl) : call_Taken.f x.nd x.inc x.sq x.to x.pr x.att x.st x.sent x.rdy x.com x.code x.val x.tries = some (tk x).t := by
  unfold call_Taken.f tk
  by_cases q : x.st = 1
  · rw [if_pos q, if_pos q]; rfl
  · rw [if_neg q, if_neg q]; rfl
theorem step_1 (k : Nat) (hk : 70 < k) (x : Cl) (c0 c1 c2 c3 c4 c5 c6 c7 c8 c9 c10 c11 c12 : Int) (l : List (List S46)) (kind n : Int) (f0 f1 : Int) (f2 : Bool) (f3 f4 f5 f6 f7 : Int) (h : (Lit.int .i64 x.att).wf = true) (b : Bool) (hb : b = decide (kind = 5 ∨ kind = 6 ∨ kind = 7)) :
    hourglasslaw21_step.j1 k 0 kind b x.nd x.inc x.sq x.to x.pr x.att x.st x.sent x.rdy x.com x.code x.val x.tries c0 c1 c2 c3 c4 c5 c6 c7 c8 c9 c10 c11 c12 l kind n f0 f1 f2 f3 f4 f5 f6 f7 = some (if kind = 5 ∨ kind = 6 ∨ kind = 7 then (bd x ⟨c9, c10, c8, c12, c4⟩ ⟨f0, f3, f4, f5, f6, f7⟩).1.tw (bd x ⟨c9, c10, c8, c12, c4⟩ ⟨f0, f3, f4, f5, f6, f7⟩).2 else if kind = 8 then (en x n).tw 0 else x.tw 0) := by
  obtain ⟨k, rfl⟩ : ∃ j, k = j + 1 := ⟨k - 1, by omega⟩
  subst hb
  rw [hourglasslaw21_step.j1]
  by_cases q : kind = 5 ∨ kind = 6 ∨ kind = 7
  · rw [decide_eq_true q, if_pos rfl, if_pos q]
    simp only [hourglasslaw21_mine.f, Option.bind_some, bad_s k (by omega) x c0 c1 c2 c3 c4 c5 c6 c7 c8 c9 c10 c11 c12 l _ _ _ _ _ _ _ _ h, Cl.tw]
  · rw [decide_eq_false q, if_neg (by simp), if_neg q]
    simp only [ends_s, Option.bind_some]
    by_cases e : kind = 8
    · rw [if_pos e, if_pos e]; rfl
    · rw [if_neg e, if_neg e]; rfl
theorem step_0 (k : Nat) (hk : 72 < k) (x : Cl) (c0 c1 c2 c3 c4 c5 c6 c7 c8 c9 c10 c11 c12 : Int) (l : List (List S46)) (kind n : Int) (f0 f1 : Int) (f2 : Bool) (f3 f4 f5 f6 f7 : Int) (h : (Lit.int .i64 x.att).wf = true) (t0 : 0 ≤ x.tries) (t1 : x.tries ≤ 2000000) (b : Bool) (hb : b = decide (kind = 0 ∨ kind = 1 ∨ kind = 2)) :
    hourglasslaw21_step.j0 k 0 kind b x.nd x.inc x.sq x.to x.pr x.att x.st x.sent x.rdy x.com x.code x.val x.tries c0 c1 c2 c3 c4 c5 c6 c7 c8 c9 c10 c11 c12 l kind n f0 f1 f2 f3 f4 f5 f6 f7 = some ((sp x ⟨c9, c10, c8, c12, c4⟩ kind n ⟨f0, f3, f4, f5, f6, f7⟩).1.tw (sp x ⟨c9, c10, c8, c12, c4⟩ kind n ⟨f0, f3, f4, f5, f6, f7⟩).2) := by
  obtain ⟨k, rfl⟩ : ∃ j, k = j + 1 := ⟨k - 1, by omega⟩
  subst hb
  have b0 := (bounds_i64 h).1
  rw [hourglasslaw21_step.j0]; unfold sp
  by_cases q : kind = 0 ∨ kind = 1 ∨ kind = 2
  · rw [decide_eq_true q, if_pos rfl, if_pos q, begin_s k (by omega) x n b0 t0 t1]; rfl
  rw [decide_eq_false q, if_neg (by simp), if_neg q]
  by_cases q3 : kind = 3
  · rw [if_pos q3, if_pos q3, good_s]; rfl
  rw [if_neg q3, if_neg q3]
  by_cases q4 : kind = 4
  · rw [if_pos q4, if_pos q4, taken_s]; rfl
  rw [if_neg q4, if_neg q4]
  have fin : ∀ b : Bool, b = decide (kind = 5 ∨ kind = 6 ∨ kind = 7) → hourglasslaw21_step.j1 k 0 kind b x.nd x.inc x.sq x.to x.pr x.att x.st x.sent x.rdy x.com x.code x.val x.tries c0 c1 c2 c3 c4 c5 c6 c7 c8 c9 c10 c11 c12 l kind n f0 f1 f2 f3 f4 f5 f6 f7 = some ((if kind = 5 ∨ kind = 6 ∨ kind = 7 then bd x ⟨c9, c10, c8, c12, c4⟩ ⟨f0, f3, f4, f5, f6, f7⟩ else if kind = 8 then (en x n, 0) else (x, 0)).1.tw (if kind = 5 ∨ kind = 6 ∨ kind = 7 then bd x ⟨c9, c10, c8, c12, c4⟩ ⟨f0, f3, f4, f5, f6, f7⟩ else if kind = 8 then (en x n, 0) else (x, 0)).2) := by
    intro b hb
    rw [step_1 k (by omega) x c0 c1 c2 c3 c4 c5 c6 c7 c8 c9 c10 c11 c12 l kind n _ _ _ _ _ _ _ _ h b hb]
    (repeat' split) <;> rfl
  by_cases q5 : kind = 5
  · rw [if_pos q5]; exact fin _ (by simp [q5])
  rw [if_neg q5]
  by_cases q6 : kind = 6
  · rw [if_pos q6]; exact fin _ (by simp [q6])
  rw [if_neg q6]
  exact fin _ (by by_cases q7 : kind = 7 <;> simp [q5, q6, q7])
theorem step21_s (k : Nat) (hk : 72 < k) (x : Cl) (c0 c1 c2 c3 c4 c5 c6 c7 c8 c9 c10 c11 c12 : Int) (l : List (List S46)) (kind n : Int) (f0 f1 : Int) (f2 : Bool) (f3 f4 f5 f6 f7 : Int) (h : (Lit.int .i64 x.att).wf = true) (t0 : 0 ≤ x.tries) (t1 : x.tries ≤ 2000000) :
    hourglasslaw21_step.f k x.nd x.inc x.sq x.to x.pr x.att x.st x.sent x.rdy x.com x.code x.val x.tries c0 c1 c2 c3 c4 c5 c6 c7 c8 c9 c10 c11 c12 l kind n f0 f1 f2 f3 f4 f5 f6 f7 = some ((sp x ⟨c9, c10, c8, c12, c4⟩ kind n ⟨f0, f3, f4, f5, f6, f7⟩).1.tw (sp x ⟨c9, c10, c8, c12, c4⟩ kind n ⟨f0, f3, f4, f5, f6, f7⟩).2) := by
  have fin := step_0 k hk x c0 c1 c2 c3 c4 c5 c6 c7 c8 c9 c10 c11 c12 l kind n f0 f1 f2 f3 f4 f5 f6 f7 h t0 t1
  unfold hourglasslaw21_step.f
  by_cases q0 : kind = 0
  · rw [if_pos q0]; exact fin _ (by simp [q0])
  rw [if_neg q0]
  by_cases q1 : kind = 1
  · rw [if_pos q1]; exact fin _ (by simp [q1])
  rw [if_neg q1]
  exact fin _ (by by_cases q2 : kind = 2 <;> simp [q0, q1, q2])
theorem awake_s (k : Nat) (hk : 72 < k) : hourglasslaw21_awake.f k = some true := by
  refine at_rounds (g := hourglasslaw21_awake.f) hourglasslaw21_awake.mono (k := 73) hk ?_
  decide +kernel
end CallBoundsB
open CallBoundsB

theorem bounds_l (c0 c1 c2 c3 c4 c5 c6 c7 c8 c9 c10 c11 c12 : Int) (l : List (List S46)) (L : List S79) (hL : L.length ≤ 140737488351232) (d : Nat) : ∀ (k : Nat) (i : Nat) (x : Cl), Ok x c8 → i ≤ 40 → i ≤ L.length → (if 40 < L.length then 40 else L.length) - i = d → 100 + 4 * d ≤ k →
    hourglasslaw21_CallBounds.l0 k L (i : Int) c0 c1 c2 c3 c4 c5 c6 c7 c8 c9 c10 c11 c12 l x.nd x.inc x.sq x.to x.pr x.att x.st x.sent x.rdy x.com x.code x.val x.tries = some true := by
  induction d with
  | zero =>
    intro k i x hx h40 hi hd hk
    obtain ⟨k, rfl⟩ : ∃ j, k = j + 2 := ⟨k - 2, by omega⟩
    have fin : hourglasslaw21_CallBounds.j1 (k + 1) L (i : Int) false c0 c1 c2 c3 c4 c5 c6 c7 c8 c9 c10 c11 c12 l x.nd x.inc x.sq x.to x.pr x.att x.st x.sent x.rdy x.com x.code x.val x.tries = some true := by
      rw [hourglasslaw21_CallBounds.j1, if_neg (by simp), awake_s k (by omega)]
      by_cases q : c8 < 1
      · rw [if_pos q]; rfl
      · rw [if_neg q]
        rcases hx.most with m | m
        · rw [if_pos m]; rfl
        · by_cases m1 : x.att ≤ 1
          · rw [if_pos m1]; rfl
          · rw [if_neg m1, if_pos m]; rfl
    rw [hourglasslaw21_CallBounds.l0]
    by_cases q : (i : Int) < (L.length : Int)
    · rw [if_pos q, decide_eq_false (by split at hd <;> omega)]; exact fin
    · rw [if_neg q]; exact fin
  | succ d ih =>
    intro k i x hx h40 hi hd hk
    obtain ⟨k, rfl⟩ : ∃ j, k = j + 4 := ⟨k - 4, by omega⟩
    have q : i < L.length := by split at hd <;> omega
    have q40 : i < 40 := by split at hd <;> omega
    have hwf : (Lit.int .i64 x.att).wf = true := WalkArith.wf_i64 ⟨by have := hx.lo; omega, by have := hx.hi; omega⟩
    have ht := hx.at_
    rw [hourglasslaw21_CallBounds.l0, if_pos (by omega), decide_eq_true (by omega), hourglasslaw21_CallBounds.j1, if_pos rfl, if_pos (by omega), if_pos (by omega),
      step21_s (k + 2) (by omega) x c0 c1 c2 c3 c4 c5 c6 c7 c8 c9 c10 c11 c12 l _ _ _ _ _ _ _ _ _ _ hwf (by have := hx.lo; omega) (by have := hx.hi; omega), Option.bind_some]
    obtain ⟨o, o1, o2, o3, o4, o5⟩ := ok_sp hx (rd_T79 L (i : Int)).f0 (rd_T79 L (i : Int)).f1 ⟨(rd_T79 L (i : Int)).f2.f0, (rd_T79 L (i : Int)).f2.f3, (rd_T79 L (i : Int)).f2.f4, (rd_T79 L (i : Int)).f2.f5, (rd_T79 L (i : Int)).f2.f6, (rd_T79 L (i : Int)).f2.f7⟩ (g := ⟨c9, c10, c8, c12, c4⟩)
    generalize sp x ⟨c9, c10, c8, c12, c4⟩ (rd_T79 L (i : Int)).f0 (rd_T79 L (i : Int)).f1 ⟨(rd_T79 L (i : Int)).f2.f0, (rd_T79 L (i : Int)).f2.f3, (rd_T79 L (i : Int)).f2.f4, (rd_T79 L (i : Int)).f2.f5, (rd_T79 L (i : Int)).f2.f6, (rd_T79 L (i : Int)).f2.f7⟩ = Y at o o1 o2 o3 o4 o5 ⊢
    obtain ⟨y, w⟩ := Y
    simp only [] at o o1 o2 o3 o4 o5
    have J3 : hourglasslaw21_CallBounds.j3 (k + 1) L (i : Int) false c0 c1 c2 c3 c4 c5 c6 c7 c8 c9 c10 c11 c12 l x.nd x.inc x.sq x.to x.pr x.att x.st x.sent x.rdy x.com x.code x.val x.tries y.nd y.inc y.sq y.to y.pr y.att y.st y.sent y.rdy y.com y.code y.val y.tries = some true := by
      rw [hourglasslaw21_CallBounds.j3, if_neg (by simp), if_pos o.at_, if_neg (by omega), w64 (by have := hx.lo; omega) (by have := hx.hi; omega), if_neg (by omega), if_neg (by have := o.hi; omega), if_neg (by have := o.s0; omega), if_neg (by have := o.s3; omega)]
      have e : wrap64 ((i : Int) + 1) = ((i + 1 : Nat) : Int) := by rw [w64 (by omega) (by omega)]; rfl
      have nx := ih k (i + 1) y o (by omega) (by omega) (by split at hd <;> split <;> omega) (by omega)
      rw [e]
      by_cases cm : x.com = true
      · rw [if_pos cm, if_pos (o3 cm)]; exact nx
      · rw [if_neg cm]; exact nx
    have J2 : hourglasslaw21_CallBounds.j2 (k + 2) L (i : Int) false c0 c1 c2 c3 c4 c5 c6 c7 c8 c9 c10 c11 c12 l x.nd x.inc x.sq x.to x.pr x.att x.st x.sent x.rdy x.com x.code x.val x.tries y.nd y.inc y.sq y.to y.pr y.att y.st y.sent y.rdy y.com y.code y.val y.tries = some true := by
      rw [hourglasslaw21_CallBounds.j2, if_neg (by simp), if_pos (by omega), if_pos (by omega)]
      by_cases k5 : (rd_T79 L (i : Int)).f0 ≥ 5
      · rw [if_pos k5]
        by_cases k7 : (rd_T79 L (i : Int)).f0 ≤ 7
        · rw [if_pos k7]
          by_cases s1 : x.st = 1
          · rw [if_pos s1]
            by_cases cm : x.com = true
            · have : (y.st != 3) = false := by simp [o4 k5 k7 s1 (Or.inl cm)]
              rw [if_pos cm, this]; exact J3
            · rw [if_neg cm]
              by_cases am : x.att ≥ c8
              · have : (y.st != 3) = false := by simp [o4 k5 k7 s1 (Or.inr am)]
                rw [if_pos am, this]; exact J3
              · rw [if_neg am]; exact J3
          · rw [if_neg s1]; exact J3
        · rw [if_neg k7]; exact J3
      · rw [if_neg k5]; exact J3
    show (if x.st = 3 then hourglasslaw21_CallBounds.j2 (k + 2) L (i : Int) ((!(y.nd == x.nd) || (!(y.inc == x.inc) || (!(y.sq == x.sq)))) || (!(y.to == x.to) || (!(y.pr == x.pr) || (!(y.att == x.att) || (!(y.st == x.st) || (!(y.sent == x.sent) || (!(y.rdy == x.rdy) || (!(y.com == x.com) || (!(y.code == x.code) || (!(y.val == x.val) || (!(y.tries == x.tries)))))))))))) c0 c1 c2 c3 c4 c5 c6 c7 c8 c9 c10 c11 c12 l x.nd x.inc x.sq x.to x.pr x.att x.st x.sent x.rdy x.com x.code x.val x.tries y.nd y.inc y.sq y.to y.pr y.att y.st y.sent y.rdy y.com y.code y.val y.tries
      else hourglasslaw21_CallBounds.j2 (k + 2) L (i : Int) false c0 c1 c2 c3 c4 c5 c6 c7 c8 c9 c10 c11 c12 l x.nd x.inc x.sq x.to x.pr x.att x.st x.sent x.rdy x.com x.code x.val x.tries y.nd y.inc y.sq y.to y.pr y.att y.st y.sent y.rdy y.com y.code y.val y.tries) = some true
    by_cases s3 : x.st = 3
    · rw [if_pos s3]
      have e := o5 s3
      subst e
      simp only [beq_self_eq_true, Bool.not_true, Bool.or_false]
      exact J2
    · rw [if_neg s3]; exact J2
theorem CallBounds : PureS := by
  intro d c L hd hc hL
  obtain ⟨d0, d1, d2⟩ := d
  obtain ⟨c0, c1, c2, c3, c4, c5, c6, c7, c8, c9, c10, c11, c12, l⟩ := c
  refine ⟨400, ?_⟩
  have hl : L.length ≤ 140737488351232 := by have h := hL.2; omega
  exact bounds_l c0 c1 c2 c3 c4 c5 c6 c7 c8 c9 c10 c11 c12 l L hl _ 400 0 ⟨d0, d1, d2, 0, 0, 0, 0, 0, 0, false, 0, 0, 0⟩
    ⟨rfl, by simp, by simp, by simp, by simp, fun _ => rfl, fun h => by simp at h, Or.inl (by simp)⟩ (by omega) (by omega) rfl (by split <;> omega)

end Go.Proofs.Yteioecdfimphaaa.Pure
