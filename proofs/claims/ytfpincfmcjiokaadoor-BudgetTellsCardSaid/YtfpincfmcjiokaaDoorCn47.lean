/- Law 14: budgets. No condition. -/
import Derived.Test.YtfpincfmcjiokaaDoorCn46
namespace Go.Proofs.YtfpincfmcjiokaaDoor.Cn
open Go Go.Proofs Go.Proofs.YtfpincfmcjiokaaDoor.Av Go.Proofs.YtfpincfmcjiokaaDoor.Sp
set_option linter.unusedVariables false
set_option linter.unusedSimpArgs false
set_option maxRecDepth 100000
attribute [local irreducible] Fv Fp

theorem deadline_of (a n e : Int) (s : ByteArray) (n1 : Fv Tryd.prog 9 [.str s] (.tup [.int .i64 n, .int .i64 e])) (n2 : Fv Tryd.prog 10 [.str s] (.tup [.int .i64 n, .int .i64 e])) :
    (e ≠ 0 → Fv Tryd.prog 17 [.int .i64 a, .str s] (.tup [.int .i64 0, .int .i64 e]) ∧ Fv Tryd.prog 18 [.int .i64 a, .str s] (.tup [.int .i64 0, .int .i64 e])) ∧
    (e = 0 → Fv Tryd.prog 17 [.int .i64 a, .str s] (.tup [.int .i64 (add a n), .int .i64 0]) ∧ Fv Tryd.prog 18 [.int .i64 a, .str s] (.tup [.int .i64 (add a n), .int .i64 0])) := by
  constructor
  · intro h
    have b1 : (e == 0) = false := beq_eq_false_iff_ne.2 h
    have b2 : (!(e == 0)) = true := by rw [b1]; rfl
    constructor
    · refine Fv.of_awp Tryd.func17 rfl (by kernel_rfl) rfl (Nat.le_of_ble_eq_true rfl) ?_
      repeat' (conv => whnf
               first
               | (refine And.intro (by kernel_rfl) ?_)
               | (refine And.intro ⟨by kernel_rfl, by kernel_rfl⟩ ?_)
               | (refine Or.inl ⟨_, n1, ?_⟩)
               | (refine ⟨_, n1, ?_⟩)
               | (refine cond_1 b2 ?_)
               | (refine cond_0 b1 ?_)
               | (refine cond_f ?_ ?_)
               | (refine ⟨_, ⟨by decide, rfl⟩, ?_⟩)
               | (refine cond_i (fun h => ?_) (fun h => ?_)))
      all_goals (conv => whnf)
      all_goals rfl
    · refine Fv.of_awp Tryd.func18 rfl (by kernel_rfl) rfl (Nat.le_of_ble_eq_true rfl) ?_
      repeat' (conv => whnf
               first
               | (refine And.intro (by kernel_rfl) ?_)
               | (refine And.intro ⟨by kernel_rfl, by kernel_rfl⟩ ?_)
               | (refine Or.inl ⟨_, n2, ?_⟩)
               | (refine ⟨_, n2, ?_⟩)
               | (refine cond_1 b2 ?_)
               | (refine cond_0 b1 ?_)
               | (refine cond_f ?_ ?_)
               | (refine ⟨_, ⟨by decide, rfl⟩, ?_⟩)
               | (refine cond_i (fun h => ?_) (fun h => ?_)))
      all_goals (conv => whnf)
      all_goals rfl
  · intro h
    have b1 : (e == 0) = true := beq_iff_eq.2 h
    have b2 : (!(e == 0)) = false := by rw [b1]; rfl
    have n3 := ticks_Add a n
    have n4 := ref01_Add a n
    constructor
    · refine Fv.of_awp Tryd.func17 rfl (by kernel_rfl) rfl (Nat.le_of_ble_eq_true rfl) ?_
      repeat' (conv => whnf
               first
               | (refine And.intro (by kernel_rfl) ?_)
               | (refine And.intro ⟨by kernel_rfl, by kernel_rfl⟩ ?_)
               | (refine Or.inl ⟨_, n1, ?_⟩)
               | (refine ⟨_, n1, ?_⟩)
               | (refine cond_0 b2 ?_)
               | (refine cond_1 b1 ?_)
               | (refine Or.inl ⟨_, n3, ?_⟩)
               | (refine ⟨_, n3, ?_⟩)
               | (refine cond_f ?_ ?_)
               | (refine ⟨_, ⟨by decide, rfl⟩, ?_⟩)
               | (refine cond_i (fun h => ?_) (fun h => ?_)))
      all_goals (conv => whnf)
      all_goals rfl
    · refine Fv.of_awp Tryd.func18 rfl (by kernel_rfl) rfl (Nat.le_of_ble_eq_true rfl) ?_
      repeat' (conv => whnf
               first
               | (refine And.intro (by kernel_rfl) ?_)
               | (refine And.intro ⟨by kernel_rfl, by kernel_rfl⟩ ?_)
               | (refine Or.inl ⟨_, n2, ?_⟩)
               | (refine ⟨_, n2, ?_⟩)
               | (refine cond_0 b2 ?_)
               | (refine cond_1 b1 ?_)
               | (refine Or.inl ⟨_, n4, ?_⟩)
               | (refine ⟨_, n4, ?_⟩)
               | (refine cond_f ?_ ?_)
               | (refine ⟨_, ⟨by decide, rfl⟩, ?_⟩)
               | (refine cond_i (fun h => ?_) (fun h => ?_)))
      all_goals (conv => whnf)
      all_goals rfl
theorem budget_Deadline (a : Int) (s : ByteArray) : Fv Tryd.prog 17 [.int .i64 a, .str s] (.tup [.int .i64 (dl a s).1, .int .i64 (dl a s).2]) ∧ Fv Tryd.prog 18 [.int .i64 a, .str s] (.tup [.int .i64 (dl a s).1, .int .i64 (dl a s).2]) := by
  have h := deadline_of a _ _ s (timeout_Decode s) (ref02_Decode s)
  unfold dl
  by_cases h0 : (dec s).2 ≠ 0
  · rw [if_pos h0]; exact h.1 h0
  · rw [if_neg h0]; exact h.2 (by omega)
theorem budget_Left (d n : Int) : Fv Tryd.prog 19 [.int .i64 d, .int .i64 n] (.int .i64 (sub d n)) := by
  refine Fv.of_awp Tryd.func19 rfl (by kernel_rfl) rfl (Nat.le_of_ble_eq_true rfl) ?_
  repeat' (conv => whnf
           first
           | (refine And.intro (by kernel_rfl) ?_)
           | (refine And.intro ⟨by kernel_rfl, by kernel_rfl⟩ ?_)
           | (refine Or.inl ⟨_, ticks_Sub d n, ?_⟩)
           | (refine ⟨_, ticks_Sub d n, ?_⟩)
           | (refine cond_f ?_ ?_)
           | (refine ⟨_, ⟨by decide, rfl⟩, ?_⟩)
           | (refine cond_i (fun h => ?_) (fun h => ?_)))
  all_goals (conv => whnf)
  all_goals rfl
theorem budget_Hop (d n : Int) : Fv Tryd.prog 23 [.int .i64 d, .int .i64 n] (.str (enc (sub d n))) := by
  refine Fv.of_awp Tryd.func23 rfl (by kernel_rfl) rfl (Nat.le_of_ble_eq_true rfl) ?_
  repeat' (conv => whnf
           first
           | (refine And.intro (by kernel_rfl) ?_)
           | (refine And.intro ⟨by kernel_rfl, by kernel_rfl⟩ ?_)
           | (refine Or.inl ⟨_, budget_Left d n, ?_⟩)
           | (refine ⟨_, budget_Left d n, ?_⟩)
           | (refine Or.inl ⟨_, timeout_Encode (sub d n), ?_⟩)
           | (refine ⟨_, timeout_Encode (sub d n), ?_⟩)
           | (refine cond_f ?_ ?_)
           | (refine ⟨_, ⟨by decide, rfl⟩, ?_⟩)
           | (refine cond_i (fun h => ?_) (fun h => ?_)))
  all_goals (conv => whnf)
  all_goals rfl
theorem next_of (d n l x : Int) (e : ByteArray) (n1 : Fv Tryd.prog 23 [.int .i64 d, .int .i64 n] (.str e)) (n2 : Fv Tryd.prog 20 [.int .i64 d, .int .i64 n] (.int .i64 l)) (n3 : Fv Tryd.prog 12 [.int .i64 l] (.str e))
    (n4 : Fv Tryd.prog 17 [.int .i64 n, .str e] (.tup [.int .i64 x, .int .i64 0])) (n5 : Fv Tryd.prog 18 [.int .i64 n, .str e] (.tup [.int .i64 x, .int .i64 0])) :
    Fv Tryd.prog 24 [.int .i64 d, .int .i64 n] (.int .i64 x) ∧ Fv Tryd.prog 25 [.int .i64 d, .int .i64 n] (.int .i64 x) := by
  constructor
  · refine Fv.of_awp Tryd.func24 rfl (by kernel_rfl) rfl (Nat.le_of_ble_eq_true rfl) ?_
    repeat' (conv => whnf
             first
             | (refine And.intro (by kernel_rfl) ?_)
             | (refine And.intro ⟨by kernel_rfl, by kernel_rfl⟩ ?_)
             | (refine Or.inl ⟨_, n1, ?_⟩)
             | (refine ⟨_, n1, ?_⟩)
             | (refine Or.inl ⟨_, n4, ?_⟩)
             | (refine ⟨_, n4, ?_⟩)
             | (refine cond_f ?_ ?_)
             | (refine ⟨_, ⟨by decide, rfl⟩, ?_⟩)
             | (refine cond_i (fun h => ?_) (fun h => ?_)))
    all_goals (conv => whnf)
    all_goals rfl
  · refine Fv.of_awp Tryd.func25 rfl (by kernel_rfl) rfl (Nat.le_of_ble_eq_true rfl) ?_
    repeat' (conv => whnf
             first
             | (refine And.intro (by kernel_rfl) ?_)
             | (refine And.intro ⟨by kernel_rfl, by kernel_rfl⟩ ?_)
             | (refine Or.inl ⟨_, n2, ?_⟩)
             | (refine ⟨_, n2, ?_⟩)
             | (refine Or.inl ⟨_, n3, ?_⟩)
             | (refine ⟨_, n3, ?_⟩)
             | (refine Or.inl ⟨_, n5, ?_⟩)
             | (refine ⟨_, n5, ?_⟩)
             | (refine cond_f ?_ ?_)
             | (refine ⟨_, ⟨by decide, rfl⟩, ?_⟩)
             | (refine cond_i (fun h => ?_) (fun h => ?_)))
    all_goals (conv => whnf)
    all_goals rfl
theorem budget_Next (d n : Int) : Fv Tryd.prog 24 [.int .i64 d, .int .i64 n] (.int .i64 (next d n)) ∧ Fv Tryd.prog 25 [.int .i64 d, .int .i64 n] (.int .i64 (next d n)) := by
  have h := budget_Deadline n (enc (sub d n))
  rw [dl_enc] at h
  exact next_of d n (sub d n) _ _ (budget_Hop d n) (ref01_Sub d n) (ref02_Encode _) h.1 h.2
theorem enough_of (d n l s c : Int) (hs : 0 ≤ s) (n1 : Fv Tryd.prog 19 [.int .i64 d, .int .i64 n] (.int .i64 s)) (n2 : Fv Tryd.prog 20 [.int .i64 d, .int .i64 n] (.int .i64 s))
    (n3 : Fv Tryd.prog 31 [.int .i64 l] (.int .i64 c)) (n4 : Fv Tryd.prog 14 [.int .i64 l] (.int .i64 c)) :
    Fv Tryd.prog 21 [.int .i64 d, .int .i64 n, .int .i64 l] (.bool (decide (s > 0) && decide (s ≥ c))) ∧ Fv Tryd.prog 22 [.int .i64 d, .int .i64 n, .int .i64 l] (.bool (decide (s > 0) && decide (s ≥ c))) := by
  by_cases h : s > 0
  · have b1 : decide (s > 0) = true := decide_eq_true h
    have b2 : (s == 0) = false := beq_eq_false_iff_ne.2 (by omega)
    have b3 : (!(s == 0)) = true := by rw [b2]; rfl
    rw [b1]
    constructor
    · refine Fv.of_awp Tryd.func21 rfl (by kernel_rfl) rfl (Nat.le_of_ble_eq_true rfl) ?_
      repeat' (conv => whnf
               first
               | (refine And.intro (by kernel_rfl) ?_)
               | (refine And.intro ⟨by kernel_rfl, by kernel_rfl⟩ ?_)
               | (refine Or.inl ⟨_, n1, ?_⟩)
               | (refine ⟨_, n1, ?_⟩)
               | (refine cond_1 b1 ?_)
               | (refine Or.inl ⟨_, n3, ?_⟩)
               | (refine ⟨_, n3, ?_⟩)
               | (refine cond_f ?_ ?_)
               | (refine ⟨_, ⟨by decide, rfl⟩, ?_⟩)
               | (refine cond_i (fun h => ?_) (fun h => ?_)))
      all_goals (conv => whnf)
      all_goals rfl
    · refine Fv.of_awp Tryd.func22 rfl (by kernel_rfl) rfl (Nat.le_of_ble_eq_true rfl) ?_
      repeat' (conv => whnf
               first
               | (refine And.intro (by kernel_rfl) ?_)
               | (refine And.intro ⟨by kernel_rfl, by kernel_rfl⟩ ?_)
               | (refine Or.inl ⟨_, n2, ?_⟩)
               | (refine ⟨_, n2, ?_⟩)
               | (refine cond_1 b3 ?_)
               | (refine cond_0 b2 ?_)
               | (refine Or.inl ⟨_, n4, ?_⟩)
               | (refine ⟨_, n4, ?_⟩)
               | (refine cond_f ?_ ?_)
               | (refine ⟨_, ⟨by decide, rfl⟩, ?_⟩)
               | (refine cond_i (fun h => ?_) (fun h => ?_)))
      all_goals (conv => whnf)
      all_goals rfl
  · have b1 : decide (s > 0) = false := decide_eq_false h
    have b2 : (s == 0) = true := beq_iff_eq.2 (by omega)
    have b3 : (!(s == 0)) = false := by rw [b2]; rfl
    rw [b1]
    constructor
    · refine Fv.of_awp Tryd.func21 rfl (by kernel_rfl) rfl (Nat.le_of_ble_eq_true rfl) ?_
      repeat' (conv => whnf
               first
               | (refine And.intro (by kernel_rfl) ?_)
               | (refine And.intro ⟨by kernel_rfl, by kernel_rfl⟩ ?_)
               | (refine Or.inl ⟨_, n1, ?_⟩)
               | (refine ⟨_, n1, ?_⟩)
               | (refine cond_0 b1 ?_)
               | (refine Or.inl ⟨_, n3, ?_⟩)
               | (refine ⟨_, n3, ?_⟩)
               | (refine cond_f ?_ ?_)
               | (refine ⟨_, ⟨by decide, rfl⟩, ?_⟩)
               | (refine cond_i (fun h => ?_) (fun h => ?_)))
      all_goals (conv => whnf)
      all_goals rfl
    · refine Fv.of_awp Tryd.func22 rfl (by kernel_rfl) rfl (Nat.le_of_ble_eq_true rfl) ?_
      repeat' (conv => whnf
               first
               | (refine And.intro (by kernel_rfl) ?_)
               | (refine And.intro ⟨by kernel_rfl, by kernel_rfl⟩ ?_)
               | (refine Or.inl ⟨_, n2, ?_⟩)
               | (refine ⟨_, n2, ?_⟩)
               | (refine cond_0 b3 ?_)
               | (refine cond_1 b2 ?_)
               | (refine Or.inl ⟨_, n4, ?_⟩)
               | (refine ⟨_, n4, ?_⟩)
               | (refine cond_f ?_ ?_)
               | (refine ⟨_, ⟨by decide, rfl⟩, ?_⟩)
               | (refine cond_i (fun h => ?_) (fun h => ?_)))
      all_goals (conv => whnf)
      all_goals rfl
theorem budget_Enough (d n l : Int) : Fv Tryd.prog 21 [.int .i64 d, .int .i64 n, .int .i64 l] (.bool (enough d n l)) ∧ Fv Tryd.prog 22 [.int .i64 d, .int .i64 n, .int .i64 l] (.bool (enough d n l)) :=
  enough_of d n l (sub d n) (clamp l) (sub_bd d n).1 (budget_Left d n) (ref01_Sub d n) (ticks_Clamp l) (ref01_Clamp l)

theorem awake14_of (u : ByteArray) (n1 : Fv Tryd.prog 17 [.int .i64 10, .str ⟨#[49, 48, 48, 117]⟩] (.tup [.int .i64 110, .int .i64 0])) (n2 : Fv Tryd.prog 23 [.int .i64 110, .int .i64 10] (.str u)) (b1 : strEq u ⟨#[49, 48, 48, 117]⟩ = true)
    (n3 : Fv Tryd.prog 21 [.int .i64 110, .int .i64 10, .int .i64 100] (.bool true)) (n4 : Fv Tryd.prog 21 [.int .i64 110, .int .i64 10, .int .i64 101] (.bool false)) : Fv Tryd.prog 26 [] (.bool true) := by
  refine Fv.of_awp Tryd.func26 rfl (by kernel_rfl) rfl (Nat.le_of_ble_eq_true rfl) ?_
  repeat' (conv => whnf
           first
           | (refine And.intro (by kernel_rfl) ?_)
           | (refine And.intro ⟨by kernel_rfl, by kernel_rfl⟩ ?_)
           | (refine Or.inl ⟨_, n1, ?_⟩)
           | (refine ⟨_, n1, ?_⟩)
           | (refine Or.inl ⟨_, n2, ?_⟩)
           | (refine ⟨_, n2, ?_⟩)
           | (refine cond_1 b1 ?_)
           | (refine Or.inl ⟨_, n3, ?_⟩)
           | (refine ⟨_, n3, ?_⟩)
           | (refine Or.inl ⟨_, n4, ?_⟩)
           | (refine ⟨_, n4, ?_⟩)
           | (refine cond_f ?_ ?_)
           | (refine ⟨_, ⟨by decide, rfl⟩, ?_⟩)
           | (refine cond_i (fun h => ?_) (fun h => ?_)))
  all_goals (conv => whnf)
  all_goals rfl
theorem law14_awake : Fv Tryd.prog 26 [] (.bool true) := by
  have e2 : enc (sub 110 10) = ⟨#[49, 48, 48, 117]⟩ := by
    have hs : sub 110 10 = 100 := by decide
    have hc : clamp 100 = 100 := clamp_id (by omega)
    rw [hs]
    unfold enc
    rw [hc, if_pos (by omega)]
    unfold txt
    rw [show ((100 : Int)).toNat = 100 from rfl, dec_more (n := 100) (by decide), dec_more (n := 100 / 10) (by decide), dec_small (n := 100 / 10 / 10) (by decide)]
    rfl
  have e1 : dl 10 ⟨#[49, 48, 48, 117]⟩ = (110, 0) := by
    rw [← e2, dl_enc, show sub 110 10 = 100 from by decide, cut_small 100 (by decide)]
    decide
  have n1 := (budget_Deadline 10 ⟨#[49, 48, 48, 117]⟩).1
  rw [e1] at n1
  have n3 := (budget_Enough 110 10 100).1
  rw [show enough 110 10 100 = true from by decide] at n3
  have n4 := (budget_Enough 110 10 101).1
  rw [show enough 110 10 101 = false from by decide] at n4
  exact awake14_of _ n1 (budget_Hop 110 10) (by rw [e2]; exact strEq_self _) n3 n4
theorem tells14_of (a b c x f l t : Int) (q : Bool) (s e : ByteArray) (n1 : Fv Tryd.prog 17 [.int .i64 a, .str s] (.tup [.int .i64 x, .int .i64 f])) (n2 : Fv Tryd.prog 18 [.int .i64 a, .str s] (.tup [.int .i64 x, .int .i64 f]))
    (n3 : Fv Tryd.prog 19 [.int .i64 a, .int .i64 b] (.int .i64 l)) (n4 : Fv Tryd.prog 20 [.int .i64 a, .int .i64 b] (.int .i64 l))
    (n5 : Fv Tryd.prog 21 [.int .i64 a, .int .i64 b, .int .i64 c] (.bool q)) (n6 : Fv Tryd.prog 22 [.int .i64 a, .int .i64 b, .int .i64 c] (.bool q))
    (n7 : Fv Tryd.prog 23 [.int .i64 a, .int .i64 b] (.str e)) (n8 : Fv Tryd.prog 12 [.int .i64 l] (.str e))
    (n9 : Fv Tryd.prog 24 [.int .i64 a, .int .i64 b] (.int .i64 t)) (n10 : Fv Tryd.prog 25 [.int .i64 a, .int .i64 b] (.int .i64 t)) :
    Fv Tryd.prog 6 [.int .i64 a, .int .i64 b, .int .i64 c, .str s] (.bool true) := by
  have aw := law14_awake
  have b1 : (x == x) = true := by simp
  have b2 : (f == f) = true := by simp
  have b3 : (l == l) = true := by simp
  have b4 : (q == q) = true := by simp
  have b5 : strEq e e = true := strEq_self e
  have b6 : (t == t) = true := by simp
  refine Fv.of_awp Tryd.func6 rfl (by kernel_rfl) rfl (Nat.le_of_ble_eq_true rfl) ?_
  repeat' (conv => whnf
           first
           | (refine And.intro (by kernel_rfl) ?_)
           | (refine And.intro ⟨by kernel_rfl, by kernel_rfl⟩ ?_)
           | (refine Or.inl ⟨_, n1, ?_⟩)
           | (refine ⟨_, n1, ?_⟩)
           | (refine Or.inl ⟨_, n2, ?_⟩)
           | (refine ⟨_, n2, ?_⟩)
           | (refine cond_1 b1 ?_)
           | (refine cond_1 b2 ?_)
           | (refine Or.inl ⟨_, n3, ?_⟩)
           | (refine ⟨_, n3, ?_⟩)
           | (refine Or.inl ⟨_, n4, ?_⟩)
           | (refine ⟨_, n4, ?_⟩)
           | (refine cond_1 b3 ?_)
           | (refine Or.inl ⟨_, n5, ?_⟩)
           | (refine ⟨_, n5, ?_⟩)
           | (refine Or.inl ⟨_, n6, ?_⟩)
           | (refine ⟨_, n6, ?_⟩)
           | (refine cond_1 b4 ?_)
           | (refine Or.inl ⟨_, n7, ?_⟩)
           | (refine ⟨_, n7, ?_⟩)
           | (refine Or.inl ⟨_, n8, ?_⟩)
           | (refine ⟨_, n8, ?_⟩)
           | (refine cond_1 b5 ?_)
           | (refine Or.inl ⟨_, n9, ?_⟩)
           | (refine ⟨_, n9, ?_⟩)
           | (refine Or.inl ⟨_, n10, ?_⟩)
           | (refine ⟨_, n10, ?_⟩)
           | (refine cond_1 b6 ?_)
           | (refine Or.inl ⟨_, aw, ?_⟩)
           | (refine ⟨_, aw, ?_⟩)
           | (refine cond_f ?_ ?_)
           | (refine ⟨_, ⟨by decide, rfl⟩, ?_⟩)
           | (refine cond_i (fun h => ?_) (fun h => ?_)))
  all_goals (conv => whnf)
  all_goals rfl
theorem law14_BudgetTells (a b c : Int) (s : ByteArray) : Fv Tryd.prog 6 [.int .i64 a, .int .i64 b, .int .i64 c, .str s] (.bool true) :=
  tells14_of a b c _ _ _ _ _ s _ (budget_Deadline a s).1 (budget_Deadline a s).2 (budget_Left a b) (ref01_Sub a b) (budget_Enough a b c).1 (budget_Enough a b c).2 (budget_Hop a b) (ref02_Encode _) (budget_Next a b).1 (budget_Next a b).2
theorem shrinks_of (dd nn d n x : Int) (n1 : Fv Tryd.prog 14 [.int .i64 dd] (.int .i64 d)) (n2 : Fv Tryd.prog 14 [.int .i64 nn] (.int .i64 n)) (n3 : Fv Tryd.prog 24 [.int .i64 dd, .int .i64 nn] (.int .i64 x))
    (hp : n ≥ d → x = n ∧ Fv Tryd.prog 19 [.int .i64 dd, .int .i64 nn] (.int .i64 0) ∧ Fv Tryd.prog 21 [.int .i64 dd, .int .i64 nn, .int .i64 0] (.bool false))
    (ha : ¬ n ≥ d → x ≤ d ∧ x ≥ n ∧ IntKind.i64.wrap (d - x) < 60000000 ∧ (IntKind.i64.wrap (d - n) > 99999999 ∨ x = d)) : Fv Tryd.prog 7 [.int .i64 dd, .int .i64 nn] (.bool true) := by
  have aw := law14_awake
  by_cases h : n ≥ d
  · have b1 : decide (n ≥ d) = true := decide_eq_true h
    obtain ⟨e, n4, n5⟩ := hp h
    have b2 : (x == n) = true := beq_iff_eq.2 e
    refine Fv.of_awp Tryd.func7 rfl (by kernel_rfl) rfl (Nat.le_of_ble_eq_true rfl) ?_
    repeat' (conv => whnf
             first
             | (refine And.intro (by kernel_rfl) ?_)
             | (refine And.intro ⟨by kernel_rfl, by kernel_rfl⟩ ?_)
             | (refine Or.inl ⟨_, n1, ?_⟩)
             | (refine ⟨_, n1, ?_⟩)
             | (refine Or.inl ⟨_, n2, ?_⟩)
             | (refine ⟨_, n2, ?_⟩)
             | (refine Or.inl ⟨_, n3, ?_⟩)
             | (refine ⟨_, n3, ?_⟩)
             | (refine cond_1 b1 ?_)
             | (refine cond_1 b2 ?_)
             | (refine Or.inl ⟨_, n4, ?_⟩)
             | (refine ⟨_, n4, ?_⟩)
             | (refine Or.inl ⟨_, n5, ?_⟩)
             | (refine ⟨_, n5, ?_⟩)
             | (refine Or.inl ⟨_, aw, ?_⟩)
             | (refine ⟨_, aw, ?_⟩)
             | (refine cond_f ?_ ?_)
             | (refine ⟨_, ⟨by decide, rfl⟩, ?_⟩)
             | (refine cond_i (fun h => ?_) (fun h => ?_)))
    all_goals (conv => whnf)
    all_goals rfl
  · have b1 : decide (n ≥ d) = false := decide_eq_false h
    obtain ⟨h1, h2, h3, h4⟩ := ha h
    have b2 : decide (x ≤ d) = true := decide_eq_true h1
    have b3 : decide (x ≥ n) = true := decide_eq_true h2
    have b4 : decide (IntKind.i64.wrap (d - x) < 60000000) = true := decide_eq_true h3
    refine Fv.of_awp Tryd.func7 rfl (by kernel_rfl) rfl (Nat.le_of_ble_eq_true rfl) ?_
    by_cases h5 : IntKind.i64.wrap (d - n) > 99999999
    · have b5 : decide (IntKind.i64.wrap (d - n) > 99999999) = true := decide_eq_true h5
      repeat' (conv => whnf
               first
               | (refine And.intro (by kernel_rfl) ?_)
               | (refine And.intro ⟨by kernel_rfl, by kernel_rfl⟩ ?_)
               | (refine Or.inl ⟨_, n1, ?_⟩)
               | (refine ⟨_, n1, ?_⟩)
               | (refine Or.inl ⟨_, n2, ?_⟩)
               | (refine ⟨_, n2, ?_⟩)
               | (refine Or.inl ⟨_, n3, ?_⟩)
               | (refine ⟨_, n3, ?_⟩)
               | (refine cond_0 b1 ?_)
               | (refine cond_1 b2 ?_)
               | (refine cond_1 b3 ?_)
               | (refine cond_1 b4 ?_)
               | (refine cond_1 b5 ?_)
               | (refine Or.inl ⟨_, aw, ?_⟩)
               | (refine ⟨_, aw, ?_⟩)
               | (refine cond_f ?_ ?_)
               | (refine ⟨_, ⟨by decide, rfl⟩, ?_⟩)
               | (refine cond_i (fun h => ?_) (fun h => ?_)))
      all_goals (conv => whnf)
      all_goals rfl
    · have b5 : decide (IntKind.i64.wrap (d - n) > 99999999) = false := decide_eq_false h5
      have b6 : (x == d) = true := beq_iff_eq.2 (by omega)
      repeat' (conv => whnf
               first
               | (refine And.intro (by kernel_rfl) ?_)
               | (refine And.intro ⟨by kernel_rfl, by kernel_rfl⟩ ?_)
               | (refine Or.inl ⟨_, n1, ?_⟩)
               | (refine ⟨_, n1, ?_⟩)
               | (refine Or.inl ⟨_, n2, ?_⟩)
               | (refine ⟨_, n2, ?_⟩)
               | (refine Or.inl ⟨_, n3, ?_⟩)
               | (refine ⟨_, n3, ?_⟩)
               | (refine cond_0 b1 ?_)
               | (refine cond_1 b2 ?_)
               | (refine cond_1 b3 ?_)
               | (refine cond_1 b4 ?_)
               | (refine cond_0 b5 ?_)
               | (refine cond_1 b6 ?_)
               | (refine Or.inl ⟨_, aw, ?_⟩)
               | (refine ⟨_, aw, ?_⟩)
               | (refine cond_f ?_ ?_)
               | (refine ⟨_, ⟨by decide, rfl⟩, ?_⟩)
               | (refine cond_i (fun h => ?_) (fun h => ?_)))
      all_goals (conv => whnf)
      all_goals rfl
theorem law14_BudgetShrinks (d n : Int) : Fv Tryd.prog 7 [.int .i64 d, .int .i64 n] (.bool true) := by
  have hd := clamp_bd d
  have hn := clamp_bd n
  refine shrinks_of d n (clamp d) (clamp n) (next d n) (ref01_Clamp d) (ref01_Clamp n) (budget_Next d n).1 (fun h => ?_) (fun h => ?_)
  · obtain ⟨e1, e2⟩ := next_past (d := d) (n := n) (by omega)
    have n4 := budget_Left d n
    rw [e2] at n4
    have n5 := (budget_Enough d n 0).1
    rw [show enough d n 0 = false from by unfold enough; rw [e2]; rfl] at n5
    exact ⟨e1, n4, n5⟩
  · obtain ⟨e1, e2, e3⟩ := next_ahead (d := d) (n := n) (by omega)
    have hb := cut_bd (clamp d - clamp n)
    have hu : un (clamp (clamp d - clamp n)) ≤ 60000000 := by rcases (uc_facts (clamp (clamp d - clamp n))).2.2 with h | h | h | h <;> omega
    have hk := cut_small (clamp d - clamp n)
    rw [e3] at hb hu hk
    rw [e1, wrap_i64 (by omega), wrap_i64 (by omega)]
    refine ⟨by omega, by omega, by omega, ?_⟩
    by_cases h5 : clamp d - clamp n > 99999999
    · exact .inl h5
    · have := hk (by omega); right; omega
end Go.Proofs.YtfpincfmcjiokaaDoor.Cn
