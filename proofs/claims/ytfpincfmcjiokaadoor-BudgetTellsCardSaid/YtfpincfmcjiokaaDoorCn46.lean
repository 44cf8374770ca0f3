/- Law 2: what a text keeps of a span, and that it rises. No condition. -/
import Derived.Test.YtfpincfmcjiokaaDoorCn45
import Derived.Test.YtfpincfmcjiokaaDoorSp13
namespace Go.Proofs.YtfpincfmcjiokaaDoor.Cn
open Go Go.Proofs Go.Proofs.YtfpincfmcjiokaaDoor.Av Go.Proofs.YtfpincfmcjiokaaDoor.Sp
set_option linter.unusedVariables false
set_option linter.unusedSimpArgs false
set_option maxRecDepth 100000
attribute [local irreducible] Fv Fp

theorem timeout_Cut (t : Int) : Fv Tryd.prog 15 [.int .i64 t] (.int .i64 (cut t)) := by
  refine Fv.of_awp Tryd.func15 rfl (by kernel_rfl) rfl (Nat.le_of_ble_eq_true rfl) ?_
  repeat' (conv => whnf
           first
           | (refine And.intro (by kernel_rfl) ?_)
           | (refine And.intro ⟨by kernel_rfl, by kernel_rfl⟩ ?_)
           | (refine Or.inl ⟨_, timeout_Encode t, ?_⟩)
           | (refine ⟨_, timeout_Encode t, ?_⟩)
           | (refine Or.inl ⟨_, timeout_Decode (enc t), ?_⟩)
           | (refine ⟨_, timeout_Decode (enc t), ?_⟩)
           | (refine cond_f ?_ ?_)
           | (refine ⟨_, ⟨by decide, rfl⟩, ?_⟩)
           | (refine cond_i (fun h => ?_) (fun h => ?_)))
  all_goals (conv => whnf)
  all_goals rfl
theorem less02_of (t n c u : Int) (s : ByteArray) (n1 : Fv Tryd.prog 11 [.int .i64 t] (.str s)) (n2 : Fv Tryd.prog 9 [.str s] (.tup [.int .i64 n, .int .i64 0]))
    (n3 : Fv Tryd.prog 14 [.int .i64 t] (.int .i64 c)) (n4 : Fv Tryd.prog 15 [.int .i64 t] (.int .i64 n)) (n5 : Fv Tryd.prog 15 [.int .i64 n] (.int .i64 n))
    (n6 : Fv Tryd.prog 16 [.int .u8 (byteAt s (IntKind.i64.wrap ((s.size : Int) - 1)).toNat)] (.int .i64 u)) (f1 : 0 ≤ IntKind.i64.wrap ((s.size : Int) - 1) ∧ IntKind.i64.wrap ((s.size : Int) - 1) < (s.size : Int))
    (b1 : decide ((s.size : Int) < 2) = false) (b2 : decide (n > c) = false) (b3 : decide (IntKind.i64.wrap (c - n) < u) = true) (b4 : c > 99999999 ∨ n = c) : Fv Tryd.prog 4 [.int .i64 t] (.bool true) := by
  have aw := law02_awake
  have e1 : (!(n == n)) = false := by simp
  have e0 : (n == n) = true := by simp
  refine Fv.of_awp Tryd.func4 rfl (by kernel_rfl) rfl (Nat.le_of_ble_eq_true rfl) ?_
  by_cases hc : c > 99999999
  · have b5 : decide (c > 99999999) = true := decide_eq_true hc
    repeat' (conv => whnf
             first
             | (refine And.intro (by kernel_rfl) ?_)
             | (refine And.intro ⟨by kernel_rfl, by kernel_rfl⟩ ?_)
             | (refine Or.inl ⟨_, n1, ?_⟩)
             | (refine ⟨_, n1, ?_⟩)
             | (refine Or.inl ⟨_, n2, ?_⟩)
             | (refine ⟨_, n2, ?_⟩)
             | (refine Or.inl ⟨_, n3, ?_⟩)
             | (refine ⟨_, n3, ?_⟩)
             | (refine cond_0 b1 ?_)
             | (refine cond_0 b2 ?_)
             | (refine Or.inl ⟨_, n4, ?_⟩)
             | (refine ⟨_, n4, ?_⟩)
             | (refine cond_0 e1 ?_)
             | (refine Or.inl ⟨_, n5, ?_⟩)
             | (refine ⟨_, n5, ?_⟩)
             | (refine cond_1 e0 ?_)
             | (refine cond_0 e1 ?_)
             | (refine ⟨f1, ?_⟩)
             | (refine Or.inl ⟨_, n6, ?_⟩)
             | (refine ⟨_, n6, ?_⟩)
             | (refine cond_1 b3 ?_)
             | (refine cond_1 b5 ?_)
             | (refine Or.inl ⟨_, aw, ?_⟩)
             | (refine ⟨_, aw, ?_⟩)
             | (refine cond_f ?_ ?_)
             | (refine ⟨_, ⟨by decide, rfl⟩, ?_⟩)
             | (refine cond_i (fun h => ?_) (fun h => ?_)))
    all_goals (conv => whnf)
    all_goals rfl
  · have b5 : decide (c > 99999999) = false := decide_eq_false hc
    have b6 : (n == c) = true := by rw [beq_iff_eq]; omega
    repeat' (conv => whnf
             first
             | (refine And.intro (by kernel_rfl) ?_)
             | (refine And.intro ⟨by kernel_rfl, by kernel_rfl⟩ ?_)
             | (refine Or.inl ⟨_, n1, ?_⟩)
             | (refine ⟨_, n1, ?_⟩)
             | (refine Or.inl ⟨_, n2, ?_⟩)
             | (refine ⟨_, n2, ?_⟩)
             | (refine Or.inl ⟨_, n3, ?_⟩)
             | (refine ⟨_, n3, ?_⟩)
             | (refine cond_0 b1 ?_)
             | (refine cond_0 b2 ?_)
             | (refine Or.inl ⟨_, n4, ?_⟩)
             | (refine ⟨_, n4, ?_⟩)
             | (refine cond_0 e1 ?_)
             | (refine Or.inl ⟨_, n5, ?_⟩)
             | (refine ⟨_, n5, ?_⟩)
             | (refine cond_1 e0 ?_)
             | (refine cond_0 e1 ?_)
             | (refine ⟨f1, ?_⟩)
             | (refine Or.inl ⟨_, n6, ?_⟩)
             | (refine ⟨_, n6, ?_⟩)
             | (refine cond_1 b3 ?_)
             | (refine cond_0 b5 ?_)
             | (refine cond_1 b6 ?_)
             | (refine Or.inl ⟨_, aw, ?_⟩)
             | (refine ⟨_, aw, ?_⟩)
             | (refine cond_f ?_ ?_)
             | (refine ⟨_, ⟨by decide, rfl⟩, ?_⟩)
             | (refine cond_i (fun h => ?_) (fun h => ?_)))
    all_goals (conv => whnf)
    all_goals rfl
theorem last_ix (t : Int) : (0 ≤ IntKind.i64.wrap (((enc t).size : Int) - 1) ∧ IntKind.i64.wrap (((enc t).size : Int) - 1) < ((enc t).size : Int)) ∧ (IntKind.i64.wrap (((enc t).size : Int) - 1)).toNat = (enc t).size - 1 := by
  have h := enc_size t
  rw [wrap_i64 (by omega)]
  omega
theorem law02_TimeoutLess (t : Int) : Fv Tryd.prog 4 [.int .i64 t] (.bool true) := by
  have hz := enc_size t
  have hb := cut_bd t
  have hl := last_ix t
  have hcb := clamp_bd t
  have hk : clamp t ≤ 99999999 → cut t = clamp t := cut_small t
  have hu := ref02_Unit (byteAt (enc t) ((enc t).size - 1))
  rw [enc_unit] at hu
  have n2 := timeout_Decode (enc t)
  rw [dec_enc, ← cut_eq] at n2
  have n5 := timeout_Cut (cut t)
  rw [cut_cut] at n5
  exact less02_of t (cut t) (clamp t) (un (clamp t)) (enc t) (timeout_Encode t) n2 (ref01_Clamp t) (timeout_Cut t) n5 (by rw [hl.2]; exact hu) hl.1
    (decide_eq_false (by omega)) (decide_eq_false (by omega)) (decide_eq_true (by rw [wrap_i64 (by omega)]; omega)) (by omega)

theorem rises02_of (a b x y u c : Int) (s : ByteArray) (hab : ¬ a > b) (n1 : Fv Tryd.prog 11 [.int .i64 b] (.str s)) 
    (n3 : Fv Tryd.prog 14 [.int .i64 b] (.int .i64 c)) (n4 : Fv Tryd.prog 15 [.int .i64 a] (.int .i64 x)) (n5 : Fv Tryd.prog 15 [.int .i64 b] (.int .i64 y))
    (n6 : Fv Tryd.prog 16 [.int .u8 (byteAt s (IntKind.i64.wrap ((s.size : Int) - 1)).toNat)] (.int .i64 u)) (f1 : 0 ≤ IntKind.i64.wrap ((s.size : Int) - 1) ∧ IntKind.i64.wrap ((s.size : Int) - 1) < (s.size : Int))
    (b1 : decide ((s.size : Int) < 2) = false) (b2 : decide ((s.size : Int) > 9) = false) (b3 : decide (IntKind.i64.wrap (x - y) ≥ u) = false) (b4 : x ≤ y ∨ 100000000000000 ≤ c) :
    Fv Tryd.prog 5 [.int .i64 a, .int .i64 b] (.bool true) ∧ (a ≠ b → Fv Tryd.prog 5 [.int .i64 b, .int .i64 a] (.bool true)) := by
  have aw := law02_awake
  have a1 : decide (a > b) = false := decide_eq_false hab
  constructor
  · refine Fv.of_awp Tryd.func5 rfl (by kernel_rfl) rfl (Nat.le_of_ble_eq_true rfl) ?_
    by_cases hc : x ≤ y
    · have b5 : decide (x ≤ y) = true := decide_eq_true hc
      repeat' (conv => whnf
               first
               | (refine And.intro (by kernel_rfl) ?_)
               | (refine And.intro ⟨by kernel_rfl, by kernel_rfl⟩ ?_)
               | (refine cond_0 a1 ?_)
               | (refine Or.inl ⟨_, n1, ?_⟩)
               | (refine ⟨_, n1, ?_⟩)
               | (refine Or.inl ⟨_, n4, ?_⟩)
               | (refine ⟨_, n4, ?_⟩)
               | (refine Or.inl ⟨_, n5, ?_⟩)
               | (refine ⟨_, n5, ?_⟩)
               | (refine cond_0 b1 ?_)
               | (refine cond_0 b2 ?_)
               | (refine ⟨f1, ?_⟩)
               | (refine Or.inl ⟨_, n6, ?_⟩)
               | (refine ⟨_, n6, ?_⟩)
               | (refine cond_0 b3 ?_)
               | (refine cond_1 b5 ?_)
               | (refine Or.inl ⟨_, n3, ?_⟩)
               | (refine ⟨_, n3, ?_⟩)
               | (refine Or.inl ⟨_, aw, ?_⟩)
               | (refine ⟨_, aw, ?_⟩)
               | (refine cond_f ?_ ?_)
               | (refine ⟨_, ⟨by decide, rfl⟩, ?_⟩)
               | (refine cond_i (fun h => ?_) (fun h => ?_)))
      all_goals (conv => whnf)
      all_goals rfl
    · have b5 : decide (x ≤ y) = false := decide_eq_false hc
      have b6 : decide (c ≥ 100000000000000) = true := decide_eq_true (by omega)
      repeat' (conv => whnf
               first
               | (refine And.intro (by kernel_rfl) ?_)
               | (refine And.intro ⟨by kernel_rfl, by kernel_rfl⟩ ?_)
               | (refine cond_0 a1 ?_)
               | (refine Or.inl ⟨_, n1, ?_⟩)
               | (refine ⟨_, n1, ?_⟩)
               | (refine Or.inl ⟨_, n4, ?_⟩)
               | (refine ⟨_, n4, ?_⟩)
               | (refine Or.inl ⟨_, n5, ?_⟩)
               | (refine ⟨_, n5, ?_⟩)
               | (refine cond_0 b1 ?_)
               | (refine cond_0 b2 ?_)
               | (refine ⟨f1, ?_⟩)
               | (refine Or.inl ⟨_, n6, ?_⟩)
               | (refine ⟨_, n6, ?_⟩)
               | (refine cond_0 b3 ?_)
               | (refine cond_0 b5 ?_)
               | (refine Or.inl ⟨_, n3, ?_⟩)
               | (refine ⟨_, n3, ?_⟩)
               | (refine cond_1 b6 ?_)
               | (refine Or.inl ⟨_, aw, ?_⟩)
               | (refine ⟨_, aw, ?_⟩)
               | (refine cond_f ?_ ?_)
               | (refine ⟨_, ⟨by decide, rfl⟩, ?_⟩)
               | (refine cond_i (fun h => ?_) (fun h => ?_)))
      all_goals (conv => whnf)
      all_goals rfl
  · intro hne
    have a2 : decide (b > a) = true := decide_eq_true (by omega)
    refine Fv.of_awp Tryd.func5 rfl (by kernel_rfl) rfl (Nat.le_of_ble_eq_true rfl) ?_
    by_cases hc : x ≤ y
    · have b5 : decide (x ≤ y) = true := decide_eq_true hc
      repeat' (conv => whnf
               first
               | (refine And.intro (by kernel_rfl) ?_)
               | (refine And.intro ⟨by kernel_rfl, by kernel_rfl⟩ ?_)
               | (refine cond_1 a2 ?_)
               | (refine Or.inl ⟨_, n1, ?_⟩)
               | (refine ⟨_, n1, ?_⟩)
               | (refine Or.inl ⟨_, n4, ?_⟩)
               | (refine ⟨_, n4, ?_⟩)
               | (refine Or.inl ⟨_, n5, ?_⟩)
               | (refine ⟨_, n5, ?_⟩)
               | (refine cond_0 b1 ?_)
               | (refine cond_0 b2 ?_)
               | (refine ⟨f1, ?_⟩)
               | (refine Or.inl ⟨_, n6, ?_⟩)
               | (refine ⟨_, n6, ?_⟩)
               | (refine cond_0 b3 ?_)
               | (refine cond_1 b5 ?_)
               | (refine Or.inl ⟨_, n3, ?_⟩)
               | (refine ⟨_, n3, ?_⟩)
               | (refine Or.inl ⟨_, aw, ?_⟩)
               | (refine ⟨_, aw, ?_⟩)
               | (refine cond_f ?_ ?_)
               | (refine ⟨_, ⟨by decide, rfl⟩, ?_⟩)
               | (refine cond_i (fun h => ?_) (fun h => ?_)))
      all_goals (conv => whnf)
      all_goals rfl
    · have b5 : decide (x ≤ y) = false := decide_eq_false hc
      have b6 : decide (c ≥ 100000000000000) = true := decide_eq_true (by omega)
      repeat' (conv => whnf
               first
               | (refine And.intro (by kernel_rfl) ?_)
               | (refine And.intro ⟨by kernel_rfl, by kernel_rfl⟩ ?_)
               | (refine cond_1 a2 ?_)
               | (refine Or.inl ⟨_, n1, ?_⟩)
               | (refine ⟨_, n1, ?_⟩)
               | (refine Or.inl ⟨_, n4, ?_⟩)
               | (refine ⟨_, n4, ?_⟩)
               | (refine Or.inl ⟨_, n5, ?_⟩)
               | (refine ⟨_, n5, ?_⟩)
               | (refine cond_0 b1 ?_)
               | (refine cond_0 b2 ?_)
               | (refine ⟨f1, ?_⟩)
               | (refine Or.inl ⟨_, n6, ?_⟩)
               | (refine ⟨_, n6, ?_⟩)
               | (refine cond_0 b3 ?_)
               | (refine cond_0 b5 ?_)
               | (refine Or.inl ⟨_, n3, ?_⟩)
               | (refine ⟨_, n3, ?_⟩)
               | (refine cond_1 b6 ?_)
               | (refine Or.inl ⟨_, aw, ?_⟩)
               | (refine ⟨_, aw, ?_⟩)
               | (refine cond_f ?_ ?_)
               | (refine ⟨_, ⟨by decide, rfl⟩, ?_⟩)
               | (refine cond_i (fun h => ?_) (fun h => ?_)))
      all_goals (conv => whnf)
      all_goals rfl
theorem law02_TimeoutRises (a b : Int) : Fv Tryd.prog 5 [.int .i64 a, .int .i64 b] (.bool true) := by
  have key : ∀ a b : Int, ¬ a > b → Fv Tryd.prog 5 [.int .i64 a, .int .i64 b] (.bool true) ∧ (a ≠ b → Fv Tryd.prog 5 [.int .i64 b, .int .i64 a] (.bool true)) := by
    intro a b h
    have hz := enc_size b
    have hl := last_ix b
    have h1 := cut_bd a
    have h2 := cut_bd b
    have hm := clamp_mono (a := a) (b := b) (by omega)
    have hcb := clamp_bd b
    have hr := cut_rise (a := a) (b := b) (by omega)
    have hu := ref02_Unit (byteAt (enc b) ((enc b).size - 1))
    rw [enc_unit] at hu
    exact rises02_of a b (cut a) (cut b) (un (clamp b)) (clamp b) (enc b) h (timeout_Encode b) (ref01_Clamp b) (timeout_Cut a) (timeout_Cut b) (by rw [hl.2]; exact hu) hl.1
      (decide_eq_false (by omega)) (decide_eq_false (by omega)) (decide_eq_false (by rw [wrap_i64 (by omega)]; omega)) (by omega)
  by_cases h : a > b
  · exact (key b a (by omega)).2 (by omega)
  · exact (key a b h).1
end Go.Proofs.YtfpincfmcjiokaaDoor.Cn
