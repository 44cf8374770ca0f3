
/- Contracts: what span a text says. No condition. -/
import Derived.Test.YtfpincfmcjiokaaCn41
namespace Go.Proofs.Ytfpincfmcjiokaa.Cn
open Go Go.Proofs Go.Proofs.Ytfpincfmcjiokaa.Av Go.Proofs.Ytfpincfmcjiokaa.Sp
set_option linter.unusedVariables false
set_option linter.unusedSimpArgs false
set_option maxRecDepth 100000
attribute [local irreducible] Fv Fp

theorem dec_no {s : ByteArray} (h : s.size < 2 ∨ 9 < s.size) : dec s = (0, 3) := by unfold dec; rw [if_pos h]
theorem dec_form {s : ByteArray} (h : ¬ (s.size < 2 ∨ 9 < s.size)) (h2 : okD s (s.size - 1) = false) : dec s = (0, 5) := by unfold dec; rw [if_neg h, if_pos h2]
theorem dec_n {s : ByteArray} (h : ¬ (s.size < 2 ∨ 9 < s.size)) (h2 : okD s (s.size - 1) = true) (h3 : byteAt s (s.size - 1) = 110) : dec s = (decN s (s.size - 1) / 1000, 0) := by unfold dec; rw [if_neg h, if_neg (by rw [h2]; simp), if_pos h3]
theorem dec_unit {s : ByteArray} (h : ¬ (s.size < 2 ∨ 9 < s.size)) (h2 : okD s (s.size - 1) = true) (h3 : byteAt s (s.size - 1) ≠ 110) (h4 : unitI (byteAt s (s.size - 1)) = 0) : dec s = (0, 5) := by unfold dec; rw [if_neg h, if_neg (by rw [h2]; simp), if_neg h3, if_pos h4]
theorem dec_ok {s : ByteArray} (h : ¬ (s.size < 2 ∨ 9 < s.size)) (h2 : okD s (s.size - 1) = true) (h3 : byteAt s (s.size - 1) ≠ 110) (h4 : unitI (byteAt s (s.size - 1)) ≠ 0) : dec s = (mulT (decN s (s.size - 1)) (unitI (byteAt s (s.size - 1))), 0) := by unfold dec; rw [if_neg h, if_neg (by rw [h2]; simp), if_neg h3, if_neg h4]
theorem wrap_u8_id {n : Int} (h : 0 ≤ n ∧ n < 256) : IntKind.u8.wrap n = n := by
  obtain ⟨m, rfl⟩ := Int.eq_ofNat_of_zero_le h.1
  rw [wrap_u8, u8_mod]; omega
theorem decode_no (s : ByteArray) (h : s.size < 2 ∨ 9 < s.size) : Fv Try.prog 51 [.str s] (.tup [.int .i64 0, .int .i64 3]) := by
  refine Fv.of_awp Try.func51 rfl (by kernel_rfl) rfl (Nat.le_of_ble_eq_true rfl) ?_
  by_cases h1 : s.size < 2
  · have b1 : decide ((s.size : Int) < 2) = true := decide_eq_true (by omega)
    repeat' (conv => whnf
             first
             | (refine And.intro (by kernel_rfl) ?_)
             | (refine And.intro ⟨by kernel_rfl, by kernel_rfl⟩ ?_)
             | (refine cond_1 b1 ?_)
             | (refine cond_f ?_ ?_)
             | (refine ⟨_, ⟨by decide, rfl⟩, ?_⟩)
             | (refine cond_i (fun h => ?_) (fun h => ?_)))
    all_goals (conv => whnf)
    all_goals rfl
  · have b1 : decide ((s.size : Int) < 2) = false := decide_eq_false (by omega)
    have b2 : decide ((s.size : Int) > 9) = true := decide_eq_true (by omega)
    repeat' (conv => whnf
             first
             | (refine And.intro (by kernel_rfl) ?_)
             | (refine And.intro ⟨by kernel_rfl, by kernel_rfl⟩ ?_)
             | (refine cond_0 b1 ?_)
             | (refine cond_1 b2 ?_)
             | (refine cond_f ?_ ?_)
             | (refine ⟨_, ⟨by decide, rfl⟩, ?_⟩)
             | (refine cond_i (fun h => ?_) (fun h => ?_)))
    all_goals (conv => whnf)
    all_goals rfl
theorem rdecode_no (s : ByteArray) (h : s.size < 2 ∨ 9 < s.size) : Fv Try.prog 17 [.str s] (.tup [.int .i64 0, .int .i64 3]) := by
  refine Fv.of_awp Try.func17 rfl (by kernel_rfl) rfl (Nat.le_of_ble_eq_true rfl) ?_
  by_cases h1 : s.size < 2
  · have b1 : decide ((s.size : Int) < 2) = true := decide_eq_true (by omega)
    repeat' (conv => whnf
             first
             | (refine And.intro (by kernel_rfl) ?_)
             | (refine And.intro ⟨by kernel_rfl, by kernel_rfl⟩ ?_)
             | (refine cond_1 b1 ?_)
             | (refine cond_f ?_ ?_)
             | (refine ⟨_, ⟨by decide, rfl⟩, ?_⟩)
             | (refine cond_i (fun h => ?_) (fun h => ?_)))
    all_goals (conv => whnf)
    all_goals rfl
  · have b1 : decide ((s.size : Int) < 2) = false := decide_eq_false (by omega)
    have b2 : decide ((s.size : Int) > 9) = true := decide_eq_true (by omega)
    repeat' (conv => whnf
             first
             | (refine And.intro (by kernel_rfl) ?_)
             | (refine And.intro ⟨by kernel_rfl, by kernel_rfl⟩ ?_)
             | (refine cond_0 b1 ?_)
             | (refine cond_1 b2 ?_)
             | (refine cond_f ?_ ?_)
             | (refine ⟨_, ⟨by decide, rfl⟩, ?_⟩)
             | (refine cond_i (fun h => ?_) (fun h => ?_)))
    all_goals (conv => whnf)
    all_goals rfl
set_option maxHeartbeats 4000000 in
theorem timeout_Decode (s : ByteArray) : Fv Try.prog 51 [.str s] (.tup [.int .i64 (dec s).1, .int .i64 (dec s).2]) := by
  by_cases h : s.size < 2 ∨ 9 < s.size
  · rw [dec_no h]; exact decode_no s h
  have b1 : decide ((s.size : Int) < 2) = false := decide_eq_false (by omega)
  have b2 : decide ((s.size : Int) > 9) = false := decide_eq_false (by omega)
  obtain ⟨m, hm⟩ : ∃ m, s.size - 1 = m := ⟨_, rfl⟩
  have w1 : IntKind.i64.wrap ((s.size : Int) - 1) = (m : Int) := by rw [wrap_i64 (by omega)]; omega
  obtain ⟨c, hc⟩ : ∃ c, byteAt s m = c := ⟨_, rfl⟩
  have hu := timeout_unit c
  refine Fv.of_awp Try.func51 rfl (by kernel_rfl) rfl (Nat.le_of_ble_eq_true rfl) ?_
  repeat' (conv => whnf
           first
           | (refine And.intro (by kernel_rfl) ?_)
           | (refine And.intro ⟨by kernel_rfl, by kernel_rfl⟩ ?_)
           | (refine cond_0 b1 ?_)
           | (refine cond_0 b2 ?_)
           | (refine cond_f ?_ ?_)
           | (refine ⟨_, ⟨by decide, rfl⟩, ?_⟩)
           | (refine cond_i (fun h => ?_) (fun h => ?_)))
  all_goals (conv => whnf)
  refine Has.each [0, 4, 18, 19] [] m (fun k (n : Int) => okD s k = true ∧ n = decN s k) (fun n i =>
    St.of 57 [(0, .str s), (4, .int .i64 n), (18, .int .i64 (m : Int)), (19, .int .i64 i)] [] []) ⟨0, 0, by rw [← w1]; rfl, ⟨rfl, rfl⟩, rfl⟩ (fun k n hk hI => ?_) (fun n hI => ?_)
  · obtain ⟨i1, rfl⟩ := hI
    have c1 : decide ((k : Int) < (m : Int)) = true := decide_eq_true (by omega)
    have f1 : (0 : Int) ≤ (k : Int) ∧ (k : Int) < (s.size : Int) := ⟨by omega, by omega⟩
    have hb := byteAt_bd s k
    by_cases h1 : byteAt s k < 48
    · have d1 : decide (byteAt s k < 48) = true := decide_eq_true h1
      rw [dec_form h (okD_no (i := k) (by omega) (by omega))]
      refine awp_go ?_
      repeat' (conv => whnf
               first
               | (refine And.intro (by kernel_rfl) ?_)
               | (refine And.intro ⟨by kernel_rfl, by kernel_rfl⟩ ?_)
               | (refine cond_1 c1 ?_)
               | (refine ⟨f1, ?_⟩)
               | (refine cond_1 d1 ?_)
               | (refine cond_f ?_ ?_)
               | (refine ⟨_, ⟨by decide, rfl⟩, ?_⟩)
               | (refine cond_i (fun h => ?_) (fun h => ?_)))
      all_goals (conv => whnf)
      all_goals rfl
    · have d1 : decide (byteAt s k < 48) = false := decide_eq_false h1
      by_cases h2 : byteAt s k > 57
      · have d2 : decide (byteAt s k > 57) = true := decide_eq_true h2
        rw [dec_form h (okD_no (i := k) (by omega) (by omega))]
        refine awp_go ?_
        repeat' (conv => whnf
                 first
                 | (refine And.intro (by kernel_rfl) ?_)
                 | (refine And.intro ⟨by kernel_rfl, by kernel_rfl⟩ ?_)
                 | (refine cond_1 c1 ?_)
                 | (refine ⟨f1, ?_⟩)
                 | (refine cond_0 d1 ?_)
                 | (refine cond_1 d2 ?_)
                 | (refine cond_f ?_ ?_)
                 | (refine ⟨_, ⟨by decide, rfl⟩, ?_⟩)
                 | (refine cond_i (fun h => ?_) (fun h => ?_)))
        all_goals (conv => whnf)
        all_goals rfl
      · have d2 : decide (byteAt s k > 57) = false := decide_eq_false h2
        refine awp_go ?_
        repeat' (conv => whnf
                 first
                 | (refine And.intro (by kernel_rfl) ?_)
                 | (refine And.intro ⟨by kernel_rfl, by kernel_rfl⟩ ?_)
                 | (refine cond_1 c1 ?_)
                 | (refine ⟨f1, ?_⟩)
                 | (refine cond_0 d1 ?_)
                 | (refine cond_0 d2 ?_)
                 | (refine cond_f ?_ ?_)
                 | (refine ⟨_, ⟨by decide, rfl⟩, ?_⟩)
                 | (refine cond_i (fun h => ?_) (fun h => ?_)))
        all_goals (conv => whnf)
        have hn := decN_bd s k i1
        have hp := pow10_le (k := k) (by omega)
        have e1 : IntKind.i64.wrap (IntKind.i64.wrap (10 * decN s k) + IntKind.i64.wrap (IntKind.u8.wrap (byteAt s k - 48))) = decN s (k + 1) := by
          rw [wrap_u8_id (by omega), wrap_i64 (n := 10 * decN s k) (by omega), wrap_i64 (n := byteAt s k - 48) (by omega), wrap_i64 (by omega), decN_succ]; omega
        refine ⟨decN s (k + 1), IntKind.i64.wrap ((k : Int) + 1), ?_, ⟨by rw [okD_succ, i1]; unfold dig; simp; omega, rfl⟩, wrap_i64 (by omega)⟩
        rw [← e1]
        rfl
  · obtain ⟨i1, rfl⟩ := hI
    have c1 : decide ((m : Int) < (m : Int)) = false := decide_eq_false (by omega)
    have f1 : (0 : Int) ≤ IntKind.i64.wrap ((s.size : Int) - 1) ∧ IntKind.i64.wrap ((s.size : Int) - 1) < (s.size : Int) := by rw [w1]; omega
    have ec : byteAt s (IntKind.i64.wrap ((s.size : Int) - 1)).toNat = c := by rw [w1, Int.toNat_natCast, hc]
    have hn := decN_bd s m i1
    have hp := pow10_le (k := m) (by omega)
    rw [← hm] at i1 hn
    have hub := unit_bd c
    refine awp_go ?_
    by_cases h3 : c = 110
    · have d1 : (byteAt s (IntKind.i64.wrap ((s.size : Int) - 1)).toNat == 110) = true := by rw [ec, h3]; rfl
      rw [dec_n h i1 (by rw [hm, hc, h3])]
      repeat' (conv => whnf
               first
               | (refine And.intro (by kernel_rfl) ?_)
               | (refine And.intro ⟨by kernel_rfl, by kernel_rfl⟩ ?_)
               | (refine cond_0 c1 ?_)
               | (refine ⟨f1, ?_⟩)
               | (refine cond_1 d1 ?_)
               | (refine cond_f ?_ ?_)
               | (refine ⟨_, ⟨by decide, rfl⟩, ?_⟩)
               | (refine cond_i (fun h => ?_) (fun h => ?_)))
      all_goals (conv => whnf)
      all_goals
        simp only
        rw [hm, Int.tdiv_eq_ediv_of_nonneg (by rw [← hm]; exact hn.1), wrap_i64 (by rw [hm] at hn; omega)]
    · have d1 : (byteAt s (IntKind.i64.wrap ((s.size : Int) - 1)).toNat == 110) = false := by rw [ec]; simpa using h3
      rw [← ec] at hu
      by_cases h4 : unitI c = 0
      · have d2 : (unitI (byteAt s (IntKind.i64.wrap ((s.size : Int) - 1)).toNat) == 0) = true := by rw [ec, h4]; rfl
        rw [dec_unit h i1 (by rw [hm, hc]; exact h3) (by rw [hm, hc]; exact h4)]
        repeat' (conv => whnf
                 first
                 | (refine And.intro (by kernel_rfl) ?_)
                 | (refine And.intro ⟨by kernel_rfl, by kernel_rfl⟩ ?_)
                 | (refine cond_0 c1 ?_)
                 | (refine ⟨f1, ?_⟩)
                 | (refine cond_0 d1 ?_)
                 | (refine Or.inl ⟨_, hu, ?_⟩)
                 | (refine ⟨_, hu, ?_⟩)
                 | (refine cond_1 d2 ?_)
                 | (refine cond_f ?_ ?_)
                 | (refine ⟨_, ⟨by decide, rfl⟩, ?_⟩)
                 | (refine cond_i (fun h => ?_) (fun h => ?_)))
        all_goals (conv => whnf)
        all_goals rfl
      · have d2 : (unitI (byteAt s (IntKind.i64.wrap ((s.size : Int) - 1)).toNat) == 0) = false := by rw [ec]; simpa using h4
        have hmu := ticks_MulT (decN s m) (unitI (byteAt s (IntKind.i64.wrap ((s.size : Int) - 1)).toNat))
        rw [dec_ok h i1 (by rw [hm, hc]; exact h3) (by rw [hm, hc]; exact h4)]
        repeat' (conv => whnf
                 first
                 | (refine And.intro (by kernel_rfl) ?_)
                 | (refine And.intro ⟨by kernel_rfl, by kernel_rfl⟩ ?_)
                 | (refine cond_0 c1 ?_)
                 | (refine ⟨f1, ?_⟩)
                 | (refine cond_0 d1 ?_)
                 | (refine Or.inl ⟨_, hu, ?_⟩)
                 | (refine ⟨_, hu, ?_⟩)
                 | (refine cond_0 d2 ?_)
                 | (refine Or.inl ⟨_, hmu, ?_⟩)
                 | (refine ⟨_, hmu, ?_⟩)
                 | (refine cond_f ?_ ?_)
                 | (refine ⟨_, ⟨by decide, rfl⟩, ?_⟩)
                 | (refine cond_i (fun h => ?_) (fun h => ?_)))
        all_goals (conv => whnf)
        all_goals
          simp only
          rw [hm, hc, ec]
set_option maxHeartbeats 4000000 in
theorem ref02_Decode (s : ByteArray) : Fv Try.prog 17 [.str s] (.tup [.int .i64 (dec s).1, .int .i64 (dec s).2]) := by
  by_cases h : s.size < 2 ∨ 9 < s.size
  · rw [dec_no h]; exact rdecode_no s h
  have b1 : decide ((s.size : Int) < 2) = false := decide_eq_false (by omega)
  have b2 : decide ((s.size : Int) > 9) = false := decide_eq_false (by omega)
  obtain ⟨m, hm⟩ : ∃ m, s.size - 1 = m := ⟨_, rfl⟩
  have w1 : IntKind.i64.wrap ((s.size : Int) - 1) = (m : Int) := by rw [wrap_i64 (by omega)]; omega
  obtain ⟨c, hc⟩ : ∃ c, byteAt s m = c := ⟨_, rfl⟩
  have hu := ref02_Unit c
  have f1 : (0 : Int) ≤ IntKind.i64.wrap ((s.size : Int) - 1) ∧ IntKind.i64.wrap ((s.size : Int) - 1) < (s.size : Int) := by rw [w1]; omega
  have ec : byteAt s (IntKind.i64.wrap ((s.size : Int) - 1)).toNat = c := by rw [w1, Int.toNat_natCast, hc]
  refine Fv.of_awp Try.func17 rfl (by kernel_rfl) rfl (Nat.le_of_ble_eq_true rfl) ?_
  repeat' (conv => whnf
           first
           | (refine And.intro (by kernel_rfl) ?_)
           | (refine And.intro ⟨by kernel_rfl, by kernel_rfl⟩ ?_)
           | (refine cond_0 b1 ?_)
           | (refine cond_0 b2 ?_)
           | (refine ⟨f1, ?_⟩)
           | (refine cond_f ?_ ?_)
           | (refine ⟨_, ⟨by decide, rfl⟩, ?_⟩)
           | (refine cond_i (fun h => ?_) (fun h => ?_)))
  all_goals (conv => whnf)
  refine Has.each [0, 4, 5, 6] [] m (fun k (n : Int) => okD s k = true ∧ n = decN s k) (fun n i =>
    St.of 56 [(0, .str s), (4, .int .u8 c), (5, .int .i64 n), (6, .int .i64 i)] [] []) ⟨0, 0, by rw [← ec]; rfl, ⟨rfl, rfl⟩, rfl⟩ (fun k n hk hI => ?_) (fun n hI => ?_)
  · obtain ⟨i1, rfl⟩ := hI
    have c1 : decide ((k : Int) < IntKind.i64.wrap ((s.size : Int) - 1)) = true := decide_eq_true (by rw [w1]; omega)
    have f1 : (0 : Int) ≤ (k : Int) ∧ (k : Int) < (s.size : Int) := ⟨by omega, by omega⟩
    have hb := byteAt_bd s k
    by_cases h1 : byteAt s k < 48
    · have d1 : decide (byteAt s k < 48) = true := decide_eq_true h1
      rw [dec_form h (okD_no (i := k) (by omega) (by omega))]
      refine awp_go ?_
      repeat' (conv => whnf
               first
               | (refine And.intro (by kernel_rfl) ?_)
               | (refine And.intro ⟨by kernel_rfl, by kernel_rfl⟩ ?_)
               | (refine cond_1 c1 ?_)
               | (refine ⟨f1, ?_⟩)
               | (refine cond_1 d1 ?_)
               | (refine cond_f ?_ ?_)
               | (refine ⟨_, ⟨by decide, rfl⟩, ?_⟩)
               | (refine cond_i (fun h => ?_) (fun h => ?_)))
      all_goals (conv => whnf)
      all_goals rfl
    · have d1 : decide (byteAt s k < 48) = false := decide_eq_false h1
      by_cases h2 : byteAt s k > 57
      · have d2 : decide (byteAt s k > 57) = true := decide_eq_true h2
        rw [dec_form h (okD_no (i := k) (by omega) (by omega))]
        refine awp_go ?_
        repeat' (conv => whnf
                 first
                 | (refine And.intro (by kernel_rfl) ?_)
                 | (refine And.intro ⟨by kernel_rfl, by kernel_rfl⟩ ?_)
                 | (refine cond_1 c1 ?_)
                 | (refine ⟨f1, ?_⟩)
                 | (refine cond_0 d1 ?_)
                 | (refine cond_1 d2 ?_)
                 | (refine cond_f ?_ ?_)
                 | (refine ⟨_, ⟨by decide, rfl⟩, ?_⟩)
                 | (refine cond_i (fun h => ?_) (fun h => ?_)))
        all_goals (conv => whnf)
        all_goals rfl
      · have d2 : decide (byteAt s k > 57) = false := decide_eq_false h2
        refine awp_go ?_
        repeat' (conv => whnf
                 first
                 | (refine And.intro (by kernel_rfl) ?_)
                 | (refine And.intro ⟨by kernel_rfl, by kernel_rfl⟩ ?_)
                 | (refine cond_1 c1 ?_)
                 | (refine ⟨f1, ?_⟩)
                 | (refine cond_0 d1 ?_)
                 | (refine cond_0 d2 ?_)
                 | (refine cond_f ?_ ?_)
                 | (refine ⟨_, ⟨by decide, rfl⟩, ?_⟩)
                 | (refine cond_i (fun h => ?_) (fun h => ?_)))
        all_goals (conv => whnf)
        have hn := decN_bd s k i1
        have hp := pow10_le (k := k) (by omega)
        have e1 : IntKind.i64.wrap (IntKind.i64.wrap (IntKind.i64.wrap (decN s k * 10) + IntKind.i64.wrap (byteAt s k)) - 48) = decN s (k + 1) := by
          rw [wrap_i64 (n := decN s k * 10) (by omega), wrap_i64 (n := byteAt s k) (by omega), wrap_i64 (n := decN s k * 10 + byteAt s k) (by omega), wrap_i64 (by omega), decN_succ]; omega
        refine ⟨decN s (k + 1), IntKind.i64.wrap ((k : Int) + 1), ?_, ⟨by rw [okD_succ, i1]; unfold dig; simp; omega, rfl⟩, wrap_i64 (by omega)⟩
        rw [← e1]
        rfl
  · obtain ⟨i1, rfl⟩ := hI
    have c1 : decide ((m : Int) < IntKind.i64.wrap ((s.size : Int) - 1)) = false := decide_eq_false (by rw [w1]; omega)
    have hn := decN_bd s m i1
    have hp := pow10_le (k := m) (by omega)
    rw [← hm] at i1 hn
    have hub := unit_bd c
    refine awp_go ?_
    by_cases h3 : c = 110
    · have d1 : (c == 110) = true := by rw [h3]; rfl
      rw [dec_n h i1 (by rw [hm, hc, h3])]
      repeat' (conv => whnf
               first
               | (refine And.intro (by kernel_rfl) ?_)
               | (refine And.intro ⟨by kernel_rfl, by kernel_rfl⟩ ?_)
               | (refine cond_0 c1 ?_)
               | (refine cond_1 d1 ?_)
               | (refine cond_f ?_ ?_)
               | (refine ⟨_, ⟨by decide, rfl⟩, ?_⟩)
               | (refine cond_i (fun h => ?_) (fun h => ?_)))
      all_goals (conv => whnf)
      all_goals
        simp only
        rw [hm, Int.tdiv_eq_ediv_of_nonneg (by rw [← hm]; exact hn.1), wrap_i64 (by rw [hm] at hn; omega)]
    · have d1 : (c == 110) = false := by simpa using h3
      by_cases h4 : unitI c = 0
      · have d2 : (unitI c == 0) = true := by rw [h4]; rfl
        rw [dec_unit h i1 (by rw [hm, hc]; exact h3) (by rw [hm, hc]; exact h4)]
        repeat' (conv => whnf
                 first
                 | (refine And.intro (by kernel_rfl) ?_)
                 | (refine And.intro ⟨by kernel_rfl, by kernel_rfl⟩ ?_)
                 | (refine cond_0 c1 ?_)
                 | (refine cond_0 d1 ?_)
                 | (refine Or.inl ⟨_, hu, ?_⟩)
                 | (refine ⟨_, hu, ?_⟩)
                 | (refine cond_1 d2 ?_)
                 | (refine cond_f ?_ ?_)
                 | (refine ⟨_, ⟨by decide, rfl⟩, ?_⟩)
                 | (refine cond_i (fun h => ?_) (fun h => ?_)))
        all_goals (conv => whnf)
        all_goals rfl
      · have d2 : (unitI c == 0) = false := by simpa using h4
        have hmu := ref01_Mul (decN s m) (unitI c)
        rw [dec_ok h i1 (by rw [hm, hc]; exact h3) (by rw [hm, hc]; exact h4)]
        repeat' (conv => whnf
                 first
                 | (refine And.intro (by kernel_rfl) ?_)
                 | (refine And.intro ⟨by kernel_rfl, by kernel_rfl⟩ ?_)
                 | (refine cond_0 c1 ?_)
                 | (refine cond_0 d1 ?_)
                 | (refine Or.inl ⟨_, hu, ?_⟩)
                 | (refine ⟨_, hu, ?_⟩)
                 | (refine cond_0 d2 ?_)
                 | (refine Or.inl ⟨_, hmu, ?_⟩)
                 | (refine ⟨_, hmu, ?_⟩)
                 | (refine cond_f ?_ ?_)
                 | (refine ⟨_, ⟨by decide, rfl⟩, ?_⟩)
                 | (refine cond_i (fun h => ?_) (fun h => ?_)))
        all_goals (conv => whnf)
        all_goals
          simp only
          rw [hm, hc]
end Go.Proofs.Ytfpincfmcjiokaa.Cn
