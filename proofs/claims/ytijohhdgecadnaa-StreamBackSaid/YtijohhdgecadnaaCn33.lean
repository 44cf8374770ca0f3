
/- Contracts: numbers, texts and truths as bytes, the program's and the document's. No condition but that numbers are of 64 bits. -/
import Derived.Test.YtijohhdgecadnaaSp1
import Derived.Test.YtijohhdgecadnaaProg
import Derived.KernelRfl
import Derived.Test.YtijohhdgecadnaaSp9
import Derived.Test.YtijohhdgecadnaaAv16
namespace Go.Proofs.Ytijohhdgecadnaa.Cn
open Go Go.Proofs Go.Proofs.Ytijohhdgecadnaa.Av Go.Proofs.Ytijohhdgecadnaa.Sp
set_option linter.unusedVariables false
set_option linter.unusedSimpArgs false
set_option maxRecDepth 100000
attribute [local irreducible] Fv Fp

theorem pow256 {m : Nat} (h : 1 ≤ m ∧ m ≤ 7) : IntKind.i64.wrap (1 * 2 ^ (min (IntKind.i64.wrap (8 * (m : Int))).toNat IntKind.i64.bits)) = 256 ^ m := by
  obtain ⟨h1, h2⟩ := h
  have : m = 1 ∨ m = 2 ∨ m = 3 ∨ m = 4 ∨ m = 5 ∨ m = 6 ∨ m = 7 := by omega
  rcases this with rfl | rfl | rfl | rfl | rfl | rfl | rfl <;> decide
theorem pow7 {m : Nat} (h : m ≤ 7) : (256 : Int) ^ m ≤ 72057594037927936 := by
  have : m = 0 ∨ m = 1 ∨ m = 2 ∨ m = 3 ∨ m = 4 ∨ m = 5 ∨ m = 6 ∨ m = 7 := by omega
  rcases this with rfl | rfl | rfl | rfl | rfl | rfl | rfl | rfl <;> decide
theorem num_none (n w : Int) (h : w < 1 ∨ 7 < w) : Fv Try.prog 15 [.int .i64 n, .int .i64 w] (.str ⟨#[]⟩) := by
  refine Fv.of_awp Try.func15 rfl (by kernel_rfl) rfl (Nat.le_of_ble_eq_true rfl) ?_
  by_cases h1 : w < 1
  · have b1 : decide (w < 1) = true := decide_eq_true h1
    repeat' (conv => whnf
             first
             | (refine And.intro (by kernel_rfl) ?_)
             | (refine And.intro ⟨by kernel_rfl, by kernel_rfl⟩ ?_)
             | (refine cond_1 b1 ?_)
             | (refine cond_f ?_ ?_)
             | (refine ⟨_, ⟨by decide, rfl⟩, ?_⟩)
             | (refine cond_i (fun h => ?_) (fun h => ?_)))
    all_goals (conv => whnf)
    all_goals rfl
  · have b1 : decide (w < 1) = false := decide_eq_false h1
    have b2 : decide (w > 7) = true := decide_eq_true (by omega)
    repeat' (conv => whnf
             first
             | (refine And.intro (by kernel_rfl) ?_)
             | (refine And.intro ⟨by kernel_rfl, by kernel_rfl⟩ ?_)
             | (refine cond_0 b1 ?_)
             | (refine cond_1 b2 ?_)
             | (refine cond_f ?_ ?_)
             | (refine ⟨_, ⟨by decide, rfl⟩, ?_⟩)
             | (refine cond_i (fun h => ?_) (fun h => ?_)))
    all_goals (conv => whnf)
    all_goals rfl
theorem num_neg (n : Int) (m : Nat) (hm : 1 ≤ m ∧ m ≤ 7) (h : n < 0) : Fv Try.prog 15 [.int .i64 n, .int .i64 (m : Int)] (.str ⟨#[]⟩) := by
  have b1 : decide ((m : Int) < 1) = false := decide_eq_false (by omega)
  have b2 : decide ((m : Int) > 7) = false := decide_eq_false (by omega)
  have b3 : decide (n < 0) = true := decide_eq_true h
  refine Fv.of_awp Try.func15 rfl (by kernel_rfl) rfl (Nat.le_of_ble_eq_true rfl) ?_
  repeat' (conv => whnf
           first
           | (refine And.intro (by kernel_rfl) ?_)
           | (refine And.intro ⟨by kernel_rfl, by kernel_rfl⟩ ?_)
           | (refine cond_0 b1 ?_)
           | (refine cond_0 b2 ?_)
           | (refine cond_1 b3 ?_)
           | (refine cond_f ?_ ?_)
           | (refine ⟨_, ⟨by decide, rfl⟩, ?_⟩)
           | (refine cond_i (fun h => ?_) (fun h => ?_)))
  all_goals (conv => whnf)
  all_goals rfl
theorem num_big (n m : Nat) (hm : 1 ≤ m ∧ m ≤ 7) (h : 256 ^ m ≤ n) : Fv Try.prog 15 [.int .i64 (n : Int), .int .i64 (m : Int)] (.str ⟨#[]⟩) := by
  have b1 : decide ((m : Int) < 1) = false := decide_eq_false (by omega)
  have b2 : decide ((m : Int) > 7) = false := decide_eq_false (by omega)
  have b3 : decide ((n : Int) < 0) = false := decide_eq_false (by omega)
  have b4 : decide ((n : Int) ≥ IntKind.i64.wrap (1 * 2 ^ (min (IntKind.i64.wrap (8 * (m : Int))).toNat IntKind.i64.bits))) = true := decide_eq_true (by rw [pow256 hm, ← pow_cast]; omega)
  refine Fv.of_awp Try.func15 rfl (by kernel_rfl) rfl (Nat.le_of_ble_eq_true rfl) ?_
  have b5 : decide (IntKind.i64.wrap (8 * (m : Int)) < 0) = false := decide_eq_false (by rw [wrap_i64 (by omega)]; omega)
  repeat' (conv => whnf
           first
           | (refine And.intro (by kernel_rfl) ?_)
           | (refine And.intro ⟨by kernel_rfl, by kernel_rfl⟩ ?_)
           | (refine cond_0 b1 ?_)
           | (refine cond_0 b2 ?_)
           | (refine cond_0 b3 ?_)
           | (refine cond_f b5 ?_)
           | (refine cond_1 b4 ?_)
           | (refine cond_f ?_ ?_)
           | (refine ⟨_, ⟨by decide, rfl⟩, ?_⟩)
           | (refine cond_i (fun h => ?_) (fun h => ?_)))
  all_goals (conv => whnf)
  all_goals rfl
/-- The row behind k rounds. -/
def numRow (n m k : Nat) : List (List G) := List.replicate (m - k) [.int .u8 0] ++ (dgs n k).map byteG
theorem numRow_get {n m k : Nat} (h : k < m) : (numRow n m k)[((m : Int) - 1 - (k : Int)).toNat]? = some [.int .u8 0] := by
  unfold numRow
  rw [show ((m : Int) - 1 - (k : Int)).toNat = m - 1 - k from by omega, List.getElem?_append_left (by simp; omega), List.getElem?_replicate, if_pos (by omega)]
theorem numRow_set {n m k : Nat} (h : k < m) : (numRow n m k).set ((m : Int) - 1 - (k : Int)).toNat (byteG (UInt8.ofNat (n / 256 ^ k))) = numRow n m (k + 1) := by
  unfold numRow
  rw [show ((m : Int) - 1 - (k : Int)).toNat = m - (k + 1) from by omega, dgs_succ]
  obtain ⟨j, hj⟩ : ∃ j, m - (k + 1) = j := ⟨_, rfl⟩
  have : m - k = j + 1 := by omega
  rw [hj, this, List.set_append_left _ _ (by simp), List.map_cons]
  rw [List.replicate_succ', List.set_append_right _ _ (by simp)]
  simp
set_option maxHeartbeats 4000000 in
theorem num_some (n m : Nat) (hm : 1 ≤ m ∧ m ≤ 7) (h : n < 256 ^ m) : Fv Try.prog 15 [.int .i64 (n : Int), .int .i64 (m : Int)] (.str (strL (dgs n m))) := by
  have b1 : decide ((m : Int) < 1) = false := decide_eq_false (by omega)
  have b2 : decide ((m : Int) > 7) = false := decide_eq_false (by omega)
  have b3 : decide ((n : Int) < 0) = false := decide_eq_false (by omega)
  have b4 : decide ((n : Int) ≥ IntKind.i64.wrap (1 * 2 ^ (min (IntKind.i64.wrap (8 * (m : Int))).toNat IntKind.i64.bits))) = false := decide_eq_false (by rw [pow256 hm, ← pow_cast]; omega)
  have hb : Try.prog.bytesOf 5 = 1 := by kernel_rfl
  have f : ((0 : Int) ≤ m ∧ (m : Int) = m ∧ (m : Int) * (Try.prog.bytesOf 5 : Nat) ≤ 281474976710656 ∧ (m : Int) ≤ 281474976710656) := by rw [hb]; omega
  have hw : IntKind.i64.wrap ((m : Int) - 1) = (m : Int) - 1 - 0 := by rw [wrap_i64 (by omega)]; omega
  have hn63 : (n : Int) < 72057594037927936 := by have := pow7 hm.2; rw [← pow_cast] at this; omega
  refine Fv.of_awp Try.func15 rfl (by kernel_rfl) rfl (Nat.le_of_ble_eq_true rfl) ?_
  have b5 : decide (IntKind.i64.wrap (8 * (m : Int)) < 0) = false := decide_eq_false (by rw [wrap_i64 (by omega)]; omega)
  repeat' (conv => whnf
           first
           | (refine And.intro (by kernel_rfl) ?_)
           | (refine And.intro ⟨by kernel_rfl, by kernel_rfl⟩ ?_)
           | (refine cond_0 b1 ?_)
           | (refine cond_0 b2 ?_)
           | (refine cond_0 b3 ?_)
           | (refine cond_f b5 ?_)
           | (refine cond_0 b4 ?_)
           | (refine ⟨f, ?_⟩)
           | (refine cond_f ?_ ?_)
           | (refine ⟨_, ⟨by decide, rfl⟩, ?_⟩)
           | (refine cond_i (fun h => ?_) (fun h => ?_)))
  all_goals (conv => whnf)
  refine Has.each [0, 5, 6] [] m (fun k (b : Int × Int × List (List G)) => b.1 = ((n / 256 ^ k : Nat) : Int) ∧ b.2.1 = (m : Int) - 1 - (k : Int) ∧ b.2.2 = numRow n m k) (fun b i =>
    St.of 41 [(0, .int .i64 b.1), (5, .own 25 0 m), (6, .int .i64 b.2.1)] [] [(25, b.2.2)]) ⟨((n : Int), IntKind.i64.wrap ((m : Int) - 1), List.replicate m [.int .u8 0]), 0, rfl, ⟨by simp, hw, by unfold numRow; simp [dgs]⟩, rfl⟩ (fun k b hk hI => ?_) (fun b hI => ?_)
  · obtain ⟨v, i, row⟩ := b
    obtain ⟨rfl, rfl, rfl⟩ : v = _ ∧ i = _ ∧ row = _ := hI
    have c1 : decide ((m : Int) - 1 - (k : Int) ≥ 0) = true := decide_eq_true (by omega)
    have c2 : (0 : Int) ≤ (m : Int) - 1 - (k : Int) ∧ (m : Int) - 1 - (k : Int) < ((m : Nat) : Int) ∧ (numRow n m k)[(0 : Nat) + ((m : Int) - 1 - (k : Int)).toNat]? = some [.int .u8 0] := ⟨by omega, by omega, by rw [Nat.zero_add]; exact numRow_get hk⟩
    have c3 : (numRow n m k)[(0 : Nat) + ((m : Int) - 1 - (k : Int)).toNat]? = some [.int .u8 0] ∧ (0 : Nat) + Try.prog.cellsOf 5 ≤ [G.int .u8 0].length := ⟨c2.2.2, by rw [show Try.prog.cellsOf 5 = 1 from by kernel_rfl]; exact Nat.le_refl _⟩
    have e1 := numRow_set (n := n) hk
    refine awp_go ?_
    repeat' (conv => whnf
             first
             | (refine And.intro (by kernel_rfl) ?_)
             | (refine And.intro ⟨by kernel_rfl, by kernel_rfl⟩ ?_)
             | (refine cond_1 c1 ?_)
             | (refine ⟨_, c2, ?_⟩)
             | (refine ⟨_, c3, ?_⟩)
             | (refine cond_f ?_ ?_)
             | (refine ⟨_, ⟨by decide, rfl⟩, ?_⟩)
             | (refine cond_i (fun h => ?_) (fun h => ?_)))
    all_goals (conv => whnf)
    refine ⟨(((n / 256 ^ (k + 1) : Nat) : Int), (m : Int) - 1 - ((k + 1 : Nat) : Int), numRow n m (k + 1)), (k : Int) + 1, ?_, ⟨rfl, rfl, rfl⟩, rfl⟩
    have w1 : IntKind.i64.wrap ((m : Int) - 1 - (k : Int) - 1) = (m : Int) - 1 - ((k + 1 : Nat) : Int) := by rw [wrap_i64 (by omega)]; omega
    have w2 : ((n / 256 ^ k : Nat) : Int).fdiv (2 ^ (min (Int.toNat 8) IntKind.i64.bits)) = ((n / 256 ^ (k + 1) : Nat) : Int) := by
      rw [show (2 : Int) ^ (min (Int.toNat 8) IntKind.i64.bits) = 256 from by decide, Nat.pow_succ, ← Nat.div_div_eq_div_mul]
      rw [Int.fdiv_eq_ediv_of_nonneg _ (by omega)]
      rfl
    have w3 : [G.int .u8 (IntKind.u8.wrap ((n / 256 ^ k : Nat) : Int))] = byteG (UInt8.ofNat (n / 256 ^ k)) := by rw [wrap_u8]; rfl
    rw [← e1, ← w1, ← w2, ← w3, Nat.zero_add]
    rfl
  · obtain ⟨v, i, row⟩ := b
    obtain ⟨rfl, rfl, rfl⟩ : v = _ ∧ i = _ ∧ row = _ := hI
    have c1 : decide ((m : Int) - 1 - (m : Int) ≥ 0) = false := decide_eq_false (by omega)
    have e1 : numRow n m m = (dgs n m).map byteG := by unfold numRow; rw [Nat.sub_self]; rfl
    rw [e1]
    have c2 : (0 : Nat) + m ≤ ((dgs n m).map byteG).length := by rw [List.length_map, dgs_len]; omega
    have c3 : (((dgs n m).map byteG).drop 0).take m = (dgs n m).map (fun b => [G.int .u8 b.toNat]) := by rw [List.drop_zero, List.take_of_length_le (by rw [List.length_map, dgs_len]; omega)]; rfl
    refine awp_go ?_
    repeat' (conv => whnf
             first
             | (refine And.intro (by kernel_rfl) ?_)
             | (refine And.intro ⟨by kernel_rfl, by kernel_rfl⟩ ?_)
             | (refine cond_0 c1 ?_)
             | (refine ⟨c2, ?_⟩)
             | (refine ⟨dgs n m, c3, ?_⟩)
             | (refine cond_f ?_ ?_)
             | (refine ⟨_, ⟨by decide, rfl⟩, ?_⟩)
             | (refine cond_i (fun h => ?_) (fun h => ?_)))
    all_goals (conv => whnf)
    all_goals rfl
theorem bytes_Num (n w : Int) : Fv Try.prog 15 [.int .i64 n, .int .i64 w] (.str (numB n w)) := by
  by_cases h : w < 1 ∨ 7 < w
  · rw [numB_no (by omega)]; exact num_none n w h
  · obtain ⟨m, rfl⟩ := Int.eq_ofNat_of_zero_le (show 0 ≤ w by omega)
    by_cases h2 : n < 0
    · rw [numB_no (by omega)]; exact num_neg n m (by omega) h2
    · obtain ⟨v, rfl⟩ := Int.eq_ofNat_of_zero_le (show 0 ≤ n by omega)
      by_cases h3 : 256 ^ m ≤ v
      · rw [numB_no (by rw [Int.toNat_natCast, ← pow_cast]; omega)]; exact num_big v m (by omega) h3
      · rw [numB_yes (by omega) (by omega) (by omega)]; exact num_some v m (by omega) (by omega)
theorem bytes_Flag (b : Bool) : Fv Try.prog 19 [.bool b] (.str (strL [if b then 1 else 0])) := by
  refine Fv.of_awp Try.func19 rfl (by kernel_rfl) rfl (Nat.le_of_ble_eq_true rfl) ?_
  cases b
  · skip
    repeat' (conv => whnf
             first
             | (refine And.intro (by kernel_rfl) ?_)
             | (refine And.intro ⟨by kernel_rfl, by kernel_rfl⟩ ?_)
             | (refine cond_f ?_ ?_)
             | (refine ⟨_, ⟨by decide, rfl⟩, ?_⟩)
             | (refine cond_i (fun h => ?_) (fun h => ?_)))
    all_goals (conv => whnf)
    all_goals rfl
  · skip
    repeat' (conv => whnf
             first
             | (refine And.intro (by kernel_rfl) ?_)
             | (refine And.intro ⟨by kernel_rfl, by kernel_rfl⟩ ?_)
             | (refine cond_f ?_ ?_)
             | (refine ⟨_, ⟨by decide, rfl⟩, ?_⟩)
             | (refine cond_i (fun h => ?_) (fun h => ?_)))
    all_goals (conv => whnf)
    all_goals rfl
theorem rnum_none (n w : Int) (h : w < 1 ∨ 7 < w ∨ n < 0) : Fv Try.prog 16 [.int .i64 n, .int .i64 w] (.str ⟨#[]⟩) := by
  refine Fv.of_awp Try.func16 rfl (by kernel_rfl) rfl (Nat.le_of_ble_eq_true rfl) ?_
  by_cases h1 : w < 1
  · have b1 : decide (w < 1) = true := decide_eq_true h1
    repeat' (conv => whnf
             first
             | (refine And.intro (by kernel_rfl) ?_)
             | (refine And.intro ⟨by kernel_rfl, by kernel_rfl⟩ ?_)
             | (refine cond_1 b1 ?_)
             | (refine cond_f ?_ ?_)
             | (refine ⟨_, ⟨by decide, rfl⟩, ?_⟩)
             | (refine cond_i (fun h => ?_) (fun h => ?_)))
    all_goals (conv => whnf)
    all_goals rfl
  · have b1 : decide (w < 1) = false := decide_eq_false h1
    by_cases h2 : w > 7
    · have b2 : decide (w > 7) = true := decide_eq_true (by omega)
      repeat' (conv => whnf
               first
               | (refine And.intro (by kernel_rfl) ?_)
               | (refine And.intro ⟨by kernel_rfl, by kernel_rfl⟩ ?_)
               | (refine cond_0 b1 ?_)
               | (refine cond_1 b2 ?_)
               | (refine cond_f ?_ ?_)
               | (refine ⟨_, ⟨by decide, rfl⟩, ?_⟩)
               | (refine cond_i (fun h => ?_) (fun h => ?_)))
      all_goals (conv => whnf)
      all_goals rfl
    · have b2 : decide (w > 7) = false := decide_eq_false (by omega)
      have b3 : decide (n < 0) = true := decide_eq_true (by omega)
      repeat' (conv => whnf
               first
               | (refine And.intro (by kernel_rfl) ?_)
               | (refine And.intro ⟨by kernel_rfl, by kernel_rfl⟩ ?_)
               | (refine cond_0 b1 ?_)
               | (refine cond_0 b2 ?_)
               | (refine cond_1 b3 ?_)
               | (refine cond_f ?_ ?_)
               | (refine ⟨_, ⟨by decide, rfl⟩, ?_⟩)
               | (refine cond_i (fun h => ?_) (fun h => ?_)))
      all_goals (conv => whnf)
      all_goals rfl
set_option maxHeartbeats 4000000 in
theorem rnum_some (n m : Nat) (hm : 1 ≤ m ∧ m ≤ 7) (hn : n < 9223372036854775808) : Fv Try.prog 16 [.int .i64 (n : Int), .int .i64 (m : Int)] (.str (if n < 256 ^ m then strL (dgs n m) else ⟨#[]⟩)) := by
  have b1 : decide ((m : Int) < 1) = false := decide_eq_false (by omega)
  have b2 : decide ((m : Int) > 7) = false := decide_eq_false (by omega)
  have b3 : decide ((n : Int) < 0) = false := decide_eq_false (by omega)
  refine Fv.of_awp Try.func16 rfl (by kernel_rfl) rfl (Nat.le_of_ble_eq_true rfl) ?_
  repeat' (conv => whnf
           first
           | (refine And.intro (by kernel_rfl) ?_)
           | (refine And.intro ⟨by kernel_rfl, by kernel_rfl⟩ ?_)
           | (refine cond_0 b1 ?_)
           | (refine cond_0 b2 ?_)
           | (refine cond_0 b3 ?_)
           | (refine cond_f ?_ ?_)
           | (refine ⟨_, ⟨by decide, rfl⟩, ?_⟩)
           | (refine cond_i (fun h => ?_) (fun h => ?_)))
  all_goals (conv => whnf)
  refine Has.each [0, 1, 5, 6] [] m (fun k (b : Int × ByteArray) => b.1 = ((n / 256 ^ k : Nat) : Int) ∧ b.2 = strL (dgs n k)) (fun b i =>
    St.of 34 [(0, .int .i64 b.1), (1, .int .i64 (m : Int)), (5, .str b.2), (6, .int .i64 i)] [] []) ⟨((n : Int), ⟨#[]⟩), 0, rfl, ⟨by simp, rfl⟩, rfl⟩ (fun k b hk hI => ?_) (fun b hI => ?_)
  · obtain ⟨v, s⟩ := b
    obtain ⟨rfl, rfl⟩ : v = _ ∧ s = _ := hI
    have c1 : decide ((k : Int) < (m : Int)) = true := decide_eq_true (by omega)
    have c2 : [[G.int .u8 (IntKind.u8.wrap (((n / 256 ^ k : Nat) : Int).tmod 256))]] = [UInt8.ofNat (n / 256 ^ k)].map (fun b => [G.int .u8 b.toNat]) := by
      have : IntKind.u8.wrap (((n / 256 ^ k : Nat) : Int).tmod 256) = (((UInt8.ofNat (n / 256 ^ k)).toNat : Nat) : Int) := by
        rw [u8_mod, Int.tmod_eq_emod_of_nonneg (Int.natCast_nonneg _), show ((n / 256 ^ k : Nat) : Int) % 256 = ((n / 256 ^ k % 256 : Nat) : Int) from rfl, wrap_u8, u8_mod]
        generalize n / 256 ^ k = q
        omega
      rw [this]; rfl
    have c3 : (((strL [UInt8.ofNat (n / 256 ^ k)]).size + (strL (dgs n k)).size : Nat) : Int) ≤ 9223372036854775807 := by rw [strL_size, strL_size, dgs_len]; simp; omega
    refine awp_go ?_
    repeat' (conv => whnf
             first
             | (refine And.intro (by kernel_rfl) ?_)
             | (refine And.intro ⟨by kernel_rfl, by kernel_rfl⟩ ?_)
             | (refine cond_1 c1 ?_)
             | (refine ⟨_, c2, ?_⟩)
             | (refine ⟨c3, ?_⟩)
             | (refine cond_f ?_ ?_)
             | (refine ⟨_, ⟨by decide, rfl⟩, ?_⟩)
             | (refine cond_i (fun h => ?_) (fun h => ?_)))
    all_goals (conv => whnf)
    refine ⟨(((n / 256 ^ (k + 1) : Nat) : Int), strL (dgs n (k + 1))), IntKind.i64.wrap ((k : Int) + 1), ?_, ⟨rfl, rfl⟩, wrap_i64 (by omega)⟩
    have w2 : IntKind.i64.wrap (((n / 256 ^ k : Nat) : Int).tdiv 256) = ((n / 256 ^ (k + 1) : Nat) : Int) := by
      have hd : n / 256 ^ (k + 1) ≤ n := Nat.div_le_self _ _
      have : ((n / 256 ^ k : Nat) : Int).tdiv 256 = ((n / 256 ^ (k + 1) : Nat) : Int) := by
        rw [Int.tdiv_eq_ediv_of_nonneg (Int.natCast_nonneg _), Nat.pow_succ, ← Nat.div_div_eq_div_mul]; rfl
      rw [this]
      generalize n / 256 ^ (k + 1) = q at *
      exact wrap_i64 ⟨by omega, by omega⟩
    have w3 : strL (dgs n (k + 1)) = strL [UInt8.ofNat (n / 256 ^ k)] ++ strL (dgs n k) := by rw [strL_app, dgs_succ]; rfl
    rw [← w2, w3]
    rfl
  · obtain ⟨v, s⟩ := b
    obtain ⟨rfl, rfl⟩ : v = _ ∧ s = _ := hI
    have c1 : decide ((m : Int) < (m : Int)) = false := decide_eq_false (by omega)
    have hp : 0 < 256 ^ m := Nat.pow_pos (by omega)
    refine awp_go ?_
    by_cases hlt : n < 256 ^ m
    · have c2 : decide (((n / 256 ^ m : Nat) : Int) > 0) = false := decide_eq_false (by rw [Nat.div_eq_of_lt hlt]; omega)
      rw [if_pos hlt]
      repeat' (conv => whnf
               first
               | (refine And.intro (by kernel_rfl) ?_)
               | (refine And.intro ⟨by kernel_rfl, by kernel_rfl⟩ ?_)
               | (refine cond_0 c1 ?_)
               | (refine cond_0 c2 ?_)
               | (refine cond_f ?_ ?_)
               | (refine ⟨_, ⟨by decide, rfl⟩, ?_⟩)
               | (refine cond_i (fun h => ?_) (fun h => ?_)))
      all_goals (conv => whnf)
      all_goals rfl
    · have c2 : decide (((n / 256 ^ m : Nat) : Int) > 0) = true := decide_eq_true (by have := Nat.div_pos (show 256 ^ m ≤ n by omega) hp; omega)
      rw [if_neg hlt]
      repeat' (conv => whnf
               first
               | (refine And.intro (by kernel_rfl) ?_)
               | (refine And.intro ⟨by kernel_rfl, by kernel_rfl⟩ ?_)
               | (refine cond_0 c1 ?_)
               | (refine cond_1 c2 ?_)
               | (refine cond_f ?_ ?_)
               | (refine ⟨_, ⟨by decide, rfl⟩, ?_⟩)
               | (refine cond_i (fun h => ?_) (fun h => ?_)))
      all_goals (conv => whnf)
      all_goals rfl
theorem ref04_Num (n w : Int) (hn : n ≤ 9223372036854775807) : Fv Try.prog 16 [.int .i64 n, .int .i64 w] (.str (numB n w)) := by
  by_cases h : w < 1 ∨ 7 < w ∨ n < 0
  · rw [numB_no (by omega)]; exact rnum_none n w h
  · obtain ⟨m, rfl⟩ := Int.eq_ofNat_of_zero_le (show 0 ≤ w by omega)
    obtain ⟨v, rfl⟩ := Int.eq_ofNat_of_zero_le (show 0 ≤ n by omega)
    have := rnum_some v m (by omega) (by omega)
    by_cases h3 : v < 256 ^ m
    · rw [if_pos h3] at this; rw [numB_yes (by omega) (by omega) h3]; exact this
    · rw [if_neg h3] at this
      rw [numB_no (by rw [Int.toNat_natCast, ← pow_cast]; omega)]; exact this
end Go.Proofs.Ytijohhdgecadnaa.Cn
