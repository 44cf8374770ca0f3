
/- Spans of time as text. No condition. -/
import Derived.Test.YtfpincfmcjiokaaSp1
import Derived.Test.YtfpincfmcjiokaaSp9
namespace Go.Proofs.Ytfpincfmcjiokaa.Sp
open Go Go.Proofs.Ytfpincfmcjiokaa.Av
set_option linter.unusedVariables false

def mulT (a b : Int) : Int := clamp (clamp a * clamp b)
def unitI (c : Int) : Int := if c = 117 then 1 else if c = 109 then 1000 else if c = 83 then 1000000 else if c = 77 then 60000000 else if c = 72 then 3600000000 else 0
theorem unit_bd (c : Int) : 0 ≤ unitI c ∧ unitI c ≤ 3600000000 := by unfold unitI; (repeat' split) <;> omega
def dig (s : ByteArray) (i : Nat) : Bool := decide (48 ≤ byteAt s i ∧ byteAt s i ≤ 57)
def okD (s : ByteArray) (k : Nat) : Bool := (List.range k).all (dig s)
def decN (s : ByteArray) (k : Nat) : Int := (List.range k).foldl (fun n i => n * 10 + (byteAt s i - 48)) 0
def dec (s : ByteArray) : Int × Int :=
  if s.size < 2 ∨ 9 < s.size then (0, 3)
  else if okD s (s.size - 1) = false then (0, 5)
  else if byteAt s (s.size - 1) = 110 then (decN s (s.size - 1) / 1000, 0)
  else if unitI (byteAt s (s.size - 1)) = 0 then (0, 5)
  else (mulT (decN s (s.size - 1)) (unitI (byteAt s (s.size - 1))), 0)
theorem okD_succ (s : ByteArray) (k : Nat) : okD s (k + 1) = (okD s k && dig s k) := by unfold okD; rw [List.range_succ, List.all_append]; simp
theorem decN_succ (s : ByteArray) (k : Nat) : decN s (k + 1) = decN s k * 10 + (byteAt s k - 48) := by unfold decN; rw [List.range_succ, List.foldl_append]; rfl
theorem okD_at {s : ByteArray} {k i : Nat} (h : okD s k = true) (hi : i < k) : 48 ≤ byteAt s i ∧ byteAt s i ≤ 57 := by
  unfold okD at h
  have := List.all_eq_true.1 h i (List.mem_range.2 hi)
  simpa [dig] using this
theorem okD_no {s : ByteArray} {k i : Nat} (hi : i < k) (h : ¬ (48 ≤ byteAt s i ∧ byteAt s i ≤ 57)) : okD s k = false := by
  cases hk : okD s k with
  | false => rfl
  | true => exact absurd (okD_at hk hi) h
theorem decN_bd (s : ByteArray) : ∀ (k : Nat), okD s k = true → 0 ≤ decN s k ∧ decN s k < 10 ^ k
  | 0, _ => ⟨Int.le_refl _, by show (0 : Int) < 10 ^ 0; decide⟩
  | k + 1, h => by
    have h1 := okD_at h (Nat.lt_succ_self k)
    rw [okD_succ, Bool.and_eq_true] at h
    have ih := decN_bd s k h.1
    rw [decN_succ, Int.pow_succ]
    omega
theorem pow10_le {k : Nat} (h : k ≤ 8) : (10 : Int) ^ k ≤ 100000000 := by
  have : k = 0 ∨ k = 1 ∨ k = 2 ∨ k = 3 ∨ k = 4 ∨ k = 5 ∨ k = 6 ∨ k = 7 ∨ k = 8 := by omega
  rcases this with rfl | rfl | rfl | rfl | rfl | rfl | rfl | rfl | rfl <;> decide
/-- Doubling, cut off at the greatest time. -/
theorem clamp_mul {x y : Int} (c : Int) (hx : 0 ≤ x) (hy : 0 ≤ y) (hc : 0 ≤ c) : clamp (clamp x + clamp y * c) = clamp (x + y * c) := by
  have hxy := Int.mul_nonneg hy hc
  rcases Int.lt_or_le 0 c with h | h
  · by_cases h1 : x ≤ 1125899906842624
    · rw [clamp_id ⟨hx, h1⟩]
      by_cases h2 : y ≤ 1125899906842624
      · rw [clamp_id ⟨hy, h2⟩]
      · have e : clamp y = 1125899906842624 := by unfold clamp; rw [if_neg (by omega), if_pos (by omega)]
        rw [e]
        have h3 : 1125899906842624 ≤ 1125899906842624 * c := by have := Int.mul_le_mul_of_nonneg_left (show 1 ≤ c by omega) (show (0 : Int) ≤ 1125899906842624 by omega); omega
        have h4 : y ≤ y * c := by have := Int.mul_le_mul_of_nonneg_left (show 1 ≤ c by omega) hy; omega
        unfold clamp
        (repeat' split) <;> omega
    · have e : clamp x = 1125899906842624 := by unfold clamp; rw [if_neg (by omega), if_pos (by omega)]
      rw [e]
      have h3 : 0 ≤ clamp y * c := Int.mul_nonneg (clamp_bd y).1 hc
      unfold clamp at h3 ⊢
      (repeat' split) <;> omega
  · obtain rfl : c = 0 := by omega
    simp only [Int.mul_zero, Int.add_zero]
    have h1 := clamp_bd x
    rw [clamp_id h1]
theorem clamp_clamp (x : Int) : clamp (clamp x) = clamp x := clamp_id (clamp_bd x)
theorem add_eq (a b : Int) (ha : 0 ≤ a ∧ a ≤ 1125899906842624) (hb : 0 ≤ b ∧ b ≤ 1125899906842624) : add a b = clamp (a + b) := by unfold add; rw [clamp_id ha, clamp_id hb]
/-- A round of the document's product: the last bit, and the rest twice as often. -/
theorem mul_round {n a b : Int} (hn : 0 ≤ n ∧ n ≤ 1125899906842624) (ha : 0 ≤ a ∧ a ≤ 1125899906842624) (hb : 0 ≤ b) : clamp ((if b % 2 = 1 then add n a else n) + add a a * (b / 2)) = clamp (n + a * b) := by
  have hc : 0 ≤ b / 2 := by omega
  rw [add_eq a a ha ha]
  have e : ∀ x : Int, 0 ≤ x → clamp (clamp x + clamp (a + a) * (b / 2)) = clamp (x + (a + a) * (b / 2)) := fun x hx => clamp_mul _ hx (by omega) hc
  have key : (a + a) * (b / 2) = a * (2 * (b / 2)) := by rw [← Int.mul_assoc]; congr 1; omega
  split
  · rename_i h
    rw [add_eq n a hn ha, e _ (by omega), key]
    congr 1
    have : a * b = a * (2 * (b / 2)) + a := by
      have h2 : b = 2 * (b / 2) + 1 := by omega
      conv => lhs; rw [h2]
      rw [Int.mul_add, Int.mul_one]
    omega
  · rename_i h
    have h1 := e n hn.1
    rw [clamp_id hn] at h1
    rw [h1, key]
    congr 2
    congr 1
    omega
end Go.Proofs.Ytfpincfmcjiokaa.Sp
