/- The plain law of BytesTell: for all whole numbers and texts in their kinds' bounds the printed function answers true. -/
import Derived.Test.YtijohhdgecadnaaFBytesTellx2
import Derived.OpenShut
import Derived.Test.YtijohhdgecadnaaTk
import Derived.Test.YtijohhdgecadnaaBy
namespace Go.Proofs.Ytijohhdgecadnaa.Pure
open Go.RowKit Go.Proofs.Ytijohhdgecadnaa.FBytesTell Go.Proofs.YtijohhdgecadnaaW.PrintWords Go.Proofs.YtijohhdgecadnaaW.PrintLast Go.Proofs.Ytijohhdgecadnaa.Tk Go.Proofs.Ytijohhdgecadnaa.By
set_option linter.unusedVariables false
set_option linter.unusedSimpArgs false

namespace BytesTellB
theorem shl_pow {w : Int} (h0 : 1 ≤ w) (h1 : w ≤ 7) : shl .i64 1 (wrap64 (8 * w)) = 256 ^ w.toNat := by
  have : w = 1 ∨ w = 2 ∨ w = 3 ∨ w = 4 ∨ w = 5 ∨ w = 6 ∨ w = 7 := by omega
  rcases this with rfl | rfl | rfl | rfl | rfl | rfl | rfl <;> decide +kernel
theorem num_l (i : Nat) : ∀ (k : Nat) (n : Int) (T : List Int), 0 ≤ n → i ≤ 7 → i < k → bytes_Num.l0 k n (List.replicate i 0 ++ T) ((i : Int) - 1) = some (strOfNums (dg n i ++ T)) := by
  induction i with
  | zero =>
    intro k n T h0 hi hk
    obtain ⟨k, rfl⟩ : ∃ j, k = j + 1 := ⟨k - 1, by omega⟩
    simp only [bytes_Num.l0]; rw [if_neg (by omega)]; rfl
  | succ i ih =>
    intro k n T h0 hi hk
    obtain ⟨k, rfl⟩ : ∃ j, k = j + 1 := ⟨k - 1, by omega⟩
    have e1 : ((i + 1 : Nat) : Int) - 1 = (i : Int) := by omega
    have e2 : (List.replicate (i + 1) (0 : Int) ++ T).set i (n % 256) = List.replicate i 0 ++ (n % 256 :: T) := by
      rw [List.replicate_succ', List.append_assoc, List.set_append]
      rw [if_neg (by simp)]; simp
    rw [e1]
    simp only [bytes_Num.l0]
    rw [if_pos (by omega), if_pos (by omega), if_pos (by simp; omega), w64 (by omega) (by omega), Int.toNat_natCast, e2, ih k (n / 256) _ (by omega) (by omega) (by omega)]
    simp only [dg, List.append_assoc, List.cons_append, List.nil_append]
theorem num_j (k : Nat) (hk : 10 ≤ k) (n w : Int) : bytes_Num.j0 k n w true = some ⟨#[]⟩ := by
  obtain ⟨k, rfl⟩ : ∃ j, k = j + 1 := ⟨k - 1, by omega⟩
  rw [bytes_Num.j0, if_pos rfl]
theorem num_s (k : Nat) (hk : 10 ≤ k) (n w : Int) : bytes_Num.f k n w = some (num n w) := by
  unfold bytes_Num.f num
  by_cases a1 : w < 1
  · rw [if_pos a1, num_j k hk, if_neg (by omega)]
  rw [if_neg a1]
  by_cases a2 : w > 7
  · rw [if_pos a2, num_j k hk, if_neg (by omega)]
  rw [if_neg a2]
  by_cases a3 : n < 0
  · rw [if_pos a3, num_j k hk, if_neg (by omega)]
  rw [if_neg a3, if_pos (by rw [w64 (by omega) (by omega)]; omega), shl_pow (by omega) (by omega)]
  by_cases a4 : n ≥ 256 ^ w.toNat
  · rw [decide_eq_true a4, num_j k hk, if_neg (by omega)]
  · rw [decide_eq_false a4, if_pos ⟨by omega, by omega, by omega, by omega⟩]
    obtain ⟨k, rfl⟩ : ∃ j, k = j + 1 := ⟨k - 1, by omega⟩
    rw [bytes_Num.j0, if_neg (by simp), if_pos (by omega), if_pos (by omega), w64 (by omega) (by omega)]
    have := num_l w.toNat k n [] (by omega) (by omega) (by omega)
    rw [List.append_nil, List.append_nil, Int.toNat_of_nonneg (by omega)] at this; exact this
theorem rnum_l (d : Nat) : ∀ (k : Nat) (n w i : Int) (s : ByteArray), 0 ≤ n → n ≤ 9223372036854775807 → 0 ≤ i → w ≤ 7 → w - i = d → d ≤ 7 → s.size ≤ 7 → d < k → s.size + d ≤ 7 →
    hourglassref04_Num.l0 k n w s i = some (if n < 256 ^ d then strOfNums (dg n d) ++ s else ⟨#[]⟩) := by
  induction d with
  | zero =>
    intro k n w i s h0 h1 hi hw7 hd h7 hs hk ht
    obtain ⟨k, rfl⟩ : ∃ j, k = j + 1 := ⟨k - 1, by omega⟩
    simp only [hourglassref04_Num.l0]; rw [if_neg (by omega)]
    by_cases a : n > 0
    · rw [if_pos a, if_neg (by simp; omega)]
    · rw [if_neg a, if_pos (by simp; omega)]
      exact congrArg some (empty_app s).symm
  | succ d ih =>
    intro k n w i s h0 h1 hi hw7 hd h7 hs hk ht
    obtain ⟨k, rfl⟩ : ∃ j, k = j + 1 := ⟨k - 1, by omega⟩
    have e : (256 : Int) ^ (d + 1) = 256 ^ d * 256 := Int.pow_succ _ _
    have em : Int.tmod n 256 % 256 = n % 256 := by rw [Int.tmod_eq_emod_of_nonneg h0]; omega
    have sz : (strOfNums [n % 256] ++ s).size = 1 + s.size := by rw [app_size, nums_size]; rfl
    simp only [hourglassref04_Num.l0, Option.bind_some]
    rw [if_pos (by omega), em, if_pos (by rw [nums_size]; simp; omega), Int.tdiv_eq_ediv_of_nonneg h0, w64 (n := n / 256) (by omega) (by omega), w64 (n := i + 1) (by omega) (by omega), ih k (n / 256) w (i + 1) _ (by omega) (by omega) (by omega) (by omega) (by omega) (by omega) (by omega) (by omega) (by omega)]
    by_cases a : n < 256 ^ (d + 1)
    · rw [if_pos a, if_pos (by omega)]; congr 1
      simp only [dg]; rw [nums_app, app_assoc]
    · rw [if_neg a, if_neg (by omega)]
theorem rnum_j (k : Nat) (hk : 10 ≤ k) (n w : Int) : hourglassref04_Num.j0 k n w true = some ⟨#[]⟩ := by
  obtain ⟨k, rfl⟩ : ∃ j, k = j + 1 := ⟨k - 1, by omega⟩
  rw [hourglassref04_Num.j0, if_pos rfl]
theorem rnum_s (k : Nat) (hk : 10 ≤ k) {n : Int} (hn : (Lit.int .i64 n).wf = true) (w : Int) : hourglassref04_Num.f k n w = some (num n w) := by
  have bn := bounds_i64 hn
  unfold hourglassref04_Num.f num
  by_cases a1 : w < 1
  · rw [if_pos a1, rnum_j k hk, if_neg (by omega)]
  rw [if_neg a1]
  by_cases a2 : w > 7
  · rw [if_pos a2, rnum_j k hk, if_neg (by omega)]
  rw [if_neg a2]
  by_cases a3 : n < 0
  · rw [decide_eq_true a3, rnum_j k hk, if_neg (by omega)]
  · rw [decide_eq_false a3]
    obtain ⟨k, rfl⟩ : ∃ j, k = j + 1 := ⟨k - 1, by omega⟩
    rw [hourglassref04_Num.j0, if_neg (by simp), rnum_l w.toNat k n w 0 _ (by omega) (by omega) (by omega) (by omega) (by omega) (by omega) (by decide) (by omega) (by simp [ByteArray.size]; omega)]
    by_cases a4 : n < 256 ^ w.toNat
    · rw [if_pos a4, if_pos ⟨by omega, by omega, by omega, a4⟩]; congr 1; exact ext_list (by rw [app_list]; simp)
    · rw [if_neg a4, if_neg (by omega)]
theorem len_num {m : Nat} (h : m ≤ 255) : num (m : Int) 1 = strOfNums [(m : Int)] := by
  unfold num; rw [if_pos ⟨by omega, by omega, by omega, by simp; omega⟩]
  show strOfNums (dg ((m : Int) / 256) 0 ++ [(m : Int) % 256]) = _
  congr 1; simp [dg]; omega
theorem text_s (k : Nat) (hk : 10 ≤ k) (s : ByteArray) (hs : s.size ≤ 140737488351232) : bytes_Text.f k s = some (txt s) := by
  unfold bytes_Text.f txt; rw [num_s k hk, Option.bind_some]
  by_cases a : s.size ≤ 255
  · have e := len_num a
    rw [if_pos a, e]
    have l : (strOfNums [(s.size : Int)]).toList ≠ [] := by rw [tl, nums_list]; simp
    rw [if_neg l, if_pos (by rw [nums_size]; simp; omega)]
  · rw [if_neg a]
    have : num (s.size : Int) 1 = ⟨#[]⟩ := by unfold num; rw [if_neg (by simp; omega)]
    rw [this, if_pos (by rw [tl])]
theorem rtext_s (s : ByteArray) (hs : s.size ≤ 140737488351232) : hourglassref04_Text.f s = some (txt s) := by
  unfold hourglassref04_Text.f txt; simp only [Option.bind_some]
  by_cases a : s.size ≤ 255
  · rw [if_neg (by omega), if_pos a, if_pos (by rw [nums_size]; simp; omega), len_num a]; congr 3; simp; omega
  · rw [if_pos (by omega), if_neg a]
theorem flag_s (b : Bool) : bytes_Flag.f b = some (flg b) := by unfold bytes_Flag.f flg; split <;> rfl
theorem awake_s (k : Nat) (hk : 20 ≤ k) : hourglasslaw04_awake.f k = some true :=
  at_rounds (g := hourglasslaw04_awake.f) hourglasslaw04_awake.mono hk (by decide +kernel)
end BytesTellB
open BytesTellB

theorem BytesTell : hourglasslaw04_BytesTell.Pure := by
  intro n w s b hn hw hs
  refine ⟨20, ?_⟩
  unfold hourglasslaw04_BytesTell.f
  by_cases a : (s.size : Int) > 2000
  · rw [if_pos a, awake_s 20 (by decide)]; rfl
  · rw [if_neg a]
    simp only [num_s 20 (by decide), rnum_s 20 (by decide) hn, text_s 20 (by decide) s hs, rtext_s s hs, flag_s, awake_s 20 (by decide), Option.bind_some]
    rw [if_pos trivial, if_pos trivial, if_pos (by rw [tl]; cases b <;> decide), if_pos (by rw [flg_size]; rfl)]

end Go.Proofs.Ytijohhdgecadnaa.Pure
