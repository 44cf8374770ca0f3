/- The plain law of BytesBack: for all whole numbers and texts in their kinds' bounds the printed function answers true. -/
import Derived.Test.YtijohhdgecadnaaFBytesBackx2
import Derived.OpenShut
import Derived.Test.YtijohhdgecadnaaTk
import Derived.Test.YtijohhdgecadnaaBy
namespace Go.Proofs.Ytijohhdgecadnaa.Pure
open Go.RowKit Go.Proofs.Ytijohhdgecadnaa.FBytesBack Go.Proofs.YtijohhdgecadnaaW.PrintWords Go.Proofs.YtijohhdgecadnaaW.PrintLast Go.Proofs.Ytijohhdgecadnaa.Tk Go.Proofs.Ytijohhdgecadnaa.By
set_option linter.unusedVariables false
set_option linter.unusedSimpArgs false

namespace BytesBackB
theorem shl_pow {w : Int} (h0 : 1 ≤ w) (h1 : w ≤ 7) : shl .i64 1 (wrap64 (8 * w)) = 256 ^ w.toNat := by
  have : w = 1 ∨ w = 2 ∨ w = 3 ∨ w = 4 ∨ w = 5 ∨ w = 6 ∨ w = 7 := by omega
  rcases this with rfl | rfl | rfl | rfl | rfl | rfl | rfl <;> decide +kernel
theorem num_l (i : Nat) : ∀ (k : Nat) (n : Int) (T : List Int), 0 ≤ n → i ≤ 7 → i < k → bytes_Num.l0 k n (List.replicate i 0 ++ T) ((i : Int) - 1) = some (strOfNums (dg n i ++ T)) := by
  induction i with
  | zero =>
    intro k n T h0 hi hk
    obtain ⟨k, rfl⟩ : ∃ j, k = j + 1 := ⟨k - 1, by omega⟩
    simp only [bytes_Num.l0]; rw [if_neg (by omega)]; rfl
  | succ i ih =>
    intro k n T h0 hi hk
    obtain ⟨k, rfl⟩ : ∃ j, k = j + 1 := ⟨k - 1, by omega⟩
    have e1 : ((i + 1 : Nat) : Int) - 1 = (i : Int) := by omega
    have e2 : (List.replicate (i + 1) (0 : Int) ++ T).set i (n % 256) = List.replicate i 0 ++ (n % 256 :: T) := by
      rw [List.replicate_succ', List.append_assoc, List.set_append]
      rw [if_neg (by simp)]; simp
    rw [e1]
    simp only [bytes_Num.l0]
    rw [if_pos (by omega), if_pos (by omega), if_pos (by simp; omega), w64 (by omega) (by omega), Int.toNat_natCast, e2, ih k (n / 256) _ (by omega) (by omega) (by omega)]
    simp only [dg, List.append_assoc, List.cons_append, List.nil_append]
theorem num_j (k : Nat) (hk : 10 ≤ k) (n w : Int) : bytes_Num.j0 k n w true = some ⟨#[]⟩ := by
  obtain ⟨k, rfl⟩ : ∃ j, k = j + 1 := ⟨k - 1, by omega⟩
  rw [bytes_Num.j0, if_pos rfl]
theorem num_s (k : Nat) (hk : 10 ≤ k) (n w : Int) : bytes_Num.f k n w = some (num n w) := by
  unfold bytes_Num.f num
  by_cases a1 : w < 1
  · rw [if_pos a1, num_j k hk, if_neg (by omega)]
  rw [if_neg a1]
  by_cases a2 : w > 7
  · rw [if_pos a2, num_j k hk, if_neg (by omega)]
  rw [if_neg a2]
  by_cases a3 : n < 0
  · rw [if_pos a3, num_j k hk, if_neg (by omega)]
  rw [if_neg a3, if_pos (by rw [w64 (by omega) (by omega)]; omega), shl_pow (by omega) (by omega)]
  by_cases a4 : n ≥ 256 ^ w.toNat
  · rw [decide_eq_true a4, num_j k hk, if_neg (by omega)]
  · rw [decide_eq_false a4, if_pos ⟨by omega, by omega, by omega, by omega⟩]
    obtain ⟨k, rfl⟩ : ∃ j, k = j + 1 := ⟨k - 1, by omega⟩
    rw [bytes_Num.j0, if_neg (by simp), if_pos (by omega), if_pos (by omega), w64 (by omega) (by omega)]
    have := num_l w.toNat k n [] (by omega) (by omega) (by omega)
    rw [List.append_nil, List.append_nil, Int.toNat_of_nonneg (by omega)] at this; exact this
theorem rnum_l (d : Nat) : ∀ (k : Nat) (n w i : Int) (s : ByteArray), 0 ≤ n → n ≤ 9223372036854775807 → 0 ≤ i → w ≤ 7 → w - i = d → d ≤ 7 → s.size ≤ 7 → d < k → s.size + d ≤ 7 →
    hourglassref04_Num.l0 k n w s i = some (if n < 256 ^ d then strOfNums (dg n d) ++ s else ⟨#[]⟩) := by
  induction d with
  | zero =>
    intro k n w i s h0 h1 hi hw7 hd h7 hs hk ht
    obtain ⟨k, rfl⟩ : ∃ j, k = j + 1 := ⟨k - 1, by omega⟩
    simp only [hourglassref04_Num.l0]; rw [if_neg (by omega)]
    by_cases a : n > 0
    · rw [if_pos a, if_neg (by simp; omega)]
    · rw [if_neg a, if_pos (by simp; omega)]
      exact congrArg some (empty_app s).symm
  | succ d ih =>
    intro k n w i s h0 h1 hi hw7 hd h7 hs hk ht
    obtain ⟨k, rfl⟩ : ∃ j, k = j + 1 := ⟨k - 1, by omega⟩
    have e : (256 : Int) ^ (d + 1) = 256 ^ d * 256 := Int.pow_succ _ _
    have em : Int.tmod n 256 % 256 = n % 256 := by rw [Int.tmod_eq_emod_of_nonneg h0]; omega
    have sz : (strOfNums [n % 256] ++ s).size = 1 + s.size := by rw [app_size, nums_size]; rfl
    simp only [hourglassref04_Num.l0, Option.bind_some]
    rw [if_pos (by omega), em, if_pos (by rw [nums_size]; simp; omega), Int.tdiv_eq_ediv_of_nonneg h0, w64 (n := n / 256) (by omega) (by omega), w64 (n := i + 1) (by omega) (by omega), ih k (n / 256) w (i + 1) _ (by omega) (by omega) (by omega) (by omega) (by omega) (by omega) (by omega) (by omega) (by omega)]
    by_cases a : n < 256 ^ (d + 1)
    · rw [if_pos a, if_pos (by omega)]; congr 1
      simp only [dg]; rw [nums_app, app_assoc]
    · rw [if_neg a, if_neg (by omega)]
theorem rnum_j (k : Nat) (hk : 10 ≤ k) (n w : Int) : hourglassref04_Num.j0 k n w true = some ⟨#[]⟩ := by
  obtain ⟨k, rfl⟩ : ∃ j, k = j + 1 := ⟨k - 1, by omega⟩
  rw [hourglassref04_Num.j0, if_pos rfl]
theorem rnum_s (k : Nat) (hk : 10 ≤ k) {n : Int} (hn : (Lit.int .i64 n).wf = true) (w : Int) : hourglassref04_Num.f k n w = some (num n w) := by
  have bn := bounds_i64 hn
  unfold hourglassref04_Num.f num
  by_cases a1 : w < 1
  · rw [if_pos a1, rnum_j k hk, if_neg (by omega)]
  rw [if_neg a1]
  by_cases a2 : w > 7
  · rw [if_pos a2, rnum_j k hk, if_neg (by omega)]
  rw [if_neg a2]
  by_cases a3 : n < 0
  · rw [decide_eq_true a3, rnum_j k hk, if_neg (by omega)]
  · rw [decide_eq_false a3]
    obtain ⟨k, rfl⟩ : ∃ j, k = j + 1 := ⟨k - 1, by omega⟩
    rw [hourglassref04_Num.j0, if_neg (by simp), rnum_l w.toNat k n w 0 _ (by omega) (by omega) (by omega) (by omega) (by omega) (by omega) (by decide) (by omega) (by simp [ByteArray.size]; omega)]
    by_cases a4 : n < 256 ^ w.toNat
    · rw [if_pos a4, if_pos ⟨by omega, by omega, by omega, a4⟩]; congr 1; exact ext_list (by rw [app_list]; simp)
    · rw [if_neg a4, if_neg (by omega)]
theorem len_num {m : Nat} (h : m ≤ 255) : num (m : Int) 1 = strOfNums [(m : Int)] := by
  unfold num; rw [if_pos ⟨by omega, by omega, by omega, by simp; omega⟩]
  show strOfNums (dg ((m : Int) / 256) 0 ++ [(m : Int) % 256]) = _
  congr 1; simp [dg]; omega
theorem text_s (k : Nat) (hk : 10 ≤ k) (s : ByteArray) (hs : s.size ≤ 140737488351232) : bytes_Text.f k s = some (txt s) := by
  unfold bytes_Text.f txt; rw [num_s k hk, Option.bind_some]
  by_cases a : s.size ≤ 255
  · have e := len_num a
    rw [if_pos a, e]
    have l : (strOfNums [(s.size : Int)]).toList ≠ [] := by rw [tl, nums_list]; simp
    rw [if_neg l, if_pos (by rw [nums_size]; simp; omega)]
  · rw [if_neg a]
    have : num (s.size : Int) 1 = ⟨#[]⟩ := by unfold num; rw [if_neg (by simp; omega)]
    rw [this, if_pos (by rw [tl])]
theorem flag_s (b : Bool) : bytes_Flag.f b = some (flg b) := by unfold bytes_Flag.f flg; split <;> rfl
theorem take_s (A B : ByteArray) (w : Int) (hw : A.size = w.toNat) (h0 : 0 ≤ w) : bytes_Reader_take.f (A ++ B) 0 w = some (A, true, B, 0) := by
  unfold bytes_Reader_take.f
  have sz := app_size A B
  have e1 := extract_left A B; have e2 := extract_right A B
  rw [if_pos rfl, if_neg (by omega), if_pos h0, if_pos (by omega), ← hw, e1, e2]
theorem read_l (s S : ByteArray) (b : Int) (hs : s.size ≤ 7) (d : Nat) : ∀ (k i : Nat), i + d = s.size → d < k →
    bytes_Reader_Num.l0 k s (rv s i) (s.size : Int) (i : Int) S b = some (rv s s.size, S, b) := by
  induction d with
  | zero =>
    intro k i hi hk
    obtain ⟨k, rfl⟩ : ∃ j, k = j + 1 := ⟨k - 1, by omega⟩
    have : i = s.size := by omega
    subst this
    simp only [bytes_Reader_Num.l0]; rw [if_neg (by omega)]
  | succ d ih =>
    intro k i hi hk
    obtain ⟨k, rfl⟩ : ∃ j, k = j + 1 := ⟨k - 1, by omega⟩
    have r0 := rv_lo s i; have r1 := rv_hi s i; have b0 := bt_lo s i; have b1 := bt_hi s i
    have p : (256 : Int) ^ i ≤ 281474976710656 := by
      have : i = 0 ∨ i = 1 ∨ i = 2 ∨ i = 3 ∨ i = 4 ∨ i = 5 ∨ i = 6 := by omega
      rcases this with rfl | rfl | rfl | rfl | rfl | rfl | rfl <;> decide
    have e : wrap64 ((i : Int) + 1) = ((i + 1 : Nat) : Int) := by rw [w64 (by omega) (by omega)]; rfl
    simp only [bytes_Reader_Num.l0]
    rw [if_pos (by omega), if_pos (by omega), if_pos (by omega), w64 (n := rv s i * 256) (by omega) (by omega), w64 (n := bt s i) (by omega) (by omega), or_add r0 (by omega) b0 b1, e]
    exact ih k (i + 1) (by omega) (by omega)
theorem read_s (k : Nat) (hk : 12 ≤ k) (A B : ByteArray) {w : Int} (h0 : 1 ≤ w) (h1 : w ≤ 7) (hw : A.size = w.toNat) : bytes_Reader_Num.f k (A ++ B) 0 w = some (rv A A.size, B, 0) := by
  obtain ⟨k, rfl⟩ : ∃ j, k = j + 2 := ⟨k - 2, by omega⟩
  unfold bytes_Reader_Num.f
  rw [if_neg (by omega), decide_eq_false (by omega), bytes_Reader_Num.j0, if_neg (by simp), bytes_Reader_Num.j1, take_s A B w hw (by omega), Option.bind_some, if_pos rfl]
  exact read_l A B 0 (by omega) A.size k 0 (by omega) (by omega)
theorem awake_s (k : Nat) (hk : 20 ≤ k) : hourglasslaw04_awake.f k = some true :=
  at_rounds (g := hourglasslaw04_awake.f) hourglasslaw04_awake.mono hk (by decide +kernel)
theorem readtext_s (k : Nat) (hk : 12 ≤ k) (s B : ByteArray) (hs : s.size ≤ 255) : bytes_Reader_Text.f k (txt s ++ B) 0 = some (s, B, 0) := by
  have hn : 1 ≤ (1 : Int) ∧ (1 : Int) ≤ 7 ∧ 0 ≤ (s.size : Int) ∧ (s.size : Int) < 256 ^ (1 : Int).toNat := ⟨by omega, by omega, by omega, by simp; omega⟩
  have e : txt s ++ B = num s.size 1 ++ (s ++ B) := by unfold txt; rw [if_pos hs, app_assoc]
  have v : rv (num s.size 1) (num s.size 1).size = s.size := by
    rw [num_size hn]; unfold num; rw [if_pos hn]; exact rv_nums _ _ (by omega) (by simp; omega)
  unfold bytes_Reader_Text.f
  rw [e, read_s k hk _ _ (by omega) (by omega) (num_size hn), Option.bind_some, v]
  simp only []
  rw [take_s s B s.size (by omega) (by omega), Option.bind_some]
theorem readflag_s (k : Nat) (hk : 12 ≤ k) (b : Bool) (B : ByteArray) : bytes_Reader_Flag.f k (flg b ++ B) 0 = some (b, B, 0) := by
  unfold bytes_Reader_Flag.f
  rw [read_s k hk _ _ (by omega) (by omega) (flg_size b), Option.bind_some, flg_size, flg_rv]
  cases b
  · rfl
  · rfl
end BytesBackB
open BytesBackB

theorem BytesBack : hourglasslaw04_BytesBack.Pure := by
  intro n w s b t hn hw hs ht
  refine ⟨31, ?_⟩
  have yes : hourglasslaw04_BytesBack.j0 31 n w s b t true = some true := by
    rw [hourglasslaw04_BytesBack.j0, if_pos rfl, awake_s 30 (by decide)]; rfl
  unfold hourglasslaw04_BytesBack.f
  rw [rnum_s 31 (by decide) hn, Option.bind_some]
  by_cases a1 : (num n w).toList = ([] : List UInt8)
  · rw [if_pos a1]; exact yes
  rw [if_neg a1]
  by_cases a2 : (s.size : Int) > 255
  · rw [if_pos a2]; exact yes
  rw [if_neg a2]
  by_cases a3 : (t.size : Int) > 2000
  · rw [decide_eq_true a3]; exact yes
  rw [decide_eq_false a3, hourglasslaw04_BytesBack.j0, if_neg (by simp)]
  have hv := num_some (n := n) (w := w) (fun h => a1 (by rw [h, tl]))
  have sn := num_size hv
  have st : (txt s).size ≤ 256 := by
    have hs' : s.size ≤ 255 := by omega
    unfold txt; rw [if_pos hs', app_size, num_size ⟨by omega, by omega, by omega, by simp; omega⟩]
    show 1 + s.size ≤ 256; omega
  have sf := flg_size b
  have e : num n w ++ txt s ++ flg b ++ t = num n w ++ (txt s ++ (flg b ++ t)) := by rw [app_assoc, app_assoc]
  have v : rv (num n w) (num n w).size = n := by
    rw [sn]; unfold num; rw [if_pos hv]; exact rv_nums _ _ hv.2.2.1 hv.2.2.2
  simp only [num_s 30 (by decide), text_s 30 (by decide) s hs, flag_s, Option.bind_some]
  rw [if_pos (by omega), if_pos (by rw [app_size]; omega), if_pos (by rw [app_size, app_size]; omega), e]
  simp only [bytes_Open.f, Option.bind_some]
  rw [read_s 30 (by decide) _ _ hv.1 hv.2.1 sn, Option.bind_some, v]
  simp only []
  rw [if_pos trivial, readtext_s 30 (by decide) s _ (by omega), Option.bind_some]
  simp only []
  rw [if_pos trivial, readflag_s 30 (by decide), Option.bind_some]
  simp only [beq_self_eq_true, if_true]
  unfold bytes_Reader_End.f bytes_Reader_Left.f
  simp only [if_true, Option.bind_some]
  have tn : (t.toList == ([] : List UInt8)) = decide (t.size = 0) := by
    rw [tl, ← size_list]; cases t.data.toList <;> simp
  by_cases z : (t.size : Int) > 0
  · have hz : decide (t.size = 0) = false := decide_eq_false (by omega)
    rw [if_pos z]; simp only [Option.bind_some]; rw [tn, hz, if_pos (by decide), awake_s 30 (by decide)]; rfl
  · have hz : decide (t.size = 0) = true := decide_eq_true (by omega)
    rw [if_neg z]; simp only [Option.bind_some]; rw [tn, hz, if_pos (by decide), awake_s 30 (by decide)]; rfl

end Go.Proofs.Ytijohhdgecadnaa.Pure
