/- The plain law of BytesOnce: for all whole numbers and texts in their kinds' bounds the printed function answers true. -/
import Derived.Test.YtijohhdgecadnaaFBytesOncex2
import Derived.OpenShut
import Derived.Test.YtijohhdgecadnaaTk
import Derived.Test.YtijohhdgecadnaaBy
namespace Go.Proofs.Ytijohhdgecadnaa.Pure
open Go.RowKit Go.Proofs.Ytijohhdgecadnaa.FBytesOnce Go.Proofs.YtijohhdgecadnaaW.PrintWords Go.Proofs.YtijohhdgecadnaaW.PrintLast Go.Proofs.Ytijohhdgecadnaa.Tk Go.Proofs.Ytijohhdgecadnaa.By
set_option linter.unusedVariables false
set_option linter.unusedSimpArgs false

namespace BytesOnceB
theorem shl_pow {w : Int} (h0 : 1 ≤ w) (h1 : w ≤ 7) : shl .i64 1 (wrap64 (8 * w)) = 256 ^ w.toNat := by
  have : w = 1 ∨ w = 2 ∨ w = 3 ∨ w = 4 ∨ w = 5 ∨ w = 6 ∨ w = 7 := by omega
  rcases this with rfl | rfl | rfl | rfl | rfl | rfl | rfl <;> decide +kernel
theorem num_l (i : Nat) : ∀ (k : Nat) (n : Int) (T : List Int), 0 ≤ n → i ≤ 7 → i < k → bytes_Num.l0 k n (List.replicate i 0 ++ T) ((i : Int) - 1) = some (strOfNums (dg n i ++ T)) := by
  induction i with
  | zero =>
    intro k n T h0 hi hk
    obtain ⟨k, rfl⟩ : ∃ j, k = j + 1 := ⟨k - 1, by omega⟩
    simp only [bytes_Num.l0]; rw [if_neg (by omega)]; rfl
  | succ i ih =>
    intro k n T h0 hi hk
    obtain ⟨k, rfl⟩ : ∃ j, k = j + 1 := ⟨k - 1, by omega⟩
    have e1 : ((i + 1 : Nat) : Int) - 1 = (i : Int) := by omega
    have e2 : (List.replicate (i + 1) (0 : Int) ++ T).set i (n % 256) = List.replicate i 0 ++ (n % 256 :: T) := by
      rw [List.replicate_succ', List.append_assoc, List.set_append]
      rw [if_neg (by simp)]; simp
    rw [e1]
    simp only [bytes_Num.l0]
    rw [if_pos (by omega), if_pos (by omega), if_pos (by simp; omega), w64 (by omega) (by omega), Int.toNat_natCast, e2, ih k (n / 256) _ (by omega) (by omega) (by omega)]
    simp only [dg, List.append_assoc, List.cons_append, List.nil_append]
theorem num_j (k : Nat) (hk : 10 ≤ k) (n w : Int) : bytes_Num.j0 k n w true = some ⟨#[]⟩ := by
  obtain ⟨k, rfl⟩ : ∃ j, k = j + 1 := ⟨k - 1, by omega⟩
  rw [bytes_Num.j0, if_pos rfl]
theorem num_s (k : Nat) (hk : 10 ≤ k) (n w : Int) : bytes_Num.f k n w = some (num n w) := by
  unfold bytes_Num.f num
  by_cases a1 : w < 1
  · rw [if_pos a1, num_j k hk, if_neg (by omega)]
  rw [if_neg a1]
  by_cases a2 : w > 7
  · rw [if_pos a2, num_j k hk, if_neg (by omega)]
  rw [if_neg a2]
  by_cases a3 : n < 0
  · rw [if_pos a3, num_j k hk, if_neg (by omega)]
  rw [if_neg a3, if_pos (by rw [w64 (by omega) (by omega)]; omega), shl_pow (by omega) (by omega)]
  by_cases a4 : n ≥ 256 ^ w.toNat
  · rw [decide_eq_true a4, num_j k hk, if_neg (by omega)]
  · rw [decide_eq_false a4, if_pos ⟨by omega, by omega, by omega, by omega⟩]
    obtain ⟨k, rfl⟩ : ∃ j, k = j + 1 := ⟨k - 1, by omega⟩
    rw [bytes_Num.j0, if_neg (by simp), if_pos (by omega), if_pos (by omega), w64 (by omega) (by omega)]
    have := num_l w.toNat k n [] (by omega) (by omega) (by omega)
    rw [List.append_nil, List.append_nil, Int.toNat_of_nonneg (by omega)] at this; exact this
theorem len_num {m : Nat} (h : m ≤ 255) : num (m : Int) 1 = strOfNums [(m : Int)] := by
  unfold num; rw [if_pos ⟨by omega, by omega, by omega, by simp; omega⟩]
  show strOfNums (dg ((m : Int) / 256) 0 ++ [(m : Int) % 256]) = _
  congr 1; simp [dg]; omega
theorem text_s (k : Nat) (hk : 10 ≤ k) (s : ByteArray) (hs : s.size ≤ 140737488351232) : bytes_Text.f k s = some (txt s) := by
  unfold bytes_Text.f txt; rw [num_s k hk, Option.bind_some]
  by_cases a : s.size ≤ 255
  · have e := len_num a
    rw [if_pos a, e]
    have l : (strOfNums [(s.size : Int)]).toList ≠ [] := by rw [tl, nums_list]; simp
    rw [if_neg l, if_pos (by rw [nums_size]; simp; omega)]
  · rw [if_neg a]
    have : num (s.size : Int) 1 = ⟨#[]⟩ := by unfold num; rw [if_neg (by simp; omega)]
    rw [this, if_pos (by rw [tl])]
theorem flag_s (b : Bool) : bytes_Flag.f b = some (flg b) := by unfold bytes_Flag.f flg; split <;> rfl
theorem take_s (A B : ByteArray) (w : Int) (hw : A.size = w.toNat) (h0 : 0 ≤ w) : bytes_Reader_take.f (A ++ B) 0 w = some (A, true, B, 0) := by
  unfold bytes_Reader_take.f
  have sz := app_size A B
  have e1 := extract_left A B; have e2 := extract_right A B
  rw [if_pos rfl, if_neg (by omega), if_pos h0, if_pos (by omega), ← hw, e1, e2]
theorem read_l (s S : ByteArray) (b : Int) (hs : s.size ≤ 7) (d : Nat) : ∀ (k i : Nat), i + d = s.size → d < k →
    bytes_Reader_Num.l0 k s (rv s i) (s.size : Int) (i : Int) S b = some (rv s s.size, S, b) := by
  induction d with
  | zero =>
    intro k i hi hk
    obtain ⟨k, rfl⟩ : ∃ j, k = j + 1 := ⟨k - 1, by omega⟩
    have : i = s.size := by omega
    subst this
    simp only [bytes_Reader_Num.l0]; rw [if_neg (by omega)]
  | succ d ih =>
    intro k i hi hk
    obtain ⟨k, rfl⟩ : ∃ j, k = j + 1 := ⟨k - 1, by omega⟩
    have r0 := rv_lo s i; have r1 := rv_hi s i; have b0 := bt_lo s i; have b1 := bt_hi s i
    have p : (256 : Int) ^ i ≤ 281474976710656 := by
      have : i = 0 ∨ i = 1 ∨ i = 2 ∨ i = 3 ∨ i = 4 ∨ i = 5 ∨ i = 6 := by omega
      rcases this with rfl | rfl | rfl | rfl | rfl | rfl | rfl <;> decide
    have e : wrap64 ((i : Int) + 1) = ((i + 1 : Nat) : Int) := by rw [w64 (by omega) (by omega)]; rfl
    simp only [bytes_Reader_Num.l0]
    rw [if_pos (by omega), if_pos (by omega), if_pos (by omega), w64 (n := rv s i * 256) (by omega) (by omega), w64 (n := bt s i) (by omega) (by omega), or_add r0 (by omega) b0 b1, e]
    exact ih k (i + 1) (by omega) (by omega)
theorem read_s (k : Nat) (hk : 12 ≤ k) (A B : ByteArray) {w : Int} (h0 : 1 ≤ w) (h1 : w ≤ 7) (hw : A.size = w.toNat) : bytes_Reader_Num.f k (A ++ B) 0 w = some (rv A A.size, B, 0) := by
  obtain ⟨k, rfl⟩ : ∃ j, k = j + 2 := ⟨k - 2, by omega⟩
  unfold bytes_Reader_Num.f
  rw [if_neg (by omega), decide_eq_false (by omega), bytes_Reader_Num.j0, if_neg (by simp), bytes_Reader_Num.j1, take_s A B w hw (by omega), Option.bind_some, if_pos rfl]
  exact read_l A B 0 (by omega) A.size k 0 (by omega) (by omega)
theorem awake_s (k : Nat) (hk : 20 ≤ k) : hourglasslaw04_awake.f k = some true :=
  at_rounds (g := hourglasslaw04_awake.f) hourglasslaw04_awake.mono hk (by decide +kernel)
theorem take_any (s : ByteArray) (b n : Int) (hn : 0 ≤ n) : ∃ ok, bytes_Reader_take.f s b n = some ((takeR s b n).1, ok, (takeR s b n).2.1, (takeR s b n).2.2) ∧ (ok = true → b = 0 ∧ n ≤ s.size) ∧ (ok = false → (takeR s b n).1 = ⟨#[]⟩ ∧ (b ≠ 0 ∨ (s.size : Int) < n)) := by
  unfold bytes_Reader_take.f takeR
  by_cases a : b = 0
  · rw [if_pos a, if_pos a]
    by_cases c : n > (s.size : Int)
    · rw [if_pos c, if_pos (show (s.size : Int) < n from c)]; exact ⟨false, rfl, fun h => by simp at h, fun _ => ⟨rfl, Or.inr c⟩⟩
    · rw [if_neg c, if_neg (show ¬ (s.size : Int) < n from c), if_pos hn, if_pos (by omega), a]; exact ⟨true, rfl, fun _ => ⟨rfl, by omega⟩, fun h => by simp at h⟩
  · rw [if_neg a, if_neg a]; exact ⟨false, rfl, fun h => by simp at h, fun _ => ⟨rfl, Or.inl a⟩⟩
theorem read_any1 (k : Nat) (hk : 10 ≤ k) (s : ByteArray) (b w : Int) (h0 : 1 ≤ w) (h1 : w ≤ 7) : bytes_Reader_Num.j1 k w s b = some (rnumR s b w) := by
  obtain ⟨k, rfl⟩ : ∃ j, k = j + 1 := ⟨k - 1, by omega⟩
  rw [bytes_Reader_Num.j1]
  unfold bytes_Reader_take.f rnumR
  by_cases a : b = 0
  · rw [if_pos a, if_pos a, if_neg (show ¬ (w < 1 ∨ 7 < w) by omega)]
    by_cases c : w > (s.size : Int)
    · rw [if_pos c, if_pos (show (s.size : Int) < w from c), Option.bind_some, if_neg (by simp)]
    · rw [if_neg c, if_neg (show ¬ (s.size : Int) < w from c), if_pos (by omega), if_pos (by omega), Option.bind_some, if_pos rfl, a]
      have z := ext_size s (n := w.toNat) (by omega)
      have := read_l (s.extract 0 w.toNat) (s.extract w.toNat s.size) 0 (by omega) (s.extract 0 w.toNat).size k 0 (by omega) (by omega)
      rw [z] at this; rw [z]; exact this
  · rw [if_neg a, if_neg a, Option.bind_some, if_neg (by simp)]
theorem read_any (k : Nat) (hk : 12 ≤ k) (s : ByteArray) (b w : Int) : bytes_Reader_Num.f k s b w = some (rnumR s b w) := by
  obtain ⟨k, rfl⟩ : ∃ j, k = j + 2 := ⟨k - 2, by omega⟩
  unfold bytes_Reader_Num.f
  by_cases o : w < 1 ∨ 7 < w
  · have e : (if w < 1 then bytes_Reader_Num.j0 (k + 2) w true s b else bytes_Reader_Num.j0 (k + 2) w (decide (w > 7)) s b) = bytes_Reader_Num.j0 (k + 2) w true s b := by
      by_cases c : w < 1
      · rw [if_pos c]
      · rw [if_neg c, decide_eq_true (show w > 7 by omega)]
    rw [e, bytes_Reader_Num.j0, if_pos rfl]
    unfold bytes_Reader_Fail.f rnumR
    by_cases a : b = 0
    · rw [if_pos a, if_pos a, if_pos o, Option.bind_some, bytes_Reader_Num.j1]; unfold bytes_Reader_take.f; rw [if_neg (show ¬ (2 : Int) = 0 by decide), Option.bind_some, if_neg (by simp)]
    · rw [if_neg a, if_neg a, Option.bind_some, bytes_Reader_Num.j1]; unfold bytes_Reader_take.f; rw [if_neg a, Option.bind_some, if_neg (by simp)]
  · rw [if_neg (by omega), decide_eq_false (by omega), bytes_Reader_Num.j0, if_neg (by simp)]
    exact read_any1 (k + 1) (by omega) s b w (by omega) (by omega)
theorem readtext_any (k : Nat) (hk : 12 ≤ k) (s : ByteArray) (b : Int) : bytes_Reader_Text.f k s b = some (rtextR s b) := by
  obtain ⟨ok, e, _⟩ := take_any (rnumR s b 1).2.1 (rnumR s b 1).2.2 (rnumR s b 1).1 (rnumR_lo _ _ _)
  unfold bytes_Reader_Text.f; rw [read_any k hk, Option.bind_some, e, Option.bind_some]; rfl
theorem readflag_any (k : Nat) (hk : 12 ≤ k) (s : ByteArray) (b : Int) : bytes_Reader_Flag.f k s b = some (rflagR s b) := by
  unfold bytes_Reader_Flag.f rflagR; rw [read_any k hk, Option.bind_some]
  by_cases c : (rnumR s b 1).1 > 1
  · have h1 : ((rnumR s b 1).1 == 1) = false := by simp; omega
    rw [if_pos c, if_pos (show 1 < (rnumR s b 1).1 from c), h1]
    unfold bytes_Reader_Fail.f
    by_cases d : (rnumR s b 1).2.2 = 0
    · rw [if_pos d, if_pos d]; rfl
    · rw [if_neg d, if_neg d]; rfl
  · rw [if_neg c, if_neg (show ¬ 1 < (rnumR s b 1).1 from c)]
theorem left_any (s : ByteArray) (b : Int) : bytes_Reader_Left.f s b = some (if b = 0 then (s.size : Int) else 0, s, b) := by
  unfold bytes_Reader_Left.f; split <;> rfl
theorem end_any (s : ByteArray) (b : Int) : bytes_Reader_End.f s b = some (if b = 0 ∧ 0 < s.size then (5, s, 5) else (b, s, b)) := by
  unfold bytes_Reader_End.f; rw [left_any, Option.bind_some]
  by_cases a : b = 0
  · simp only [if_pos a]
    by_cases c : (s.size : Int) > 0
    · rw [if_pos c, if_pos ⟨a, by omega⟩]
    · rw [if_neg c, if_neg (by omega)]
  · simp only [if_neg a]; rw [if_neg (by decide), if_neg (fun h => a h.1)]
end BytesOnceB
open BytesOnceB

theorem none_s (k : Nat) (hk : 21 ≤ k) (w : Int) : hourglasslaw04_BytesOnce.j1 k w = some true := by
  obtain ⟨k, rfl⟩ : ∃ j, k = j + 1 := ⟨k - 1, by omega⟩
  rw [hourglasslaw04_BytesOnce.j1]
  simp only [bytes_Reader_Fail_nil.f, bytes_Reader_Num_nil.f, bytes_Reader_Text_nil.f, bytes_Reader_Flag_nil.f, bytes_Reader_Left_nil.f, bytes_Reader_End_nil.f, Option.bind_some, if_true]
  rw [if_pos (by rw [tl]), if_neg (by decide), awake_s k (by omega)]; rfl
theorem once_yes (k : Nat) (hk : 23 ≤ k) (s : ByteArray) (w : Int) (hs : s.size ≤ 2000) (hb : (rflagR (rtextR (rnumR s 0 w).2.1 (rnumR s 0 w).2.2).2.1 (rtextR (rnumR s 0 w).2.1 (rnumR s 0 w).2.2).2.2).2.2 = 0) :
    hourglasslaw04_BytesOnce.j0 k s w (rnumR s 0 w).1 (rtextR (rnumR s 0 w).2.1 (rnumR s 0 w).2.2).1 (rflagR (rtextR (rnumR s 0 w).2.1 (rnumR s 0 w).2.2).2.1 (rtextR (rnumR s 0 w).2.1 (rnumR s 0 w).2.2).2.2).1
      ((rflagR (rtextR (rnumR s 0 w).2.1 (rnumR s 0 w).2.2).2.1 (rtextR (rnumR s 0 w).2.1 (rnumR s 0 w).2.2).2.2).2.1.size : Int) true = some true := by
  obtain ⟨k, rfl⟩ : ∃ j, k = j + 1 := ⟨k - 1, by omega⟩
  -- the flag
  generalize hT : rtextR (rnumR s 0 w).2.1 (rnumR s 0 w).2.2 = T at hb ⊢
  have f1 : ¬ 1 < (rnumR T.2.1 T.2.2 1).1 ∧ (rnumR T.2.1 T.2.2 1).2.2 = 0 := by
    unfold rflagR at hb
    by_cases c : 1 < (rnumR T.2.1 T.2.2 1).1
    · rw [if_pos c] at hb
      by_cases d : (rnumR T.2.1 T.2.2 1).2.2 = 0
      · simp [d] at hb
      · simp [d] at hb
    · rw [if_neg c] at hb; exact ⟨c, hb⟩
  obtain ⟨t0, _, _, t3, t4⟩ := rnumR_bad f1.2
  have fl : rflagR T.2.1 T.2.2 = ((rnumR T.2.1 T.2.2 1).1 == 1, (rnumR T.2.1 T.2.2 1).2.1, (rnumR T.2.1 T.2.2 1).2.2) := by unfold rflagR; rw [if_neg f1.1]
  have v3 : (rnumR T.2.1 T.2.2 1).1 = rv (T.2.1.extract 0 1) 1 := by rw [t4]; rfl
  have w3 : (rnumR T.2.1 T.2.2 1).2.1 = T.2.1.extract 1 T.2.1.size := by rw [t4]; rfl
  have C3 : flg ((rnumR T.2.1 T.2.2 1).1 == 1) = T.2.1.extract 0 1 := by
    rw [flg_num (rnumR_lo _ _ _) (by have := f1.1; omega), v3]
    exact num_rv (T.2.1.extract 0 1) (w := 1) (by omega) (by omega) (ext_size _ (by omega))
  -- the text
  have hb2 : (takeR (rnumR (rnumR s 0 w).2.1 (rnumR s 0 w).2.2 1).2.1 (rnumR (rnumR s 0 w).2.1 (rnumR s 0 w).2.2 1).2.2 (rnumR (rnumR s 0 w).2.1 (rnumR s 0 w).2.2 1).1).2.2 = 0 := by
    have : T.2.2 = 0 := t0
    rw [← hT] at this; exact this
  generalize hN : rnumR s 0 w = N at hT hb2 ⊢
  obtain ⟨q0, q1, q2⟩ := takeR_bad hb2
  obtain ⟨n0, _, _, n3, n4⟩ := rnumR_bad q0
  rw [n4] at q1 q2
  have hT2 : T = ((N.2.1.extract 1 N.2.1.size).extract 0 (rv (N.2.1.extract 0 1) 1).toNat, (N.2.1.extract 1 N.2.1.size).extract (rv (N.2.1.extract 0 1) 1).toNat (N.2.1.extract 1 N.2.1.size).size, 0) := by
    rw [← hT]; unfold rtextR; rw [n4]; exact q2
  have r0 := rv_lo (N.2.1.extract 0 1) 1
  have r1 : rv (N.2.1.extract 0 1) 1 < 256 := rv_hi (N.2.1.extract 0 1) 1
  have q1' : (rv (N.2.1.extract 0 1) 1).toNat ≤ (N.2.1.extract 1 N.2.1.size).size := by
    have : rv (N.2.1.extract 0 1) 1 ≤ ((N.2.1.extract 1 N.2.1.size).size : Int) := q1
    omega
  have szT : T.1.size = (rv (N.2.1.extract 0 1) 1).toNat := by rw [hT2]; exact ext_size _ q1'
  have C2 : txt T.1 = N.2.1.extract 0 1 ++ T.1 := by
    unfold txt; rw [if_pos (by rw [szT]; omega), szT, Int.toNat_of_nonneg r0]
    rw [show num (rv (N.2.1.extract 0 1) 1) 1 = N.2.1.extract 0 1 from num_rv (N.2.1.extract 0 1) (w := 1) (by omega) (by omega) (ext_size _ (by omega))]
  have J2 : N.2.1.extract 0 1 ++ (T.1 ++ T.2.1) = N.2.1 := by
    rw [hT2, ext_join _ q1']; exact ext_join _ (by omega)
  -- the number
  have b1 : (rnumR s 0 w).2.2 = 0 := by rw [hN]; exact n0
  obtain ⟨_, w0, w1, w2, w4⟩ := rnumR_bad b1
  rw [hN] at w4
  have C1 : num N.1 w = s.extract 0 w.toNat := by
    rw [w4]; exact num_rv _ w0 w1 (ext_size _ (by omega))
  have J1 : s.extract 0 w.toNat ++ N.2.1 = s := by rw [w4]; exact ext_join _ (by omega)
  have J3 : T.2.1.extract 0 1 ++ T.2.1.extract 1 T.2.1.size = T.2.1 := ext_join _ (by omega)
  have whole : (num N.1 w ++ txt T.1 ++ flg ((rnumR T.2.1 T.2.2 1).1 == 1)) ++ T.2.1.extract 1 T.2.1.size = s := by
    rw [C1, C2, C3, app_assoc, J3, app_assoc, app_assoc, J2, J1]
  rw [fl, w3, hourglasslaw04_BytesOnce.j0, if_pos rfl]
  have sT : T.1.size ≤ 140737488351232 := by omega
  simp only [num_s k (by omega), text_s k (by omega) _ sT, flag_s, Option.bind_some]
  generalize hU : num N.1 w ++ txt T.1 ++ flg ((rnumR T.2.1 T.2.2 1).1 == 1) = U at whole ⊢
  generalize hR : T.2.1.extract 1 T.2.1.size = R at whole ⊢
  have us : U.size + R.size = s.size := by rw [← app_size, whole]
  have u1 : (num N.1 w).size + (txt T.1).size + (flg ((rnumR T.2.1 T.2.2 1).1 == 1)).size = U.size := by rw [← hU, app_size, app_size]
  have pre : s.extract 0 U.size = U := by conv => lhs; rw [← whole]
                                          exact extract_left U R
  rw [if_pos (by omega), if_pos (by rw [app_size]; omega), w64 (by omega) (by omega), if_pos (by omega), if_pos (by omega), if_pos (by omega), Int.toNat_natCast, pre, if_pos rfl]
  exact none_s k (by omega) w
theorem BytesOnce : hourglasslaw04_BytesOnce.Pure := by
  intro s w hs hw
  refine ⟨40, ?_⟩
  unfold hourglasslaw04_BytesOnce.f
  by_cases a : (s.size : Int) > 2000
  · rw [if_pos a, awake_s 40 (by decide)]; rfl
  rw [if_neg a]
  simp only [bytes_Open.f, read_any 40 (by decide), readtext_any 40 (by decide), readflag_any 40 (by decide), left_any, end_any, Option.bind_some]
  have no : ∀ n t b l, hourglasslaw04_BytesOnce.j0 40 s w n t b l false = some true := by
    intro n t b l
    rw [hourglasslaw04_BytesOnce.j0, if_neg (by simp)]; exact none_s 39 (by decide) w
  have yes := once_yes 40 (by decide) s w (by omega)
  generalize hF : rflagR (rtextR (rnumR s 0 w).2.1 (rnumR s 0 w).2.2).2.1 (rtextR (rnumR s 0 w).2.1 (rnumR s 0 w).2.2).2.2 = F at yes ⊢
  by_cases b : F.2.2 = 0
  · have y := yes b
    by_cases c : 0 < F.2.1.size
    · have h1 : (if F.2.2 = 0 ∧ 0 < F.2.1.size then ((5 : Int), F.2.1, (5 : Int)) else (F.2.2, F.2.1, F.2.2)) = (5, F.2.1, 5) := if_pos ⟨b, c⟩
      have h2 : (if F.2.2 = 0 then (F.2.1.size : Int) else 0) = F.2.1.size := if_pos b
      rw [h1, h2]
      show (if (5 : Int) = 0 then _ else if (5 : Int) = 5 then _ else _) = some true
      rw [if_neg (by decide), if_pos rfl, decide_eq_true (by omega)]; exact y
    · have h1 : (if F.2.2 = 0 ∧ 0 < F.2.1.size then ((5 : Int), F.2.1, (5 : Int)) else (F.2.2, F.2.1, F.2.2)) = (F.2.2, F.2.1, F.2.2) := if_neg (fun h => c h.2)
      have h2 : (if F.2.2 = 0 then (F.2.1.size : Int) else 0) = F.2.1.size := if_pos b
      rw [h1, h2]
      show (if F.2.2 = 0 then _ else if F.2.2 = 5 then _ else _) = some true
      rw [if_pos b]; exact y
  · have h1 : (if F.2.2 = 0 ∧ 0 < F.2.1.size then ((5 : Int), F.2.1, (5 : Int)) else (F.2.2, F.2.1, F.2.2)) = (F.2.2, F.2.1, F.2.2) := if_neg (fun h => b h.1)
    have h2 : (if F.2.2 = 0 then (F.2.1.size : Int) else 0) = 0 := if_neg b
    rw [h1, h2]
    show (if F.2.2 = 0 then _ else if F.2.2 = 5 then _ else _) = some true
    by_cases d : F.2.2 = 5
    · rw [if_neg b, if_pos d, decide_eq_false (by decide)]; exact no _ _ _ _
    · rw [if_neg b, if_neg d]; exact no _ _ _ _

end Go.Proofs.Ytijohhdgecadnaa.Pure
