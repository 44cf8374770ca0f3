/- Plain facts on numbers of a fixed width as bytes, and on reading them again. No condition but the named ones. -/
import Derived.Test.YtijohhdgecadnaaTk
import Derived.Laws.BytesArg
import Derived.Laws.BitsLemmas
import Derived.Test.YtijohhdgecadnaaWWords
namespace Go.Proofs.Ytijohhdgecadnaa.By
open Go.RowKit Go.Proofs.Ytijohhdgecadnaa.Tk Go.Proofs.YtijohhdgecadnaaW.PrintWords
set_option linter.unusedVariables false

/-- A number's digits to the base 256, so many, the highest one first. -/
def dg : Int → Nat → List Int
  | _, 0 => []
  | n, w + 1 => dg (n / 256) w ++ [n % 256]
theorem dg_len (w : Nat) : ∀ n, (dg n w).length = w := by
  induction w with
  | zero => intro n; rfl
  | succ w ih => intro n; simp [dg, ih]
theorem dg_bd (w : Nat) : ∀ n, ∀ x ∈ dg n w, 0 ≤ x ∧ x < 256 := by
  induction w with
  | zero => intro n x hx; simp [dg] at hx
  | succ w ih =>
    intro n x hx
    rcases List.mem_append.1 hx with h | h
    · exact ih _ x h
    · rw [List.mem_singleton.1 h]; omega
theorem ext_list {a b : ByteArray} (h : a.data.toList = b.data.toList) : a = b := by
  cases a; cases b; simp only [ByteArray.mk.injEq]; exact Array.toList_inj.1 h
theorem app_list (a b : ByteArray) : (a ++ b).data.toList = a.data.toList ++ b.data.toList := by
  rw [ByteArray.data_append, Array.toList_append]
theorem tl (a : ByteArray) : a.toList = a.data.toList := ByteArray.toList_eq a
theorem size_list (a : ByteArray) : a.data.toList.length = a.size := by rw [Array.length_toList]; rfl
theorem ext_take (a : ByteArray) (i j : Nat) : (a.extract i j).data.toList = (a.data.toList.take j).drop i := by
  rw [ByteArray.data_extract, Array.toList_extract, List.extract_eq_take_drop, List.drop_take]
theorem nums_list (xs : List Int) : (strOfNums xs).data.toList = xs.map (fun n => UInt8.ofNat n.toNat) := rfl
theorem nums_app (a b : List Int) : strOfNums (a ++ b) = strOfNums a ++ strOfNums b := ext_list (by rw [app_list]; simp [nums_list])
theorem nums_size (xs : List Int) : (strOfNums xs).size = xs.length := by rw [← size_list, nums_list, List.length_map]
theorem app_size (a b : ByteArray) : (a ++ b).size = a.size + b.size := by rw [← size_list, app_list, List.length_append, size_list, size_list]
theorem empty_app (a : ByteArray) : (⟨#[]⟩ : ByteArray) ++ a = a := ext_list (by rw [app_list]; rfl)
theorem app_assoc (a b c : ByteArray) : a ++ b ++ c = a ++ (b ++ c) := ext_list (by simp only [app_list, List.append_assoc])
theorem extract_left (a b : ByteArray) : (a ++ b).extract 0 a.size = a := ext_list (by
  rw [ext_take, app_list, List.drop_zero, ← size_list, List.take_left])
theorem extract_right (a b : ByteArray) : (a ++ b).extract a.size (a ++ b).size = b := ext_list (by
  rw [ext_take, List.take_of_length_le (by rw [size_list]; exact Nat.le_refl _), app_list, ← size_list, List.drop_left])
theorem bt_at (s : ByteArray) {i : Nat} (h : i < s.size) : bt s (i : Int) = ((s.data.toList[i]'(by rw [size_list]; exact h)).toNat : Int) := by
  unfold bt; rw [dif_pos (by simpa using h)]; rfl
theorem bt_lo (s : ByteArray) (i : Int) : 0 ≤ bt s i := by unfold bt; split <;> omega
theorem bt_hi (s : ByteArray) (i : Int) : bt s i < 256 := by
  unfold bt; split
  · rename_i h; have := (s[i.toNat]'h).toNat_lt; omega
  · omega
/-- What so many bytes come to as a number. -/
def rv (s : ByteArray) : Nat → Int
  | 0 => 0
  | i + 1 => rv s i * 256 + bt s i
theorem rv_lo (s : ByteArray) (i : Nat) : 0 ≤ rv s i := by
  induction i with
  | zero => exact Int.le_refl _
  | succ i ih => have := bt_lo s i; simp only [rv]; omega
theorem rv_hi (s : ByteArray) (i : Nat) : rv s i < 256 ^ i := by
  induction i with
  | zero => exact (by decide : (0 : Int) < 1)
  | succ i ih => have := bt_hi s i; have e : (256 : Int) ^ (i + 1) = 256 ^ i * 256 := Int.pow_succ _ _; simp only [rv]; omega
theorem pow_le7 {i : Nat} (h : i ≤ 7) : (256 : Int) ^ i ≤ 72057594037927936 := by
  have : i = 0 ∨ i = 1 ∨ i = 2 ∨ i = 3 ∨ i = 4 ∨ i = 5 ∨ i = 6 ∨ i = 7 := by omega
  rcases this with rfl | rfl | rfl | rfl | rfl | rfl | rfl | rfl <;> decide
theorem or_add {x y : Int} (h0 : 0 ≤ x) (h1 : x < 18014398509481984) (y0 : 0 ≤ y) (y1 : y < 256) : Go.bits .or .i64 (x * 256) y = x * 256 + y := by
  have e62 : (2 : Int) ^ 62 = 4611686018427387904 := by decide
  have e8 : (2 : Int) ^ 8 = 256 := by decide
  exact Go.bits_join .i64 62 (by decide) (fun n n0 n1 => by rw [e62] at n1; rw [Go.IntKind.wrap_i64]; omega) 8 _ _ (by omega) (by rw [e8]; omega) (by rw [e62]; omega) y0 (by rw [e8]; omega) (by rw [e62]; omega)

/-- What the digits come to. -/
def vl : List Int → Int → Int
  | [], a => a
  | x :: xs, a => vl xs (a * 256 + x)
theorem vl_app (xs ys : List Int) : ∀ a, vl (xs ++ ys) a = vl ys (vl xs a) := by
  induction xs with
  | nil => intro a; rfl
  | cons x xs ih => intro a; exact ih _
theorem vl_dg (w : Nat) : ∀ n : Int, 0 ≤ n → n < 256 ^ w → vl (dg n w) 0 = n := by
  induction w with
  | zero => intro n h0 h1; simp at h1; show (0 : Int) = n; omega
  | succ w ih =>
    intro n h0 h1
    have e : (256 : Int) ^ (w + 1) = 256 ^ w * 256 := Int.pow_succ _ _
    simp only [dg]; rw [vl_app, ih (n / 256) (by omega) (by omega)]
    show n / 256 * 256 + n % 256 = n; omega
def nl (s : ByteArray) : List Int := s.data.toList.map (fun b => (b.toNat : Int))
theorem nl_len (s : ByteArray) : (nl s).length = s.size := by unfold nl; rw [List.length_map, size_list]
theorem nl_bt (s : ByteArray) {i : Nat} (h : i < s.size) : (nl s)[i]? = some (bt s (i : Int)) := by
  rw [bt_at s h]; unfold nl; rw [List.getElem?_map, List.getElem?_eq_getElem (by rw [size_list]; exact h)]; rfl
theorem rv_vl (s : ByteArray) (i : Nat) (h : i ≤ s.size) : rv s i = vl ((nl s).take i) 0 := by
  induction i with
  | zero => rfl
  | succ i ih =>
    have hi : i < s.size := by omega
    have e : (nl s).take (i + 1) = (nl s).take i ++ [bt s (i : Int)] := by
      rw [List.take_add_one, nl_bt s hi]; rfl
    rw [e, vl_app, ← ih (by omega)]; rfl
theorem nl_nums {xs : List Int} (h : ∀ x ∈ xs, 0 ≤ x ∧ x < 256) : nl (strOfNums xs) = xs := by
  unfold nl; rw [nums_list, List.map_map]
  have : ∀ x ∈ xs, ((fun b : UInt8 => (b.toNat : Int)) ∘ fun n : Int => UInt8.ofNat n.toNat) x = x := by
    intro x hx
    have hb := h x hx
    simp only [Function.comp, UInt8.toNat_ofNat']
    omega
  rw [List.map_congr_left this]; simp
theorem nums_nl (s : ByteArray) : strOfNums (nl s) = s := ext_list (by
  rw [nums_list]; unfold nl; rw [List.map_map]
  have : ∀ b ∈ s.data.toList, ((fun n : Int => UInt8.ofNat n.toNat) ∘ fun b : UInt8 => (b.toNat : Int)) b = b := by
    intro b _; simp
  rw [List.map_congr_left this]; simp)
theorem rv_nums (n : Int) (w : Nat) (h0 : 0 ≤ n) (h1 : n < 256 ^ w) : rv (strOfNums (dg n w)) w = n := by
  rw [rv_vl _ _ (by rw [nums_size, dg_len]; exact Nat.le_refl _), nl_nums (dg_bd w n), List.take_of_length_le (by rw [dg_len]; exact Nat.le_refl _), vl_dg w n h0 h1]
theorem dg_rv (s : ByteArray) (i : Nat) (h : i ≤ s.size) : dg (rv s i) i = (nl s).take i := by
  induction i with
  | zero => rfl
  | succ i ih =>
    have hi : i < s.size := by omega
    have b0 := bt_lo s i; have b1 := bt_hi s i
    rw [List.take_add_one, nl_bt s hi]
    simp only [dg, rv]
    rw [show (rv s i * 256 + bt s i) / 256 = rv s i from by omega, show (rv s i * 256 + bt s i) % 256 = bt s i from by omega, ih (by omega)]; rfl
/-- A number's bytes, so many; none, if it has not so few. -/
def num (n w : Int) : ByteArray := if 1 ≤ w ∧ w ≤ 7 ∧ 0 ≤ n ∧ n < 256 ^ w.toNat then strOfNums (dg n w.toNat) else ⟨#[]⟩
theorem num_size {n w : Int} (h : 1 ≤ w ∧ w ≤ 7 ∧ 0 ≤ n ∧ n < 256 ^ w.toNat) : (num n w).size = w.toNat := by
  unfold num; rw [if_pos h, nums_size, dg_len]
theorem num_nil {n w : Int} (h : (num n w).data.toList = []) : num n w = ⟨#[]⟩ := ext_list h
theorem num_some {n w : Int} (h : num n w ≠ ⟨#[]⟩) : 1 ≤ w ∧ w ≤ 7 ∧ 0 ≤ n ∧ n < 256 ^ w.toNat := by
  unfold num at h; split at h
  · assumption
  · exact absurd rfl h
/-- A short text behind its length. -/
def txt (s : ByteArray) : ByteArray := if s.size ≤ 255 then num s.size 1 ++ s else ⟨#[]⟩
def flg (b : Bool) : ByteArray := if b = true then ⟨#[1]⟩ else ⟨#[0]⟩
theorem flg_size (b : Bool) : (flg b).size = 1 := by unfold flg; split <;> rfl
theorem flg_rv (b : Bool) : rv (flg b) 1 = if b = true then 1 else 0 := by cases b <;> decide

/-! ### a reader's deeds, whatever it has -/
def rnumR (s : ByteArray) (bad w : Int) : Int × ByteArray × Int :=
  if bad = 0 then (if w < 1 ∨ 7 < w then (0, s, 2) else if (s.size : Int) < w then (0, s, 3) else (rv (s.extract 0 w.toNat) w.toNat, s.extract w.toNat s.size, 0)) else (0, s, bad)
def takeR (s : ByteArray) (bad n : Int) : ByteArray × ByteArray × Int :=
  if bad = 0 then (if (s.size : Int) < n then (⟨#[]⟩, s, 3) else (s.extract 0 n.toNat, s.extract n.toNat s.size, 0)) else (⟨#[]⟩, s, bad)
def rtextR (s : ByteArray) (bad : Int) : ByteArray × ByteArray × Int := takeR (rnumR s bad 1).2.1 (rnumR s bad 1).2.2 (rnumR s bad 1).1
def rflagR (s : ByteArray) (bad : Int) : Bool × ByteArray × Int :=
  if 1 < (rnumR s bad 1).1 then (false, (rnumR s bad 1).2.1, if (rnumR s bad 1).2.2 = 0 then 5 else (rnumR s bad 1).2.2) else ((rnumR s bad 1).1 == 1, (rnumR s bad 1).2.1, (rnumR s bad 1).2.2)
theorem ext_size (s : ByteArray) {n : Nat} (h : n ≤ s.size) : (s.extract 0 n).size = n := by
  rw [← size_list, ext_take, List.drop_zero, List.length_take, size_list]; omega
theorem ext_rest (s : ByteArray) {n : Nat} (h : n ≤ s.size) : (s.extract n s.size).size = s.size - n := by
  rw [← size_list, ext_take, List.length_drop, List.length_take, size_list]; omega
theorem ext_join (s : ByteArray) {n : Nat} (h : n ≤ s.size) : s.extract 0 n ++ s.extract n s.size = s := ext_list (by
  rw [app_list, ext_take, ext_take, List.drop_zero, List.take_of_length_le (i := s.size) (by rw [size_list]; exact Nat.le_refl _), List.take_append_drop])
theorem rnumR_lo (s : ByteArray) (bad w : Int) : 0 ≤ (rnumR s bad w).1 := by
  unfold rnumR; (repeat' split) <;> first | exact rv_lo _ _ | exact Int.le_refl _
theorem rnumR_one (s : ByteArray) (bad : Int) : (rnumR s bad 1).1 < 256 := by
  unfold rnumR; (repeat' split) <;> first | exact rv_hi _ 1 | exact (by decide : (0 : Int) < 256)
theorem rnumR_bad {s : ByteArray} {bad w : Int} (h : (rnumR s bad w).2.2 = 0) : bad = 0 ∧ 1 ≤ w ∧ w ≤ 7 ∧ w ≤ s.size ∧ rnumR s bad w = (rv (s.extract 0 w.toNat) w.toNat, s.extract w.toNat s.size, 0) := by
  unfold rnumR at h ⊢
  by_cases a : bad = 0
  · rw [if_pos a] at h ⊢
    by_cases b : w < 1 ∨ 7 < w
    · rw [if_pos b] at h; exact absurd (show (2 : Int) = 0 from h) (by decide)
    · rw [if_neg b] at h ⊢
      by_cases c : (s.size : Int) < w
      · rw [if_pos c] at h; exact absurd (show (3 : Int) = 0 from h) (by decide)
      · rw [if_neg c]; exact ⟨a, by omega, by omega, by omega, rfl⟩
  · rw [if_neg a] at h; exact absurd h a
theorem takeR_bad {s : ByteArray} {bad n : Int} (h : (takeR s bad n).2.2 = 0) : bad = 0 ∧ n ≤ s.size ∧ takeR s bad n = (s.extract 0 n.toNat, s.extract n.toNat s.size, 0) := by
  unfold takeR at h ⊢
  by_cases a : bad = 0
  · rw [if_pos a] at h ⊢
    by_cases c : (s.size : Int) < n
    · rw [if_pos c] at h; exact absurd (show (3 : Int) = 0 from h) (by decide)
    · rw [if_neg c]; exact ⟨a, by omega, rfl⟩
  · rw [if_neg a] at h; exact absurd h a
/-- What was read as a number is told as the bytes that it was. -/
theorem num_rv (A : ByteArray) {w : Int} (h0 : 1 ≤ w) (h1 : w ≤ 7) (hA : A.size = w.toNat) : num (rv A w.toNat) w = A := by
  unfold num; rw [if_pos ⟨h0, h1, rv_lo _ _, rv_hi _ _⟩, dg_rv A w.toNat (by omega), List.take_of_length_le (by rw [nl_len]; omega), nums_nl]
theorem flg_num {n : Int} (h0 : 0 ≤ n) (h1 : n ≤ 1) : flg (n == 1) = num n 1 := by
  have : n = 0 ∨ n = 1 := by omega
  rcases this with rfl | rfl
  · exact ext_list (by decide)
  · exact ext_list (by decide)
end Go.Proofs.Ytijohhdgecadnaa.By
