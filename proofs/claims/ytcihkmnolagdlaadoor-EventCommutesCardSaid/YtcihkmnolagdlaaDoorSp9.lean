
/- A number's bytes, so many, the highest one first. No condition. -/
import Derived.Test.YtcihkmnolagdlaaDoorSp7
namespace Go.Proofs.YtcihkmnolagdlaaDoor.Sp
open Go Go.Proofs.YtcihkmnolagdlaaDoor.Av
set_option linter.unusedVariables false

def dgs (n : Nat) (k : Nat) : List UInt8 := (List.range k).reverse.map fun i => UInt8.ofNat (n / 256 ^ i)
theorem dgs_succ (n k : Nat) : dgs n (k + 1) = UInt8.ofNat (n / 256 ^ k) :: dgs n k := by
  unfold dgs; rw [List.range_succ, List.reverse_append]; rfl
theorem dgs_len (n k : Nat) : (dgs n k).length = k := by simp [dgs]
def okN (n w : Int) : Bool := decide (1 ≤ w ∧ w ≤ 7 ∧ 0 ≤ n ∧ n < 256 ^ w.toNat)
def strL (l : List UInt8) : ByteArray := ⟨l.toArray⟩
def numB (n w : Int) : ByteArray := if okN n w then strL (dgs n.toNat w.toNat) else strL []
def byteG (b : UInt8) : List G := [.int .u8 b.toNat]
theorem strL_list (l : List UInt8) : (strL l).data.toList = l := rfl
theorem ext_list {a b : ByteArray} (h : a.data.toList = b.data.toList) : a = b := by
  cases a; cases b; simp only [ByteArray.mk.injEq]; exact Array.toList_inj.1 h
theorem app_list (a b : ByteArray) : (a ++ b).data.toList = a.data.toList ++ b.data.toList := by
  rw [ByteArray.data_append, Array.toList_append]
theorem size_list (a : ByteArray) : a.data.toList.length = a.size := by rw [Array.length_toList]; rfl
theorem ext_take (a : ByteArray) (i j : Nat) : (a.extract i j).data.toList = (a.data.toList.take j).drop i := by
  rw [ByteArray.data_extract, Array.toList_extract, List.extract_eq_take_drop, List.drop_take]
theorem strL_app (a b : List UInt8) : strL a ++ strL b = strL (a ++ b) := ext_list (by rw [app_list]; rfl)
theorem strL_size (a : List UInt8) : (strL a).size = a.length := by rw [← size_list]; rfl
theorem strL_eq (a : ByteArray) : strL a.data.toList = a := ext_list rfl
theorem byteAt_strL (l : List UInt8) (i : Nat) : byteAt (strL l) i = ((l.getD i 0).toNat : Int) := rfl
theorem u8_mod (n : Nat) : ((UInt8.ofNat n).toNat : Int) = (n : Int) % 256 := by rw [UInt8.toNat_ofNat']; omega
theorem pow_cast (w : Nat) : ((256 ^ w : Nat) : Int) = 256 ^ w := by
  induction w with
  | zero => rfl
  | succ w ih => rw [Nat.pow_succ, Int.pow_succ, ← ih]; omega
theorem numB_yes {n w : Nat} (h1 : 1 ≤ w) (h2 : w ≤ 7) (h3 : n < 256 ^ w) : numB n w = strL (dgs n w) := by
  unfold numB okN
  rw [if_pos]
  · simp
  · have : (n : Int) < 256 ^ w := by rw [← pow_cast]; omega
    simp only [Int.toNat_natCast, decide_eq_true_eq]
    exact ⟨by omega, by omega, by omega, this⟩
theorem numB_no {n w : Int} (h : ¬ (1 ≤ w ∧ w ≤ 7 ∧ 0 ≤ n ∧ n < 256 ^ w.toNat)) : numB n w = strL [] := by
  unfold numB okN; rw [decide_eq_false h]; rfl
theorem wrap_u8 (n : Nat) : IntKind.u8.wrap (n : Int) = ((UInt8.ofNat n).toNat : Int) := by
  rw [u8_mod]; rfl
/-- What so many bytes come to is the number. -/
theorem numOf_cons (b : UInt8) (l : List UInt8) (p w : Nat) : numOf (strL (b :: l)) (p + 1) w = numOf (strL l) p w := by
  unfold numOf
  congr 1
  funext n i
  unfold num1
  rw [byteAt_strL, byteAt_strL, show p + 1 + i = (p + i) + 1 from by omega]
  rfl
theorem fold_shift (s : ByteArray) (p : Nat) : ∀ (w : Nat) (a : Int), (List.range w).foldl (num1 s p) a = a * 256 ^ w + (List.range w).foldl (num1 s p) 0
  | 0, a => by simp
  | w + 1, a => by
    rw [List.range_succ, List.foldl_append, List.foldl_append, fold_shift s p w a]
    simp only [List.foldl_cons, List.foldl_nil]
    unfold num1
    rw [Int.pow_succ, Int.add_mul, Int.mul_assoc]
    omega
theorem numOf_head (s : ByteArray) (p w : Nat) : numOf s p (w + 1) = byteAt s p * 256 ^ w + numOf s (p + 1) w := by
  have e : ∀ a, (List.range (w + 1)).foldl (num1 s p) a = (List.range w).foldl (num1 s (p + 1)) (num1 s p a 0) := fun a => by
    rw [List.range_succ_eq_map, List.foldl_cons, List.foldl_map]
    congr 1
    funext n i
    unfold num1
    rw [show p + (i + 1) = p + 1 + i from by omega]
  unfold numOf
  rw [e, fold_shift]
  have : num1 s p 0 0 = byteAt s p := by unfold num1; simp
  rw [this]
theorem numOf_dgs (n : Nat) (t : List UInt8) : ∀ (w : Nat), numOf (strL (dgs n w ++ t)) 0 w = ((n % 256 ^ w : Nat) : Int)
  | 0 => by rw [Nat.pow_zero, Nat.mod_one]; rfl
  | w + 1 => by
    rw [numOf_head, dgs_succ, List.cons_append, numOf_cons, numOf_dgs n t w]
    have hb : byteAt (strL (UInt8.ofNat (n / 256 ^ w) :: (dgs n w ++ t))) 0 = ((n / 256 ^ w : Nat) : Int) % 256 := u8_mod _
    rw [hb]
    have : n % 256 ^ (w + 1) = (n / 256 ^ w % 256) * 256 ^ w + n % 256 ^ w := by
      rw [Nat.pow_succ, Nat.mod_mul]; rw [Nat.mul_comm (256 ^ w)]; omega
    rw [this, Int.natCast_add, Int.natCast_mul, pow_cast]
    rfl
/-- A number of so many bytes. -/
theorem dgs_numOf (s : ByteArray) (p : Nat) : ∀ (w : Nat), p + w ≤ s.size → dgs (numOf s p w).toNat w = (s.data.toList.drop p).take w := by
  have key : ∀ (l : List UInt8) (w : Nat), w ≤ l.length → dgs (numOf (strL l) 0 w).toNat w = l.take w := by
    intro l
    induction l with
    | nil => intro w h; have : w = 0 := by simpa using h
             subst this; rfl
    | cons b l ih =>
      intro w h
      cases w with
      | zero => rfl
      | succ w =>
        simp only [List.length_cons] at h
        have hb := numOf_bd (strL l) 0 w
        have hb0 : byteAt (strL (b :: l)) 0 = (b.toNat : Int) := rfl
        rw [numOf_head, numOf_cons, dgs_succ, List.take_succ_cons, hb0]
        obtain ⟨m, hm⟩ := Int.eq_ofNat_of_zero_le hb.1
        have hlt : m < 256 ^ w := by have := hb.2; rw [hm, ← pow_cast] at this; omega
        rw [← ih w (by omega), hm]
        have e : ((b.toNat : Int) * 256 ^ w + (m : Int)).toNat = b.toNat * 256 ^ w + m := by
          have : ((b.toNat : Int) * 256 ^ w + (m : Int)) = ((b.toNat * 256 ^ w + m : Nat) : Int) := by rw [Int.natCast_add, Int.natCast_mul, pow_cast]
          rw [this]; rfl
        rw [e, Int.toNat_natCast]
        have hp : 0 < 256 ^ w := Nat.pow_pos (by omega)
        congr 1
        · rw [Nat.add_comm, Nat.add_mul_div_right _ _ hp, Nat.div_eq_of_lt hlt, Nat.zero_add]
          simp
        · unfold dgs
          apply List.map_congr_left
          intro i hi
          have hi : i < w := by simpa using hi
          have : (b.toNat * 256 ^ w + m) / 256 ^ i = b.toNat * 256 ^ (w - i) + m / 256 ^ i := by
            have hpi : 0 < 256 ^ i := Nat.pow_pos (by omega)
            have e2 : 256 ^ w = 256 ^ (w - i) * 256 ^ i := by rw [← Nat.pow_add]; congr 1; omega
            rw [e2, ← Nat.mul_assoc, Nat.add_comm, Nat.add_mul_div_right _ _ hpi, Nat.add_comm]
          rw [this]
          apply UInt8.toNat_inj.1
          rw [UInt8.toNat_ofNat', UInt8.toNat_ofNat']
          have e3 : 256 ^ (w - i) = 256 ^ (w - i - 1) * 256 := by rw [← Nat.pow_succ]; congr 1; omega
          rw [e3, ← Nat.mul_assoc, Nat.add_comm, Nat.add_mul_mod_self_right]
  intro w h
  have e : numOf s p w = numOf (strL (s.data.toList.drop p)) 0 w := by
    unfold numOf
    congr 1
    funext n i
    unfold num1 byteAt
    congr 2
    show _ = ((s.data.toList.drop p).getD (0 + i) 0).toNat
    rw [List.getD_eq_getElem?_getD, List.getD_eq_getElem?_getD, List.getElem?_drop, Nat.zero_add]
  rw [e]
  exact key _ w (by rw [List.length_drop, size_list]; omega)
end Go.Proofs.YtcihkmnolagdlaaDoor.Sp
