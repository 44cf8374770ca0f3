
/- A reader of bytes: what it answers. No condition. -/
import Derived.Test.YtcihkmnolagdlaaDoorSp1
namespace Go.Proofs.YtcihkmnolagdlaaDoor.Sp
open Go Go.Proofs.YtcihkmnolagdlaaDoor.Av
set_option linter.unusedVariables false

structure Rd where
  S : ByteArray
  at' : Nat
  bad : Int
def Rd.p (r : Rd) : ByteArray := r.S.extract r.at' r.S.size
def Rd.gp (r : Rd) : List G := [.str r.p, .int .i64 r.bad]
def Rd.gr (r : Rd) : List G := [.str r.S, .int .i64 r.at', .int .i64 r.bad]
def Rd.ok (r : Rd) : Prop := r.at' ≤ r.S.size
def num1 (s : ByteArray) (p : Nat) (n : Int) (i : Nat) : Int := n * 256 + byteAt s (p + i)
def numOf (s : ByteArray) (p w : Nat) : Int := (List.range w).foldl (num1 s p) 0
def rFail (r : Rd) (e : Int) : Rd := { r with bad := if r.bad = 0 then e else r.bad }
def rLeft (r : Rd) : Int := if r.bad = 0 then (r.S.size : Int) - r.at' else 0
def rEnd (r : Rd) : Rd := { r with bad := if rLeft r > 0 then 5 else r.bad }
def rNum (r : Rd) (w : Int) : Rd × Int :=
  if w < 1 ∨ 7 < w then (rFail r 2, 0)
  else if r.bad ≠ 0 then (r, 0)
  else if w > (r.S.size : Int) - r.at' then ({ r with bad := 3 }, 0)
  else ({ r with at' := r.at' + w.toNat }, numOf r.S r.at' w.toNat)
def rTake (r : Rd) (n : Int) : Rd × ByteArray :=
  if r.bad ≠ 0 then (r, ⟨#[]⟩)
  else if n > (r.S.size : Int) - r.at' then ({ r with bad := 3 }, ⟨#[]⟩)
  else ({ r with at' := r.at' + n.toNat }, r.S.extract r.at' (r.at' + n.toNat))
def rText (r : Rd) : Rd × ByteArray := rTake (rNum r 1).1 (rNum r 1).2
def rFlag (r : Rd) : Rd × Bool := ({ (rNum r 1).1 with bad := if (rNum r 1).1.bad = 0 ∧ (rNum r 1).2 > 1 then 5 else (rNum r 1).1.bad }, (rNum r 1).2 == 1)
theorem Rd.p_size (r : Rd) (h : r.ok) : (r.p.size : Int) = (r.S.size : Int) - r.at' := by
  unfold Rd.p; rw [ByteArray.size_extract]; have : r.at' ≤ r.S.size := h; omega
theorem rNum_ok (r : Rd) (w : Int) (h : r.ok) : (rNum r w).1.ok := by
  have h : r.at' ≤ r.S.size := h
  unfold rNum
  (repeat' split) <;> first | exact h | (show r.at' + w.toNat ≤ r.S.size; omega)
theorem rTake_ok (r : Rd) (w : Int) (h : r.ok) : (rTake r w).1.ok := by
  have h : r.at' ≤ r.S.size := h
  unfold rTake
  (repeat' split) <;> first | exact h | (show r.at' + w.toNat ≤ r.S.size; omega)
theorem byteAt_bd (s : ByteArray) (i : Nat) : 0 ≤ byteAt s i ∧ byteAt s i < 256 := by
  unfold byteAt
  have := (s.data.toList.getD i 0).toNat_lt
  omega
theorem numOf_bd (s : ByteArray) (p w : Nat) : 0 ≤ numOf s p w ∧ numOf s p w < 256 ^ w := by
  unfold numOf
  induction w with
  | zero => simp
  | succ w ih =>
    rw [List.range_succ, List.foldl_append]
    simp only [List.foldl_cons, List.foldl_nil]
    unfold num1 at *
    have := byteAt_bd s (p + w)
    rw [Int.pow_succ]
    omega
theorem numOf_succ (s : ByteArray) (p w : Nat) : numOf s p (w + 1) = numOf s p w * 256 + byteAt s (p + w) := by
  unfold numOf; rw [List.range_succ, List.foldl_append]; rfl
theorem byteAt_cut (s : ByteArray) (a n i : Nat) (h : i < n) (hn : a + n ≤ s.size) : byteAt (s.extract a (a + n)) i = byteAt s (a + i) := by
  unfold byteAt
  congr 2
  rw [List.getD_eq_getElem?_getD, List.getD_eq_getElem?_getD]
  congr 1
  have e : (s.extract a (a + n)).data.toList = (s.data.toList.drop a).take n := by
    rw [ByteArray.data_extract, Array.toList_extract]
    simp
  rw [e, List.getElem?_take_of_lt h, List.getElem?_drop]
theorem numOf_cut (s : ByteArray) (a n : Nat) (hn : a + n ≤ s.size) : ∀ w, w ≤ n → numOf (s.extract a (a + n)) 0 w = numOf s a w
  | 0, _ => rfl
  | w + 1, h => by rw [numOf_succ, numOf_succ, numOf_cut s a n hn w (by omega), Nat.zero_add, byteAt_cut s a n w (by omega) hn]
theorem p_take (r : Rd) (n : Nat) (h : r.at' + n ≤ r.S.size) : r.p.extract 0 n = r.S.extract r.at' (r.at' + n) := by
  unfold Rd.p; rw [ByteArray.extract_extract]; congr 1; omega
theorem p_drop (r : Rd) (n : Nat) (h : r.at' + n ≤ r.S.size) : r.p.extract n r.p.size = r.S.extract (r.at' + n) r.S.size := by
  have e : r.p.size = r.S.size - r.at' := by unfold Rd.p; rw [ByteArray.size_extract]; omega
  rw [e]
  unfold Rd.p; rw [ByteArray.extract_extract]; congr 1; omega
theorem shl_or (n b : Int) (h : 0 ≤ n ∧ n < 281474976710656) (hb : 0 ≤ b ∧ b < 256) : ((BitVec.ofInt 64 (n * 256) ||| BitVec.ofInt 64 b).toNat : Int) = n * 256 + b := by
  obtain ⟨m, rfl⟩ := Int.eq_ofNat_of_zero_le h.1
  obtain ⟨c, rfl⟩ := Int.eq_ofNat_of_zero_le hb.1
  have e1 : BitVec.ofInt 64 ((m : Int) * 256) = BitVec.ofNat 64 (m <<< 8) := by
    rw [Nat.shiftLeft_eq]; simp [← BitVec.ofInt_natCast]
  have e2 : BitVec.ofInt 64 (c : Int) = BitVec.ofNat 64 c := by simp
  rw [e1, e2, BitVec.toNat_or, BitVec.toNat_ofNat, BitVec.toNat_ofNat, Nat.mod_eq_of_lt (by rw [Nat.shiftLeft_eq]; omega), Nat.mod_eq_of_lt (by omega), ← Nat.shiftLeft_add_eq_or_of_lt (by omega), Nat.shiftLeft_eq]
  omega
end Go.Proofs.YtcihkmnolagdlaaDoor.Sp
