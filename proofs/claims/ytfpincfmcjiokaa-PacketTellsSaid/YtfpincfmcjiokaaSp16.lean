/- A sum of 16 bits, bit by bit and by a row of 16. No condition. -/
import Derived.Test.YtfpincfmcjiokaaSp9
namespace Go.Proofs.Ytfpincfmcjiokaa.Sp
open Go Go.Proofs.Ytfpincfmcjiokaa.Av

abbrev W16 := BitVec 16
/-- One bit. -/
def bit1 (c : W16) (b : Bool) : W16 := (c <<< 1) ^^^ (if c.msb != b then 0x1021#16 else 0#16)
/-- Four bits, the highest first. -/
def bit4 (c : W16) (h : BitVec 4) : W16 := bit1 (bit1 (bit1 (bit1 c (h.getLsbD 3)) (h.getLsbD 2)) (h.getLsbD 1)) (h.getLsbD 0)
def row16 (a : BitVec 4) : W16 := bit4 (a.setWidth 16 <<< 12) 0#4
theorem xlc (x y z : W16) : x ^^^ (y ^^^ z) = y ^^^ (x ^^^ z) := by rw [← BitVec.xor_assoc, BitVec.xor_comm x y, BitVec.xor_assoc]
theorem xx (x z : W16) : x ^^^ (x ^^^ z) = z := by rw [← BitVec.xor_assoc, BitVec.xor_self, BitVec.zero_xor]
theorem xor4 (u v x y : W16) : (u ^^^ v) ^^^ (x ^^^ y) = (u ^^^ x) ^^^ (v ^^^ y) := by rw [BitVec.xor_assoc, BitVec.xor_assoc, xlc v x y]
theorem bit1_xor (c d : W16) (a b : Bool) : bit1 (c ^^^ d) (a != b) = bit1 c a ^^^ bit1 d b := by
  unfold bit1
  rw [BitVec.msb_xor, BitVec.shiftLeft_xor_distrib, xor4]
  congr 1
  generalize c.msb = x
  generalize d.msb = y
  cases x <;> cases y <;> cases a <;> cases b <;> decide
theorem bit4_xor (c d : W16) (g h : BitVec 4) : bit4 (c ^^^ d) (g ^^^ h) = bit4 c g ^^^ bit4 d h := by
  unfold bit4
  simp only [BitVec.getLsbD_xor]
  show bit1 (bit1 (bit1 (bit1 (c ^^^ d) (_ != _)) (_ != _)) (_ != _)) (_ != _) = _
  rw [bit1_xor, bit1_xor, bit1_xor, bit1_xor]
theorem bit4_low (c : W16) (h : c.toNat < 4096) : bit4 c 0#4 = c <<< 4 := by
  have key : ∀ k : Nat, k < 15 → c.toNat < 2 ^ (15 - k) → (c <<< k).msb = false := fun k hk hc => by
    rw [BitVec.msb_eq_decide, decide_eq_false_iff_not, BitVec.toNat_shiftLeft, Nat.shiftLeft_eq]
    have hp : 2 ^ (15 - k) * 2 ^ k = 2 ^ 15 := by rw [← Nat.pow_add]; congr 1; omega
    have hm : c.toNat * 2 ^ k < 2 ^ (15 - k) * 2 ^ k := Nat.mul_lt_mul_of_pos_right hc (Nat.two_pow_pos k)
    rw [hp] at hm
    rw [Nat.mod_eq_of_lt (by omega)]
    show ¬ 2 ^ 15 ≤ _
    omega
  have s0 : c.msb = false := by have := key 0 (by omega) (by omega); simpa using this
  have s1 := key 1 (by omega) (by omega)
  have s2 := key 2 (by omega) (by omega)
  have s3 := key 3 (by omega) (by omega)
  have z : ∀ i, (0#4).getLsbD i = false := fun i => by simp
  have one : ∀ d : W16, d.msb = false → bit1 d false = d <<< 1 := fun d hd => by unfold bit1; rw [hd]; simp
  have add1 : ∀ k : Nat, ((c <<< k : W16) <<< (1 : Nat) : W16) = (c <<< (k + 1) : W16) := fun k => (BitVec.shiftLeft_add c k 1).symm
  unfold bit4
  rw [z, z, z, z, one c s0, one _ s1, add1, one _ s2, add1, one _ s3, add1]
theorem bit4_row : ∀ a h : BitVec 4, bit4 (a.setWidth 16 <<< 12) h = row16 (a ^^^ h) := by decide +kernel
/-- Four bits by the row. -/
theorem bit4_eq (c : W16) (h : BitVec 4) : bit4 c h = (c <<< 4) ^^^ row16 ((c >>> 12).setWidth 4 ^^^ h) := by
  have e : c = (c &&& 0x0FFF#16) ^^^ (((c >>> 12).setWidth 4).setWidth 16 <<< 12) := by
    apply BitVec.eq_of_getLsbD_eq
    intro i hi
    simp only [BitVec.getLsbD_xor, BitVec.getLsbD_and, BitVec.getLsbD_shiftLeft, BitVec.getLsbD_setWidth, BitVec.getLsbD_ushiftRight]
    have hm : ∀ i, i < 16 → (0x0FFF#16).getLsbD i = decide (i < 12) := by decide
    rw [hm i hi]
    by_cases h12 : i < 12
    · simp [h12]
    · have : 12 + (i - 12) = i := by omega
      have h4 : i - 12 < 4 := by omega
      have h5 : i - 12 < 16 := by omega
      simp [h12, this, hi, h4, h5]
  have el : (c &&& 0x0FFF#16).toNat < 4096 := by
    rw [BitVec.toNat_and]
    exact Nat.lt_of_le_of_lt Nat.and_le_right (by decide)
  have e4 : c <<< 4 = (c &&& 0x0FFF#16) <<< 4 := by
    apply BitVec.eq_of_getLsbD_eq
    intro i hi
    have hm : ∀ i, i < 16 → (0x0FFF#16).getLsbD i = decide (i < 12) := by decide
    simp only [BitVec.getLsbD_and, BitVec.getLsbD_shiftLeft]
    by_cases h4 : i < 4
    · simp [h4]
    · rw [hm (i - 4) (by omega)]
      have : i - 4 < 12 := by omega
      simp [this]
  have hx : bit4 ((c &&& 0x0FFF#16) ^^^ (((c >>> 12).setWidth 4).setWidth 16 <<< 12)) (0#4 ^^^ h) = _ := bit4_xor _ _ 0#4 h
  rw [← e, BitVec.zero_xor, bit4_low _ el, bit4_row, ← e4] at hx
  exact hx
/-- A byte, bit by bit, and by the row. -/
def byteB (c : W16) (x : BitVec 8) : W16 := bit4 (bit4 c ((x >>> 4).setWidth 4)) (x.setWidth 4)
def half (d : W16) : W16 := (d <<< 4) ^^^ row16 ((d >>> 12).setWidth 4)
def byteR (c : W16) (x : BitVec 8) : W16 := half (half (c ^^^ (x.setWidth 16 <<< 8)))
theorem byte_eq (c : W16) (x : BitVec 8) : byteB c x = byteR c x := by
  have e1 : ((c ^^^ (x.setWidth 16 <<< 8)) >>> 12).setWidth 4 = (c >>> 12).setWidth 4 ^^^ (x >>> 4).setWidth 4 := by
    apply BitVec.eq_of_getLsbD_eq
    intro i hi
    have h1 : ¬ 12 + i < 8 := by omega
    have h2 : 12 + i - 8 = 4 + i := by omega
    have h3 : 12 + i < 16 := by omega
    have h4 : 4 + i < 16 := by omega
    simp only [BitVec.getLsbD_xor, BitVec.getLsbD_shiftLeft, BitVec.getLsbD_setWidth, BitVec.getLsbD_ushiftRight, h1, h2, h3, h4, hi]
    simp
  have e2 : (c ^^^ (x.setWidth 16 <<< 8)) <<< 4 = (c <<< 4) ^^^ ((x.setWidth 4).setWidth 16 <<< 12) := by
    apply BitVec.eq_of_getLsbD_eq
    intro i hi
    simp only [BitVec.getLsbD_xor, BitVec.getLsbD_shiftLeft, BitVec.getLsbD_setWidth, hi]
    by_cases h4 : i < 4
    · have : i < 12 := by omega
      simp [h4, this]
    · by_cases h12 : i < 12
      · have h8 : i - 4 < 8 := by omega
        simp [h4, h12, h8]
      · have h8 : ¬ i - 4 < 8 := by omega
        have h9 : i - 4 - 8 = i - 12 := by omega
        have h10 : i - 12 < 4 := by omega
        have h11 : i - 4 < 16 := by omega
        have h13 : i - 12 < 16 := by omega
        simp [h4, h12, h8, h9, h10, h11, h13]
  have e3 : ∀ (d : W16) (l : BitVec 4), (d ^^^ (l.setWidth 16 <<< 12)) <<< 4 = d <<< 4 := fun d l => by
    apply BitVec.eq_of_getLsbD_eq
    intro i hi
    simp only [BitVec.getLsbD_xor, BitVec.getLsbD_shiftLeft, BitVec.getLsbD_setWidth, hi]
    have h12 : i - 4 < 12 := by omega
    simp [h12]
  have e4 : ∀ (d : W16) (l : BitVec 4), ((d ^^^ (l.setWidth 16 <<< 12)) >>> 12).setWidth 4 ^^^ l = (d >>> 12).setWidth 4 := fun d l => by
    apply BitVec.eq_of_getLsbD_eq
    intro i hi
    have h1 : ¬ 12 + i < 12 := by omega
    have h2 : 12 + i - 12 = i := by omega
    have h3 : 12 + i < 16 := by omega
    have h4 : i < 16 := by omega
    simp only [BitVec.getLsbD_xor, BitVec.getLsbD_shiftLeft, BitVec.getLsbD_setWidth, BitVec.getLsbD_ushiftRight, h1, h2, h3, h4, hi]
    simp [hi]
  unfold byteB byteR
  have h1 : bit4 c ((x >>> 4).setWidth 4) = half (c ^^^ (x.setWidth 16 <<< 8)) ^^^ ((x.setWidth 4).setWidth 16 <<< 12) := by
    rw [bit4_eq]
    unfold half
    rw [e1, e2, BitVec.xor_assoc, BitVec.xor_assoc]
    congr 1
    exact ((congrArg _ (BitVec.xor_comm _ _)).trans (xx _ _)).symm
  rw [h1, bit4_eq, e3, e4]
  rfl
end Go.Proofs.Ytfpincfmcjiokaa.Sp
