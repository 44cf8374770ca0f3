
/- Bytes with their sum behind: they open, and a changed byte is found. No condition. -/
import Derived.Test.YtfpincfmcjiokaaSp16
namespace Go.Proofs.Ytfpincfmcjiokaa.Sp
open Go Go.Proofs.Ytfpincfmcjiokaa.Av
set_option linter.unusedVariables false

def crcM (c : W16) (l : List UInt8) : W16 := l.foldl (fun c b => byteR c b.toBitVec) c
def sumW (s : ByteArray) : W16 := crcM 0xFFFF#16 s.data.toList
def sealB (s : ByteArray) : ByteArray := s ++ strL [UInt8.ofNat ((sumW s).toNat / 256), UInt8.ofNat (sumW s).toNat]
def openB (s : ByteArray) : ByteArray × Bool := if s.size < 2 ∨ sumW s ≠ 0#16 then (⟨#[]⟩, false) else (s.extract 0 (s.size - 2), true)
theorem crcM_app (c : W16) (l m : List UInt8) : crcM c (l ++ m) = crcM (crcM c l) m := by unfold crcM; rw [List.foldl_append]

theorem bit1_inj0 (e : W16) (h : bit1 e false = 0#16) : e = 0#16 := by
  unfold bit1 at h
  cases hm : e.msb with
  | true =>
    rw [hm] at h
    have h0 := congrArg (fun v : W16 => v.getLsbD 0) h
    simp at h0
  | false =>
    rw [hm] at h
    simp only [bne_self_eq_false, Bool.false_eq_true, if_false, BitVec.xor_zero] at h
    apply BitVec.eq_of_getLsbD_eq
    intro i hi
    by_cases h15 : i = 15
    · subst h15
      rw [BitVec.msb_eq_getLsbD_last] at hm
      simpa using hm
    · have := congrArg (fun v : W16 => v.getLsbD (i + 1)) h
      simp only [BitVec.getLsbD_shiftLeft, BitVec.getLsbD_zero] at this
      have h16 : i + 1 < 16 := by omega
      simpa [h16] using this
theorem xor_eq0 {u v : W16} (h : u ^^^ v = 0#16) : u = v := by
  have : u ^^^ v ^^^ v = 0#16 ^^^ v := by rw [h]
  rw [BitVec.xor_assoc, BitVec.xor_self, BitVec.xor_zero, BitVec.zero_xor] at this
  exact this
theorem bit1_inj (c d : W16) (b : Bool) (h : bit1 c b = bit1 d b) : c = d := by
  apply xor_eq0
  apply bit1_inj0
  have e := bit1_xor c d b b
  rw [bne_self_eq_false, h, BitVec.xor_self] at e
  exact e
theorem bit4_inj (c d : W16) (x : BitVec 4) (h : bit4 c x = bit4 d x) : c = d := by
  unfold bit4 at h
  exact bit1_inj _ _ _ (bit1_inj _ _ _ (bit1_inj _ _ _ (bit1_inj _ _ _ h)))
theorem byteB_inj (c d : W16) (x : BitVec 8) (h : byteB c x = byteB d x) : c = d := by
  unfold byteB at h
  exact bit4_inj _ _ _ (bit4_inj _ _ _ h)
theorem byteB_xor (c d : W16) (x y : BitVec 8) : byteB (c ^^^ d) (x ^^^ y) = byteB c x ^^^ byteB d y := by
  unfold byteB
  rw [← bit4_xor, ← bit4_xor]
  congr 1
  · congr 1
    apply BitVec.eq_of_getLsbD_eq
    intro i hi
    simp [hi, BitVec.getLsbD_ushiftRight]
  · apply BitVec.eq_of_getLsbD_eq
    intro i hi
    simp [hi]
theorem byteB_zero : ∀ z : BitVec 8, byteB 0#16 z = 0#16 → z = 0#8 := by decide +kernel
theorem byteB_ne (c : W16) (x y : BitVec 8) (h : byteB c x = byteB c y) : x = y := by
  have e := byteB_xor c c x y
  rw [h, BitVec.xor_self, BitVec.xor_self] at e
  have z := byteB_zero _ e
  have : x ^^^ y ^^^ y = 0#8 ^^^ y := by rw [z]
  rw [BitVec.xor_assoc, BitVec.xor_self, BitVec.xor_zero, BitVec.zero_xor] at this
  exact this
theorem crcM_inj (l : List UInt8) : ∀ c d, crcM c l = crcM d l → c = d := by
  induction l with
  | nil => intro c d h; exact h
  | cons b l ih =>
    intro c d h
    have h2 := ih _ _ (show crcM (byteR c b.toBitVec) l = crcM (byteR d b.toBitVec) l from h)
    rw [← byte_eq, ← byte_eq] at h2
    exact byteB_inj _ _ _ h2
/-- A changed byte changes the sum. -/
theorem crcM_set (x : UInt8) (hx : x ≠ 0) : ∀ (l : List UInt8) (c : W16) (i : Nat) (hi : i < l.length), crcM c (l.set i (l[i] ^^^ x)) ≠ crcM c l := by
  intro l
  induction l with
  | nil => intro c i hi; simp at hi
  | cons b l ih =>
    intro c i hi h
    cases i with
    | zero =>
      have h2 := crcM_inj l _ _ (show crcM (byteR c (b ^^^ x).toBitVec) l = crcM (byteR c b.toBitVec) l from h)
      rw [← byte_eq, ← byte_eq] at h2
      have h3 := byteB_ne _ _ _ h2
      rw [UInt8.toBitVec_xor] at h3
      apply hx
      have h4 : b.toBitVec ^^^ (b.toBitVec ^^^ x.toBitVec) = b.toBitVec ^^^ b.toBitVec := by rw [h3]
      rw [← BitVec.xor_assoc, BitVec.xor_self, BitVec.zero_xor] at h4
      exact UInt8.toBitVec_inj.1 h4
    | succ i => exact ih (byteR c b.toBitVec) i (by simpa using hi) h
theorem half_low (d : W16) (h : d.toNat < 4096) : half d = d <<< 4 := by
  have e : (d >>> 12).setWidth 4 = 0#4 := by
    apply BitVec.eq_of_toNat_eq
    rw [BitVec.toNat_setWidth, BitVec.toNat_ushiftRight, Nat.shiftRight_eq_div_pow, Nat.div_eq_of_lt h]; rfl
  unfold half
  rw [e, show row16 0#4 = 0#16 from by decide, BitVec.xor_zero]
theorem sum_seal (s : ByteArray) : sumW (sealB s) = 0#16 := by
  unfold sumW sealB
  rw [app_list, crcM_app]
  have hS : crcM 0xFFFF#16 s.data.toList = sumW s := rfl
  rw [hS]
  generalize sumW s = c
  show byteR (byteR c (UInt8.ofNat (c.toNat / 256)).toBitVec) (UInt8.ofNat c.toNat).toBitVec = 0#16
  have hc := c.isLt
  have hi : (UInt8.ofNat (c.toNat / 256)).toBitVec = (c >>> 8).setWidth 8 := by
    apply BitVec.eq_of_toNat_eq
    rw [BitVec.toNat_setWidth, BitVec.toNat_ushiftRight, Nat.shiftRight_eq_div_pow]
    show (UInt8.ofNat (c.toNat / 256)).toNat = _
    rw [UInt8.toNat_ofNat']
  have lo : (UInt8.ofNat c.toNat).toBitVec = c.setWidth 8 := by
    apply BitVec.eq_of_toNat_eq
    rw [BitVec.toNat_setWidth]
    show (UInt8.ofNat c.toNat).toNat = _
    rw [UInt8.toNat_ofNat']
  rw [hi, lo]
  have e1 : c ^^^ (((c >>> 8).setWidth 8).setWidth 16 <<< 8) = (c.setWidth 8).setWidth 16 := by
    apply BitVec.eq_of_getLsbD_eq
    intro i hi
    simp only [BitVec.getLsbD_xor, BitVec.getLsbD_shiftLeft, BitVec.getLsbD_setWidth, BitVec.getLsbD_ushiftRight, hi]
    by_cases h8 : i < 8
    · simp [h8]
    · have h1 : 8 + (i - 8) = i := by omega
      have h2 : i - 8 < 8 := by omega
      have h3 : i - 8 < 16 := by omega
      simp [h8, h1, h2, h3]
  have hd : ((c.setWidth 8).setWidth 16 : W16).toNat < 256 := by
    rw [BitVec.toNat_setWidth, BitVec.toNat_setWidth]; omega
  have hx : byteR c ((c >>> 8).setWidth 8) = (c.setWidth 8).setWidth 16 <<< 8 := by
    unfold byteR
    have h1 := half_low ((c.setWidth 8).setWidth 16) (by omega)
    rw [e1, h1, half_low _ (by rw [BitVec.toNat_shiftLeft, Nat.shiftLeft_eq]; omega)]
    exact (BitVec.shiftLeft_add _ 4 4).symm
  rw [hx]
  unfold byteR
  rw [BitVec.xor_self]
  decide
theorem seal_size (s : ByteArray) : (sealB s).size = s.size + 2 := by unfold sealB; rw [ByteArray.size_append, strL_size]; rfl
theorem open_seal (s : ByteArray) : openB (sealB s) = (s, true) := by
  unfold openB
  rw [if_neg (by rw [sum_seal, seal_size]; simp), seal_size]
  congr 1
  apply ext_list
  rw [ext_take, List.drop_zero]
  unfold sealB
  rw [app_list]
  have : s.size + 2 - 2 = s.data.toList.length := by rw [size_list]; omega
  rw [this, List.take_left]
/-- Bytes, of which one is another one. -/
def changed (s : ByteArray) (i : Nat) (x : UInt8) : ByteArray := strL (s.data.toList.set i (s.data.toList.getD i 0 ^^^ x))
theorem open_changed (s : ByteArray) (i : Nat) (x : UInt8) (hi : i < (sealB s).size) (hx : x ≠ 0) : openB (changed (sealB s) i x) = (⟨#[]⟩, false) := by
  unfold openB
  rw [if_pos]
  right
  intro h
  have hl : i < (sealB s).data.toList.length := by rw [size_list]; exact hi
  have k := crcM_set x hx (sealB s).data.toList 0xFFFF#16 i hl
  apply k
  have e : sumW (sealB s) = 0#16 := sum_seal s
  unfold sumW at e h
  rw [e, ← h]
  unfold changed
  rw [strL_list, List.getD_eq_getElem?_getD, List.getElem?_eq_getElem hl]
  rfl
end Go.Proofs.Ytfpincfmcjiokaa.Sp
