
/- One text out of Cn70, Cn71, Cn72, Cn73, Cn74. No condition but theirs. -/
import Derived.Test.YtfpincfmcjiokaaSp1
import Derived.Test.YtfpincfmcjiokaaSp16
import Derived.Test.YtfpincfmcjiokaaProg
import Derived.KernelRfl
import Derived.Test.YtfpincfmcjiokaaAv16
import Derived.Test.YtfpincfmcjiokaaSp17
namespace Go.Proofs.Ytfpincfmcjiokaa.Cn
open Go Go.Proofs Go.Proofs.Ytfpincfmcjiokaa.Av Go.Proofs.Ytfpincfmcjiokaa.Sp
set_option linter.unusedVariables false
set_option linter.unusedSimpArgs false
set_option linter.unusedSectionVars false
set_option maxRecDepth 100000
attribute [local irreducible] Fv Fp

def rowI : List Int := [0, 4129, 8258, 12387, 16516, 20645, 24774, 28903, 33032, 37161, 41290, 45419, 49548, 53677, 57806, 61935]
theorem rowI_eq : ∀ a : BitVec 4, rowI[a.toNat]? = some ((row16 a).toNat : Int) := by decide +kernel
set_option maxHeartbeats 8000000 in
theorem crc_row : Fv Try.prog 64 [] (.agg (rowI.map (G.int .u16))) := by
  refine Fv.of_awp Try.func64 rfl (by kernel_rfl) rfl (Nat.le_of_ble_eq_true rfl) ?_
  repeat' (conv => whnf
           first
           | (refine And.intro (by kernel_rfl) ?_)
           | (refine And.intro ⟨by kernel_rfl, by kernel_rfl⟩ ?_)
           | (refine cond_f ?_ ?_)
           | (refine ⟨_, ⟨by decide, rfl⟩, ?_⟩)
           | (refine cond_i (fun h => ?_) (fun h => ?_)))
  all_goals (conv => whnf)
  refine Has.ofN 17 ?_
  repeat' (conv => whnf
           first
           | (refine And.intro (by kernel_rfl) ?_)
           | (refine And.intro ⟨by kernel_rfl, by kernel_rfl⟩ ?_)
           | (refine ⟨⟨by decide, by decide⟩, ?_⟩)
           | (refine Has.ofN 5 ?_)
           | (refine cond_f ?_ ?_)
           | (refine ⟨_, ⟨by decide, rfl⟩, ?_⟩)
           | (refine cond_i (fun h => ?_) (fun h => ?_)))
  all_goals (conv => whnf)
  all_goals rfl

theorem wrap_u16 (n : Nat) : IntKind.u16.wrap (n : Int) = ((n % 65536 : Nat) : Int) := by
  unfold IntKind.wrap IntKind.bits IntKind.signed
  simp only [Bool.false_and]
  simp
theorem ofInt_u16 (u : W16) : BitVec.ofInt IntKind.u16.bits (u.toNat : Int) = u := by
  show BitVec.ofInt 16 _ = u
  rw [BitVec.ofInt_natCast]; simp
theorem u16_xor (u v : W16) : IntKind.u16.wrap ((BitVec.ofInt IntKind.u16.bits (u.toNat : Int) ^^^ BitVec.ofInt IntKind.u16.bits (v.toNat : Int)).toNat : Nat) = ((u ^^^ v).toNat : Int) := by
  rw [ofInt_u16, ofInt_u16, wrap_u16]
  exact congrArg (fun n : Nat => (n : Int)) (Nat.mod_eq_of_lt (u ^^^ v : W16).isLt)
theorem u16_shl (u : W16) (k : Nat) : IntKind.u16.wrap ((u.toNat : Int) * 2 ^ k) = ((u <<< k).toNat : Int) := by
  rw [show ((u.toNat : Int) * 2 ^ k) = ((u.toNat * 2 ^ k : Nat) : Int) from by push_cast; rfl, wrap_u16, BitVec.toNat_shiftLeft, Nat.shiftLeft_eq]
theorem u16_shr (u : W16) (k : Nat) : ((u.toNat : Int)).fdiv (2 ^ k) = ((u >>> k).toNat : Int) := by
  rw [Int.fdiv_eq_ediv_of_nonneg _ (by exact_mod_cast Nat.zero_le (2 ^ k)), BitVec.toNat_ushiftRight, Nat.shiftRight_eq_div_pow]
  push_cast; rfl

def bat (s : ByteArray) (i : Nat) : W16 := (s.data.toList.getD i 0).toBitVec.setWidth 16
theorem u16_byte (s : ByteArray) (i : Nat) : IntKind.u16.wrap (byteAt s i) = ((bat s i).toNat : Int) := by
  unfold byteAt bat
  rw [wrap_u16, BitVec.toNat_setWidth]; rfl
theorem u16_shl8 (u : W16) : IntKind.u16.wrap ((u.toNat : Int) * 2 ^ min (Int.toNat 8) IntKind.u16.bits) = ((u <<< 8).toNat : Int) := u16_shl u 8
theorem u16_shl4 (u : W16) : IntKind.u16.wrap ((u.toNat : Int) * 2 ^ min (Int.toNat 4) IntKind.u16.bits) = ((u <<< 4).toNat : Int) := u16_shl u 4
theorem u16_shr12 (u : W16) : ((u.toNat : Int)).fdiv (2 ^ min (Int.toNat 12) IntKind.u16.bits) = ((u >>> 12).toNat : Int) := u16_shr u 12
theorem nib_lt (u : W16) : (u >>> 12).toNat < 16 := by
  rw [BitVec.toNat_ushiftRight, Nat.shiftRight_eq_div_pow]; have := u.isLt; omega
theorem nib_f (u : W16) : 0 ≤ ((u >>> 12).toNat : Int) ∧ ((u >>> 12).toNat : Int) < ((16 : Nat) : Int) := ⟨by omega, by have := nib_lt u; omega⟩
theorem cells58 : Try.prog.cellsOf 58 = 1 := by kernel_rfl
theorem nib_b (u : W16) : Nat.ble (0 + (((u >>> 12).toNat : Int)).toNat * Try.prog.cellsOf 58 + 1) 16 = true := by
  rw [cells58]; have := nib_lt u; exact Nat.ble_eq_true_of_le (by omega)
theorem nib_l (u : W16) : rdC Try.prog (.int .u16) 58 (0 + (((u >>> 12).toNat : Int)).toNat * Try.prog.cellsOf 58) (rowI.map (G.int .u16)) = .int .u16 ((row16 ((u >>> 12).setWidth 4)).toNat : Int) := by
  unfold rdC aggD
  rw [cells58]
  have h := rowI_eq ((u >>> 12).setWidth 4)
  have e : ((u >>> 12).setWidth 4).toNat = (u >>> 12).toNat := by rw [BitVec.toNat_setWidth]; exact Nat.mod_eq_of_lt (nib_lt u)
  rw [e] at h
  rw [cond_false, List.getD_eq_getElem?_getD, List.getElem?_map, Int.toNat_natCast, Nat.zero_add, Nat.mul_one, h]; rfl
theorem half_eq (u : W16) : (u <<< 4) ^^^ row16 ((u >>> 12).setWidth 4) = half u := rfl
theorem crcM_step' (c : W16) (s : ByteArray) (k : Nat) (hk : k < s.size) : crcM c (s.data.toList.take (k + 1)) = byteR (crcM c (s.data.toList.take k)) (s.data.toList.getD k 0).toBitVec := by
  have hl : k < s.data.toList.length := by simpa using hk
  rw [List.take_add_one, List.getElem?_eq_getElem hl]
  unfold crcM
  rw [List.foldl_append, List.getD_eq_getElem?_getD, List.getElem?_eq_getElem hl]
  rfl
theorem crcM_step (c : W16) (s : ByteArray) (k : Nat) (hk : k < s.size) : crcM c (s.data.toList.take (k + 1)) = half (half (crcM c (s.data.toList.take k) ^^^ (bat s k <<< 8))) := by
  have hl : k < s.data.toList.length := by simpa using hk
  rw [List.take_add_one, List.getElem?_eq_getElem hl]
  unfold crcM bat
  rw [List.foldl_append, List.getD_eq_getElem?_getD, List.getElem?_eq_getElem hl]
  rfl
theorem crc_More (c : W16) (s : ByteArray) (hs : s.size < 4611686018427387904) : Fv Try.prog 62 [.int .u16 (c.toNat : Int), .str s] (.int .u16 ((crcM c s.data.toList).toNat : Int)) := by
  refine Fv.of_awp Try.func62 rfl (by kernel_rfl) rfl (Nat.le_of_ble_eq_true rfl) ?_
  repeat' (conv => whnf
           first
           | (refine And.intro (by kernel_rfl) ?_)
           | (refine And.intro ⟨by kernel_rfl, by kernel_rfl⟩ ?_)
           | (refine Or.inl ⟨_, crc_row, ?_⟩)
           | (refine ⟨_, crc_row, ?_⟩)
           | (refine cond_f ?_ ?_)
           | (refine ⟨_, ⟨by decide, rfl⟩, ?_⟩)
           | (refine cond_i (fun h => ?_) (fun h => ?_)))
  all_goals (conv => whnf)
  refine Has.each [0, 1, 5, 9, 10] [] s.size (fun k (b : W16) => b = crcM c (s.data.toList.take k)) (fun b i =>
    St.of 36 [(0, .int .u16 (b.toNat : Int)), (1, .str s), (5, .ptr 5 0), (9, .int .i64 (s.size : Int)), (10, .int .i64 i)] [(5, rowI.map (G.int .u16))] []) ⟨c, 0, rfl, rfl, rfl⟩ (fun k b hk hI => ?_) (fun b hI => ?_)
  · have c1 : decide ((k : Int) < (s.size : Int)) = true := decide_eq_true (by omega)
    have f1 : (0 : Int) ≤ (k : Int) ∧ (k : Int) < (s.size : Int) := ⟨by omega, by omega⟩
    have nl : ∀ u : W16, rdC Try.prog (.int .u16) 58 (0 + (((u >>> 12).toNat : Int)).toNat * Try.prog.cellsOf 58) [G.int .u16 0, .int .u16 4129, .int .u16 8258, .int .u16 12387, .int .u16 16516, .int .u16 20645, .int .u16 24774, .int .u16 28903, .int .u16 33032, .int .u16 37161, .int .u16 41290, .int .u16 45419, .int .u16 49548, .int .u16 53677, .int .u16 57806, .int .u16 61935] = .int .u16 ((row16 ((u >>> 12).setWidth 4)).toNat : Int) := nib_l
    refine awp_go ?_
    repeat' (conv => whnf
             first
             | (refine And.intro (by kernel_rfl) ?_)
             | (refine And.intro ⟨by kernel_rfl, by kernel_rfl⟩ ?_)
             | (refine cond_1 c1 ?_)
             | (refine ⟨f1, ?_⟩)
             | (rw [u16_byte])
             | (rw [u16_shl8])
             | (rw [u16_shl4])
             | (rw [u16_xor])
             | (rw [u16_shr12])
             | (rw [half_eq])
             | (refine ⟨nib_f _, ?_⟩)
             | (refine cond_1 (nib_b _) ?_)
             | (rw [nl])
             | (refine cond_f ?_ ?_)
             | (refine ⟨_, ⟨by decide, rfl⟩, ?_⟩)
             | (refine cond_i (fun h => ?_) (fun h => ?_)))
    all_goals (conv => whnf)
    have e1 : IntKind.i64.wrap ((k : Int) + 1) = (k : Int) + 1 := wrap_i64 ⟨by omega, by omega⟩
    refine ⟨_, _, rfl, ?_, e1⟩
    rw [crcM_step c s k hk, hI]; rfl
  · have c1 : decide ((s.size : Int) < (s.size : Int)) = false := decide_eq_false (by omega)
    refine awp_go ?_
    repeat' (conv => whnf
             first
             | (refine And.intro (by kernel_rfl) ?_)
             | (refine And.intro ⟨by kernel_rfl, by kernel_rfl⟩ ?_)
             | (refine cond_0 c1 ?_)
             | (refine cond_f ?_ ?_)
             | (refine ⟨_, ⟨by decide, rfl⟩, ?_⟩)
             | (refine cond_i (fun h => ?_) (fun h => ?_)))
    all_goals (conv => whnf)
    rw [hI, List.take_of_length_le (by simp)]

/-- The first bits of a byte, the highest first. -/
def bitsJ (c : W16) (x : BitVec 8) : Nat → W16
  | 0 => c
  | j + 1 => bit1 (bitsJ c x j) (x.getLsbD (7 - j))
theorem bitsJ_8 (c : W16) (x : BitVec 8) : bitsJ c x 8 = byteR c x := by
  rw [← byte_eq]
  unfold byteB bit4
  simp only [bitsJ, BitVec.getLsbD_setWidth, BitVec.getLsbD_ushiftRight]
  rfl
def b2i (b : Bool) : Int := if b then 1 else 0
theorem b2i_ne (p q : Bool) : (b2i p != b2i q) = (p != q) := by cases p <;> cases q <;> rfl
theorem u16_high (u : W16) : IntKind.u16.wrap (((u.toNat : Int)).tdiv 32768) = b2i u.msb := by
  have h := u.isLt
  rw [show ((u.toNat : Int)).tdiv 32768 = ((u.toNat / 32768 : Nat) : Int) from by rw [Int.tdiv_eq_ediv_of_nonneg (by omega)]; omega, wrap_u16, BitVec.msb_eq_decide]
  unfold b2i
  by_cases hh : 32768 ≤ u.toNat
  · rw [if_pos (by simpa using hh), Nat.mod_eq_of_lt (by omega)]; omega
  · rw [if_neg (by simpa using hh), Nat.mod_eq_of_lt (by omega)]; omega
theorem u16_dbl (u : W16) : IntKind.u16.wrap ((u.toNat : Int) * 2) = ((u <<< 1).toNat : Int) := u16_shl u 1
theorem u16_poly (u : W16) : IntKind.u16.wrap ((BitVec.ofInt IntKind.u16.bits (u.toNat : Int) ^^^ BitVec.ofInt IntKind.u16.bits 4129).toNat : Nat) = ((u ^^^ 0x1021#16).toNat : Int) := u16_xor u 0x1021#16
theorem u64_7 (j : Nat) (hj : j < 8) : IntKind.u64.wrap (7 - (j : Int)) = ((7 - j : Nat) : Int) := by
  rw [show (7 : Int) - (j : Int) = ((7 - j : Nat) : Int) from by omega]
  unfold IntKind.wrap IntKind.bits IntKind.signed
  simp only [Bool.false_and]
  simp; omega
theorem u16_bit (x : BitVec 8) (j : Nat) (hj : j < 8) : ((((x.setWidth 16 : W16).toNat : Int)).fdiv (2 ^ min (IntKind.u64.wrap (7 - (j : Int))).toNat IntKind.u16.bits)).tmod 2 = b2i (x.getLsbD (7 - j)) := by
  have e : (7 : Int) - (j : Int) = ((7 - j : Nat) : Int) := by omega
  have e2 : IntKind.u64.wrap ((7 - j : Nat) : Int) = ((7 - j : Nat) : Int) := by
    unfold IntKind.wrap IntKind.bits IntKind.signed
    simp only [Bool.false_and]
    simp; omega
  rw [e, e2, Int.toNat_natCast, Nat.min_eq_left (by show 7 - j ≤ 16; omega), u16_shr]
  rw [show ((((x.setWidth 16 : W16) >>> (7 - j)).toNat : Int)).tmod 2 = (((((x.setWidth 16 : W16) >>> (7 - j)).toNat % 2 : Nat)) : Int) from by rw [Int.tmod_eq_emod_of_nonneg (by omega)]; omega]
  have h1 : ((x.setWidth 16 : W16) >>> (7 - j)).toNat = x.toNat / 2 ^ (7 - j) := by
    rw [BitVec.toNat_ushiftRight, Nat.shiftRight_eq_div_pow, BitVec.toNat_setWidth, Nat.mod_eq_of_lt (by have := x.isLt; omega)]
  rw [h1]
  unfold b2i BitVec.getLsbD
  rw [Nat.testBit_eq_decide_div_mod_eq]
  have := Nat.mod_lt (x.toNat / 2 ^ (7 - j)) (by decide : 2 > 0)
  split
  · rename_i hd; have := of_decide_eq_true hd; omega
  · rename_i hd; have hd' : ¬ (x.toNat / 2 ^ (7 - j) % 2 = 1) := fun e => hd (decide_eq_true e)
    omega
theorem bit1_t {c : W16} {q : Bool} (h : (c.msb != q) = true) : (c <<< 1) ^^^ 0x1021#16 = bit1 c q := by unfold bit1; rw [if_pos h]
theorem bit1_f {c : W16} {q : Bool} (h : (c.msb != q) = false) : c <<< 1 = bit1 c q := by unfold bit1; rw [if_neg (by rw [h]; simp)]; simp
theorem ref03_More (c : W16) (s : ByteArray) (hs : s.size < 4611686018427387904) : Fv Try.prog 57 [.int .u16 (c.toNat : Int), .str s] (.int .u16 ((crcM c s.data.toList).toNat : Int)) := by
  refine Fv.of_awp Try.func57 rfl (by kernel_rfl) rfl (Nat.le_of_ble_eq_true rfl) ?_
  repeat' (conv => whnf
           first
           | (refine And.intro (by kernel_rfl) ?_)
           | (refine And.intro ⟨by kernel_rfl, by kernel_rfl⟩ ?_)
           | (refine cond_f ?_ ?_)
           | (refine ⟨_, ⟨by decide, rfl⟩, ?_⟩)
           | (refine cond_i (fun h => ?_) (fun h => ?_)))
  all_goals (conv => whnf)
  refine Has.each [0, 1, 5] [] s.size (fun k (b : W16) => b = crcM c (s.data.toList.take k)) (fun b i =>
    St.of 37 [(0, .int .u16 (b.toNat : Int)), (1, .str s), (5, .int .i64 i)] [] []) ⟨c, 0, rfl, rfl, rfl⟩ (fun k b hk hI => ?_) (fun b hI => ?_)
  · have c1 : decide ((k : Int) < (s.size : Int)) = true := decide_eq_true (by omega)
    have f1 : (0 : Int) ≤ (k : Int) ∧ (k : Int) < (s.size : Int) := ⟨by omega, by omega⟩
    have e1 : IntKind.i64.wrap ((k : Int) + 1) = (k : Int) + 1 := wrap_i64 ⟨by omega, by omega⟩
    refine awp_go ?_
    repeat' (conv => whnf
             first
             | (refine And.intro (by kernel_rfl) ?_)
             | (refine And.intro ⟨by kernel_rfl, by kernel_rfl⟩ ?_)
             | (refine cond_1 c1 ?_)
             | (refine cond_f ?_ ?_)
             | (refine ⟨_, ⟨by decide, rfl⟩, ?_⟩)
             | (refine cond_i (fun h => ?_) (fun h => ?_)))
    all_goals (conv => whnf)
    refine Has.loopD [0, 1, 5, 6] [] (fun m st => ∃ j : Nat, j ≤ 8 ∧ m = 8 - j ∧ st = St.of 37 [(0, .int .u16 ((bitsJ b (s.data.toList.getD k 0).toBitVec j).toNat : Int)), (1, .str s), (5, .int .i64 k), (6, .int .i64 (7 - (j : Int)))] [] []) 8 ⟨0, by omega, rfl, rfl⟩ (fun m st hJ => ?_)
    obtain ⟨j, hj, rfl, rfl⟩ := hJ
    by_cases h8 : j < 8
    · have c2 : decide ((7 - (j : Int)) ≥ 0) = true := decide_eq_true (by omega)
      have hb : ((((bat s k).toNat : Int)).fdiv (2 ^ min (IntKind.u64.wrap (7 - (j : Int))).toNat IntKind.u16.bits)).tmod 2 = b2i ((s.data.toList.getD k 0).toBitVec.getLsbD (7 - j)) := u16_bit _ j h8
      have hb' : ((((bat s ((k : Int)).toNat).toNat : Int)).fdiv (2 ^ min (IntKind.u64.wrap (7 - (j : Int))).toNat IntKind.u16.bits)).tmod 2 = b2i ((s.data.toList.getD k 0).toBitVec.getLsbD (7 - j)) := hb
      have e2 : IntKind.i64.wrap ((7 - (j : Int)) - 1) = 7 - ((j + 1 : Nat) : Int) := by rw [wrap_i64 ⟨by omega, by omega⟩]; omega
      refine awp_go ?_
      repeat' (conv => whnf
               first
               | (refine And.intro (by kernel_rfl) ?_)
               | (refine And.intro ⟨by kernel_rfl, by kernel_rfl⟩ ?_)
               | (refine cond_1 c2 ?_)
               | (refine ⟨f1, ?_⟩)
               | (rw [u16_byte])
               | (rw [hb'])
               | (rw [u16_high])
               | (rw [u16_dbl])
               | (rw [u16_poly])
               | (rw [b2i_ne])
               | (rw [e2])
               | (refine cond_f ?_ ?_)
               | (refine ⟨_, ⟨by decide, rfl⟩, ?_⟩)
               | (refine cond_i (fun h => ?_) (fun h => ?_)))
      all_goals (conv => whnf)
      · rw [u64_7 j h8]; exact decide_eq_false (by omega)
      · refine ⟨8 - (j + 1), by omega, j + 1, by omega, rfl, ?_⟩
        rw [bit1_t h]; rfl
      · refine ⟨8 - (j + 1), by omega, j + 1, by omega, rfl, ?_⟩
        rw [bit1_f h]; rfl
    · obtain rfl : j = 8 := by omega
      refine awp_go ?_
      repeat' (conv => whnf
               first
               | (refine And.intro (by kernel_rfl) ?_)
               | (refine And.intro ⟨by kernel_rfl, by kernel_rfl⟩ ?_)
               | (rw [e1])
               | (refine cond_f ?_ ?_)
               | (refine ⟨_, ⟨by decide, rfl⟩, ?_⟩)
               | (refine cond_i (fun h => ?_) (fun h => ?_)))
      all_goals (conv => whnf)
      refine ⟨_, _, rfl, ?_, rfl⟩
      rw [crcM_step' c s k hk, hI, bitsJ_8]
  · have c1 : decide ((s.size : Int) < (s.size : Int)) = false := decide_eq_false (by omega)
    refine awp_go ?_
    repeat' (conv => whnf
             first
             | (refine And.intro (by kernel_rfl) ?_)
             | (refine And.intro ⟨by kernel_rfl, by kernel_rfl⟩ ?_)
             | (refine cond_0 c1 ?_)
             | (refine cond_f ?_ ?_)
             | (refine ⟨_, ⟨by decide, rfl⟩, ?_⟩)
             | (refine cond_i (fun h => ?_) (fun h => ?_)))
    all_goals (conv => whnf)
    rw [hI, List.take_of_length_le (by simp)]

theorem crc_Sum (s : ByteArray) (hs : s.size < 4611686018427387904) : Fv Try.prog 54 [.str s] (.int .u16 ((sumW s).toNat : Int)) := by
  have n1 : Fv Try.prog 62 [.int .u16 65535, .str s] (.int .u16 ((sumW s).toNat : Int)) := crc_More 0xFFFF#16 s hs
  refine Fv.of_awp Try.func54 rfl (by kernel_rfl) rfl (Nat.le_of_ble_eq_true rfl) ?_
  repeat' (conv => whnf
           first
           | (refine And.intro (by kernel_rfl) ?_)
           | (refine And.intro ⟨by kernel_rfl, by kernel_rfl⟩ ?_)
           | (refine Or.inl ⟨_, n1, ?_⟩)
           | (refine ⟨_, n1, ?_⟩)
           | (refine cond_f ?_ ?_)
           | (refine ⟨_, ⟨by decide, rfl⟩, ?_⟩)
           | (refine cond_i (fun h => ?_) (fun h => ?_)))
  all_goals (conv => whnf)
  all_goals rfl
theorem ref03_Sum (s : ByteArray) (hs : s.size < 4611686018427387904) : Fv Try.prog 47 [.str s] (.int .u16 ((sumW s).toNat : Int)) := by
  have n1 : Fv Try.prog 57 [.int .u16 65535, .str s] (.int .u16 ((sumW s).toNat : Int)) := ref03_More 0xFFFF#16 s hs
  refine Fv.of_awp Try.func47 rfl (by kernel_rfl) rfl (Nat.le_of_ble_eq_true rfl) ?_
  repeat' (conv => whnf
           first
           | (refine And.intro (by kernel_rfl) ?_)
           | (refine And.intro ⟨by kernel_rfl, by kernel_rfl⟩ ?_)
           | (refine Or.inl ⟨_, n1, ?_⟩)
           | (refine ⟨_, n1, ?_⟩)
           | (refine cond_f ?_ ?_)
           | (refine ⟨_, ⟨by decide, rfl⟩, ?_⟩)
           | (refine cond_i (fun h => ?_) (fun h => ?_)))
  all_goals (conv => whnf)
  all_goals rfl
theorem two_bytes (a b : UInt8) (x y : Int) (hx : x = (a.toNat : Int)) (hy : y = (b.toNat : Int)) : [[G.int .u8 x], [G.int .u8 y]] = [a, b].map (fun b => [G.int .u8 b.toNat]) := by subst hx; subst hy; rfl
theorem seal_add (s : ByteArray) (a b : UInt8) (hs : s.size < 4611686018427387904) : ((s.size + (strL [a, b]).size : Nat) : Int) ≤ 9223372036854775807 := by rw [strL_size]; simp only [List.length_cons, List.length_nil]; omega
theorem crc_Seal (s : ByteArray) (hs : s.size < 4611686018427387904) : Fv Try.prog 32 [.str s] (.str (sealB s)) := by
  have n1 := crc_Sum s hs
  have hc := (sumW s).isLt
  unfold sealB
  generalize sumW s = c at *
  have b1 : IntKind.u8.wrap ((c.toNat : Int).fdiv (2 ^ min (Int.toNat 8) IntKind.u16.bits)) = ((UInt8.ofNat (c.toNat / 256)).toNat : Int) := by
    rw [show (2 : Int) ^ min (Int.toNat 8) IntKind.u16.bits = 256 from by decide, Int.fdiv_eq_ediv_of_nonneg _ (by omega)]
    exact wrap_u8 (c.toNat / 256)
  have b2 : IntKind.u8.wrap (c.toNat : Int) = ((UInt8.ofNat c.toNat).toNat : Int) := wrap_u8 _
  have c2 := two_bytes _ _ _ _ b1 b2
  refine Fv.of_awp Try.func32 rfl (by kernel_rfl) rfl (Nat.le_of_ble_eq_true rfl) ?_
  repeat' (conv => whnf
           first
           | (refine And.intro (by kernel_rfl) ?_)
           | (refine And.intro ⟨by kernel_rfl, by kernel_rfl⟩ ?_)
           | (refine Or.inl ⟨_, n1, ?_⟩)
           | (refine ⟨_, n1, ?_⟩)
           | (refine ⟨_, c2, ?_⟩)
           | (refine ⟨seal_add _ _ _ hs, ?_⟩)
           | (refine cond_f ?_ ?_)
           | (refine ⟨_, ⟨by decide, rfl⟩, ?_⟩)
           | (refine cond_i (fun h => ?_) (fun h => ?_)))
  all_goals (conv => whnf)
  all_goals rfl
theorem ref03_Seal (s : ByteArray) (hs : s.size < 4611686018427387904) : Fv Try.prog 14 [.str s] (.str (sealB s)) := by
  have n1 := ref03_Sum s hs
  have hc := (sumW s).isLt
  unfold sealB
  generalize sumW s = c at *
  have b1 : IntKind.u8.wrap (IntKind.u16.wrap ((c.toNat : Int).tdiv 256)) = ((UInt8.ofNat (c.toNat / 256)).toNat : Int) := by
    rw [Int.tdiv_eq_ediv_of_nonneg (by omega), show (c.toNat : Int) / 256 = ((c.toNat / 256 : Nat) : Int) from by omega, wrap_u16, Nat.mod_eq_of_lt (by omega)]
    exact wrap_u8 (c.toNat / 256)
  have b2 : IntKind.u8.wrap ((c.toNat : Int).tmod 256) = ((UInt8.ofNat c.toNat).toNat : Int) := by
    rw [Int.tmod_eq_emod_of_nonneg (by omega), show (c.toNat : Int) % 256 = ((c.toNat % 256 : Nat) : Int) from by omega, wrap_u8, u8_mod, u8_mod]; omega
  have c2 := two_bytes _ _ _ _ b1 b2
  refine Fv.of_awp Try.func14 rfl (by kernel_rfl) rfl (Nat.le_of_ble_eq_true rfl) ?_
  repeat' (conv => whnf
           first
           | (refine And.intro (by kernel_rfl) ?_)
           | (refine And.intro ⟨by kernel_rfl, by kernel_rfl⟩ ?_)
           | (refine Or.inl ⟨_, n1, ?_⟩)
           | (refine ⟨_, n1, ?_⟩)
           | (refine ⟨_, c2, ?_⟩)
           | (refine ⟨seal_add _ _ _ hs, ?_⟩)
           | (refine cond_f ?_ ?_)
           | (refine ⟨_, ⟨by decide, rfl⟩, ?_⟩)
           | (refine cond_i (fun h => ?_) (fun h => ?_)))
  all_goals (conv => whnf)
  all_goals rfl
theorem crc_Open (s : ByteArray) (hs : s.size < 4611686018427387904) : Fv Try.prog 33 [.str s] (.tup [.str (openB s).1, .bool (openB s).2]) := by
  have n1 := crc_Sum s hs
  refine Fv.of_awp Try.func33 rfl (by kernel_rfl) rfl (Nat.le_of_ble_eq_true rfl) ?_
  by_cases h2 : s.size < 2
  · have b1 : decide ((s.size : Int) < 2) = true := decide_eq_true (by omega)
    have e : openB s = (⟨#[]⟩, false) := by unfold openB; rw [if_pos (.inl h2)]
    rw [e]
    repeat' (conv => whnf
             first
             | (refine And.intro (by kernel_rfl) ?_)
             | (refine And.intro ⟨by kernel_rfl, by kernel_rfl⟩ ?_)
             | (refine cond_1 b1 ?_)
             | (refine Or.inl ⟨_, n1, ?_⟩)
             | (refine ⟨_, n1, ?_⟩)
             | (refine cond_f ?_ ?_)
             | (refine ⟨_, ⟨by decide, rfl⟩, ?_⟩)
             | (refine cond_i (fun h => ?_) (fun h => ?_)))
    all_goals (conv => whnf)
    all_goals rfl
  · have b1 : decide ((s.size : Int) < 2) = false := decide_eq_false (by omega)
    have w1 : IntKind.i64.wrap ((s.size : Int) - 2) = ((s.size - 2 : Nat) : Int) := by rw [wrap_i64 ⟨by omega, by omega⟩]; omega
    by_cases h3 : sumW s = 0#16
    · have b2 : (((sumW s).toNat : Int) != 0) = false := by rw [h3]; rfl
      have e : openB s = (s.extract 0 (s.size - 2), true) := by unfold openB; rw [if_neg (by simp [h3]; omega)]
      have f : (0 : Int) ≤ 0 ∧ (0 : Int) ≤ ((s.size - 2 : Nat) : Int) ∧ ((s.size - 2 : Nat) : Int) ≤ (s.size : Int) := by omega
      rw [e]
      repeat' (conv => whnf
               first
               | (refine And.intro (by kernel_rfl) ?_)
               | (refine And.intro ⟨by kernel_rfl, by kernel_rfl⟩ ?_)
               | (refine cond_0 b1 ?_)
               | (refine Or.inl ⟨_, n1, ?_⟩)
               | (refine ⟨_, n1, ?_⟩)
               | (refine cond_0 b2 ?_)
               | (rw [w1])
               | (refine ⟨f, ?_⟩)
               | (refine cond_f ?_ ?_)
               | (refine ⟨_, ⟨by decide, rfl⟩, ?_⟩)
               | (refine cond_i (fun h => ?_) (fun h => ?_)))
      all_goals (conv => whnf)
      all_goals rfl
    · have b2 : (((sumW s).toNat : Int) != 0) = true := by
        simp only [bne_iff_ne, ne_eq]
        intro h
        apply h3
        apply BitVec.eq_of_toNat_eq
        have : (sumW s).toNat = 0 := by omega
        rw [this]; rfl
      have e : openB s = (⟨#[]⟩, false) := by unfold openB; rw [if_pos (.inr h3)]
      rw [e]
      repeat' (conv => whnf
               first
               | (refine And.intro (by kernel_rfl) ?_)
               | (refine And.intro ⟨by kernel_rfl, by kernel_rfl⟩ ?_)
               | (refine cond_0 b1 ?_)
               | (refine Or.inl ⟨_, n1, ?_⟩)
               | (refine ⟨_, n1, ?_⟩)
               | (refine cond_1 b2 ?_)
               | (refine cond_f ?_ ?_)
               | (refine ⟨_, ⟨by decide, rfl⟩, ?_⟩)
               | (refine cond_i (fun h => ?_) (fun h => ?_)))
      all_goals (conv => whnf)
      all_goals rfl
end Go.Proofs.Ytfpincfmcjiokaa.Cn
