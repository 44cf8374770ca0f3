
/- Identities and packets as bytes: told and read. No condition. -/
import Derived.Test.YtfpincfmcjiokaaSp17
import Derived.Test.YtfpincfmcjiokaaSp18
import Derived.Test.YtfpincfmcjiokaaSp11
namespace Go.Proofs.Ytfpincfmcjiokaa.Sp
open Go Go.Proofs.Ytfpincfmcjiokaa.Av
set_option linter.unusedVariables false
set_option maxRecDepth 100000

def okId (d : Id) : Bool := decide (0 ≤ d.node ∧ d.node < 64 ∧ 0 ≤ d.inc ∧ d.inc ≤ 65535 ∧ 1 ≤ d.seq ∧ d.seq ≤ 16777215)
def okKey (k : Key) : Bool := okId k.id && decide (0 ≤ k.att ∧ k.att ≤ 5)
def idB (d : Id) : ByteArray := numB d.node 1 ++ numB d.inc 2 ++ numB d.seq 3
def keyB (k : Key) : ByteArray := idB k.id ++ numB k.att 1
def textB (s : ByteArray) : ByteArray := if s.size < 256 then numB s.size 1 ++ s else ⟨#[]⟩
def flagB (b : Bool) : ByteArray := strL [if b then 1 else 0]
def zId : Id := ⟨0, 0, 0⟩
def zKey : Key := ⟨zId, 0⟩
def rId (r : Rd) : Rd × Id :=
  let d : Id := ⟨(rNum r 1).2, (rNum (rNum r 1).1 2).2, (rNum (rNum (rNum r 1).1 2).1 3).2⟩
  if okId d then ((rNum (rNum (rNum r 1).1 2).1 3).1, d) else (rFail (rNum (rNum (rNum r 1).1 2).1 3).1 2, zId)
def rKey (r : Rd) : Rd × Key :=
  let k : Key := ⟨(rId r).2, (rNum (rId r).1 1).2⟩
  if okKey k then ((rNum (rId r).1 1).1, k) else (rFail (rNum (rId r).1 1).1 2, zKey)
theorem rFail_ok (r : Rd) (e : Int) (h : r.ok) : (rFail r e).ok := h
theorem rId_ok (r : Rd) (h : r.ok) : (rId r).1.ok := by
  unfold rId; simp only
  have := rNum_ok _ 3 (rNum_ok _ 2 (rNum_ok r 1 h))
  split
  · exact this
  · exact rFail_ok _ _ this
theorem rKey_ok (r : Rd) (h : r.ok) : (rKey r).1.ok := by
  unfold rKey; simp only
  have := rNum_ok _ 1 (rId_ok r h)
  split
  · exact this
  · exact rFail_ok _ _ this
theorem rText_ok (r : Rd) (h : r.ok) : (rText r).1.ok := rTake_ok _ _ (rNum_ok r 1 h)
theorem rFlag_ok (r : Rd) (h : r.ok) : (rFlag r).1.ok := rNum_ok r 1 h

/-! What stands ahead of a reader. -/
def At (r : Rd) (l : List UInt8) : Prop := r.bad = 0 ∧ r.at' ≤ r.S.size ∧ r.S.data.toList.drop r.at' = l
theorem At.len {r : Rd} {l : List UInt8} (h : At r l) : (l.length : Int) = (r.S.size : Int) - r.at' := by
  obtain ⟨_, h2, h3⟩ := h
  rw [← h3, List.length_drop, size_list]; omega
theorem numOf_at {r : Rd} {l : List UInt8} (h : At r l) (w : Nat) : numOf r.S r.at' w = numOf (strL l) 0 w := by
  obtain ⟨_, h2, h3⟩ := h
  unfold numOf
  congr 1
  funext n i
  unfold num1 byteAt
  congr 2
  rw [strL_list, ← h3, List.getD_eq_getElem?_getD, List.getD_eq_getElem?_getD, List.getElem?_drop, Nat.zero_add]
theorem At.move {r : Rd} {l : List UInt8} (h : At r l) {n : Nat} (hn : n ≤ l.length) : At { r with at' := r.at' + n } (l.drop n) := by
  obtain ⟨h1, h2, h3⟩ := h
  refine ⟨h1, ?_, ?_⟩
  · have : l.length = r.S.size - r.at' := by rw [← h3, List.length_drop, size_list]
    show r.at' + n ≤ r.S.size
    omega
  · show r.S.data.toList.drop (r.at' + n) = _
    rw [← h3, List.drop_drop]
theorem rNum_at {r : Rd} {n w : Nat} {l : List UInt8} (h1 : 1 ≤ w) (h7 : w ≤ 7) (hn : n < 256 ^ w) (h : At r (dgs n w ++ l)) : (rNum r w).2 = n ∧ At (rNum r w).1 l := by
  have hl := h.len
  rw [List.length_append, dgs_len] at hl
  have e : rNum r w = ({ r with at' := r.at' + w }, numOf r.S r.at' w) := by
    unfold rNum
    rw [if_neg (by omega), if_neg (by simp [h.1]), if_neg (by omega)]; rfl
  rw [e]
  refine ⟨?_, ?_⟩
  · show numOf r.S r.at' w = _
    rw [numOf_at h, numOf_dgs, Nat.mod_eq_of_lt hn]
  · have := h.move (n := w) (by rw [List.length_append, dgs_len]; omega)
    rw [List.drop_left' (dgs_len n w)] at this
    exact this
/-- What was read is what was told. -/
theorem rNum_inv {r : Rd} {w : Nat} {l : List UInt8} (h1 : 1 ≤ w) (h7 : w ≤ 7) (h : At r l) (hb : (rNum r w).1.bad = 0) : ∃ (n : Nat) (m : List UInt8), (rNum r w).2 = n ∧ n < 256 ^ w ∧ l = dgs n w ++ m ∧ At (rNum r w).1 m := by
  have hl := h.len
  unfold rNum at hb ⊢
  rw [if_neg (by omega), if_neg (by simp [h.1])] at hb ⊢
  split at hb
  · exact absurd (show (3 : Int) = 0 from hb) (by decide)
  · rename_i hw
    rw [if_neg hw]
    have hle : w ≤ l.length := by omega
    obtain ⟨b1, b2⟩ := numOf_bd r.S r.at' w
    obtain ⟨n, hn⟩ := Int.eq_ofNat_of_zero_le b1
    refine ⟨n, l.drop w, hn, ?_, ?_, h.move hle⟩
    · rw [hn, ← pow_cast] at b2; omega
    · have := dgs_numOf r.S r.at' w (by have := h.2.1; omega)
      rw [hn, Int.toNat_natCast] at this
      rw [this, h.2.2, List.take_append_drop]
theorem rNum_bad {r : Rd} {w : Int} (h : (rNum r w).1.bad = 0) (h1 : 1 ≤ w) (h7 : w ≤ 7) : r.bad = 0 := by
  unfold rNum at h
  rw [if_neg (by omega)] at h
  by_cases hb : r.bad = 0
  · exact hb
  · rw [if_pos hb] at h; exact h
theorem rFail_bad {r : Rd} {e : Int} (he : e ≠ 0) : (rFail r e).bad ≠ 0 := by
  unfold rFail; simp only; split
  · exact he
  · assumption
/-! Numbers, identities, keys, texts, truths. -/
theorem numB_list {n w : Nat} (h1 : 1 ≤ w) (h2 : w ≤ 7) (h3 : n < 256 ^ w) : (numB (n : Int) (w : Int)).data.toList = dgs n w := by rw [numB_yes h1 h2 h3]; rfl
theorem num_at {r : Rd} {x : Int} {w : Nat} {l : List UInt8} (h1 : 1 ≤ w) (h7 : w ≤ 7) (h0 : 0 ≤ x) (hx : x < 256 ^ w) (h : At r ((numB x w).data.toList ++ l)) : (rNum r w).2 = x ∧ At (rNum r w).1 l := by
  obtain ⟨n, rfl⟩ := Int.eq_ofNat_of_zero_le h0
  have hn : n < 256 ^ w := by rw [← pow_cast] at hx; omega
  rw [numB_list h1 h7 hn] at h
  exact rNum_at h1 h7 hn h
theorem num_inv {r : Rd} {w : Nat} {l : List UInt8} (h1 : 1 ≤ w) (h7 : w ≤ 7) (h : At r l) (hb : (rNum r w).1.bad = 0) : ∃ (m : List UInt8), 0 ≤ (rNum r w).2 ∧ (rNum r w).2 < 256 ^ w ∧ l = (numB (rNum r w).2 w).data.toList ++ m ∧ At (rNum r w).1 m := by
  obtain ⟨n, m, e, hn, hl, hA⟩ := rNum_inv h1 h7 h hb
  refine ⟨m, by omega, ?_, ?_, hA⟩
  · rw [e, ← pow_cast]; omega
  · rw [e, numB_list h1 h7 hn, hl]
theorem okId_iff (d : Id) : okId d = true ↔ 0 ≤ d.node ∧ d.node < 64 ∧ 0 ≤ d.inc ∧ d.inc ≤ 65535 ∧ 1 ≤ d.seq ∧ d.seq ≤ 16777215 := by unfold okId; simp
theorem okKey_iff (k : Key) : okKey k = true ↔ okId k.id = true ∧ 0 ≤ k.att ∧ k.att ≤ 5 := by unfold okKey; simp
theorem id_at {r : Rd} {d : Id} {l : List UInt8} (hd : okId d = true) (h : At r ((idB d).data.toList ++ l)) : (rId r).2 = d ∧ At (rId r).1 l := by
  have k := (okId_iff d).1 hd
  unfold idB at h
  rw [app_list, app_list, List.append_assoc, List.append_assoc] at h
  obtain ⟨e1, h1⟩ := num_at (w := 1) (by omega) (by omega) (by omega) (by omega) h
  obtain ⟨e2, h2⟩ := num_at (w := 2) (by omega) (by omega) (by omega) (by omega) h1
  obtain ⟨e3, h3⟩ := num_at (w := 3) (by omega) (by omega) (by omega) (by omega) h2
  unfold rId
  simp only
  have e : (⟨(rNum r 1).2, (rNum (rNum r 1).1 2).2, (rNum (rNum (rNum r 1).1 2).1 3).2⟩ : Id) = d := by
    obtain ⟨a, b, c⟩ := d
    simp only [Id.mk.injEq]
    exact ⟨e1, e2, e3⟩
  rw [e, if_pos hd]
  exact ⟨rfl, h3⟩
theorem id_inv {r : Rd} {l : List UInt8} (h : At r l) (hb : (rId r).1.bad = 0) : ∃ m, okId (rId r).2 = true ∧ l = (idB (rId r).2).data.toList ++ m ∧ At (rId r).1 m := by
  unfold rId at hb ⊢
  simp only at hb ⊢
  split at hb
  · rename_i hd
    rw [if_pos hd]
    have b2 := rNum_bad (w := 3) hb (by omega) (by omega)
    have b1 := rNum_bad (w := 2) b2 (by omega) (by omega)
    obtain ⟨m1, _, _, l1, h1⟩ := num_inv (w := 1) (by omega) (by omega) h b1
    obtain ⟨m2, _, _, l2, h2⟩ := num_inv (w := 2) (by omega) (by omega) h1 b2
    obtain ⟨m3, _, _, l3, h3⟩ := num_inv (w := 3) (by omega) (by omega) h2 hb
    refine ⟨m3, hd, ?_, h3⟩
    rw [l1, l2, l3]
    unfold idB
    rw [app_list, app_list, List.append_assoc, List.append_assoc]
    rfl
  · exact absurd hb (rFail_bad (by omega))
theorem key_at {r : Rd} {k : Key} {l : List UInt8} (hk : okKey k = true) (h : At r ((keyB k).data.toList ++ l)) : (rKey r).2 = k ∧ At (rKey r).1 l := by
  obtain ⟨hd, ha⟩ := (okKey_iff k).1 hk
  unfold keyB at h
  rw [app_list, List.append_assoc] at h
  obtain ⟨e1, h1⟩ := id_at hd h
  obtain ⟨e2, h2⟩ := num_at (w := 1) (by omega) (by omega) (by omega) (by omega) h1
  unfold rKey
  simp only
  have e : (⟨(rId r).2, (rNum (rId r).1 1).2⟩ : Key) = k := by
    obtain ⟨a, b⟩ := k
    simp only [Key.mk.injEq]
    exact ⟨e1, e2⟩
  rw [e, if_pos hk]
  exact ⟨rfl, h2⟩
theorem rId_bad {r : Rd} (h : (rId r).1.bad = 0) : r.bad = 0 := by
  unfold rId at h
  simp only at h
  split at h
  · exact rNum_bad (w := 1) (rNum_bad (w := 2) (rNum_bad (w := 3) h (by omega) (by omega)) (by omega) (by omega)) (by omega) (by omega)
  · exact absurd h (rFail_bad (by omega))
theorem rKey_bad {r : Rd} (h : (rKey r).1.bad = 0) : r.bad = 0 := by
  unfold rKey at h
  simp only at h
  split at h
  · exact rId_bad (rNum_bad (w := 1) h (by omega) (by omega))
  · exact absurd h (rFail_bad (by omega))
theorem key_inv {r : Rd} {l : List UInt8} (h : At r l) (hb : (rKey r).1.bad = 0) : ∃ m, okKey (rKey r).2 = true ∧ l = (keyB (rKey r).2).data.toList ++ m ∧ At (rKey r).1 m := by
  unfold rKey at hb ⊢
  simp only at hb ⊢
  split at hb
  · rename_i hk
    rw [if_pos hk]
    have b1 := rNum_bad (w := 1) hb (by omega) (by omega)
    obtain ⟨m1, _, l1, h1⟩ := id_inv h b1
    obtain ⟨m2, _, _, l2, h2⟩ := num_inv (w := 1) (by omega) (by omega) h1 hb
    refine ⟨m2, hk, ?_, h2⟩
    rw [l1, l2]
    unfold keyB
    rw [app_list, List.append_assoc]
    rfl
  · exact absurd hb (rFail_bad (by omega))
theorem text_at {r : Rd} {s : ByteArray} {l : List UInt8} (hs : s.size < 256) (h : At r ((textB s).data.toList ++ l)) : (rText r).2 = s ∧ At (rText r).1 l := by
  unfold textB at h
  rw [if_pos hs, app_list, List.append_assoc] at h
  have hx : ((s.size : Nat) : Int) < 256 ^ 1 := by omega
  have hn : (s.size : Nat) < 256 ^ 1 := by omega
  have e0 : (numB ((s.size : Nat) : Int) 1).data.toList = dgs s.size 1 := numB_list (w := 1) (Nat.le_refl 1) (by omega) hn
  rw [e0] at h
  obtain ⟨e1, h1⟩ := rNum_at (w := 1) (Nat.le_refl 1) (by omega) hn h
  have e1 : (rNum r 1).2 = (s.size : Int) := e1
  have h1 : At (rNum r 1).1 (s.data.toList ++ l) := h1
  have hl := h1.len
  rw [List.length_append, size_list] at hl
  have e : rText r = ({ (rNum r 1).1 with at' := (rNum r 1).1.at' + s.size }, (rNum r 1).1.S.extract (rNum r 1).1.at' ((rNum r 1).1.at' + s.size)) := by
    have e1' : (rNum r 1).2 = (s.size : Int) := e1
    unfold rText rTake
    have hl' : ((s.size + l.length : Nat) : Int) = ((rNum r 1).1.S.size : Int) - (rNum r 1).1.at' := hl
    have hb0 : (rNum r 1).1.bad = 0 := h1.1
    rw [if_neg (by rw [hb0]; simp), e1', if_neg (by omega)]
    rfl
  rw [e]
  refine ⟨?_, ?_⟩
  · apply ext_list
    show ((rNum r 1).1.S.extract _ _).data.toList = _
    rw [ext_take]
    have h3 : (rNum r 1).1.S.data.toList.drop (rNum r 1).1.at' = s.data.toList ++ l := h1.2.2
    rw [← List.take_drop, h3, List.take_left' (size_list s)]
  · have := h1.move (n := s.size) (by rw [List.length_append, size_list]; omega)
    rw [List.drop_left' (size_list s)] at this
    exact this
theorem rText_bad {r : Rd} (h : (rText r).1.bad = 0) : (rNum r 1).1.bad = 0 := by
  unfold rText rTake at h
  by_cases hb : (rNum r 1).1.bad = 0
  · exact hb
  · rw [if_pos hb] at h; exact h
theorem text_inv {r : Rd} {l : List UInt8} (h : At r l) (hb : (rText r).1.bad = 0) : ∃ m, (rText r).2.size < 256 ∧ l = (textB (rText r).2).data.toList ++ m ∧ At (rText r).1 m := by
  have b1 := rText_bad hb
  obtain ⟨m1, g0, g1, l1, h1⟩ := num_inv (w := 1) (by omega) (by omega) h b1
  have g0 : 0 ≤ (rNum r 1).2 := g0
  have g1 : (rNum r 1).2 < 256 ^ 1 := g1
  have l1 : l = (numB (rNum r 1).2 1).data.toList ++ m1 := l1
  have h1 : At (rNum r 1).1 m1 := h1
  have hl := h1.len
  unfold rText rTake at hb ⊢
  rw [if_neg (by simp [b1])] at hb ⊢
  split at hb
  · exact absurd (show (3 : Int) = 0 from hb) (by decide)
  · rename_i hw
    rw [if_neg hw]
    obtain ⟨n, hn⟩ := Int.eq_ofNat_of_zero_le g0
    rw [hn] at hw g1 l1 ⊢
    have hle : n ≤ m1.length := by omega
    have hx : ((rNum r 1).1.S.extract (rNum r 1).1.at' ((rNum r 1).1.at' + n)).data.toList = m1.take n := by
      have h3 : (rNum r 1).1.S.data.toList.drop (rNum r 1).1.at' = m1 := h1.2.2
      rw [ext_take, ← List.take_drop, h3]
    have hz : ((rNum r 1).1.S.extract (rNum r 1).1.at' ((rNum r 1).1.at' + n)).size = n := by rw [← size_list, hx, List.length_take]; omega
    refine ⟨m1.drop n, ?_, ?_, h1.move hle⟩
    · show ((rNum r 1).1.S.extract (rNum r 1).1.at' ((rNum r 1).1.at' + n)).size < 256
      rw [hz]; omega
    · show l = (textB ((rNum r 1).1.S.extract (rNum r 1).1.at' ((rNum r 1).1.at' + n))).data.toList ++ m1.drop n
      unfold textB
      rw [if_pos (by rw [hz]; omega), app_list, hx, hz, l1, List.append_assoc, List.take_append_drop]
theorem flag_num (b : Bool) : (flagB b).data.toList = dgs (if b then 1 else 0) 1 := by cases b <;> rfl
theorem flag_at {r : Rd} {b : Bool} {l : List UInt8} (h : At r ((flagB b).data.toList ++ l)) : (rFlag r).2 = b ∧ At (rFlag r).1 l := by
  rw [flag_num] at h
  obtain ⟨e1, h1⟩ := rNum_at (w := 1) (by omega) (by omega) (by cases b <;> simp) h
  have e1 : (rNum r 1).2 = ((if b then 1 else 0 : Nat) : Int) := e1
  have h1 : At (rNum r 1).1 l := h1
  unfold rFlag
  rw [e1]
  refine ⟨by cases b <;> rfl, ?_⟩
  rw [if_neg (by cases b <;> simp)]
  exact h1
theorem rFlag_bad {r : Rd} (h : (rFlag r).1.bad = 0) : (rNum r 1).1.bad = 0 ∧ ¬ (rNum r 1).2 > 1 := by
  unfold rFlag at h
  simp only at h
  split at h
  · exact absurd h (by decide)
  · rename_i hx
    exact ⟨h, fun hg => hx ⟨h, hg⟩⟩
theorem flag_inv {r : Rd} {l : List UInt8} (h : At r l) (hb : (rFlag r).1.bad = 0) : ∃ m, l = (flagB (rFlag r).2).data.toList ++ m ∧ At (rFlag r).1 m := by
  obtain ⟨b1, b2⟩ := rFlag_bad hb
  obtain ⟨n, m1, e1, hn, l1, h1⟩ := rNum_inv (w := 1) (by omega) (by omega) h b1
  have e1 : (rNum r 1).2 = (n : Int) := e1
  have h1 : At (rNum r 1).1 m1 := h1
  have hn : n < 2 := by rw [e1] at b2; omega
  unfold rFlag
  rw [e1, if_neg (by intro hx; exact absurd hx.2 (by omega))]
  refine ⟨m1, ?_, h1⟩
  rw [l1, flag_num]
  have : n = 0 ∨ n = 1 := by omega
  rcases this with rfl | rfl <;> rfl
end Go.Proofs.Ytfpincfmcjiokaa.Sp
