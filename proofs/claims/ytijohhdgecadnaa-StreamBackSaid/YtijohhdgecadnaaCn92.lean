/- Law 38: packed and fed, the same messages. No condition but sizes. -/
import Derived.Test.YtijohhdgecadnaaSp1
import Derived.Test.YtijohhdgecadnaaProg
import Derived.KernelRfl
import Derived.Test.YtijohhdgecadnaaCn36
import Derived.Test.YtijohhdgecadnaaCn91
import Derived.Test.YtijohhdgecadnaaAv16
namespace Go.Proofs.Ytijohhdgecadnaa.Cn
open Go Go.Proofs Go.Proofs.Ytijohhdgecadnaa.Av Go.Proofs.Ytijohhdgecadnaa.Sp
set_option linter.unusedVariables false
set_option linter.unusedSimpArgs false
set_option maxRecDepth 100000
attribute [local irreducible] Fv Fp

/-- No message behind the last one; none too long. -/
def _root_.Go.Proofs.Ytijohhdgecadnaa.Sp.okS (n : Nat) : Bool → List Msg → Prop
  | _, [] => True
  | b, m :: l => b = false ∧ m.S.size ≤ n ∧ okS n m.last l
theorem packB_eq (m : Msg) (h : m.S.size ≤ 4096) : packB m = strL ((if m.last then (1 : UInt8) else 0) :: (dgs m.S.size 4 ++ m.S.data.toList)) := by
  unfold packB
  rw [if_neg (by omega)]
  have e : numB ((m.S.size : Nat) : Int) ((4 : Nat) : Int) = strL (dgs m.S.size 4) := numB_yes (by omega) (by omega) (by omega)
  have e' : numB ((m.S.size : Nat) : Int) 4 = strL (dgs m.S.size 4) := e
  rw [e']
  apply ext_list
  rw [app_list, app_list]
  rfl
theorem packB_size (m : Msg) (h : m.S.size ≤ 4096) : (packB m).size = 5 + m.S.size := by
  rw [packB_eq m h, strL_size, List.length_cons, List.length_append, dgs_len, size_list]; omega
theorem nextM_pack (m : Msg) (t : ByteArray) (h : m.S.size ≤ 4096) : nextM ⟨packB m ++ t, false, 0⟩ = (⟨t, m.last, 0⟩, some m) := by
  have e : packB m ++ t = strL ((if m.last then (1 : UInt8) else 0) :: (dgs m.S.size 4 ++ (m.S ++ t).data.toList)) := by
    rw [packB_eq m h]
    apply ext_list
    rw [app_list, app_list]
    show _ :: _ ++ _ = _ :: _
    simp
  have hsz : (packB m ++ t).size = 5 + m.S.size + t.size := by rw [app_size, packB_size m h]
  have hb : byteAt (packB m ++ t) 0 = if m.last then 1 else 0 := by rw [e]; cases m.last <;> rfl
  have hn : need (packB m ++ t) = m.S.size := by
    rw [e]
    unfold need
    rw [numOf_cons (p := 0), numOf_dgs, Int.toNat_natCast]
    exact Nat.mod_eq_of_lt (by omega)
  have h1 : (packB m ++ t).extract 5 (5 + m.S.size) = m.S := by
    rw [e]; apply ext_list; rw [ext_take]
    have hl : (dgs m.S.size 4).length = 4 := dgs_len _ _
    obtain ⟨d1, d2, d3, d4, hd⟩ : ∃ a b c d, dgs m.S.size 4 = [a, b, c, d] := by
      match hdd : dgs m.S.size 4, hl with
      | [a, b, c, d], _ => exact ⟨a, b, c, d, rfl⟩
    rw [hd, app_list]
    show ((_ :: d1 :: d2 :: d3 :: d4 :: (m.S.data.toList ++ t.data.toList)).take (5 + m.S.size)).drop 5 = _
    rw [Nat.add_comm]
    simp only [List.take_succ_cons, List.drop_succ_cons, List.drop_zero]
    rw [List.take_append_of_le_length (by rw [size_list]; exact Nat.le_refl _), List.take_of_length_le (by rw [size_list]; exact Nat.le_refl _)]
  have h2 : (packB m ++ t).extract (5 + m.S.size) (packB m ++ t).size = t := by
    have := ext_app_out (packB m) t (5 + m.S.size) (by rw [packB_size m h]; exact Nat.le_refl _)
    rw [this]
    apply ext_list
    rw [app_list, ext_take, List.drop_eq_nil_of_le (by rw [List.length_take, size_list, packB_size m h]; omega)]
    rfl
  unfold nextM
  rw [if_neg (by simp only [hsz]; omega), if_neg (by simp), if_neg (by simp only [hb]; split <;> omega), if_neg (by simp only [hsz]; omega), if_neg (by simp only [hn]; omega), if_neg (by simp only [hn, hsz]; omega)]
  simp only [hn, h1, h2, hb]
  cases m with
  | mk S l => cases l <;> rfl
theorem runM_packs : ∀ (l : List Msg) (b : Bool), okS 4096 b l → runM ⟨strL (packsL l), b, 0⟩ = (l, ⟨emptyB, lastOf l b, 0⟩)
  | [], b, _ => by
    refine runM_none ?_
    unfold nextM
    rw [if_pos (.inr rfl)]
    rfl
  | m :: l, b, ⟨hb, hs, hl⟩ => by
    subst hb
    have e : strL (packsL (m :: l)) = packB m ++ strL (packsL l) := by
      apply ext_list
      rw [app_list]
      show packsL (m :: l) = _
      unfold packsL
      rw [List.flatMap_cons]
      rfl
    rw [e, runM_some (nextM_pack m _ hs), runM_packs l m.last hl]
    simp only
    have : lastOf (m :: l) false = lastOf l m.last := by
      unfold lastOf
      cases l with
      | nil => rfl
      | cons a l => rfl
    rw [this]
theorem okS_snoc {n : Nat} {x : Msg} : ∀ (l : List Msg) (b : Bool), okS n b l → lastOf l b = false → x.S.size ≤ n → okS n b (l ++ [x])
  | [], b, _, h2, h3 => ⟨h2, h3, trivial⟩
  | m :: l, b, ⟨h0, h1, hl⟩, h2, h3 => ⟨h0, h1, okS_snoc l m.last hl (by
    unfold lastOf at h2 ⊢
    cases l with
    | nil => exact h2
    | cons a l => exact h2) h3⟩
theorem okS_mono {n k : Nat} (h : n ≤ k) : ∀ (l : List Msg) (b : Bool), okS n b l → okS k b l
  | [], _, _ => trivial
  | m :: l, _, ⟨h0, h1, hl⟩ => ⟨h0, Nat.le_trans h1 h, okS_mono h l m.last hl⟩
theorem packs_size : ∀ (l : List Msg) (b : Bool), okS 200 b l → (packsL l).length ≤ 205 * l.length
  | [], _, _ => Nat.le_refl _
  | m :: l, b, ⟨_, h1, hl⟩ => by
    have ih := packs_size l m.last hl
    have e : packsL (m :: l) = (packB m).data.toList ++ packsL l := by unfold packsL; rw [List.flatMap_cons]
    rw [e, List.length_append, size_list, packB_size m (by omega), List.length_cons]
    omega
theorem feed_over (t : ByteArray) (h : t.size ≠ 0) : feedM ⟨emptyB, true, 0⟩ t = ([], ⟨emptyB, true, 6⟩) := by
  unfold feedM
  simp only [empty_app]
  refine runM_none ?_
  unfold nextM
  rw [if_neg (by simp only; omega), if_pos rfl]
  rfl
theorem lastOf_take {l : List Msg} {k : Nat} (hk : k < l.length) : lastOf (l.take (k + 1)) false = l[k].last := by
  rw [List.take_succ_eq_append_getElem hk]; exact over_last
end Go.Proofs.Ytijohhdgecadnaa.Cn
