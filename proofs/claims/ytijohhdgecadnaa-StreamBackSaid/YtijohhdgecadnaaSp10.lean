
/- However a stream is cut to pieces. No condition. -/
import Derived.Test.YtijohhdgecadnaaSp8
import Derived.Test.YtijohhdgecadnaaSp9
namespace Go.Proofs.Ytijohhdgecadnaa.Sp
open Go Go.Proofs.Ytijohhdgecadnaa.Av
set_option linter.unusedVariables false

theorem byteAt_app (s t : ByteArray) (i : Nat) (h : i < s.size) : byteAt (s ++ t) i = byteAt s i := by
  unfold byteAt
  rw [app_list, List.getD_eq_getElem?_getD, List.getD_eq_getElem?_getD, List.getElem?_append_left (by rw [size_list]; exact h)]
theorem numOf_app (s t : ByteArray) (p : Nat) : ∀ (w : Nat), p + w ≤ s.size → numOf (s ++ t) p w = numOf s p w
  | 0, _ => rfl
  | w + 1, h => by rw [numOf_succ, numOf_succ, numOf_app s t p w (by omega), byteAt_app s t _ (by omega)]
theorem ext_app_in (s t : ByteArray) (a b : Nat) (h : b ≤ s.size) : (s ++ t).extract a b = s.extract a b := by
  apply ext_list
  rw [ext_take, ext_take, app_list, List.take_append_of_le_length (by rw [size_list]; exact h)]
theorem ext_app_out (s t : ByteArray) (a : Nat) (h : a ≤ s.size) : (s ++ t).extract a (s ++ t).size = s.extract a s.size ++ t := by
  apply ext_list
  rw [app_list, ext_take, ext_take, app_list, List.take_of_length_le (by rw [List.length_append, size_list, size_list, ByteArray.size_append]; exact Nat.le_refl _),
    List.take_of_length_le (by rw [size_list]; exact Nat.le_refl _), List.drop_append_of_le_length (by rw [size_list]; exact h)]
theorem app_size (s t : ByteArray) : (s ++ t).size = s.size + t.size := ByteArray.size_append
theorem app_empty (s : ByteArray) : s ++ emptyB = s := ext_list (by rw [app_list]; show _ ++ [] = _; simp)
theorem empty_app (s : ByteArray) : emptyB ++ s = s := ext_list (by rw [app_list]; rfl)
theorem app_assoc (a b c : ByteArray) : a ++ b ++ c = a ++ (b ++ c) := ext_list (by simp only [app_list, List.append_assoc])
theorem need_app (s t : ByteArray) (h : 5 ≤ s.size) : need (s ++ t) = need s := by unfold need; rw [numOf_app s t 1 4 (by omega)]
theorem nextM_kind {m m' : Stm} (h : nextM m = (m', none)) (hb : m.bad = 0) : (m' = m ∧ m'.bad = 0) ∨ (m'.bad ≠ 0 ∧ m'.s = emptyB ∧ 0 < m.s.size) := by
  unfold nextM at h
  split at h
  · cases h; exact .inl ⟨rfl, hb⟩
  · rename_i h0
    have hs : 0 < m.s.size := by
      have : ¬ m.s.size = 0 := fun e => h0 (.inr e)
      omega
    (repeat' split at h) <;> first
      | (cases h; exact .inl ⟨rfl, hb⟩)
      | (cases h; refine .inr ⟨?_, rfl, hs⟩; simp [wrongM]; done)
      | cases h
theorem nextM_app {m m' : Stm} {o : Option Msg} (t : ByteArray) (hb : m.bad = 0) (h : nextM m = (m', o)) (hm : o = none → m'.bad ≠ 0) :
    nextM ⟨m.s ++ t, m.last, 0⟩ = (match o with | some x => ⟨m'.s ++ t, m'.last, 0⟩ | none => m', o) := by
  obtain ⟨s, l, b⟩ := m
  simp only at hb
  subst hb
  have hz : (s ++ t).size = s.size + t.size := app_size s t
  unfold nextM at h ⊢
  simp only at h ⊢
  by_cases h0 : s.size = 0
  · rw [if_pos (.inr h0)] at h
    cases h
    exact absurd rfl (hm rfl)
  rw [if_neg (by simp [h0])] at h
  rw [if_neg (by simp [hz, h0])]
  cases l with
  | true =>
    rw [if_pos rfl] at h ⊢
    cases h; rfl
  | false =>
    rw [if_neg (by simp)] at h ⊢
    rw [byteAt_app s t 0 (by omega)]
    by_cases h1 : byteAt s 0 > 1
    · rw [if_pos h1] at h ⊢
      cases h; rfl
    rw [if_neg h1] at h ⊢
    by_cases h2 : s.size < 5
    · rw [if_pos h2] at h
      cases h
      exact absurd rfl (hm rfl)
    rw [if_neg h2] at h
    rw [if_neg (by omega), need_app s t (by omega)]
    by_cases h3 : need s > 4096
    · rw [if_pos h3] at h ⊢
      cases h; rfl
    rw [if_neg h3] at h ⊢
    by_cases h4 : s.size < 5 + need s
    · rw [if_pos h4] at h
      cases h
      exact absurd rfl (hm rfl)
    rw [if_neg h4] at h
    rw [if_neg (by omega), ext_app_out s t _ (by omega), ext_app_in s t _ _ (by omega)]
    cases h
    rfl
theorem runM_app (t : ByteArray) (m : Stm) : m.bad = 0 → runM ⟨m.s ++ t, m.last, 0⟩ =
    if (runM m).2.bad = 0 then ((runM m).1 ++ (runM ⟨(runM m).2.s ++ t, (runM m).2.last, 0⟩).1, (runM ⟨(runM m).2.s ++ t, (runM m).2.last, 0⟩).2) else runM m := by
  induction m using runM_induct with
  | h0 m m' h =>
    intro hb
    rw [runM_none h]
    rcases nextM_kind h hb with ⟨rfl, hb'⟩ | ⟨hb', _⟩
    · rw [if_pos hb']; simp
    · rw [if_neg hb', runM_none (nextM_app t hb h (fun _ => hb'))]
  | h1 m m' x h ih =>
    intro hb
    have e := nextM_app t hb h (fun e => by cases e)
    have ih := ih (nextM_size h).2.1
    rw [runM_some h]
    rw [runM_some e]
    simp only
    rw [ih]
    split
    · rfl
    · rfl
/-- In the end nothing more is told. -/
theorem runM_fin (m : Stm) : m.bad = 0 → (runM m).2.bad ≠ 0 → (runM m).2.s = emptyB := by
  induction m using runM_induct with
  | h0 m m' h =>
    intro hb h2
    rw [runM_none h] at h2 ⊢
    rcases nextM_kind h hb with ⟨rfl, hb'⟩ | ⟨_, h3, _⟩
    · exact absurd hb' h2
    · exact h3
  | h1 m m' x h ih =>
    intro hb h2
    rw [runM_some h] at h2 ⊢
    exact ih (nextM_size h).2.1 h2
theorem runM_size (m : Stm) : (runM m).2.s.size ≤ m.s.size := by
  induction m using runM_induct with
  | h0 m m' h =>
    rw [runM_none h]
    unfold nextM at h
    (repeat' split at h) <;> first | (cases h; done) | (cases h; exact Nat.le_refl _) | (cases h; exact Nat.zero_le _)
  | h1 m m' x h ih => rw [runM_some h]; have := (nextM_size h).1; show (runM m').2.s.size ≤ _; omega
end Go.Proofs.Ytijohhdgecadnaa.Sp
