/- The plain law of CodeTells: for all whole numbers and texts in their kinds' bounds the printed function answers true. -/
import Derived.Test.YtfaoeafmgigpcaaFCodeTellsx2
import Derived.OpenShut
import Derived.Test.YtfaoeafmgigpcaaTk
import Derived.Test.YtfaoeafmgigpcaaCo
namespace Go.Proofs.Ytfaoeafmgigpcaa.Pure
open Go.RowKit Go.Proofs.Ytfaoeafmgigpcaa.FCodeTells Go.Proofs.YtfaoeafmgigpcaaW.PrintWords Go.Proofs.YtfaoeafmgigpcaaW.PrintLast Go.Proofs.Ytfaoeafmgigpcaa.Tk Go.Proofs.Ytfaoeafmgigpcaa.Co
set_option linter.unusedVariables false
set_option linter.unusedSimpArgs false

namespace CodeTellsB
theorem cclean_s (c : Int) : code_Clean.f c = some (cc c) := by
  unfold code_Clean.f code_Right.f cc
  by_cases h : c ≥ 0
  · by_cases h2 : c < 17
    · rw [if_pos h, decide_eq_true h2, if_pos ⟨h, h2⟩]; rfl
    · rw [if_pos h, decide_eq_false h2, if_neg (by omega)]; rfl
  · rw [if_neg h, if_neg (by omega)]; rfl
theorem crank_s (c : Int) : code_rank.f c = some (rk (cc c)) := by
  have h0 := cc_lo c; have h1 := cc_hi c
  unfold code_rank.f; simp only [cclean_s, Option.bind_some]; rw [w64 (by omega) (by omega)]; unfold rk; (repeat' split) <;> rfl
theorem cjoin_s (a b : Int) : code_Join.f a b = some (jn a b) := by
  unfold code_Join.f; simp only [cclean_s, crank_s, Option.bind_some, cc_cc]; unfold jn; split <;> rfl
theorem ctext_s (c : Int) : code_Text.f c = some (code_nm (cc c)) := by
  unfold code_Text.f; simp only [cclean_s, Option.bind_some]; rw [if_pos (cc_lo c), if_pos (cc_hi c)]
theorem cagain_s (c : Int) : code_Again.f c = some (decide (c = 14 ∨ c = 8)) := by
  unfold code_Again.f
  by_cases h : c = 14
  · rw [if_pos h]; simp [h]
  · rw [if_neg h]; congr 1; rw [Bool.eq_iff_iff]; simp [h]
theorem awake_s : hourglasslaw05_awake.f = some true := by
  unfold hourglasslaw05_awake.f; simp only [cjoin_s, ctext_s, cagain_s, Option.bind_some]; decide +kernel
theorem rright_s (c : Int) : hourglassref05_Right.f c = code_Right.f c := by
  unfold hourglassref05_Right.f code_Right.f; split
  · congr 1; rw [decide_eq_decide]; omega
  · rfl
theorem rcclean_s (c : Int) : hourglassref05_Clean.f c = some (cc c) := by
  have := cclean_s c; unfold code_Clean.f at this; unfold hourglassref05_Clean.f; rw [rright_s]; exact this
theorem rctext_s (c : Int) : hourglassref05_Text.f c = some (code_nm (cc c)) := by
  have h0 := cc_lo c; have h1 := cc_hi c
  unfold hourglassref05_Text.f; simp only [rcclean_s, Option.bind_some]; rw [if_pos h0, if_pos (by simpa using h1)]; rfl
theorem place_l (k : Nat) : ∀ (a : Int) (L : List Int) (i : Int), hourglassref05_place.l0 k a L i = hourglassref05_place.l0 k (cc a) L i := by
  induction k with
  | zero => intro a L i; rfl
  | succ k ih => intro a L i; simp only [hourglassref05_place.l0, rcclean_s, Option.bind_some, cc_cc]; rw [ih]
theorem place_s (k : Nat) (hk : 18 ≤ k) (a : Int) : hourglassref05_place.f k a = some (pl (cc a)) := by
  refine at_rounds (g := fun k => hourglassref05_place.f k a) (fun k => hourglassref05_place.mono a k) hk ?_
  show hourglassref05_place.f 18 a = some (pl (cc a))
  unfold hourglassref05_place.f; rw [place_l]
  rcases upto17 (cc_lo a) (cc_hi a) with h | h | h | h | h | h | h | h | h | h | h | h | h | h | h | h | h <;> rw [h] <;> decide +kernel
theorem rcjoin_s (k : Nat) (hk : 18 ≤ k) (a b : Int) : hourglassref05_Join.f k a b = some (jn a b) := by
  unfold hourglassref05_Join.f; simp only [place_s k hk, rcclean_s, Option.bind_some]
  have := pl_rk (cc_lo a) (cc_hi a) (cc_lo b) (cc_hi b)
  unfold jn
  by_cases h : pl (cc a) < pl (cc b)
  · rw [if_pos h, if_pos (this.1 h)]
  · rw [if_neg h, if_neg (fun q => h (this.2 q))]
end CodeTellsB
open CodeTellsB

theorem rparse_l (s : ByteArray) (d : Nat) : ∀ (k : Nat) (i : Nat), i + d = 17 → d < k → hourglassref05_Parse.l0 k s i = some ((code_find s d i).1, (code_find s d i).2 == 0) := by
  induction d with
  | zero =>
    intro k i hi hk
    obtain ⟨k, rfl⟩ : ∃ j, k = j + 1 := ⟨k - 1, by omega⟩
    simp only [hourglassref05_Parse.l0]; rw [if_neg (by omega)]; rfl
  | succ d ih =>
    intro k i hi hk
    obtain ⟨k, rfl⟩ : ∃ j, k = j + 1 := ⟨k - 1, by omega⟩
    have w : wrap64 ((i : Int) + 1) = ((i + 1 : Nat) : Int) := by rw [w64 (by omega) (by omega)]; rfl
    simp only [hourglassref05_Parse.l0, rctext_s, Option.bind_some, code_find]
    rw [if_pos (by omega), cc_id (by omega) (by omega), w, ih k (i + 1) (by omega) (by omega)]
    split <;> rfl
theorem find_two (s : ByteArray) (d : Nat) : ∀ i : Nat, (code_find s d i).2 = 0 ∨ (code_find s d i).2 = 10 := by
  induction d with
  | zero => intro i; exact Or.inr rfl
  | succ d ih => intro i; simp only [code_find]; split
                 · exact Or.inl rfl
                 · exact ih _
theorem of_same (x : Int) : ∃ v, code_Of.f 30 x = some v ∧ hourglassref05_Of.f 30 x = some v := by
  have e : hourglassref05_Of.f 30 x = code_Of.f 30 x := by
    unfold hourglassref05_Of.f code_Of.f; simp only [hourglassref05_Of.j0, code_Of.j0]
  rw [e]
  have : ∃ v, code_Of.f 30 x = some v := by
    unfold code_Of.f; simp only [code_Of.j0]; (repeat' split) <;> exact ⟨_, rfl⟩
  obtain ⟨v, hv⟩ := this
  exact ⟨v, hv, hv⟩
theorem CodeTells : hourglasslaw05_CodeTells.Pure := by
  intro a b s e _ _ _ he
  refine ⟨31, ?_⟩
  have bi := bounds_i16 he
  have pz := rparse_l s 17 31 0 (by omega) (by omega)
  have f2 := find_two s 17 0
  unfold hourglasslaw05_CodeTells.f hourglassref05_Parse.f code_Parse.f
  rw [show ((0 : Nat) : Int) = 0 from rfl] at pz
  simp only [pz, rright_s, cclean_s, rcclean_s, ctext_s, rctext_s, cagain_s, Option.bind_some]
  generalize code_find s 17 0 = r at f2 ⊢
  have rr : ∃ t, code_Right.f a = some t := by unfold code_Right.f; split <;> exact ⟨_, rfl⟩
  obtain ⟨t, ht⟩ := rr
  rw [ht]; simp only [Option.bind_some]
  rw [if_neg (by simp), if_pos trivial, if_pos trivial]
  obtain ⟨v, v1, v2⟩ := of_same (wrap64 e)
  have main : hourglasslaw05_CodeTells.j0 31 a b e r.1 r.2 r.1 (r.2 == 0) false = some true := by
    rw [hourglasslaw05_CodeTells.j0, if_neg (by simp), if_pos rfl, if_pos (by simp)]
    simp only [cjoin_s, rcjoin_s 30 (by decide), v1, v2, awake_s, Option.bind_some, if_true]
    rcases f2 with q | q
    · rw [q]; rfl
    · rw [q]; rfl
  by_cases h14 : a = 14
  · have : (decide (a = 14 ∨ a = 8) != true) = false := by simp [h14]
    rw [if_pos h14, this]; exact main
  · have : (decide (a = 14 ∨ a = 8) != (a == 8)) = false := by
      by_cases h8 : a = 8
      · simp [h8]
      · simp [h8, h14]
    rw [if_neg h14, this]; exact main

end Go.Proofs.Ytfaoeafmgigpcaa.Pure
