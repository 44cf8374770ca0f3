
/- A span that is told as text, and read again; budgets. No condition. -/
import Derived.Test.YtfacmphjplablaaDoorSp12
namespace Go.Proofs.YtfacmphjplablaaDoor.Sp
open Go Go.Proofs.YtfacmphjplablaaDoor.Av
set_option linter.unusedVariables false

theorem dd_small {n : Nat} (h : n < 10) : Lib.decDigits n = [UInt8.ofNat (48 + n)] := by rw [Lib.decDigits]; rw [dif_pos h]
theorem dd_more {n : Nat} (h : ¬ n < 10) : Lib.decDigits n = Lib.decDigits (n / 10) ++ [UInt8.ofNat (48 + n % 10)] := by rw [Lib.decDigits]; rw [dif_neg h]
theorem dd_len : ∀ (k n : Nat), n < 10 ^ (k + 1) → 1 ≤ (Lib.decDigits n).length ∧ (Lib.decDigits n).length ≤ k + 1
  | 0, n, h => by rw [dd_small (by simpa using h)]; simp
  | k + 1, n, h => by
    by_cases h1 : n < 10
    · rw [dd_small h1]; simp
    · rw [dd_more h1]
      have := dd_len k (n / 10) (by rw [Nat.pow_succ] at h; omega)
      simp only [List.length_append, List.length_cons, List.length_nil]; omega
theorem u8_small {n : Nat} (h : n < 256) : (UInt8.ofNat n).toNat = n := by rw [UInt8.toNat_ofNat']; exact Nat.mod_eq_of_lt h
theorem dd_dig (n : Nat) : ∀ b ∈ Lib.decDigits n, 48 ≤ b.toNat ∧ b.toNat ≤ 57 := by
  induction n using Nat.strongRecOn with
  | _ n ih =>
    intro b hb
    by_cases h : n < 10
    · rw [dd_small h] at hb
      rw [List.mem_singleton.1 hb, u8_small (by omega)]; omega
    · rw [dd_more h] at hb
      rcases List.mem_append.1 hb with hb | hb
      · exact ih (n / 10) (by omega) b hb
      · rw [List.mem_singleton.1 hb, u8_small (by omega)]; omega
def stp (a : Int) (b : UInt8) : Int := a * 10 + ((b.toNat : Int) - 48)
theorem dd_val (n : Nat) : (Lib.decDigits n).foldl stp 0 = n := by
  induction n using Nat.strongRecOn with
  | _ n ih =>
    by_cases h : n < 10
    · rw [dd_small h]
      simp only [List.foldl_cons, List.foldl_nil, stp, u8_small (show 48 + n < 256 by omega)]; omega
    · rw [dd_more h, List.foldl_append, ih (n / 10) (by omega)]
      simp only [List.foldl_cons, List.foldl_nil, stp, u8_small (show 48 + n % 10 < 256 by omega)]; omega
theorem byteAt_get (s : ByteArray) (k : Nat) (h : k < s.data.toList.length) : byteAt s k = ((s.data.toList[k]).toNat : Int) := by
  unfold byteAt; rw [List.getD_eq_getElem?_getD, List.getElem?_eq_getElem h]; rfl
theorem decN_take (s : ByteArray) : ∀ (k : Nat), k ≤ s.data.toList.length → decN s k = (s.data.toList.take k).foldl stp 0
  | 0, _ => rfl
  | k + 1, h => by
    rw [decN_succ, decN_take s k (by omega), List.take_succ_eq_append_getElem (by omega), List.foldl_append, byteAt_get s k (by omega)]
    rfl
theorem okD_take (s : ByteArray) (k : Nat) (h : k ≤ s.data.toList.length) (hd : ∀ b ∈ s.data.toList.take k, 48 ≤ b.toNat ∧ b.toNat ≤ 57) : okD s k = true := by
  unfold okD
  rw [List.all_eq_true]
  intro i hi
  have hi : i < k := by simpa using hi
  unfold dig
  have := hd (s.data.toList[i]'(by omega)) (List.mem_of_getElem? (i := i) (by rw [List.getElem?_take, if_pos hi]; exact List.getElem?_eq_getElem (by omega)))
  rw [byteAt_get s i (by omega)]
  simp only [decide_eq_true_eq]; omega
theorem txt_size {n : Int} (h : 0 ≤ n ∧ n ≤ 99999999) (c : UInt8) : 2 ≤ (txt n c).size ∧ (txt n c).size ≤ 9 := by
  have := dd_len 7 n.toNat (by omega)
  unfold txt; rw [strL_size, List.length_append]; simp only [List.length_cons, List.length_nil]; omega
theorem txt_last (n : Int) (c : UInt8) : byteAt (txt n c) ((txt n c).size - 1) = (c.toNat : Int) := by
  unfold txt
  rw [strL_size, List.length_append, byteAt_strL]
  simp only [List.length_cons, List.length_nil, Nat.add_sub_cancel]
  rw [List.getD_eq_getElem?_getD, List.getElem?_append_right (Nat.le_refl _)]
  simp
theorem mulT_id {n u : Int} (h1 : 0 ≤ n) (h2 : 0 ≤ u) (h3 : n ≤ 1125899906842624) (h4 : u ≤ 1125899906842624) (h5 : n * u ≤ 1125899906842624) : mulT n u = n * u := by
  unfold mulT
  rw [clamp_id ⟨h1, h3⟩, clamp_id ⟨h2, h4⟩, clamp_id ⟨Int.mul_nonneg h1 h2, h5⟩]
theorem dec_txt {n : Int} (h : 0 ≤ n ∧ n ≤ 99999999) (c : UInt8) (hc : (c.toNat : Int) ≠ 110) (hu : unitI c.toNat ≠ 0) (hm : n * unitI c.toNat ≤ 1125899906842624) : dec (txt n c) = (n * unitI c.toNat, 0) := by
  have hz := txt_size h c
  have hl := txt_last n c
  have hsz : (txt n c).size - 1 = (Lib.decDigits n.toNat).length := by unfold txt; rw [strL_size, List.length_append]; simp
  have htk : (txt n c).data.toList.take ((txt n c).size - 1) = Lib.decDigits n.toNat := by
    rw [hsz]; unfold txt; rw [strL_list, List.take_left]
  have hlen : (txt n c).size - 1 ≤ (txt n c).data.toList.length := by rw [size_list]; omega
  have hok : okD (txt n c) ((txt n c).size - 1) = true := okD_take _ _ hlen (by rw [htk]; exact dd_dig _)
  have hN : decN (txt n c) ((txt n c).size - 1) = n := by rw [decN_take _ _ hlen, htk, dd_val]; omega
  have hub := unit_bd c.toNat
  unfold dec
  rw [if_neg (by omega), if_neg (by rw [hok]; simp), hl, if_neg hc, if_neg hu, hN, mulT_id h.1 hub.1 (by omega) (by omega) hm]
/-- The unit of a time's text. -/
def un (c : Int) : Int := if c ≤ 99999999 then 1 else if c / 1000 ≤ 99999999 then 1000 else if c / 1000000 ≤ 99999999 then 1000000 else 60000000
def uc (c : Int) : UInt8 := if c ≤ 99999999 then 117 else if c / 1000 ≤ 99999999 then 109 else if c / 1000000 ≤ 99999999 then 83 else 77
theorem enc_eq (t : Int) : enc t = txt (clamp t / un (clamp t)) (uc (clamp t)) := by
  have hc := clamp_bd t
  unfold enc un uc
  split
  · rw [Int.ediv_one]
  · split
    · rfl
    · split
      · rfl
      · rw [if_pos (by omega)]
theorem uc_facts (c : Int) : unitI (uc c).toNat = un c ∧ ((uc c).toNat : Int) ≠ 110 ∧ (un c = 1 ∨ un c = 1000 ∨ un c = 1000000 ∨ un c = 60000000) := by
  unfold uc un
  (repeat' split) <;> exact ⟨by decide, by decide, by decide⟩
theorem un_quot {c : Int} (h : 0 ≤ c ∧ c ≤ 1125899906842624) : 0 ≤ c / un c ∧ c / un c ≤ 99999999 ∧ c / un c * un c ≤ c ∧ c - c / un c * un c < un c ∧ 0 ≤ c / un c * un c := by
  unfold un
  (repeat' split) <;> omega
theorem dec_enc (t : Int) : dec (enc t) = (clamp t / un (clamp t) * un (clamp t), 0) := by
  have hc := clamp_bd t
  obtain ⟨q1, q2, q3, q4, q5⟩ := un_quot hc
  obtain ⟨u1, u2, u3⟩ := uc_facts (clamp t)
  rw [enc_eq, dec_txt ⟨q1, q2⟩ _ u2 (by rw [u1]; omega) (by rw [u1]; omega), u1]
theorem cut_eq (t : Int) : cut t = clamp t / un (clamp t) * un (clamp t) := by unfold cut; rw [dec_enc]
theorem cut_bd (t : Int) : 0 ≤ cut t ∧ cut t ≤ clamp t ∧ clamp t - cut t < un (clamp t) := by
  obtain ⟨q1, q2, q3, q4, q5⟩ := un_quot (clamp_bd t)
  rw [cut_eq]; omega
theorem un_again {c : Int} (h : 0 ≤ c ∧ c ≤ 1125899906842624) : c / un c * un c / un (c / un c * un c) * un (c / un c * un c) = c / un c * un c := by
  unfold un
  (repeat' split) <;> omega
theorem cut_cut (t : Int) : cut (cut t) = cut t := by
  have hb := cut_bd t
  have hc := clamp_bd t
  have e : clamp (cut t) = cut t := clamp_id (by omega)
  rw [cut_eq (cut t), e, cut_eq t]
  exact un_again hc
theorem cut_small (t : Int) (h : clamp t ≤ 99999999) : cut t = clamp t := by
  rw [cut_eq]; unfold un; rw [if_pos h]; omega
theorem clamp_mono {a b : Int} (h : a ≤ b) : clamp a ≤ clamp b := by unfold clamp; (repeat' split) <;> omega
theorem un_le {x y : Int} (hx : 0 ≤ x) (hxy : x ≤ y) (hy : y ≤ 1125899906842624) : x / un x * un x ≤ y / un y * un y ∨ 100000000000000 ≤ y := by
  unfold un
  (repeat' split) <;> omega
theorem cut_rise {a b : Int} (h : a ≤ b) : cut a ≤ cut b ∨ 100000000000000 ≤ clamp b := by
  rw [cut_eq, cut_eq]
  exact un_le (clamp_bd a).1 (clamp_mono h) (clamp_bd b).2
theorem enc_size (t : Int) : 2 ≤ (enc t).size ∧ (enc t).size ≤ 9 := by
  obtain ⟨q1, q2, _⟩ := un_quot (clamp_bd t)
  rw [enc_eq]; exact txt_size ⟨q1, q2⟩ _
theorem enc_unit (t : Int) : unitI (byteAt (enc t) ((enc t).size - 1)) = un (clamp t) := by
  rw [enc_eq, txt_last, (uc_facts (clamp t)).1]
/-! Budgets. -/
def dl (a : Int) (s : ByteArray) : Int × Int := if (dec s).2 ≠ 0 then (0, (dec s).2) else (add a (dec s).1, 0)
def enoughD (d n l : Int) : Bool := decide (sub d n > 0) && decide (sub d n ≥ clamp l)
def next (d n : Int) : Int := add n (cut (sub d n))
theorem sub_bd (a b : Int) : 0 ≤ sub a b ∧ sub a b ≤ 1125899906842624 := by have := clamp_bd a; have := clamp_bd b; unfold sub; split <;> omega
theorem dl_enc (a t : Int) : dl a (enc t) = (add a (cut t), 0) := by
  unfold dl; rw [dec_enc]; simp only [ne_eq, not_true_eq_false, if_false]; rw [← cut_eq]
theorem next_clamp (d n : Int) : next (clamp d) n = next d n := by unfold next sub; rw [clamp_clamp]
theorem next_bd (d n : Int) : clamp (next d n) = next d n := by unfold next add; rw [clamp_clamp]
theorem next_past {d n : Int} (h : clamp d ≤ clamp n) : next d n = clamp n ∧ sub d n = 0 := by
  have hs : sub d n = 0 := by unfold sub; split <;> omega
  refine ⟨?_, hs⟩
  unfold next
  have hc0 : cut 0 = 0 := by rw [cut_eq]; decide
  rw [hs, hc0]
  unfold add
  rw [show clamp 0 = 0 from by decide, Int.add_zero, clamp_clamp]
theorem next_ahead {d n : Int} (h : clamp n < clamp d) : next d n = clamp n + cut (clamp d - clamp n) ∧ sub d n = clamp d - clamp n ∧ clamp (clamp d - clamp n) = clamp d - clamp n := by
  have hd := clamp_bd d
  have hn := clamp_bd n
  have hs : sub d n = clamp d - clamp n := by unfold sub; split <;> omega
  have hc : clamp (clamp d - clamp n) = clamp d - clamp n := clamp_id (by omega)
  refine ⟨?_, hs, hc⟩
  have hb := cut_bd (clamp d - clamp n)
  rw [hc] at hb
  unfold next add
  rw [hs, clamp_id (n := cut _) (by omega), clamp_id (by omega)]
theorem next_le {d n : Int} (h : clamp n ≤ d) (hd : 0 ≤ d ∧ d ≤ 1125899906842624) : next d n ≤ d ∧ 0 ≤ next d n := by
  have hn := clamp_bd n
  have ed := clamp_id hd
  by_cases h1 : clamp d ≤ clamp n
  · have := (next_past h1).1; omega
  · obtain ⟨e, _, hc⟩ := next_ahead (d := d) (n := n) (by omega)
    have hb := cut_bd (clamp d - clamp n)
    rw [hc] at hb
    omega
end Go.Proofs.YtfacmphjplablaaDoor.Sp
