/- Plain facts on retries: tokens, what is enough, when and why it is tried again, and how many attempts there may be. No condition but the named ones. -/
import Derived.Test.YteioecdfimphaaaBo
namespace Go.Proofs.Yteioecdfimphaaa.Po
open Go.RowKit Go.Proofs.Yteioecdfimphaaa.Tk Go.Proofs.Yteioecdfimphaaa.Bo
set_option linter.unusedVariables false

def full (t : Int) : Int := (if 1000 < (if t < 1 then 1 else t) then 1000 else (if t < 1 then 1 else t)) * 1000
theorem full_lo (t : Int) : 1000 ≤ full t := by unfold full; (repeat' split) <;> omega
theorem full_hi (t : Int) : full t ≤ 1000000 := by unfold full; (repeat' split) <;> omega
theorem full_even (t : Int) : full t % 1000 = 0 := by unfold full; omega
def cln (h t : Int) : Int := if full t < (if h < 0 then 0 else h) then full t else (if h < 0 then 0 else h)
theorem cln_lo (h t : Int) : 0 ≤ cln h t := by have := full_lo t; unfold cln; (repeat' split) <;> omega
theorem cln_hi (h t : Int) : cln h t ≤ full t := by unfold cln; (repeat' split) <;> omega
theorem cln_mono {a b : Int} (t : Int) (h : a ≤ b) : cln a t ≤ cln b t := by unfold cln; (repeat' split) <;> omega
def may (h t : Int) : Bool := decide (full t < 2 * cln h t)
def rdy (base most att jit push now : Int) : Int := if 0 ≤ push then ad now push else ad now (dly (stp base most att) jit)
def eno (dl now least : Int) : Bool := decide (0 < sb dl now ∧ cl least ≤ sb dl now)
def dec (base most attempts tokens least code att : Int) (com : Bool) (push have_ now dl jit : Int) : Int × Int :=
  if code = 14 ∨ code = 8 then (if com = true then (2, 0) else if attempts ≤ att then (3, 0) else if push = -1 then (4, 0) else
    if may have_ tokens = true then (if eno dl (rdy base most att jit push now) least = true then (0, rdy base most att jit push now) else (6, 0)) else (5, 0)) else (1, 0)
theorem rdy_lo (base most att jit push now : Int) : cl now ≤ rdy base most att jit push now := by
  unfold rdy; split <;> exact ad_ge _ _
theorem rdy_cl (base most att jit push now : Int) : cl (rdy base most att jit push now) = rdy base most att jit push now := by
  unfold rdy; split <;> exact cl_cl _
theorem may_mono {a b : Int} (t : Int) (h : a ≤ b) (hm : may a t = true) : may b t = true := by
  have := cln_mono t h; unfold may at *; simp at *; omega
theorem eno_mono {a b : Int} (now least : Int) (h : a ≤ b) (hm : eno a now least = true) : eno b now least = true := by
  have := sb_mono now h; unfold eno at *; simp at *; omega
/-- What it takes to be tried again. -/
theorem dec_zero {base most attempts tokens least code att : Int} {com : Bool} {push have_ now dl jit : Int} :
    (dec base most attempts tokens least code att com push have_ now dl jit).1 = 0 ↔
      (code = 14 ∨ code = 8) ∧ com = false ∧ att < attempts ∧ push ≠ -1 ∧ may have_ tokens = true ∧ eno dl (rdy base most att jit push now) least = true := by
  unfold dec
  by_cases h1 : code = 14 ∨ code = 8
  · rw [if_pos h1]
    by_cases h2 : com = true
    · rw [if_pos h2]; simp [h2]
    · rw [if_neg h2]
      by_cases h3 : attempts ≤ att
      · rw [if_pos h3]; simp; omega
      · rw [if_neg h3]
        by_cases h4 : push = -1
        · rw [if_pos h4]; simp [h4]
        · rw [if_neg h4]
          by_cases h5 : may have_ tokens = true
          · rw [if_pos h5]
            by_cases h6 : eno dl (rdy base most att jit push now) least = true
            · rw [if_pos h6]; simp [h1, h2, h4, h5, h6]; omega
            · rw [if_neg h6]; simp [h6]
          · rw [if_neg h5]; simp [h5]
  · rw [if_neg h1]; simp [h1]
theorem dec_at {base most attempts tokens least code att : Int} {com : Bool} {push have_ now dl jit : Int} (h : (dec base most attempts tokens least code att com push have_ now dl jit).1 = 0) :
    (dec base most attempts tokens least code att com push have_ now dl jit).2 = rdy base most att jit push now := by
  obtain ⟨h1, h2, h3, h4, h5, h6⟩ := dec_zero.1 h
  unfold dec; rw [if_pos h1, if_neg (by simp [h2]), if_neg (by omega), if_neg h4, if_pos h5, if_pos h6]
theorem dec_not {base most attempts tokens least code att : Int} {com : Bool} {push have_ now dl jit : Int} (h : (dec base most attempts tokens least code att com push have_ now dl jit).1 ≠ 0) :
    (dec base most attempts tokens least code att com push have_ now dl jit).2 = 0 ∧ 1 ≤ (dec base most attempts tokens least code att com push have_ now dl jit).1 ∧ (dec base most attempts tokens least code att com push have_ now dl jit).1 ≤ 6 := by
  unfold dec at *; (repeat' split) <;> simp_all

/-! ### how many attempts there may be -/
def mo (m : Int) : Nat → Int → Int → Int
  | 0, a, _ => a
  | n + 1, a, l => mo m n (ad a (ml l m)) (ml l m)
/-- Multiplied so many times. -/
def it (m : Int) : Nat → Int → Int
  | 0, x => x
  | n + 1, x => it m n (ml x m)
theorem it_snoc (m : Int) (n : Nat) : ∀ x : Int, it m (n + 1) x = ml (it m n x) m := by
  induction n with
  | zero => intro x; rfl
  | succ n ih => intro x; exact ih (ml x m)
def lv (hops : Int) : Nat := (if 16 < (if hops < 0 then 0 else hops) then 16 else (if hops < 0 then 0 else hops)).toNat
def pw (m : Int) : Nat → Int
  | 0 => 1
  | n + 1 => pw m n * m
def su (m : Int) : Nat → Int
  | 0 => 0
  | n + 1 => su m n + pw m (n + 1)
theorem pw_lo {m : Int} (h : 0 ≤ m) (n : Nat) : 0 ≤ pw m n := by
  induction n with
  | zero => exact (by decide : (0:Int) ≤ 1)
  | succ n ih => exact Int.mul_nonneg ih h
theorem su_lo {m : Int} (h : 0 ≤ m) (n : Nat) : 0 ≤ su m n := by
  induction n with
  | zero => exact (by decide : (0:Int) ≤ 0)
  | succ n ih => have := pw_lo h (n + 1); simp only [su]; omega
theorem su_step (m : Int) (n : Nat) : su m (n + 1) = m * (su m n + 1) := by
  induction n with
  | zero => simp [su, pw]
  | succ n ih =>
    have e : su m (n + 2) = su m (n + 1) + pw m (n + 1) * m := rfl
    have e2 : su m (n + 1) = su m n + pw m (n + 1) := rfl
    have e3 : su m (n + 1) + 1 = (su m n + 1) + pw m (n + 1) := by omega
    rw [e, e3, Int.mul_add m (su m n + 1), ← ih, Int.mul_comm m (pw m (n + 1))]
theorem pw_mono {a b : Int} (h0 : 0 ≤ a) (h : a ≤ b) (n : Nat) : pw a n ≤ pw b n := by
  induction n with
  | zero => exact Int.le_refl _
  | succ n ih => exact Int.mul_le_mul ih h h0 (pw_lo (by omega) n)
theorem su_mono {a b : Int} (h0 : 0 ≤ a) (h : a ≤ b) (n : Nat) : su a n ≤ su b n := by
  induction n with
  | zero => exact Int.le_refl _
  | succ n ih => have := pw_mono h0 h (n + 1); simp only [su]; omega
theorem cl_mul {x m : Int} (hx : 0 ≤ x) (hm : 0 ≤ m) (hm' : m ≤ 1125899906842624) : ml (cl x) m = cl (x * m) := by
  unfold ml; rw [cl_cl, cl_id hm hm']
  by_cases h : x ≤ 1125899906842624
  · rw [cl_id hx h]
  · rw [cl_top (a := x) (by omega)]
    by_cases hz : m = 0
    · subst hz; simp
    · have h1 : 1125899906842624 * 1 ≤ 1125899906842624 * m := Int.mul_le_mul_of_nonneg_left (by omega) (by omega)
      have h2 : x * 1 ≤ x * m := Int.mul_le_mul_of_nonneg_left (by omega) (by omega)
      rw [cl_top (by omega), cl_top (by omega)]
theorem cl_sum {x y : Int} (hx : 0 ≤ x) (hy : 0 ≤ y) : ad (cl x) (cl y) = cl (x + y) := by
  unfold ad; rw [cl_cl, cl_cl]
  by_cases h : x ≤ 1125899906842624
  · by_cases h' : y ≤ 1125899906842624
    · rw [cl_id hx h, cl_id hy h']
    · rw [cl_id hx h, cl_top (a := y) (by omega), cl_top (by omega), cl_top (by omega)]
  · have := cl_lo y; rw [cl_top (a := x) (by omega), cl_top (by omega), cl_top (by omega)]
theorem mo_sum {m : Int} (hm : 0 ≤ m) (hm' : m ≤ 1125899906842624) (n : Nat) : ∀ j : Nat, mo m n (cl (su m j)) (cl (pw m j)) = cl (su m (j + n)) := by
  induction n with
  | zero => intro j; rfl
  | succ n ih =>
    intro j
    simp only [mo]
    have e := cl_sum (su_lo hm j) (pw_lo hm (j + 1))
    rw [show pw m (j + 1) = pw m j * m from rfl] at e
    rw [cl_mul (pw_lo hm j) hm hm', e, show j + (n + 1) = (j + 1) + n from by omega]
    exact ih (j + 1)
theorem mo_all {m : Int} (hm : 0 ≤ m) (hm' : m ≤ 1125899906842624) (n : Nat) : mo m n 0 1 = cl (su m n) := by
  have := mo_sum hm hm' n 0
  rw [Nat.zero_add] at this
  exact this
def mst (fan att hops : Int) : Int := mo (ml fan att) (lv hops) 0 1
theorem ml_small {f a : Int} (hf : 0 ≤ f) (hf' : f ≤ 2000) (ha : 0 ≤ a) (ha' : a ≤ 1000) : ml f a = f * a ∧ 0 ≤ f * a ∧ f * a ≤ 2000000 := by
  have h1 : f * a ≤ 2000 * a := Int.mul_le_mul_of_nonneg_right hf' ha
  have h0 : 0 ≤ f * a := Int.mul_nonneg hf ha
  unfold ml; rw [cl_id hf (by omega), cl_id ha (by omega), cl_id h0 (by omega)]; exact ⟨rfl, h0, by omega⟩
theorem mst_small {f a h : Int} (hf : 0 ≤ f) (hf' : f ≤ 2000) (ha : 0 ≤ a) (ha' : a ≤ 1000) : mst f a h = cl (su (f * a) (lv h)) := by
  obtain ⟨e, e0, e1⟩ := ml_small hf hf' ha ha'
  unfold mst; rw [e]; exact mo_all e0 (by omega) _
theorem lv_of {h : Int} (h0 : 0 ≤ h) (h1 : h ≤ 16) : (lv h : Int) = h := by unfold lv; (repeat' split) <;> omega
/-- One hop more. -/
theorem mst_grows {f a h : Int} (hf : 0 ≤ f) (hf' : f ≤ 1000) (ha : 0 ≤ a) (ha' : a ≤ 1000) (h0 : 0 ≤ h) (h1 : h ≤ 15) :
    0 ≤ mst f a h ∧ mst f a h ≤ mst f a (h + 1) ∧ mst f a h ≤ mst (f + 1) a h ∧ (h = 0 → mst f a h = 0) ∧ (mst f a (h + 1) = 1125899906842624 ∨ (mst f a (h + 1) = f * a * (mst f a h + 1) ∧ mst f a (h + 1) < 1125899906842624 ∧ f * a ≤ 1000000)) := by
  have el := lv_of h0 (by omega : h ≤ 16); have el' := lv_of (by omega : 0 ≤ h + 1) (by omega : h + 1 ≤ 16)
  have es : lv (h + 1) = lv h + 1 := by omega
  obtain ⟨_, m0, m1⟩ := ml_small hf (by omega : f ≤ 2000) ha ha'
  have m1' : f * a ≤ 1000000 := by have : f * a ≤ 1000 * a := Int.mul_le_mul_of_nonneg_right hf' ha; omega
  rw [mst_small hf (by omega) ha ha', mst_small hf (by omega) ha ha', mst_small (f := f + 1) (by omega) (by omega) ha ha', es]
  have s0 := su_lo m0 (lv h); have s1 := su_lo m0 (lv h + 1); have p1 := pw_lo m0 (lv h + 1)
  refine ⟨cl_lo _, cl_mono (by simp only [su]; omega), cl_mono (su_mono m0 (by rw [Int.add_mul]; omega) _), fun hz => ?_, ?_⟩
  · have : lv h = 0 := by omega
    rw [this]; rfl
  · by_cases c : su (f * a) (lv h + 1) < 1125899906842624
    · right
      have st := su_step (f * a) (lv h)
      rw [cl_id s1 (by omega), st]
      rw [st] at c
      refine ⟨?_, c, m1'⟩
      by_cases hz : f * a = 0
      · rw [hz]; simp
      · have h2 : 1 * (su (f * a) (lv h) + 1) ≤ f * a * (su (f * a) (lv h) + 1) := Int.mul_le_mul_of_nonneg_right (by omega) (by omega)
        rw [cl_id s0 (by omega)]
    · left; exact cl_top (by omega)
end Go.Proofs.Yteioecdfimphaaa.Po
