/- Plain facts on waits that double: the wait behind so many attempts, and what a jitter takes off. No condition. -/
import Derived.Test.YteioecdfimphaaaTk
namespace Go.Proofs.Yteioecdfimphaaa.Bo
open Go.RowKit Go.Proofs.Yteioecdfimphaaa.Tk
set_option linter.unusedVariables false

/-- Doubled so many times, never above the greatest time. -/
def rep : Nat → Int → Int
  | 0, x => x
  | n + 1, x => rep n (cl (x + x))
theorem dbl_le {x : Int} (h0 : 0 ≤ x) (h1 : x ≤ 1125899906842624) : x ≤ cl (x + x) := by
  have := cl_mono (show x ≤ x + x by omega); rw [cl_id h0 h1] at this; exact this
theorem rep_bd (n : Nat) : ∀ x : Int, 0 ≤ x → x ≤ 1125899906842624 → x ≤ rep n x ∧ rep n x ≤ 1125899906842624 := by
  induction n with
  | zero => intro x _ h1; exact ⟨Int.le_refl _, h1⟩
  | succ n ih =>
    intro x h0 h1
    have h := ih (cl (x + x)) (cl_lo _) (cl_hi _)
    have d := dbl_le h0 h1
    simp only [rep]; omega
theorem rep_more (n : Nat) : ∀ x : Int, 0 ≤ x → x ≤ 1125899906842624 → rep n x ≤ rep (n + 1) x := by
  induction n with
  | zero => intro x h0 h1; exact dbl_le h0 h1
  | succ n ih => intro x h0 h1; exact ih (cl (x + x)) (cl_lo _) (cl_hi _)
theorem rep_rise {x : Int} (h0 : 0 ≤ x) (h1 : x ≤ 1125899906842624) (n d : Nat) : rep n x ≤ rep (n + d) x := by
  induction d with
  | zero => exact Int.le_refl _
  | succ d ih => exact Int.le_trans ih (rep_more (n + d) x h0 h1)
/-- How many times it is doubled. -/
def nn (att : Int) : Nat := (if 64 < (if att < 1 then 1 else att) - 1 then 64 else (if att < 1 then 1 else att) - 1).toNat
theorem nn_mono {a b : Int} (h : a ≤ b) : nn a ≤ nn b := by unfold nn; (repeat' split) <;> omega
def stp (b m att : Int) : Int := if cl m < rep (nn att) (cl b) then cl m else rep (nn att) (cl b)
theorem stp_lo (b m att : Int) : 0 ≤ stp b m att := by
  have := (rep_bd (nn att) (cl b) (cl_lo b) (cl_hi b)).1; have := cl_lo b; have := cl_lo m; unfold stp; split <;> omega
theorem stp_hi (b m att : Int) : stp b m att ≤ 1125899906842624 := by
  have := (rep_bd (nn att) (cl b) (cl_lo b) (cl_hi b)).2; have := cl_hi m; unfold stp; split <;> omega
theorem stp_mono (b m : Int) {x y : Int} (h : x ≤ y) : stp b m x ≤ stp b m y := by
  obtain ⟨d, hd⟩ : ∃ d, nn y = nn x + d := ⟨nn y - nn x, by have := nn_mono h; omega⟩
  have := rep_rise (cl_lo b) (cl_hi b) (nn x) d
  unfold stp; rw [hd]; split <;> split <;> omega
def jc (j : Int) : Int := if j < 0 then 0 else if 1000 < j then 1000 else j
theorem jc_lo (j : Int) : 0 ≤ jc j := by unfold jc; (repeat' split) <;> omega
theorem jc_hi (j : Int) : jc j ≤ 1000 := by unfold jc; (repeat' split) <;> omega
theorem jc_mono {a b : Int} (h : a ≤ b) : jc a ≤ jc b := by unfold jc; (repeat' split) <;> omega
def dly (s j : Int) : Int := s - s / 2 * jc j / 1000
theorem off_lo {s J : Int} (h0 : 0 ≤ s) (hJ : 0 ≤ J) : 0 ≤ s / 2 * J / 1000 := Int.ediv_nonneg (Int.mul_nonneg (by omega) hJ) (by omega)
theorem off_hi {s J : Int} (h0 : 0 ≤ s) (hJ : J ≤ 1000) : s / 2 * J / 1000 ≤ s / 2 := by
  have h : s / 2 * J ≤ s / 2 * 1000 := Int.mul_le_mul_of_nonneg_left hJ (by omega)
  omega
theorem dly_anti {s j k : Int} (h0 : 0 ≤ s) (h : j ≤ k) : dly s k ≤ dly s j := by
  have m : s / 2 * jc j ≤ s / 2 * jc k := Int.mul_le_mul_of_nonneg_left (jc_mono h) (by omega)
  have := Int.ediv_le_ediv (c := 1000) (by omega) m
  unfold dly; omega
theorem dly_lo {s : Int} (h0 : 0 ≤ s) (j : Int) : s - s / 2 ≤ dly s j := by
  have := off_hi h0 (jc_hi j); unfold dly; omega
theorem dly_hi {s : Int} (h0 : 0 ≤ s) (j : Int) : dly s j ≤ s := by
  have := off_lo h0 (jc_lo j); unfold dly; omega
theorem dly_none (s : Int) : dly s 0 = s := by unfold dly jc; simp
theorem dly_all (s : Int) : dly s 1000 = s - s / 2 := by
  have e : jc 1000 = 1000 := by decide
  unfold dly; rw [e]; omega
theorem off_parts (h J : Int) : h / 1000 * J + h % 1000 * J / 1000 = h * J / 1000 := by
  have e : h * J = h % 1000 * J + h / 1000 * J * 1000 := by
    have e1 := Int.mul_ediv_add_emod h 1000
    have e2 : h / 1000 * J * 1000 = 1000 * (h / 1000) * J := by rw [Int.mul_comm (h / 1000 * J) 1000, Int.mul_assoc]
    rw [e2, ← Int.add_mul]; congr 1; omega
  rw [e, Int.add_mul_ediv_right _ _ (by omega), Int.add_comm]
end Go.Proofs.Yteioecdfimphaaa.Bo
