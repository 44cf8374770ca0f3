
/- What the functions on times, codes and leases answer, as plain functions, with what is needed of them. No condition. -/
import Derived.Test.YtcihkmnolagdlaaDoorAv9
namespace Go.Proofs.YtcihkmnolagdlaaDoor.Sp
open Go
set_option linter.unusedVariables false

def clamp (n : Int) : Int := if n < 0 then 0 else if n > 1125899906842624 then 1125899906842624 else n
theorem clamp_bd (n : Int) : 0 ≤ clamp n ∧ clamp n ≤ 1125899906842624 := by unfold clamp; split <;> (try split) <;> omega
def add (a b : Int) : Int := clamp (clamp a + clamp b)
def sub (a b : Int) : Int := if clamp a < clamp b then 0 else clamp a - clamp b
def grain (g : Int) : Int := if clamp g = 0 then 1 else clamp g
theorem grain_bd (g : Int) : 1 ≤ grain g ∧ grain g ≤ 1125899906842624 := by unfold grain; have := clamp_bd g; split <;> omega
def up (t g : Int) : Int := clamp ((clamp t + grain g - 1) / grain g * grain g)
def past (now t g : Int) : Bool := decide (up t g ≤ clamp now)
def leaseEnds (a b : Int) : Int := if clamp a < clamp b then clamp a else clamp b
def leaseOver (now d u : Int) : Int := if clamp d ≤ clamp now then 4 else if clamp u ≤ clamp now then 1 else 0
def right (c : Int) : Bool := decide (0 ≤ c) && decide (c ≤ 16)
def clean (c : Int) : Int := if 0 ≤ c ∧ c ≤ 16 then c else 2
theorem clean_bd (c : Int) : 0 ≤ clean c ∧ clean c ≤ 16 := by unfold clean; split <;> omega
def rank (c : Int) : Int := if clean c = 0 then 0 else if clean c = 14 then 1 else if clean c = 8 then 2 else if clean c = 4 then 100 else if clean c = 1 then 101 else 10 + clean c
def join (a b : Int) : Int := if rank b > rank a then clean b else clean a

theorem clean_clean (c : Int) : clean (clean c) = clean c := by have := clean_bd c; generalize clean c = x at *; unfold clean; (repeat' split) <;> omega
theorem rank_clean (c : Int) : rank (clean c) = rank c := by unfold rank; rw [clean_clean]
def places : List Int := [0, 14, 8, 2, 3, 5, 6, 7, 9, 10, 11, 12, 13, 15, 16, 4, 1]
def place (c : Int) : Int := (places.idxOf (clean c) : Nat)
theorem place_lt (a b : Int) : place a < place b ↔ rank a < rank b := by
  have key : ∀ x : Fin 17, ∀ y : Fin 17, (((places.idxOf (x.val : Int) : Nat) : Int) < ((places.idxOf (y.val : Int) : Nat) : Int)) ↔ rank (x.val : Int) < rank (y.val : Int) := by decide +kernel
  have ha := clean_bd a
  have hb := clean_bd b
  have := key ⟨(clean a).toNat, by omega⟩ ⟨(clean b).toNat, by omega⟩
  simp only [Int.toNat_of_nonneg ha.1, Int.toNat_of_nonneg hb.1, rank_clean] at this
  exact this
def names : List ByteArray := [⟨#[79, 75]⟩, ⟨#[67, 65, 78, 67, 69, 76, 76, 69, 68]⟩, ⟨#[85, 78, 75, 78, 79, 87, 78]⟩, ⟨#[73, 78, 86, 65, 76, 73, 68, 95, 65, 82, 71, 85, 77, 69, 78, 84]⟩, ⟨#[68, 69, 65, 68, 76, 73, 78, 69, 95, 69, 88, 67, 69, 69, 68, 69, 68]⟩, ⟨#[78, 79, 84, 95, 70, 79, 85, 78, 68]⟩, ⟨#[65, 76, 82, 69, 65, 68, 89, 95, 69, 88, 73, 83, 84, 83]⟩, ⟨#[80, 69, 82, 77, 73, 83, 83, 73, 79, 78, 95, 68, 69, 78, 73, 69, 68]⟩, ⟨#[82, 69, 83, 79, 85, 82, 67, 69, 95, 69, 88, 72, 65, 85, 83, 84, 69, 68]⟩, ⟨#[70, 65, 73, 76, 69, 68, 95, 80, 82, 69, 67, 79, 78, 68, 73, 84, 73, 79, 78]⟩, ⟨#[65, 66, 79, 82, 84, 69, 68]⟩, ⟨#[79, 85, 84, 95, 79, 70, 95, 82, 65, 78, 71, 69]⟩, ⟨#[85, 78, 73, 77, 80, 76, 69, 77, 69, 78, 84, 69, 68]⟩, ⟨#[73, 78, 84, 69, 82, 78, 65, 76]⟩, ⟨#[85, 78, 65, 86, 65, 73, 76, 65, 66, 76, 69]⟩, ⟨#[68, 65, 84, 65, 95, 76, 79, 83, 83]⟩, ⟨#[85, 78, 65, 85, 84, 72, 69, 78, 84, 73, 67, 65, 84, 69, 68]⟩]
theorem up_exact {t g : Int} (hg : 1 ≤ g) (h : t % g = 0) : (t + g - 1) / g * g = t := by
  have e := Int.mul_ediv_add_emod t g
  have e2 : t + g - 1 = (g - 1) + g * (t / g) := by omega
  rw [e2, Int.add_mul_ediv_left _ _ (by omega), Int.ediv_eq_zero_of_lt (by omega) (by omega), Int.zero_add, Int.mul_comm]; omega
theorem up_more {t g : Int} (hg : 1 ≤ g) (h : t % g ≠ 0) : (t + g - 1) / g * g = t - t % g + g := by
  have e := Int.mul_ediv_add_emod t g
  have h1 := Int.emod_nonneg t (show g ≠ 0 by omega)
  have h2 := Int.emod_lt_of_pos t (show 0 < g by omega)
  have e1 : g * (t / g + 1) = g * (t / g) + g := by rw [Int.mul_add, Int.mul_one]
  have e2 : t + g - 1 = (t % g - 1) + g * (t / g + 1) := by omega
  rw [e2, Int.add_mul_ediv_left _ _ (by omega), Int.ediv_eq_zero_of_lt (by omega) (by omega), Int.zero_add, Int.mul_comm]; omega
theorem clamp_id {n : Int} (h : 0 ≤ n ∧ n ≤ 1125899906842624) : clamp n = n := by unfold clamp; (repeat' split) <;> omega
theorem wrap_i64 {n : Int} (h : -9223372036854775808 ≤ n ∧ n ≤ 9223372036854775807) : IntKind.i64.wrap n = n := by
  unfold IntKind.wrap IntKind.bits IntKind.signed
  simp only [Bool.true_and]
  split
  · rename_i h2; simp at h2; omega
  · rename_i h2; simp at h2; omega
end Go.Proofs.YtcihkmnolagdlaaDoor.Sp
