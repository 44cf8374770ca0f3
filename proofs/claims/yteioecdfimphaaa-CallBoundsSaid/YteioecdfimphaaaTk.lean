/- Plain facts on saturated times: clamped sums, differences, products and multiples of a grain. No condition. -/
import Derived.RowKit
namespace Go.Proofs.Yteioecdfimphaaa.Tk
open Go.RowKit
set_option linter.unusedVariables false

def cl (a : Int) : Int := if a < 0 then 0 else if 1125899906842624 < a then 1125899906842624 else a
def ad (a b : Int) : Int := cl (cl a + cl b)
def sb (a b : Int) : Int := if cl a < cl b then 0 else cl a - cl b
def ml (a b : Int) : Int := cl (cl a * cl b)
def gr (g : Int) : Int := if cl g < 1 then 1 else cl g
def up (t g : Int) : Int := cl ((cl t + gr g - 1) / gr g * gr g)

theorem cl_lo (a : Int) : 0 ≤ cl a := by unfold cl; split <;> (try split) <;> omega
theorem cl_hi (a : Int) : cl a ≤ 1125899906842624 := by unfold cl; split <;> (try split) <;> omega
theorem cl_id {a : Int} (h0 : 0 ≤ a) (h1 : a ≤ 1125899906842624) : cl a = a := by unfold cl; rw [if_neg (by omega), if_neg (by omega)]
theorem cl_top {a : Int} (h : 1125899906842624 ≤ a) : cl a = 1125899906842624 := by unfold cl; split <;> (try split) <;> omega
theorem cl_le {a : Int} (h : 0 ≤ a) : cl a ≤ a := by unfold cl; split <;> (try split) <;> omega
theorem cl_mono {a b : Int} (h : a ≤ b) : cl a ≤ cl b := by unfold cl; split <;> split <;> (try split) <;> (try split) <;> omega
theorem cl_cl (a : Int) : cl (cl a) = cl a := cl_id (cl_lo a) (cl_hi a)
theorem gr_lo (g : Int) : 1 ≤ gr g := by unfold gr; split <;> omega
theorem gr_hi (g : Int) : gr g ≤ 1125899906842624 := by have := cl_hi g; unfold gr; split <;> omega

theorem w64 {n : Int} (h0 : -9223372036854775808 ≤ n) (h1 : n ≤ 9223372036854775807) : wrap64 n = n := by unfold wrap64; omega

theorem ad_lo (a b : Int) : 0 ≤ ad a b := cl_lo _
theorem ad_hi (a b : Int) : ad a b ≤ 1125899906842624 := cl_hi _
theorem ad_comm (a b : Int) : ad a b = ad b a := by unfold ad; rw [Int.add_comm]
theorem cl_add {x y z : Int} (hx : 0 ≤ x) (hy : 0 ≤ y) (hz : 0 ≤ z) : cl (cl (x + y) + z) = cl (x + cl (y + z)) := by
  have h1 : cl (x + y) = if 1125899906842624 < x + y then 1125899906842624 else x + y := by unfold cl; rw [if_neg (by omega)]
  have h2 : cl (y + z) = if 1125899906842624 < y + z then 1125899906842624 else y + z := by unfold cl; rw [if_neg (by omega)]
  rw [h1, h2]
  split <;> split
  · rw [cl_top (by omega), cl_top (by omega)]
  · rw [cl_top (by omega), cl_top (by omega)]
  · rw [cl_top (by omega), cl_top (by omega)]
  · rw [Int.add_assoc]
theorem ad_assoc (a b c : Int) : ad (ad a b) c = ad a (ad b c) := by
  unfold ad; rw [cl_cl, cl_cl]; exact cl_add (cl_lo a) (cl_lo b) (cl_lo c)
theorem ad_ge (a b : Int) : cl a ≤ ad a b := by
  have h1 := cl_lo a; have h2 := cl_hi a; have h3 := cl_lo b
  unfold ad; by_cases h : cl a + cl b ≤ 1125899906842624
  · rw [cl_id (a := cl a + cl b) (by omega) h]; omega
  · rw [cl_top (a := cl a + cl b) (by omega)]; omega
theorem ad_ge' (a b : Int) : cl b ≤ ad a b := by rw [ad_comm]; exact ad_ge b a
theorem ad_mono {a b : Int} (c : Int) (h : a ≤ b) : ad a c ≤ ad b c := cl_mono (by have := cl_mono h; omega)
theorem ad_mono' {a b : Int} (c : Int) (h : a ≤ b) : ad c a ≤ ad c b := cl_mono (by have := cl_mono h; omega)
theorem ad_sb (a b : Int) : ad a b = 1125899906842624 ∨ sb (ad a b) b = cl a := by
  have h1 := cl_lo a; have h2 := cl_hi a; have h3 := cl_lo b; have h4 := cl_hi b
  by_cases h : cl a + cl b ≤ 1125899906842624
  · right; unfold sb ad; rw [cl_cl, cl_id (by omega) h, if_neg (by omega)]; omega
  · left; unfold ad; exact cl_top (by omega)
theorem sb_lo (a b : Int) : 0 ≤ sb a b := by unfold sb; split <;> omega
theorem sb_hi (a b : Int) : sb a b ≤ cl a := by have := cl_lo a; have := cl_lo b; unfold sb; split <;> omega
theorem sb_mono {a b : Int} (c : Int) (h : a ≤ b) : sb a c ≤ sb b c := by have := cl_mono h; unfold sb; split <;> split <;> omega
theorem sb_anti {a b : Int} (c : Int) (h : a ≤ b) : sb c b ≤ sb c a := by have := cl_mono h; unfold sb; split <;> split <;> omega
theorem ml_mono {a b : Int} (c : Int) (h : a ≤ b) : ml a c ≤ ml b c := cl_mono (Int.mul_le_mul_of_nonneg_right (cl_mono h) (cl_lo c))

theorem quot_rise {T U G : Int} (hG : 1 ≤ G) (h : T ≤ U) : (T + G - 1) / G * G ≤ (U + G - 1) / G * G :=
  Int.mul_le_mul_of_nonneg_right (Int.ediv_le_ediv (by omega) (by omega)) (by omega)
theorem quot_lo {T G : Int} (hG : 1 ≤ G) : T ≤ (T + G - 1) / G * G := by
  have h1 := Int.mul_ediv_add_emod (T + G - 1) G
  have h2 := Int.emod_lt_of_pos (T + G - 1) (show 0 < G by omega)
  rw [Int.mul_comm] at h1; omega
theorem quot_hi {T G : Int} (hG : 1 ≤ G) : (T + G - 1) / G * G ≤ T + G - 1 := Int.ediv_mul_le _ (by omega)
theorem quot_at {q G : Int} (hG : 1 ≤ G) : (q * G + G - 1) / G = q := by
  have e : q * G + G - 1 = (G - 1) + q * G := by omega
  rw [e, Int.add_mul_ediv_right _ _ (by omega), Int.ediv_eq_zero_of_lt (by omega) (by omega)]; omega
theorem quot_on {T G : Int} (hG : 1 ≤ G) (h0 : 0 ≤ T) (h : T % G = 0) : (T + G - 1) / G * G = T := by
  have e := Int.mul_ediv_add_emod T G
  rw [h, Int.mul_comm] at e
  have e2 : T = T / G * G := by omega
  rw [e2]; rw [quot_at hG]
theorem quot_off {T G : Int} (hG : 1 ≤ G) (h : T % G ≠ 0) : (T + G - 1) / G * G = T - T % G + G := by
  have e := Int.mul_ediv_add_emod T G
  have l := Int.emod_nonneg T (show G ≠ 0 by omega)
  have u := Int.emod_lt_of_pos T (show 0 < G by omega)
  rw [Int.mul_comm] at e
  have e2 : T + G - 1 = (T % G - 1) + (T / G + 1) * G := by rw [Int.add_mul]; omega
  rw [e2, Int.add_mul_ediv_right _ _ (by omega), Int.ediv_eq_zero_of_lt (by omega) (by omega), Int.zero_add, Int.add_mul]; omega
theorem up_mono {a b : Int} (c : Int) (h : a ≤ b) : up a c ≤ up b c := cl_mono (quot_rise (gr_lo c) (cl_mono h))
theorem up_lo (t g : Int) : cl t ≤ up t g := by
  have h := cl_mono (quot_lo (T := cl t) (gr_lo g)); rw [cl_cl] at h; exact h
theorem up_hi (t g : Int) : up t g ≤ cl t + gr g - 1 := by
  have h := quot_hi (T := cl t) (gr_lo g); have l := quot_lo (T := cl t) (gr_lo g); have := cl_lo t
  have := cl_le (a := (cl t + gr g - 1) / gr g * gr g) (by omega)
  unfold up; omega
theorem up_eq (t g : Int) : (up t g = (cl t + gr g - 1) / gr g * gr g ∧ up t g ≤ 1125899906842624) ∨ up t g = 1125899906842624 := by
  have l := quot_lo (T := cl t) (gr_lo g); have := cl_lo t
  by_cases h : (cl t + gr g - 1) / gr g * gr g ≤ 1125899906842624
  · left; unfold up; rw [cl_id (by omega) h]; exact ⟨rfl, h⟩
  · right; unfold up; exact cl_top (by omega)
theorem up_up (t g : Int) : up (up t g) g = up t g ∨ up t g = 1125899906842624 := by
  rcases up_eq t g with ⟨h, hb⟩ | h
  · left
    have l : 0 ≤ up t g := cl_lo _
    have e : cl (up t g) = up t g := cl_id l hb
    show cl ((cl (up t g) + gr g - 1) / gr g * gr g) = up t g
    rw [e]; conv => lhs; rw [h]
    rw [quot_at (gr_lo g), ← h, e]
  · right; exact h
theorem up_mod (t g : Int) : up t g % gr g = 0 ∨ up t g = 1125899906842624 := by
  rcases up_eq t g with ⟨h, _⟩ | h
  · left; rw [h]; exact Int.mul_emod_left _ _
  · right; exact h

/-- The multiple, by its rest. -/
theorem up_rest (t g : Int) : up t g = if cl t % gr g = 0 then cl t else cl (cl t - cl t % gr g + gr g) := by
  unfold up
  split
  · rename_i h; rw [quot_on (gr_lo g) (cl_lo t) h, cl_cl]
  · rename_i h; rw [quot_off (gr_lo g) h]

/-- One round of a product by doubling. -/
theorem dbl_step {o a n : Int} (ho : 0 ≤ o) (ha : 0 ≤ a) (hn : 0 ≤ n) (q r : Int) (hq : n = 2 * q + r) (hq0 : 0 ≤ q) (hr : r = 0 ∨ r = 1) :
    cl (cl (o + r * a) + cl (a + a) * q) = cl (o + a * n) := by
  have ha0 : 0 ≤ r * a := by rcases hr with rfl | rfl <;> omega
  have en : a * n = 2 * (a * q) + r * a := by rw [hq, Int.mul_add, Int.mul_comm a r, ← Int.mul_assoc, Int.mul_comm a 2, Int.mul_assoc]
  have haq : 0 ≤ a * q := Int.mul_nonneg ha hq0
  have cut : ∀ {x y : Int}, 0 ≤ x → 0 ≤ y → cl (cl x + y) = cl (x + y) := by
    intro x y hx hy
    by_cases h : x ≤ 1125899906842624
    · rw [cl_id hx h]
    · rw [cl_top (a := x) (by omega), cl_top (by omega), cl_top (by omega)]
  by_cases h : a + a ≤ 1125899906842624
  · rw [cl_id (by omega) h, cut (by omega) (by rw [Int.add_mul]; omega), Int.add_mul, en]; congr 1; omega
  · have e : cl (a + a) = 1125899906842624 := cl_top (by omega)
    rw [e]
    by_cases hz : q = 0
    · subst hz; rw [Int.mul_zero, Int.add_zero, cl_cl, en, Int.mul_zero]; congr 1; omega
    · have h1 := cl_lo (o + r * a)
      have h2 : a * 1 ≤ a * q := Int.mul_le_mul_of_nonneg_left (by omega) ha
      rw [cl_top (a := o + a * n) (by omega), cl_top (by omega)]

end Go.Proofs.Yteioecdfimphaaa.Tk
