
/- Contracts: a number as text, the library's and the document's; units. No condition but that numbers are of 64 bits. -/
import Derived.Test.YtfacmphjplablaaDoorSp1
import Derived.Test.YtfacmphjplablaaDoorSh
import Derived.Test.YtfacmphjplablaaDoorSp9
import Derived.Test.YtfacmphjplablaaDoorSp11
import Derived.Test.YtfacmphjplablaaDoorAv16
import Derived.Test.YtfacmphjplablaaDoorAv17
import Derived.KernelRfl
namespace Go.Proofs.YtfacmphjplablaaDoor.Cn
open Go Go.Proofs Go.Proofs.YtfacmphjplablaaDoor.Av Go.Proofs.YtfacmphjplablaaDoor.Sp
set_option linter.unusedVariables false
set_option linter.unusedSimpArgs false
set_option maxRecDepth 100000

theorem tab_of {w : World} {ex : Nat → Prop} (h : Fixed w ex) : Lib.TabIs Tryd.prog w "internal/strconv.uint64pow10" .u64 Lib.pow10Tab := by
  obtain ⟨_, _, T, fz, h3⟩ := h (0, _) (List.mem_singleton.2 rfl)
  unfold Lib.TabIs World.var?
  rw [show Tryd.prog.globalNamed "internal/strconv.uint64pow10" = some 0 from by kernel_rfl]
  simp only [Option.bind_some]
  rw [h3]
  rfl
theorem strconv_Itoa (n : Int) (h : -9223372036854775808 ≤ n ∧ n ≤ 9223372036854775807) : Fv Tryd.prog 114 [.int .i64 n] (.str (strL (Lib.itoa n))) := by
  refine Fv.of_calls (by kernel_rfl) fun C w vs hl hr hfx => ?_
  match vs, hl with
  | [v], _ =>
    obtain rfl := (hr 0 _ v rfl rfl).int_inv
    exact (Tryd.strconv_Itoa n h.1 h.2 w (tab_of hfx)).mono fun e w' ⟨he, k, os, hw⟩ => ⟨_, he, .str _, by rw [hw]; exact below_grown w k os⟩
attribute [local irreducible] Fv Fp
theorem dec_small {n : Nat} (h : n < 10) : Lib.decDigits n = [UInt8.ofNat (48 + n)] := by rw [Lib.decDigits]; rw [dif_pos h]
theorem dec_more {n : Nat} (h : ¬ n < 10) : Lib.decDigits n = Lib.decDigits (n / 10) ++ [UInt8.ofNat (48 + n % 10)] := by rw [Lib.decDigits]; rw [dif_neg h]
theorem dig_at {n : Nat} (h : n < 10) : (⟨#[48, 49, 50, 51, 52, 53, 54, 55, 56, 57]⟩ : ByteArray).extract n (n + 1) = strL [UInt8.ofNat (48 + n)] := by
  have : n = 0 ∨ n = 1 ∨ n = 2 ∨ n = 3 ∨ n = 4 ∨ n = 5 ∨ n = 6 ∨ n = 7 ∨ n = 8 ∨ n = 9 := by omega
  rcases this with rfl | rfl | rfl | rfl | rfl | rfl | rfl | rfl | rfl | rfl <;> exact ext_list (by decide +kernel)
theorem dec_len (n : Nat) : (Lib.decDigits n).length ≤ n + 1 := by
  induction n using Nat.strongRecOn with
  | _ n ih =>
    by_cases h : n < 10
    · rw [dec_small h]; simp
    · rw [dec_more h]
      have := ih (n / 10) (by omega)
      simp only [List.length_append, List.length_cons, List.length_nil]
      omega
theorem digits_small (n : Int) (h0 : 0 ≤ n) (h : n < 10) (d : ByteArray) (hd : (⟨#[48, 49, 50, 51, 52, 53, 54, 55, 56, 57]⟩ : ByteArray).extract n.toNat (IntKind.i64.wrap (n + 1)).toNat = d) : Fv Tryd.prog 78 [.int .i64 n] (.str d) := by
  have w1 : IntKind.i64.wrap (n + 1) = n + 1 := wrap_i64 (by omega)
  have b1 : decide (n < 10) = true := decide_eq_true h
  have f1 : 0 ≤ n ∧ n ≤ IntKind.i64.wrap (n + 1) ∧ IntKind.i64.wrap (n + 1) ≤ ((10 : Nat) : Int) := by rw [w1]; omega
  refine Fv.of_awp Tryd.func78 rfl (by kernel_rfl) rfl (Nat.le_of_ble_eq_true rfl) ?_
  repeat' (conv => whnf
           first
           | (refine And.intro (by kernel_rfl) ?_)
           | (refine And.intro ⟨by kernel_rfl, by kernel_rfl⟩ ?_)
           | (refine cond_1 b1 ?_)
           | (refine ⟨f1, ?_⟩)
           | (refine cond_f ?_ ?_)
           | (refine ⟨_, ⟨by decide, rfl⟩, ?_⟩)
           | (refine cond_i (fun h => ?_) (fun h => ?_)))
  all_goals (conv => whnf)
  all_goals rw [hd]
theorem digits_more (n q r : Int) (x d : ByteArray) (h : ¬ n < 10) (hq : IntKind.i64.wrap (n.tdiv 10) = q) (hr : n.tmod 10 = r) (h0 : 0 ≤ r ∧ r < 10) (hd : (⟨#[48, 49, 50, 51, 52, 53, 54, 55, 56, 57]⟩ : ByteArray).extract r.toNat (IntKind.i64.wrap (r + 1)).toNat = d)
    (n1 : Fv Tryd.prog 78 [.int .i64 q] (.str x)) (hz : ((x.size + d.size : Nat) : Int) ≤ 9223372036854775807) : Fv Tryd.prog 78 [.int .i64 n] (.str (x ++ d)) := by
  have w1 : IntKind.i64.wrap (r + 1) = r + 1 := wrap_i64 (by omega)
  have b1 : decide (n < 10) = false := decide_eq_false h
  have f1 : 0 ≤ r ∧ r ≤ IntKind.i64.wrap (r + 1) ∧ IntKind.i64.wrap (r + 1) ≤ ((10 : Nat) : Int) := by rw [w1]; omega
  subst hq hr hd
  refine Fv.of_awp Tryd.func78 rfl (by kernel_rfl) rfl (Nat.le_of_ble_eq_true rfl) ?_
  repeat' (conv => whnf
           first
           | (refine And.intro (by kernel_rfl) ?_)
           | (refine And.intro ⟨by kernel_rfl, by kernel_rfl⟩ ?_)
           | (refine cond_0 b1 ?_)
           | (refine Or.inl ⟨_, n1, ?_⟩)
           | (refine ⟨_, n1, ?_⟩)
           | (refine ⟨f1, ?_⟩)
           | (refine ⟨hz, ?_⟩)
           | (refine cond_f ?_ ?_)
           | (refine ⟨_, ⟨by decide, rfl⟩, ?_⟩)
           | (refine cond_i (fun h => ?_) (fun h => ?_)))
  all_goals (conv => whnf)
  all_goals rfl
theorem ref02_Digits (n : Nat) : n < 9223372036854775807 → Fv Tryd.prog 78 [.int .i64 (n : Int)] (.str (strL (Lib.decDigits n))) := by
  induction n using Nat.strongRecOn with
  | _ n ih =>
    intro hn
    have lit : ∀ r : Nat, r < 10 → (⟨#[48, 49, 50, 51, 52, 53, 54, 55, 56, 57]⟩ : ByteArray).extract ((r : Nat) : Int).toNat (IntKind.i64.wrap (((r : Nat) : Int) + 1)).toNat = strL [UInt8.ofNat (48 + r)] := fun r hr => by
      rw [wrap_i64 (by omega), show (((r : Nat) : Int) + 1).toNat = r + 1 from by omega, Int.toNat_natCast]; exact dig_at hr
    by_cases h : n < 10
    · rw [dec_small h]
      exact digits_small n (by omega) (by omega) _ (lit n h)
    · rw [dec_more h, ← strL_app]
      have hl := dec_len (n / 10)
      refine digits_more n ((n / 10 : Nat) : Int) ((n % 10 : Nat) : Int) _ _ (by omega) ?_ ?_ ⟨by omega, by omega⟩ (lit (n % 10) (by omega)) (ih (n / 10) (by omega) (by omega)) (by rw [strL_size, strL_size]; simp only [List.length_cons, List.length_nil]; omega)
      · rw [Int.tdiv_eq_ediv_of_nonneg (by omega), wrap_i64 (by omega)]; rfl
      · rw [Int.tmod_eq_emod_of_nonneg (by omega)]; rfl
theorem timeout_unit (c : Int) : Fv Tryd.prog 113 [.int .u8 c] (.int .i64 (unitI c)) := by
  refine Fv.of_awp Tryd.func113 rfl (by kernel_rfl) rfl (Nat.le_of_ble_eq_true rfl) ?_
  unfold unitI
  repeat' (conv => whnf
           first
           | (refine And.intro (by kernel_rfl) ?_)
           | (refine And.intro ⟨by kernel_rfl, by kernel_rfl⟩ ?_)
           | (refine cond_f ?_ ?_)
           | (refine ⟨_, ⟨by decide, rfl⟩, ?_⟩)
           | (refine cond_i (fun h => ?_) (fun h => ?_)))
  all_goals (conv => whnf)
  all_goals
    simp only [beq_iff_eq, beq_eq_false_iff_ne, ne_eq] at *
    first
      | (subst_vars; rfl)
      | (simp only [*, if_false]; done)
      | (simp only [*, if_false]; rfl)
theorem ref02_Unit (c : Int) : Fv Tryd.prog 77 [.int .u8 c] (.int .i64 (unitI c)) := by
  refine Fv.of_awp Tryd.func77 rfl (by kernel_rfl) rfl (Nat.le_of_ble_eq_true rfl) ?_
  unfold unitI
  repeat' (conv => whnf
           first
           | (refine And.intro (by kernel_rfl) ?_)
           | (refine And.intro ⟨by kernel_rfl, by kernel_rfl⟩ ?_)
           | (refine cond_f ?_ ?_)
           | (refine ⟨_, ⟨by decide, rfl⟩, ?_⟩)
           | (refine cond_i (fun h => ?_) (fun h => ?_)))
  all_goals (conv => whnf)
  all_goals
    simp only [beq_iff_eq, beq_eq_false_iff_ne, ne_eq] at *
    first
      | (subst_vars; rfl)
      | (simp only [*, if_false]; done)
      | (simp only [*, if_false]; rfl)
end Go.Proofs.YtfacmphjplablaaDoor.Cn
