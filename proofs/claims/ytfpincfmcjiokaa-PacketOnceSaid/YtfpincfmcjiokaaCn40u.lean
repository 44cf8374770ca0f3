
/- Contracts: units. No condition. -/
import Derived.Test.YtfpincfmcjiokaaSp1
import Derived.Test.YtfpincfmcjiokaaSp11
import Derived.Test.YtfpincfmcjiokaaProg
import Derived.Test.YtfpincfmcjiokaaAv16
import Derived.KernelRfl
namespace Go.Proofs.Ytfpincfmcjiokaa.Cn
open Go Go.Proofs Go.Proofs.Ytfpincfmcjiokaa.Av Go.Proofs.Ytfpincfmcjiokaa.Sp
set_option linter.unusedVariables false
set_option linter.unusedSimpArgs false
set_option maxRecDepth 100000
attribute [local irreducible] Fv Fp

theorem timeout_unit (c : Int) : Fv Try.prog 60 [.int .u8 c] (.int .i64 (unitI c)) := by
  refine Fv.of_awp Try.func60 rfl (by kernel_rfl) rfl (Nat.le_of_ble_eq_true rfl) ?_
  unfold unitI
  repeat' (conv => whnf
           first
           | (refine And.intro (by kernel_rfl) ?_)
           | (refine And.intro ⟨by kernel_rfl, by kernel_rfl⟩ ?_)
           | (refine cond_f ?_ ?_)
           | (refine ⟨_, ⟨by decide, rfl⟩, ?_⟩)
           | (refine cond_i (fun h => ?_) (fun h => ?_)))
  all_goals (conv => whnf)
  all_goals
    simp only [beq_iff_eq, beq_eq_false_iff_ne, ne_eq] at *
    first
      | (subst_vars; rfl)
      | (simp only [*, if_false]; done)
      | (simp only [*, if_false]; rfl)
theorem ref02_Unit (c : Int) : Fv Try.prog 48 [.int .u8 c] (.int .i64 (unitI c)) := by
  refine Fv.of_awp Try.func48 rfl (by kernel_rfl) rfl (Nat.le_of_ble_eq_true rfl) ?_
  unfold unitI
  repeat' (conv => whnf
           first
           | (refine And.intro (by kernel_rfl) ?_)
           | (refine And.intro ⟨by kernel_rfl, by kernel_rfl⟩ ?_)
           | (refine cond_f ?_ ?_)
           | (refine ⟨_, ⟨by decide, rfl⟩, ?_⟩)
           | (refine cond_i (fun h => ?_) (fun h => ?_)))
  all_goals (conv => whnf)
  all_goals
    simp only [beq_iff_eq, beq_eq_false_iff_ne, ne_eq] at *
    first
      | (subst_vars; rfl)
      | (simp only [*, if_false]; done)
      | (simp only [*, if_false]; rfl)
end Go.Proofs.Ytfpincfmcjiokaa.Cn
