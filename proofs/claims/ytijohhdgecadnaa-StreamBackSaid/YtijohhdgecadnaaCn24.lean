
/- The example of law 4. No condition. -/
import Derived.Test.YtijohhdgecadnaaSp1
import Derived.Test.YtijohhdgecadnaaProg
import Derived.KernelRfl
import Derived.Test.YtijohhdgecadnaaCn20
import Derived.Test.YtijohhdgecadnaaAv16
namespace Go.Proofs.Ytijohhdgecadnaa.Cn
open Go Go.Proofs Go.Proofs.Ytijohhdgecadnaa.Av Go.Proofs.Ytijohhdgecadnaa.Sp
set_option linter.unusedVariables false
set_option linter.unusedSimpArgs false
set_option maxRecDepth 100000
attribute [local irreducible] Fv Fp

set_option maxHeartbeats 4000000 in
theorem num_258 : Fv Try.prog 15 [.int .i64 258, .int .i64 3] (.str ⟨#[0, 1, 2]⟩) := by
  refine Fv.of_awp Try.func15 rfl (by kernel_rfl) rfl (Nat.le_of_ble_eq_true rfl) ?_
  have hb : Try.prog.bytesOf 5 = 1 := by kernel_rfl
  have hc : Try.prog.cellsOf 5 = 1 := by kernel_rfl
  have f : ((0 : Int) ≤ 3 ∧ (3 : Int) = 3 ∧ (3 : Int) * (Try.prog.bytesOf 5 : Nat) ≤ 281474976710656 ∧ (3 : Int) ≤ 281474976710656) := by rw [hb]; decide
  repeat' (conv => whnf
           first
           | (refine And.intro (by kernel_rfl) ?_)
           | (refine And.intro ⟨by kernel_rfl, by kernel_rfl⟩ ?_)
           | (refine ⟨f, ?_⟩)
           | (refine cond_f ?_ ?_)
           | (refine ⟨_, ⟨by decide, rfl⟩, ?_⟩)
           | (refine cond_i (fun h => ?_) (fun h => ?_)))
  all_goals (conv => whnf)
  refine Has.ofN 4 ?_
  repeat' (conv => whnf
           first
           | (refine And.intro (by kernel_rfl) ?_)
           | (refine And.intro ⟨by kernel_rfl, by kernel_rfl⟩ ?_)
           | (refine ⟨_, ⟨by decide, by decide, rfl⟩, ?_⟩)
           | (refine ⟨_, ⟨rfl, Nat.le_of_ble_eq_true (by kernel_rfl)⟩, ?_⟩)
           | (refine cond_f ?_ ?_)
           | (refine ⟨_, ⟨by decide, rfl⟩, ?_⟩)
           | (refine cond_i (fun h => ?_) (fun h => ?_)))
  all_goals (conv => whnf)
  refine ⟨Nat.le_of_ble_eq_true (by kernel_rfl), ?_⟩
  repeat' (conv => whnf
           first
           | (refine And.intro (by kernel_rfl) ?_)
           | (refine And.intro ⟨by kernel_rfl, by kernel_rfl⟩ ?_)
           | (refine ⟨([0, 1, 2] : List UInt8), by kernel_rfl, ?_⟩)
           | (refine cond_f ?_ ?_)
           | (refine ⟨_, ⟨by decide, rfl⟩, ?_⟩)
           | (refine cond_i (fun h => ?_) (fun h => ?_)))
  all_goals (conv => whnf)
  all_goals rfl
theorem reader_eq (s : ByteArray) : (⟨s, 0, 0⟩ : Rd).gp = [.str s, .int .i64 0] := by
  show [G.str (s.extract 0 s.size), .int .i64 0] = _
  rw [ByteArray.extract_zero_size]
end Go.Proofs.Ytijohhdgecadnaa.Cn
