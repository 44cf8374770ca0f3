/- The example of law 4. No condition. -/
import Derived.Test.YtijohhdgecadnaaSp1
import Derived.Test.YtijohhdgecadnaaProg
import Derived.KernelRfl
import Derived.Test.YtijohhdgecadnaaCn24
import Derived.Test.YtijohhdgecadnaaAv16
namespace Go.Proofs.Ytijohhdgecadnaa.Cn
open Go Go.Proofs Go.Proofs.Ytijohhdgecadnaa.Av Go.Proofs.Ytijohhdgecadnaa.Sp
set_option linter.unusedVariables false
set_option linter.unusedSimpArgs false
set_option maxRecDepth 100000
attribute [local irreducible] Fv Fp

/-- (The strings as variables of a lemma: `generalize` is undone in the term that the kernel sees.) -/
theorem awake04_of (u v y : ByteArray) (n1 : Fv Try.prog 15 [.int .i64 258, .int .i64 3] (.str u)) (b1 : strEq u ⟨#[0, 1, 2]⟩ = true)
    (f1 : Fv Try.prog 19 [.bool true] (.str v)) (b2 : strEq v ⟨#[1]⟩ = true)
    (f2 : Fp Try.prog 20 [.str ⟨#[0, 1, 2]⟩] [] [] (.ptr 0 0, [some [.str ⟨#[0, 1, 2]⟩, .int .i64 0]], []))
    (f3 : Fp Try.prog 26 [.ptr 0 0, .int .i64 3] [[.str ⟨#[0, 1, 2]⟩, .int .i64 0]] [] (.int .i64 258, [some [.str y, .int .i64 0]], [])) :
    Fv Try.prog 14 [] (.bool true) := by
  refine Fv.of_awp Try.func14 rfl (by kernel_rfl) rfl (Nat.le_of_ble_eq_true rfl) ?_
  repeat' (conv => whnf
           first
           | (refine And.intro (by kernel_rfl) ?_)
           | (refine And.intro ⟨by kernel_rfl, by kernel_rfl⟩ ?_)
           | (refine Or.inl ⟨_, n1, ?_⟩)
           | (refine ⟨_, n1, ?_⟩)
           | (refine Or.inl ⟨_, f1, ?_⟩)
           | (refine ⟨_, f1, ?_⟩)
           | (refine Or.inr ⟨_, f2, ?_⟩)
           | (refine Or.inr ⟨_, f3, ?_⟩)
           | (refine cond_1 b1 ?_)
           | (refine cond_f ?_ ?_)
           | (refine ⟨_, ⟨by decide, rfl⟩, ?_⟩)
           | (refine cond_i (fun h => ?_) (fun h => ?_)))
  all_goals (conv => whnf)
  all_goals rw [b2]
theorem law04_awake : Fv Try.prog 14 [] (.bool true) := by
  have f1 : Fv Try.prog 19 [.bool true] (.str ⟨#[1]⟩) := by
    refine Fv.of_awp Try.func19 rfl (by kernel_rfl) rfl (Nat.le_of_ble_eq_true rfl) ?_
    repeat' (conv => whnf
             first
             | (refine And.intro (by kernel_rfl) ?_)
             | (refine And.intro ⟨by kernel_rfl, by kernel_rfl⟩ ?_)
             | (refine cond_f ?_ ?_)
             | (refine ⟨_, ⟨by decide, rfl⟩, ?_⟩)
             | (refine cond_i (fun h => ?_) (fun h => ?_)))
    all_goals (conv => whnf)
    all_goals rfl
  have f3 := num_ok ⟨#[0, 1, 2]⟩ 3 (Nat.le_of_ble_eq_true (by kernel_rfl)) (by omega)
  have e3 : numOf (ByteArray.extract ⟨#[0, 1, 2]⟩ 0 3) 0 3 = 258 := by decide +kernel
  rw [e3] at f3
  exact awake04_of ⟨#[0, 1, 2]⟩ ⟨#[1]⟩ _ num_258 (strEq_self _) f1 (strEq_self _) (pr_Open ⟨#[0, 1, 2]⟩) f3
end Go.Proofs.Ytijohhdgecadnaa.Cn
