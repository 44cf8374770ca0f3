
/- Contracts: numbers as text, texts joined (out of the shelf); an event's line, the example. No condition but that numbers are of 64 bits. -/
import Derived.Test.YtcihkmnolagdlaaDoorSp1
import Derived.Test.YtcihkmnolagdlaaDoorCn0
import Derived.Test.YtcihkmnolagdlaaDoorSh
import Derived.Test.YtcihkmnolagdlaaDoorSp21
import Derived.Test.YtcihkmnolagdlaaDoorCn96
import Derived.Test.YtcihkmnolagdlaaDoorProg
import Derived.KernelRfl
import Derived.Test.YtcihkmnolagdlaaDoorAv17
import Derived.Test.YtcihkmnolagdlaaDoorAv18
namespace Go.Proofs.YtcihkmnolagdlaaDoor.Cn
open Go Go.Proofs Go.Proofs.YtcihkmnolagdlaaDoor.Av Go.Proofs.YtcihkmnolagdlaaDoor.Sp
set_option linter.unusedVariables false
set_option linter.unusedSimpArgs false
set_option linter.unusedSectionVars false
set_option maxRecDepth 100000
attribute [local irreducible] Fv Fp

def exEv : Ev := ⟨9, 7, 2, 9, ⟨⟨0, 0, 0⟩, 0⟩, ⟨⟨0, 0, 0⟩, 0⟩, ⟨0, 0, 0⟩, 0, 0, 0⟩
def lineB : ByteArray := ⟨#[55, 32, 99, 114, 97, 115, 104, 101, 100, 32, 97, 116, 32, 50, 32, 57]⟩
theorem awake_of (s : ByteArray) (r : List G) (e1 : strEq s ⟨#[55, 32, 99, 114, 97, 115, 104, 101, 100, 32, 97, 116, 32, 50, 32, 57]⟩ = true) (n1 : Fv Tryd.prog 39 [.agg exEv.g] (.str s))
    (n2 : Fv Tryd.prog 11 [.sl [exEv.g], .int .i64 9] (.sl [r])) : Fv Tryd.prog 10 [] (.bool true) := by
  refine Fv.of_awp Tryd.func10 rfl (by kernel_rfl) rfl (Nat.le_of_ble_eq_true rfl) ?_
  repeat' (conv => whnf
           first
           | (refine And.intro (by kernel_rfl) ?_)
           | (refine And.intro ⟨by kernel_rfl, by kernel_rfl⟩ ?_)
           | (refine Or.inl ⟨_, n1, ?_⟩)
           | (refine ⟨_, n1, ?_⟩)
           | (refine cond_1 e1 ?_)
           | (refine Or.inl ⟨_, n2, ?_⟩)
           | (refine ⟨_, n2, ?_⟩)
           | (refine cond_f ?_ ?_)
           | (refine ⟨_, ⟨by decide, rfl⟩, ?_⟩)
           | (refine cond_i (fun h => ?_) (fun h => ?_)))
  all_goals (conv => whnf)
  all_goals rfl
end Go.Proofs.YtcihkmnolagdlaaDoor.Cn
