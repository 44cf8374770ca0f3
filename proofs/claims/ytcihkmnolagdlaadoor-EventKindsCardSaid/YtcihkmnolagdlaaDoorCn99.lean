/- Contracts: numbers as text, texts joined (out of the shelf); an event's line, the example. No condition but that numbers are of 64 bits. -/
import Derived.Test.YtcihkmnolagdlaaDoorSp1
import Derived.Test.YtcihkmnolagdlaaDoorCn0
import Derived.Test.YtcihkmnolagdlaaDoorSh
import Derived.Test.YtcihkmnolagdlaaDoorSp21
import Derived.Test.YtcihkmnolagdlaaDoorCn98
import Derived.Test.YtcihkmnolagdlaaDoorProg
import Derived.KernelRfl
import Derived.Test.YtcihkmnolagdlaaDoorAv17
import Derived.Test.YtcihkmnolagdlaaDoorAv18
namespace Go.Proofs.YtcihkmnolagdlaaDoor.Cn
open Go Go.Proofs Go.Proofs.YtcihkmnolagdlaaDoor.Av Go.Proofs.YtcihkmnolagdlaaDoor.Sp
set_option linter.unusedVariables false
set_option linter.unusedSimpArgs false
set_option linter.unusedSectionVars false
set_option maxRecDepth 100000
attribute [local irreducible] Fv Fp

theorem itoa_small (n : Nat) (h : n < 10) : Lib.itoa (n : Int) = [UInt8.ofNat (48 + n)] := by
  unfold Lib.itoa
  rw [if_neg (by omega)]
  show Lib.decDigits n = _
  rw [Lib.decDigits, dif_pos h]
theorem ev_Line9 : Fv Tryd.prog 39 [.agg exEv.g] (.str lineB) := by
  have n1 : Fv Tryd.prog 53 [.int .i64 7] (.str ⟨#[55]⟩) := by have := ev_Itoa 7 (by omega); rw [show Lib.itoa 7 = [55] from itoa_small 7 (by omega)] at this; exact this
  have n2 : Fv Tryd.prog 53 [.int .i64 2] (.str ⟨#[50]⟩) := by have := ev_Itoa 2 (by omega); rw [show Lib.itoa 2 = [50] from itoa_small 2 (by omega)] at this; exact this
  have n3 : Fv Tryd.prog 53 [.int .i64 9] (.str ⟨#[57]⟩) := by have := ev_Itoa 9 (by omega); rw [show Lib.itoa 9 = [57] from itoa_small 9 (by omega)] at this; exact this
  have n4 : Fv Tryd.prog 57 [.sl [[.str ⟨#[55]⟩], [.str ⟨#[99, 114, 97, 115, 104, 101, 100]⟩], [.str ⟨#[97, 116]⟩], [.str ⟨#[50]⟩], [.str ⟨#[57]⟩]], .str ⟨#[32]⟩] (.str lineB) :=
    ev_Join ⟨#[55]⟩ [⟨#[99, 114, 97, 115, 104, 101, 100]⟩, ⟨#[97, 116]⟩, ⟨#[50]⟩, ⟨#[57]⟩] ⟨#[32]⟩ (by decide) (by decide +kernel)
  have n5 := ev_Name9
  refine Fv.of_awp Tryd.func39 rfl (by kernel_rfl) rfl (Nat.le_of_ble_eq_true rfl) ?_
  repeat' (conv => whnf
           first
           | (refine And.intro (by kernel_rfl) ?_)
           | (refine And.intro ⟨by kernel_rfl, by kernel_rfl⟩ ?_)
           | (refine Or.inl ⟨_, n1, ?_⟩)
           | (refine ⟨_, n1, ?_⟩)
           | (refine Or.inl ⟨_, n2, ?_⟩)
           | (refine ⟨_, n2, ?_⟩)
           | (refine Or.inl ⟨_, n3, ?_⟩)
           | (refine ⟨_, n3, ?_⟩)
           | (refine Or.inl ⟨_, n5, ?_⟩)
           | (refine ⟨_, n5, ?_⟩)
           | (refine Or.inl ⟨_, n4, ?_⟩)
           | (refine ⟨_, n4, ?_⟩)
           | (refine cond_f ?_ ?_)
           | (refine ⟨_, ⟨by decide, rfl⟩, ?_⟩)
           | (refine cond_i (fun h => ?_) (fun h => ?_)))
  all_goals (conv => whnf)
  all_goals rfl
theorem law25_awake : Fv Tryd.prog 10 [] (.bool true) :=
  awake_of lineB exEv.g (strEq_self _) ev_Line9 (ev_Of [exEv] 9 (by decide))
end Go.Proofs.YtcihkmnolagdlaaDoor.Cn
