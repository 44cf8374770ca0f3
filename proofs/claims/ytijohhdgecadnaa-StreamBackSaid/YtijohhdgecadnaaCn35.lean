
/- The example of law 38. No condition. -/
import Derived.Test.YtijohhdgecadnaaSp1
import Derived.Test.YtijohhdgecadnaaProg
import Derived.KernelRfl
import Derived.Test.YtijohhdgecadnaaCn34
import Derived.Test.YtijohhdgecadnaaAv16
namespace Go.Proofs.Ytijohhdgecadnaa.Cn
open Go Go.Proofs Go.Proofs.Ytijohhdgecadnaa.Av Go.Proofs.Ytijohhdgecadnaa.Sp
set_option linter.unusedVariables false
set_option linter.unusedSimpArgs false
set_option maxRecDepth 100000
attribute [local irreducible] Fv Fp

set_option maxHeartbeats 4000000 in
theorem awake38_of (s0 s1 s2 x u : ByteArray) (k : Int)
    (n0 : Fp Try.prog 30 [] [] [] (.ptr 0 0, [some [.str s0, .bool false, .int .i64 0]], []))
    (n1 : Fp Try.prog 32 [.ptr 0 0, .str ⟨#[0, 0, 0, 0, 2, 97]⟩] [[.str s0, .bool false, .int .i64 0]] [] (.tup [.own 0 0 0, .int .i64 0], [some [.str s1, .bool false, .int .i64 0]], [some []]))
    (n2 : Fp Try.prog 32 [.ptr 0 0, .str ⟨#[98]⟩] [[.str s1, .bool false, .int .i64 0]] [] (.tup [.own 0 0 1, .int .i64 0], [some [.str s2, .bool false, .int .i64 0]], [some [[.str x, .bool false]]]))
    (n3 : Fv Try.prog 39 [.agg [.str ⟨#[97, 98]⟩, .bool false]] (.str u))
    (n4 : Fp Try.prog 33 [.ptr 0 0] [[.str s2, .bool false, .int .i64 0]] [] (.int .i64 k, [some [.str s2, .bool false, .int .i64 0]], []))
    (n5 : Fp Try.prog 36 [.ptr 0 0] [[.str s2, .bool false, .int .i64 0]] [] (.bool false, [some [.str s2, .bool false, .int .i64 0]], []))
    (b1 : strEq u ⟨#[0, 0, 0, 0, 2, 97, 98]⟩ = true) (b2 : strEq x ⟨#[97, 98]⟩ = true) (b3 : (k == 0) = true) :
    Fv Try.prog 31 [] (.bool true) := by
  have f1 : (0 : Int) ≤ 0 ∧ (0 : Int) < ((1 : Nat) : Int) ∧ ([[G.str x, G.bool false]] : List (List G))[(0 : Nat) + Int.toNat 0]? = some [.str x, .bool false] := ⟨by omega, by omega, rfl⟩
  have f2 : ([[G.str x, G.bool false]] : List (List G))[(0 : Nat) + Int.toNat 0]? = some [.str x, .bool false] := rfl
  refine Fv.of_awp Try.func31 rfl (by kernel_rfl) rfl (Nat.le_of_ble_eq_true rfl) ?_
  repeat' (conv => whnf
           first
           | (refine And.intro (by kernel_rfl) ?_)
           | (refine And.intro ⟨by kernel_rfl, by kernel_rfl⟩ ?_)
           | (refine Or.inr ⟨_, n0, ?_⟩)
           | (refine Or.inr ⟨_, n1, ?_⟩)
           | (refine Or.inr ⟨_, n2, ?_⟩)
           | (refine Or.inl ⟨_, n3, ?_⟩)
           | (refine ⟨_, n3, ?_⟩)
           | (refine Or.inr ⟨_, n4, ?_⟩)
           | (refine Or.inr ⟨_, n5, ?_⟩)
           | (refine cond_1 b1 ?_)
           | (refine cond_1 b2 ?_)
           | (refine cond_1 b3 ?_)
           | (refine ⟨_, f1, ?_⟩)
           | (refine ⟨_, f2, ?_⟩)
           | (refine cond_f ?_ ?_)
           | (refine ⟨_, ⟨by decide, rfl⟩, ?_⟩)
           | (refine cond_i (fun h => ?_) (fun h => ?_)))
  all_goals (conv => whnf)
  all_goals rfl
theorem law38_awake : Fv Try.prog 31 [] (.bool true) := by
  have e1 : feedM ⟨emptyB, false, 0⟩ ⟨#[0, 0, 0, 0, 2, 97]⟩ = ([], ⟨⟨#[0, 0, 0, 0, 2, 97]⟩, false, 0⟩) := by kernel_rfl
  have e2 : feedM ⟨⟨#[0, 0, 0, 0, 2, 97]⟩, false, 0⟩ ⟨#[98]⟩ = ([⟨⟨#[97, 98]⟩, false⟩], ⟨⟨#[]⟩, false, 0⟩) := by kernel_rfl
  have n1 := st_Feed ⟨emptyB, false, 0⟩ ⟨#[0, 0, 0, 0, 2, 97]⟩ rfl (show 6 < 4611686018427387904 by omega) (by rw [e1]; decide)
  have n2 := st_Feed ⟨⟨#[0, 0, 0, 0, 2, 97]⟩, false, 0⟩ ⟨#[98]⟩ rfl (show 7 < 4611686018427387904 by omega) (by rw [e2]; decide)
  rw [e1] at n1
  rw [e2] at n2
  exact awake38_of _ _ _ _ _ _ st_New n1 n2 (st_Pack ⟨⟨#[97, 98]⟩, false⟩) (st_Left ⟨⟨#[]⟩, false, 0⟩) (st_Over ⟨⟨#[]⟩, false, 0⟩) (by
    have e : packB ⟨⟨#[97, 98]⟩, false⟩ = ⟨#[0, 0, 0, 0, 2, 97, 98]⟩ := by kernel_rfl
    rw [e]; exact strEq_self _) (strEq_self _) rfl
end Go.Proofs.Ytijohhdgecadnaa.Cn
