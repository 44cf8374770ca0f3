/- Law 2: any text's span, any span's text. No condition. -/
import Derived.Test.YtfpincfmcjiokaaDoorCn44
namespace Go.Proofs.YtfpincfmcjiokaaDoor.Cn
open Go Go.Proofs Go.Proofs.YtfpincfmcjiokaaDoor.Av Go.Proofs.YtfpincfmcjiokaaDoor.Sp
set_option linter.unusedVariables false
set_option linter.unusedSimpArgs false
set_option maxRecDepth 100000
attribute [local irreducible] Fv Fp

theorem awake02_of (u : ByteArray) (n1 : Fv Tryd.prog 9 [.str ⟨#[53, 83]⟩] (.tup [.int .i64 5000000, .int .i64 0])) (n2 : Fv Tryd.prog 11 [.int .i64 100000000] (.str u)) (b1 : strEq u ⟨#[49, 48, 48, 48, 48, 48, 109]⟩ = true) :
    Fv Tryd.prog 13 [] (.bool true) := by
  refine Fv.of_awp Tryd.func13 rfl (by kernel_rfl) rfl (Nat.le_of_ble_eq_true rfl) ?_
  repeat' (conv => whnf
           first
           | (refine And.intro (by kernel_rfl) ?_)
           | (refine And.intro ⟨by kernel_rfl, by kernel_rfl⟩ ?_)
           | (refine Or.inl ⟨_, n1, ?_⟩)
           | (refine ⟨_, n1, ?_⟩)
           | (refine Or.inl ⟨_, n2, ?_⟩)
           | (refine ⟨_, n2, ?_⟩)
           | (refine cond_f ?_ ?_)
           | (refine ⟨_, ⟨by decide, rfl⟩, ?_⟩)
           | (refine cond_i (fun h => ?_) (fun h => ?_)))
  all_goals (conv => whnf)
  all_goals rw [b1]
theorem dec_100000 : Lib.decDigits 100000 = [49, 48, 48, 48, 48, 48] := by
  rw [dec_more (n := 100000) (by decide), dec_more (n := 100000 / 10) (by decide), dec_more (n := 100000 / 10 / 10) (by decide), dec_more (n := 100000 / 10 / 10 / 10) (by decide), dec_more (n := 100000 / 10 / 10 / 10 / 10) (by decide), dec_small (n := 100000 / 10 / 10 / 10 / 10 / 10) (by decide)]
  decide
theorem law02_awake : Fv Tryd.prog 13 [] (.bool true) := by
  have e1 : dec ⟨#[53, 83]⟩ = (5000000, 0) := by kernel_rfl
  have n1 := timeout_Decode ⟨#[53, 83]⟩
  rw [e1] at n1
  have e2 : enc 100000000 = ⟨#[49, 48, 48, 48, 48, 48, 109]⟩ := by
    have hc : clamp 100000000 = 100000000 := clamp_id (by omega)
    unfold enc
    rw [hc, if_neg (by omega), if_pos (by omega)]
    unfold txt
    rw [show ((100000000 : Int) / 1000).toNat = 100000 from by decide, dec_100000]
    rfl
  exact awake02_of _ n1 (timeout_Encode 100000000) (by rw [e2]; exact strEq_self _)
theorem tells02_of (s e : ByteArray) (t n f : Int) (n1 : Fv Tryd.prog 9 [.str s] (.tup [.int .i64 n, .int .i64 f])) (n2 : Fv Tryd.prog 10 [.str s] (.tup [.int .i64 n, .int .i64 f]))
    (n3 : Fv Tryd.prog 11 [.int .i64 t] (.str e)) (n4 : Fv Tryd.prog 12 [.int .i64 t] (.str e)) : Fv Tryd.prog 3 [.str s, .int .i64 t] (.bool true) := by
  have aw := law02_awake
  have b1 : (n == n) = true := by simp
  have b2 : (f == f) = true := by simp
  have b3 : strEq e e = true := strEq_self e
  refine Fv.of_awp Tryd.func3 rfl (by kernel_rfl) rfl (Nat.le_of_ble_eq_true rfl) ?_
  repeat' (conv => whnf
           first
           | (refine And.intro (by kernel_rfl) ?_)
           | (refine And.intro ⟨by kernel_rfl, by kernel_rfl⟩ ?_)
           | (refine Or.inl ⟨_, n1, ?_⟩)
           | (refine ⟨_, n1, ?_⟩)
           | (refine Or.inl ⟨_, n2, ?_⟩)
           | (refine ⟨_, n2, ?_⟩)
           | (refine Or.inl ⟨_, n3, ?_⟩)
           | (refine ⟨_, n3, ?_⟩)
           | (refine Or.inl ⟨_, n4, ?_⟩)
           | (refine ⟨_, n4, ?_⟩)
           | (refine cond_1 b1 ?_)
           | (refine cond_1 b2 ?_)
           | (refine cond_1 b3 ?_)
           | (refine Or.inl ⟨_, aw, ?_⟩)
           | (refine ⟨_, aw, ?_⟩)
           | (refine cond_f ?_ ?_)
           | (refine ⟨_, ⟨by decide, rfl⟩, ?_⟩)
           | (refine cond_i (fun h => ?_) (fun h => ?_)))
  all_goals (conv => whnf)
  all_goals rfl
theorem law02_TimeoutTells (s : ByteArray) (t : Int) : Fv Tryd.prog 3 [.str s, .int .i64 t] (.bool true) :=
  tells02_of s _ t _ _ (timeout_Decode s) (ref02_Decode s) (timeout_Encode t) (ref02_Encode t)
end Go.Proofs.YtfpincfmcjiokaaDoor.Cn
