/- What is read of any bytes: both readers. No condition. -/
import Derived.Test.YtijohhdgecadnaaSp1
import Derived.Test.YtijohhdgecadnaaProg
import Derived.KernelRfl
import Derived.Test.YtijohhdgecadnaaCn22
import Derived.Test.YtijohhdgecadnaaAv16
namespace Go.Proofs.Ytijohhdgecadnaa.Cn
open Go Go.Proofs Go.Proofs.Ytijohhdgecadnaa.Av Go.Proofs.Ytijohhdgecadnaa.Sp
set_option linter.unusedVariables false
set_option linter.unusedSimpArgs false
set_option maxRecDepth 100000
attribute [local irreducible] Fv Fp

set_option maxHeartbeats 2000000 in
theorem does_num0 (n b b' a a' c c' : Int) (s s' S S' : ByteArray) (x : Int) (n1 : Fp Try.prog 26 [.ptr 0 0, .int .i64 n] [[.str s, .int .i64 b]] [] (.int .i64 x, [some [.str s', .int .i64 b']], [])) (n2 : Fp Try.prog 50 [.ptr 0 0, .int .i64 n] [[.str S, .int .i64 a, .int .i64 c]] [] (.int .i64 x, [some [.str S', .int .i64 a', .int .i64 c']], [])) :
    Fp Try.prog 21 [.ptr 0 0, .ptr 1 0, .agg [.int .i64 0, .int .i64 n]] [[.str s, .int .i64 b], [.str S, .int .i64 a, .int .i64 c]] [] (.bool true, [some [.str s', .int .i64 b'], some [.str S', .int .i64 a', .int .i64 c']], []) := by
  refine Fp.of_awp Try.func21 rfl (by kernel_rfl) (Nat.le_of_ble_eq_true rfl) ?_
  repeat' (conv => whnf
           first
           | (refine And.intro (by kernel_rfl) ?_)
           | (refine And.intro ⟨by kernel_rfl, by kernel_rfl⟩ ?_)
           | (refine Or.inr ⟨_, n1, ?_⟩)
           | (refine Or.inr ⟨_, n2, ?_⟩)
           | (refine cond_f ?_ ?_)
           | (refine ⟨_, ⟨by decide, rfl⟩, ?_⟩)
           | (refine cond_i (fun h => ?_) (fun h => ?_)))
  all_goals (conv => whnf)
  rw [beq_self_eq_true]
  rfl
set_option maxHeartbeats 2000000 in
theorem does_num1 (n b b' a a' c c' : Int) (s s' S S' : ByteArray) (x : Int) (n1 : Fp Try.prog 26 [.ptr 0 0, .int .i64 n] [[.str s, .int .i64 b]] [] (.int .i64 x, [some [.str s', .int .i64 b']], [])) (n2 : Fp Try.prog 50 [.ptr 0 0, .int .i64 n] [[.str S, .int .i64 a, .int .i64 c]] [] (.int .i64 x, [some [.str S', .int .i64 a', .int .i64 c']], [])) :
    Fp Try.prog 21 [.ptr 0 0, .ptr 1 0, .agg [.int .i64 1, .int .i64 n]] [[.str s, .int .i64 b], [.str S, .int .i64 a, .int .i64 c]] [] (.bool true, [some [.str s', .int .i64 b'], some [.str S', .int .i64 a', .int .i64 c']], []) := by
  refine Fp.of_awp Try.func21 rfl (by kernel_rfl) (Nat.le_of_ble_eq_true rfl) ?_
  repeat' (conv => whnf
           first
           | (refine And.intro (by kernel_rfl) ?_)
           | (refine And.intro ⟨by kernel_rfl, by kernel_rfl⟩ ?_)
           | (refine Or.inr ⟨_, n1, ?_⟩)
           | (refine Or.inr ⟨_, n2, ?_⟩)
           | (refine cond_f ?_ ?_)
           | (refine ⟨_, ⟨by decide, rfl⟩, ?_⟩)
           | (refine cond_i (fun h => ?_) (fun h => ?_)))
  all_goals (conv => whnf)
  rw [beq_self_eq_true]
  rfl
theorem law04_does (r : Rd) (d : Deed04) (h : r.fit) : Fp Try.prog 21 [.ptr 0 0, .ptr 1 0, .agg d.g] [r.gp, r.gr] [] (.bool true, [some (doesR r d).gp, some (doesR r d).gr], []) := by
  obtain ⟨k, n⟩ := d
  unfold doesR
  simp only
  by_cases k0 : k = 0
  · subst k0; rw [if_pos (.inl rfl)]
    exact does_num0 n _ _ _ _ _ _ _ _ _ _ _ (pr_Num r n h.1) (rr_Num r n h)
  · by_cases k1 : k = 1
    · subst k1; rw [if_pos (.inr rfl)]
      exact does_num1 n _ _ _ _ _ _ _ _ _ _ _ (pr_Num r n h.1) (rr_Num r n h)
    · rw [if_neg (by omega)]
      by_cases k2 : k = 2
      · subst k2; rw [if_pos rfl]
        exact does_text n _ _ _ _ _ _ _ _ _ _ _ (pr_Text r h.1) (rr_Text r h)
      · rw [if_neg k2]
        by_cases k3 : k = 3
        · subst k3; rw [if_pos rfl]
          exact does_flag n _ _ _ _ _ _ _ _ _ _ _ (pr_Flag r h.1) (rr_Flag r h)
        · rw [if_neg k3]
          by_cases k4 : k = 4
          · subst k4; rw [if_pos rfl]
            by_cases hn : 1 ≤ n ∧ n ≤ 11
            · rw [if_pos hn]
              exact does_fail n _ _ _ _ _ _ _ _ _ _ hn.1 hn.2 (pr_Fail r n) (rr_Fail r n)
            · rw [if_neg hn]
              exact does_none n r.bad 0 r.at' 0 r.bad 0 r.p r.p r.S r.S hn
          · rw [if_neg k4]
            by_cases k5 : k = 5
            · subst k5; rw [if_pos rfl]
              exact does_end n _ _ _ _ _ _ _ _ _ _ _ (pr_End r h.1) (rr_End r h)
            · rw [if_neg k5]
              exact does_other n r.bad 0 r.at' 0 r.bad 0 r.p r.p r.S r.S k k0 k1 k2 k3 k4 k5
end Go.Proofs.Ytijohhdgecadnaa.Cn
