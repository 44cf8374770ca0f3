/- What is read of any bytes: both readers. No condition. -/
import Derived.Test.YtijohhdgecadnaaSp1
import Derived.Test.YtijohhdgecadnaaProg
import Derived.KernelRfl
import Derived.Test.YtijohhdgecadnaaCn21
import Derived.Test.YtijohhdgecadnaaAv16
namespace Go.Proofs.Ytijohhdgecadnaa.Cn
open Go Go.Proofs Go.Proofs.Ytijohhdgecadnaa.Av Go.Proofs.Ytijohhdgecadnaa.Sp
set_option linter.unusedVariables false
set_option linter.unusedSimpArgs false
set_option maxRecDepth 100000
attribute [local irreducible] Fv Fp

structure _root_.Go.Proofs.Ytijohhdgecadnaa.Sp.Deed04 where
  kind : Int
  n : Int
def _root_.Go.Proofs.Ytijohhdgecadnaa.Sp.Deed04.g (d : Deed04) : List G := [.int .i64 d.kind, .int .i64 d.n]
def _root_.Go.Proofs.Ytijohhdgecadnaa.Sp.doesR (r : Rd) (d : Deed04) : Rd :=
  if d.kind = 0 ∨ d.kind = 1 then (rNum r d.n).1 else if d.kind = 2 then (rText r).1 else if d.kind = 3 then (rFlag r).1
  else if d.kind = 4 then (if 1 ≤ d.n ∧ d.n ≤ 11 then rFail r d.n else r) else if d.kind = 5 then rEnd r else r
theorem doesR_fit (r : Rd) (d : Deed04) (h : r.fit) : (doesR r d).fit := by
  have h1 := rNum_fit r d.n h
  have h2 : (rText r).1.fit := by
    have q := rNum_fit r 1 h
    refine ⟨rTake_ok _ _ q.1, ?_⟩
    unfold rText rTake
    (repeat' split) <;> exact q.2
  have h3 : (rFlag r).1.fit := rNum_fit r 1 h
  unfold doesR
  (repeat' split) <;> assumption
set_option maxHeartbeats 2000000 in
theorem does_text (n b b' a a' c c' : Int) (s s' S S' : ByteArray) (x : ByteArray) (n1 : Fp Try.prog 27 [.ptr 0 0] [[.str s, .int .i64 b]] [] (.str x, [some [.str s', .int .i64 b']], [])) (n2 : Fp Try.prog 51 [.ptr 0 0] [[.str S, .int .i64 a, .int .i64 c]] [] (.str x, [some [.str S', .int .i64 a', .int .i64 c']], [])) :
    Fp Try.prog 21 [.ptr 0 0, .ptr 1 0, .agg [.int .i64 2, .int .i64 n]] [[.str s, .int .i64 b], [.str S, .int .i64 a, .int .i64 c]] [] (.bool true, [some [.str s', .int .i64 b'], some [.str S', .int .i64 a', .int .i64 c']], []) := by
  refine Fp.of_awp Try.func21 rfl (by kernel_rfl) (Nat.le_of_ble_eq_true rfl) ?_
  repeat' (conv => whnf
           first
           | (refine And.intro (by kernel_rfl) ?_)
           | (refine And.intro ⟨by kernel_rfl, by kernel_rfl⟩ ?_)
           | (refine Or.inr ⟨_, n1, ?_⟩)
           | (refine Or.inr ⟨_, n2, ?_⟩)
           | (refine cond_f ?_ ?_)
           | (refine ⟨_, ⟨by decide, rfl⟩, ?_⟩)
           | (refine cond_i (fun h => ?_) (fun h => ?_)))
  all_goals (conv => whnf)
  rw [strEq_self]
  rfl
set_option maxHeartbeats 2000000 in
theorem does_flag (n b b' a a' c c' : Int) (s s' S S' : ByteArray) (x : Bool) (n1 : Fp Try.prog 28 [.ptr 0 0] [[.str s, .int .i64 b]] [] (.bool x, [some [.str s', .int .i64 b']], [])) (n2 : Fp Try.prog 52 [.ptr 0 0] [[.str S, .int .i64 a, .int .i64 c]] [] (.bool x, [some [.str S', .int .i64 a', .int .i64 c']], [])) :
    Fp Try.prog 21 [.ptr 0 0, .ptr 1 0, .agg [.int .i64 3, .int .i64 n]] [[.str s, .int .i64 b], [.str S, .int .i64 a, .int .i64 c]] [] (.bool true, [some [.str s', .int .i64 b'], some [.str S', .int .i64 a', .int .i64 c']], []) := by
  refine Fp.of_awp Try.func21 rfl (by kernel_rfl) (Nat.le_of_ble_eq_true rfl) ?_
  repeat' (conv => whnf
           first
           | (refine And.intro (by kernel_rfl) ?_)
           | (refine And.intro ⟨by kernel_rfl, by kernel_rfl⟩ ?_)
           | (refine Or.inr ⟨_, n1, ?_⟩)
           | (refine Or.inr ⟨_, n2, ?_⟩)
           | (refine cond_f ?_ ?_)
           | (refine ⟨_, ⟨by decide, rfl⟩, ?_⟩)
           | (refine cond_i (fun h => ?_) (fun h => ?_)))
  all_goals (conv => whnf)
  rw [beq_self_eq_true]
  rfl
set_option maxHeartbeats 2000000 in
theorem does_end (n b b' a a' c c' : Int) (s s' S S' : ByteArray) (x : Int) (n1 : Fp Try.prog 24 [.ptr 0 0] [[.str s, .int .i64 b]] [] (.int .i64 x, [some [.str s', .int .i64 b']], [])) (n2 : Fp Try.prog 25 [.ptr 0 0] [[.str S, .int .i64 a, .int .i64 c]] [] (.int .i64 x, [some [.str S', .int .i64 a', .int .i64 c']], [])) :
    Fp Try.prog 21 [.ptr 0 0, .ptr 1 0, .agg [.int .i64 5, .int .i64 n]] [[.str s, .int .i64 b], [.str S, .int .i64 a, .int .i64 c]] [] (.bool true, [some [.str s', .int .i64 b'], some [.str S', .int .i64 a', .int .i64 c']], []) := by
  refine Fp.of_awp Try.func21 rfl (by kernel_rfl) (Nat.le_of_ble_eq_true rfl) ?_
  repeat' (conv => whnf
           first
           | (refine And.intro (by kernel_rfl) ?_)
           | (refine And.intro ⟨by kernel_rfl, by kernel_rfl⟩ ?_)
           | (refine Or.inr ⟨_, n1, ?_⟩)
           | (refine Or.inr ⟨_, n2, ?_⟩)
           | (refine cond_f ?_ ?_)
           | (refine ⟨_, ⟨by decide, rfl⟩, ?_⟩)
           | (refine cond_i (fun h => ?_) (fun h => ?_)))
  all_goals (conv => whnf)
  rw [beq_self_eq_true]
  rfl
set_option maxHeartbeats 2000000 in
theorem does_fail (n b b' a a' c c' : Int) (s s' S S' : ByteArray) (h1 : 1 ≤ n) (h2 : n ≤ 11) (n1 : Fp Try.prog 29 [.ptr 0 0, .int .i64 n] [[.str s, .int .i64 b]] [] (.tup [], [some [.str s', .int .i64 b']], [])) (n2 : Fp Try.prog 53 [.ptr 0 0, .int .i64 n] [[.str S, .int .i64 a, .int .i64 c]] [] (.tup [], [some [.str S', .int .i64 a', .int .i64 c']], [])) :
    Fp Try.prog 21 [.ptr 0 0, .ptr 1 0, .agg [.int .i64 4, .int .i64 n]] [[.str s, .int .i64 b], [.str S, .int .i64 a, .int .i64 c]] [] (.bool true, [some [.str s', .int .i64 b'], some [.str S', .int .i64 a', .int .i64 c']], []) := by
  refine Fp.of_awp Try.func21 rfl (by kernel_rfl) (Nat.le_of_ble_eq_true rfl) ?_
  have b1 : decide (n ≥ 1) = true := by simpa using h1
  have b2 : decide (n ≤ 11) = true := by simpa using h2
  repeat' (conv => whnf
           first
           | (refine And.intro (by kernel_rfl) ?_)
           | (refine And.intro ⟨by kernel_rfl, by kernel_rfl⟩ ?_)
           | (refine cond_1 b1 ?_)
           | (refine cond_1 b2 ?_)
           | (refine Or.inr ⟨_, n1, ?_⟩)
           | (refine Or.inr ⟨_, n2, ?_⟩)
           | (refine cond_f ?_ ?_)
           | (refine ⟨_, ⟨by decide, rfl⟩, ?_⟩)
           | (refine cond_i (fun h => ?_) (fun h => ?_)))
  all_goals (conv => whnf)
  all_goals rfl
set_option maxHeartbeats 2000000 in
theorem does_none (n b b' a a' c c' : Int) (s s' S S' : ByteArray) (h : ¬ (1 ≤ n ∧ n ≤ 11)) :
    Fp Try.prog 21 [.ptr 0 0, .ptr 1 0, .agg [.int .i64 4, .int .i64 n]] [[.str s, .int .i64 b], [.str S, .int .i64 a, .int .i64 c]] [] (.bool true, [some [.str s, .int .i64 b], some [.str S, .int .i64 a, .int .i64 c]], []) := by
  refine Fp.of_awp Try.func21 rfl (by kernel_rfl) (Nat.le_of_ble_eq_true rfl) ?_
  repeat' (conv => whnf
           first
           | (refine And.intro (by kernel_rfl) ?_)
           | (refine And.intro ⟨by kernel_rfl, by kernel_rfl⟩ ?_)
           | (refine cond_f ?_ ?_)
           | (refine ⟨_, ⟨by decide, rfl⟩, ?_⟩)
           | (refine cond_i (fun h => ?_) (fun h => ?_)))
  all_goals (conv => whnf)
  all_goals first | rfl | (exfalso; simp only [decide_eq_true_eq] at *; omega)
set_option maxHeartbeats 2000000 in
theorem does_other (n b b' a a' c c' : Int) (s s' S S' : ByteArray) (k : Int) (h0 : k ≠ 0) (h1 : k ≠ 1) (h2 : k ≠ 2) (h3 : k ≠ 3) (h4 : k ≠ 4) (h5 : k ≠ 5) :
    Fp Try.prog 21 [.ptr 0 0, .ptr 1 0, .agg [.int .i64 k, .int .i64 n]] [[.str s, .int .i64 b], [.str S, .int .i64 a, .int .i64 c]] [] (.bool true, [some [.str s, .int .i64 b], some [.str S, .int .i64 a, .int .i64 c]], []) := by
  refine Fp.of_awp Try.func21 rfl (by kernel_rfl) (Nat.le_of_ble_eq_true rfl) ?_
  have b0 : (k == 0) = false := by simpa using h0
  have b1 : (k == 1) = false := by simpa using h1
  have b2 : (k == 2) = false := by simpa using h2
  have b3 : (k == 3) = false := by simpa using h3
  have b4 : (k == 4) = false := by simpa using h4
  have b5 : (k == 5) = false := by simpa using h5
  repeat' (conv => whnf
           first
           | (refine And.intro (by kernel_rfl) ?_)
           | (refine And.intro ⟨by kernel_rfl, by kernel_rfl⟩ ?_)
           | (refine cond_0 b0 ?_)
           | (refine cond_0 b1 ?_)
           | (refine cond_0 b2 ?_)
           | (refine cond_0 b3 ?_)
           | (refine cond_0 b4 ?_)
           | (refine cond_0 b5 ?_)
           | (refine cond_f ?_ ?_)
           | (refine ⟨_, ⟨by decide, rfl⟩, ?_⟩)
           | (refine cond_i (fun h => ?_) (fun h => ?_)))
  all_goals (conv => whnf)
  all_goals rfl
end Go.Proofs.Ytijohhdgecadnaa.Cn
