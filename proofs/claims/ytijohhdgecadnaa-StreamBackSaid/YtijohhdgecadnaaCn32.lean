
/- Contracts: what the document's stream tells of all bytes. No condition but sizes. -/
import Derived.Test.YtijohhdgecadnaaSp1
import Derived.Test.YtijohhdgecadnaaProg
import Derived.KernelRfl
import Derived.Test.YtijohhdgecadnaaCn31
import Derived.Test.YtijohhdgecadnaaCn21
import Derived.Test.YtijohhdgecadnaaAv16
namespace Go.Proofs.Ytijohhdgecadnaa.Cn
open Go Go.Proofs Go.Proofs.Ytijohhdgecadnaa.Av Go.Proofs.Ytijohhdgecadnaa.Sp
set_option linter.unusedVariables false
set_option linter.unusedSimpArgs false
set_option maxRecDepth 100000
attribute [local irreducible] Fv Fp

theorem rr_flag0 (s : ByteArray) (hs : s.size < 4611686018427387904) (h : 0 < s.size) (h1 : ¬ byteAt s 0 > 1) : Fp Try.prog 52 [.ptr 0 0] [[.str s, .int .i64 0, .int .i64 0]] [] (.bool (byteAt s 0 == 1), [some [.str s, .int .i64 1, .int .i64 0]], []) := by
  have := rr_Flag ⟨s, 0, 0⟩ ⟨Nat.zero_le _, hs⟩
  rw [flag0 s h h1] at this
  exact this
theorem rr_num4 (s : ByteArray) (hs : s.size < 4611686018427387904) (h : 5 ≤ s.size) : Fp Try.prog 50 [.ptr 0 0, .int .i64 4] [[.str s, .int .i64 1, .int .i64 0]] [] (.int .i64 (numOf s 1 4), [some [.str s, .int .i64 5, .int .i64 0]], []) := by
  have := rr_Num ⟨s, 1, 0⟩ 4 ⟨show 1 ≤ s.size by omega, hs⟩
  rw [num1_4 s h] at this
  exact this
theorem rr_num4_no (s : ByteArray) (hs : s.size < 4611686018427387904) (h0 : 0 < s.size) (h : s.size < 5) : Fp Try.prog 50 [.ptr 0 0, .int .i64 4] [[.str s, .int .i64 1, .int .i64 0]] [] (.int .i64 0, [some [.str s, .int .i64 1, .int .i64 3]], []) := by
  have := rr_Num ⟨s, 1, 0⟩ 4 ⟨show 1 ≤ s.size by omega, hs⟩
  have e : rNum ⟨s, 1, 0⟩ 4 = (⟨s, 1, 3⟩, 0) := by
    unfold rNum
    rw [if_neg (by omega), if_neg (by simp), if_pos (by simp only; omega)]
  rw [e] at this
  exact this
theorem rr_left5 (s : ByteArray) (hs : s.size < 4611686018427387904) (h : 5 ≤ s.size) : Fp Try.prog 23 [.ptr 0 0] [[.str s, .int .i64 5, .int .i64 0]] [] (.int .i64 ((s.size : Int) - 5), [some [.str s, .int .i64 5, .int .i64 0]], []) :=
  rr_Left ⟨s, 5, 0⟩ ⟨h, hs⟩
set_option maxHeartbeats 8000000 in
theorem ref38_Read (s : ByteArray) (hs : s.size < 4611686018427387904) (hn : (runM ⟨s, false, 0⟩).1.length < 1000000) :
    Fp Try.prog 34 [.str s] [] [] (.tup [.own 0 0 (runM ⟨s, false, 0⟩).1.length, .int .i64 ((runM ⟨s, false, 0⟩).2.s.size : Nat), .int .i64 (runM ⟨s, false, 0⟩).2.bad], [], [some ((runM ⟨s, false, 0⟩).1.map Msg.g)]) := by
  generalize hR : runM ⟨s, false, 0⟩ = R at *
  refine Fp.of_awp Try.func34 rfl (by kernel_rfl) (Nat.le_of_ble_eq_true rfl) ?_
  repeat' (conv => whnf
           first
           | (refine And.intro (by kernel_rfl) ?_)
           | (refine And.intro ⟨by kernel_rfl, by kernel_rfl⟩ ?_)
           | (refine cond_f ?_ ?_)
           | (refine ⟨_, ⟨by decide, rfl⟩, ?_⟩)
           | (refine cond_i (fun h => ?_) (fun h => ?_)))
  all_goals (conv => whnf)
  refine Has.own0 5 52 rfl rfl ?_
  refine Has.loopD [0, 5, 6] [21] (fun j st => ∃ b : List Msg × Stm, FeedI R b j ∧ b.2.s.size < 4611686018427387904 ∧ b.2.bad = 0 ∧ st = St.of 59 [(0, .str b.2.s), (5, .own 52 0 b.1.length), (6, .bool b.2.last)] [] [(52, b.1.map Msg.g)]) s.size ⟨([], ⟨s, false, 0⟩), ⟨by rw [← hR]; rfl, by rw [← hR], rfl⟩, hs, rfl, rfl⟩ (fun j st hJ => ?_)
  obtain ⟨⟨acc, ⟨s, l, bd⟩⟩, ⟨i1, i2, i3⟩, i4, i5, rfl⟩ := hJ
  simp only at i1 i2 i3 i4 i5 ⊢
  subst i5
  have none : ∀ m', nextM ⟨s, l, 0⟩ = (m', none) → acc = R.1 ∧ m' = R.2 := fun m' h => by
    rw [runM_none h] at i1 i2
    exact ⟨by rw [← i1]; simp, i2⟩
  by_cases h0 : s.size = 0
  · obtain ⟨rfl, e2⟩ := none ⟨s, l, 0⟩ (by unfold nextM; rw [if_pos (.inr h0)])
    have e3 : R.2.s.size = 0 := by rw [← e2]; exact h0
    have e4 : R.2.bad = 0 := by rw [← e2]
    have b0 : decide ((s.size : Int) > 0) = false := decide_eq_false (by omega)
    refine awp_go ?_
    repeat' (conv => whnf
             first
             | (refine And.intro (by kernel_rfl) ?_)
             | (refine And.intro ⟨by kernel_rfl, by kernel_rfl⟩ ?_)
             | (refine cond_0 b0 ?_)
             | (refine cond_f ?_ ?_)
             | (refine ⟨_, ⟨by decide, rfl⟩, ?_⟩)
             | (refine cond_i (fun h => ?_) (fun h => ?_)))
    all_goals (conv => whnf)
    rw [e3, e4]
    rfl
  have b0 : decide ((s.size : Int) > 0) = true := decide_eq_true (by omega)
  have f0 : (0 : Int) ≤ 0 ∧ (0 : Int) < (s.size : Int) := ⟨by omega, by omega⟩
  cases l with
  | true =>
    obtain ⟨rfl, e2⟩ := none ⟨emptyB, true, 6⟩ (by unfold nextM; rw [if_neg (by simp [h0]), if_pos rfl]; rfl)
    refine awp_go ?_
    repeat' (conv => whnf
             first
             | (refine And.intro (by kernel_rfl) ?_)
             | (refine And.intro ⟨by kernel_rfl, by kernel_rfl⟩ ?_)
             | (refine cond_1 b0 ?_)
             | (refine cond_f ?_ ?_)
             | (refine ⟨_, ⟨by decide, rfl⟩, ?_⟩)
             | (refine cond_i (fun h => ?_) (fun h => ?_)))
    all_goals (conv => whnf)
    rw [← e2]
    rfl
  | false =>
  by_cases h1 : byteAt s 0 > 1
  · have b1 : decide (byteAt s 0 > 1) = true := by simpa using h1
    obtain ⟨rfl, e2⟩ := none ⟨emptyB, false, 5⟩ (by unfold nextM; rw [if_neg (by simp [h0]), if_neg (by simp), if_pos h1]; rfl)
    refine awp_go ?_
    repeat' (conv => whnf
             first
             | (refine And.intro (by kernel_rfl) ?_)
             | (refine And.intro ⟨by kernel_rfl, by kernel_rfl⟩ ?_)
             | (refine cond_1 b0 ?_)
             | (refine ⟨f0, ?_⟩)
             | (refine cond_1 b1 ?_)
             | (refine cond_f ?_ ?_)
             | (refine ⟨_, ⟨by decide, rfl⟩, ?_⟩)
             | (refine cond_i (fun h => ?_) (fun h => ?_)))
    all_goals (conv => whnf)
    rw [← e2]
    rfl
  have b1 : decide (byteAt s 0 > 1) = false := by simpa using h1
  have n1 := rr_flag0 s i4 (by omega) h1
  by_cases h2 : s.size < 5
  · obtain ⟨rfl, e2⟩ := none ⟨s, false, 0⟩ (by unfold nextM; rw [if_neg (by simp [h0]), if_neg (by simp), if_neg h1, if_pos h2])
    have n2 := rr_num4_no s i4 (by omega) h2
    refine awp_go ?_
    repeat' (conv => whnf
             first
             | (refine And.intro (by kernel_rfl) ?_)
             | (refine And.intro ⟨by kernel_rfl, by kernel_rfl⟩ ?_)
             | (refine cond_1 b0 ?_)
             | (refine ⟨f0, ?_⟩)
             | (refine cond_0 b1 ?_)
             | (refine Or.inr ⟨_, n1, ?_⟩)
             | (refine Or.inr ⟨_, n2, ?_⟩)
             | (refine cond_f ?_ ?_)
             | (refine ⟨_, ⟨by decide, rfl⟩, ?_⟩)
             | (refine cond_i (fun h => ?_) (fun h => ?_)))
    all_goals (conv => whnf)
    rw [← e2]
    rfl
  have n2 := rr_num4 s i4 (by omega)
  have n3 := rr_left5 s i4 (by omega)
  have hneed : (need s : Int) = numOf s 1 4 := by unfold need; have := numOf_bd s 1 4; omega
  rw [← hneed] at n2
  obtain ⟨k, hk⟩ : ∃ k, need s = k := ⟨_, rfl⟩
  obtain ⟨x, hxx⟩ : ∃ x, (byteAt s 0 == 1) = x := ⟨_, rfl⟩
  rw [hk] at n2
  rw [hxx] at n1
  by_cases h3 : k > 4096
  · obtain ⟨rfl, e2⟩ := none ⟨emptyB, false, 3⟩ (by unfold nextM; rw [if_neg (by simp [h0]), if_neg (by simp), if_neg h1, if_neg h2, if_pos (by rw [hk]; exact h3)]; rfl)
    have b2 : decide ((k : Int) > 4096) = true := by simp; omega
    refine awp_go ?_
    repeat' (conv => whnf
             first
             | (refine And.intro (by kernel_rfl) ?_)
             | (refine And.intro ⟨by kernel_rfl, by kernel_rfl⟩ ?_)
             | (refine cond_1 b0 ?_)
             | (refine ⟨f0, ?_⟩)
             | (refine cond_0 b1 ?_)
             | (refine Or.inr ⟨_, n1, ?_⟩)
             | (refine Or.inr ⟨_, n2, ?_⟩)
             | (refine cond_1 b2 ?_)
             | (refine cond_f ?_ ?_)
             | (refine ⟨_, ⟨by decide, rfl⟩, ?_⟩)
             | (refine cond_i (fun h => ?_) (fun h => ?_)))
    all_goals (conv => whnf)
    rw [← e2]
    rfl
  have b2 : decide ((k : Int) > 4096) = false := by simp; omega
  by_cases h4 : s.size < 5 + k
  · obtain ⟨rfl, e2⟩ := none ⟨s, false, 0⟩ (by unfold nextM; rw [if_neg (by simp [h0]), if_neg (by simp), if_neg h1, if_neg h2, if_neg (by rw [hk]; exact h3), if_pos (by rw [hk]; exact h4)])
    have b3 : decide ((s.size : Int) - 5 < (k : Int)) = true := by simp; omega
    refine awp_go ?_
    repeat' (conv => whnf
             first
             | (refine And.intro (by kernel_rfl) ?_)
             | (refine And.intro ⟨by kernel_rfl, by kernel_rfl⟩ ?_)
             | (refine cond_1 b0 ?_)
             | (refine ⟨f0, ?_⟩)
             | (refine cond_0 b1 ?_)
             | (refine Or.inr ⟨_, n1, ?_⟩)
             | (refine Or.inr ⟨_, n2, ?_⟩)
             | (refine cond_0 b2 ?_)
             | (refine Or.inr ⟨_, n3, ?_⟩)
             | (refine cond_1 b3 ?_)
             | (refine cond_f ?_ ?_)
             | (refine ⟨_, ⟨by decide, rfl⟩, ?_⟩)
             | (refine cond_i (fun h => ?_) (fun h => ?_)))
    all_goals (conv => whnf)
    rw [← e2]
    rfl
  have hx : nextM ⟨s, false, 0⟩ = (⟨s.extract (5 + k) s.size, x, 0⟩, some ⟨s.extract 5 (5 + k), x⟩) := by
    unfold nextM; rw [if_neg (by simp [h0]), if_neg (by simp), if_neg h1, if_neg h2, if_neg (by rw [hk]; exact h3), if_neg (by rw [hk]; exact h4)]; simp only [hk, hxx]
  rw [runM_some hx] at i1 i2
  have hsx := nextM_size hx
  simp only at i1 i2 hsx
  have hl : (acc ++ (⟨s.extract 5 (5 + k), x⟩ : Msg) :: (runM ⟨s.extract (5 + k) s.size, x, 0⟩).1).length = R.1.length := by rw [i1]
  simp only [List.length_append, List.length_cons] at hl
  have b3 : decide ((s.size : Int) - 5 < (k : Int)) = false := by simp; omega
  have hw : IntKind.i64.wrap (5 + (k : Int)) = 5 + (k : Int) := wrap_i64 (by omega)
  have hw2 : (IntKind.i64.wrap (5 + (k : Int))).toNat = 5 + k := by rw [hw]; omega
  have f2 : (0 : Int) ≤ 5 ∧ (5 : Int) ≤ IntKind.i64.wrap (5 + (k : Int)) ∧ IntKind.i64.wrap (5 + (k : Int)) ≤ (s.size : Int) := by rw [hw]; omega
  have f3 : (0 : Int) ≤ IntKind.i64.wrap (5 + (k : Int)) ∧ IntKind.i64.wrap (5 + (k : Int)) ≤ (s.size : Int) ∧ (s.size : Int) ≤ (s.size : Int) := by rw [hw]; omega
  have f1 : ∀ g : List G, 0 + acc.length ≤ (acc.map Msg.g).length ∧ (0 < acc.length + [g].length ∨ acc.map Msg.g = []) ∧ fitsB Try.prog 67 (acc.length + [g].length) ∧ ∀ r ∈ acc.map Msg.g, r.length = Try.prog.cellsOf 67 := fun g =>
    ⟨by simp, .inl (by simp), fits 24 (by kernel_rfl) (by simp; omega), fun r hr => by rw [show Try.prog.cellsOf 67 = 2 from by kernel_rfl]; exact msg_cell r hr⟩
  have e1 : ((acc.map Msg.g).drop 0).take acc.length ++ [[G.str (s.extract (Int.toNat 5) (IntKind.i64.wrap (5 + (k : Int))).toNat), G.bool x]] = (acc ++ [(⟨s.extract 5 (5 + k), x⟩ : Msg)]).map Msg.g := by rw [List.drop_zero, List.take_of_length_le (by simp), hw2]; simp; rfl
  refine awp_go ?_
  repeat' (conv => whnf
           first
           | (refine And.intro (by kernel_rfl) ?_)
           | (refine And.intro ⟨by kernel_rfl, by kernel_rfl⟩ ?_)
           | (refine cond_1 b0 ?_)
           | (refine ⟨f0, ?_⟩)
           | (refine cond_0 b1 ?_)
           | (refine Or.inr ⟨_, n1, ?_⟩)
           | (refine Or.inr ⟨_, n2, ?_⟩)
           | (refine cond_0 b2 ?_)
           | (refine Or.inr ⟨_, n3, ?_⟩)
           | (refine cond_0 b3 ?_)
           | (refine ⟨f2, ?_⟩)
           | (refine ⟨f1 _, ?_⟩)
           | (refine ⟨f3, ?_⟩)
           | (refine cond_f ?_ ?_)
           | (refine ⟨_, ⟨by decide, rfl⟩, ?_⟩)
           | (refine cond_i (fun h => ?_) (fun h => ?_)))
  all_goals (conv => whnf)
  refine ⟨(s.extract (5 + k) s.size).size, by omega, (acc ++ [(⟨s.extract 5 (5 + k), x⟩ : Msg)], (⟨s.extract (5 + k) s.size, x, 0⟩ : Stm)), ⟨by rw [← i1]; simp, i2, rfl⟩, by simp only; omega, rfl, ?_⟩
  rw [← e1, List.length_append, ← hw2]
  rfl
end Go.Proofs.Ytijohhdgecadnaa.Cn
