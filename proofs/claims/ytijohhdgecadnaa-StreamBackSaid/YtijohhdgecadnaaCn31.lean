
/- Contracts: what a stream tells when a piece comes. No condition but sizes. -/
import Derived.Test.YtijohhdgecadnaaSp1
import Derived.Test.YtijohhdgecadnaaProg
import Derived.KernelRfl
import Derived.Test.YtijohhdgecadnaaCn30
import Derived.Test.YtijohhdgecadnaaAv16
namespace Go.Proofs.Ytijohhdgecadnaa.Cn
open Go Go.Proofs Go.Proofs.Ytijohhdgecadnaa.Av Go.Proofs.Ytijohhdgecadnaa.Sp
set_option linter.unusedVariables false
set_option linter.unusedSimpArgs false
set_option maxRecDepth 100000
attribute [local irreducible] Fv Fp

theorem nextM_size_le {m m' : Stm} {o : Option Msg} (h : nextM m = (m', o)) : m'.s.size ≤ m.s.size := by
  cases o with
  | some x => have := (nextM_size h).1; omega
  | none =>
    unfold nextM at h
    (repeat' split at h) <;> first | (cases h; done) | (cases h; exact Nat.le_refl _) | (cases h; exact Nat.zero_le _)
theorem nextG_none {m m' : Stm} (h : nextM m = (m', none)) : nextG m = .tup [.agg [.str ⟨#[]⟩, .bool false], .bool false] := by unfold nextG; rw [h]
theorem nextG_some {m m' : Stm} {x : Msg} (h : nextM m = (m', some x)) : nextG m = .tup [.agg x.g, .bool true] := by unfold nextG; rw [h]
theorem feed_bad (m : Stm) (t : ByteArray) (h : m.bad ≠ 0) : Fp Try.prog 32 [.ptr 0 0, .str t] [m.g] [] (.tup [.nils, .int .i64 m.bad], [some m.g], []) := by
  have b1 : (m.bad != 0) = true := by simpa using h
  refine Fp.of_awp Try.func32 rfl (by kernel_rfl) (Nat.le_of_ble_eq_true rfl) ?_
  repeat' (conv => whnf
           first
           | (refine And.intro (by kernel_rfl) ?_)
           | (refine And.intro ⟨by kernel_rfl, by kernel_rfl⟩ ?_)
           | (refine cond_1 b1 ?_)
           | (refine cond_f ?_ ?_)
           | (refine ⟨_, ⟨by decide, rfl⟩, ?_⟩)
           | (refine cond_i (fun h => ?_) (fun h => ?_)))
  all_goals (conv => whnf)
  all_goals rfl
theorem feed_nil (t : ByteArray) : Fv Try.prog 32 [.lit (.pointer none), .str t] (.tup [.sl [], .int .i64 1]) := by
  refine Fv.of_awp Try.func32 rfl (by kernel_rfl) rfl (Nat.le_of_ble_eq_true rfl) ?_
  repeat' (conv => whnf
           first
           | (refine And.intro (by kernel_rfl) ?_)
           | (refine And.intro ⟨by kernel_rfl, by kernel_rfl⟩ ?_)
           | (refine cond_f ?_ ?_)
           | (refine ⟨_, ⟨by decide, rfl⟩, ?_⟩)
           | (refine cond_i (fun h => ?_) (fun h => ?_)))
  all_goals (conv => whnf)
  all_goals rfl
/-- At a round's head: what was told, what is left. -/
structure FeedI (r : List Msg × Stm) (b : List Msg × Stm) (j : Nat) : Prop where
  tot : b.1 ++ (runM b.2).1 = r.1
  fin : (runM b.2).2 = r.2
  sz : b.2.s.size = j
theorem msg_cell {l : List Msg} : ∀ r ∈ l.map Msg.g, r.length = 2 := fun r hr => by obtain ⟨x, _, rfl⟩ := List.mem_map.1 hr; rfl
set_option maxHeartbeats 4000000 in
theorem st_Feed (m : Stm) (t : ByteArray) (h : m.bad = 0) (hs : m.s.size + t.size < 4611686018427387904) (hn : (feedM m t).1.length < 1000000) :
    Fp Try.prog 32 [.ptr 0 0, .str t] [m.g] [] (.tup [.own 0 0 (feedM m t).1.length, .int .i64 (feedM m t).2.bad], [some (feedM m t).2.g], [some ((feedM m t).1.map Msg.g)]) := by
  obtain ⟨s, l, b⟩ := m
  simp only at h hs
  subst h
  have f0 : ((s.size + t.size : Nat) : Int) ≤ 9223372036854775807 := by omega
  have hsz : (s ++ t).size = s.size + t.size := by simp
  unfold feedM at *
  simp only at *
  generalize hR : runM ⟨s ++ t, l, 0⟩ = R at *
  refine Fp.of_awp Try.func32 rfl (by kernel_rfl) (Nat.le_of_ble_eq_true rfl) ?_
  repeat' (conv => whnf
           first
           | (refine And.intro (by kernel_rfl) ?_)
           | (refine And.intro ⟨by kernel_rfl, by kernel_rfl⟩ ?_)
           | (refine ⟨f0, ?_⟩)
           | (refine cond_f ?_ ?_)
           | (refine ⟨_, ⟨by decide, rfl⟩, ?_⟩)
           | (refine cond_i (fun h => ?_) (fun h => ?_)))
  all_goals (conv => whnf)
  refine Has.own0 6 43 rfl rfl ?_
  refine Has.loopD [0, 6] [7] (fun j st => ∃ b : List Msg × Stm, FeedI R b j ∧ b.2.s.size < 4611686018427387904 ∧ st = St.ofP 44 1 0 [(0, .ptr 52 0), (6, .own 43 0 b.1.length)] [(52, b.2.g)] [(43, b.1.map Msg.g)]) (s ++ t).size ⟨([], ⟨s ++ t, l, 0⟩), ⟨by rw [← hR]; rfl, by rw [← hR], rfl⟩, by rw [hsz]; exact hs, rfl⟩ (fun j st hJ => ?_)
  obtain ⟨⟨acc, m⟩, ⟨i1, i2, i3⟩, i4, rfl⟩ := hJ
  simp only at i1 i2 i3 i4 ⊢
  have n1 := st_next m (by omega)
  cases hx : nextM m with
  | mk m' o =>
    cases o with
    | none =>
      rw [nextG_none hx, hx] at n1
      rw [runM_none hx] at i1 i2
      simp only [List.append_nil] at i1 i2 n1
      subst i1 i2
      refine awp_go ?_
      repeat' (conv => whnf
               first
               | (refine And.intro (by kernel_rfl) ?_)
               | (refine And.intro ⟨by kernel_rfl, by kernel_rfl⟩ ?_)
               | (refine Or.inr ⟨_, n1, ?_⟩)
               | (refine cond_f ?_ ?_)
               | (refine ⟨_, ⟨by decide, rfl⟩, ?_⟩)
               | (refine cond_i (fun h => ?_) (fun h => ?_)))
      all_goals (conv => whnf)
      all_goals rfl
    | some x =>
      rw [nextG_some hx, hx] at n1
      rw [runM_some hx] at i1 i2
      have hsx := nextM_size hx
      simp only at i1 i2 n1
      have hl : (acc ++ x :: (runM m').1).length = R.1.length := by rw [i1]
      simp only [List.length_append, List.length_cons] at hl
      have f1 : 0 + acc.length ≤ (acc.map Msg.g).length ∧ (0 < acc.length + [x.g].length ∨ acc.map Msg.g = []) ∧ fitsB Try.prog 60 (acc.length + [x.g].length) ∧ ∀ r ∈ acc.map Msg.g, r.length = Try.prog.cellsOf 60 :=
        ⟨by simp, .inl (by simp), fits 24 (by kernel_rfl) (by simp; omega), fun r hr => by rw [show Try.prog.cellsOf 60 = 2 from by kernel_rfl]; exact msg_cell r hr⟩
      have e1 : ((acc.map Msg.g).drop 0).take acc.length ++ [x.g] = (acc ++ [x]).map Msg.g := by rw [List.drop_zero, List.take_of_length_le (by simp)]; simp
      refine awp_go ?_
      repeat' (conv => whnf
               first
               | (refine And.intro (by kernel_rfl) ?_)
               | (refine And.intro ⟨by kernel_rfl, by kernel_rfl⟩ ?_)
               | (refine Or.inr ⟨_, n1, ?_⟩)
               | (refine ⟨f1, ?_⟩)
               | (refine cond_f ?_ ?_)
               | (refine ⟨_, ⟨by decide, rfl⟩, ?_⟩)
               | (refine cond_i (fun h => ?_) (fun h => ?_)))
      all_goals (conv => whnf)
      refine ⟨m'.s.size, by omega, (acc ++ [x], m'), ⟨by rw [← i1]; simp, i2, rfl⟩, by simp only; omega, ?_⟩
      rw [← e1, List.length_append]
      rfl
end Go.Proofs.Ytijohhdgecadnaa.Cn
