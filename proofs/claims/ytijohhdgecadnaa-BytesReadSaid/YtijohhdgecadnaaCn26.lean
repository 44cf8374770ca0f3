/- Law 4: what is read of any bytes. No condition. -/
import Derived.Test.YtijohhdgecadnaaSp1
import Derived.Test.YtijohhdgecadnaaProg
import Derived.KernelRfl
import Derived.Test.YtijohhdgecadnaaCn23
import Derived.Test.YtijohhdgecadnaaCn25
import Derived.Test.YtijohhdgecadnaaAv16
namespace Go.Proofs.Ytijohhdgecadnaa.Cn
open Go Go.Proofs Go.Proofs.Ytijohhdgecadnaa.Av Go.Proofs.Ytijohhdgecadnaa.Sp
set_option linter.unusedVariables false
set_option linter.unusedSimpArgs false
set_option maxRecDepth 100000
attribute [local irreducible] Fv Fp

def readR (r : Rd) (l : List Deed04) : Rd := l.foldl doesR r
theorem readR_fit (l : List Deed04) : ∀ (r : Rd), r.fit → (readR r l).fit := by
  induction l with
  | nil => intro r h; exact h
  | cons d l ih => intro r h; exact ih _ (doesR_fit r d h)
theorem readR_succ (r : Rd) (l : List Deed04) (k : Nat) (h : k < l.length) : readR r (l.take (k + 1)) = doesR (readR r (l.take k)) l[k] := by
  unfold readR
  rw [List.take_succ_eq_append_getElem h, List.foldl_append]; rfl
theorem bne_same (x : Int) : (x != x) = false := by simp
theorem beq_same (x : Int) : (x == x) = true := by simp
theorem read_long (s : ByteArray) (l : List Deed04) (h : s.size > 2000) : Fv Try.prog 4 [.str s, .sl (l.map Deed04.g)] (.bool true) := by
  have b1 : decide ((s.size : Int) > 2000) = true := by simp; omega
  refine Fv.of_awp Try.func4 rfl (by kernel_rfl) rfl (Nat.le_of_ble_eq_true rfl) ?_
  repeat' (conv => whnf
           first
           | (refine And.intro (by kernel_rfl) ?_)
           | (refine And.intro ⟨by kernel_rfl, by kernel_rfl⟩ ?_)
           | (refine cond_1 b1 ?_)
           | (refine Or.inl ⟨_, law04_awake, ?_⟩)
           | (refine ⟨_, law04_awake, ?_⟩)
           | (refine cond_f ?_ ?_)
           | (refine ⟨_, ⟨by decide, rfl⟩, ?_⟩)
           | (refine cond_i (fun h => ?_) (fun h => ?_)))
  all_goals (conv => whnf)
  all_goals rfl
set_option maxHeartbeats 4000000 in
theorem law04_BytesRead (s : ByteArray) (l : List Deed04) (hl : l.length < 4611686018427387904) : Fv Try.prog 4 [.str s, .sl (l.map Deed04.g)] (.bool true) := by
  by_cases h : s.size > 2000
  · exact read_long s l h
  have b1 : decide ((s.size : Int) > 2000) = false := by simp; omega
  have h0 : (⟨s, 0, 0⟩ : Rd).fit := ⟨Nat.zero_le _, by show s.size < _; omega⟩
  have f2 := pr_Open s
  refine Fv.of_awp Try.func4 rfl (by kernel_rfl) rfl (Nat.le_of_ble_eq_true rfl) ?_
  repeat' (conv => whnf
           first
           | (refine And.intro (by kernel_rfl) ?_)
           | (refine And.intro ⟨by kernel_rfl, by kernel_rfl⟩ ?_)
           | (refine cond_0 b1 ?_)
           | (refine Or.inr ⟨_, f2, ?_⟩)
           | (refine cond_f ?_ ?_)
           | (refine ⟨_, ⟨by decide, rfl⟩, ?_⟩)
           | (refine cond_i (fun h => ?_) (fun h => ?_)))
  all_goals (conv => whnf)
  refine Has.each [1, 5, 6, 7] [] (min l.length 30) (fun k r => r = readR ⟨s, 0, 0⟩ (l.take k) ∧ r.fit) (fun r i =>
    St.of 50 [(1, .sl (l.map Deed04.g)), (5, .ptr 13 0), (6, .ptr 16 0), (7, .int .i64 i)] [(13, r.gp), (16, r.gr)] []) ⟨⟨s, 0, 0⟩, _, ?_, ⟨rfl, h0⟩, rfl⟩ (fun k r hk hI => ?_) (fun r hI => ?_)
  · rw [reader_eq]; rfl
  · have hkl : k < l.length := by omega
    have c1 : decide ((k : Int) < ((l.map Deed04.g).length : Int)) = true := lt_at hkl
    have c2 : decide ((k : Int) < 30) = true := by simp; omega
    have d := row_at (R := Deed04.g) hkl
    have n1 := law04_does r l[k] hI.2
    have hf := doesR_fit r l[k] hI.2
    have n2 := pr_Left (doesR r l[k]) hf.1
    have n3 := rr_Left (doesR r l[k]) hf
    have e := readR_succ ⟨s, 0, 0⟩ l k hkl
    refine awp_go ?_
    repeat' (conv => whnf
             first
             | (refine And.intro (by kernel_rfl) ?_)
             | (refine And.intro ⟨by kernel_rfl, by kernel_rfl⟩ ?_)
             | (refine cond_1 c1 ?_)
             | (refine cond_1 c2 ?_)
             | (refine ⟨_, d, ?_⟩)
             | (refine Or.inr ⟨_, n1, ?_⟩)
             | (refine Or.inr ⟨_, n2, ?_⟩)
             | (refine Or.inr ⟨_, n3, ?_⟩)
             | (refine cond_0 (bne_same _) ?_)
             | (refine cond_f ?_ ?_)
             | (refine ⟨_, ⟨by decide, rfl⟩, ?_⟩)
             | (refine cond_i (fun h => ?_) (fun h => ?_)))
    all_goals (conv => whnf)
    exact ⟨doesR r l[k], _, rfl, ⟨by rw [e, ← hI.1], hf⟩, wrap_i64 (by omega)⟩
  · have n2 := pr_End r hI.2.1
    have n3 := rr_End r hI.2
    refine awp_go ?_
    by_cases hk : 30 ≤ l.length
    · have hm : min l.length 30 = 30 := by omega
      rw [hm]
      have c1 : decide (((30 : Nat) : Int) < ((l.map Deed04.g).length : Int)) = true ∨ decide (((30 : Nat) : Int) < ((l.map Deed04.g).length : Int)) = false := by cases decide (((30 : Nat) : Int) < ((l.map Deed04.g).length : Int)) <;> simp
      rcases c1 with c1 | c1
      · skip
        repeat' (conv => whnf
                 first
                 | (refine And.intro (by kernel_rfl) ?_)
                 | (refine And.intro ⟨by kernel_rfl, by kernel_rfl⟩ ?_)
                 | (refine cond_1 c1 ?_)
                 | (refine Or.inr ⟨_, n2, ?_⟩)
                 | (refine Or.inr ⟨_, n3, ?_⟩)
                 | (refine cond_1 (beq_same _) ?_)
                 | (refine Or.inl ⟨_, law04_awake, ?_⟩)
                 | (refine ⟨_, law04_awake, ?_⟩)
                 | (refine cond_f ?_ ?_)
                 | (refine ⟨_, ⟨by decide, rfl⟩, ?_⟩)
                 | (refine cond_i (fun h => ?_) (fun h => ?_)))
        all_goals (conv => whnf)
        all_goals rfl
      · skip
        repeat' (conv => whnf
                 first
                 | (refine And.intro (by kernel_rfl) ?_)
                 | (refine And.intro ⟨by kernel_rfl, by kernel_rfl⟩ ?_)
                 | (refine cond_0 c1 ?_)
                 | (refine Or.inr ⟨_, n2, ?_⟩)
                 | (refine Or.inr ⟨_, n3, ?_⟩)
                 | (refine cond_1 (beq_same _) ?_)
                 | (refine Or.inl ⟨_, law04_awake, ?_⟩)
                 | (refine ⟨_, law04_awake, ?_⟩)
                 | (refine cond_f ?_ ?_)
                 | (refine ⟨_, ⟨by decide, rfl⟩, ?_⟩)
                 | (refine cond_i (fun h => ?_) (fun h => ?_)))
        all_goals (conv => whnf)
        all_goals rfl
    · have hm : min l.length 30 = l.length := by omega
      rw [hm]
      have c1 : decide ((l.length : Int) < ((l.map Deed04.g).length : Int)) = false := lt_end
      repeat' (conv => whnf
               first
               | (refine And.intro (by kernel_rfl) ?_)
               | (refine And.intro ⟨by kernel_rfl, by kernel_rfl⟩ ?_)
               | (refine cond_0 c1 ?_)
               | (refine Or.inr ⟨_, n2, ?_⟩)
               | (refine Or.inr ⟨_, n3, ?_⟩)
               | (refine cond_1 (beq_same _) ?_)
               | (refine Or.inl ⟨_, law04_awake, ?_⟩)
               | (refine ⟨_, law04_awake, ?_⟩)
               | (refine cond_f ?_ ?_)
               | (refine ⟨_, ⟨by decide, rfl⟩, ?_⟩)
               | (refine cond_i (fun h => ?_) (fun h => ?_)))
      all_goals (conv => whnf)
      all_goals rfl
end Go.Proofs.Ytijohhdgecadnaa.Cn
