
/- Law 38: whatever pieces come. No condition but sizes. -/
import Derived.Test.YtijohhdgecadnaaCn0
import Derived.Test.YtijohhdgecadnaaSp1
import Derived.Test.YtijohhdgecadnaaProg
import Derived.KernelRfl
import Derived.Test.YtijohhdgecadnaaCn35
import Derived.Test.YtijohhdgecadnaaSp10
import Derived.Test.YtijohhdgecadnaaAv16
namespace Go.Proofs.Ytijohhdgecadnaa.Cn
open Go Go.Proofs Go.Proofs.Ytijohhdgecadnaa.Av Go.Proofs.Ytijohhdgecadnaa.Sp
set_option linter.unusedVariables false
set_option linter.unusedSimpArgs false
set_option maxRecDepth 100000
attribute [local irreducible] Fv Fp

def strG (s : ByteArray) : List G := [.str s]
/-- What stands at a round's head. -/
structure FeedsB where
  all : ByteArray
  m : Stm
  told : Nat
  bad : Int
def FeedsI (b : FeedsB) : Prop := b.all.size ≤ 2000 ∧ b.m.bad = b.bad ∧ (b.bad = 0 → b.m = (runM ⟨b.all, false, 0⟩).2 ∧ b.told = (runM ⟨b.all, false, 0⟩).1.length) ∧ (b.bad ≠ 0 → b.m.s = emptyB)
theorem runM_len2 {s : ByteArray} {l : Bool} (h : s.size ≤ 2000) : (runM ⟨s, l, 0⟩).1.length < 1000000 := by have := runM_len ⟨s, l, 0⟩; simp only at this; omega
set_option maxHeartbeats 8000000 in
theorem law38_StreamFeeds (l : List ByteArray) (hl : l.length < 4611686018427387904) : Fv Try.prog 7 [.sl (l.map strG)] (.bool true) := by
  have aw := law38_awake
  have n0 := st_New
  refine Fv.of_awp Try.func7 rfl (by kernel_rfl) rfl (Nat.le_of_ble_eq_true rfl) ?_
  repeat' (conv => whnf
           first
           | (refine And.intro (by kernel_rfl) ?_)
           | (refine And.intro ⟨by kernel_rfl, by kernel_rfl⟩ ?_)
           | (refine Or.inr ⟨_, n0, ?_⟩)
           | (refine cond_f ?_ ?_)
           | (refine ⟨_, ⟨by decide, rfl⟩, ?_⟩)
           | (refine cond_i (fun h => ?_) (fun h => ?_)))
  all_goals (conv => whnf)
  refine Has.each [0, 3, 4, 5, 6, 7] [1046, 1066] (min l.length 30) (fun k b => FeedsI b) (fun b i =>
    St.of 97 [(0, .sl (l.map strG)), (3, .ptr 13 0), (4, .str b.all), (5, .int .i64 (b.told : Nat)), (6, .int .i64 b.bad), (7, .int .i64 i)] [(13, b.m.g)] []) ⟨⟨emptyB, ⟨emptyB, false, 0⟩, 0, 0⟩, 0, rfl, ⟨Nat.zero_le _, rfl, fun _ => ⟨rfl, rfl⟩, fun _ => rfl⟩, rfl⟩ (fun k b hk hI => ?_) (fun b hI => ?_)
  · obtain ⟨all, m, told, bad⟩ := b
    obtain ⟨i1, i2, i3, i4⟩ := hI
    simp only at i1 i2 i3 i4 ⊢
    have hkl : k < l.length := by omega
    have c1 : decide ((k : Int) < ((l.map strG).length : Int)) = true := lt_at hkl
    have c2 : decide ((k : Int) < 30) = true := decide_eq_true (by omega)
    have f1 := row_at (R := strG) hkl
    obtain ⟨p, hp⟩ : ∃ p, l[k] = p := ⟨_, rfl⟩
    rw [hp] at f1
    have w0 : IntKind.i64.wrap (2000 - (all.size : Int)) = 2000 - (all.size : Int) := wrap_i64 (by omega)
    by_cases hsz : (p.size : Int) > 2000 - (all.size : Int)
    · have c3 : decide ((p.size : Int) > IntKind.i64.wrap (2000 - (all.size : Int))) = true := decide_eq_true (by rw [w0]; exact hsz)
      refine awp_go ?_
      repeat' (conv => whnf
               first
               | (refine And.intro (by kernel_rfl) ?_)
               | (refine And.intro ⟨by kernel_rfl, by kernel_rfl⟩ ?_)
               | (refine cond_1 c1 ?_)
               | (refine cond_1 c2 ?_)
               | (refine ⟨_, f1, ?_⟩)
               | (refine cond_1 c3 ?_)
               | (refine Or.inl ⟨_, aw, ?_⟩)
               | (refine ⟨_, aw, ?_⟩)
               | (refine cond_f ?_ ?_)
               | (refine ⟨_, ⟨by decide, rfl⟩, ?_⟩)
               | (refine cond_i (fun h => ?_) (fun h => ?_)))
      all_goals (conv => whnf)
      all_goals rfl
    have c3 : decide ((p.size : Int) > IntKind.i64.wrap (2000 - (all.size : Int))) = false := decide_eq_false (by rw [w0]; exact hsz)
    have f2 : ((all.size + p.size : Nat) : Int) ≤ 9223372036854775807 := by omega
    have hz2 : (all ++ p).size ≤ 2000 := by rw [app_size]; omega
    have wk : IntKind.i64.wrap ((k : Int) + 1) = (k : Int) + 1 := wrap_i64 (by omega)
    by_cases hb : bad = 0
    · subst hb
      obtain ⟨e1, rfl⟩ := i3 rfl
      have hms : m.s.size ≤ 2000 := by rw [e1]; have := runM_size ⟨all, false, 0⟩; simp only at this; omega
      have n1 := st_Feed m p i2 (by omega) (by unfold feedM; have := runM_len ⟨m.s ++ p, m.last, 0⟩; simp only [app_size] at this; omega)
      have n2 := ref38_Read (all ++ p) (by omega) (runM_len2 hz2)
      have ha := runM_app p ⟨all, false, 0⟩ rfl
      simp only at ha
      rw [if_pos (by rw [← e1]; exact i2)] at ha
      have hf : runM ⟨m.s ++ p, m.last, 0⟩ = feedM m p := rfl
      rw [← e1, hf] at ha
      obtain ⟨M, hM⟩ : ∃ M, (runM ⟨all, false, 0⟩).1 = M := ⟨_, rfl⟩
      obtain ⟨F, hF⟩ : ∃ F, feedM m p = F := ⟨_, rfl⟩
      rw [hM] at ha ⊢
      rw [hF] at ha n1
      rw [ha] at n2
      simp only at n2
      have hlen : (M ++ F.1).length < 4611686018427387904 := by have := runM_len2 (l := false) hz2; rw [ha] at this; simp only at this; omega
      have n3 := law38_like M F.1 hlen
      have n4 := st_Left F.2
      have n5 := st_Over F.2
      have n6 := ref38_Over (M ++ F.1) hlen
      have hov : F.2.last = lastOf (M ++ F.1) false := by have := runM_last ⟨all ++ p, false, 0⟩; rw [ha] at this; exact this
      rw [← hov] at n6
      have b1 : (F.2.bad != F.2.bad) = false := by simp
      have b2 : (((F.2.s.size : Nat) : Int) != ((F.2.s.size : Nat) : Int)) = false := by simp
      have b3 : (!(F.2.last == F.2.last)) = false := by simp
      refine awp_go ?_
      repeat' (conv => whnf
               first
               | (refine And.intro (by kernel_rfl) ?_)
               | (refine And.intro ⟨by kernel_rfl, by kernel_rfl⟩ ?_)
               | (refine cond_1 c1 ?_)
               | (refine cond_1 c2 ?_)
               | (refine ⟨_, f1, ?_⟩)
               | (refine cond_0 c3 ?_)
               | (refine ⟨f2, ?_⟩)
               | (refine Or.inr ⟨_, n1, ?_⟩)
               | (refine Or.inr ⟨_, n2, ?_⟩)
               | (refine ⟨own_le1, ?_⟩)
               | (rw [own_all1])
               | (refine Or.inl ⟨_, n3, ?_⟩)
               | (refine ⟨_, n3, ?_⟩)
               | (refine Or.inr ⟨_, n4, ?_⟩)
               | (refine Or.inr ⟨_, n5, ?_⟩)
               | (refine Or.inl ⟨_, n6, ?_⟩)
               | (refine ⟨_, n6, ?_⟩)
               | (refine cond_0 b1 ?_)
               | (refine cond_0 b2 ?_)
               | (refine cond_0 b3 ?_)
               | (refine Or.inl ?_)
               | (refine cond_f ?_ ?_)
               | (refine ⟨_, ⟨by decide, rfl⟩, ?_⟩)
               | (refine cond_i (fun h => ?_) (fun h => ?_)))
      all_goals (conv => whnf)
      refine ⟨⟨all ++ p, F.2, (M ++ F.1).length, F.2.bad⟩, _, rfl, ⟨hz2, rfl, fun _ => ⟨by rw [ha], by rw [ha]⟩, fun hb => ?_⟩, wk⟩
      rw [← hF] at hb ⊢
      exact runM_fin _ rfl hb
    · subst i2
      have n1 := feed_bad m p hb
      have n4 := st_Left m
      have h4 := i4 hb
      have b0 : (m.bad != 0) = true := by simpa using hb
      have b1 : (m.bad != m.bad) = false := by simp
      have b2 : (((m.s.size : Nat) : Int) != 0) = false := by rw [h4]; rfl
      refine awp_go ?_
      repeat' (conv => whnf
               first
               | (refine And.intro (by kernel_rfl) ?_)
               | (refine And.intro ⟨by kernel_rfl, by kernel_rfl⟩ ?_)
               | (refine cond_1 c1 ?_)
               | (refine cond_1 c2 ?_)
               | (refine ⟨_, f1, ?_⟩)
               | (refine cond_0 c3 ?_)
               | (refine ⟨f2, ?_⟩)
               | (refine Or.inr ⟨_, n1, ?_⟩)
               | (refine Or.inr ⟨_, n4, ?_⟩)
               | (refine cond_1 b0 ?_)
               | (refine cond_0 b1 ?_)
               | (refine cond_0 b2 ?_)
               | (refine cond_f ?_ ?_)
               | (refine ⟨_, ⟨by decide, rfl⟩, ?_⟩)
               | (refine cond_i (fun h => ?_) (fun h => ?_)))
      all_goals (conv => whnf)
      exact ⟨⟨all ++ p, m, told, m.bad⟩, _, rfl, ⟨hz2, rfl, fun h => absurd h hb, i4⟩, wk⟩
  · obtain ⟨all, m, told, bad⟩ := b
    refine awp_go ?_
    by_cases hk : 30 ≤ l.length
    · have hm : min l.length 30 = 30 := by omega
      rw [hm]
      have c1 : decide (((30 : Nat) : Int) < ((l.map strG).length : Int)) = true ∨ decide (((30 : Nat) : Int) < ((l.map strG).length : Int)) = false := by cases decide (((30 : Nat) : Int) < ((l.map strG).length : Int)) <;> simp
      rcases c1 with c1 | c1
      · skip
        repeat' (conv => whnf
                 first
                 | (refine And.intro (by kernel_rfl) ?_)
                 | (refine And.intro ⟨by kernel_rfl, by kernel_rfl⟩ ?_)
                 | (refine cond_1 c1 ?_)
                 | (refine Or.inl ⟨_, aw, ?_⟩)
                 | (refine ⟨_, aw, ?_⟩)
                 | (refine cond_f ?_ ?_)
                 | (refine ⟨_, ⟨by decide, rfl⟩, ?_⟩)
                 | (refine cond_i (fun h => ?_) (fun h => ?_)))
        all_goals (conv => whnf)
        all_goals rfl
      · skip
        repeat' (conv => whnf
                 first
                 | (refine And.intro (by kernel_rfl) ?_)
                 | (refine And.intro ⟨by kernel_rfl, by kernel_rfl⟩ ?_)
                 | (refine cond_0 c1 ?_)
                 | (refine Or.inl ⟨_, aw, ?_⟩)
                 | (refine ⟨_, aw, ?_⟩)
                 | (refine cond_f ?_ ?_)
                 | (refine ⟨_, ⟨by decide, rfl⟩, ?_⟩)
                 | (refine cond_i (fun h => ?_) (fun h => ?_)))
        all_goals (conv => whnf)
        all_goals rfl
    · have hm : min l.length 30 = l.length := by omega
      rw [hm]
      have c1 : decide ((l.length : Int) < ((l.map strG).length : Int)) = false := lt_end
      repeat' (conv => whnf
               first
               | (refine And.intro (by kernel_rfl) ?_)
               | (refine And.intro ⟨by kernel_rfl, by kernel_rfl⟩ ?_)
               | (refine cond_0 c1 ?_)
               | (refine Or.inl ⟨_, aw, ?_⟩)
               | (refine ⟨_, aw, ?_⟩)
               | (refine cond_f ?_ ?_)
               | (refine ⟨_, ⟨by decide, rfl⟩, ?_⟩)
               | (refine cond_i (fun h => ?_) (fun h => ?_)))
      all_goals (conv => whnf)
      all_goals rfl
end Go.Proofs.Ytijohhdgecadnaa.Cn
