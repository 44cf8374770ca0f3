
/- Law 25: the events of all kinds together are all. No condition. -/
import Derived.Test.YtcihkmnolagdlaaDoorSp1
import Derived.Test.YtcihkmnolagdlaaDoorCn0
import Derived.Test.YtcihkmnolagdlaaDoorSp21
import Derived.Test.YtcihkmnolagdlaaDoorCn99
import Derived.Test.YtcihkmnolagdlaaDoorProg
import Derived.KernelRfl
import Derived.Test.YtcihkmnolagdlaaDoorAv18
namespace Go.Proofs.YtcihkmnolagdlaaDoor.Cn
open Go Go.Proofs Go.Proofs.YtcihkmnolagdlaaDoor.Av Go.Proofs.YtcihkmnolagdlaaDoor.Sp
set_option linter.unusedVariables false
set_option linter.unusedSimpArgs false
set_option linter.unusedSectionVars false
set_option maxRecDepth 100000
attribute [local irreducible] Fv Fp

def upTo (l : List Ev) (k : Nat) : Nat := (l.filter fun e => decide (1 ≤ e.kind ∧ e.kind ≤ (k : Int))).length
def offK (l : List Ev) : Nat := (l.filter fun e => decide (e.kind < 1 ∨ e.kind > 11)).length
theorem upTo_0 (l : List Ev) : upTo l 0 = 0 := by
  induction l with
  | nil => rfl
  | cons e l ih =>
    unfold upTo at ih ⊢
    rw [List.filter_cons, if_neg (by simp only [decide_eq_true_eq]; omega)]
    exact ih
theorem upTo_s (l : List Ev) (k : Nat) : upTo l (k + 1) = upTo l k + (l.filter fun e => e.kind == ((k : Int) + 1)).length := by
  induction l with
  | nil => rfl
  | cons e l ih =>
    unfold upTo at ih ⊢
    rw [List.filter_cons, List.filter_cons, List.filter_cons]
    simp only [decide_eq_true_eq, beq_iff_eq]
    (repeat' split) <;> (try simp only [List.length_cons]) <;> omega
theorem upTo_le (l : List Ev) (k : Nat) : upTo l k ≤ l.length := List.length_filter_le _ _
theorem offK_le (l : List Ev) : offK l ≤ l.length := List.length_filter_le _ _
theorem kinds_all (l : List Ev) : upTo l 11 + offK l = l.length := by
  induction l with
  | nil => rfl
  | cons e l ih =>
    unfold upTo offK at ih ⊢
    rw [List.filter_cons, List.filter_cons]
    simp only [decide_eq_true_eq]
    (repeat' split) <;> (try simp only [List.length_cons]) <;> omega
theorem offK_take {l : List Ev} {k : Nat} (hk : k < l.length) : offK (l.take (k + 1)) = offK (l.take k) + if l[k].kind < 1 ∨ l[k].kind > 11 then 1 else 0 := by
  unfold offK
  rw [take_snoc hk, List.filter_append, List.length_append, List.filter_cons, List.filter_nil]
  simp only [decide_eq_true_eq]
  split <;> rfl
structure KB where
  n : Int
  k : Int
set_option maxHeartbeats 8000000 in
theorem law25_EventKinds (l : List Ev) : Fv Tryd.prog 3 [.sl (l.map Ev.g)] (.bool true) := by
  have aw := law25_awake
  refine Fv.of_awp Tryd.func3 rfl (by kernel_rfl) rfl (Nat.le_of_ble_eq_true rfl) ?_
  by_cases hl : l.length > 60
  · have b1 : decide (((l.map Ev.g).length : Int) > 60) = true := decide_eq_true (by rw [List.length_map]; omega)
    repeat' (conv => whnf
             first
             | (refine And.intro (by kernel_rfl) ?_)
             | (refine And.intro ⟨by kernel_rfl, by kernel_rfl⟩ ?_)
             | (refine cond_1 b1 ?_)
             | (refine Or.inl ⟨_, aw, ?_⟩)
             | (refine ⟨_, aw, ?_⟩)
             | (refine cond_f ?_ ?_)
             | (refine ⟨_, ⟨by decide, rfl⟩, ?_⟩)
             | (refine cond_i (fun h => ?_) (fun h => ?_)))
    all_goals (conv => whnf)
    all_goals rfl
  have b1 : decide (((l.map Ev.g).length : Int) > 60) = false := decide_eq_false (by rw [List.length_map]; omega)
  repeat' (conv => whnf
           first
           | (refine And.intro (by kernel_rfl) ?_)
           | (refine And.intro ⟨by kernel_rfl, by kernel_rfl⟩ ?_)
           | (refine cond_0 b1 ?_)
           | (refine cond_f ?_ ?_)
           | (refine ⟨_, ⟨by decide, rfl⟩, ?_⟩)
           | (refine cond_i (fun h => ?_) (fun h => ?_)))
  all_goals (conv => whnf)
  refine Has.each [0, 3, 4] [] 11 (fun k (b : KB) => b.n = (upTo l k : Int) ∧ b.k = (k : Int) + 1) (fun b _ =>
    St.of 52 [(0, .sl (l.map Ev.g)), (3, .int .i64 b.n), (4, .int .i64 b.k)] [] []) ⟨⟨0, 1⟩, _, rfl, ⟨by rw [upTo_0]; rfl, rfl⟩, rfl⟩ (fun k b hk hI => ?_) (fun b hI => ?_)
  · obtain ⟨n, kk⟩ := b
    obtain ⟨rfl, rfl⟩ := hI
    simp only
    have c1 : decide ((k : Int) + 1 ≤ 11) = true := decide_eq_true (by omega)
    have n1 := ev_Of l ((k : Int) + 1) (by omega)
    have h1 := upTo_le l (k + 1)
    have h2 := upTo_s l k
    have w1 : IntKind.i64.wrap ((upTo l k : Int) + ((((l.filter fun e => e.kind == (k : Int) + 1).map Ev.g).length : Nat) : Int)) = ((upTo l (k + 1) : Nat) : Int) := by
      rw [List.length_map]
      rw [wrap_i64 (by omega)]; omega
    have w2 : IntKind.i64.wrap ((k : Int) + 1 + 1) = ((k + 1 : Nat) : Int) + 1 := by rw [wrap_i64 (by omega)]; omega
    refine awp_go ?_
    repeat' (conv => whnf
             first
             | (refine And.intro (by kernel_rfl) ?_)
             | (refine And.intro ⟨by kernel_rfl, by kernel_rfl⟩ ?_)
             | (refine cond_1 c1 ?_)
             | (refine Or.inl ⟨_, n1, ?_⟩)
             | (refine ⟨_, n1, ?_⟩)
             | (refine cond_f ?_ ?_)
             | (refine ⟨_, ⟨by decide, rfl⟩, ?_⟩)
             | (refine cond_i (fun h => ?_) (fun h => ?_)))
    all_goals (conv => whnf)
    exact ⟨⟨IntKind.i64.wrap ((upTo l k : Int) + ((((l.filter fun e => e.kind == (k : Int) + 1).map Ev.g).length : Nat) : Int)), IntKind.i64.wrap ((k : Int) + 1 + 1)⟩, _, rfl,
      ⟨w1, w2⟩, rfl⟩
  · obtain ⟨n, kk⟩ := b
    obtain ⟨rfl, rfl⟩ := hI
    simp only
    have c1 : decide (((11 : Nat) : Int) + 1 ≤ 11) = false := rfl
    refine awp_go ?_
    repeat' (conv => whnf
             first
             | (refine And.intro (by kernel_rfl) ?_)
             | (refine And.intro ⟨by kernel_rfl, by kernel_rfl⟩ ?_)
             | (refine cond_0 c1 ?_)
             | (refine cond_f ?_ ?_)
             | (refine ⟨_, ⟨by decide, rfl⟩, ?_⟩)
             | (refine cond_i (fun h => ?_) (fun h => ?_)))
    all_goals (conv => whnf)
    refine Has.each [0, 3, 5, 6] [] l.length (fun k (b : Int) => b = (offK (l.take k) : Int)) (fun b i =>
      St.of 52 [(0, .sl (l.map Ev.g)), (3, .int .i64 (upTo l 11 : Nat)), (5, .int .i64 b), (6, .int .i64 i)] [] []) ⟨0, _, rfl, rfl, rfl⟩ (fun k b hk hI => ?_) (fun b hI => ?_)
    · subst hI
      have f1 := row_at (R := Ev.g) hk
      have wk := up1 hk (show l.length < 4611686018427387904 by omega)
      have h1 := offK_take hk
      have h3 := offK_le (l.take (k + 1))
      rw [List.length_take] at h3
      have wn : IntKind.i64.wrap ((offK (l.take k) : Int) + 1) = (offK (l.take k) : Int) + 1 := wrap_i64 (by have := offK_le (l.take k); rw [List.length_take] at this; omega)
      by_cases h2 : l[k].kind < 1
      · have c2 : decide (l[k].kind < 1) = true := decide_eq_true h2
        rw [if_pos (.inl h2)] at h1
        refine awp_go ?_
        repeat' (conv => whnf
                 first
                 | (refine And.intro (by kernel_rfl) ?_)
                 | (refine And.intro ⟨by kernel_rfl, by kernel_rfl⟩ ?_)
                 | (refine cond_1 (lt_at hk) ?_)
                 | (refine ⟨_, f1, ?_⟩)
                 | (refine cond_1 c2 ?_)
                 | (refine cond_f ?_ ?_)
                 | (refine ⟨_, ⟨by decide, rfl⟩, ?_⟩)
                 | (refine cond_i (fun h => ?_) (fun h => ?_)))
        all_goals (conv => whnf)
        exact ⟨IntKind.i64.wrap ((offK (l.take k) : Int) + 1), _, rfl, by rw [wn, h1]; rfl, wk⟩
      · have c2 : decide (l[k].kind < 1) = false := decide_eq_false h2
        by_cases h4 : l[k].kind > 11
        · have c3 : decide (l[k].kind > 11) = true := decide_eq_true h4
          rw [if_pos (.inr h4)] at h1
          refine awp_go ?_
          repeat' (conv => whnf
                   first
                   | (refine And.intro (by kernel_rfl) ?_)
                   | (refine And.intro ⟨by kernel_rfl, by kernel_rfl⟩ ?_)
                   | (refine cond_1 (lt_at hk) ?_)
                   | (refine ⟨_, f1, ?_⟩)
                   | (refine cond_0 c2 ?_)
                   | (refine cond_1 c3 ?_)
                   | (refine cond_f ?_ ?_)
                   | (refine ⟨_, ⟨by decide, rfl⟩, ?_⟩)
                   | (refine cond_i (fun h => ?_) (fun h => ?_)))
          all_goals (conv => whnf)
          exact ⟨IntKind.i64.wrap ((offK (l.take k) : Int) + 1), _, rfl, by rw [wn, h1]; rfl, wk⟩
        · have c3 : decide (l[k].kind > 11) = false := decide_eq_false h4
          rw [if_neg (by omega)] at h1
          refine awp_go ?_
          repeat' (conv => whnf
                   first
                   | (refine And.intro (by kernel_rfl) ?_)
                   | (refine And.intro ⟨by kernel_rfl, by kernel_rfl⟩ ?_)
                   | (refine cond_1 (lt_at hk) ?_)
                   | (refine ⟨_, f1, ?_⟩)
                   | (refine cond_0 c2 ?_)
                   | (refine cond_0 c3 ?_)
                   | (refine cond_f ?_ ?_)
                   | (refine ⟨_, ⟨by decide, rfl⟩, ?_⟩)
                   | (refine cond_i (fun h => ?_) (fun h => ?_)))
          all_goals (conv => whnf)
          exact ⟨(offK (l.take k) : Int), _, rfl, by rw [h1]; rfl, wk⟩
    · subst hI
      rw [List.take_length]
      have h1 := kinds_all l
      have e1 : (IntKind.i64.wrap (((upTo l 11 : Nat) : Int) + (offK l : Int)) == ((l.map Ev.g).length : Int)) = true := by
        rw [wrap_i64 (by omega), List.length_map]; simp; omega
      refine awp_go ?_
      repeat' (conv => whnf
               first
               | (refine And.intro (by kernel_rfl) ?_)
               | (refine And.intro ⟨by kernel_rfl, by kernel_rfl⟩ ?_)
               | (refine cond_0 lt_end ?_)
               | (refine cond_1 e1 ?_)
               | (refine Or.inl ⟨_, aw, ?_⟩)
               | (refine ⟨_, aw, ?_⟩)
               | (refine cond_f ?_ ?_)
               | (refine ⟨_, ⟨by decide, rfl⟩, ?_⟩)
               | (refine cond_i (fun h => ?_) (fun h => ?_)))
      all_goals (conv => whnf)
      all_goals rfl
end Go.Proofs.YtcihkmnolagdlaaDoor.Cn
