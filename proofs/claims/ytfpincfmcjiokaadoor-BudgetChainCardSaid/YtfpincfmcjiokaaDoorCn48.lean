/- Law 14: a chain of hops. No condition. -/
import Derived.Test.YtfpincfmcjiokaaDoorCn47
import Derived.Test.YtfpincfmcjiokaaDoorAv16
namespace Go.Proofs.YtfpincfmcjiokaaDoor.Cn
open Go Go.Proofs Go.Proofs.YtfpincfmcjiokaaDoor.Av Go.Proofs.YtfpincfmcjiokaaDoor.Sp
set_option linter.unusedVariables false
set_option linter.unusedSimpArgs false
set_option maxRecDepth 100000
attribute [local irreducible] Fv Fp

def intG (n : Int) : List G := [.int .i64 n]
theorem budget_Chain (d : Int) (l : List Int) (hl : l.length < 1000000) : Fv Tryd.prog 27 [.int .i64 d, .sl (l.map intG)] (.int .i64 (clamp (l.foldl next d))) := by
  refine Fv.of_awp Tryd.func27 rfl (by kernel_rfl) rfl (Nat.le_of_ble_eq_true rfl) ?_
  repeat' (conv => whnf
           first
           | (refine And.intro (by kernel_rfl) ?_)
           | (refine And.intro ⟨by kernel_rfl, by kernel_rfl⟩ ?_)
           | (refine cond_f ?_ ?_)
           | (refine ⟨_, ⟨by decide, rfl⟩, ?_⟩)
           | (refine cond_i (fun h => ?_) (fun h => ?_)))
  all_goals (conv => whnf)
  refine Has.each [0, 7, 8, 9] [] l.length (fun k (b : Int) => b = (l.take k).foldl next d) (fun b i =>
    St.of 19 [(0, .int .i64 b), (7, .sl (l.map intG)), (8, .int .i64 ((l.map intG).length : Int)), (9, .int .i64 i)] [] []) ⟨d, 0, rfl, rfl, rfl⟩ (fun k b hk hI => ?_) (fun b hI => ?_)
  · have n1 := (budget_Next b l[k]).1
    refine awp_go ?_
    repeat' (conv => whnf
             first
             | (refine And.intro (by kernel_rfl) ?_)
             | (refine And.intro ⟨by kernel_rfl, by kernel_rfl⟩ ?_)
             | (refine cond_1 (lt_at hk) ?_)
             | (refine ⟨_, row_at hk, ?_⟩)
             | (refine Or.inl ⟨_, n1, ?_⟩)
             | (refine ⟨_, n1, ?_⟩)
             | (refine cond_f ?_ ?_)
             | (refine ⟨_, ⟨by decide, rfl⟩, ?_⟩)
             | (refine cond_i (fun h => ?_) (fun h => ?_)))
    all_goals (conv => whnf)
    refine ⟨next b l[k], IntKind.i64.wrap ((k : Int) + 1), rfl, ?_, wrap_i64 (by omega)⟩
    rw [List.take_succ_eq_append_getElem hk, List.foldl_append, hI]
    rfl
  · have n2 := ticks_Clamp b
    refine awp_go ?_
    repeat' (conv => whnf
             first
             | (refine And.intro (by kernel_rfl) ?_)
             | (refine And.intro ⟨by kernel_rfl, by kernel_rfl⟩ ?_)
             | (refine cond_0 lt_end ?_)
             | (refine Or.inl ⟨_, n2, ?_⟩)
             | (refine ⟨_, n2, ?_⟩)
             | (refine cond_f ?_ ?_)
             | (refine ⟨_, ⟨by decide, rfl⟩, ?_⟩)
             | (refine cond_i (fun h => ?_) (fun h => ?_)))
    all_goals (conv => whnf)
    rw [hI, List.take_length]
theorem chain_no (d : Int) (l : List Int) (h : l.length > 100) : Fv Tryd.prog 8 [.int .i64 d, .sl (l.map intG)] (.bool true) := by
  have aw := law14_awake
  have b2 : decide (((l.map intG).length : Int) > 100) = true := decide_eq_true (by rw [List.length_map]; omega)
  refine Fv.of_awp Tryd.func8 rfl (by kernel_rfl) rfl (Nat.le_of_ble_eq_true rfl) ?_
  repeat' (conv => whnf
           first
           | (refine And.intro (by kernel_rfl) ?_)
           | (refine And.intro ⟨by kernel_rfl, by kernel_rfl⟩ ?_)
           | (refine cond_1 b2 ?_)
           | (refine Or.inl ⟨_, aw, ?_⟩)
           | (refine ⟨_, aw, ?_⟩)
           | (refine cond_f ?_ ?_)
           | (refine ⟨_, ⟨by decide, rfl⟩, ?_⟩)
           | (refine cond_i (fun h => ?_) (fun h => ?_)))
  all_goals (conv => whnf)
  all_goals rfl
theorem fold_clamp (d : Int) (l : List Int) : clamp (l.foldl next d) = l.foldl next (clamp d) := by
  cases l with
  | nil => rfl
  | cons n l =>
    simp only [List.foldl_cons, next_clamp]
    suffices h : ∀ (l : List Int) (x : Int), clamp x = x → clamp (l.foldl next x) = l.foldl next x from h l _ (next_bd d n)
    intro l
    induction l with
    | nil => intro x h; exact h
    | cons m l ih => intro x h; exact ih _ (next_bd x m)
theorem law14_BudgetChain (d : Int) (l : List Int) : Fv Tryd.prog 8 [.int .i64 d, .sl (l.map intG)] (.bool true) := by
  by_cases hno : l.length > 100
  · exact chain_no d l hno
  have aw := law14_awake
  have b2 : decide (((l.map intG).length : Int) > 100) = false := decide_eq_false (by rw [List.length_map]; omega)
  have n0 := ref01_Clamp d
  have n9 := budget_Chain d l (by omega)
  rw [fold_clamp] at n9
  have hd := clamp_bd d
  obtain ⟨c, hc⟩ : ∃ c, clamp d = c := ⟨_, rfl⟩
  rw [hc] at n0 n9 hd
  refine Fv.of_awp Tryd.func8 rfl (by kernel_rfl) rfl (Nat.le_of_ble_eq_true rfl) ?_
  repeat' (conv => whnf
           first
           | (refine And.intro (by kernel_rfl) ?_)
           | (refine And.intro ⟨by kernel_rfl, by kernel_rfl⟩ ?_)
           | (refine cond_0 b2 ?_)
           | (refine Or.inl ⟨_, n0, ?_⟩)
           | (refine ⟨_, n0, ?_⟩)
           | (refine cond_f ?_ ?_)
           | (refine ⟨_, ⟨by decide, rfl⟩, ?_⟩)
           | (refine cond_i (fun h => ?_) (fun h => ?_)))
  all_goals (conv => whnf)
  refine Has.each [0, 1, 5, 6, 7] [] l.length (fun k (b : Int) => b = (l.take k).foldl next c ∧ 0 ≤ b ∧ b ≤ c) (fun b i =>
    St.of 50 [(0, .int .i64 d), (1, .sl (l.map intG)), (5, .int .i64 c), (6, .int .i64 b), (7, .int .i64 i)] [] []) ⟨c, 0, rfl, ⟨rfl, by omega, by omega⟩, rfl⟩ (fun k b hk hI => ?_) (fun b hI => ?_)
  · have n1 := (budget_Next b l[k]).2
    have n2 := ref01_Clamp l[k]
    by_cases h : clamp l[k] > b
    · have b3 : decide (clamp l[k] > b) = true := decide_eq_true h
      refine awp_go ?_
      repeat' (conv => whnf
               first
               | (refine And.intro (by kernel_rfl) ?_)
               | (refine And.intro ⟨by kernel_rfl, by kernel_rfl⟩ ?_)
               | (refine cond_1 (lt_at hk) ?_)
               | (refine ⟨_, row_at hk, ?_⟩)
               | (refine Or.inl ⟨_, n2, ?_⟩)
               | (refine ⟨_, n2, ?_⟩)
               | (refine cond_1 b3 ?_)
               | (refine Or.inl ⟨_, aw, ?_⟩)
               | (refine ⟨_, aw, ?_⟩)
               | (refine cond_f ?_ ?_)
               | (refine ⟨_, ⟨by decide, rfl⟩, ?_⟩)
               | (refine cond_i (fun h => ?_) (fun h => ?_)))
      all_goals (conv => whnf)
      all_goals rfl
    · have b3 : decide (clamp l[k] > b) = false := decide_eq_false h
      refine awp_go ?_
      repeat' (conv => whnf
               first
               | (refine And.intro (by kernel_rfl) ?_)
               | (refine And.intro ⟨by kernel_rfl, by kernel_rfl⟩ ?_)
               | (refine cond_1 (lt_at hk) ?_)
               | (refine ⟨_, row_at hk, ?_⟩)
               | (refine Or.inl ⟨_, n2, ?_⟩)
               | (refine ⟨_, n2, ?_⟩)
               | (refine cond_0 b3 ?_)
               | (refine Or.inl ⟨_, n1, ?_⟩)
               | (refine ⟨_, n1, ?_⟩)
               | (refine cond_f ?_ ?_)
               | (refine ⟨_, ⟨by decide, rfl⟩, ?_⟩)
               | (refine cond_i (fun h => ?_) (fun h => ?_)))
      all_goals (conv => whnf)
      refine ⟨next b l[k], IntKind.i64.wrap ((k : Int) + 1), rfl, ?_, wrap_i64 (by omega)⟩
      have hn := next_le (d := b) (n := l[k]) (by omega) (by omega)
      refine ⟨?_, by omega, by omega⟩
      rw [List.take_succ_eq_append_getElem hk, List.foldl_append, hI.1]
      rfl
  · have hb : b = l.foldl next c := by rw [hI.1, List.take_length]
    rw [← hb] at n9
    have e1 : (b == b) = true := by simp
    have e2 : decide (b ≤ c) = true := decide_eq_true hI.2.2
    refine awp_go ?_
    repeat' (conv => whnf
             first
             | (refine And.intro (by kernel_rfl) ?_)
             | (refine And.intro ⟨by kernel_rfl, by kernel_rfl⟩ ?_)
             | (refine cond_0 lt_end ?_)
             | (refine Or.inl ⟨_, n9, ?_⟩)
             | (refine ⟨_, n9, ?_⟩)
             | (refine cond_1 e1 ?_)
             | (refine cond_1 e2 ?_)
             | (refine Or.inl ⟨_, aw, ?_⟩)
             | (refine ⟨_, aw, ?_⟩)
             | (refine cond_f ?_ ?_)
             | (refine ⟨_, ⟨by decide, rfl⟩, ?_⟩)
             | (refine cond_i (fun h => ?_) (fun h => ?_)))
    all_goals (conv => whnf)
    all_goals rfl
end Go.Proofs.YtfpincfmcjiokaaDoor.Cn
