
/- Law 25: who is below one who is below another one is below that. No condition but lengths. -/
import Derived.Test.YtcihkmnolagdlaaDoorSp1
import Derived.Test.YtcihkmnolagdlaaDoorCn0
import Derived.Test.YtcihkmnolagdlaaDoorSp22
import Derived.Test.YtcihkmnolagdlaaDoorSp6
import Derived.Test.YtcihkmnolagdlaaDoorCn105
import Derived.Test.YtcihkmnolagdlaaDoorCn107
import Derived.Test.YtcihkmnolagdlaaDoorProg
import Derived.KernelRfl
import Derived.Test.YtcihkmnolagdlaaDoorAv18
namespace Go.Proofs.YtcihkmnolagdlaaDoor.Cn
open Go Go.Proofs Go.Proofs.YtcihkmnolagdlaaDoor.Av Go.Proofs.YtcihkmnolagdlaaDoor.Sp
set_option linter.unusedVariables false
set_option linter.unusedSimpArgs false
set_option linter.unusedSectionVars false
set_option maxRecDepth 100000
attribute [local irreducible] Fv Fp

theorem has_take {a : Sp.Key} {l : List Sp.Key} {j : Nat} (hj : j < l.length) (h : a ∉ l.take j) (h2 : l[j] ≠ a) : a ∉ l.take (j + 1) := by
  rw [take_snoc hj, List.mem_append]; simp only [List.mem_singleton]
  rintro (h3 | h3)
  · exact h h3
  · exact h2 h3.symm
set_option maxHeartbeats 4000000 in
theorem ref25_Has (l : List Sp.Key) (a : Sp.Key) (hl : l.length < 4611686018427387904) : Fv Tryd.prog 16 [.sl (l.map Key.g), .agg a.g] (.bool (decide (a ∈ l))) := by
  refine Fv.of_awp Tryd.func16 rfl (by kernel_rfl) rfl (Nat.le_of_ble_eq_true rfl) ?_
  repeat' (conv => whnf
           first
           | (refine And.intro (by kernel_rfl) ?_)
           | (refine And.intro ⟨by kernel_rfl, by kernel_rfl⟩ ?_)
           | (refine cond_f ?_ ?_)
           | (refine ⟨_, ⟨by decide, rfl⟩, ?_⟩)
           | (refine cond_i (fun h => ?_) (fun h => ?_)))
  all_goals (conv => whnf)
  refine Has.each [0, 3, 5] [] l.length (fun j (_ : Unit) => a ∉ l.take j) (fun _ i => St.of 18 [(0, .sl (l.map Key.g)), (3, .ptr 3 0), (5, .int .i64 i)] [(3, a.g)] []) ⟨(), 0, rfl, by simp, rfl⟩ (fun j _ hj hI => ?_) (fun _ hI => ?_)
  · have f1 := row_at (R := Key.g) hj
    have e1 := key_eqB l[j] a
    by_cases h : l[j] = a
    · rw [decide_eq_true h] at e1
      have hm : a ∈ l := h ▸ List.getElem_mem hj
      rw [decide_eq_true hm]
      refine awp_go ?_
      repeat' (conv => whnf
               first
               | (refine And.intro (by kernel_rfl) ?_)
               | (refine And.intro ⟨by kernel_rfl, by kernel_rfl⟩ ?_)
               | (refine cond_1 (lt_at hj) ?_)
               | (refine ⟨_, f1, ?_⟩)
               | (refine cond_1 e1 ?_)
               | (refine cond_f ?_ ?_)
               | (refine ⟨_, ⟨by decide, rfl⟩, ?_⟩)
               | (refine cond_i (fun h => ?_) (fun h => ?_)))
      all_goals (conv => whnf)
      all_goals rfl
    · rw [decide_eq_false h] at e1
      refine awp_go ?_
      repeat' (conv => whnf
               first
               | (refine And.intro (by kernel_rfl) ?_)
               | (refine And.intro ⟨by kernel_rfl, by kernel_rfl⟩ ?_)
               | (refine cond_1 (lt_at hj) ?_)
               | (refine ⟨_, f1, ?_⟩)
               | (refine cond_0 e1 ?_)
               | (refine cond_f ?_ ?_)
               | (refine ⟨_, ⟨by decide, rfl⟩, ?_⟩)
               | (refine cond_i (fun h => ?_) (fun h => ?_)))
      all_goals (conv => whnf)
      exact ⟨(), _, rfl, has_take hj hI h, up1 hj hl⟩
  · rw [List.take_length] at hI
    rw [decide_eq_false hI]
    refine awp_go ?_
    repeat' (conv => whnf
             first
             | (refine And.intro (by kernel_rfl) ?_)
             | (refine And.intro ⟨by kernel_rfl, by kernel_rfl⟩ ?_)
             | (refine cond_0 lt_end ?_)
             | (refine cond_f ?_ ?_)
             | (refine ⟨_, ⟨by decide, rfl⟩, ?_⟩)
             | (refine cond_i (fun h => ?_) (fun h => ?_)))
    all_goals (conv => whnf)
    all_goals rfl
theorem below_mono {k : Sp.Key} {out : List Sp.Key} {e : Ev} {a : Sp.Key} (h : a ∈ out) : a ∈ belowStep k out e := by
  unfold belowStep; split
  · exact List.mem_append_left _ h
  · exact h
theorem below_up {k : Sp.Key} {l : List Ev} {a : Sp.Key} : ∀ (m j : Nat), j + m ≤ l.length → a ∈ belowL k (l.take j) → a ∈ belowL k (l.take (j + m))
  | 0, j, _, h => h
  | m + 1, j, hl, h => by
    have h1 := below_up m j (by omega) h
    rw [show j + (m + 1) = j + m + 1 from rfl, belowL_take (show j + m < l.length by omega)]
    exact below_mono h1
theorem below_in {k : Sp.Key} {l : List Ev} {j : Nat} (hj : j < l.length) (h1 : l[j].kind = 3) (h2 : l[j].key ≠ k) (h3 : l[j].parent = k ∨ l[j].parent ∈ belowL k (l.take j)) : l[j].key ∈ belowL k l := by
  have : l[j].key ∈ belowL k (l.take (j + 1)) := by
    rw [belowL_take hj]
    unfold belowStep
    by_cases h4 : l[j].key ∈ k :: belowL k (l.take j)
    · rw [if_neg (fun h => h.2.2 h4)]
      rcases List.mem_cons.1 h4 with h5 | h5
      · exact absurd h5 h2
      · exact h5
    · rw [if_pos ⟨h1, List.mem_cons.2 h3, h4⟩]; simp
  have := below_up (l.length - (j + 1)) (j + 1) (by omega) this
  rwa [show j + 1 + (l.length - (j + 1)) = l.length from by omega, List.take_length] at this
theorem below_not (k : Sp.Key) (l : List Ev) : k ∉ belowL k l := by
  have : ∀ (l : List Ev) (out : List Sp.Key), k ∉ out → k ∉ l.foldl (belowStep k) out := by
    intro l
    induction l with
    | nil => intro out h; exact h
    | cons e l ih =>
      intro out h
      refine ih _ ?_
      unfold belowStep
      split
      · rename_i hc
        rw [List.mem_append]
        rintro (h2 | h2)
        · exact h h2
        · simp only [List.mem_singleton] at h2
          exact hc.2.2 (by rw [← h2]; simp)
      · exact h
  exact this l [] (by simp)
theorem ev_cut {l : List Ev} {j : Nat} : (((l.map Ev.g).take ((j : Int)).toNat).drop 0) = (l.take j).map Ev.g := by
  rw [List.drop_zero, Int.toNat_natCast, List.map_take]
theorem ev_cells (l : List Ev) : ∀ r ∈ l.map Ev.g, r.length = Tryd.prog.cellsOf 30 := fun r hr => by
  obtain ⟨e, _, rfl⟩ := List.mem_map.1 hr
  rw [show Tryd.prog.cellsOf 30 = 18 from by kernel_rfl]; rfl
set_option maxHeartbeats 8000000 in
theorem law25_EventBelow (l : List Ev) (k : Sp.Key) : Fv Tryd.prog 5 [.sl (l.map Ev.g), .agg k.g] (.bool true) := by
  have aw := law25_awake
  refine Fv.of_awp Tryd.func5 rfl (by kernel_rfl) rfl (Nat.le_of_ble_eq_true rfl) ?_
  by_cases hl : l.length > 60
  · have b1 : decide (((l.map Ev.g).length : Int) > 60) = true := decide_eq_true (by rw [List.length_map]; omega)
    repeat' (conv => whnf
             first
             | (refine And.intro (by kernel_rfl) ?_)
             | (refine And.intro ⟨by kernel_rfl, by kernel_rfl⟩ ?_)
             | (refine cond_1 b1 ?_)
             | (refine Or.inl ⟨_, aw, ?_⟩)
             | (refine ⟨_, aw, ?_⟩)
             | (refine cond_f ?_ ?_)
             | (refine ⟨_, ⟨by decide, rfl⟩, ?_⟩)
             | (refine cond_i (fun h => ?_) (fun h => ?_)))
    all_goals (conv => whnf)
    all_goals rfl
  have b1 : decide (((l.map Ev.g).length : Int) > 60) = false := decide_eq_false (by rw [List.length_map]; omega)
  have n0 := ev_Below l k (by omega)
  have hlen := belowL_len k l
  repeat' (conv => whnf
           first
           | (refine And.intro (by kernel_rfl) ?_)
           | (refine And.intro ⟨by kernel_rfl, by kernel_rfl⟩ ?_)
           | (refine cond_0 b1 ?_)
           | (refine Or.inl ⟨_, n0, ?_⟩)
           | (refine ⟨_, n0, ?_⟩)
           | (refine cond_f ?_ ?_)
           | (refine ⟨_, ⟨by decide, rfl⟩, ?_⟩)
           | (refine cond_i (fun h => ?_) (fun h => ?_)))
  all_goals (conv => whnf)
  refine Has.each [0, 3, 5, 6] [7] l.length (fun _ (_ : Unit) => True) (fun _ i => St.of 67 [(0, .sl (l.map Ev.g)), (3, .ptr 3 0), (5, .sl ((belowL k l).map Key.g)), (6, .int .i64 i)] [(3, k.g)] []) ⟨(), 0, rfl, trivial, rfl⟩ (fun j _ hj _ => ?_) (fun _ _ => ?_)
  · have f1 := row_at (R := Ev.g) hj
    have wj := up1 hj (show l.length < 4611686018427387904 by omega)
    have n1 := ev_Below (l.take j) k (by rw [List.length_take]; omega)
    rw [← ev_cut] at n1
    have s1 : (0 : Int) ≤ 0 ∧ (0 : Int) ≤ (j : Int) ∧ (j : Int) ≤ ((l.map Ev.g).length : Int) ∧ ∀ r ∈ l.map Ev.g, r.length = Tryd.prog.cellsOf 30 := ⟨by omega, by omega, by rw [List.length_map]; omega, ev_cells l⟩
    have n2 := ref25_Has (belowL k (l.take j)) l[j].parent (by have := belowL_len k (l.take j); rw [List.length_take] at this; omega)
    have n3 := ref25_Has (belowL k l) l[j].key (by omega)
    have e1 := key_eqB l[j].key k
    have e2 := key_eqB l[j].parent k
    have hin := below_in (k := k) hj
    by_cases c1 : l[j].kind = 3
    · have d1 : (l[j].kind != 3) = false := by simpa using c1
      by_cases c2 : l[j].key = k
      · rw [decide_eq_true c2] at e1
        refine awp_go ?_
        repeat' (conv => whnf
                 first
                 | (refine And.intro (by kernel_rfl) ?_)
                 | (refine And.intro ⟨by kernel_rfl, by kernel_rfl⟩ ?_)
                 | (refine cond_1 (lt_at hj) ?_)
                 | (refine ⟨_, f1, ?_⟩)
                 | (refine cond_0 d1 ?_)
                 | (refine cond_1 e1 ?_)
                 | (refine cond_f ?_ ?_)
                 | (refine ⟨_, ⟨by decide, rfl⟩, ?_⟩)
                 | (refine cond_i (fun h => ?_) (fun h => ?_)))
        all_goals (conv => whnf)
        exact ⟨(), _, rfl, trivial, wj⟩
      · rw [decide_eq_false c2] at e1
        by_cases c3 : l[j].parent = k
        · rw [decide_eq_true c3] at e2
          rw [decide_eq_true (hin c1 c2 (.inl c3))] at n3
          by_cases c4 : l[j].parent ∈ belowL k (l.take j)
          · rw [decide_eq_true c4] at n2
            refine awp_go ?_
            repeat' (conv => whnf
                     first
                     | (refine And.intro (by kernel_rfl) ?_)
                     | (refine And.intro ⟨by kernel_rfl, by kernel_rfl⟩ ?_)
                     | (refine cond_1 (lt_at hj) ?_)
                     | (refine ⟨_, f1, ?_⟩)
                     | (refine cond_0 d1 ?_)
                     | (refine cond_0 e1 ?_)
                     | (refine cond_1 e2 ?_)
                     | (refine Or.inl ⟨_, n3, ?_⟩)
                     | (refine ⟨_, n3, ?_⟩)
                     | (refine ⟨s1, ?_⟩)
                     | (refine Or.inl ⟨_, n1, ?_⟩)
                     | (refine ⟨_, n1, ?_⟩)
                     | (refine Or.inl ⟨_, n2, ?_⟩)
                     | (refine ⟨_, n2, ?_⟩)
                     | (refine cond_f ?_ ?_)
                     | (refine ⟨_, ⟨by decide, rfl⟩, ?_⟩)
                     | (refine cond_i (fun h => ?_) (fun h => ?_)))
            all_goals (conv => whnf)
            exact ⟨(), _, rfl, trivial, wj⟩
          · rw [decide_eq_false c4] at n2
            refine awp_go ?_
            repeat' (conv => whnf
                     first
                     | (refine And.intro (by kernel_rfl) ?_)
                     | (refine And.intro ⟨by kernel_rfl, by kernel_rfl⟩ ?_)
                     | (refine cond_1 (lt_at hj) ?_)
                     | (refine ⟨_, f1, ?_⟩)
                     | (refine cond_0 d1 ?_)
                     | (refine cond_0 e1 ?_)
                     | (refine cond_1 e2 ?_)
                     | (refine Or.inl ⟨_, n3, ?_⟩)
                     | (refine ⟨_, n3, ?_⟩)
                     | (refine ⟨s1, ?_⟩)
                     | (refine Or.inl ⟨_, n1, ?_⟩)
                     | (refine ⟨_, n1, ?_⟩)
                     | (refine Or.inl ⟨_, n2, ?_⟩)
                     | (refine ⟨_, n2, ?_⟩)
                     | (refine cond_f ?_ ?_)
                     | (refine ⟨_, ⟨by decide, rfl⟩, ?_⟩)
                     | (refine cond_i (fun h => ?_) (fun h => ?_)))
            all_goals (conv => whnf)
            exact ⟨(), _, rfl, trivial, wj⟩
        · rw [decide_eq_false c3] at e2
          by_cases c4 : l[j].parent ∈ belowL k (l.take j)
          · rw [decide_eq_true c4] at n2
            rw [decide_eq_true (hin c1 c2 (.inr c4))] at n3
            refine awp_go ?_
            repeat' (conv => whnf
                     first
                     | (refine And.intro (by kernel_rfl) ?_)
                     | (refine And.intro ⟨by kernel_rfl, by kernel_rfl⟩ ?_)
                     | (refine cond_1 (lt_at hj) ?_)
                     | (refine ⟨_, f1, ?_⟩)
                     | (refine cond_0 d1 ?_)
                     | (refine cond_0 e1 ?_)
                     | (refine cond_0 e2 ?_)
                     | (refine Or.inl ⟨_, n3, ?_⟩)
                     | (refine ⟨_, n3, ?_⟩)
                     | (refine ⟨s1, ?_⟩)
                     | (refine Or.inl ⟨_, n1, ?_⟩)
                     | (refine ⟨_, n1, ?_⟩)
                     | (refine Or.inl ⟨_, n2, ?_⟩)
                     | (refine ⟨_, n2, ?_⟩)
                     | (refine cond_f ?_ ?_)
                     | (refine ⟨_, ⟨by decide, rfl⟩, ?_⟩)
                     | (refine cond_i (fun h => ?_) (fun h => ?_)))
            all_goals (conv => whnf)
            exact ⟨(), _, rfl, trivial, wj⟩
          · rw [decide_eq_false c4] at n2
            refine awp_go ?_
            repeat' (conv => whnf
                     first
                     | (refine And.intro (by kernel_rfl) ?_)
                     | (refine And.intro ⟨by kernel_rfl, by kernel_rfl⟩ ?_)
                     | (refine cond_1 (lt_at hj) ?_)
                     | (refine ⟨_, f1, ?_⟩)
                     | (refine cond_0 d1 ?_)
                     | (refine cond_0 e1 ?_)
                     | (refine cond_0 e2 ?_)
                     | (refine ⟨s1, ?_⟩)
                     | (refine Or.inl ⟨_, n1, ?_⟩)
                     | (refine ⟨_, n1, ?_⟩)
                     | (refine Or.inl ⟨_, n2, ?_⟩)
                     | (refine ⟨_, n2, ?_⟩)
                     | (refine cond_f ?_ ?_)
                     | (refine ⟨_, ⟨by decide, rfl⟩, ?_⟩)
                     | (refine cond_i (fun h => ?_) (fun h => ?_)))
            all_goals (conv => whnf)
            exact ⟨(), _, rfl, trivial, wj⟩
    · have d1 : (l[j].kind != 3) = true := by simpa using c1
      refine awp_go ?_
      repeat' (conv => whnf
               first
               | (refine And.intro (by kernel_rfl) ?_)
               | (refine And.intro ⟨by kernel_rfl, by kernel_rfl⟩ ?_)
               | (refine cond_1 (lt_at hj) ?_)
               | (refine ⟨_, f1, ?_⟩)
               | (refine cond_1 d1 ?_)
               | (refine cond_f ?_ ?_)
               | (refine ⟨_, ⟨by decide, rfl⟩, ?_⟩)
               | (refine cond_i (fun h => ?_) (fun h => ?_)))
      all_goals (conv => whnf)
      exact ⟨(), _, rfl, trivial, wj⟩
  · have n3 := ref25_Has (belowL k l) k (by omega)
    rw [decide_eq_false (below_not k l)] at n3
    refine awp_go ?_
    repeat' (conv => whnf
             first
             | (refine And.intro (by kernel_rfl) ?_)
             | (refine And.intro ⟨by kernel_rfl, by kernel_rfl⟩ ?_)
             | (refine cond_0 lt_end ?_)
             | (refine Or.inl ⟨_, n3, ?_⟩)
             | (refine ⟨_, n3, ?_⟩)
             | (refine Or.inl ⟨_, aw, ?_⟩)
             | (refine ⟨_, aw, ?_⟩)
             | (refine cond_f ?_ ?_)
             | (refine ⟨_, ⟨by decide, rfl⟩, ?_⟩)
             | (refine cond_i (fun h => ?_) (fun h => ?_)))
    all_goals (conv => whnf)
    all_goals rfl
end Go.Proofs.YtcihkmnolagdlaaDoor.Cn
