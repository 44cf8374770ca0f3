
/- Contracts: events of a kind (a copy, and a deletion in place). No condition but lengths. -/
import Derived.Test.YtcihkmnolagdlaaDoorSp1
import Derived.Test.YtcihkmnolagdlaaDoorCn0
import Derived.Test.YtcihkmnolagdlaaDoorSp21
import Derived.Test.YtcihkmnolagdlaaDoorProg
import Derived.KernelRfl
import Derived.Test.YtcihkmnolagdlaaDoorAv18
namespace Go.Proofs.YtcihkmnolagdlaaDoor.Cn
open Go Go.Proofs Go.Proofs.YtcihkmnolagdlaaDoor.Av Go.Proofs.YtcihkmnolagdlaaDoor.Sp
set_option linter.unusedVariables false
set_option linter.unusedSimpArgs false
set_option linter.unusedSectionVars false
set_option maxRecDepth 100000
attribute [local irreducible] Fv Fp

theorem ev_Of1 (e : Ev) (k : Int) : Fv Tryd.prog 42 [.agg e.g, .elt [.int .i64 k] 0] (.bool (e.kind != k)) := by
  refine Fv.of_awp Tryd.func42 rfl (by kernel_rfl) rfl (Nat.le_of_ble_eq_true rfl) ?_
  repeat' (conv => whnf
           first
           | (refine And.intro (by kernel_rfl) ?_)
           | (refine And.intro ⟨by kernel_rfl, by kernel_rfl⟩ ?_)
           | (refine cond_f ?_ ?_)
           | (refine ⟨_, ⟨by decide, rfl⟩, ?_⟩)
           | (refine cond_i (fun h => ?_) (fun h => ?_)))
  all_goals (conv => whnf)
  all_goals rfl
theorem ev_Clone (l : List Ev) (hs : l.length ≤ 1000) : Fp Tryd.prog 41 [.sl (l.map Ev.g)] [] [] (.own 0 0 l.length, [], [some (l.map Ev.g)]) := by
  cases l with
  | nil =>
    refine Fp.nilCases (Fp.none0 (g0 := .nils) (fun _ _ _ => nils_room) ?_) ?_
    · refine Fp.of_awp Tryd.func41 rfl (by kernel_rfl) (Nat.le_of_ble_eq_true rfl) ?_
      repeat' (conv => whnf
               first
               | (refine And.intro (by kernel_rfl) ?_)
               | (refine And.intro ⟨by kernel_rfl, by kernel_rfl⟩ ?_)
               | (refine cond_f ?_ ?_)
               | (refine ⟨_, ⟨by decide, rfl⟩, ?_⟩)
               | (refine cond_i (fun h => ?_) (fun h => ?_)))
      all_goals (conv => whnf)
      all_goals rfl
    · refine Fp.of_awp Tryd.func41 rfl (by kernel_rfl) (Nat.le_of_ble_eq_true rfl) ?_
      repeat' (conv => whnf
               first
               | (refine And.intro (by kernel_rfl) ?_)
               | (refine And.intro ⟨by kernel_rfl, by kernel_rfl⟩ ?_)
               | (refine ⟨fits 144 (by kernel_rfl) (by simp), ?_⟩)
               | (refine cond_f ?_ ?_)
               | (refine ⟨_, ⟨by decide, rfl⟩, ?_⟩)
               | (refine cond_i (fun h => ?_) (fun h => ?_)))
      all_goals (conv => whnf)
      all_goals rfl
  | cons c l =>
    have h1 : okRows (Tryd.prog.cellsOf 30) ((c :: l).map Ev.g) = true := ok_map 18 (by kernel_rfl) (fun _ => rfl) (fun _ => rfl)
    refine Fp.of_awp Tryd.func41 rfl (by kernel_rfl) (Nat.le_of_ble_eq_true rfl) ?_
    have h2 : (2 * ((c :: l).map Ev.g).length + 1024) * 144 ≤ 281474976710656 := by rw [List.length_map]; omega
    repeat' (conv => whnf
             first
             | (refine And.intro (by kernel_rfl) ?_)
             | (refine And.intro ⟨by kernel_rfl, by kernel_rfl⟩ ?_)
             | (refine cond_1 h1 ?_)
             | (refine ⟨fits 144 (by kernel_rfl) h2, ?_⟩)
             | (refine cond_f ?_ ?_)
             | (refine ⟨_, ⟨by decide, rfl⟩, ?_⟩)
             | (refine cond_i (fun h => ?_) (fun h => ?_)))
    all_goals (conv => whnf)
    all_goals (simp only [List.length_map]; rfl)
set_option maxHeartbeats 4000000 in
theorem ev_IndexO (l : List Ev) (k : Int) (hs : l.length ≤ 1000) : Fv Tryd.prog 58 [.sl (l.map Ev.g), .fn 42 [.elt [.int .i64 k] 0]]
    (.int .i64 (idxB (fun e => e.kind != k) l)) := by
  refine Fv.of_awp Tryd.func58 rfl (by kernel_rfl) rfl (Nat.le_of_ble_eq_true rfl) ?_
  repeat' (conv => whnf
           first
           | (refine And.intro (by kernel_rfl) ?_)
           | (refine And.intro ⟨by kernel_rfl, by kernel_rfl⟩ ?_)
           | (refine cond_f ?_ ?_)
           | (refine ⟨_, ⟨by decide, rfl⟩, ?_⟩)
           | (refine cond_i (fun h => ?_) (fun h => ?_)))
  all_goals (conv => whnf)
  refine Has.each [0, 1, 7, 8] [] l.length (fun j (_ : Unit) => idxB (fun e => e.kind != k) (l.take j) = -1) (fun _ i =>
    St.of 19 [(0, .sl (l.map Ev.g)), (1, .fn 42 [.elt [.int .i64 k] 0]), (7, .int .i64 ((l.map Ev.g).length : Nat)), (8, .int .i64 i)] [] []) ⟨(), _, rfl, rfl, rfl⟩ (fun j _ hj hI => ?_) (fun _ hI => ?_)
  · have f1 := row_at (R := Ev.g) hj
    have hF := ev_Of1 l[j] k
    cases hb : (l[j].kind != k) with
    | true =>
      rw [hb] at hF
      refine awp_go ?_
      repeat' (conv => whnf
               first
               | (refine And.intro (by kernel_rfl) ?_)
               | (refine And.intro ⟨by kernel_rfl, by kernel_rfl⟩ ?_)
               | (refine cond_1 (lt_at hj) ?_)
               | (refine ⟨_, f1, ?_⟩)
               | (refine Or.inl ⟨_, hF, ?_⟩)
               | (refine ⟨_, hF, ?_⟩)
               | (refine cond_f ?_ ?_)
               | (refine ⟨_, ⟨by decide, rfl⟩, ?_⟩)
               | (refine cond_i (fun h => ?_) (fun h => ?_)))
      all_goals (conv => whnf)
      rw [idx_hit hj hI hb]
    | false =>
      rw [hb] at hF
      refine awp_go ?_
      repeat' (conv => whnf
               first
               | (refine And.intro (by kernel_rfl) ?_)
               | (refine And.intro ⟨by kernel_rfl, by kernel_rfl⟩ ?_)
               | (refine cond_1 (lt_at hj) ?_)
               | (refine ⟨_, f1, ?_⟩)
               | (refine Or.inl ⟨_, hF, ?_⟩)
               | (refine ⟨_, hF, ?_⟩)
               | (refine cond_f ?_ ?_)
               | (refine ⟨_, ⟨by decide, rfl⟩, ?_⟩)
               | (refine cond_i (fun h => ?_) (fun h => ?_)))
      all_goals (conv => whnf)
      exact ⟨(), _, rfl, idx_step hj hI hb, up1 hj (by omega)⟩
  · rw [List.take_length] at hI
    rw [hI]
    refine awp_go ?_
    repeat' (conv => whnf
             first
             | (refine And.intro (by kernel_rfl) ?_)
             | (refine And.intro ⟨by kernel_rfl, by kernel_rfl⟩ ?_)
             | (refine cond_0 lt_end ?_)
             | (refine cond_f ?_ ?_)
             | (refine ⟨_, ⟨by decide, rfl⟩, ?_⟩)
             | (refine cond_i (fun h => ?_) (fun h => ?_)))
    all_goals (conv => whnf)
    all_goals rfl
end Go.Proofs.YtcihkmnolagdlaaDoor.Cn
