
/- Contract: the keys of those that were begun below an owner (a set in a map). No condition but lengths. -/
import Derived.Test.YtcihkmnolagdlaaDoorSp1
import Derived.Test.YtcihkmnolagdlaaDoorCn0
import Derived.Test.YtcihkmnolagdlaaDoorSp22
import Derived.Test.YtcihkmnolagdlaaDoorSp6
import Derived.Test.YtcihkmnolagdlaaDoorProg
import Derived.KernelRfl
import Derived.Test.YtcihkmnolagdlaaDoorAv18
namespace Go.Proofs.YtcihkmnolagdlaaDoor.Cn
open Go Go.Proofs Go.Proofs.YtcihkmnolagdlaaDoor.Av Go.Proofs.YtcihkmnolagdlaaDoor.Sp
set_option linter.unusedVariables false
set_option linter.unusedSimpArgs false
set_option linter.unusedSectionVars false
set_option maxRecDepth 100000
attribute [local irreducible] Fv Fp

theorem eqT_key (a q : Sp.Key) : eqT Tryd.prog 12 28 a.g q.g = some (decide (a = q)) := by
  rw [← key_eqB]; rfl
/-- Does a row of a set of keys bear this key? -/
noncomputable def keyF (a : Sp.Key) (r : List G) : Bool := (eqT Tryd.prog 12 28 a.g (r.take 4)).getD false
def setR (q : Sp.Key) : List G := q.g ++ []
theorem setR_take (q : Sp.Key) : (setR q).take 4 = q.g := rfl
theorem keyF_eq (a q : Sp.Key) : keyF a (setR q) = decide (a = q) := by unfold keyF; rw [setR_take, eqT_key]; rfl
theorem key_look (a : Sp.Key) (l : List Sp.Key) : ∀ r ∈ l.map setR, eqT Tryd.prog 12 28 (G.agg a.g).cells (r.take 4) = some (keyF a r) := fun r hr => by
  obtain ⟨q, _, rfl⟩ := List.mem_map.1 hr
  rw [keyF_eq]; exact eqT_key a q
theorem key_put (a : Sp.Key) (l : List Sp.Key) : ∀ r ∈ l.map setR, eqT Tryd.prog 12 28 (G.agg a.g).cells (r.take 4) = some (keyF a r) ∧ (keyF a r = true → r.take 4 = (G.agg a.g).cells) := fun r hr => by
  refine ⟨key_look a l r hr, fun h => ?_⟩
  obtain ⟨q, _, rfl⟩ := List.mem_map.1 hr
  rw [keyF_eq] at h
  rw [of_decide_eq_true h]; rfl
theorem hit_key (a : Sp.Key) : ∀ (l : List Sp.Key), (a ∈ l → ∃ i q, hitI (keyF a) (l.map setR) = some i ∧ l[i]? = some q) ∧ (a ∉ l → hitI (keyF a) (l.map setR) = none)
  | [] => ⟨fun h => by simp at h, fun _ => rfl⟩
  | q :: l => by
    obtain ⟨h1, h2⟩ := hit_key a l
    unfold List.map hitI
    rw [keyF_eq]
    by_cases e : a = q
    · rw [decide_eq_true e]
      exact ⟨fun _ => ⟨0, q, rfl, rfl⟩, fun h => absurd (by simp [e]) h⟩
    · rw [decide_eq_false e]
      refine ⟨fun h => ?_, fun h => ?_⟩
      · obtain ⟨i, x, q1, q2⟩ := h1 (by simpa [e] using h)
        exact ⟨i + 1, x, by rw [cond_false, q1]; rfl, by simpa using q2⟩
      · rw [cond_false, h2 (fun hm => h (by simp [hm]))]; rfl
theorem look_set (a : Sp.Key) (l : List Sp.Key) : Look (keyF a) 4 [] (l.map setR) [] (decide (a ∈ l)) := by
  obtain ⟨h1, h2⟩ := hit_key a l
  by_cases h : a ∈ l
  · rw [decide_eq_true h]
    obtain ⟨i, q, q1, q2⟩ := h1 h
    exact .inl ⟨i, setR q, q1, by rw [List.getElem?_map, q2]; rfl, rfl, rfl⟩
  · rw [decide_eq_false h]; exact .inr ⟨h2 h, rfl, rfl⟩
theorem put_set (a : Sp.Key) (l : List Sp.Key) (h : a ∉ l) : mput (keyF a) (setR a) (l.map setR) = (l ++ [a]).map setR := by
  unfold mput; rw [(hit_key a l).2 h, List.map_append]; rfl
/-- The set, and the row, as a loop's head tells them. -/
def BelI (k : Sp.Key) (l : List Ev) (j : Nat) (b : List (List G) × Nat × List (List G)) : Prop :=
  b.1 = (k :: belowL k (l.take j)).map setR ∧ b.2.1 = (belowL k (l.take j)).length ∧ b.2.2 = (belowL k (l.take j)).map Key.g
theorem key_app {l : List Sp.Key} (h : l.length ≤ 1000) : 0 + l.length ≤ (l.map Key.g).length ∧ (0 < l.length + 1 ∨ l.map Key.g = []) ∧ fitsB Tryd.prog 28 (l.length + 1) ∧
    ∀ r ∈ l.map Key.g, r.length = Tryd.prog.cellsOf 28 := by
  refine ⟨by simp, .inl (by omega), fits 32 (by kernel_rfl) (by omega), fun r hr => ?_⟩
  obtain ⟨q, _, rfl⟩ := List.mem_map.1 hr
  rw [show Tryd.prog.cellsOf 28 = 4 from by kernel_rfl]; rfl
theorem key_snoc {l : List Sp.Key} {a : Sp.Key} : ((l.map Key.g).drop 0).take l.length ++ [a.g] = (l ++ [a]).map Key.g := by
  rw [List.drop_zero, List.map_append, List.take_of_length_le (by simp)]; rfl
set_option maxHeartbeats 8000000 in
theorem ev_Below (l : List Ev) (k : Sp.Key) (hl : l.length ≤ 200) : Fv Tryd.prog 15 [.sl (l.map Ev.g), .agg k.g] (.sl ((belowL k l).map Key.g)) := by
  refine Fv.of_awp Tryd.func15 rfl (by kernel_rfl) rfl (Nat.le_of_ble_eq_true rfl) ?_
  have p0 := key_put k []
  repeat' (conv => whnf
           first
           | (refine And.intro (by kernel_rfl) ?_)
           | (refine And.intro ⟨by kernel_rfl, by kernel_rfl⟩ ?_)
           | (refine ⟨keyF k, p0, ?_⟩)
           | (refine cond_f ?_ ?_)
           | (refine ⟨_, ⟨by decide, rfl⟩, ?_⟩)
           | (refine cond_i (fun h => ?_) (fun h => ?_)))
  all_goals (conv => whnf)
  refine Has.own0 6 55 rfl rfl ?_
  refine Has.each [5, 6, 17, 18, 19] [3, 8, 9, 11] l.length (BelI k l) (fun b i =>
    St.of 58 [(5, .mp 13 4 3), (6, .own 55 0 b.2.1), (17, .sl (l.map Ev.g)), (18, .int .i64 (l.map Ev.g).length), (19, .int .i64 i)] [] [(13, b.1), (55, b.2.2)]) ⟨([setR k], 0, []), _, rfl, ⟨rfl, rfl, rfl⟩, rfl⟩ (fun j b hj hI => ?_) (fun b hI => ?_)
  · obtain ⟨M, n, R⟩ := b
    obtain ⟨hM, hn, hR⟩ := hI
    simp only at hM hn hR
    subst hM; subst hn; subst hR
    have f1 := row_at (R := Ev.g) hj
    have hlen := belowL_len k (l.take j)
    rw [List.length_take] at hlen
    have hstep := belowL_take (k := k) hj
    generalize belowL k (l.take j) = out at *
    generalize l[j] = e at *
    have k1 := key_look e.parent (k :: out)
    have k2 := key_look e.key (k :: out)
    have k3 := key_put e.key (k :: out)
    have l1 := look_set e.parent (k :: out)
    have l2 := look_set e.key (k :: out)
    have wj := up1 hj (show l.length < 4611686018427387904 by omega)
    by_cases c1 : e.kind = 3
    · have b1 : (e.kind == 3) = true := by simpa using c1
      by_cases c2 : e.parent ∈ k :: out
      · rw [decide_eq_true c2] at l1
        by_cases c3 : e.key ∈ k :: out
        · rw [decide_eq_true c3] at l2
          rw [belowStep, if_neg (fun h => h.2.2 c3)] at hstep
          refine awp_go ?_
          repeat' (conv => whnf
                   first
                   | (refine And.intro (by kernel_rfl) ?_)
                   | (refine And.intro ⟨by kernel_rfl, by kernel_rfl⟩ ?_)
                   | (refine cond_1 (lt_at hj) ?_)
                   | (refine ⟨_, f1, ?_⟩)
                   | (refine ⟨keyF e.parent, k1, [], _, l1, ?_⟩)
                   | (refine ⟨keyF e.key, k2, [], _, l2, ?_⟩)
                   | (refine cond_1 b1 ?_)
                   | (refine cond_f ?_ ?_)
                   | (refine ⟨_, ⟨by decide, rfl⟩, ?_⟩)
                   | (refine cond_i (fun h => ?_) (fun h => ?_)))
          all_goals (conv => whnf)
          exact ⟨(_, _, _), _, rfl, ⟨by rw [hstep], by rw [hstep], by rw [hstep]⟩, wj⟩
        · rw [decide_eq_false c3] at l2
          rw [belowStep, if_pos ⟨c1, c2, c3⟩] at hstep
          have a1 := key_app (l := out) (by omega)
          have a2 := put_set e.key (k :: out) c3
          refine awp_go ?_
          repeat' (conv => whnf
                   first
                   | (refine And.intro (by kernel_rfl) ?_)
                   | (refine And.intro ⟨by kernel_rfl, by kernel_rfl⟩ ?_)
                   | (refine cond_1 (lt_at hj) ?_)
                   | (refine ⟨_, f1, ?_⟩)
                   | (refine ⟨keyF e.parent, k1, [], _, l1, ?_⟩)
                   | (refine ⟨keyF e.key, k2, [], _, l2, ?_⟩)
                   | (refine cond_1 b1 ?_)
                   | (refine ⟨keyF e.key, k3, ?_⟩)
                   | (refine ⟨a1, ?_⟩)
                   | (refine cond_f ?_ ?_)
                   | (refine ⟨_, ⟨by decide, rfl⟩, ?_⟩)
                   | (refine cond_i (fun h => ?_) (fun h => ?_)))
          all_goals (conv => whnf)
          refine ⟨(_, _, _), _, rfl, ⟨?_, ?_, ?_⟩, wj⟩
          · rw [hstep]; exact a2
          · rw [hstep, List.length_append]; rfl
          · rw [hstep]; exact key_snoc
      · rw [decide_eq_false c2] at l1
        rw [belowStep, if_neg (fun h => c2 h.2.1)] at hstep
        refine awp_go ?_
        repeat' (conv => whnf
                 first
                 | (refine And.intro (by kernel_rfl) ?_)
                 | (refine And.intro ⟨by kernel_rfl, by kernel_rfl⟩ ?_)
                 | (refine cond_1 (lt_at hj) ?_)
                 | (refine ⟨_, f1, ?_⟩)
                 | (refine ⟨keyF e.parent, k1, [], _, l1, ?_⟩)
                 | (refine ⟨keyF e.key, k2, [], _, l2, ?_⟩)
                 | (refine cond_1 b1 ?_)
                 | (refine cond_f ?_ ?_)
                 | (refine ⟨_, ⟨by decide, rfl⟩, ?_⟩)
                 | (refine cond_i (fun h => ?_) (fun h => ?_)))
        all_goals (conv => whnf)
        exact ⟨(_, _, _), _, rfl, ⟨by rw [hstep], by rw [hstep], by rw [hstep]⟩, wj⟩
    · have b1 : (e.kind == 3) = false := by simpa using c1
      rw [belowStep, if_neg (fun h => c1 h.1)] at hstep
      refine awp_go ?_
      repeat' (conv => whnf
               first
               | (refine And.intro (by kernel_rfl) ?_)
               | (refine And.intro ⟨by kernel_rfl, by kernel_rfl⟩ ?_)
               | (refine cond_1 (lt_at hj) ?_)
               | (refine ⟨_, f1, ?_⟩)
               | (refine ⟨keyF e.parent, k1, [], _, l1, ?_⟩)
               | (refine ⟨keyF e.key, k2, [], _, l2, ?_⟩)
               | (refine cond_0 b1 ?_)
               | (refine cond_f ?_ ?_)
               | (refine ⟨_, ⟨by decide, rfl⟩, ?_⟩)
               | (refine cond_i (fun h => ?_) (fun h => ?_)))
      all_goals (conv => whnf)
      exact ⟨(_, _, _), _, rfl, ⟨by rw [hstep], by rw [hstep], by rw [hstep]⟩, wj⟩
  · obtain ⟨M, n, R⟩ := b
    obtain ⟨hM, hn, hR⟩ := hI
    simp only at hM hn hR
    subst hM; subst hn; subst hR
    rw [List.take_length]
    have h5 := own_le1 (l := belowL k l) (R := Key.g)
    have h6 := own_all1 (l := belowL k l) (R := Key.g)
    refine awp_go ?_
    repeat' (conv => whnf
             first
             | (refine And.intro (by kernel_rfl) ?_)
             | (refine And.intro ⟨by kernel_rfl, by kernel_rfl⟩ ?_)
             | (refine cond_0 lt_end ?_)
             | (refine ⟨h5, ?_⟩)
             | (rw [h6])
             | (refine cond_f ?_ ?_)
             | (refine ⟨_, ⟨by decide, rfl⟩, ?_⟩)
             | (refine cond_i (fun h => ?_) (fun h => ?_)))
    all_goals (conv => whnf)
    all_goals rfl
end Go.Proofs.YtcihkmnolagdlaaDoor.Cn
