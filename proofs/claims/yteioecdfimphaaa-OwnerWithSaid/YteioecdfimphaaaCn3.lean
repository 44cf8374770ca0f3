/- Contracts of what the law of programs that end reaches. No condition. -/
import Derived.Test.YteioecdfimphaaaCn2
namespace Go.Proofs.Yteioecdfimphaaa.Cn
open Go Go.Proofs Go.Proofs.Yteioecdfimphaaa.Av Go.Proofs.Yteioecdfimphaaa.Sp
set_option linter.unusedVariables false
set_option linter.unusedSimpArgs false
set_option maxRecDepth 100000

set_option maxHeartbeats 2000000 in
theorem ref22_Op (o : Pop) (n p : Int) : Fv Try.prog 55 [.agg o.g, .int .i64 n, .int .i64 p] (.bool (opRight o n p)) := by
  refine Fv.of_awp Try.func55 rfl (by kernel_rfl) rfl (Nat.le_of_ble_eq_true rfl) ?_
  repeat' (conv => whnf
           first
           | (refine And.intro (by kernel_rfl) ?_)
           | (refine And.intro ⟨by kernel_rfl, by kernel_rfl⟩ ?_)
           | (refine cond_f ?_ ?_)
           | (refine ⟨_, ⟨by decide, rfl⟩, ?_⟩)
           | (refine cond_i (fun h => ?_) (fun h => ?_)))
  all_goals (conv => whnf)
  all_goals
    refine bool_eq ?_
    simp only [beq_iff_eq, beq_eq_false_iff_ne, bne_iff_ne, bne_eq_false_iff_eq, ne_eq, decide_eq_true_eq, decide_eq_false_iff_not] at *
    unfold opRight
    (repeat' split) <;> first | (exfalso; omega) | (simp; omega) | rfl
theorem ref22_Right (l : List Pop) (n p : Int) (hs : l.length < 4611686018427387904) : Fv Try.prog 17 [.sl (l.map Pop.g), .int .i64 n, .int .i64 p] (.bool (opsRight l n p)) := by
  refine Fv.of_awp Try.func17 rfl (by kernel_rfl) rfl (Nat.le_of_ble_eq_true rfl) ?_
  repeat' (conv => whnf
           first
           | (refine And.intro (by kernel_rfl) ?_)
           | (refine And.intro ⟨by kernel_rfl, by kernel_rfl⟩ ?_)
           | (refine cond_f ?_ ?_)
           | (refine ⟨_, ⟨by decide, rfl⟩, ?_⟩)
           | (refine cond_i (fun h => ?_) (fun h => ?_)))
  all_goals (conv => whnf)
  refine Has.each [0, 1, 2, 7] [] l.length (fun k (_ : Unit) => (l.take k).all (fun o => opRight o n p) = true) (fun _ i =>
    St.of 25 [(0, .sl (l.map Pop.g)), (1, .int .i64 n), (2, .int .i64 p), (7, .int .i64 i)] [] []) ⟨(), _, rfl, rfl, rfl⟩ (fun k acc hk hI => ?_) (fun acc hI => ?_)
  · refine awp_go ?_
    repeat' (conv => whnf
             first
             | (refine And.intro (by kernel_rfl) ?_)
             | (refine And.intro ⟨by kernel_rfl, by kernel_rfl⟩ ?_)
             | (refine cond_1 (lt_at hk) ?_)
             | (refine ⟨_, row_at hk, ?_⟩)
             | (refine Or.inl ⟨_, ref22_Op l[k] _ _, ?_⟩)
             | (refine ⟨_, ref22_Op l[k] _ _, ?_⟩)
             | (refine cond_f ?_ ?_)
             | (refine ⟨_, ⟨by decide, rfl⟩, ?_⟩)
             | (refine cond_i (fun h => ?_) (fun h => ?_)))
    all_goals (conv => whnf)
    · refine bool_eq ?_
      unfold opsRight
      have : (l.all fun o => opRight o n p) = false := List.all_eq_false.2 ⟨l[k], List.getElem_mem hk, by simpa using h⟩
      rw [this]; rfl
    · refine ⟨(), _, rfl, ?_, up1 hk hs⟩
      rw [List.take_succ_eq_append_getElem hk, List.all_append, hI]
      simpa using h
  · refine awp_go ?_
    repeat' (conv => whnf
             first
             | (refine And.intro (by kernel_rfl) ?_)
             | (refine And.intro ⟨by kernel_rfl, by kernel_rfl⟩ ?_)
             | (refine cond_0 lt_end ?_)
             | (refine cond_f ?_ ?_)
             | (refine ⟨_, ⟨by decide, rfl⟩, ?_⟩)
             | (refine cond_i (fun h => ?_) (fun h => ?_)))
    all_goals (conv => whnf)
    rw [List.take_length] at hI
    refine bool_eq ?_
    unfold opsRight
    rw [hI]
    simp
    omega
theorem ref22_Units (l : List Pop) (hs : l.length < 9000000000000) : Fv Try.prog 18 [.sl (l.map Pop.g)] (.int .i64 (units l)) := by
  refine Fv.of_awp Try.func18 rfl (by kernel_rfl) rfl (Nat.le_of_ble_eq_true rfl) ?_
  repeat' (conv => whnf
           first
           | (refine And.intro (by kernel_rfl) ?_)
           | (refine And.intro ⟨by kernel_rfl, by kernel_rfl⟩ ?_)
           | (refine cond_f ?_ ?_)
           | (refine ⟨_, ⟨by decide, rfl⟩, ?_⟩)
           | (refine cond_i (fun h => ?_) (fun h => ?_)))
  all_goals (conv => whnf)
  refine Has.each [0, 3, 4] [] l.length (fun k acc => acc = units (l.take k)) (fun acc i =>
    St.of 31 [(0, .sl (l.map Pop.g)), (3, .int .i64 acc), (4, .int .i64 i)] [] []) ⟨_, _, rfl, rfl, rfl⟩ (fun k acc hk hI => ?_) (fun acc hI => ?_)
  · have hb := units_bd (l.take k)
    have hl : (l.take k).length ≤ k := List.length_take_le _ _
    rw [← hI] at hb
    refine awp_go ?_
    repeat' (conv => whnf
             first
             | (refine And.intro (by kernel_rfl) ?_)
             | (refine And.intro ⟨by kernel_rfl, by kernel_rfl⟩ ?_)
             | (refine cond_1 (lt_at hk) ?_)
             | (refine ⟨_, row_at hk, ?_⟩)
             | (refine cond_f ?_ ?_)
             | (refine ⟨_, ⟨by decide, rfl⟩, ?_⟩)
             | (refine cond_i (fun h => ?_) (fun h => ?_)))
    all_goals (conv => whnf)
    all_goals
      refine ⟨_, _, rfl, ?_, up1 hk (by omega)⟩
      unfold units at hI ⊢
      rw [fold_at hk, ← hI]
      unfold unit1
      simp only [beq_iff_eq, beq_eq_false_iff_ne, decide_eq_true_eq, decide_eq_false_iff_not, ne_eq] at *
      rw [wrap_i64 (by omega)]
      (repeat' split) <;> omega
  · refine awp_go ?_
    repeat' (conv => whnf
             first
             | (refine And.intro (by kernel_rfl) ?_)
             | (refine And.intro ⟨by kernel_rfl, by kernel_rfl⟩ ?_)
             | (refine cond_0 lt_end ?_)
             | (refine cond_f ?_ ?_)
             | (refine ⟨_, ⟨by decide, rfl⟩, ?_⟩)
             | (refine cond_i (fun h => ?_) (fun h => ?_)))
    all_goals (conv => whnf)
    all_goals
      rw [hI, List.take_length]
theorem law23_awake : Fv Try.prog 11 [] (.bool true) := by
  refine Fv.of_awp Try.func11 rfl (by kernel_rfl) rfl (Nat.le_of_ble_eq_true rfl) ?_
  have h1 := owner_Step ⟨⟨⟨0, 0, 0⟩, 0⟩, ⟨0, 0, 0⟩, ⟨⟨0, 0, 0⟩, 0⟩, 0, 0, 0, 0, 0, 0, 0, []⟩ [⟨1, 2, 0⟩, ⟨5, 5, 0⟩] (by decide)
  have h2 := owner_Step ⟨⟨⟨0, 0, 0⟩, 0⟩, ⟨0, 0, 0⟩, ⟨⟨0, 0, 0⟩, 0⟩, 0, 0, 0, 0, 0, 0, 1, []⟩ [⟨1, 2, 0⟩, ⟨5, 5, 0⟩] (by decide)
  have h3 := owner_Step ⟨⟨⟨0, 0, 0⟩, 0⟩, ⟨0, 0, 0⟩, ⟨⟨0, 0, 0⟩, 0⟩, 0, 0, 0, 0, 0, 1, 0, []⟩ [⟨1, 2, 0⟩, ⟨5, 5, 0⟩] (by decide)
  have h4 := owner_IsRoot ⟨⟨⟨0, 0, 0⟩, 0⟩, ⟨0, 0, 0⟩, ⟨⟨0, 0, 0⟩, 0⟩, 0, 0, 0, 0, 0, 0, 1, []⟩
  repeat' (conv => whnf
           first
           | (refine And.intro (by kernel_rfl) ?_)
           | (refine And.intro ⟨by kernel_rfl, by kernel_rfl⟩ ?_)
           | (refine Or.inl ⟨_, Fv.nl h1, ?_⟩)
           | (refine ⟨_, Fv.nl h1, ?_⟩)
           | (refine Or.inl ⟨_, h2, ?_⟩)
           | (refine ⟨_, h2, ?_⟩)
           | (refine Or.inl ⟨_, h3, ?_⟩)
           | (refine ⟨_, h3, ?_⟩)
           | (refine Or.inl ⟨_, h4, ?_⟩)
           | (refine ⟨_, h4, ?_⟩)
           | (refine cond_f ?_ ?_)
           | (refine ⟨_, ⟨by decide, rfl⟩, ?_⟩)
           | (refine cond_i (fun h => ?_) (fun h => ?_)))
  all_goals (conv => whnf)
  all_goals rfl
theorem law23_OwnerEnds (l : List Pop) (hs : l.length < 9000000000000) : Fv Try.prog 4 [.sl (l.map Pop.g)] (.bool true) := by
  refine Fv.of_awp Try.func4 rfl (by kernel_rfl) rfl (Nat.le_of_ble_eq_true rfl) ?_
  repeat' (conv => whnf
           first
           | (refine And.intro (by kernel_rfl) ?_)
           | (refine And.intro ⟨by kernel_rfl, by kernel_rfl⟩ ?_)
           | (refine Or.inl ⟨_, ref22_Right l _ _ (by omega), ?_⟩)
           | (refine ⟨_, ref22_Right l _ _ (by omega), ?_⟩)
           | (refine Or.inl ⟨_, law23_awake, ?_⟩)
           | (refine ⟨_, law23_awake, ?_⟩)
           | (refine cond_f ?_ ?_)
           | (refine ⟨_, ⟨by decide, rfl⟩, ?_⟩)
           | (refine cond_i (fun h => ?_) (fun h => ?_)))
  all_goals (conv => whnf)
  have hr : opsRight l 3 2 = true := by simpa using h
  refine Has.each [0, 3] [] l.length (fun k (_ : Unit) => ∀ o ∈ l.take k, o.kind ≠ 2) (fun _ i =>
    St.of 70 [(0, .sl (l.map Pop.g)), (3, .int .i64 i)] [] []) ⟨(), _, rfl, fun o h => by simp at h, rfl⟩ (fun k acc hk hI => ?_) (fun acc hI => ?_)
  · refine awp_go ?_
    repeat' (conv => whnf
             first
             | (refine And.intro (by kernel_rfl) ?_)
             | (refine And.intro ⟨by kernel_rfl, by kernel_rfl⟩ ?_)
             | (refine cond_1 (lt_at hk) ?_)
             | (refine ⟨_, row_at hk, ?_⟩)
             | (refine Or.inl ⟨_, law23_awake, ?_⟩)
             | (refine ⟨_, law23_awake, ?_⟩)
             | (refine cond_f ?_ ?_)
             | (refine ⟨_, ⟨by decide, rfl⟩, ?_⟩)
             | (refine cond_i (fun h => ?_) (fun h => ?_)))
    all_goals (conv => whnf)
    · refine ⟨(), _, rfl, fun o ho => ?_, up1 hk (by omega)⟩
      rw [List.take_succ_eq_append_getElem hk] at ho
      rcases List.mem_append.1 ho with h1 | h1
      · exact hI o h1
      · simp at h1; subst h1; simpa using h
  · refine awp_go ?_
    repeat' (conv => whnf
             first
             | (refine And.intro (by kernel_rfl) ?_)
             | (refine And.intro ⟨by kernel_rfl, by kernel_rfl⟩ ?_)
             | (refine cond_0 lt_end ?_)
             | (refine cond_f ?_ ?_)
             | (refine ⟨_, ⟨by decide, rfl⟩, ?_⟩)
             | (refine cond_i (fun h => ?_) (fun h => ?_)))
    all_goals (conv => whnf)
    rw [List.take_length] at hI
    refine Has.nl ?_
    refine Has.each [0, 4, 5] [6, 7] ((units l).toNat + 1) (fun k (b : Int × Int) => EndI l k b.1 b.2) (fun b i =>
      St.of 70 [(0, .sl (l.map Pop.g)), (4, .ptr 4 0), (5, .int .i64 i)] [(4, (o0 b.1 b.2).g)] []) ⟨(0, 0), _, rfl, endI_zero l, rfl⟩ (fun k b hk hJ => ?_) (fun b hJ => ?_)
    · have hb := units_bd l
      have hle : decide ((k : Int) ≤ units l) = true := by simp; omega
      have hst := owner_Step (o0 b.1 b.2) l (by show 0 < _; omega)
      obtain ⟨pc, done⟩ := b
      simp only at hJ hst ⊢
      have hlen : l.length ≤ 16 := by unfold opsRight at hr; simp only [Bool.and_eq_true, decide_eq_true_eq] at hr; exact hr.2
      have hw : IntKind.i64.wrap ((k : Int) + 1) = (k : Int) + 1 := wrap_i64 (by omega)
      have hU := ref22_Units l hs
      have hd : IntKind.i64.wrap (done + 1) = done + 1 := by
        obtain ⟨p, _, _, q1, q2, _⟩ := hJ
        have := units_bd (l.take p)
        exact wrap_i64 (by omega)
      rcases endI_step hr hI hJ with ⟨kd, x, y, o', hkd, e⟩ | ⟨kd, x, y, pc', done', hkd, e, hne, hJ'⟩
      · rw [e] at hst
        rcases hkd with rfl | rfl | rfl
        all_goals
          refine awp_go ?_
          repeat' (conv => whnf
                   first
                   | (refine And.intro (by kernel_rfl) ?_)
                   | (refine And.intro ⟨by kernel_rfl, by kernel_rfl⟩ ?_)
                   | (refine Or.inl ⟨_, hU, ?_⟩)
                   | (refine ⟨_, hU, ?_⟩)
                   | (refine cond_1 hle ?_)
                   | (refine Or.inl ⟨_, hst, ?_⟩)
                   | (refine ⟨_, hst, ?_⟩)
                   | (refine Or.inl ⟨_, law23_awake, ?_⟩)
                   | (refine ⟨_, law23_awake, ?_⟩)
                   | (refine cond_f ?_ ?_)
                   | (refine ⟨_, ⟨by decide, rfl⟩, ?_⟩)
                   | (refine cond_i (fun h => ?_) (fun h => ?_)))
          all_goals (conv => whnf)
      · rw [e] at hst
        rcases hkd with rfl | rfl
        all_goals
          refine awp_go ?_
          repeat' (conv => whnf
                   first
                   | (refine And.intro (by kernel_rfl) ?_)
                   | (refine And.intro ⟨by kernel_rfl, by kernel_rfl⟩ ?_)
                   | (refine Or.inl ⟨_, hU, ?_⟩)
                   | (refine ⟨_, hU, ?_⟩)
                   | (refine cond_1 hle ?_)
                   | (refine Or.inl ⟨_, hst, ?_⟩)
                   | (refine ⟨_, hst, ?_⟩)
                   | (refine Or.inl ⟨_, law23_awake, ?_⟩)
                   | (refine ⟨_, law23_awake, ?_⟩)
                   | (refine cond_f ?_ ?_)
                   | (refine ⟨_, ⟨by decide, rfl⟩, ?_⟩)
                   | (refine cond_i (fun h => ?_) (fun h => ?_)))
          all_goals (conv => whnf)
          all_goals first | exact ⟨(pc', done'), _, rfl, hJ', hw⟩ | skip
          rename_i g
          have g1 : pc' = pc := beq_iff_eq.1 g
          have g2 : done' ≠ IntKind.i64.wrap (done + 1) := bne_iff_ne.1 h
          rw [hd] at g2
          exact absurd (hne g1) g2
    · exfalso
      have := endI_le hr hJ
      omega
end Go.Proofs.Yteioecdfimphaaa.Cn
