/- The law of what is put in an owner. No condition. -/
import Derived.Test.YteioecdfimphaaaCn14
namespace Go.Proofs.Yteioecdfimphaaa.Cn
open Go Go.Proofs Go.Proofs.Yteioecdfimphaaa.Av Go.Proofs.Yteioecdfimphaaa.Sp
set_option linter.unusedVariables false
set_option linter.unusedSimpArgs false
set_option maxRecDepth 100000
attribute [local irreducible] Fv Fp

theorem withC_ids (l : List Sp.Call) (c : Sp.Call) (d : Sp.Id) (h : ¬ d = c.id) : findI (withC l c) d = findI l d := by
  unfold withC
  split
  · rename_i i hf
    obtain ⟨hi, h1, _⟩ := List.findIdx?_eq_some_iff_getElem.1 hf
    unfold findI
    have e : (l.set i c).findIdx? (fun x => x.id == d) = l.findIdx? (fun x => x.id == d) := by
      have k : ∀ (m : List Sp.Call), m.findIdx? (fun x => x.id == d) = (m.map (·.id)).findIdx? (fun x => x == d) := fun m => by rw [List.findIdx?_map]; rfl
      rw [k, k l]
      congr 1
      rw [List.map_set]
      apply List.ext_getElem
      · simp
      · intro n h1' h2'
        rw [List.getElem_set]
        split
        · rename_i e; subst e; simp at h1 ⊢; exact h1.symm
        · rfl
    rw [e]
  · unfold findI
    rw [List.findIdx?_append]
    have : ([c] : List Sp.Call).findIdx? (fun x => x.id == d) = none := by
      simp only [List.findIdx?_cons, List.findIdx?_nil]
      simp
      exact fun e => h e.symm
    rw [this]
    simp
theorem findIdx_ids {l m : List Sp.Call} (d : Sp.Id) (h : l.map (·.id) = m.map (·.id)) : l.findIdx? (fun x => x.id == d) = m.findIdx? (fun x => x.id == d) := by
  have k : ∀ (m : List Sp.Call), m.findIdx? (fun x => x.id == d) = (m.map (·.id)).findIdx? (fun x => x == d) := fun m => by rw [List.findIdx?_map]; rfl
  rw [k, k m, h]
theorem withC_some {l : List Sp.Call} {c : Sp.Call} {i : Nat} (h : l.findIdx? (fun x => x.id == c.id) = some i) : withC l c = l.set i c := by unfold withC; rw [h]
theorem withC_none {l : List Sp.Call} {c : Sp.Call} (h : l.findIdx? (fun x => x.id == c.id) = none) : withC l c = l ++ [c] := by unfold withC; rw [h]
/-- Where what is put is found. -/
theorem withC_at (l : List Sp.Call) (c : Sp.Call) : ∃ i : Nat, ∃ h : i < (withC l c).length, (withC l c).findIdx? (fun x => x.id == c.id) = some i ∧ (withC l c)[i] = c ∧ i ≤ l.length ∧ (l.findIdx? (fun x => x.id == c.id) = some i ∨ i = l.length ∧ withC l c = l ++ [c]) := by
  cases hf : l.findIdx? (fun x => x.id == c.id) with
  | some i =>
    obtain ⟨hi, h1, h2⟩ := List.findIdx?_eq_some_iff_getElem.1 hf
    have hw : withC l c = l.set i c := by unfold withC; rw [hf]
    simp only [hw]
    refine ⟨i, by simpa using hi, ?_, by simp, by omega, .inl rfl⟩
    rw [List.findIdx?_eq_some_iff_getElem]
    refine ⟨by simpa using hi, by simp, fun j hj => ?_⟩
    rw [List.getElem_set_ne (by omega)]
    exact h2 j hj
  | none =>
    have hw : withC l c = l ++ [c] := by unfold withC; rw [hf]
    simp only [hw]
    refine ⟨l.length, by simp, ?_, by simp, by omega, .inr (by simp)⟩
    rw [List.findIdx?_append, hf]
    simp
theorem withC_with (l : List Sp.Call) (c d : Sp.Call) (h : d.id = c.id) : withC (withC l c) d = withC l d := by
  obtain ⟨i, hi, h1, h2, _, h3⟩ := withC_at l c
  have e1 : withC (withC l c) d = (withC l c).set i d := withC_some (by rw [h]; exact h1)
  rw [e1]
  rcases h3 with h3 | ⟨rfl, h4⟩
  · have e2 : withC l c = l.set i c := withC_some h3
    have e3 : withC l d = l.set i d := withC_some (by rw [h]; exact h3)
    rw [e2, e3, List.set_set]
  · have hn : l.findIdx? (fun x => x.id == c.id) = none := by
      cases hf : l.findIdx? (fun x => x.id == c.id) with
      | none => rfl
      | some j =>
        have : withC l c = l.set j c := withC_some hf
        rw [h4] at this
        have := congrArg List.length this
        simp at this
    have e3 : withC l d = l ++ [d] := withC_none (by rw [h]; exact hn)
    rw [h4, e3, List.set_append]
    simp
set_option maxHeartbeats 8000000 in
theorem law23_OwnerWith (o : Owner) (c d : Sp.Call) (other : Sp.Id) : Fv Try.prog 6 [.agg o.g, .agg c.g, .agg d.g, .agg other.g] (.bool true) := by
  refine Fv.of_awp Try.func6 rfl (by kernel_rfl) rfl (Nat.le_of_ble_eq_true rfl) ?_
  by_cases hl : o.calls.length ≤ 30
  · have hy := withC_len o.calls c
    have ez : withO (withO o c) { d with id := c.id } = withO o { d with id := c.id } := by
      show { o with calls := withC (withC o.calls c) { d with id := c.id } } = ({ o with calls := withC o.calls { d with id := c.id } } : Owner)
      rw [withC_with o.calls c { d with id := c.id } rfl]
    have elen : (withO o { d with id := c.id }).calls.length = (withO o c).calls.length := by
      rw [← ez]
      obtain ⟨i, hi, h1, _⟩ := withC_at o.calls c
      show (withC (withC o.calls c) { d with id := c.id }).length = (withC o.calls c).length
      have : withC (withC o.calls c) { d with id := c.id } = (withC o.calls c).set i { d with id := c.id } := withC_some h1
      rw [this]; simp
    obtain ⟨i, hi, g1, g2, _, _⟩ := withC_at o.calls { d with id := c.id }
    have m1 := law23_Mine o hl
    have m3 := law23_One c
    have m4 := law23_One { d with id := c.id }
    have x1 := owner_With o c (by omega)
    have x2 := owner_With (withO o c) { d with id := c.id } (by show (withC o.calls c).length ≤ 31; omega)
    rw [ez] at x2
    have x3 := owner_With o { d with id := c.id } (by omega)
    have hz : (withO o { d with id := c.id }).calls.length < 4611686018427387904 := by rw [elen]; show (withC o.calls c).length < _; omega
    have f1 := owner_Find (withO o { d with id := c.id }) c.id hz
    have f2 := owner_Find (withO o { d with id := c.id }) other hz
    have f3 := owner_Find o other (by omega)
    have q1 := owner_Same (withO o { d with id := c.id }) (withO o { d with id := c.id }) hz
    have q3 := owner_Same o o (by omega)
    rw [decide_eq_true (rfl : o = o)] at q3
    rw [decide_eq_true (rfl : withO o { d with id := c.id } = withO o { d with id := c.id })] at q1
    have g0 : findI (withO o { d with id := c.id }).calls c.id = (i : Int) := by unfold findI withO; simp only [g1]
    rw [g0] at f1
    have eo : ¬ other = c.id → findI (withO o { d with id := c.id }).calls other = findI o.calls other := fun hne => withC_ids _ _ _ hne
    have hi' : i < (withO o { d with id := c.id }).calls.length := hi
    have g2' : (withO o { d with id := c.id }).calls[i] = { d with id := c.id } := g2
    generalize withO o { d with id := c.id } = z at *
    generalize withO o c = y at *
    have r1 := row_at (R := Call.g) hi'
    rw [g2'] at r1
    have b1 : decide ((i : Int) < 0) = false := by simp
    have b2 : decide ((i : Int) ≥ ((z.calls.map Call.g).length : Int)) = false := by simp; omega
    repeat' (conv => whnf
             first
             | (refine And.intro (by kernel_rfl) ?_)
             | (refine And.intro ⟨by kernel_rfl, by kernel_rfl⟩ ?_)
             | (refine Or.inl ⟨_, law23_awake, ?_⟩)
             | (refine ⟨_, law23_awake, ?_⟩)
             | (refine Or.inl ⟨_, m1, ?_⟩)
             | (refine ⟨_, m1, ?_⟩)
             | (refine Or.inl ⟨_, m3, ?_⟩)
             | (refine ⟨_, m3, ?_⟩)
             | (refine Or.inl ⟨_, m4, ?_⟩)
             | (refine ⟨_, m4, ?_⟩)
             | (refine Or.inl ⟨_, x1, ?_⟩)
             | (refine ⟨_, x1, ?_⟩)
             | (refine Or.inl ⟨_, x2, ?_⟩)
             | (refine ⟨_, x2, ?_⟩)
             | (refine Or.inl ⟨_, x3, ?_⟩)
             | (refine ⟨_, x3, ?_⟩)
             | (refine Or.inl ⟨_, f1, ?_⟩)
             | (refine ⟨_, f1, ?_⟩)
             | (refine Or.inl ⟨_, f2, ?_⟩)
             | (refine ⟨_, f2, ?_⟩)
             | (refine Or.inl ⟨_, f3, ?_⟩)
             | (refine ⟨_, f3, ?_⟩)
             | (refine Or.inl ⟨_, q1, ?_⟩)
             | (refine ⟨_, q1, ?_⟩)
             | (refine Or.inl ⟨_, q3, ?_⟩)
             | (refine ⟨_, q3, ?_⟩)
             | (refine cond_0 b1 ?_)
             | (refine cond_0 b2 ?_)
             | (refine ⟨_, r1, ?_⟩)
             | (refine cond_f ?_ ?_)
             | (refine ⟨_, ⟨by decide, rfl⟩, ?_⟩)
             | (refine cond_i (fun h => ?_) (fun h => ?_)))
    all_goals (conv => whnf)
    all_goals first | rfl | (exfalso; simp at h; done) | (exfalso; simp [elen] at h; done) | (exfalso; rename_i hn; rw [id_eqB, decide_eq_false_iff_not] at hn; rw [eo hn] at h; simp at h; done)
  · skip
    repeat' (conv => whnf
             first
             | (refine And.intro (by kernel_rfl) ?_)
             | (refine And.intro ⟨by kernel_rfl, by kernel_rfl⟩ ?_)
             | (refine Or.inl ⟨_, law23_awake, ?_⟩)
             | (refine ⟨_, law23_awake, ?_⟩)
             | (refine cond_f ?_ ?_)
             | (refine ⟨_, ⟨by decide, rfl⟩, ?_⟩)
             | (refine cond_i (fun h => ?_) (fun h => ?_)))
    all_goals (conv => whnf)
    all_goals first | rfl | (exfalso; simp only [List.length_map, decide_eq_true_eq, decide_eq_false_iff_not] at *; omega)
end Go.Proofs.Yteioecdfimphaaa.Cn
