/- What the law's own function puts in an owner. No condition but lengths. -/
import Derived.Test.YteioecdfimphaaaCn12
namespace Go.Proofs.Yteioecdfimphaaa.Cn
open Go Go.Proofs Go.Proofs.Yteioecdfimphaaa.Av Go.Proofs.Yteioecdfimphaaa.Sp
set_option linter.unusedVariables false
set_option linter.unusedSimpArgs false
set_option maxRecDepth 100000
attribute [local irreducible] Fv Fp

theorem own_round {α : Type} {m : List α} {R : α → List G} {k : Nat} (hk : k < m.length) {x : List G} (e : R m[k] = x) : (((m.take k).map R).drop 0).take k ++ [x] = (m.take (k + 1)).map R := by rw [← e]; exact own_app hk
set_option maxHeartbeats 4000000 in
theorem ref23_With (o : Owner) (c : Sp.Call) (hs : o.calls.length ≤ 30) : Fv Try.prog 36 [.agg o.g, .agg c.g] (.agg (withO o c).g) := by
  refine Fv.of_awp Try.func36 rfl (by kernel_rfl) rfl (Nat.le_of_ble_eq_true rfl) ?_
  have h2 := ref23_Find o c.id (by omega)
  unfold findI withO withC at *
  cases hf : o.calls.findIdx? (fun x => x.id == c.id) with
  | some i =>
    simp only [hf] at h2 ⊢
    have hi : i < o.calls.length := (List.findIdx?_eq_some_iff_getElem.1 hf).1
    repeat' (conv => whnf
             first
             | (refine And.intro (by kernel_rfl) ?_)
             | (refine And.intro ⟨by kernel_rfl, by kernel_rfl⟩ ?_)
             | (refine Or.inl ⟨_, h2, ?_⟩)
             | (refine ⟨_, h2, ?_⟩)
             | (refine cond_f ?_ ?_)
             | (refine ⟨_, ⟨by decide, rfl⟩, ?_⟩)
             | (refine cond_i (fun h => ?_) (fun h => ?_)))
    all_goals (conv => whnf)
    refine Has.own0 6 43 rfl rfl ?_
    refine Has.each [2, 3, 4, 5, 6, 7] [] o.calls.length (OwnI Call.g (o.calls.set i c)) (fun b i' =>
      St.of 43 [(2, .ptr 2 0), (3, .ptr 3 0), (4, .ptr 4 0), (5, .int .i64 (i : Nat)), (6, .own 43 0 b.1), (7, .int .i64 i')] [(2, o.g), (3, c.g), (4, zOwner.gw .nils)] [(43, b.2)]) ⟨(0, []), _, rfl, ⟨rfl, rfl⟩, rfl⟩ (fun k b hk hI => ?_) (fun b hI => ?_)
    · obtain ⟨n, xs⟩ := b
      obtain ⟨rfl, rfl⟩ : n = k ∧ xs = _ := hI
      have hk' : n < (o.calls.set i c).length := by rw [List.length_set]; exact hk
      have e : (o.calls.set i c)[n] = if i = n then c else o.calls[n] := List.getElem_set ..
      generalize o.calls.set i c = m at *
      refine awp_go ?_
      repeat' (conv => whnf
               first
               | (refine And.intro (by kernel_rfl) ?_)
               | (refine And.intro ⟨by kernel_rfl, by kernel_rfl⟩ ?_)
               | (refine cond_1 (lt_at hk) ?_)
               | (refine ⟨_, row_at hk, ?_⟩)
               | (refine ⟨app_at 13 104 (Nat.le_of_lt hk') (by kernel_rfl) (by kernel_rfl) (fun _ => rfl) (by omega), ?_⟩)
               | (refine cond_f ?_ ?_)
               | (refine ⟨_, ⟨by decide, rfl⟩, ?_⟩)
               | (refine cond_i (fun h => ?_) (fun h => ?_)))
      all_goals (conv => whnf)
      · simp only [beq_iff_eq] at h
        rw [if_pos (by omega)] at e
        exact ⟨(_, _), _, rfl, ⟨rfl, own_round hk' (by rw [e]; rfl)⟩, up1 hk (by omega)⟩
      · simp only [beq_eq_false_iff_ne, ne_eq] at h
        rw [if_neg (by omega)] at e
        exact ⟨(_, _), _, rfl, ⟨rfl, own_round hk' (by rw [e]; rfl)⟩, up1 hk (by omega)⟩
    · obtain ⟨n, xs⟩ := b
      obtain ⟨rfl, rfl⟩ : n = _ ∧ xs = _ := hI
      have hl : o.calls.length = (o.calls.set i c).length := by rw [List.length_set]
      have h4 : decide ((i : Int) < 0) = false := by simp
      have h5 : 0 + o.calls.length ≤ (((o.calls.set i c).take o.calls.length).map Call.g).length := by rw [hl]; exact own_le
      have h6 : ((((o.calls.set i c).take o.calls.length).map Call.g).drop 0).take o.calls.length = (o.calls.set i c).map Call.g := by rw [hl]; exact own_all
      refine awp_go ?_
      repeat' (conv => whnf
               first
               | (refine And.intro (by kernel_rfl) ?_)
               | (refine And.intro ⟨by kernel_rfl, by kernel_rfl⟩ ?_)
               | (refine cond_0 lt_end ?_)
               | (refine cond_0 h4 ?_)
               | (refine ⟨h5, ?_⟩)
               | (rw [h6])
               | (refine cond_f ?_ ?_)
               | (refine ⟨_, ⟨by decide, rfl⟩, ?_⟩)
               | (refine cond_i (fun h => ?_) (fun h => ?_)))
      all_goals (conv => whnf)
      all_goals rfl
  | none =>
    simp only [hf] at h2 ⊢
    repeat' (conv => whnf
             first
             | (refine And.intro (by kernel_rfl) ?_)
             | (refine And.intro ⟨by kernel_rfl, by kernel_rfl⟩ ?_)
             | (refine Or.inl ⟨_, h2, ?_⟩)
             | (refine ⟨_, h2, ?_⟩)
             | (refine cond_f ?_ ?_)
             | (refine ⟨_, ⟨by decide, rfl⟩, ?_⟩)
             | (refine cond_i (fun h => ?_) (fun h => ?_)))
    all_goals (conv => whnf)
    refine Has.own0 6 43 rfl rfl ?_
    refine Has.each [2, 3, 4, 5, 6, 7] [] o.calls.length (OwnI Call.g o.calls) (fun b i' =>
      St.of 43 [(2, .ptr 2 0), (3, .ptr 3 0), (4, .ptr 4 0), (5, .int .i64 (-1)), (6, .own 43 0 b.1), (7, .int .i64 i')] [(2, o.g), (3, c.g), (4, zOwner.gw .nils)] [(43, b.2)]) ⟨(0, []), _, rfl, ⟨rfl, rfl⟩, rfl⟩ (fun k b hk hI => ?_) (fun b hI => ?_)
    · obtain ⟨n, xs⟩ := b
      obtain ⟨rfl, rfl⟩ : n = k ∧ xs = _ := hI
      have h4 : ((n : Int) == -1) = false := by simp
      refine awp_go ?_
      repeat' (conv => whnf
               first
               | (refine And.intro (by kernel_rfl) ?_)
               | (refine And.intro ⟨by kernel_rfl, by kernel_rfl⟩ ?_)
               | (refine cond_1 (lt_at hk) ?_)
               | (refine cond_0 h4 ?_)
               | (refine ⟨_, row_at hk, ?_⟩)
               | (refine ⟨app_at 13 104 (Nat.le_of_lt hk) (by kernel_rfl) (by kernel_rfl) (fun _ => rfl) (by omega), ?_⟩)
               | (refine cond_f ?_ ?_)
               | (refine ⟨_, ⟨by decide, rfl⟩, ?_⟩)
               | (refine cond_i (fun h => ?_) (fun h => ?_)))
      all_goals (conv => whnf)
      exact ⟨(_, _), _, rfl, ⟨rfl, own_app (R := Call.g) hk⟩, up1 hk (by omega)⟩
    · obtain ⟨n, xs⟩ := b
      obtain ⟨rfl, rfl⟩ : n = _ ∧ xs = _ := hI
      have h3 := app_at (P := Try.prog) (e := 56) (l := o.calls) (R := Call.g) (k := o.calls.length) (r := c.g) 13 104 (Nat.le_refl _) (by kernel_rfl) (by kernel_rfl) (fun _ => rfl) (by omega)
      rw [List.take_length] at *
      refine awp_go ?_
      repeat' (conv => whnf
               first
               | (refine And.intro (by kernel_rfl) ?_)
               | (refine And.intro ⟨by kernel_rfl, by kernel_rfl⟩ ?_)
               | (refine cond_0 lt_end ?_)
               | (refine ⟨h3, ?_⟩)
               | (refine cond_f ?_ ?_)
               | (refine ⟨_, ⟨by decide, rfl⟩, ?_⟩)
               | (refine cond_i (fun h => ?_) (fun h => ?_)))
      all_goals (conv => whnf)
      refine ⟨by simp, ?_⟩
      conv => whnf
      show G.agg (o.gw (.sl ((((((o.calls.map Call.g).drop 0).take o.calls.length) ++ [c.g]).drop 0).take (o.calls.length + [c.g].length)))) = _
      rw [own_all1, own_app1]
      rw [show o.calls.map Call.g ++ [c.g] = (o.calls ++ [c]).map Call.g from by rw [List.map_append]; rfl]
      rfl
end Go.Proofs.Yteioecdfimphaaa.Cn
