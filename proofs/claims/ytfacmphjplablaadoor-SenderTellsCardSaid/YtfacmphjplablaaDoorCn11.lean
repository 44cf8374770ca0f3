
/- Contracts of what is put in an owner. No condition but lengths. -/
import Derived.Test.YtfacmphjplablaaDoorCn10
namespace Go.Proofs.YtfacmphjplablaaDoor.Cn
open Go Go.Proofs Go.Proofs.YtfacmphjplablaaDoor.Av Go.Proofs.YtfacmphjplablaaDoor.Sp
set_option linter.unusedVariables false
set_option linter.unusedSimpArgs false
set_option maxRecDepth 100000
attribute [local irreducible] Fv Fp

theorem own_le1 {α : Type} {l : List α} {R : α → List G} : 0 + l.length ≤ (l.map R).length := by simp
theorem own_all1 {α : Type} {l : List α} {R : α → List G} : ((l.map R).drop 0).take l.length = l.map R := by rw [List.drop_zero]; exact List.take_of_length_le (by simp)
theorem own_app1 {α : Type} {l : List α} {R : α → List G} {x : List G} : ((l.map R ++ [x]).drop 0).take (l.length + [x].length) = l.map R ++ [x] := by rw [List.drop_zero]; exact List.take_of_length_le (by simp)
theorem own_set1 {α : Type} {l : List α} {R : α → List G} {x : List G} {i : Nat} : (((l.map R).set (0 + (i : Int).toNat) x).drop 0).take l.length = (l.map R).set i x := by
  rw [List.drop_zero, List.take_of_length_le (by simp), Nat.zero_add, Int.toNat_natCast]
set_option maxHeartbeats 4000000 in
theorem owner_With (o : Owner) (c : Sp.Call) (hs : o.calls.length ≤ 31) : Fv Tryd.prog 36 [.agg o.g, .agg c.g] (.agg (withO o c).g) := by
  refine Fv.of_awp Tryd.func36 rfl (by kernel_rfl) rfl (Nat.le_of_ble_eq_true rfl) ?_
  have h1 := owner_Clone o hs
  have h2 := owner_Find o c.id (by omega)
  unfold findI withO withC at *
  cases hf : o.calls.findIdx? (fun x => x.id == c.id) with
  | some i =>
    simp only [hf] at h2 ⊢
    have hi : i < o.calls.length := (List.findIdx?_eq_some_iff_getElem.1 hf).1
    have h3 : (0 ≤ (i : Int) ∧ (i : Int) < (o.calls.length : Int) ∧ (o.calls.map Call.g)[0 + (i : Int).toNat]? = some o.calls[i].g) := ⟨by omega, by omega, by simp [List.getElem?_eq_getElem hi]⟩
    have h4 : decide ((i : Int) ≥ 0) = true := by simp
    have h5 : (o.calls.map Call.g)[0 + (i : Int).toNat]? = some o.calls[i].g ∧ 0 + Tryd.prog.cellsOf 35 ≤ (o.calls[i].g).length := ⟨h3.2.2, Nat.le_of_ble_eq_true (by kernel_rfl)⟩
    repeat' (conv => whnf
             first
             | (refine And.intro (by kernel_rfl) ?_)
             | (refine And.intro ⟨by kernel_rfl, by kernel_rfl⟩ ?_)
             | (refine Or.inr ⟨_, h1, ?_⟩)
             | (refine Or.inl ⟨_, h2, ?_⟩)
             | (refine ⟨_, h2, ?_⟩)
             | (refine ⟨own_le1, ?_⟩)
             | (rw [own_all1])
             | (refine Or.inl ?_)
             | (refine cond_1 h4 ?_)
             | (refine ⟨_, h3, ?_⟩)
             | (refine ⟨_, h5, ?_⟩)
             | (refine cond_f ?_ ?_)
             | (refine ⟨_, ⟨by decide, rfl⟩, ?_⟩)
             | (refine cond_i (fun h => ?_) (fun h => ?_)))
    all_goals (conv => whnf)
    refine ⟨by rw [List.length_set, List.length_map]; omega, ?_⟩
    rw [own_set1]
    conv => whnf
    show G.agg (o.gw (.sl ((o.calls.map Call.g).set i c.g))) = _
    rw [← List.map_set]
    rfl
  | none =>
    simp only [hf] at h2 ⊢
    have h3 := app_at (P := Tryd.prog) (e := 35) (l := o.calls) (R := Call.g) (k := o.calls.length) (r := c.g) 13 104 (Nat.le_refl _) (by kernel_rfl) (by kernel_rfl) (fun _ => rfl) (by omega)
    rw [List.take_length] at h3
    repeat' (conv => whnf
             first
             | (refine And.intro (by kernel_rfl) ?_)
             | (refine And.intro ⟨by kernel_rfl, by kernel_rfl⟩ ?_)
             | (refine Or.inr ⟨_, h1, ?_⟩)
             | (refine Or.inl ⟨_, h2, ?_⟩)
             | (refine ⟨_, h2, ?_⟩)
             | (refine ⟨h3, ?_⟩)
             | (refine ⟨own_le1, ?_⟩)
             | (rw [own_all1])
             | (refine Or.inl ?_)
             | (refine cond_f ?_ ?_)
             | (refine ⟨_, ⟨by decide, rfl⟩, ?_⟩)
             | (refine cond_i (fun h => ?_) (fun h => ?_)))
    all_goals (conv => whnf)
    refine ⟨by simp, ?_⟩
    rw [own_app1]
    conv => whnf
    show G.agg (o.gw (.sl (o.calls.map Call.g ++ [c.g]))) = _
    rw [show o.calls.map Call.g ++ [c.g] = (o.calls ++ [c]).map Call.g from by rw [List.map_append]; rfl]
    rfl
end Go.Proofs.YtfacmphjplablaaDoor.Cn
