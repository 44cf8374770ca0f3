/- A contract by values, out of a contract of the model's that leaves all that was there as it was. No condition. -/
import Derived.Test.YtcihkmnolagdlaaDoorAv16
import Derived.Below
import Derived.Sort.Grow
import Derived.WalkSmall
namespace Go.Proofs.YtcihkmnolagdlaaDoor.Av
open Go Go.RowKit Go.Sort
set_option linter.unusedVariables false

theorem Fv.of_calls {P : Program} {f : FuncId} {args : List G} {g : G} (hb : hasBody P f = true)
    (h : ∀ (C : Cx) (w : World) (vs : List Value), vs.length = args.length → (∀ (i : Nat) g v, args[i]? = some g → vs[i]? = some v → Rep C w g v) → Fixed w C.ex →
      Calls P f ⟨vs⟩ w fun e w' => ∃ v, e = .returned v ∧ Rep C w' g v ∧ Below w.heap.size w w') : Fv P f args g := by
  refine ⟨hb, fun C w t0 vs hl hr hM ht hb0 hr0 hfx => (h C w vs hl hr hfx).mono fun e w' ⟨v, he, hv, hB⟩ => ?_⟩
  have nb : ∀ b B, C.box b = some B → False := fun b B hB => by obtain ⟨cs, hcs⟩ := hM.domB b B hB; simp at hcs
  have nr : ∀ k r, C.row k = some r → False := fun k r hk => by obtain ⟨xs, hxs⟩ := hM.domR k r hk; simp at hxs
  exact ⟨v, C, g, [], [], he, ⟨rfl, rfl, rfl⟩, hv,
    ⟨fun b cs hb => by simp at hb, fun k xs hk => by simp at hk, fun b B hB => (nb b B hB).elim, fun k r hk => (nr k r hk).elim, fun b _ B hB => (nb b B hB).elim, fun k _ B s sz n _ _ _ hk => (nr k _ hk).elim, fun b _ B _ _ _ hB => (nb b B hB).elim, fun X hX => Nat.lt_of_lt_of_le (hM.lt X hX) hB.size⟩,
    ⟨fun _ _ h => h, ⟨hB.os, hB.tape, hB.output, hB.size, fun B hlt _ => hB.block B hlt, fun B vs T fz h => ⟨vs, fz, by rw [hB.block B (Array.getElem?_eq_some_iff.1 h).1]; exact h, rfl⟩⟩, fun _ h => h, fun _ h => .inl h, fun b B hB => (nb b B hB).elim, fun k B s sz n hk => (nr k _ hk).elim⟩⟩
theorem below_grow (w : World) (os : Array Obj) : Below w.heap.size w (grow w os) :=
  ⟨rfl, rfl, rfl, by simp [grow], fun k hk => by simp only [grow]; rw [Array.getElem?_append_left hk]⟩
theorem below_drew (w : World) (k : Nat) : Below w.heap.size w (w.drewN k) := ⟨rfl, rfl, rfl, Nat.le_refl _, fun _ _ => rfl⟩
theorem below_grown (w : World) (k : Nat) (os : Array Obj) : Below w.heap.size w (grow (w.drewN k) os) := (below_drew w k).trans (below_grow (w.drewN k) os)
end Go.Proofs.YtcihkmnolagdlaaDoor.Av
