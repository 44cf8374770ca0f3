/- HeaderParses holds: whatever the arguments, the law answers true, and they read as they did. No condition. -/
import Derived.Test.YtijohhdgecadnaaRows
import Derived.Test.YtijohhdgecadnaaZHeaderParses6
import Derived.Test.YtijohhdgecadnaaZHeaderParses4
import Derived.WalkKit
import Derived.ProofKit
import Derived.OpenShut
import Derived.ChangeOld
import Derived.Below
import Derived.SizedLaws
import Derived.HandedShaped
import Derived.Carry
import Derived.KernelRfl
namespace Go.Proofs.Ytijohhdgecadnaa.headerParses
open Go.ChangeShapes Go.WideShapes Go.ChangeAt Go.RowKit Go.Proofs.Ytijohhdgecadnaa.Av Go.Proofs.Ytijohhdgecadnaa.Sp Go.Proofs.Ytijohhdgecadnaa.Cn
set_option linter.unusedVariables false
theorem own : ownKnob Try.prog.godebug = none := by kernel_rfl
theorem laidOut : laidOutB Try.prog = true := by kernel_rfl
set_option maxRecDepth 100000
def fa9 (x : ByteArray) : Prop := x.size ≤ 140737488351232
theorem o9 : Opens Try.prog 9 (fun x : ByteArray => [G.str x]) 1 fa9 :=
  opens_string Try.underlying9 (by kernel_rfl)
theorem cell_lt {w : World} {g : Nat} {v : Value} (h : w.cell? ⟨g, 0, none⟩ = some v) : g < w.heap.size := by
  unfold World.cell? at h
  cases hw : w.heap[g]? with
  | none => simp only [hw] at h; cases h
  | some o => exact (Array.getElem?_eq_some_iff.1 hw).1
theorem lifted (os : Os) (started : os.Started) (H : Type) (enc : TypeId × Value → H) :
    ReturnsInHanded {} Try.checked os 13 .any (Rows.headerParsesSpec.pre6 enc Try.prog Try.f13 Rows.headerParsesRow.domain false) (Rows.headerParsesSpec.post enc Try.prog Try.f13 false true false false) := by
  refine returnsInHanded_of_change_shaped (C := Try.checked) own started (by kernel_rfl) Try.func13
    (ChangeSpec.witness6 (enc := enc) (C := Try.checked) false ⟨#[], #[.string ByteArray.empty], []⟩ 8 (by kernel_rfl) (by kernel_rfl) (by kernel_rfl) (by kernel_rfl)) ?_
  intro W base args ds gs before hval0 hW hcnd hsz0 hshp _
  have hsz : (DataW.weightsEach Try.prog (Try.f13.params.toList ++ Rows.headerParsesSpec.plain.varTypes Try.prog) (ds ++ gs)).all (· ≤ reachBytes) = true := hsz0
  have hval : ∀ (j : Nat) t v, Try.f13.params[j]? = some t → args[j]? = some v → Value.okWide Try.prog W .any base t v := hval0
  have hW' := hW
  obtain ⟨p, q, hA0, hV, rfl, hfz, hnd⟩ := hW
  have hA : DataW.TrodAll enc Try.prog W 0 (fun _ => true) true Try.f13.params.toList args.toList ds p := hA0
  rw [Try.params13] at hA hval hsz
  obtain ⟨v0, vs0, d0, ds0, p0, q0, hargs, rfl, rfl, h0, r0⟩ := trodAll_cons hA
  obtain ⟨rfl, rfl, rfl⟩ := trodAll_nil r0
  obtain rfl : args = #[v0] := by cases args; simp_all
  obtain ⟨rfl, rfl⟩ := trodVars_none hV
  have lt0 : ∀ x ∈ p0, x.block < W.heap.size := by obtain ⟨m, hm⟩ := h0; exact DataW.trod_lt m _ _ _ hm
  have n0 := param_weights hsz (j := 0) (t := 9) (d := d0) rfl rfl
  obtain ⟨x0, R0, F0⟩ := param_string (g := fun x : ByteArray => G.str x) Try.underlying9 o9 (fun _ => rfl) (hval 0 9 v0 rfl rfl) h0 n0
  clear hA0 hval0 hsz0 hsz
  have hc : Fv Try.prog 13 [G.str x0] (.bool true) := law37_HeaderParses x0
  have hR : ∀ (i : Nat) g v, [(G.str x0 : G)][i]? = some g → [v0][i]? = some v → Rep C0 W g v := fun i g v hg hv => by
    rcases i with _ | i
    · cases hg; cases hv; exact R0
    cases hg
  refine (hc.calls ⟨fun p hp => by simp [fixK] at hp, fun g hg => by obtain rfl := List.mem_singleton.1 hg; obtain ⟨m, hm⟩ := Try.laysM145.s1_3 _ hshp; exact ⟨cell_lt (g := 0) hm, fun h => h, m, hm⟩⟩ rfl hR).mono fun e W' ⟨he, bel⟩ => ?_
  subst he
  exact ⟨_, rfl, _, _, _, [], _, [], hW', trodAll_mk1 (shut_bool Try.underlying4 _), (trodAll_cons_mk (Below.trod laidOut (by kernel_rfl) (of_decide_eq_true (by kernel_rfl)) h0 bel lt0) trodAll_mk0), rfl, bel.frame _, fun h => by cases h⟩
theorem over : Rows.headerParsesRow.holds Try.pinned (OpenSpec.ofChange Rows.headerParsesSpec) :=
  OpenClaim.holds_of_wide 13 Try.f13 rfl rfl rfl rfl rfl rfl rfl ⟨rfl, rfl, rfl, rfl, rfl⟩ rfl rfl rfl rfl rfl (by kernel_rfl) Try.func13 (by kernel_rfl)
    (of_decide_eq_true (by kernel_rfl)) (by unfold Func.isWrapper; first | (rw [if_pos (by decide +kernel)]; kernel_rfl) | (rw [if_neg (by decide +kernel)]; exact ⟨rfl, rfl⟩))
    (fun os started H enc _ => lifted os started H enc)
theorem proved : Rows.HeaderParsesSaid := over
#print axioms proved
end Go.Proofs.Ytijohhdgecadnaa.headerParses
namespace Go.Proofs.Ytijohhdgecadnaa
/-- The row, under a short name, for the claim. -/
theorem headerParses_holds : Rows.HeaderParsesSaid := headerParses.proved
end Go.Proofs.Ytijohhdgecadnaa
