/- StreamBack holds: whatever the arguments, the law answers true, and they read as they did. No condition. -/
import Derived.Test.YtijohhdgecadnaaRows
import Derived.Test.YtijohhdgecadnaaCn93
import Derived.Test.YtijohhdgecadnaaAv15
import Derived.Test.YtijohhdgecadnaaAv16
import Derived.WalkKit
import Derived.ProofKit
import Derived.OpenShut
import Derived.ChangeOld
import Derived.Below
import Derived.SizedLaws
import Derived.Carry
import Derived.KernelRfl
namespace Go.Proofs.Ytijohhdgecadnaa.streamBack
open Go.ChangeShapes Go.WideShapes Go.ChangeAt Go.RowKit Go.Proofs.Ytijohhdgecadnaa.Av Go.Proofs.Ytijohhdgecadnaa.Sp Go.Proofs.Ytijohhdgecadnaa.Cn
set_option linter.unusedVariables false
theorem own : ownKnob Try.prog.godebug = none := by kernel_rfl
theorem laidOut : laidOutB Try.prog = true := by kernel_rfl
set_option maxRecDepth 100000
def fa9 (x : ByteArray) : Prop := x.size ≤ 140737488351232
theorem o9 : Opens Try.prog 9 (fun x : ByteArray => [G.str x]) 1 fa9 :=
  opens_string Try.underlying9 (by kernel_rfl)
def fa4 (x : Bool) : Prop := True
theorem o4 : Opens Try.prog 4 (fun x : Bool => [G.bool x]) 1 fa4 :=
  opens_bool Try.underlying4 (by kernel_rfl)
def fa67 (x : Sp.Msg) : Prop := fa9 x.S ∧ fa4 x.last
theorem o67 : Opens Try.prog 67 Sp.Msg.g 2 fa67 :=
  (opens_iso (fun x : Sp.Msg => (x.S, x.last)) (fun x => (⟨x.1, x.2⟩ : Sp.Msg)) (fun _ => rfl) (opens_struct Try.underlying67 (by kernel_rfl) (fs_cons rfl rfl o9 (fs_one rfl o4))) (fun _ => rfl)).imp (fun x h => h)
def fa51 (x : List Sp.Msg) : Prop := (∀ y ∈ x, fa67 y) ∧ x.length * 24 ≤ 140737488351232
theorem o51 : Opens Try.prog 51 (fun xs : List Sp.Msg => [G.sl (xs.map Sp.Msg.g)]) 1 fa51 :=
  (opens_slice Try.underlying51 (by kernel_rfl) o67).imp (fun x h => ⟨h.1, by have h2 := h.2; rw [show Try.prog.bytesOf 67 = 24 from by kernel_rfl] at h2; exact h2⟩)
theorem lifted (os : Os) (started : os.Started) (H : Type) (enc : TypeId × Value → H) :
    ReturnsInHanded {} Try.checked os 10 .any (Rows.streamBackSpec.pre6 enc Try.prog Try.f10 Rows.streamBackRow.domain false) (Rows.streamBackSpec.post enc Try.prog Try.f10 false true false false) := by
  refine returnsInHanded_of_change_sized (C := Try.checked) own started (by kernel_rfl) Try.func10
    (ChangeSpec.witness6 (enc := enc) (C := Try.checked) false ⟨#[], #[.slice none 0 0, .string ByteArray.empty], []⟩ 8 (by kernel_rfl) (by kernel_rfl) (by kernel_rfl) (by kernel_rfl)) ?_
  intro W base args ds gs before hval0 hW hcnd hsz0 _
  have hsz : (DataW.weightsEach Try.prog (Try.f10.params.toList ++ Rows.streamBackSpec.plain.varTypes Try.prog) (ds ++ gs)).all (· ≤ reachBytes) = true := hsz0
  have hval : ∀ (j : Nat) t v, Try.f10.params[j]? = some t → args[j]? = some v → Value.okWide Try.prog W .any base t v := hval0
  have hW' := hW
  obtain ⟨p, q, hA0, hV, rfl, hfz, hnd⟩ := hW
  have hA : DataW.TrodAll enc Try.prog W 0 (fun _ => true) true Try.f10.params.toList args.toList ds p := hA0
  rw [Try.params10] at hA hval hsz
  obtain ⟨v0, vs0, d0, ds0, p0, q0, hargs, rfl, rfl, h0, r0⟩ := trodAll_cons hA
  obtain ⟨v1, vs1, d1, ds1, p1, q1, rfl, rfl, rfl, h1, r1⟩ := trodAll_cons r0
  obtain ⟨rfl, rfl, rfl⟩ := trodAll_nil r1
  obtain rfl : args = #[v0, v1] := by cases args; simp_all
  obtain ⟨rfl, rfl⟩ := trodVars_none hV
  have lt0 : ∀ x ∈ p0, x.block < W.heap.size := by obtain ⟨m, hm⟩ := h0; exact DataW.trod_lt m _ _ _ hm
  have n0 := param_weights hsz (j := 0) (t := 51) (d := d0) rfl rfl
  obtain ⟨x0, R0, F0⟩ := param_slice (g := fun xs : List Sp.Msg => G.sl (xs.map Sp.Msg.g)) Try.underlying51 o51 (fun _ => rfl) (hval 0 51 v0 rfl rfl) h0 n0
  have lt1 : ∀ x ∈ p1, x.block < W.heap.size := by obtain ⟨m, hm⟩ := h1; exact DataW.trod_lt m _ _ _ hm
  have n1 := param_weights hsz (j := 1) (t := 9) (d := d1) rfl rfl
  obtain ⟨x1, R1, F1⟩ := param_string (g := fun x : ByteArray => G.str x) Try.underlying9 o9 (fun _ => rfl) (hval 1 9 v1 rfl rfl) h1 n1
  clear hA0 hval0 hsz0 hsz
  have hc : Fv Try.prog 10 [G.sl (x0.map Sp.Msg.g), G.str x1] (.bool true) := law38_StreamBack x0 x1 (Nat.lt_of_le_of_lt (show x1.size ≤ 140737488351232 from F1) (by decide))
  have hR : ∀ (i : Nat) g v, [(G.sl (x0.map Sp.Msg.g) : G), (G.str x1 : G)][i]? = some g → [v0, v1][i]? = some v → Rep C0 W g v := fun i g v hg hv => by
    rcases i with _ | i
    · cases hg; cases hv; exact R0
    rcases i with _ | i
    · cases hg; cases hv; exact R1
    cases hg
  refine (hc.calls (fun p hp => by simp [fixK] at hp) rfl hR).mono fun e W' ⟨he, bel⟩ => ?_
  subst he
  exact ⟨_, rfl, _, _, _, [], _, [], hW', trodAll_mk1 (shut_bool Try.underlying4 _), (trodAll_cons_mk (Below.trod laidOut (by kernel_rfl) (of_decide_eq_true (by kernel_rfl)) h0 bel lt0) (trodAll_cons_mk (Below.trod laidOut (by kernel_rfl) (of_decide_eq_true (by kernel_rfl)) h1 bel lt1) trodAll_mk0)), rfl, bel.frame _, fun h => by cases h⟩
theorem over : Rows.streamBackRow.holds Try.pinned (OpenSpec.ofChange Rows.streamBackSpec) :=
  OpenClaim.holds_of_wide 10 Try.f10 rfl rfl rfl rfl rfl rfl rfl ⟨rfl, rfl, rfl, rfl, rfl⟩ rfl rfl rfl rfl rfl (by kernel_rfl) Try.func10 (by kernel_rfl)
    (of_decide_eq_true (by kernel_rfl)) (by unfold Func.isWrapper; first | (rw [if_pos (by decide +kernel)]; kernel_rfl) | (rw [if_neg (by decide +kernel)]; exact ⟨rfl, rfl⟩))
    (fun os started H enc _ => lifted os started H enc)
theorem proved : Rows.StreamBackSaid := over
#print axioms proved
end Go.Proofs.Ytijohhdgecadnaa.streamBack
namespace Go.Proofs.Ytijohhdgecadnaa
/-- The row, under a short name, for the claim. -/
theorem streamBack_holds : Rows.StreamBackSaid := streamBack.proved
end Go.Proofs.Ytijohhdgecadnaa
