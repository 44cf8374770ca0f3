/- StreamPieces holds: whatever the arguments, the law answers true, and they read as they did. No condition. -/
import Derived.Test.YtijohhdgecadnaaRows
import Derived.Test.YtijohhdgecadnaaCn38
import Derived.Test.YtijohhdgecadnaaAv15
import Derived.Test.YtijohhdgecadnaaAv16
import Derived.WalkKit
import Derived.ProofKit
import Derived.OpenShut
import Derived.ChangeOld
import Derived.Below
import Derived.SizedLaws
import Derived.Carry
import Derived.KernelRfl
namespace Go.Proofs.Ytijohhdgecadnaa.streamPieces
open Go.ChangeShapes Go.WideShapes Go.ChangeAt Go.RowKit Go.Proofs.Ytijohhdgecadnaa.Av Go.Proofs.Ytijohhdgecadnaa.Sp Go.Proofs.Ytijohhdgecadnaa.Cn
set_option linter.unusedVariables false
theorem own : ownKnob Try.prog.godebug = none := by kernel_rfl
theorem laidOut : laidOutB Try.prog = true := by kernel_rfl
set_option maxRecDepth 100000
def fa9 (x : ByteArray) : Prop := x.size ≤ 140737488351232
theorem o9 : Opens Try.prog 9 (fun x : ByteArray => [G.str x]) 1 fa9 :=
  opens_string Try.underlying9 (by kernel_rfl)
def fa3 (x : Int) : Prop := (Lit.int .i64 x).wf = true
theorem o3 : Opens Try.prog 3 (fun x : Int => [G.int .i64 x]) 1 fa3 :=
  opens_int Try.underlying3 (by kernel_rfl)
def fa57 (x : List Int) : Prop := (∀ y ∈ x, fa3 y) ∧ x.length * 8 ≤ 140737488351232
theorem o57 : Opens Try.prog 57 (fun xs : List Int => [G.sl (xs.map (fun x : Int => [G.int .i64 x]))]) 1 fa57 :=
  (opens_slice Try.underlying57 (by kernel_rfl) o3).imp (fun x h => ⟨h.1, by have h2 := h.2; rw [show Try.prog.bytesOf 3 = 8 from by kernel_rfl] at h2; exact h2⟩)
theorem lifted (os : Os) (started : os.Started) (H : Type) (enc : TypeId × Value → H) :
    ReturnsInHanded {} Try.checked os 8 .any (Rows.streamPiecesSpec.pre6 enc Try.prog Try.f8 Rows.streamPiecesRow.domain false) (Rows.streamPiecesSpec.post enc Try.prog Try.f8 false true false false) := by
  refine returnsInHanded_of_change_sized (C := Try.checked) own started (by kernel_rfl) Try.func8
    (ChangeSpec.witness6 (enc := enc) (C := Try.checked) false ⟨#[], #[.string ByteArray.empty, .slice none 0 0], []⟩ 8 (by kernel_rfl) (by kernel_rfl) (by kernel_rfl) (by kernel_rfl)) ?_
  intro W base args ds gs before hval0 hW hcnd hsz0 _
  have hsz : (DataW.weightsEach Try.prog (Try.f8.params.toList ++ Rows.streamPiecesSpec.plain.varTypes Try.prog) (ds ++ gs)).all (· ≤ reachBytes) = true := hsz0
  have hval : ∀ (j : Nat) t v, Try.f8.params[j]? = some t → args[j]? = some v → Value.okWide Try.prog W .any base t v := hval0
  have hW' := hW
  obtain ⟨p, q, hA0, hV, rfl, hfz, hnd⟩ := hW
  have hA : DataW.TrodAll enc Try.prog W 0 (fun _ => true) true Try.f8.params.toList args.toList ds p := hA0
  rw [Try.params8] at hA hval hsz
  obtain ⟨v0, vs0, d0, ds0, p0, q0, hargs, rfl, rfl, h0, r0⟩ := trodAll_cons hA
  obtain ⟨v1, vs1, d1, ds1, p1, q1, rfl, rfl, rfl, h1, r1⟩ := trodAll_cons r0
  obtain ⟨rfl, rfl, rfl⟩ := trodAll_nil r1
  obtain rfl : args = #[v0, v1] := by cases args; simp_all
  obtain ⟨rfl, rfl⟩ := trodVars_none hV
  have lt0 : ∀ x ∈ p0, x.block < W.heap.size := by obtain ⟨m, hm⟩ := h0; exact DataW.trod_lt m _ _ _ hm
  have n0 := param_weights hsz (j := 0) (t := 9) (d := d0) rfl rfl
  obtain ⟨x0, R0, F0⟩ := param_string (g := fun x : ByteArray => G.str x) Try.underlying9 o9 (fun _ => rfl) (hval 0 9 v0 rfl rfl) h0 n0
  have lt1 : ∀ x ∈ p1, x.block < W.heap.size := by obtain ⟨m, hm⟩ := h1; exact DataW.trod_lt m _ _ _ hm
  have n1 := param_weights hsz (j := 1) (t := 57) (d := d1) rfl rfl
  obtain ⟨x1, R1, F1⟩ := param_slice (g := fun xs : List Int => G.sl (xs.map (fun x : Int => [G.int .i64 x]))) Try.underlying57 o57 (fun _ => rfl) (hval 1 57 v1 rfl rfl) h1 n1
  clear hA0 hval0 hsz0 hsz
  have hc : Fv Try.prog 8 [G.str x0, G.sl (x1.map (fun x : Int => [G.int .i64 x]))] (.bool true) := law38_StreamPieces x0 x1
  have hR : ∀ (i : Nat) g v, [(G.str x0 : G), (G.sl (x1.map (fun x : Int => [G.int .i64 x])) : G)][i]? = some g → [v0, v1][i]? = some v → Rep C0 W g v := fun i g v hg hv => by
    rcases i with _ | i
    · cases hg; cases hv; exact R0
    rcases i with _ | i
    · cases hg; cases hv; exact R1
    cases hg
  refine (hc.calls rfl hR).mono fun e W' ⟨he, bel⟩ => ?_
  subst he
  exact ⟨_, rfl, _, _, _, [], _, [], hW', trodAll_mk1 (shut_bool Try.underlying4 _), (trodAll_cons_mk (Below.trod laidOut (by kernel_rfl) (of_decide_eq_true (by kernel_rfl)) h0 bel lt0) (trodAll_cons_mk (Below.trod laidOut (by kernel_rfl) (of_decide_eq_true (by kernel_rfl)) h1 bel lt1) trodAll_mk0)), rfl, bel.frame _, fun h => by cases h⟩
theorem over : Rows.streamPiecesRow.holds Try.pinned (OpenSpec.ofChange Rows.streamPiecesSpec) :=
  OpenClaim.holds_of_wide 8 Try.f8 rfl rfl rfl rfl rfl rfl rfl ⟨rfl, rfl, rfl, rfl, rfl⟩ rfl rfl rfl rfl rfl (by kernel_rfl) Try.func8 (by kernel_rfl)
    (of_decide_eq_true (by kernel_rfl)) (by unfold Func.isWrapper; first | (rw [if_pos (by decide +kernel)]; kernel_rfl) | (rw [if_neg (by decide +kernel)]; exact ⟨rfl, rfl⟩))
    (fun os started H enc _ => lifted os started H enc)
theorem proved : Rows.StreamPiecesSaid := over
#print axioms proved
end Go.Proofs.Ytijohhdgecadnaa.streamPieces
namespace Go.Proofs.Ytijohhdgecadnaa
/-- The row, under a short name, for the claim. -/
theorem streamPieces_holds : Rows.StreamPiecesSaid := streamPieces.proved
end Go.Proofs.Ytijohhdgecadnaa
