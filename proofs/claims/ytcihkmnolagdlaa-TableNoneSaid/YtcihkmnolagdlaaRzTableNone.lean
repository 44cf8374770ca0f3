/- TableNone holds: whatever the arguments, the law answers true, and they read as they did. No condition. -/
import Derived.Test.YtcihkmnolagdlaaRows
import Derived.Test.YtcihkmnolagdlaaZTableNone5
import Derived.Test.YtcihkmnolagdlaaZTableNone4
import Derived.WalkKit
import Derived.ProofKit
import Derived.OpenShut
import Derived.ChangeOld
import Derived.Below
import Derived.SizedLaws
import Derived.Carry
import Derived.KernelRfl
namespace Go.Proofs.Ytcihkmnolagdlaa.tableNone
open Go.ChangeShapes Go.WideShapes Go.ChangeAt Go.RowKit Go.Proofs.Ytcihkmnolagdlaa.Av Go.Proofs.Ytcihkmnolagdlaa.Sp Go.Proofs.Ytcihkmnolagdlaa.Cn
set_option linter.unusedVariables false
theorem own : ownKnob Try.prog.godebug = none := by kernel_rfl
theorem laidOut : laidOutB Try.prog = true := by kernel_rfl
set_option maxRecDepth 100000
def fa3 (x : Int) : Prop := (Lit.int .i64 x).wf = true
theorem o3 : Opens Try.prog 3 (fun x : Int => [G.int .i64 x]) 1 fa3 :=
  opens_int Try.underlying3 (by kernel_rfl)
def fa30 (x : Sp.Id) : Prop := fa3 x.node ∧ fa3 x.inc ∧ fa3 x.seq
theorem o30 : Opens Try.prog 30 Sp.Id.g 3 fa30 :=
  (opens_iso (fun x : Sp.Id => (x.node, x.inc, x.seq)) (fun x => (⟨x.1, x.2.1, x.2.2⟩ : Sp.Id)) (fun _ => rfl) (opens_struct Try.underlying30 (by kernel_rfl) (fs_cons rfl rfl o3 (fs_cons rfl rfl o3 (fs_one rfl o3)))) (fun _ => rfl)).imp (fun x h => h)
def fa32 (x : Sp.Key) : Prop := fa30 x.id ∧ fa3 x.att
theorem o32 : Opens Try.prog 32 Sp.Key.g 4 fa32 :=
  (opens_iso (fun x : Sp.Key => (x.id, x.att)) (fun x => (⟨x.1, x.2⟩ : Sp.Key)) (fun _ => rfl) (opens_struct Try.underlying32 (by kernel_rfl) (fs_cons rfl rfl o30 (fs_one rfl o3))) (fun _ => rfl)).imp (fun x h => h)
def fa4 (x : Bool) : Prop := True
theorem o4 : Opens Try.prog 4 (fun x : Bool => [G.bool x]) 1 fa4 :=
  opens_bool Try.underlying4 (by kernel_rfl)
def fa77 (x : Sp.Call) : Prop := fa30 x.id ∧ fa3 x.to ∧ fa3 x.program ∧ fa3 x.att ∧ fa3 x.state ∧ fa3 x.sent ∧ fa3 x.ready ∧ fa4 x.committed ∧ fa3 x.code ∧ fa3 x.value ∧ fa3 x.tries
theorem o77 : Opens Try.prog 77 Sp.Call.g 13 fa77 :=
  (opens_iso (fun x : Sp.Call => (x.id, x.to, x.program, x.att, x.state, x.sent, x.ready, x.committed, x.code, x.value, x.tries)) (fun x => (⟨x.1, x.2.1, x.2.2.1, x.2.2.2.1, x.2.2.2.2.1, x.2.2.2.2.2.1, x.2.2.2.2.2.2.1, x.2.2.2.2.2.2.2.1, x.2.2.2.2.2.2.2.2.1, x.2.2.2.2.2.2.2.2.2.1, x.2.2.2.2.2.2.2.2.2.2⟩ : Sp.Call)) (fun _ => rfl) (opens_struct Try.underlying77 (by kernel_rfl) (fs_cons rfl rfl o30 (fs_cons rfl rfl o3 (fs_cons rfl rfl o3 (fs_cons rfl rfl o3 (fs_cons rfl rfl o3 (fs_cons rfl rfl o3 (fs_cons rfl rfl o3 (fs_cons rfl rfl o4 (fs_cons rfl rfl o3 (fs_cons rfl rfl o3 (fs_one rfl o3)))))))))))) (fun _ => rfl)).imp (fun x h => h)
def fa33 (x : List Sp.Call) : Prop := (∀ y ∈ x, fa77 y) ∧ x.length * 104 ≤ 140737488351232
theorem o33 : Opens Try.prog 33 (fun xs : List Sp.Call => [G.sl (xs.map Sp.Call.g)]) 1 fa33 :=
  (opens_slice Try.underlying33 (by kernel_rfl) o77).imp (fun x h => ⟨h.1, by have h2 := h.2; rw [show Try.prog.bytesOf 77 = 104 from by kernel_rfl] at h2; exact h2⟩)
def fa35 (x : Sp.Owner) : Prop := fa32 x.key ∧ fa30 x.root ∧ fa32 x.parent ∧ fa3 x.from ∧ fa3 x.hop ∧ fa3 x.deadline ∧ fa3 x.until ∧ fa3 x.program ∧ fa3 x.pc ∧ fa3 x.done ∧ fa33 x.calls
theorem o35 : Opens Try.prog 35 Sp.Owner.g 19 fa35 :=
  (opens_iso (fun x : Sp.Owner => (x.key, x.root, x.parent, x.from, x.hop, x.deadline, x.until, x.program, x.pc, x.done, x.calls)) (fun x => (⟨x.1, x.2.1, x.2.2.1, x.2.2.2.1, x.2.2.2.2.1, x.2.2.2.2.2.1, x.2.2.2.2.2.2.1, x.2.2.2.2.2.2.2.1, x.2.2.2.2.2.2.2.2.1, x.2.2.2.2.2.2.2.2.2.1, x.2.2.2.2.2.2.2.2.2.2⟩ : Sp.Owner)) (fun _ => rfl) (opens_struct Try.underlying35 (by kernel_rfl) (fs_cons rfl rfl o32 (fs_cons rfl rfl o30 (fs_cons rfl rfl o32 (fs_cons rfl rfl o3 (fs_cons rfl rfl o3 (fs_cons rfl rfl o3 (fs_cons rfl rfl o3 (fs_cons rfl rfl o3 (fs_cons rfl rfl o3 (fs_cons rfl rfl o3 (fs_one rfl o33)))))))))))) (fun _ => rfl)).imp (fun x h => h)
theorem lifted (os : Os) (started : os.Started) (H : Type) (enc : TypeId × Value → H) :
    ReturnsInHanded {} Try.checked os 5 .any (Rows.tableNoneSpec.pre6 enc Try.prog Try.f5 Rows.tableNoneRow.domain false) (Rows.tableNoneSpec.post enc Try.prog Try.f5 false true false false) := by
  refine returnsInHanded_of_change_sized (C := Try.checked) own started (by kernel_rfl) Try.func5
    (ChangeSpec.witness6 (enc := enc) (C := Try.checked) false ⟨#[], #[.agg #[.int .i64 0, .int .i64 0, .int .i64 0, .int .i64 0, .int .i64 0, .int .i64 0, .int .i64 0, .int .i64 0, .int .i64 0, .int .i64 0, .int .i64 0, .int .i64 0, .int .i64 0, .int .i64 0, .int .i64 0, .int .i64 0, .int .i64 0, .int .i64 0, .slice none 0 0]], []⟩ 8 (by kernel_rfl) (by kernel_rfl) (by kernel_rfl) (by kernel_rfl)) ?_
  intro W base args ds gs before hval0 hW hcnd hsz0 _
  have hsz : (DataW.weightsEach Try.prog (Try.f5.params.toList ++ Rows.tableNoneSpec.plain.varTypes Try.prog) (ds ++ gs)).all (· ≤ reachBytes) = true := hsz0
  have hval : ∀ (j : Nat) t v, Try.f5.params[j]? = some t → args[j]? = some v → Value.okWide Try.prog W .any base t v := hval0
  have hW' := hW
  obtain ⟨p, q, hA0, hV, rfl, hfz, hnd⟩ := hW
  have hA : DataW.TrodAll enc Try.prog W 0 (fun _ => true) true Try.f5.params.toList args.toList ds p := hA0
  rw [Try.params5] at hA hval hsz
  obtain ⟨v0, vs0, d0, ds0, p0, q0, hargs, rfl, rfl, h0, r0⟩ := trodAll_cons hA
  obtain ⟨rfl, rfl, rfl⟩ := trodAll_nil r0
  obtain rfl : args = #[v0] := by cases args; simp_all
  obtain ⟨rfl, rfl⟩ := trodVars_none hV
  have lt0 : ∀ x ∈ p0, x.block < W.heap.size := by obtain ⟨m, hm⟩ := h0; exact DataW.trod_lt m _ _ _ hm
  have n0 := param_weights hsz (j := 0) (t := 35) (d := d0) rfl rfl
  obtain ⟨x0, R0, F0⟩ := param_struct Try.underlying35 o35 (hval 0 35 v0 rfl rfl) h0 n0
  clear hA0 hval0 hsz0 hsz
  have hc : Fv Try.prog 5 [.agg (Sp.Owner.g x0)] (.bool true) := law24_TableNone x0
  have hR : ∀ (i : Nat) g v, [(.agg (Sp.Owner.g x0) : G)][i]? = some g → [v0][i]? = some v → Rep C0 W g v := fun i g v hg hv => by
    rcases i with _ | i
    · cases hg; cases hv; exact R0
    cases hg
  refine (hc.calls (fun p hp => by simp [fixK] at hp) rfl hR).mono fun e W' ⟨he, bel⟩ => ?_
  subst he
  exact ⟨_, rfl, _, _, _, [], _, [], hW', trodAll_mk1 (shut_bool Try.underlying4 _), (trodAll_cons_mk (Below.trod laidOut (by kernel_rfl) (of_decide_eq_true (by kernel_rfl)) h0 bel lt0) trodAll_mk0), rfl, bel.frame _, fun h => by cases h⟩
theorem over : Rows.tableNoneRow.holds Try.pinned (OpenSpec.ofChange Rows.tableNoneSpec) :=
  OpenClaim.holds_of_wide 5 Try.f5 rfl rfl rfl rfl rfl rfl rfl ⟨rfl, rfl, rfl, rfl, rfl⟩ rfl rfl rfl rfl rfl (by kernel_rfl) Try.func5 (by kernel_rfl)
    (of_decide_eq_true (by kernel_rfl)) (by unfold Func.isWrapper; first | (rw [if_pos (by decide +kernel)]; kernel_rfl) | (rw [if_neg (by decide +kernel)]; exact ⟨rfl, rfl⟩))
    (fun os started H enc _ => lifted os started H enc)
theorem proved : Rows.TableNoneSaid := over
#print axioms proved
end Go.Proofs.Ytcihkmnolagdlaa.tableNone
namespace Go.Proofs.Ytcihkmnolagdlaa
/-- The row, under a short name, for the claim. -/
theorem tableNone_holds : Rows.TableNoneSaid := tableNone.proved
end Go.Proofs.Ytcihkmnolagdlaa
