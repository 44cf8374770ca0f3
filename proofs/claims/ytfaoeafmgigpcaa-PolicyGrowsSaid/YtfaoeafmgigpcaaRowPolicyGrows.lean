/- PolicyGrows holds: whatever the arguments, the law answers true, and they read as they did. No condition. -/
import Derived.Test.YtfaoeafmgigpcaaRows
import Derived.Test.YtfaoeafmgigpcaaCn4
import Derived.Test.YtfaoeafmgigpcaaAv15
import Derived.WalkKit
import Derived.ProofKit
import Derived.OpenShut
import Derived.ChangeOld
import Derived.Below
import Derived.SizedLaws
import Derived.Carry
import Derived.KernelRfl
namespace Go.Proofs.Ytfaoeafmgigpcaa.policyGrows
open Go.ChangeShapes Go.WideShapes Go.ChangeAt Go.RowKit Go.Proofs.Ytfaoeafmgigpcaa.Av Go.Proofs.Ytfaoeafmgigpcaa.Sp Go.Proofs.Ytfaoeafmgigpcaa.Cn
set_option linter.unusedVariables false
theorem own : ownKnob Try.prog.godebug = none := by kernel_rfl
theorem laidOut : laidOutB Try.prog = true := by kernel_rfl
set_option maxRecDepth 100000
def fa3 (x : Int) : Prop := (Lit.int .i64 x).wf = true
theorem o3 : Opens Try.prog 3 (fun x : Int => [G.int .i64 x]) 1 fa3 :=
  opens_int Try.underlying3 (by kernel_rfl)
def fa81 (x : Pop) : Prop := fa3 x.kind ∧ fa3 x.a ∧ fa3 x.b
theorem o81 : Opens Try.prog 81 Pop.g 3 fa81 :=
  (opens_iso (fun x : Pop => (x.kind, x.a, x.b)) (fun x => (⟨x.1, x.2.1, x.2.2⟩ : Pop)) (fun _ => rfl) (opens_struct Try.underlying81 (by kernel_rfl) (fs_cons rfl rfl o3 (fs_cons rfl rfl o3 (fs_one rfl o3)))) (fun _ => rfl)).imp (fun x h => h)
def fa78 (x : List Pop) : Prop := (∀ y ∈ x, fa81 y) ∧ x.length * 24 ≤ 140737488351232
theorem o78 : Opens Try.prog 78 (fun xs : List Pop => [G.sl (xs.map Pop.g)]) 1 fa78 :=
  (opens_slice Try.underlying78 (by kernel_rfl) o81).imp (fun x h => ⟨h.1, by have h2 := h.2; rw [show Try.prog.bytesOf 81 = 24 from by kernel_rfl] at h2; exact h2⟩)
def fa41 (x : List (List Pop)) : Prop := (∀ y ∈ x, fa78 y) ∧ x.length * 24 ≤ 140737488351232
theorem o41 : Opens Try.prog 41 (fun xs : List (List Pop) => [G.sl (xs.map (fun xs : List Pop => [G.sl (xs.map Pop.g)]))]) 1 fa41 :=
  (opens_slice Try.underlying41 (by kernel_rfl) o78).imp (fun x h => ⟨h.1, by have h2 := h.2; rw [show Try.prog.bytesOf 78 = 24 from by kernel_rfl] at h2; exact h2⟩)
def fa43 (x : Config) : Prop := fa3 x.nodes ∧ fa3 x.skew ∧ fa3 x.lease ∧ fa3 x.grain ∧ fa3 x.least ∧ fa3 x.hops ∧ fa3 x.cap ∧ fa3 x.fan ∧ fa3 x.attempts ∧ fa3 x.base ∧ fa3 x.most ∧ fa3 x.wait ∧ fa3 x.tokens ∧ fa41 x.programs
theorem o43 : Opens Try.prog 43 Config.g 14 fa43 :=
  (opens_iso (fun x : Config => (x.nodes, x.skew, x.lease, x.grain, x.least, x.hops, x.cap, x.fan, x.attempts, x.base, x.most, x.wait, x.tokens, x.programs)) (fun x => (⟨x.1, x.2.1, x.2.2.1, x.2.2.2.1, x.2.2.2.2.1, x.2.2.2.2.2.1, x.2.2.2.2.2.2.1, x.2.2.2.2.2.2.2.1, x.2.2.2.2.2.2.2.2.1, x.2.2.2.2.2.2.2.2.2.1, x.2.2.2.2.2.2.2.2.2.2.1, x.2.2.2.2.2.2.2.2.2.2.2.1, x.2.2.2.2.2.2.2.2.2.2.2.2.1, x.2.2.2.2.2.2.2.2.2.2.2.2.2⟩ : Config)) (fun _ => rfl) (opens_struct Try.underlying43 (by kernel_rfl) (fs_cons rfl rfl o3 (fs_cons rfl rfl o3 (fs_cons rfl rfl o3 (fs_cons rfl rfl o3 (fs_cons rfl rfl o3 (fs_cons rfl rfl o3 (fs_cons rfl rfl o3 (fs_cons rfl rfl o3 (fs_cons rfl rfl o3 (fs_cons rfl rfl o3 (fs_cons rfl rfl o3 (fs_cons rfl rfl o3 (fs_cons rfl rfl o3 (fs_one rfl o41))))))))))))))) (fun _ => rfl)).imp (fun x h => h)
theorem lifted (os : Os) (started : os.Started) (H : Type) (enc : TypeId × Value → H) :
    ReturnsInHanded {} Try.checked os 16 .any (Rows.policyGrowsSpec.pre6 enc Try.prog Try.f16 Rows.policyGrowsRow.domain false) (Rows.policyGrowsSpec.post enc Try.prog Try.f16 false true false false) := by
  refine returnsInHanded_of_change_sized (C := Try.checked) own started (by kernel_rfl) Try.func16
    (ChangeSpec.witness6 (enc := enc) (C := Try.checked) false ⟨#[], #[.agg #[.int .i64 0, .int .i64 0, .int .i64 0, .int .i64 0, .int .i64 0, .int .i64 0, .int .i64 0, .int .i64 0, .int .i64 0, .int .i64 0, .int .i64 0, .int .i64 0, .int .i64 0, .slice none 0 0]], []⟩ 8 (by kernel_rfl) (by kernel_rfl) (by kernel_rfl) (by kernel_rfl)) ?_
  intro W base args ds gs before hval0 hW hcnd hsz0 _
  have hsz : (DataW.weightsEach Try.prog (Try.f16.params.toList ++ Rows.policyGrowsSpec.plain.varTypes Try.prog) (ds ++ gs)).all (· ≤ reachBytes) = true := hsz0
  have hval : ∀ (j : Nat) t v, Try.f16.params[j]? = some t → args[j]? = some v → Value.okWide Try.prog W .any base t v := hval0
  have hW' := hW
  obtain ⟨p, q, hA0, hV, rfl, hfz, hnd⟩ := hW
  have hA : DataW.TrodAll enc Try.prog W 0 (fun _ => true) true Try.f16.params.toList args.toList ds p := hA0
  rw [Try.params16] at hA hval hsz
  obtain ⟨v0, vs0, d0, ds0, p0, q0, hargs, rfl, rfl, h0, r0⟩ := trodAll_cons hA
  obtain ⟨rfl, rfl, rfl⟩ := trodAll_nil r0
  obtain rfl : args = #[v0] := by cases args; simp_all
  obtain ⟨rfl, rfl⟩ := trodVars_none hV
  have lt0 : ∀ x ∈ p0, x.block < W.heap.size := by obtain ⟨m, hm⟩ := h0; exact DataW.trod_lt m _ _ _ hm
  have n0 := param_weights hsz (j := 0) (t := 43) (d := d0) rfl rfl
  obtain ⟨x0, R0, F0⟩ := param_struct Try.underlying43 o43 (hval 0 43 v0 rfl rfl) h0 n0
  clear hA0 hval0 hsz0 hsz
  have hc : Fv Try.prog 16 [.agg (Config.g x0)] (.bool true) := law20_PolicyGrows x0
  have hR : ∀ (i : Nat) g v, [(.agg (Config.g x0) : G)][i]? = some g → [v0][i]? = some v → Rep C0 W g v := fun i g v hg hv => by
    rcases i with _ | i
    · cases hg; cases hv; exact R0
    cases hg
  refine (hc.calls rfl hR).mono fun e W' ⟨he, bel⟩ => ?_
  subst he
  exact ⟨_, rfl, _, _, _, [], _, [], hW', trodAll_mk1 (shut_bool Try.underlying4 _), (trodAll_cons_mk (Below.trod laidOut (by kernel_rfl) (of_decide_eq_true (by kernel_rfl)) h0 bel lt0) trodAll_mk0), rfl, bel.frame _, fun h => by cases h⟩
theorem over : Rows.policyGrowsRow.holds Try.pinned (OpenSpec.ofChange Rows.policyGrowsSpec) :=
  OpenClaim.holds_of_wide 16 Try.f16 rfl rfl rfl rfl rfl rfl rfl ⟨rfl, rfl, rfl, rfl, rfl⟩ rfl rfl rfl rfl rfl (by kernel_rfl) Try.func16 (by kernel_rfl)
    (of_decide_eq_true (by kernel_rfl)) (by unfold Func.isWrapper; first | (rw [if_pos (by decide +kernel)]; kernel_rfl) | (rw [if_neg (by decide +kernel)]; exact ⟨rfl, rfl⟩))
    (fun os started H enc _ => lifted os started H enc)
theorem proved : Rows.PolicyGrowsSaid := over
#print axioms proved
end Go.Proofs.Ytfaoeafmgigpcaa.policyGrows
namespace Go.Proofs.Ytfaoeafmgigpcaa
/-- The row, under a short name, for the claim. -/
theorem policyGrows_holds : Rows.PolicyGrowsSaid := policyGrows.proved
end Go.Proofs.Ytfaoeafmgigpcaa
