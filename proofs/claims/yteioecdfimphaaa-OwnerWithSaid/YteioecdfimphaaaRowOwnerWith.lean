/- OwnerWith holds: whatever the arguments, the law answers true, and they read as they did. No condition. -/
import Derived.Test.YteioecdfimphaaaRows
import Derived.Test.YteioecdfimphaaaCn15
import Derived.Test.YteioecdfimphaaaAv15
import Derived.Test.YteioecdfimphaaaAv16
import Derived.WalkKit
import Derived.ProofKit
import Derived.OpenShut
import Derived.ChangeOld
import Derived.Below
import Derived.SizedLaws
import Derived.Carry
import Derived.KernelRfl
namespace Go.Proofs.Yteioecdfimphaaa.ownerWith
open Go.ChangeShapes Go.WideShapes Go.ChangeAt Go.RowKit Go.Proofs.Yteioecdfimphaaa.Av Go.Proofs.Yteioecdfimphaaa.Sp Go.Proofs.Yteioecdfimphaaa.Cn
set_option linter.unusedVariables false
theorem own : ownKnob Try.prog.godebug = none := by kernel_rfl
theorem laidOut : laidOutB Try.prog = true := by kernel_rfl
set_option maxRecDepth 100000
def fa3 (x : Int) : Prop := (Lit.int .i64 x).wf = true
theorem o3 : Opens Try.prog 3 (fun x : Int => [G.int .i64 x]) 1 fa3 :=
  opens_int Try.underlying3 (by kernel_rfl)
def fa23 (x : Sp.Id) : Prop := fa3 x.node ∧ fa3 x.inc ∧ fa3 x.seq
theorem o23 : Opens Try.prog 23 Sp.Id.g 3 fa23 :=
  (opens_iso (fun x : Sp.Id => (x.node, x.inc, x.seq)) (fun x => (⟨x.1, x.2.1, x.2.2⟩ : Sp.Id)) (fun _ => rfl) (opens_struct Try.underlying23 (by kernel_rfl) (fs_cons rfl rfl o3 (fs_cons rfl rfl o3 (fs_one rfl o3)))) (fun _ => rfl)).imp (fun x h => h)
def fa25 (x : Sp.Key) : Prop := fa23 x.id ∧ fa3 x.att
theorem o25 : Opens Try.prog 25 Sp.Key.g 4 fa25 :=
  (opens_iso (fun x : Sp.Key => (x.id, x.att)) (fun x => (⟨x.1, x.2⟩ : Sp.Key)) (fun _ => rfl) (opens_struct Try.underlying25 (by kernel_rfl) (fs_cons rfl rfl o23 (fs_one rfl o3))) (fun _ => rfl)).imp (fun x h => h)
def fa4 (x : Bool) : Prop := True
theorem o4 : Opens Try.prog 4 (fun x : Bool => [G.bool x]) 1 fa4 :=
  opens_bool Try.underlying4 (by kernel_rfl)
def fa56 (x : Sp.Call) : Prop := fa23 x.id ∧ fa3 x.to ∧ fa3 x.program ∧ fa3 x.att ∧ fa3 x.state ∧ fa3 x.sent ∧ fa3 x.ready ∧ fa4 x.committed ∧ fa3 x.code ∧ fa3 x.value ∧ fa3 x.tries
theorem o56 : Opens Try.prog 56 Sp.Call.g 13 fa56 :=
  (opens_iso (fun x : Sp.Call => (x.id, x.to, x.program, x.att, x.state, x.sent, x.ready, x.committed, x.code, x.value, x.tries)) (fun x => (⟨x.1, x.2.1, x.2.2.1, x.2.2.2.1, x.2.2.2.2.1, x.2.2.2.2.2.1, x.2.2.2.2.2.2.1, x.2.2.2.2.2.2.2.1, x.2.2.2.2.2.2.2.2.1, x.2.2.2.2.2.2.2.2.2.1, x.2.2.2.2.2.2.2.2.2.2⟩ : Sp.Call)) (fun _ => rfl) (opens_struct Try.underlying56 (by kernel_rfl) (fs_cons rfl rfl o23 (fs_cons rfl rfl o3 (fs_cons rfl rfl o3 (fs_cons rfl rfl o3 (fs_cons rfl rfl o3 (fs_cons rfl rfl o3 (fs_cons rfl rfl o3 (fs_cons rfl rfl o4 (fs_cons rfl rfl o3 (fs_cons rfl rfl o3 (fs_one rfl o3)))))))))))) (fun _ => rfl)).imp (fun x h => h)
def fa26 (x : List Sp.Call) : Prop := (∀ y ∈ x, fa56 y) ∧ x.length * 104 ≤ 140737488351232
theorem o26 : Opens Try.prog 26 (fun xs : List Sp.Call => [G.sl (xs.map Sp.Call.g)]) 1 fa26 :=
  (opens_slice Try.underlying26 (by kernel_rfl) o56).imp (fun x h => ⟨h.1, by have h2 := h.2; rw [show Try.prog.bytesOf 56 = 104 from by kernel_rfl] at h2; exact h2⟩)
def fa28 (x : Sp.Owner) : Prop := fa25 x.key ∧ fa23 x.root ∧ fa25 x.parent ∧ fa3 x.from ∧ fa3 x.hop ∧ fa3 x.deadline ∧ fa3 x.until ∧ fa3 x.program ∧ fa3 x.pc ∧ fa3 x.done ∧ fa26 x.calls
theorem o28 : Opens Try.prog 28 Sp.Owner.g 19 fa28 :=
  (opens_iso (fun x : Sp.Owner => (x.key, x.root, x.parent, x.from, x.hop, x.deadline, x.until, x.program, x.pc, x.done, x.calls)) (fun x => (⟨x.1, x.2.1, x.2.2.1, x.2.2.2.1, x.2.2.2.2.1, x.2.2.2.2.2.1, x.2.2.2.2.2.2.1, x.2.2.2.2.2.2.2.1, x.2.2.2.2.2.2.2.2.1, x.2.2.2.2.2.2.2.2.2.1, x.2.2.2.2.2.2.2.2.2.2⟩ : Sp.Owner)) (fun _ => rfl) (opens_struct Try.underlying28 (by kernel_rfl) (fs_cons rfl rfl o25 (fs_cons rfl rfl o23 (fs_cons rfl rfl o25 (fs_cons rfl rfl o3 (fs_cons rfl rfl o3 (fs_cons rfl rfl o3 (fs_cons rfl rfl o3 (fs_cons rfl rfl o3 (fs_cons rfl rfl o3 (fs_cons rfl rfl o3 (fs_one rfl o26)))))))))))) (fun _ => rfl)).imp (fun x h => h)
theorem lifted (os : Os) (started : os.Started) (H : Type) (enc : TypeId × Value → H) :
    ReturnsInHanded {} Try.checked os 6 .any (Rows.ownerWithSpec.pre6 enc Try.prog Try.f6 Rows.ownerWithRow.domain false) (Rows.ownerWithSpec.post enc Try.prog Try.f6 false true false false) := by
  refine returnsInHanded_of_change_sized (C := Try.checked) own started (by kernel_rfl) Try.func6
    (ChangeSpec.witness6 (enc := enc) (C := Try.checked) false ⟨#[], #[.agg #[.int .i64 0, .int .i64 0, .int .i64 0, .int .i64 0, .int .i64 0, .int .i64 0, .int .i64 0, .int .i64 0, .int .i64 0, .int .i64 0, .int .i64 0, .int .i64 0, .int .i64 0, .int .i64 0, .int .i64 0, .int .i64 0, .int .i64 0, .int .i64 0, .slice none 0 0], .agg #[.int .i64 0, .int .i64 0, .int .i64 0, .int .i64 0, .int .i64 0, .int .i64 0, .int .i64 0, .int .i64 0, .int .i64 0, .bool false, .int .i64 0, .int .i64 0, .int .i64 0], .agg #[.int .i64 0, .int .i64 0, .int .i64 0, .int .i64 0, .int .i64 0, .int .i64 0, .int .i64 0, .int .i64 0, .int .i64 0, .bool false, .int .i64 0, .int .i64 0, .int .i64 0], .agg #[.int .i64 0, .int .i64 0, .int .i64 0]], []⟩ 8 (by kernel_rfl) (by kernel_rfl) (by kernel_rfl) (by kernel_rfl)) ?_
  intro W base args ds gs before hval0 hW hcnd hsz0 _
  have hsz : (DataW.weightsEach Try.prog (Try.f6.params.toList ++ Rows.ownerWithSpec.plain.varTypes Try.prog) (ds ++ gs)).all (· ≤ reachBytes) = true := hsz0
  have hval : ∀ (j : Nat) t v, Try.f6.params[j]? = some t → args[j]? = some v → Value.okWide Try.prog W .any base t v := hval0
  have hW' := hW
  obtain ⟨p, q, hA0, hV, rfl, hfz, hnd⟩ := hW
  have hA : DataW.TrodAll enc Try.prog W 0 (fun _ => true) true Try.f6.params.toList args.toList ds p := hA0
  rw [Try.params6] at hA hval hsz
  obtain ⟨v0, vs0, d0, ds0, p0, q0, hargs, rfl, rfl, h0, r0⟩ := trodAll_cons hA
  obtain ⟨v1, vs1, d1, ds1, p1, q1, rfl, rfl, rfl, h1, r1⟩ := trodAll_cons r0
  obtain ⟨v2, vs2, d2, ds2, p2, q2, rfl, rfl, rfl, h2, r2⟩ := trodAll_cons r1
  obtain ⟨v3, vs3, d3, ds3, p3, q3, rfl, rfl, rfl, h3, r3⟩ := trodAll_cons r2
  obtain ⟨rfl, rfl, rfl⟩ := trodAll_nil r3
  obtain rfl : args = #[v0, v1, v2, v3] := by cases args; simp_all
  obtain ⟨rfl, rfl⟩ := trodVars_none hV
  have lt0 : ∀ x ∈ p0, x.block < W.heap.size := by obtain ⟨m, hm⟩ := h0; exact DataW.trod_lt m _ _ _ hm
  have n0 := param_weights hsz (j := 0) (t := 28) (d := d0) rfl rfl
  obtain ⟨x0, R0, F0⟩ := param_struct Try.underlying28 o28 (hval 0 28 v0 rfl rfl) h0 n0
  have lt1 : ∀ x ∈ p1, x.block < W.heap.size := by obtain ⟨m, hm⟩ := h1; exact DataW.trod_lt m _ _ _ hm
  have n1 := param_weights hsz (j := 1) (t := 56) (d := d1) rfl rfl
  obtain ⟨x1, R1, F1⟩ := param_struct Try.underlying56 o56 (hval 1 56 v1 rfl rfl) h1 n1
  have lt2 : ∀ x ∈ p2, x.block < W.heap.size := by obtain ⟨m, hm⟩ := h2; exact DataW.trod_lt m _ _ _ hm
  have n2 := param_weights hsz (j := 2) (t := 56) (d := d2) rfl rfl
  obtain ⟨x2, R2, F2⟩ := param_struct Try.underlying56 o56 (hval 2 56 v2 rfl rfl) h2 n2
  have lt3 : ∀ x ∈ p3, x.block < W.heap.size := by obtain ⟨m, hm⟩ := h3; exact DataW.trod_lt m _ _ _ hm
  have n3 := param_weights hsz (j := 3) (t := 23) (d := d3) rfl rfl
  obtain ⟨x3, R3, F3⟩ := param_struct Try.underlying23 o23 (hval 3 23 v3 rfl rfl) h3 n3
  clear hA0 hval0 hsz0 hsz
  have hc : Fv Try.prog 6 [.agg (Sp.Owner.g x0), .agg (Sp.Call.g x1), .agg (Sp.Call.g x2), .agg (Sp.Id.g x3)] (.bool true) := law23_OwnerWith x0 x1 x2 x3
  have hR : ∀ (i : Nat) g v, [(.agg (Sp.Owner.g x0) : G), (.agg (Sp.Call.g x1) : G), (.agg (Sp.Call.g x2) : G), (.agg (Sp.Id.g x3) : G)][i]? = some g → [v0, v1, v2, v3][i]? = some v → Rep C0 W g v := fun i g v hg hv => by
    rcases i with _ | i
    · cases hg; cases hv; exact R0
    rcases i with _ | i
    · cases hg; cases hv; exact R1
    rcases i with _ | i
    · cases hg; cases hv; exact R2
    rcases i with _ | i
    · cases hg; cases hv; exact R3
    cases hg
  refine (hc.calls rfl hR).mono fun e W' ⟨he, bel⟩ => ?_
  subst he
  exact ⟨_, rfl, _, _, _, [], _, [], hW', trodAll_mk1 (shut_bool Try.underlying4 _), (trodAll_cons_mk (Below.trod laidOut (by kernel_rfl) (of_decide_eq_true (by kernel_rfl)) h0 bel lt0) (trodAll_cons_mk (Below.trod laidOut (by kernel_rfl) (of_decide_eq_true (by kernel_rfl)) h1 bel lt1) (trodAll_cons_mk (Below.trod laidOut (by kernel_rfl) (of_decide_eq_true (by kernel_rfl)) h2 bel lt2) (trodAll_cons_mk (Below.trod laidOut (by kernel_rfl) (of_decide_eq_true (by kernel_rfl)) h3 bel lt3) trodAll_mk0)))), rfl, bel.frame _, fun h => by cases h⟩
theorem over : Rows.ownerWithRow.holds Try.pinned (OpenSpec.ofChange Rows.ownerWithSpec) :=
  OpenClaim.holds_of_wide 6 Try.f6 rfl rfl rfl rfl rfl rfl rfl ⟨rfl, rfl, rfl, rfl, rfl⟩ rfl rfl rfl rfl rfl (by kernel_rfl) Try.func6 (by kernel_rfl)
    (of_decide_eq_true (by kernel_rfl)) (by unfold Func.isWrapper; first | (rw [if_pos (by decide +kernel)]; kernel_rfl) | (rw [if_neg (by decide +kernel)]; exact ⟨rfl, rfl⟩))
    (fun os started H enc _ => lifted os started H enc)
theorem proved : Rows.OwnerWithSaid := over
#print axioms proved
end Go.Proofs.Yteioecdfimphaaa.ownerWith
namespace Go.Proofs.Yteioecdfimphaaa
/-- The row, under a short name, for the claim. -/
theorem ownerWith_holds : Rows.OwnerWithSaid := ownerWith.proved
end Go.Proofs.Yteioecdfimphaaa
