/- CallPlays holds: whatever the arguments, the law answers true, and they read as they did. No condition. -/
import Derived.Test.YteioecdfimphaaaRows
import Derived.Test.YteioecdfimphaaaCn7b
import Derived.Test.YteioecdfimphaaaAv15
import Derived.Test.YteioecdfimphaaaAv16
import Derived.WalkKit
import Derived.ProofKit
import Derived.OpenShut
import Derived.ChangeOld
import Derived.Below
import Derived.SizedLaws
import Derived.Carry
import Derived.KernelRfl
namespace Go.Proofs.Yteioecdfimphaaa.callPlays
open Go.ChangeShapes Go.WideShapes Go.ChangeAt Go.RowKit Go.Proofs.Yteioecdfimphaaa.Av Go.Proofs.Yteioecdfimphaaa.Sp Go.Proofs.Yteioecdfimphaaa.Cn
set_option linter.unusedVariables false
theorem own : ownKnob Try.prog.godebug = none := by kernel_rfl
theorem laidOut : laidOutB Try.prog = true := by kernel_rfl
set_option maxRecDepth 100000
def fa3 (x : Int) : Prop := (Lit.int .i64 x).wf = true
theorem o3 : Opens Try.prog 3 (fun x : Int => [G.int .i64 x]) 1 fa3 :=
  opens_int Try.underlying3 (by kernel_rfl)
def fa23 (x : Sp.Id) : Prop := fa3 x.node ∧ fa3 x.inc ∧ fa3 x.seq
theorem o23 : Opens Try.prog 23 Sp.Id.g 3 fa23 :=
  (opens_iso (fun x : Sp.Id => (x.node, x.inc, x.seq)) (fun x => (⟨x.1, x.2.1, x.2.2⟩ : Sp.Id)) (fun _ => rfl) (opens_struct Try.underlying23 (by kernel_rfl) (fs_cons rfl rfl o3 (fs_cons rfl rfl o3 (fs_one rfl o3)))) (fun _ => rfl)).imp (fun x h => h)
def fa4 (x : Bool) : Prop := True
theorem o4 : Opens Try.prog 4 (fun x : Bool => [G.bool x]) 1 fa4 :=
  opens_bool Try.underlying4 (by kernel_rfl)
def fa56 (x : Sp.Call) : Prop := fa23 x.id ∧ fa3 x.to ∧ fa3 x.program ∧ fa3 x.att ∧ fa3 x.state ∧ fa3 x.sent ∧ fa3 x.ready ∧ fa4 x.committed ∧ fa3 x.code ∧ fa3 x.value ∧ fa3 x.tries
theorem o56 : Opens Try.prog 56 Sp.Call.g 13 fa56 :=
  (opens_iso (fun x : Sp.Call => (x.id, x.to, x.program, x.att, x.state, x.sent, x.ready, x.committed, x.code, x.value, x.tries)) (fun x => (⟨x.1, x.2.1, x.2.2.1, x.2.2.2.1, x.2.2.2.2.1, x.2.2.2.2.2.1, x.2.2.2.2.2.2.1, x.2.2.2.2.2.2.2.1, x.2.2.2.2.2.2.2.2.1, x.2.2.2.2.2.2.2.2.2.1, x.2.2.2.2.2.2.2.2.2.2⟩ : Sp.Call)) (fun _ => rfl) (opens_struct Try.underlying56 (by kernel_rfl) (fs_cons rfl rfl o23 (fs_cons rfl rfl o3 (fs_cons rfl rfl o3 (fs_cons rfl rfl o3 (fs_cons rfl rfl o3 (fs_cons rfl rfl o3 (fs_cons rfl rfl o3 (fs_cons rfl rfl o4 (fs_cons rfl rfl o3 (fs_cons rfl rfl o3 (fs_one rfl o3)))))))))))) (fun _ => rfl)).imp (fun x h => h)
def fa46 (x : Sp.Pop) : Prop := fa3 x.kind ∧ fa3 x.a ∧ fa3 x.b
theorem o46 : Opens Try.prog 46 Sp.Pop.g 3 fa46 :=
  (opens_iso (fun x : Sp.Pop => (x.kind, x.a, x.b)) (fun x => (⟨x.1, x.2.1, x.2.2⟩ : Sp.Pop)) (fun _ => rfl) (opens_struct Try.underlying46 (by kernel_rfl) (fs_cons rfl rfl o3 (fs_cons rfl rfl o3 (fs_one rfl o3)))) (fun _ => rfl)).imp (fun x h => h)
def fa29 (x : List Sp.Pop) : Prop := (∀ y ∈ x, fa46 y) ∧ x.length * 24 ≤ 140737488351232
theorem o29 : Opens Try.prog 29 (fun xs : List Sp.Pop => [G.sl (xs.map Sp.Pop.g)]) 1 fa29 :=
  (opens_slice Try.underlying29 (by kernel_rfl) o46).imp (fun x h => ⟨h.1, by have h2 := h.2; rw [show Try.prog.bytesOf 46 = 24 from by kernel_rfl] at h2; exact h2⟩)
def fa70 (x : List (List Sp.Pop)) : Prop := (∀ y ∈ x, fa29 y) ∧ x.length * 24 ≤ 140737488351232
theorem o70 : Opens Try.prog 70 (fun xs : List (List Sp.Pop) => [G.sl (xs.map (fun xs : List Sp.Pop => [G.sl (xs.map Sp.Pop.g)]))]) 1 fa70 :=
  (opens_slice Try.underlying70 (by kernel_rfl) o29).imp (fun x h => ⟨h.1, by have h2 := h.2; rw [show Try.prog.bytesOf 29 = 24 from by kernel_rfl] at h2; exact h2⟩)
def fa72 (x : Sp.Config) : Prop := fa3 x.nodes ∧ fa3 x.skew ∧ fa3 x.lease ∧ fa3 x.grain ∧ fa3 x.least ∧ fa3 x.hops ∧ fa3 x.cap ∧ fa3 x.fan ∧ fa3 x.attempts ∧ fa3 x.base ∧ fa3 x.most ∧ fa3 x.wait ∧ fa3 x.tokens ∧ fa70 x.programs
theorem o72 : Opens Try.prog 72 Sp.Config.g 14 fa72 :=
  (opens_iso (fun x : Sp.Config => (x.nodes, x.skew, x.lease, x.grain, x.least, x.hops, x.cap, x.fan, x.attempts, x.base, x.most, x.wait, x.tokens, x.programs)) (fun x => (⟨x.1, x.2.1, x.2.2.1, x.2.2.2.1, x.2.2.2.2.1, x.2.2.2.2.2.1, x.2.2.2.2.2.2.1, x.2.2.2.2.2.2.2.1, x.2.2.2.2.2.2.2.2.1, x.2.2.2.2.2.2.2.2.2.1, x.2.2.2.2.2.2.2.2.2.2.1, x.2.2.2.2.2.2.2.2.2.2.2.1, x.2.2.2.2.2.2.2.2.2.2.2.2.1, x.2.2.2.2.2.2.2.2.2.2.2.2.2⟩ : Sp.Config)) (fun _ => rfl) (opens_struct Try.underlying72 (by kernel_rfl) (fs_cons rfl rfl o3 (fs_cons rfl rfl o3 (fs_cons rfl rfl o3 (fs_cons rfl rfl o3 (fs_cons rfl rfl o3 (fs_cons rfl rfl o3 (fs_cons rfl rfl o3 (fs_cons rfl rfl o3 (fs_cons rfl rfl o3 (fs_cons rfl rfl o3 (fs_cons rfl rfl o3 (fs_cons rfl rfl o3 (fs_cons rfl rfl o3 (fs_one rfl o70))))))))))))))) (fun _ => rfl)).imp (fun x h => h)
def fa77 (x : Sp.Facts) : Prop := fa3 x.code ∧ fa3 x.att ∧ fa4 x.committed ∧ fa3 x.push ∧ fa3 x.have' ∧ fa3 x.now ∧ fa3 x.deadline ∧ fa3 x.jitter
theorem o77 : Opens Try.prog 77 Sp.Facts.g 8 fa77 :=
  (opens_iso (fun x : Sp.Facts => (x.code, x.att, x.committed, x.push, x.have', x.now, x.deadline, x.jitter)) (fun x => (⟨x.1, x.2.1, x.2.2.1, x.2.2.2.1, x.2.2.2.2.1, x.2.2.2.2.2.1, x.2.2.2.2.2.2.1, x.2.2.2.2.2.2.2⟩ : Sp.Facts)) (fun _ => rfl) (opens_struct Try.underlying77 (by kernel_rfl) (fs_cons rfl rfl o3 (fs_cons rfl rfl o3 (fs_cons rfl rfl o4 (fs_cons rfl rfl o3 (fs_cons rfl rfl o3 (fs_cons rfl rfl o3 (fs_cons rfl rfl o3 (fs_one rfl o3))))))))) (fun _ => rfl)).imp (fun x h => h)
def fa79 (x : Sp.Deed21) : Prop := fa3 x.kind ∧ fa3 x.n ∧ fa77 x.f
theorem o79 : Opens Try.prog 79 Sp.Deed21.g 10 fa79 :=
  (opens_iso (fun x : Sp.Deed21 => (x.kind, x.n, x.f)) (fun x => (⟨x.1, x.2.1, x.2.2⟩ : Sp.Deed21)) (fun _ => rfl) (opens_struct Try.underlying79 (by kernel_rfl) (fs_cons rfl rfl o3 (fs_cons rfl rfl o3 (fs_one rfl o77)))) (fun _ => rfl)).imp (fun x h => h)
def fa73 (x : List Sp.Deed21) : Prop := (∀ y ∈ x, fa79 y) ∧ x.length * 80 ≤ 140737488351232
theorem o73 : Opens Try.prog 73 (fun xs : List Sp.Deed21 => [G.sl (xs.map Sp.Deed21.g)]) 1 fa73 :=
  (opens_slice Try.underlying73 (by kernel_rfl) o79).imp (fun x h => ⟨h.1, by have h2 := h.2; rw [show Try.prog.bytesOf 79 = 80 from by kernel_rfl] at h2; exact h2⟩)
theorem lifted (os : Os) (started : os.Started) (H : Type) (enc : TypeId × Value → H) :
    ReturnsInHanded {} Try.checked os 10 .any (Rows.callPlaysSpec.pre6 enc Try.prog Try.f10 Rows.callPlaysRow.domain false) (Rows.callPlaysSpec.post enc Try.prog Try.f10 false true false false) := by
  refine returnsInHanded_of_change_sized (C := Try.checked) own started (by kernel_rfl) Try.func10
    (ChangeSpec.witness6 (enc := enc) (C := Try.checked) false ⟨#[], #[.agg #[.int .i64 0, .int .i64 0, .int .i64 0, .int .i64 0, .int .i64 0, .int .i64 0, .int .i64 0, .int .i64 0, .int .i64 0, .bool false, .int .i64 0, .int .i64 0, .int .i64 0], .agg #[.int .i64 0, .int .i64 0, .int .i64 0, .int .i64 0, .int .i64 0, .int .i64 0, .int .i64 0, .int .i64 0, .int .i64 0, .int .i64 0, .int .i64 0, .int .i64 0, .int .i64 0, .slice none 0 0], .slice none 0 0, .int .i64 0, .int .i64 0], []⟩ 8 (by kernel_rfl) (by kernel_rfl) (by kernel_rfl) (by kernel_rfl)) ?_
  intro W base args ds gs before hval0 hW hcnd hsz0 _
  have hsz : (DataW.weightsEach Try.prog (Try.f10.params.toList ++ Rows.callPlaysSpec.plain.varTypes Try.prog) (ds ++ gs)).all (· ≤ reachBytes) = true := hsz0
  have hval : ∀ (j : Nat) t v, Try.f10.params[j]? = some t → args[j]? = some v → Value.okWide Try.prog W .any base t v := hval0
  have hW' := hW
  obtain ⟨p, q, hA0, hV, rfl, hfz, hnd⟩ := hW
  have hA : DataW.TrodAll enc Try.prog W 0 (fun _ => true) true Try.f10.params.toList args.toList ds p := hA0
  rw [Try.params10] at hA hval hsz
  obtain ⟨v0, vs0, d0, ds0, p0, q0, hargs, rfl, rfl, h0, r0⟩ := trodAll_cons hA
  obtain ⟨v1, vs1, d1, ds1, p1, q1, rfl, rfl, rfl, h1, r1⟩ := trodAll_cons r0
  obtain ⟨v2, vs2, d2, ds2, p2, q2, rfl, rfl, rfl, h2, r2⟩ := trodAll_cons r1
  obtain ⟨v3, vs3, d3, ds3, p3, q3, rfl, rfl, rfl, h3, r3⟩ := trodAll_cons r2
  obtain ⟨v4, vs4, d4, ds4, p4, q4, rfl, rfl, rfl, h4, r4⟩ := trodAll_cons r3
  obtain ⟨rfl, rfl, rfl⟩ := trodAll_nil r4
  obtain rfl : args = #[v0, v1, v2, v3, v4] := by cases args; simp_all
  obtain ⟨rfl, rfl⟩ := trodVars_none hV
  have lt0 : ∀ x ∈ p0, x.block < W.heap.size := by obtain ⟨m, hm⟩ := h0; exact DataW.trod_lt m _ _ _ hm
  have n0 := param_weights hsz (j := 0) (t := 56) (d := d0) rfl rfl
  obtain ⟨x0, R0, F0⟩ := param_struct Try.underlying56 o56 (hval 0 56 v0 rfl rfl) h0 n0
  have lt1 : ∀ x ∈ p1, x.block < W.heap.size := by obtain ⟨m, hm⟩ := h1; exact DataW.trod_lt m _ _ _ hm
  have n1 := param_weights hsz (j := 1) (t := 72) (d := d1) rfl rfl
  obtain ⟨x1, R1, F1⟩ := param_struct Try.underlying72 o72 (hval 1 72 v1 rfl rfl) h1 n1
  have lt2 : ∀ x ∈ p2, x.block < W.heap.size := by obtain ⟨m, hm⟩ := h2; exact DataW.trod_lt m _ _ _ hm
  have n2 := param_weights hsz (j := 2) (t := 73) (d := d2) rfl rfl
  obtain ⟨x2, R2, F2⟩ := param_slice (g := fun xs : List Sp.Deed21 => G.sl (xs.map Sp.Deed21.g)) Try.underlying73 o73 (fun _ => rfl) (hval 2 73 v2 rfl rfl) h2 n2
  have lt3 : ∀ x ∈ p3, x.block < W.heap.size := by obtain ⟨m, hm⟩ := h3; exact DataW.trod_lt m _ _ _ hm
  have n3 := param_weights hsz (j := 3) (t := 3) (d := d3) rfl rfl
  obtain ⟨x3, R3, F3⟩ := param_int (g := fun x : Int => G.int .i64 x) Try.underlying3 o3 (fun _ => rfl) (hval 3 3 v3 rfl rfl) h3 n3
  have lt4 : ∀ x ∈ p4, x.block < W.heap.size := by obtain ⟨m, hm⟩ := h4; exact DataW.trod_lt m _ _ _ hm
  have n4 := param_weights hsz (j := 4) (t := 3) (d := d4) rfl rfl
  obtain ⟨x4, R4, F4⟩ := param_int (g := fun x : Int => G.int .i64 x) Try.underlying3 o3 (fun _ => rfl) (hval 4 3 v4 rfl rfl) h4 n4
  clear hA0 hval0 hsz0 hsz
  have hc : Fv Try.prog 10 [.agg (Sp.Call.g x0), .agg (Sp.Config.g x1), G.sl (x2.map Sp.Deed21.g), G.int .i64 x3, G.int .i64 x4] (.bool true) := law21_CallPlays x0 x1 x2 x3 x4 (wf_i64 F0.2.2.2.1).2
  have hR : ∀ (i : Nat) g v, [(.agg (Sp.Call.g x0) : G), (.agg (Sp.Config.g x1) : G), (G.sl (x2.map Sp.Deed21.g) : G), (G.int .i64 x3 : G), (G.int .i64 x4 : G)][i]? = some g → [v0, v1, v2, v3, v4][i]? = some v → Rep C0 W g v := fun i g v hg hv => by
    rcases i with _ | i
    · cases hg; cases hv; exact R0
    rcases i with _ | i
    · cases hg; cases hv; exact R1
    rcases i with _ | i
    · cases hg; cases hv; exact R2
    rcases i with _ | i
    · cases hg; cases hv; exact R3
    rcases i with _ | i
    · cases hg; cases hv; exact R4
    cases hg
  refine (hc.calls rfl hR).mono fun e W' ⟨he, bel⟩ => ?_
  subst he
  exact ⟨_, rfl, _, _, _, [], _, [], hW', trodAll_mk1 (shut_bool Try.underlying4 _), (trodAll_cons_mk (Below.trod laidOut (by kernel_rfl) (of_decide_eq_true (by kernel_rfl)) h0 bel lt0) (trodAll_cons_mk (Below.trod laidOut (by kernel_rfl) (of_decide_eq_true (by kernel_rfl)) h1 bel lt1) (trodAll_cons_mk (Below.trod laidOut (by kernel_rfl) (of_decide_eq_true (by kernel_rfl)) h2 bel lt2) (trodAll_cons_mk (Below.trod laidOut (by kernel_rfl) (of_decide_eq_true (by kernel_rfl)) h3 bel lt3) (trodAll_cons_mk (Below.trod laidOut (by kernel_rfl) (of_decide_eq_true (by kernel_rfl)) h4 bel lt4) trodAll_mk0))))), rfl, bel.frame _, fun h => by cases h⟩
theorem over : Rows.callPlaysRow.holds Try.pinned (OpenSpec.ofChange Rows.callPlaysSpec) :=
  OpenClaim.holds_of_wide 10 Try.f10 rfl rfl rfl rfl rfl rfl rfl ⟨rfl, rfl, rfl, rfl, rfl⟩ rfl rfl rfl rfl rfl (by kernel_rfl) Try.func10 (by kernel_rfl)
    (of_decide_eq_true (by kernel_rfl)) (by unfold Func.isWrapper; first | (rw [if_pos (by decide +kernel)]; kernel_rfl) | (rw [if_neg (by decide +kernel)]; exact ⟨rfl, rfl⟩))
    (fun os started H enc _ => lifted os started H enc)
theorem proved : Rows.CallPlaysSaid := over
#print axioms proved
end Go.Proofs.Yteioecdfimphaaa.callPlays
namespace Go.Proofs.Yteioecdfimphaaa
/-- The row, under a short name, for the claim. -/
theorem callPlays_holds : Rows.CallPlaysSaid := callPlays.proved
end Go.Proofs.Yteioecdfimphaaa
