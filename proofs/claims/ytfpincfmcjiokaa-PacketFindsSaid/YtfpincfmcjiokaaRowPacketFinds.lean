/- PacketFinds holds: whatever the arguments, the law answers true, and they read as they did. No condition. -/
import Derived.Test.YtfpincfmcjiokaaRows
import Derived.Test.YtfpincfmcjiokaaCn85
import Derived.Test.YtfpincfmcjiokaaAv15
import Derived.Test.YtfpincfmcjiokaaAv16
import Derived.WalkKit
import Derived.ProofKit
import Derived.OpenShut
import Derived.ChangeOld
import Derived.Below
import Derived.SizedLaws
import Derived.Carry
import Derived.KernelRfl
namespace Go.Proofs.Ytfpincfmcjiokaa.packetFinds
open Go.ChangeShapes Go.WideShapes Go.ChangeAt Go.RowKit Go.Proofs.Ytfpincfmcjiokaa.Av Go.Proofs.Ytfpincfmcjiokaa.Sp Go.Proofs.Ytfpincfmcjiokaa.Cn
set_option linter.unusedVariables false
theorem own : ownKnob Try.prog.godebug = none := by kernel_rfl
theorem laidOut : laidOutB Try.prog = true := by kernel_rfl
set_option maxRecDepth 100000
def fa3 (x : Int) : Prop := (Lit.int .i64 x).wf = true
theorem o3 : Opens Try.prog 3 (fun x : Int => [G.int .i64 x]) 1 fa3 :=
  opens_int Try.underlying3 (by kernel_rfl)
def fa23 (x : Sp.Id) : Prop := fa3 x.node ∧ fa3 x.inc ∧ fa3 x.seq
theorem o23 : Opens Try.prog 23 Sp.Id.g 3 fa23 :=
  (opens_iso (fun x : Sp.Id => (x.node, x.inc, x.seq)) (fun x => (⟨x.1, x.2.1, x.2.2⟩ : Sp.Id)) (fun _ => rfl) (opens_struct Try.underlying23 (by kernel_rfl) (fs_cons rfl rfl o3 (fs_cons rfl rfl o3 (fs_one rfl o3)))) (fun _ => rfl)).imp (fun x h => h)
def fa25 (x : Sp.Key) : Prop := fa23 x.id ∧ fa3 x.att
theorem o25 : Opens Try.prog 25 Sp.Key.g 4 fa25 :=
  (opens_iso (fun x : Sp.Key => (x.id, x.att)) (fun x => (⟨x.1, x.2⟩ : Sp.Key)) (fun _ => rfl) (opens_struct Try.underlying25 (by kernel_rfl) (fs_cons rfl rfl o23 (fs_one rfl o3))) (fun _ => rfl)).imp (fun x h => h)
def fa9 (x : ByteArray) : Prop := x.size ≤ 140737488351232
theorem o9 : Opens Try.prog 9 (fun x : ByteArray => [G.str x]) 1 fa9 :=
  opens_string Try.underlying9 (by kernel_rfl)
def fa4 (x : Bool) : Prop := True
theorem o4 : Opens Try.prog 4 (fun x : Bool => [G.bool x]) 1 fa4 :=
  opens_bool Try.underlying4 (by kernel_rfl)
def fa27 (x : Sp.Packet) : Prop := fa3 x.kind ∧ fa3 x.from ∧ fa3 x.to ∧ fa25 x.key ∧ fa3 x.hop ∧ fa3 x.stamp ∧ fa9 x.timeout ∧ fa3 x.until ∧ fa3 x.program ∧ fa23 x.root ∧ fa25 x.parent ∧ fa3 x.code ∧ fa3 x.value ∧ fa4 x.more ∧ fa3 x.delay
theorem o27 : Opens Try.prog 27 Sp.Packet.g 23 fa27 :=
  (opens_iso (fun x : Sp.Packet => (x.kind, x.from, x.to, x.key, x.hop, x.stamp, x.timeout, x.until, x.program, x.root, x.parent, x.code, x.value, x.more, x.delay)) (fun x => (⟨x.1, x.2.1, x.2.2.1, x.2.2.2.1, x.2.2.2.2.1, x.2.2.2.2.2.1, x.2.2.2.2.2.2.1, x.2.2.2.2.2.2.2.1, x.2.2.2.2.2.2.2.2.1, x.2.2.2.2.2.2.2.2.2.1, x.2.2.2.2.2.2.2.2.2.2.1, x.2.2.2.2.2.2.2.2.2.2.2.1, x.2.2.2.2.2.2.2.2.2.2.2.2.1, x.2.2.2.2.2.2.2.2.2.2.2.2.2.1, x.2.2.2.2.2.2.2.2.2.2.2.2.2.2⟩ : Sp.Packet)) (fun _ => rfl) (opens_struct Try.underlying27 (by kernel_rfl) (fs_cons rfl rfl o3 (fs_cons rfl rfl o3 (fs_cons rfl rfl o3 (fs_cons rfl rfl o25 (fs_cons rfl rfl o3 (fs_cons rfl rfl o3 (fs_cons rfl rfl o9 (fs_cons rfl rfl o3 (fs_cons rfl rfl o3 (fs_cons rfl rfl o23 (fs_cons rfl rfl o25 (fs_cons rfl rfl o3 (fs_cons rfl rfl o3 (fs_cons rfl rfl o4 (fs_one rfl o3)))))))))))))))) (fun _ => rfl)).imp (fun x h => h)
def fa5 (x : Int) : Prop := (Lit.int .u8 x).wf = true
theorem o5 : Opens Try.prog 5 (fun x : Int => [G.int .u8 x]) 1 fa5 :=
  opens_int Try.underlying5 (by kernel_rfl)
theorem lifted (os : Os) (started : os.Started) (H : Type) (enc : TypeId × Value → H) :
    ReturnsInHanded {} Try.checked os 5 .any (Rows.packetFindsSpec.pre6 enc Try.prog Try.f5 Rows.packetFindsRow.domain false) (Rows.packetFindsSpec.post enc Try.prog Try.f5 false true false false) := by
  refine returnsInHanded_of_change_sized (C := Try.checked) own started (by kernel_rfl) Try.func5
    (ChangeSpec.witness6 (enc := enc) (C := Try.checked) false ⟨#[], #[.agg #[.int .i64 0, .int .i64 0, .int .i64 0, .int .i64 0, .int .i64 0, .int .i64 0, .int .i64 0, .int .i64 0, .int .i64 0, .string ByteArray.empty, .int .i64 0, .int .i64 0, .int .i64 0, .int .i64 0, .int .i64 0, .int .i64 0, .int .i64 0, .int .i64 0, .int .i64 0, .int .i64 0, .int .i64 0, .bool false, .int .i64 0], .int .i64 0, .int .u8 0], []⟩ 8 (by kernel_rfl) (by kernel_rfl) (by kernel_rfl) (by kernel_rfl)) ?_
  intro W base args ds gs before hval0 hW hcnd hsz0 _
  have hsz : (DataW.weightsEach Try.prog (Try.f5.params.toList ++ Rows.packetFindsSpec.plain.varTypes Try.prog) (ds ++ gs)).all (· ≤ reachBytes) = true := hsz0
  have hval : ∀ (j : Nat) t v, Try.f5.params[j]? = some t → args[j]? = some v → Value.okWide Try.prog W .any base t v := hval0
  have hW' := hW
  obtain ⟨p, q, hA0, hV, rfl, hfz, hnd⟩ := hW
  have hA : DataW.TrodAll enc Try.prog W 0 (fun _ => true) true Try.f5.params.toList args.toList ds p := hA0
  rw [Try.params5] at hA hval hsz
  obtain ⟨v0, vs0, d0, ds0, p0, q0, hargs, rfl, rfl, h0, r0⟩ := trodAll_cons hA
  obtain ⟨v1, vs1, d1, ds1, p1, q1, rfl, rfl, rfl, h1, r1⟩ := trodAll_cons r0
  obtain ⟨v2, vs2, d2, ds2, p2, q2, rfl, rfl, rfl, h2, r2⟩ := trodAll_cons r1
  obtain ⟨rfl, rfl, rfl⟩ := trodAll_nil r2
  obtain rfl : args = #[v0, v1, v2] := by cases args; simp_all
  obtain ⟨rfl, rfl⟩ := trodVars_none hV
  have lt0 : ∀ x ∈ p0, x.block < W.heap.size := by obtain ⟨m, hm⟩ := h0; exact DataW.trod_lt m _ _ _ hm
  have n0 := param_weights hsz (j := 0) (t := 27) (d := d0) rfl rfl
  obtain ⟨x0, R0, F0⟩ := param_struct Try.underlying27 o27 (hval 0 27 v0 rfl rfl) h0 n0
  have lt1 : ∀ x ∈ p1, x.block < W.heap.size := by obtain ⟨m, hm⟩ := h1; exact DataW.trod_lt m _ _ _ hm
  have n1 := param_weights hsz (j := 1) (t := 3) (d := d1) rfl rfl
  obtain ⟨x1, R1, F1⟩ := param_int (g := fun x : Int => G.int .i64 x) Try.underlying3 o3 (fun _ => rfl) (hval 1 3 v1 rfl rfl) h1 n1
  have lt2 : ∀ x ∈ p2, x.block < W.heap.size := by obtain ⟨m, hm⟩ := h2; exact DataW.trod_lt m _ _ _ hm
  have n2 := param_weights hsz (j := 2) (t := 5) (d := d2) rfl rfl
  obtain ⟨x2, R2, F2⟩ := param_int (g := fun x : Int => G.int .u8 x) Try.underlying5 o5 (fun _ => rfl) (hval 2 5 v2 rfl rfl) h2 n2
  clear hA0 hval0 hsz0 hsz
  have hc : Fv Try.prog 5 [.agg (Sp.Packet.g x0), G.int .i64 x1, G.int .u8 x2] (.bool true) := law08_PacketFinds x0 x1 x2 (wf_u8 F2)
  have hR : ∀ (i : Nat) g v, [(.agg (Sp.Packet.g x0) : G), (G.int .i64 x1 : G), (G.int .u8 x2 : G)][i]? = some g → [v0, v1, v2][i]? = some v → Rep C0 W g v := fun i g v hg hv => by
    rcases i with _ | i
    · cases hg; cases hv; exact R0
    rcases i with _ | i
    · cases hg; cases hv; exact R1
    rcases i with _ | i
    · cases hg; cases hv; exact R2
    cases hg
  refine (hc.calls (fun p hp => by simp [fixK] at hp) rfl hR).mono fun e W' ⟨he, bel⟩ => ?_
  subst he
  exact ⟨_, rfl, _, _, _, [], _, [], hW', trodAll_mk1 (shut_bool Try.underlying4 _), (trodAll_cons_mk (Below.trod laidOut (by kernel_rfl) (of_decide_eq_true (by kernel_rfl)) h0 bel lt0) (trodAll_cons_mk (Below.trod laidOut (by kernel_rfl) (of_decide_eq_true (by kernel_rfl)) h1 bel lt1) (trodAll_cons_mk (Below.trod laidOut (by kernel_rfl) (of_decide_eq_true (by kernel_rfl)) h2 bel lt2) trodAll_mk0))), rfl, bel.frame _, fun h => by cases h⟩
theorem over : Rows.packetFindsRow.holds Try.pinned (OpenSpec.ofChange Rows.packetFindsSpec) :=
  OpenClaim.holds_of_wide 5 Try.f5 rfl rfl rfl rfl rfl rfl rfl ⟨rfl, rfl, rfl, rfl, rfl⟩ rfl rfl rfl rfl rfl (by kernel_rfl) Try.func5 (by kernel_rfl)
    (of_decide_eq_true (by kernel_rfl)) (by unfold Func.isWrapper; first | (rw [if_pos (by decide +kernel)]; kernel_rfl) | (rw [if_neg (by decide +kernel)]; exact ⟨rfl, rfl⟩))
    (fun os started H enc _ => lifted os started H enc)
theorem proved : Rows.PacketFindsSaid := over
#print axioms proved
end Go.Proofs.Ytfpincfmcjiokaa.packetFinds
namespace Go.Proofs.Ytfpincfmcjiokaa
/-- The row, under a short name, for the claim. -/
theorem packetFinds_holds : Rows.PacketFindsSaid := packetFinds.proved
end Go.Proofs.Ytfpincfmcjiokaa
