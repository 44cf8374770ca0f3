/- EventBelow holds: whatever the arguments, the law answers true, and they read as they did. No condition. -/
import Derived.Test.YtcihkmnolagdlaaDoorRows
import Derived.Test.YtcihkmnolagdlaaDoorCn108
import Derived.Test.YtcihkmnolagdlaaDoorTie
import Derived.Test.YtcihkmnolagdlaaDoorCards
import Derived.Test.YtcihkmnolagdlaaDoorAv15
import Derived.Test.YtcihkmnolagdlaaDoorAv16
import Derived.WalkKit
import Derived.ProofKit
import Derived.OpenShut
import Derived.ChangeOld
import Derived.Below
import Derived.SizedLaws
import Derived.Carry
import Derived.KernelRfl
import Derived.LaidMore
import Derived.MakeChecks
import Derived.Stop.LaidErr
import Derived.Lib.LaidTab
import Derived.SevenTiedAt
import Derived.Lib.ItoaNum
namespace Go.Proofs.YtcihkmnolagdlaaDoor.eventBelow
open Go.ChangeShapes Go.WideShapes Go.ChangeAt Go.RowKit Go.Proofs.YtcihkmnolagdlaaDoor.Av Go.Proofs.YtcihkmnolagdlaaDoor.Sp Go.Proofs.YtcihkmnolagdlaaDoor.Cn
set_option linter.unusedVariables false
theorem own : ownKnob Tryd.prog.godebug = none := by kernel_rfl
theorem laidOut : laidOutB Tryd.prog = true := by kernel_rfl
set_option maxRecDepth 100000
def fa3 (x : Int) : Prop := (Lit.int .i64 x).wf = true
theorem o3 : Opens Tryd.prog 3 (fun x : Int => [G.int .i64 x]) 1 fa3 :=
  opens_int Tryd.underlying3 (by kernel_rfl)
def fa26 (x : Sp.Id) : Prop := fa3 x.node ∧ fa3 x.inc ∧ fa3 x.seq
theorem o26 : Opens Tryd.prog 26 Sp.Id.g 3 fa26 :=
  (opens_iso (fun x : Sp.Id => (x.node, x.inc, x.seq)) (fun x => (⟨x.1, x.2.1, x.2.2⟩ : Sp.Id)) (fun _ => rfl) (opens_struct Tryd.underlying26 (by kernel_rfl) (fs_cons rfl rfl o3 (fs_cons rfl rfl o3 (fs_one rfl o3)))) (fun _ => rfl)).imp (fun x h => h)
def fa28 (x : Sp.Key) : Prop := fa26 x.id ∧ fa3 x.att
theorem o28 : Opens Tryd.prog 28 Sp.Key.g 4 fa28 :=
  (opens_iso (fun x : Sp.Key => (x.id, x.att)) (fun x => (⟨x.1, x.2⟩ : Sp.Key)) (fun _ => rfl) (opens_struct Tryd.underlying28 (by kernel_rfl) (fs_cons rfl rfl o26 (fs_one rfl o3))) (fun _ => rfl)).imp (fun x h => h)
def fa30 (x : Sp.Ev) : Prop := fa3 x.kind ∧ fa3 x.real ∧ fa3 x.node ∧ fa3 x.loc ∧ fa28 x.key ∧ fa28 x.parent ∧ fa26 x.root ∧ fa3 x.hop ∧ fa3 x.code ∧ fa3 x.value
theorem o30 : Opens Tryd.prog 30 Sp.Ev.g 18 fa30 :=
  (opens_iso (fun x : Sp.Ev => (x.kind, x.real, x.node, x.loc, x.key, x.parent, x.root, x.hop, x.code, x.value)) (fun x => (⟨x.1, x.2.1, x.2.2.1, x.2.2.2.1, x.2.2.2.2.1, x.2.2.2.2.2.1, x.2.2.2.2.2.2.1, x.2.2.2.2.2.2.2.1, x.2.2.2.2.2.2.2.2.1, x.2.2.2.2.2.2.2.2.2⟩ : Sp.Ev)) (fun _ => rfl) (opens_struct Tryd.underlying30 (by kernel_rfl) (fs_cons rfl rfl o3 (fs_cons rfl rfl o3 (fs_cons rfl rfl o3 (fs_cons rfl rfl o3 (fs_cons rfl rfl o28 (fs_cons rfl rfl o28 (fs_cons rfl rfl o26 (fs_cons rfl rfl o3 (fs_cons rfl rfl o3 (fs_one rfl o3))))))))))) (fun _ => rfl)).imp (fun x h => h)
def fa22 (x : List Sp.Ev) : Prop := (∀ y ∈ x, fa30 y) ∧ x.length * 144 ≤ 140737488351232
theorem o22 : Opens Tryd.prog 22 (fun xs : List Sp.Ev => [G.sl (xs.map Sp.Ev.g)]) 1 fa22 :=
  (opens_slice Tryd.underlying22 (by kernel_rfl) o30).imp (fun x h => ⟨h.1, by have h2 := h.2; rw [show Tryd.prog.bytesOf 30 = 144 from by kernel_rfl] at h2; exact h2⟩)
theorem door_met (os : Os) (args : Array Value) : laidMetH Tryd.prog Rows.eventBelowRow.laid ((World.doorLaid Tryd.prog 400 os).forCall (fun _ _ => 0) ⟨#[], args, []⟩).memory :=
  laidMetH_of_parts3 (fuel := 8) (laidMet_of_run' 8 (by kernel_rfl) (by kernel_rfl)) (by kernel_rfl) (by kernel_rfl)
theorem laidTab {H : Type} : (Rows.laid_internal_strconv_uint64pow10 : DataW H) = Lib.tabData .u64 Lib.pow10Tab := rfl
theorem fixed_of {W : World} (h : laidMetH Tryd.prog Rows.eventBelowRow.laid W) : Fixed W C0.ex := by
  rw [MakeChecks.laidMetH_plain _ _ _ (by kernel_rfl)] at h
  have h1 := h.tail.tail
  have ht : Lib.TabIs Tryd.prog W "internal/strconv.uint64pow10" .u64 Lib.pow10Tab := Lib.tabIs_of_head (g := 1) (t := 135) (e := 128) (n := 20) (by kernel_rfl) (by kernel_rfl) (by kernel_rfl) (by kernel_rfl) (by kernel_rfl) (by kernel_rfl) h1
  unfold Lib.TabIs World.var? at ht
  rw [show Tryd.prog.globalNamed "internal/strconv.uint64pow10" = some 1 from by kernel_rfl] at ht
  simp only [Option.bind_some] at ht
  split at ht
  · rename_i cs T fz hw
    obtain rfl := Option.some.inj ht
    intro p hp
    obtain rfl := List.mem_singleton.1 hp
    exact ⟨(Array.getElem?_eq_some_iff.1 hw).1, fun hx => hx.elim, T, fz, hw⟩
  · cases ht
theorem lifted (os : Os) (started : os.Started) (H : Type) (enc : TypeId × Value → H) :
    ReturnsInHanded {} Tryd.checked os 5 .any (fun w args => (Rows.eventBelowSpec.pre enc Tryd.prog Tryd.f5 [] false w args ∧ laidMetH Tryd.prog Rows.eventBelowRow.laid w) ∧ sizedMet enc Tryd.prog Tryd.f5 (OpenSpec.ofChange Rows.eventBelowSpec) false w args) (Rows.eventBelowSpec.post enc Tryd.prog Tryd.f5 false true false false) := by
  refine returnsInHanded_of_change_and (C := Tryd.checked) (X := fun w _ => laidMetH Tryd.prog Rows.eventBelowRow.laid w) (fun _ _ _ hh h => h.of_heap hh) own started (by kernel_rfl) Tryd.func5
    (ChangeSpec.witness_shaped (enc := enc) (C := Tryd.checked) (os := os) (X := fun w _ => laidMetH Tryd.prog Rows.eventBelowRow.laid w) false (World.doorLaid Tryd.prog 400 os) #[.slice none 0 0, .agg #[.int .i64 0, .int .i64 0, .int .i64 0, .int .i64 0]] 8 rfl (World.shaped_of_RefB (by kernel_rfl) (by kernel_rfl)) (by kernel_rfl) (by kernel_rfl) (by kernel_rfl) (door_met os _)) ?_
  intro W base args ds gs before hval0 hW hcnd hsz0 hL _
  have hsz : (DataW.weightsEach Tryd.prog (Tryd.f5.params.toList ++ Rows.eventBelowSpec.plain.varTypes Tryd.prog) (ds ++ gs)).all (· ≤ reachBytes) = true := hsz0
  have hval : ∀ (j : Nat) t v, Tryd.f5.params[j]? = some t → args[j]? = some v → Value.okWide Tryd.prog W .any base t v := hval0
  have hW' := hW
  obtain ⟨p, q, hA0, hV, rfl, hfz, hnd⟩ := hW
  have hA : DataW.TrodAll enc Tryd.prog W 0 (fun _ => true) true Tryd.f5.params.toList args.toList ds p := hA0
  rw [Tryd.params5] at hA hval hsz
  obtain ⟨v0, vs0, d0, ds0, p0, q0, hargs, rfl, rfl, h0, r0⟩ := trodAll_cons hA
  obtain ⟨v1, vs1, d1, ds1, p1, q1, rfl, rfl, rfl, h1, r1⟩ := trodAll_cons r0
  obtain ⟨rfl, rfl, rfl⟩ := trodAll_nil r1
  obtain rfl : args = #[v0, v1] := by cases args; simp_all
  obtain ⟨rfl, rfl⟩ := trodVars_none hV
  have lt0 : ∀ x ∈ p0, x.block < W.heap.size := by obtain ⟨m, hm⟩ := h0; exact DataW.trod_lt m _ _ _ hm
  have n0 := param_weights hsz (j := 0) (t := 22) (d := d0) rfl rfl
  obtain ⟨x0, R0, F0⟩ := param_slice (g := fun xs : List Sp.Ev => G.sl (xs.map Sp.Ev.g)) Tryd.underlying22 o22 (fun _ => rfl) (hval 0 22 v0 rfl rfl) h0 n0
  have lt1 : ∀ x ∈ p1, x.block < W.heap.size := by obtain ⟨m, hm⟩ := h1; exact DataW.trod_lt m _ _ _ hm
  have n1 := param_weights hsz (j := 1) (t := 28) (d := d1) rfl rfl
  obtain ⟨x1, R1, F1⟩ := param_struct Tryd.underlying28 o28 (hval 1 28 v1 rfl rfl) h1 n1
  clear hA0 hval0 hsz0 hsz
  have hc : Fv Tryd.prog 5 [G.sl (x0.map Sp.Ev.g), .agg (Sp.Key.g x1)] (.bool true) := law25_EventBelow x0 x1
  have hR : ∀ (i : Nat) g v, [(G.sl (x0.map Sp.Ev.g) : G), (.agg (Sp.Key.g x1) : G)][i]? = some g → [v0, v1][i]? = some v → Rep C0 W g v := fun i g v hg hv => by
    rcases i with _ | i
    · cases hg; cases hv; exact R0
    rcases i with _ | i
    · cases hg; cases hv; exact R1
    cases hg
  refine (hc.calls (fixed_of hL) rfl hR).mono fun e W' ⟨he, bel⟩ => ?_
  subst he
  exact ⟨_, rfl, _, _, _, [], _, [], hW', trodAll_mk1 (shut_bool Tryd.underlying4 _), (trodAll_cons_mk (Below.trod laidOut (by kernel_rfl) (of_decide_eq_true (by kernel_rfl)) h0 bel lt0) (trodAll_cons_mk (Below.trod laidOut (by kernel_rfl) (of_decide_eq_true (by kernel_rfl)) h1 bel lt1) trodAll_mk0)), rfl, bel.frame _, fun h => by cases h⟩
theorem over : Rows.eventBelowRow.holds Tryd.pinned (OpenSpec.ofChange Rows.eventBelowSpec) :=
  OpenClaim.holds_of_wide 5 Tryd.f5 rfl rfl rfl rfl rfl rfl rfl ⟨rfl, rfl, rfl, rfl, rfl⟩ rfl rfl rfl rfl rfl (by kernel_rfl) Tryd.func5 (by kernel_rfl)
    (of_decide_eq_true (by kernel_rfl)) (by unfold Func.isWrapper; first | (rw [if_pos (by decide +kernel)]; kernel_rfl) | (rw [if_neg (by decide +kernel)]; exact ⟨rfl, rfl⟩))
    (fun os started H enc _ => lifted os started H enc)
theorem proved : Rows.EventBelowCardSaid :=
  Claim7.holds_tied_plain_at .later [] [.data, .data, .data] true (true, "724a1fa3efb8abbe81e4289b26c9a0ee158af96e1e610e2db3e5dd991a3e0826") true over (fun _ h => by cases h) (by kernel_rfl) (fun _ h => by cases h) eventBelow_row_tie rfl ⟨rfl, rfl⟩ (by kernel_rfl) rfl
    (fun f fn hf hfn => by
      obtain rfl : f = 5 := Option.some.inj ((show Tryd.prog.funcNamed "hourglass/hourglasslaw25.EventBelow" = some 5 by kernel_rfl).symm.trans hf) |>.symm
      obtain rfl : fn = Tryd.f5 := (Option.some.inj (Tryd.func5.symm.trans hfn)).symm
      exact ⟨by kernel_rfl, fun j t ht => by
        rw [Tryd.params5] at ht
        have hm : t ∈ [22, 28] := by simpa using Array.mem_of_getElem? ht
        have hall : ([22, 28].all fun u => !Tryd.prog.wantsStandIn u) = true := by kernel_rfl
        exact (show Tryd.prog.wantsStandIn t = false by simpa using List.all_eq_true.1 hall t hm)⟩)
    (by kernel_rfl)
#print axioms proved
end Go.Proofs.YtcihkmnolagdlaaDoor.eventBelow
namespace Go.Proofs.YtcihkmnolagdlaaDoor
/-- The row, under a short name, for the claim. -/
theorem eventBelow_holds : Rows.EventBelowCardSaid := eventBelow.proved
end Go.Proofs.YtcihkmnolagdlaaDoor
