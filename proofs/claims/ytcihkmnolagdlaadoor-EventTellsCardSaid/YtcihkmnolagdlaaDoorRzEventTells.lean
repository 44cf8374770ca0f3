/- EventTells holds: whatever the arguments, the law answers true, and they read as they did. No condition. -/
import Derived.Test.YtcihkmnolagdlaaDoorRows
import Derived.Test.YtcihkmnolagdlaaDoorZEventTells5
import Derived.Test.YtcihkmnolagdlaaDoorTie
import Derived.Test.YtcihkmnolagdlaaDoorCards
import Derived.Test.YtcihkmnolagdlaaDoorZEventTells6
import Derived.Test.YtcihkmnolagdlaaDoorZEventTells4
import Derived.WalkKit
import Derived.ProofKit
import Derived.OpenShut
import Derived.ChangeOld
import Derived.Below
import Derived.SizedLaws
import Derived.Carry
import Derived.KernelRfl
import Derived.LaidMore
import Derived.MakeChecks
import Derived.Stop.LaidErr
import Derived.Lib.LaidTab
import Derived.SevenTiedAt
import Derived.Lib.ItoaNum
namespace Go.Proofs.YtcihkmnolagdlaaDoor.eventTells
open Go.ChangeShapes Go.WideShapes Go.ChangeAt Go.RowKit Go.Proofs.YtcihkmnolagdlaaDoor.Av Go.Proofs.YtcihkmnolagdlaaDoor.Sp Go.Proofs.YtcihkmnolagdlaaDoor.Cn
set_option linter.unusedVariables false
theorem own : ownKnob Tryd.prog.godebug = none := by kernel_rfl
theorem laidOut : laidOutB Tryd.prog = true := by kernel_rfl
set_option maxRecDepth 100000
def fa3 (x : Int) : Prop := (Lit.int .i64 x).wf = true
theorem o3 : Opens Tryd.prog 3 (fun x : Int => [G.int .i64 x]) 1 fa3 :=
  opens_int Tryd.underlying3 (by kernel_rfl)
def fa26 (x : Sp.Id) : Prop := fa3 x.node ∧ fa3 x.inc ∧ fa3 x.seq
theorem o26 : Opens Tryd.prog 26 Sp.Id.g 3 fa26 :=
  (opens_iso (fun x : Sp.Id => (x.node, x.inc, x.seq)) (fun x => (⟨x.1, x.2.1, x.2.2⟩ : Sp.Id)) (fun _ => rfl) (opens_struct Tryd.underlying26 (by kernel_rfl) (fs_cons rfl rfl o3 (fs_cons rfl rfl o3 (fs_one rfl o3)))) (fun _ => rfl)).imp (fun x h => h)
def fa28 (x : Sp.Key) : Prop := fa26 x.id ∧ fa3 x.att
theorem o28 : Opens Tryd.prog 28 Sp.Key.g 4 fa28 :=
  (opens_iso (fun x : Sp.Key => (x.id, x.att)) (fun x => (⟨x.1, x.2⟩ : Sp.Key)) (fun _ => rfl) (opens_struct Tryd.underlying28 (by kernel_rfl) (fs_cons rfl rfl o26 (fs_one rfl o3))) (fun _ => rfl)).imp (fun x h => h)
def fa30 (x : Sp.Ev) : Prop := fa3 x.kind ∧ fa3 x.real ∧ fa3 x.node ∧ fa3 x.loc ∧ fa28 x.key ∧ fa28 x.parent ∧ fa26 x.root ∧ fa3 x.hop ∧ fa3 x.code ∧ fa3 x.value
theorem o30 : Opens Tryd.prog 30 Sp.Ev.g 18 fa30 :=
  (opens_iso (fun x : Sp.Ev => (x.kind, x.real, x.node, x.loc, x.key, x.parent, x.root, x.hop, x.code, x.value)) (fun x => (⟨x.1, x.2.1, x.2.2.1, x.2.2.2.1, x.2.2.2.2.1, x.2.2.2.2.2.1, x.2.2.2.2.2.2.1, x.2.2.2.2.2.2.2.1, x.2.2.2.2.2.2.2.2.1, x.2.2.2.2.2.2.2.2.2⟩ : Sp.Ev)) (fun _ => rfl) (opens_struct Tryd.underlying30 (by kernel_rfl) (fs_cons rfl rfl o3 (fs_cons rfl rfl o3 (fs_cons rfl rfl o3 (fs_cons rfl rfl o3 (fs_cons rfl rfl o28 (fs_cons rfl rfl o28 (fs_cons rfl rfl o26 (fs_cons rfl rfl o3 (fs_cons rfl rfl o3 (fs_one rfl o3))))))))))) (fun _ => rfl)).imp (fun x h => h)
def fa22 (x : List Sp.Ev) : Prop := (∀ y ∈ x, fa30 y) ∧ x.length * 144 ≤ 140737488351232
theorem o22 : Opens Tryd.prog 22 (fun xs : List Sp.Ev => [G.sl (xs.map Sp.Ev.g)]) 1 fa22 :=
  (opens_slice Tryd.underlying22 (by kernel_rfl) o30).imp (fun x h => ⟨h.1, by have h2 := h.2; rw [show Tryd.prog.bytesOf 30 = 144 from by kernel_rfl] at h2; exact h2⟩)
theorem door_met (os : Os) (args : Array Value) : laidMetH Tryd.prog Rows.eventTellsRow.laid ((World.doorLaid Tryd.prog 400 os).forCall (fun _ _ => 0) ⟨#[], args, []⟩).memory :=
  laidMetH_of_parts3 (fuel := 8) (laidMet_of_run' 8 (by kernel_rfl) (by kernel_rfl)) (by kernel_rfl) (by kernel_rfl)
theorem laidTab {H : Type} : (Rows.laid_internal_strconv_uint64pow10 : DataW H) = Lib.tabData .u64 Lib.pow10Tab := rfl
theorem fixed_of {W : World} (h : laidMetH Tryd.prog Rows.eventTellsRow.laid W) : Fixed W C0.ex := by
  rw [MakeChecks.laidMetH_plain _ _ _ (by kernel_rfl)] at h
  have h1 := h.tail.tail
  have ht : Lib.TabIs Tryd.prog W "internal/strconv.uint64pow10" .u64 Lib.pow10Tab := Lib.tabIs_of_head (g := 1) (t := 135) (e := 128) (n := 20) (by kernel_rfl) (by kernel_rfl) (by kernel_rfl) (by kernel_rfl) (by kernel_rfl) (by kernel_rfl) h1
  unfold Lib.TabIs World.var? at ht
  rw [show Tryd.prog.globalNamed "internal/strconv.uint64pow10" = some 1 from by kernel_rfl] at ht
  simp only [Option.bind_some] at ht
  split at ht
  · rename_i cs T fz hw
    obtain rfl := Option.some.inj ht
    intro p hp
    obtain rfl := List.mem_singleton.1 hp
    exact ⟨(Array.getElem?_eq_some_iff.1 hw).1, fun hx => hx.elim, T, fz, hw⟩
  · cases ht
theorem lifted (os : Os) (started : os.Started) (H : Type) (enc : TypeId × Value → H) :
    ReturnsInHanded {} Tryd.checked os 6 .any (fun w args => (Rows.eventTellsSpec.pre enc Tryd.prog Tryd.f6 [] false w args ∧ laidMetH Tryd.prog Rows.eventTellsRow.laid w) ∧ sizedMet enc Tryd.prog Tryd.f6 (OpenSpec.ofChange Rows.eventTellsSpec) false w args) (Rows.eventTellsSpec.post enc Tryd.prog Tryd.f6 false true false false) := by
  refine returnsInHanded_of_change_and (C := Tryd.checked) (X := fun w _ => laidMetH Tryd.prog Rows.eventTellsRow.laid w) (fun _ _ _ hh h => h.of_heap hh) own started (by kernel_rfl) Tryd.func6
    (ChangeSpec.witness_shaped (enc := enc) (C := Tryd.checked) (os := os) (X := fun w _ => laidMetH Tryd.prog Rows.eventTellsRow.laid w) false (World.doorLaid Tryd.prog 400 os) #[.slice none 0 0, .int .i64 0, .agg #[.int .i64 0, .int .i64 0, .int .i64 0, .int .i64 0]] 8 rfl (World.shaped_of_RefB (by kernel_rfl) (by kernel_rfl)) (by kernel_rfl) (by kernel_rfl) (by kernel_rfl) (door_met os _)) ?_
  intro W base args ds gs before hval0 hW hcnd hsz0 hL _
  have hsz : (DataW.weightsEach Tryd.prog (Tryd.f6.params.toList ++ Rows.eventTellsSpec.plain.varTypes Tryd.prog) (ds ++ gs)).all (· ≤ reachBytes) = true := hsz0
  have hval : ∀ (j : Nat) t v, Tryd.f6.params[j]? = some t → args[j]? = some v → Value.okWide Tryd.prog W .any base t v := hval0
  have hW' := hW
  obtain ⟨p, q, hA0, hV, rfl, hfz, hnd⟩ := hW
  have hA : DataW.TrodAll enc Tryd.prog W 0 (fun _ => true) true Tryd.f6.params.toList args.toList ds p := hA0
  rw [Tryd.params6] at hA hval hsz
  obtain ⟨v0, vs0, d0, ds0, p0, q0, hargs, rfl, rfl, h0, r0⟩ := trodAll_cons hA
  obtain ⟨v1, vs1, d1, ds1, p1, q1, rfl, rfl, rfl, h1, r1⟩ := trodAll_cons r0
  obtain ⟨v2, vs2, d2, ds2, p2, q2, rfl, rfl, rfl, h2, r2⟩ := trodAll_cons r1
  obtain ⟨rfl, rfl, rfl⟩ := trodAll_nil r2
  obtain rfl : args = #[v0, v1, v2] := by cases args; simp_all
  obtain ⟨rfl, rfl⟩ := trodVars_none hV
  have lt0 : ∀ x ∈ p0, x.block < W.heap.size := by obtain ⟨m, hm⟩ := h0; exact DataW.trod_lt m _ _ _ hm
  have n0 := param_weights hsz (j := 0) (t := 22) (d := d0) rfl rfl
  obtain ⟨x0, R0, F0⟩ := param_slice (g := fun xs : List Sp.Ev => G.sl (xs.map Sp.Ev.g)) Tryd.underlying22 o22 (fun _ => rfl) (hval 0 22 v0 rfl rfl) h0 n0
  have lt1 : ∀ x ∈ p1, x.block < W.heap.size := by obtain ⟨m, hm⟩ := h1; exact DataW.trod_lt m _ _ _ hm
  have n1 := param_weights hsz (j := 1) (t := 3) (d := d1) rfl rfl
  obtain ⟨x1, R1, F1⟩ := param_int (g := fun x : Int => G.int .i64 x) Tryd.underlying3 o3 (fun _ => rfl) (hval 1 3 v1 rfl rfl) h1 n1
  have lt2 : ∀ x ∈ p2, x.block < W.heap.size := by obtain ⟨m, hm⟩ := h2; exact DataW.trod_lt m _ _ _ hm
  have n2 := param_weights hsz (j := 2) (t := 28) (d := d2) rfl rfl
  obtain ⟨x2, R2, F2⟩ := param_struct Tryd.underlying28 o28 (hval 2 28 v2 rfl rfl) h2 n2
  clear hA0 hval0 hsz0 hsz
  have hc : Fv Tryd.prog 6 [G.sl (x0.map Sp.Ev.g), G.int .i64 x1, .agg (Sp.Key.g x2)] (.bool true) := law25_EventTells x0 x1 x2 (ok_wf x0 F0.1)
  have hR : ∀ (i : Nat) g v, [(G.sl (x0.map Sp.Ev.g) : G), (G.int .i64 x1 : G), (.agg (Sp.Key.g x2) : G)][i]? = some g → [v0, v1, v2][i]? = some v → Rep C0 W g v := fun i g v hg hv => by
    rcases i with _ | i
    · cases hg; cases hv; exact R0
    rcases i with _ | i
    · cases hg; cases hv; exact R1
    rcases i with _ | i
    · cases hg; cases hv; exact R2
    cases hg
  refine (hc.calls (fixed_of hL) rfl hR).mono fun e W' ⟨he, bel⟩ => ?_
  subst he
  exact ⟨_, rfl, _, _, _, [], _, [], hW', trodAll_mk1 (shut_bool Tryd.underlying4 _), (trodAll_cons_mk (Below.trod laidOut (by kernel_rfl) (of_decide_eq_true (by kernel_rfl)) h0 bel lt0) (trodAll_cons_mk (Below.trod laidOut (by kernel_rfl) (of_decide_eq_true (by kernel_rfl)) h1 bel lt1) (trodAll_cons_mk (Below.trod laidOut (by kernel_rfl) (of_decide_eq_true (by kernel_rfl)) h2 bel lt2) trodAll_mk0))), rfl, bel.frame _, fun h => by cases h⟩
theorem over : Rows.eventTellsRow.holds Tryd.pinned (OpenSpec.ofChange Rows.eventTellsSpec) :=
  OpenClaim.holds_of_wide 6 Tryd.f6 rfl rfl rfl rfl rfl rfl rfl ⟨rfl, rfl, rfl, rfl, rfl⟩ rfl rfl rfl rfl rfl (by kernel_rfl) Tryd.func6 (by kernel_rfl)
    (of_decide_eq_true (by kernel_rfl)) (by unfold Func.isWrapper; first | (rw [if_pos (by decide +kernel)]; kernel_rfl) | (rw [if_neg (by decide +kernel)]; exact ⟨rfl, rfl⟩))
    (fun os started H enc _ => lifted os started H enc)
theorem proved : Rows.EventTellsCardSaid :=
  Claim7.holds_tied_plain_at .later [] [.data, .data, .data] true (true, "724a1fa3efb8abbe81e4289b26c9a0ee158af96e1e610e2db3e5dd991a3e0826") true over (fun _ h => by cases h) (by kernel_rfl) (fun _ h => by cases h) eventTells_row_tie rfl ⟨rfl, rfl⟩ (by kernel_rfl) rfl
    (fun f fn hf hfn => by
      obtain rfl : f = 6 := Option.some.inj ((show Tryd.prog.funcNamed "hourglass/hourglasslaw25.EventTells" = some 6 by kernel_rfl).symm.trans hf) |>.symm
      obtain rfl : fn = Tryd.f6 := (Option.some.inj (Tryd.func6.symm.trans hfn)).symm
      exact ⟨by kernel_rfl, fun j t ht => by
        rw [Tryd.params6] at ht
        have hm : t ∈ [22, 3, 28] := by simpa using Array.mem_of_getElem? ht
        have hall : ([22, 3, 28].all fun u => !Tryd.prog.wantsStandIn u) = true := by kernel_rfl
        exact (show Tryd.prog.wantsStandIn t = false by simpa using List.all_eq_true.1 hall t hm)⟩)
    (by kernel_rfl)
#print axioms proved
end Go.Proofs.YtcihkmnolagdlaaDoor.eventTells
namespace Go.Proofs.YtcihkmnolagdlaaDoor
/-- The row, under a short name, for the claim. -/
theorem eventTells_holds : Rows.EventTellsCardSaid := eventTells.proved
end Go.Proofs.YtcihkmnolagdlaaDoor
