/- HeaderFormats holds: whatever the arguments, the law answers true, and they read as they did. No condition. -/
import Derived.Test.YtijohhdgecadnaaDoorRows
import Derived.Test.YtijohhdgecadnaaDoorZHeaderFormats6
import Derived.Test.YtijohhdgecadnaaDoorTie
import Derived.Test.YtijohhdgecadnaaDoorCards
import Derived.Test.YtijohhdgecadnaaDoorZHeaderFormats4
import Derived.WalkKit
import Derived.ProofKit
import Derived.OpenShut
import Derived.ChangeOld
import Derived.Below
import Derived.SizedLaws
import Derived.HandedShaped
import Derived.Carry
import Derived.KernelRfl
import Derived.LaidMore
import Derived.MakeChecks
import Derived.Stop.LaidErr
import Derived.Lib.LaidTab
import Derived.SevenTiedAt
import Derived.Lib.ItoaNum
namespace Go.Proofs.YtijohhdgecadnaaDoor.headerFormats
open Go.ChangeShapes Go.WideShapes Go.ChangeAt Go.RowKit Go.Proofs.YtijohhdgecadnaaDoor.Av Go.Proofs.YtijohhdgecadnaaDoor.Sp Go.Proofs.YtijohhdgecadnaaDoor.Cn
set_option linter.unusedVariables false
theorem own : ownKnob Tryd.prog.godebug = none := by kernel_rfl
theorem laidOut : laidOutB Tryd.prog = true := by kernel_rfl
set_option maxRecDepth 100000
def fa3 (x : Int) : Prop := (Lit.int .i64 x).wf = true
theorem o3 : Opens Tryd.prog 3 (fun x : Int => [G.int .i64 x]) 1 fa3 :=
  opens_int Tryd.underlying3 (by kernel_rfl)
def fa9 (x : ByteArray) : Prop := x.size ≤ 140737488351232
theorem o9 : Opens Tryd.prog 9 (fun x : ByteArray => [G.str x]) 1 fa9 :=
  opens_string Tryd.underlying9 (by kernel_rfl)
def fa23 (x : Sp.Trl) : Prop := fa3 x.code ∧ fa9 x.msg ∧ fa3 x.push
theorem o23 : Opens Tryd.prog 23 Sp.Trl.g 3 fa23 :=
  (opens_iso (fun x : Sp.Trl => (x.code, x.msg, x.push)) (fun x => (⟨x.1, x.2.1, x.2.2⟩ : Sp.Trl)) (fun _ => rfl) (opens_struct Tryd.underlying23 (by kernel_rfl) (fs_cons rfl rfl o3 (fs_cons rfl rfl o9 (fs_one rfl o3)))) (fun _ => rfl)).imp (fun x h => h)
theorem cell_lt {w : World} {g : Nat} {v : Value} (h : w.cell? ⟨g, 0, none⟩ = some v) : g < w.heap.size := by
  unfold World.cell? at h
  cases hw : w.heap[g]? with
  | none => simp only [hw] at h; cases h
  | some o => exact (Array.getElem?_eq_some_iff.1 hw).1
theorem door_met (os : Os) (args : Array Value) : laidMetH Tryd.prog Rows.headerFormatsRow.laid ((World.doorLaid Tryd.prog 400 os).forCall (fun _ _ => 0) ⟨#[], args, []⟩).memory :=
  laidMetH_of_parts3 (fuel := 8) (laidMet_of_run' 8 (by kernel_rfl) (by kernel_rfl)) (by kernel_rfl) (by kernel_rfl)
theorem laidTab {H : Type} : (Rows.laid_internal_strconv_uint64pow10 : DataW H) = Lib.tabData .u64 Lib.pow10Tab := rfl
theorem fixed_of {W : World} (h : laidMetH Tryd.prog Rows.headerFormatsRow.laid W) (hshp : W.ShapedOpen Tryd.prog) : Fixed W C0.ex := by
  rw [MakeChecks.laidMetH_plain _ _ _ (by kernel_rfl)] at h
  have h1 := h.tail.tail
  have ht : Lib.TabIs Tryd.prog W "internal/strconv.uint64pow10" .u64 Lib.pow10Tab := Lib.tabIs_of_head (g := 1) (t := 77) (e := 71) (n := 20) (by kernel_rfl) (by kernel_rfl) (by kernel_rfl) (by kernel_rfl) (by kernel_rfl) (by kernel_rfl) h1
  unfold Lib.TabIs World.var? at ht
  rw [show Tryd.prog.globalNamed "internal/strconv.uint64pow10" = some 1 from by kernel_rfl] at ht
  simp only [Option.bind_some] at ht
  split at ht
  · rename_i cs T fz hw
    obtain rfl := Option.some.inj ht
    refine ⟨fun p hp => ?_, fun g hg => by obtain rfl := List.mem_singleton.1 hg; obtain ⟨m, hm⟩ := Tryd.laysM145.s1_3 _ hshp; exact ⟨cell_lt (g := 0) hm, fun h => h, m, hm⟩⟩
    obtain rfl := List.mem_singleton.1 hp
    exact ⟨(Array.getElem?_eq_some_iff.1 hw).1, fun hx => hx.elim, T, fz, hw⟩
  · cases ht
theorem lifted (os : Os) (started : os.Started) (H : Type) (enc : TypeId × Value → H) :
    ReturnsInHanded {} Tryd.checked os 3 .any (fun w args => (Rows.headerFormatsSpec.pre enc Tryd.prog Tryd.f3 [] false w args ∧ laidMetH Tryd.prog Rows.headerFormatsRow.laid w) ∧ sizedMet enc Tryd.prog Tryd.f3 (OpenSpec.ofChange Rows.headerFormatsSpec) false w args) (Rows.headerFormatsSpec.post enc Tryd.prog Tryd.f3 false true false false) := by
  refine returnsInHanded_of_calls (C := Tryd.checked) own started (by kernel_rfl)
    (ChangeSpec.witness_shaped (enc := enc) (C := Tryd.checked) (os := os) (X := fun w _ => laidMetH Tryd.prog Rows.headerFormatsRow.laid w) false (World.doorLaid Tryd.prog 400 os) #[.agg #[.int .i64 0, .string ByteArray.empty, .int .i64 0]] 8 rfl (World.shaped_of_RefB (by kernel_rfl) (by kernel_rfl)) (by kernel_rfl) (by kernel_rfl) (by kernel_rfl) (door_met os _)) ?_
  intro w0 tape i _ hshp _ hok hpre _
  obtain ⟨_, _, _, fn', hfn', _, _, _, _, hval0⟩ := hok
  obtain rfl : fn' = Tryd.f3 := Option.some.inj (hfn'.symm.trans Tryd.func3)
  obtain ⟨⟨⟨ds, gs, before, hw0, hcnd⟩, hx⟩, hz⟩ := hpre
  have hW := DataW.Whole.of_heap (w' := w0.forCall tape i) (by rfl) hw0
  have hsz0 := hz.weights hw0
  have hL : laidMetH Tryd.prog Rows.headerFormatsRow.laid (w0.forCall tape i) := hx.of_heap (by rfl)
  refine Calls.mono (R := fun e W' => ∃ v, e = .returned v ∧ Rows.headerFormatsSpec.post enc Tryd.prog Tryd.f3 false true false false (w0.forCall tape i) i.args v W') ?_ (fun e W' ⟨v, he, hp⟩ => by subst he; exact ChangeSpec.post_blind hp)
  clear hx hw0
  revert hval0 hW hL hshp
  generalize w0.forCall tape i = W
  generalize i.args = args
  generalize w0.heap.size = base
  intro hshp hval0 hW hL
  have hsz : (DataW.weightsEach Tryd.prog (Tryd.f3.params.toList ++ Rows.headerFormatsSpec.plain.varTypes Tryd.prog) (ds ++ gs)).all (· ≤ reachBytes) = true := hsz0
  have hval : ∀ (j : Nat) t v, Tryd.f3.params[j]? = some t → args[j]? = some v → Value.okWide Tryd.prog W .any base t v := hval0
  have hW' := hW
  obtain ⟨p, q, hA0, hV, rfl, hfz, hnd⟩ := hW
  have hA : DataW.TrodAll enc Tryd.prog W 0 (fun _ => true) true Tryd.f3.params.toList args.toList ds p := hA0
  rw [Tryd.params3] at hA hval hsz
  obtain ⟨v0, vs0, d0, ds0, p0, q0, hargs, rfl, rfl, h0, r0⟩ := trodAll_cons hA
  obtain ⟨rfl, rfl, rfl⟩ := trodAll_nil r0
  obtain rfl : args = #[v0] := by cases args; simp_all
  obtain ⟨rfl, rfl⟩ := trodVars_none hV
  have lt0 : ∀ x ∈ p0, x.block < W.heap.size := by obtain ⟨m, hm⟩ := h0; exact DataW.trod_lt m _ _ _ hm
  have n0 := param_weights hsz (j := 0) (t := 23) (d := d0) rfl rfl
  obtain ⟨x0, R0, F0⟩ := param_struct Tryd.underlying23 o23 (hval 0 23 v0 rfl rfl) h0 n0
  clear hA0 hval0 hsz0 hsz
  have hc : Fv Tryd.prog 3 [.agg (Sp.Trl.g x0)] (.bool true) := law37_HeaderFormats x0
  have hR : ∀ (i : Nat) g v, [(.agg (Sp.Trl.g x0) : G)][i]? = some g → [v0][i]? = some v → Rep C0 W g v := fun i g v hg hv => by
    rcases i with _ | i
    · cases hg; cases hv; exact R0
    cases hg
  refine (hc.calls (fixed_of hL hshp) rfl hR).mono fun e W' ⟨he, bel⟩ => ?_
  subst he
  exact ⟨_, rfl, _, _, _, [], _, [], hW', trodAll_mk1 (shut_bool Tryd.underlying4 _), (trodAll_cons_mk (Below.trod laidOut (by kernel_rfl) (of_decide_eq_true (by kernel_rfl)) h0 bel lt0) trodAll_mk0), rfl, bel.frame _, fun h => by cases h⟩
theorem over : Rows.headerFormatsRow.holds Tryd.pinned (OpenSpec.ofChange Rows.headerFormatsSpec) :=
  OpenClaim.holds_of_wide 3 Tryd.f3 rfl rfl rfl rfl rfl rfl rfl ⟨rfl, rfl, rfl, rfl, rfl⟩ rfl rfl rfl rfl rfl (by kernel_rfl) Tryd.func3 (by kernel_rfl)
    (of_decide_eq_true (by kernel_rfl)) (by unfold Func.isWrapper; first | (rw [if_pos (by decide +kernel)]; kernel_rfl) | (rw [if_neg (by decide +kernel)]; exact ⟨rfl, rfl⟩))
    (fun os started H enc _ => lifted os started H enc)
theorem proved : Rows.HeaderFormatsCardSaid :=
  Claim7.holds_tied_plain_at .later [] [.data, .data, .data] true (true, "0629a3f64f58aea4277f4518b3dcde008045bc9bc2d62b3dc9dc7b85ced67a4c") false over (fun _ h => by cases h) (by kernel_rfl) (fun _ h => by cases h) headerFormats_row_tie rfl ⟨rfl, rfl⟩ (by kernel_rfl) rfl
    (fun f fn hf hfn => by
      obtain rfl : f = 3 := Option.some.inj ((show Tryd.prog.funcNamed "hourglass/hourglasslaw37.HeaderFormats" = some 3 by kernel_rfl).symm.trans hf) |>.symm
      obtain rfl : fn = Tryd.f3 := (Option.some.inj (Tryd.func3.symm.trans hfn)).symm
      exact ⟨by kernel_rfl, fun j t ht => by
        rw [Tryd.params3] at ht
        have hm : t ∈ [23] := by simpa using Array.mem_of_getElem? ht
        have hall : ([23].all fun u => !Tryd.prog.wantsStandIn u) = true := by kernel_rfl
        exact (show Tryd.prog.wantsStandIn t = false by simpa using List.all_eq_true.1 hall t hm)⟩)
    (by kernel_rfl)
#print axioms proved
end Go.Proofs.YtijohhdgecadnaaDoor.headerFormats
namespace Go.Proofs.YtijohhdgecadnaaDoor
/-- The row, under a short name, for the claim. -/
theorem headerFormats_holds : Rows.HeaderFormatsCardSaid := headerFormats.proved
end Go.Proofs.YtijohhdgecadnaaDoor
