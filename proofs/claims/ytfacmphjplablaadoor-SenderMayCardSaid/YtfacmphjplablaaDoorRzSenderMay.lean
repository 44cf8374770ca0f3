/- SenderMay holds: whatever the arguments, the law answers true, and they read as they did. No condition. -/
import Derived.Test.YtfacmphjplablaaDoorRows
import Derived.Test.YtfacmphjplablaaDoorZSenderMay6
import Derived.Test.YtfacmphjplablaaDoorTie
import Derived.Test.YtfacmphjplablaaDoorCards
import Derived.Test.YtfacmphjplablaaDoorZSenderMay3
import Derived.WalkKit
import Derived.ProofKit
import Derived.OpenShut
import Derived.ChangeOld
import Derived.Below
import Derived.SizedLaws
import Derived.Carry
import Derived.KernelRfl
import Derived.LaidMore
import Derived.MakeChecks
import Derived.Stop.LaidErr
import Derived.Lib.LaidTab
import Derived.SevenTiedAt
import Derived.Lib.ItoaNum
namespace Go.Proofs.YtfacmphjplablaaDoor.senderMay
open Go.ChangeShapes Go.WideShapes Go.ChangeAt Go.RowKit Go.Proofs.YtfacmphjplablaaDoor.Av Go.Proofs.YtfacmphjplablaaDoor.Sp Go.Proofs.YtfacmphjplablaaDoor.Cn
set_option linter.unusedVariables false
theorem own : ownKnob Tryd.prog.godebug = none := by kernel_rfl
theorem laidOut : laidOutB Tryd.prog = true := by kernel_rfl
set_option maxRecDepth 100000
def fa3 (x : Int) : Prop := (Lit.int .i64 x).wf = true
theorem o3 : Opens Tryd.prog 3 (fun x : Int => [G.int .i64 x]) 1 fa3 :=
  opens_int Tryd.underlying3 (by kernel_rfl)
def fa180 (x : Sp.Pop) : Prop := fa3 x.kind ∧ fa3 x.a ∧ fa3 x.b
theorem o180 : Opens Tryd.prog 180 Sp.Pop.g 3 fa180 :=
  (opens_iso (fun x : Sp.Pop => (x.kind, x.a, x.b)) (fun x => (⟨x.1, x.2.1, x.2.2⟩ : Sp.Pop)) (fun _ => rfl) (opens_struct Tryd.underlying180 (by kernel_rfl) (fs_cons rfl rfl o3 (fs_cons rfl rfl o3 (fs_one rfl o3)))) (fun _ => rfl)).imp (fun x h => h)
def fa177 (x : List Sp.Pop) : Prop := (∀ y ∈ x, fa180 y) ∧ x.length * 24 ≤ 140737488351232
theorem o177 : Opens Tryd.prog 177 (fun xs : List Sp.Pop => [G.sl (xs.map Sp.Pop.g)]) 1 fa177 :=
  (opens_slice Tryd.underlying177 (by kernel_rfl) o180).imp (fun x h => ⟨h.1, by have h2 := h.2; rw [show Tryd.prog.bytesOf 180 = 24 from by kernel_rfl] at h2; exact h2⟩)
def fa22 (x : List (List Sp.Pop)) : Prop := (∀ y ∈ x, fa177 y) ∧ x.length * 24 ≤ 140737488351232
theorem o22 : Opens Tryd.prog 22 (fun xs : List (List Sp.Pop) => [G.sl (xs.map (fun xs : List Sp.Pop => [G.sl (xs.map Sp.Pop.g)]))]) 1 fa22 :=
  (opens_slice Tryd.underlying22 (by kernel_rfl) o177).imp (fun x h => ⟨h.1, by have h2 := h.2; rw [show Tryd.prog.bytesOf 177 = 24 from by kernel_rfl] at h2; exact h2⟩)
def fa24 (x : Sp.Config) : Prop := fa3 x.nodes ∧ fa3 x.skew ∧ fa3 x.lease ∧ fa3 x.grain ∧ fa3 x.least ∧ fa3 x.hops ∧ fa3 x.cap ∧ fa3 x.fan ∧ fa3 x.attempts ∧ fa3 x.base ∧ fa3 x.most ∧ fa3 x.wait ∧ fa3 x.tokens ∧ fa22 x.programs
theorem o24 : Opens Tryd.prog 24 Sp.Config.g 14 fa24 :=
  (opens_iso (fun x : Sp.Config => (x.nodes, x.skew, x.lease, x.grain, x.least, x.hops, x.cap, x.fan, x.attempts, x.base, x.most, x.wait, x.tokens, x.programs)) (fun x => (⟨x.1, x.2.1, x.2.2.1, x.2.2.2.1, x.2.2.2.2.1, x.2.2.2.2.2.1, x.2.2.2.2.2.2.1, x.2.2.2.2.2.2.2.1, x.2.2.2.2.2.2.2.2.1, x.2.2.2.2.2.2.2.2.2.1, x.2.2.2.2.2.2.2.2.2.2.1, x.2.2.2.2.2.2.2.2.2.2.2.1, x.2.2.2.2.2.2.2.2.2.2.2.2.1, x.2.2.2.2.2.2.2.2.2.2.2.2.2⟩ : Sp.Config)) (fun _ => rfl) (opens_struct Tryd.underlying24 (by kernel_rfl) (fs_cons rfl rfl o3 (fs_cons rfl rfl o3 (fs_cons rfl rfl o3 (fs_cons rfl rfl o3 (fs_cons rfl rfl o3 (fs_cons rfl rfl o3 (fs_cons rfl rfl o3 (fs_cons rfl rfl o3 (fs_cons rfl rfl o3 (fs_cons rfl rfl o3 (fs_cons rfl rfl o3 (fs_cons rfl rfl o3 (fs_cons rfl rfl o3 (fs_one rfl o22))))))))))))))) (fun _ => rfl)).imp (fun x h => h)
def fa26 (x : Sp.Id) : Prop := fa3 x.node ∧ fa3 x.inc ∧ fa3 x.seq
theorem o26 : Opens Tryd.prog 26 Sp.Id.g 3 fa26 :=
  (opens_iso (fun x : Sp.Id => (x.node, x.inc, x.seq)) (fun x => (⟨x.1, x.2.1, x.2.2⟩ : Sp.Id)) (fun _ => rfl) (opens_struct Tryd.underlying26 (by kernel_rfl) (fs_cons rfl rfl o3 (fs_cons rfl rfl o3 (fs_one rfl o3)))) (fun _ => rfl)).imp (fun x h => h)
def fa28 (x : Sp.Key) : Prop := fa26 x.id ∧ fa3 x.att
theorem o28 : Opens Tryd.prog 28 Sp.Key.g 4 fa28 :=
  (opens_iso (fun x : Sp.Key => (x.id, x.att)) (fun x => (⟨x.1, x.2⟩ : Sp.Key)) (fun _ => rfl) (opens_struct Tryd.underlying28 (by kernel_rfl) (fs_cons rfl rfl o26 (fs_one rfl o3))) (fun _ => rfl)).imp (fun x h => h)
def fa4 (x : Bool) : Prop := True
theorem o4 : Opens Tryd.prog 4 (fun x : Bool => [G.bool x]) 1 fa4 :=
  opens_bool Tryd.underlying4 (by kernel_rfl)
def fa33 (x : Sp.Call) : Prop := fa26 x.id ∧ fa3 x.to ∧ fa3 x.program ∧ fa3 x.att ∧ fa3 x.state ∧ fa3 x.sent ∧ fa3 x.ready ∧ fa4 x.committed ∧ fa3 x.code ∧ fa3 x.value ∧ fa3 x.tries
theorem o33 : Opens Tryd.prog 33 Sp.Call.g 13 fa33 :=
  (opens_iso (fun x : Sp.Call => (x.id, x.to, x.program, x.att, x.state, x.sent, x.ready, x.committed, x.code, x.value, x.tries)) (fun x => (⟨x.1, x.2.1, x.2.2.1, x.2.2.2.1, x.2.2.2.2.1, x.2.2.2.2.2.1, x.2.2.2.2.2.2.1, x.2.2.2.2.2.2.2.1, x.2.2.2.2.2.2.2.2.1, x.2.2.2.2.2.2.2.2.2.1, x.2.2.2.2.2.2.2.2.2.2⟩ : Sp.Call)) (fun _ => rfl) (opens_struct Tryd.underlying33 (by kernel_rfl) (fs_cons rfl rfl o26 (fs_cons rfl rfl o3 (fs_cons rfl rfl o3 (fs_cons rfl rfl o3 (fs_cons rfl rfl o3 (fs_cons rfl rfl o3 (fs_cons rfl rfl o3 (fs_cons rfl rfl o4 (fs_cons rfl rfl o3 (fs_cons rfl rfl o3 (fs_one rfl o3)))))))))))) (fun _ => rfl)).imp (fun x h => h)
def fa29 (x : List Sp.Call) : Prop := (∀ y ∈ x, fa33 y) ∧ x.length * 104 ≤ 140737488351232
theorem o29 : Opens Tryd.prog 29 (fun xs : List Sp.Call => [G.sl (xs.map Sp.Call.g)]) 1 fa29 :=
  (opens_slice Tryd.underlying29 (by kernel_rfl) o33).imp (fun x h => ⟨h.1, by have h2 := h.2; rw [show Tryd.prog.bytesOf 33 = 104 from by kernel_rfl] at h2; exact h2⟩)
def fa31 (x : Sp.Owner) : Prop := fa28 x.key ∧ fa26 x.root ∧ fa28 x.parent ∧ fa3 x.from ∧ fa3 x.hop ∧ fa3 x.deadline ∧ fa3 x.until ∧ fa3 x.program ∧ fa3 x.pc ∧ fa3 x.done ∧ fa29 x.calls
theorem o31 : Opens Tryd.prog 31 Sp.Owner.g 19 fa31 :=
  (opens_iso (fun x : Sp.Owner => (x.key, x.root, x.parent, x.from, x.hop, x.deadline, x.until, x.program, x.pc, x.done, x.calls)) (fun x => (⟨x.1, x.2.1, x.2.2.1, x.2.2.2.1, x.2.2.2.2.1, x.2.2.2.2.2.1, x.2.2.2.2.2.2.1, x.2.2.2.2.2.2.2.1, x.2.2.2.2.2.2.2.2.1, x.2.2.2.2.2.2.2.2.2.1, x.2.2.2.2.2.2.2.2.2.2⟩ : Sp.Owner)) (fun _ => rfl) (opens_struct Tryd.underlying31 (by kernel_rfl) (fs_cons rfl rfl o28 (fs_cons rfl rfl o26 (fs_cons rfl rfl o28 (fs_cons rfl rfl o3 (fs_cons rfl rfl o3 (fs_cons rfl rfl o3 (fs_cons rfl rfl o3 (fs_cons rfl rfl o3 (fs_cons rfl rfl o3 (fs_cons rfl rfl o3 (fs_one rfl o29)))))))))))) (fun _ => rfl)).imp (fun x h => h)
theorem door_met (os : Os) (args : Array Value) : laidMetH Tryd.prog Rows.senderMayRow.laid ((World.doorLaid Tryd.prog 400 os).forCall (fun _ _ => 0) ⟨#[], args, []⟩).memory :=
  laidMetH_of_parts3 (fuel := 8) (laidMet_of_run' 8 (by kernel_rfl) (by kernel_rfl)) (by kernel_rfl) (by kernel_rfl)
theorem laidTab {H : Type} : (Rows.laid_internal_strconv_uint64pow10 : DataW H) = Lib.tabData .u64 Lib.pow10Tab := rfl
theorem fixed_of {W : World} (h : laidMetH Tryd.prog Rows.senderMayRow.laid W) : Fixed W C0.ex := by
  rw [MakeChecks.laidMetH_plain _ _ _ (by kernel_rfl)] at h
  have h1 := h.tail.tail
  have ht : Lib.TabIs Tryd.prog W "internal/strconv.uint64pow10" .u64 Lib.pow10Tab := Lib.tabIs_of_head (g := 0) (t := 158) (e := 152) (n := 20) (by kernel_rfl) (by kernel_rfl) (by kernel_rfl) (by kernel_rfl) (by kernel_rfl) (by kernel_rfl) h1
  unfold Lib.TabIs World.var? at ht
  rw [show Tryd.prog.globalNamed "internal/strconv.uint64pow10" = some 0 from by kernel_rfl] at ht
  simp only [Option.bind_some] at ht
  split at ht
  · rename_i cs T fz hw
    obtain rfl := Option.some.inj ht
    intro p hp
    obtain rfl := List.mem_singleton.1 hp
    exact ⟨(Array.getElem?_eq_some_iff.1 hw).1, fun hx => hx.elim, T, fz, hw⟩
  · cases ht
theorem lifted (os : Os) (started : os.Started) (H : Type) (enc : TypeId × Value → H) :
    ReturnsInHanded {} Tryd.checked os 8 .any (fun w args => (Rows.senderMaySpec.pre enc Tryd.prog Tryd.f8 [] false w args ∧ laidMetH Tryd.prog Rows.senderMayRow.laid w) ∧ sizedMet enc Tryd.prog Tryd.f8 (OpenSpec.ofChange Rows.senderMaySpec) false w args) (Rows.senderMaySpec.post enc Tryd.prog Tryd.f8 false true false false) := by
  refine returnsInHanded_of_change_and (C := Tryd.checked) (X := fun w _ => laidMetH Tryd.prog Rows.senderMayRow.laid w) (fun _ _ _ hh h => h.of_heap hh) own started (by kernel_rfl) Tryd.func8
    (ChangeSpec.witness_shaped (enc := enc) (C := Tryd.checked) (os := os) (X := fun w _ => laidMetH Tryd.prog Rows.senderMayRow.laid w) false (World.doorLaid Tryd.prog 400 os) #[.agg #[.int .i64 0, .int .i64 0, .int .i64 0, .int .i64 0, .int .i64 0, .int .i64 0, .int .i64 0, .int .i64 0, .int .i64 0, .int .i64 0, .int .i64 0, .int .i64 0, .int .i64 0, .slice none 0 0], .int .i64 0, .agg #[.int .i64 0, .int .i64 0, .int .i64 0, .int .i64 0, .int .i64 0, .int .i64 0, .int .i64 0, .int .i64 0, .int .i64 0, .int .i64 0, .int .i64 0, .int .i64 0, .int .i64 0, .int .i64 0, .int .i64 0, .int .i64 0, .int .i64 0, .int .i64 0, .slice none 0 0], .agg #[.int .i64 0, .int .i64 0, .int .i64 0, .int .i64 0, .int .i64 0, .int .i64 0, .int .i64 0, .int .i64 0, .int .i64 0, .bool false, .int .i64 0, .int .i64 0, .int .i64 0], .int .i64 0, .int .i64 0] 8 rfl (World.shaped_of_RefB (by kernel_rfl) (by kernel_rfl)) (by kernel_rfl) (by kernel_rfl) (by kernel_rfl) (door_met os _)) ?_
  intro W base args ds gs before hval0 hW hcnd hsz0 hL _
  have hsz : (DataW.weightsEach Tryd.prog (Tryd.f8.params.toList ++ Rows.senderMaySpec.plain.varTypes Tryd.prog) (ds ++ gs)).all (· ≤ reachBytes) = true := hsz0
  have hval : ∀ (j : Nat) t v, Tryd.f8.params[j]? = some t → args[j]? = some v → Value.okWide Tryd.prog W .any base t v := hval0
  have hW' := hW
  obtain ⟨p, q, hA0, hV, rfl, hfz, hnd⟩ := hW
  have hA : DataW.TrodAll enc Tryd.prog W 0 (fun _ => true) true Tryd.f8.params.toList args.toList ds p := hA0
  rw [Tryd.params8] at hA hval hsz
  obtain ⟨v0, vs0, d0, ds0, p0, q0, hargs, rfl, rfl, h0, r0⟩ := trodAll_cons hA
  obtain ⟨v1, vs1, d1, ds1, p1, q1, rfl, rfl, rfl, h1, r1⟩ := trodAll_cons r0
  obtain ⟨v2, vs2, d2, ds2, p2, q2, rfl, rfl, rfl, h2, r2⟩ := trodAll_cons r1
  obtain ⟨v3, vs3, d3, ds3, p3, q3, rfl, rfl, rfl, h3, r3⟩ := trodAll_cons r2
  obtain ⟨v4, vs4, d4, ds4, p4, q4, rfl, rfl, rfl, h4, r4⟩ := trodAll_cons r3
  obtain ⟨v5, vs5, d5, ds5, p5, q5, rfl, rfl, rfl, h5, r5⟩ := trodAll_cons r4
  obtain ⟨rfl, rfl, rfl⟩ := trodAll_nil r5
  obtain rfl : args = #[v0, v1, v2, v3, v4, v5] := by cases args; simp_all
  obtain ⟨rfl, rfl⟩ := trodVars_none hV
  have lt0 : ∀ x ∈ p0, x.block < W.heap.size := by obtain ⟨m, hm⟩ := h0; exact DataW.trod_lt m _ _ _ hm
  have n0 := param_weights hsz (j := 0) (t := 24) (d := d0) rfl rfl
  obtain ⟨x0, R0, F0⟩ := param_struct Tryd.underlying24 o24 (hval 0 24 v0 rfl rfl) h0 n0
  have lt1 : ∀ x ∈ p1, x.block < W.heap.size := by obtain ⟨m, hm⟩ := h1; exact DataW.trod_lt m _ _ _ hm
  have n1 := param_weights hsz (j := 1) (t := 3) (d := d1) rfl rfl
  obtain ⟨x1, R1, F1⟩ := param_int (g := fun x : Int => G.int .i64 x) Tryd.underlying3 o3 (fun _ => rfl) (hval 1 3 v1 rfl rfl) h1 n1
  have lt2 : ∀ x ∈ p2, x.block < W.heap.size := by obtain ⟨m, hm⟩ := h2; exact DataW.trod_lt m _ _ _ hm
  have n2 := param_weights hsz (j := 2) (t := 31) (d := d2) rfl rfl
  obtain ⟨x2, R2, F2⟩ := param_struct Tryd.underlying31 o31 (hval 2 31 v2 rfl rfl) h2 n2
  have lt3 : ∀ x ∈ p3, x.block < W.heap.size := by obtain ⟨m, hm⟩ := h3; exact DataW.trod_lt m _ _ _ hm
  have n3 := param_weights hsz (j := 3) (t := 33) (d := d3) rfl rfl
  obtain ⟨x3, R3, F3⟩ := param_struct Tryd.underlying33 o33 (hval 3 33 v3 rfl rfl) h3 n3
  have lt4 : ∀ x ∈ p4, x.block < W.heap.size := by obtain ⟨m, hm⟩ := h4; exact DataW.trod_lt m _ _ _ hm
  have n4 := param_weights hsz (j := 4) (t := 3) (d := d4) rfl rfl
  obtain ⟨x4, R4, F4⟩ := param_int (g := fun x : Int => G.int .i64 x) Tryd.underlying3 o3 (fun _ => rfl) (hval 4 3 v4 rfl rfl) h4 n4
  have lt5 : ∀ x ∈ p5, x.block < W.heap.size := by obtain ⟨m, hm⟩ := h5; exact DataW.trod_lt m _ _ _ hm
  have n5 := param_weights hsz (j := 5) (t := 3) (d := d5) rfl rfl
  obtain ⟨x5, R5, F5⟩ := param_int (g := fun x : Int => G.int .i64 x) Tryd.underlying3 o3 (fun _ => rfl) (hval 5 3 v5 rfl rfl) h5 n5
  clear hA0 hval0 hsz0 hsz
  have hc : Fv Tryd.prog 8 [.agg (Sp.Config.g x0), G.int .i64 x1, .agg (Sp.Owner.g x2), .agg (Sp.Call.g x3), G.int .i64 x4, G.int .i64 x5] (.bool true) := law26_SenderMay x0 x1 x2 x3 x4 x5
  have hR : ∀ (i : Nat) g v, [(.agg (Sp.Config.g x0) : G), (G.int .i64 x1 : G), (.agg (Sp.Owner.g x2) : G), (.agg (Sp.Call.g x3) : G), (G.int .i64 x4 : G), (G.int .i64 x5 : G)][i]? = some g → [v0, v1, v2, v3, v4, v5][i]? = some v → Rep C0 W g v := fun i g v hg hv => by
    rcases i with _ | i
    · cases hg; cases hv; exact R0
    rcases i with _ | i
    · cases hg; cases hv; exact R1
    rcases i with _ | i
    · cases hg; cases hv; exact R2
    rcases i with _ | i
    · cases hg; cases hv; exact R3
    rcases i with _ | i
    · cases hg; cases hv; exact R4
    rcases i with _ | i
    · cases hg; cases hv; exact R5
    cases hg
  refine (hc.calls (fixed_of hL) rfl hR).mono fun e W' ⟨he, bel⟩ => ?_
  subst he
  exact ⟨_, rfl, _, _, _, [], _, [], hW', trodAll_mk1 (shut_bool Tryd.underlying4 _), (trodAll_cons_mk (Below.trod laidOut (by kernel_rfl) (of_decide_eq_true (by kernel_rfl)) h0 bel lt0) (trodAll_cons_mk (Below.trod laidOut (by kernel_rfl) (of_decide_eq_true (by kernel_rfl)) h1 bel lt1) (trodAll_cons_mk (Below.trod laidOut (by kernel_rfl) (of_decide_eq_true (by kernel_rfl)) h2 bel lt2) (trodAll_cons_mk (Below.trod laidOut (by kernel_rfl) (of_decide_eq_true (by kernel_rfl)) h3 bel lt3) (trodAll_cons_mk (Below.trod laidOut (by kernel_rfl) (of_decide_eq_true (by kernel_rfl)) h4 bel lt4) (trodAll_cons_mk (Below.trod laidOut (by kernel_rfl) (of_decide_eq_true (by kernel_rfl)) h5 bel lt5) trodAll_mk0)))))), rfl, bel.frame _, fun h => by cases h⟩
theorem over : Rows.senderMayRow.holds Tryd.pinned (OpenSpec.ofChange Rows.senderMaySpec) :=
  OpenClaim.holds_of_wide 8 Tryd.f8 rfl rfl rfl rfl rfl rfl rfl ⟨rfl, rfl, rfl, rfl, rfl⟩ rfl rfl rfl rfl rfl (by kernel_rfl) Tryd.func8 (by kernel_rfl)
    (of_decide_eq_true (by kernel_rfl)) (by unfold Func.isWrapper; first | (rw [if_pos (by decide +kernel)]; kernel_rfl) | (rw [if_neg (by decide +kernel)]; exact ⟨rfl, rfl⟩))
    (fun os started H enc _ => lifted os started H enc)
theorem proved : Rows.SenderMayCardSaid :=
  Claim7.holds_tied_plain_at .later [] [.data, .data, .data] true (true, "3784982d39a81e0d2420319cd539c362313da00e1655417322c98c2adbd5f4ba") false over (fun _ h => by cases h) (by kernel_rfl) (fun _ h => by cases h) senderMay_row_tie rfl ⟨rfl, rfl⟩ (by kernel_rfl) rfl
    (fun f fn hf hfn => by
      obtain rfl : f = 8 := Option.some.inj ((show Tryd.prog.funcNamed "hourglass/hourglasslaw26.SenderMay" = some 8 by kernel_rfl).symm.trans hf) |>.symm
      obtain rfl : fn = Tryd.f8 := (Option.some.inj (Tryd.func8.symm.trans hfn)).symm
      exact ⟨by kernel_rfl, fun j t ht => by
        rw [Tryd.params8] at ht
        have hm : t ∈ [24, 3, 31, 33, 3, 3] := by simpa using Array.mem_of_getElem? ht
        have hall : ([24, 3, 31, 33, 3, 3].all fun u => !Tryd.prog.wantsStandIn u) = true := by kernel_rfl
        exact (show Tryd.prog.wantsStandIn t = false by simpa using List.all_eq_true.1 hall t hm)⟩)
    (by kernel_rfl)
#print axioms proved
end Go.Proofs.YtfacmphjplablaaDoor.senderMay
namespace Go.Proofs.YtfacmphjplablaaDoor
/-- The row, under a short name, for the claim. -/
theorem senderMay_holds : Rows.SenderMayCardSaid := senderMay.proved
end Go.Proofs.YtfacmphjplablaaDoor
