/- Code's abstract condition by computation, and a function's contract out of it. No condition. -/
import Derived.Test.YtcihkmnolagdlaaDoorAv14
namespace Go.Proofs.YtcihkmnolagdlaaDoor.Av
open Go Go.RowKit
set_option linter.unusedVariables false
set_option linter.unusedSimpArgs false

/-- What code asks of a state: computed, but for loops, of which it is asked as such. -/
def awp (P : Program) (c : Code) : St → (Exit → St → Prop) → Prop :=
  Code.rec (motive := fun _ => St → (Exit → St → Prop) → Prop)
    (fun st K => K .normal st)
    (fun _ ops draw st K => bif draw then bif P.follows .mixedOrders then dops P ops ops.toList st [] fun ts st' => chk ops ts = true ∧ K .normal st' else False else aops P ops ops.toList st (K .normal))
    (fun _ _ ihx ihy st K => ihx st fun e st' => match e with | .normal => ihy st' K | e => K e st')
    (fun c _ _ ihx ihy st K => match st.ev c with
      | .bool t => bif t then ihx st K else ihy st K
      | _ => False)
    (fun id _ ih st K => ih st fun e st' => match e with | .exit id' => bif Nat.beq id' id then K .normal st' else K (.exit id') st' | e => K e st')
    (fun c _ st K => Has P (.loop c) st K)
    (fun _ _ _ _ _ _ _ _ => False)
    (fun id st K => K (.exit id) st)
    (fun _ _ _ _ => False)
    (fun _ st K => K .normal st)
    (fun l st K => K (.goto l) st)
    (fun st K => K .ret st)
    (fun _ _ _ => False) c

theorem awp_hasD {P : Program} : ∀ (c : Code) (st : St) (K : Exit → St → Prop), awp P c st K → HasD P c st K
  | .skip, st, K, h => fun C F a w hi => wp_skip ⟨C, st, h, hi⟩
  | .label _, st, K, h => fun C F a w hi => wp_label ⟨C, st, h, hi⟩
  | .region _ ops false, st, K, h => HasD.region h
  | .region _ ops true, st, K, h => by
    change (bif P.follows .mixedOrders then dops P ops ops.toList st [] fun ts st' => chk ops ts = true ∧ K .normal st' else False) at h
    cases hm : P.follows .mixedOrders with
    | false => rw [hm] at h; exact h.elim
    | true =>
      rw [hm] at h
      exact (drawn_sound hm h).mono fun e st' ⟨h1, h2⟩ => by subst h1; exact h2
  | .seq x y, st, K, h => HasD.seq ((awp_hasD x st _ h).mono fun e st' he => by
      cases e with
      | normal => exact awp_hasD y st' K he
      | _ => exact he)
  | .cond c x y, st, K, h => by
    change (match st.ev c with | .bool t => bif t then awp P x st K else awp P y st K | _ => False) at h
    split at h
    · rename_i t ht
      refine HasD.cond ht (fun e => ?_) (fun e => ?_)
      · rw [e] at h; exact awp_hasD x st K h
      · rw [e] at h; exact awp_hasD y st K h
    · exact h.elim
  | .block id c, st, K, h => HasD.block ((awp_hasD c st _ h).mono fun e st' he => by
      cases e with
      | exit id' =>
        show if id' = id then _ else _
        cases hb : Nat.beq id' id with
        | true => rw [if_pos (Nat.eq_of_beq_eq_true hb)]; simpa [hb] using he
        | false => rw [if_neg (Nat.ne_of_beq_eq_false hb)]; simpa [hb] using he
      | _ => exact he)
  | .loop c, st, K, h => Has.out h
  | .exit id, st, K, h => fun C F a w hi => wp_exit ⟨C, st, h, hi⟩
  | .goto l, st, K, h => fun C F a w hi => wp_goto ⟨C, st, h, hi⟩
  | .ret, st, K, h => fun C F a w hi => wp_ret ⟨C, st, h, hi⟩
  | .rangeFunc .., st, K, h => False.elim h
  | .scope _, st, K, h => False.elim h
  | .refuse _, st, K, h => False.elim h

theorem awp_has {P : Program} {c : Code} {st : St} {K : Exit → St → Prop} (h : awp P c st K) : Has P c st K := ⟨awp_hasD c st K h⟩

theorem awp_go {P : Program} {c : Code} {st : St} {K : Exit → St → Prop} (h : st.force fun st => awp P c st K) : Has P c st K := awp_has (by rwa [St.force_eq] at h)
/-- A list of slots, by those that are looked at. -/
def mkS : Nat → Nat → List (Nat × G) → List G
  | 0, _, _ => []
  | n + 1, i, l => (match l.find? (fun p => Nat.beq p.1 i) with | some p => p.2 | none => .junk) :: mkS n (i + 1) l
def mkB : Nat → Nat → List (Nat × List G) → List (Option (List G))
  | 0, _, _ => []
  | n + 1, i, l => (match l.find? (fun p => Nat.beq p.1 i) with | some p => some p.2 | none => none) :: mkB n (i + 1) l
def mkR : Nat → Nat → List (Nat × List (List G)) → List (Option (List (List G)))
  | 0, _, _ => []
  | n + 1, i, l => (match l.find? (fun p => Nat.beq p.1 i) with | some p => some p.2 | none => none) :: mkR n (i + 1) l
def St.of (n : Nat) (s : List (Nat × G)) (b : List (Nat × List G)) (r : List (Nat × List (List G))) : St := ⟨mkS n 0 s, mkB (n + 8) 0 b, mkR (n + 8) 0 r⟩
/-- .. in a call that was handed m variables and q rows. -/
def St.ofP (n m q : Nat) (s : List (Nat × G)) (b : List (Nat × List G)) (r : List (Nat × List (List G))) : St := ⟨mkS n 0 s, mkB (n + 8 + m) 0 b, mkR (n + 8 + q) 0 r⟩
/-- A loop, round by round. -/
def HasN (P : Program) (c : Code) (K : Exit → St → Prop) : Nat → St → Prop
  | 0, _ => False
  | n + 1, st => awp P c st fun e st' => match e with | .normal => HasN P c K n st' | e => K e st'
theorem Has.ofN {P : Program} {c : Code} {st : St} {K : Exit → St → Prop} (n : Nat) (h : HasN P c K n st) : Has P (.loop c) st K := by
  refine ⟨fun C F a w hi => ?_⟩
  have key : ∀ n st C a w, HasN P c K n st → Inv C F st a w → Code.rounds P c (fun e a' w' => ∃ C' st', K e st' ∧ Inv C' F st' a' w') n a w := by
    intro n
    induction n with
    | zero => intro st C a w h _; exact h.elim
    | succ n ih =>
      intro st C a w h hi
      rw [rounds_succ]
      refine wp_mono (awp_hasD c st _ h C F a w hi) fun e a' w' ⟨C', st', h1, h2⟩ => ?_
      cases e with
      | normal => exact ih st' C' a' w' h1 h2
      | _ => exact ⟨C', st', h1, h2⟩
  exact wp_loop_rounds n (key n st C a w h hi)

/-! The result. -/
def resOne (P : Program) (st : St) : ResultVar → (G → Prop) → Prop
  | .tmp t, k => fA (st.ev (.tmp t)) k
  | .cell a t, k => match st.ev (.tmp a) with
    | .ptr b off => loadP P t st (.ptr b off) fun g => fA g k
    | _ => False
def resList (P : Program) (st : St) : List ResultVar → (List G → Prop) → Prop
  | [], k => k []
  | r :: rs, k => resOne P st r fun g => resList P st rs fun gs => k (g :: gs)
def resP (P : Program) (st : St) (rs : List ResultVar) (k : G → Prop) : Prop :=
  match rs with
  | [r] => resOne P st r k
  | rs => resList P st rs fun gs => k (.tup gs)

def oneSem (tmps : Array Value) (r : ResultVar) : Sem Value :=
  match r with
  | .tmp t => pure (tmps.getD t undef)
  | .cell a t => do loadVar t (← asAddr (tmps.getD a undef))
theorem resOne_sound {P : Program} {st : St} {r : ResultVar} {k : G → Prop} (h : resOne P st r k) {C : Cx} {F : Fd} {a : Act} {w : World} (hi : Inv C F st a w) :
    ∃ g v, k g ∧ (oneSem a.tmps r).run P w = .ok v w ∧ Rep C w g v := by
  cases r with
  | tmp t => exact ⟨_, _, by simp only [resOne, fA_eq] at h; exact h, rfl, hi.ev (.tmp t)⟩
  | cell p t =>
    simp only [resOne] at h
    have hp := hi.ev (.tmp p)
    cases heq : st.ev (.tmp p) with
    | ptr b off =>
      rw [heq] at h hp
      obtain ⟨g, v, h1, h2, h3⟩ := loadP_sound h hi hp
      rw [fA_eq] at h1
      refine ⟨g, v, h1, ?_, h3⟩
      have e : a.eval (.tmp p) = a.tmps.getD p undef := rfl
      rw [e] at h2 hp
      unfold oneSem
      simp only
      generalize a.tmps.getD p undef = q at hp h2
      cases hp with
      | ptr _ _ B hb =>
        simp only [Instr.loadAt, Instr.sureAddr, Sem.run_bind, Sem.run_pure, Result.andThen_ok] at h2
        simp only [asAddr, Sem.run_bind, Sem.run_pure, Result.andThen_ok]
        exact h2
    | _ => rw [heq] at h; exact h.elim
theorem resList_sound {P : Program} {st : St} {C : Cx} {F : Fd} {a : Act} {w : World} (hi : Inv C F st a w) : ∀ (rs : List ResultVar) (k : List G → Prop), resList P st rs k →
    ∃ gs vs, k gs ∧ (rs.mapM (oneSem a.tmps)).run P w = .ok vs w ∧ vs.length = gs.length ∧ gs.length = rs.length ∧ ∀ (i : Nat) g v, gs[i]? = some g → vs[i]? = some v → Rep C w g v
  | [], k, h => ⟨[], [], h, rfl, rfl, rfl, fun i g v hg => by simp at hg⟩
  | r :: rs, k, h => by
    obtain ⟨g, v, h1, h2, h3⟩ := resOne_sound h hi
    obtain ⟨gs, vs, k1, k2, k3, k4, k5⟩ := resList_sound hi rs _ h1
    refine ⟨g :: gs, v :: vs, k1, ?_, by simp [k3], by simp [k4], fun i g' v' hg hv => ?_⟩
    · rw [List.mapM_cons, Sem.run_bind, h2, Result.andThen_ok, Sem.run_bind, k2]; rfl
    · cases i with
      | zero => simp at hg hv; subst hg; subst hv; exact h3
      | succ i => exact k5 i g' v' (by simpa using hg) (by simpa using hv)
theorem resP_sound {P : Program} {st : St} {fn : Func} {k : G → Prop} (h : resP P st fn.results.toList k) {C : Cx} {F : Fd} {a : Act} {w : World} (hi : Inv C F st a w) :
    ∃ g v, k g ∧ (results fn a.tmps).run P w = .ok v w ∧ Rep C w g v := by
  have e : results fn a.tmps = (do let vs ← fn.results.mapM (oneSem a.tmps); pure (if h : vs.size = 1 then vs[0] else .tuple vs) : Sem Value) := rfl
  rw [e, Array.mapM_eq_mapM_toList]
  simp only [Sem.run_bind, Sem.run_map]
  unfold resP at h
  split at h
  · rename_i r heq
    obtain ⟨g, v, h1, h2, h3⟩ := resOne_sound h hi
    refine ⟨g, v, h1, ?_, h3⟩
    rw [heq, List.mapM_cons, Sem.run_bind, h2]
    rfl
  · rename_i hne
    obtain ⟨gs, vs, h1, h2, h3, h4, h5⟩ := resList_sound hi _ _ h
    refine ⟨.tup gs, .tuple ⟨vs⟩, h1, ?_, .tup gs vs h3 h5⟩
    rw [h2]
    simp only [Result.andThen_ok, Sem.run_pure]
    congr 1
    have hs : ¬ (vs.toArray.size = 1) := by
      intro e1
      have e2 : fn.results.toList.length = 1 := by rw [← h4, ← h3]; simpa using e1
      match hq : fn.results.toList, e2 with
      | [r], _ => exact hne r hq
    rw [dif_neg hs]

/-- The state at a function's begin. -/
def St.enter (N : Nat) (args : List G) : St := ⟨args ++ List.replicate (N - args.length) .junk, List.replicate (N + 8) none, List.replicate (N + 8) none⟩

/-- A function's contract, out of its body. -/
theorem Fv.of_awp {P : Program} {f : FuncId} {fn : Func} {c : Code} {args : List G} {g : G} (hf : P.funcs[f]? = some fn) (hb : fn.body = some c) (hh : hasBody P f = true) (hg : g.closedR = true) (hn : args.length ≤ fn.ntmps)
    (h : awp P c (St.enter fn.ntmps args) fun e st => match e with | .normal => resP P st fn.results.toList fun g' => dn st g' fun g' => g' = g | .ret => resP P st fn.results.toList fun g' => dn st g' fun g' => g' = g | _ => False) : Fv P f args g := by
  refine ⟨hh, fun C w t0 vs hl hr hM ht hb0 hr0 hfx => calls_of_wp hf hb ?_⟩
  let F : Fd := ⟨w, fun _ => False, C.ex, fun _ => none, hfx⟩
  have hC : ∀ b, C.box b = none := fun b => by
    cases hx : C.box b with
    | none => rfl
    | some B => obtain ⟨cs, hcs⟩ := hM.domB b B hx; simp at hcs
  have hCr : ∀ b, C.row b = none := fun b => by
    cases hx : C.row b with
    | none => rfl
    | some B => obtain ⟨cs, hcs⟩ := hM.domR b B hx; simp at hcs
  have hsl : ∀ (i : Nat) g v, (args ++ List.replicate (fn.ntmps - args.length) G.junk)[i]? = some g → ((⟨vs⟩ : Array Value) ++ Array.replicate (fn.ntmps - (⟨vs⟩ : Array Value).size) undef)[i]? = some v → Rep C w g v := fun i g v hg hv => by
    by_cases hlt : i < args.length
    · rw [List.getElem?_append_left hlt] at hg
      rw [Array.getElem?_append_left (by simpa [hl] using hlt)] at hv
      exact hr i g v hg (by simpa using hv)
    · rw [List.getElem?_append_right (by omega)] at hg
      rw [List.getElem?_replicate] at hg
      split at hg
      · cases hg; exact .junk _
      · cases hg
  have hI : Inv C F (St.enter fn.ntmps args) { tmps := (⟨vs⟩ : Array Value) ++ Array.replicate (fn.ntmps - (⟨vs⟩ : Array Value).size) undef, defers := [] } w := by
    refine ⟨rfl, by simp [St.enter, hl], hsl, ⟨fun b cs hb => ?_, fun k xs hk => ?_, fun b B hB => (by rw [hC] at hB; cases hB), fun k r hr => (by rw [hCr] at hr; cases hr), hM.bb, hM.rr, hM.br, hM.lt⟩,
      ⟨rfl, rfl, rfl, Nat.le_refl _, fun _ _ _ => rfl, fun _ vs _ fz h => ⟨vs, fz, h, rfl⟩⟩, fun _ h => h, fun _ h => .inl h, fun _ h => h.elim, fun b B hB => (by rw [hC] at hB; cases hB), fun k B s sz n hk => (by rw [hCr] at hk; cases hk), fun b B hb => (by cases hb)⟩
    · simp [St.enter, List.getElem?_replicate] at hb
    · simp [St.enter, List.getElem?_replicate] at hk
  refine wp_mono (awp_hasD c _ _ h C F _ w hI) fun e a' w' ⟨C', st', h1, h2⟩ => ?_
  have fin : resP P st' fn.results.toList (fun g' => dn st' g' fun g' => g' = g) → a'.defers = [] ∧ ∃ v, (results fn a'.tmps).run P w' = .ok v w' ∧ ∃ v_1 C'_1 g_1 bs' rs', (Ending.returned v) = .returned v_1 ∧ (g_1 = g ∧ bs' = [] ∧ rs' = []) ∧ Rep C'_1 w' g_1 v_1 ∧ Mem C'_1 w' bs' rs' ∧ Ends C t0 w C'_1 w' := fun hres => by
    obtain ⟨g0, v, k1, k2, k3⟩ := resP_sound hres h2
    obtain ⟨g', rfl, k4⟩ := dn_sound (Co := Cx.out C.ex) h2 (fun B _ hn hx => hn (h2.ex0 B hx)) (fun k B s sz n hk hx => by
      have h3 := (h2.tr k B s sz n hk).resolve_left (fun h => h)
      have h4 := hM.lt B hx
      exact absurd h3 (by show ¬ w.heap.size ≤ B; omega)) k1 k3
    refine ⟨h2.nd, v, k2, v, Cx.out C.ex, g', [], [], rfl, ⟨rfl, rfl, rfl⟩, k4 hg, mem0 w' C.ex (fun B hB => Nat.lt_of_lt_of_le (hM.lt B hB) h2.fr.size), ?_⟩
    exact ⟨fun b B hB => (by rw [hC] at hB; cases hB), ⟨h2.fr.os, h2.fr.tape, h2.fr.output, h2.fr.size, fun B hB _ => h2.fr.block B hB (fun h => h), h2.fr.ty⟩, fun _ h => h, fun _ h => .inl h, fun _ _ h => (by cases h), fun _ _ _ _ _ h => (by cases h)⟩
  cases e with
  | normal => exact fin h1
  | ret => exact fin h1
  | _ => exact h1.elim

/-! A contract by places. -/
def shift (M : Nat) : Nat → Option Nat := fun i => some (M + i)
def St.enterP (N : Nat) (args : List G) (bs : List (List G)) (rs : List (List (List G))) : St :=
  ⟨args.map (ren (shift (N + 8)) (shift (N + 8))) ++ List.replicate (N - args.length) .junk,
    List.replicate (N + 8) none ++ bs.map (fun cs => some (cs.map (ren0 (shift (N + 8)) (shift (N + 8))))), List.replicate (N + 8) none ++ rs.map some⟩
def below (M : Nat) (l : List Nat) : List Nat := l.filter fun b => Nat.blt b M
noncomputable def exitB (M m : Nat) (st : St) (g : G) : List Nat :=
  fI (addNew [] (below M (refB g ++ ((List.range m).map (M + ·)).flatMap fun b => (cellsB st b).flatMap refB0))) fun s0 => addNew s0 (below M (s0.flatMap fun b => (cellsB st b).flatMap refB0))
noncomputable def exitR (M m : Nat) (st : St) (g : G) (nb : List Nat) : List Nat :=
  addNew [] (below M (refR g ++ ((List.range m).map (M + ·) ++ nb).flatMap fun b => (cellsB st b).flatMap refR0))
def exitQ (ids rids : List Nat) (st : St) (g : G) : G × List (Option (List G)) × List (Option (List (List G))) :=
  (ren (pos ids) (pos rids) g, ids.map fun b => (st.boxes.getD b none).map fun cs => cs.map (ren0 (pos ids) (pos rids)), rids.map fun r => st.rows.getD r none)
def exitP (N m mr : Nat) (st : St) (g : G) (k : G × List (Option (List G)) × List (Option (List (List G))) → Prop) : Prop :=
  fI (exitB (N + 8) m st g) fun nb => fI (exitR (N + 8) m st g nb) fun nr =>
    fI ((List.range m).map (N + 8 + ·) ++ nb) fun ids => fI ((List.range mr).map (N + 8 + ·) ++ nr) fun rids =>
    bif distinct ids && distinct rids && Nat.ble m ids.length then k (exitQ ids rids st g) else False

theorem Fp.of_awp {P : Program} {f : FuncId} {fn : Func} {c : Code} {args : List G} {bs : List (List G)} {rs : List (List (List G))} {q : G × List (Option (List G)) × List (Option (List (List G)))} (hf : P.funcs[f]? = some fn) (hb : fn.body = some c) (hh : hasBody P f = true)
    (hn : args.length ≤ fn.ntmps)
    (h : awp P c (St.enterP fn.ntmps args bs rs) fun e st => match e with | .normal => resP P st fn.results.toList fun g' => exitP fn.ntmps bs.length rs.length st g' fun q' => q' = q | .ret => resP P st fn.results.toList fun g' => exitP fn.ntmps bs.length rs.length st g' fun q' => q' = q | _ => False) : Fp P f args bs rs q := by
  refine ⟨hh, fun C w t0 vs hl hr hM ht hb0 hr0 hfx => calls_of_wp hf hb ?_⟩
  generalize hMM : fn.ntmps + 8 = M
  let C0 : Cx := { box := fun x => if M ≤ x then C.box (x - M) else none, row := fun x => if M ≤ x then C.row (x - M) else none, ex := C.ex }
  have c0b : ∀ i : Nat, C0.box (M + i) = C.box i := fun i => by show (if M ≤ M + i then _ else _) = _; rw [if_pos (by omega), show M + i - M = i from by omega]
  have c0r : ∀ i : Nat, C0.row (M + i) = C.row i := fun i => by show (if M ≤ M + i then _ else _) = _; rw [if_pos (by omega), show M + i - M = i from by omega]
  have c0bI : ∀ (x X : Nat), C0.box x = some X → ∃ i, x = M + i ∧ C.box i = some X := fun x X e => by
    have e' : (if M ≤ x then C.box (x - M) else none) = some X := e
    split at e'
    · exact ⟨x - M, by omega, e'⟩
    · cases e'
  have c0rI : ∀ (x : Nat) X, C0.row x = some X → ∃ i, x = M + i ∧ C.row i = some X := fun x X e => by
    have e' : (if M ≤ x then C.row (x - M) else none) = some X := e
    split at e'
    · exact ⟨x - M, by omega, e'⟩
    · cases e'
  let F : Fd := ⟨w, t0, C.ex, C0.box, hfx⟩
  have lead : Leads C C0 w w (shift M) (shift M) := ⟨fun b i B e hB => by cases e; rw [c0b]; exact hB, fun k i r e hk => by cases e; rw [c0r]; exact hk, Keeps.refl _ _, fun _ _ h => h⟩
  have hsl : ∀ (i : Nat) g v, (args.map (ren (shift M) (shift M)) ++ List.replicate (fn.ntmps - args.length) G.junk)[i]? = some g → ((⟨vs⟩ : Array Value) ++ Array.replicate (fn.ntmps - (⟨vs⟩ : Array Value).size) undef)[i]? = some v → Rep C0 w g v := fun i g v hg hv => by
    by_cases hlt : i < args.length
    · rw [List.getElem?_append_left (by simpa using hlt), List.getElem?_map] at hg
      rw [Array.getElem?_append_left (by simpa [hl] using hlt)] at hv
      obtain ⟨g0, hg0, rfl⟩ := Option.map_eq_some_iff.1 hg
      exact (hr i g0 v hg0 (by simpa using hv)).ren lead
    · rw [List.getElem?_append_right (by simp; omega)] at hg
      rw [List.getElem?_replicate] at hg
      split at hg
      · cases hg; exact .junk _
      · cases hg
  have hlen : (args.map (ren (shift M) (shift M)) ++ List.replicate (fn.ntmps - args.length) G.junk).length = fn.ntmps := by simp; omega
  have bsI : ∀ (x : Nat) o, (List.replicate M (none : Option (List G)) ++ bs.map (fun cs => some (cs.map (ren0 (shift M) (shift M)))))[x]? = some (some o) → ∃ i cs, x = M + i ∧ bs[i]? = some cs ∧ o = cs.map (ren0 (shift M) (shift M)) := fun x o hx => by
    by_cases hlt : x < M
    · rw [List.getElem?_append_left (by simpa using hlt), List.getElem?_replicate] at hx
      split at hx <;> cases hx
    · rw [List.getElem?_append_right (by simp; omega), List.getElem?_map] at hx
      obtain ⟨cs, h1, h2⟩ := Option.map_eq_some_iff.1 hx
      simp only [List.length_replicate] at h1
      exact ⟨x - M, cs, by omega, h1, (Option.some.inj h2).symm⟩
  have rsI : ∀ (x : Nat) o, (List.replicate M (none : Option (List (List G))) ++ rs.map some)[x]? = some (some o) → ∃ i, x = M + i ∧ rs[i]? = some o := fun x o hx => by
    by_cases hlt : x < M
    · rw [List.getElem?_append_left (by simpa using hlt), List.getElem?_replicate] at hx
      split at hx <;> cases hx
    · rw [List.getElem?_append_right (by simp; omega), List.getElem?_map] at hx
      obtain ⟨cs, h1, h2⟩ := Option.map_eq_some_iff.1 hx
      simp only [List.length_replicate] at h1
      exact ⟨x - M, by omega, by rw [h1]; exact h2⟩
  have bsO : ∀ (i : Nat) cs, bs[i]? = some cs → (List.replicate M (none : Option (List G)) ++ bs.map (fun cs => some (cs.map (ren0 (shift M) (shift M)))))[M + i]? = some (some (cs.map (ren0 (shift M) (shift M)))) := fun i cs e => by
    rw [List.getElem?_append_right (by simp), List.getElem?_map]
    simp only [List.length_replicate, show M + i - M = i from by omega, e]; rfl
  have rsO : ∀ (i : Nat) cs, rs[i]? = some cs → (List.replicate M (none : Option (List (List G))) ++ rs.map some)[M + i]? = some (some cs) := fun i cs e => by
    rw [List.getElem?_append_right (by simp), List.getElem?_map]
    simp only [List.length_replicate, show M + i - M = i from by omega, e]; rfl
  have hI : Inv C0 F (St.enterP fn.ntmps args bs rs) { tmps := (⟨vs⟩ : Array Value) ++ Array.replicate (fn.ntmps - (⟨vs⟩ : Array Value).size) undef, defers := [] } w := by
    unfold St.enterP
    rw [hMM]
    refine ⟨rfl, by rw [hlen]; simp [hl]; omega, hsl, ⟨fun b cs hx => ?_, fun k xs hx => ?_, fun b B hB => ?_, fun k r hk => ?_, fun b b' B h1 h2 => ?_, fun k k' B s sz n s' sz' n' h1 h2 => ?_, fun b k B s sz n h1 h2 => ?_, hM.lt⟩,
      ⟨rfl, rfl, rfl, Nat.le_refl _, fun _ _ _ => rfl, fun _ vs _ fz h => ⟨vs, fz, h, rfl⟩⟩, fun _ h => h, fun _ h => .inl h, ht, fun b B hB => ?_, fun k B s sz n hk => ?_, fun b B hB => ⟨hB, ?_⟩⟩
    · obtain ⟨i, cs0, rfl, h1, rfl⟩ := bsI b cs hx
      obtain ⟨B, us, T, k1, k2, k3, k4, k5, k6⟩ := hM.box i cs0 (by rw [List.getElem?_map, h1]; rfl)
      refine ⟨B, us, T, by rw [c0b]; exact k1, k2, k3, by simp [k4], k5, fun j g v hg hv => ?_⟩
      rw [List.getElem?_map] at hg
      obtain ⟨g0, hg0, rfl⟩ := Option.map_eq_some_iff.1 hg
      obtain ⟨q1, q2⟩ := k6 j g0 v hg0 hv
      exact ⟨cell_ren0 q1 _ _, q2.ren0 lead q1⟩
    · obtain ⟨i, rfl, h1⟩ := rsI k xs hx
      rcases hM.row i xs (by rw [List.getElem?_map, h1]; rfl) with k1 | ⟨X, s, z, n, us, T, fz, k1, k2, k3, k4, k5, k6, k6b, k7, k8⟩ | km
      rotate_left 2
      · exact .inr (.inr (km.move (fun q h => by rw [c0r]; exact h) (fun _ _ _ h => h) (fun _ _ _ => rfl) (fun g u hg hu => hu.keep0 hg (Keeps.refl _ _) (fun _ _ h => h))))
      · exact .inl ⟨by rw [c0r]; exact k1.1, k1.2⟩
      · exact .inr <| .inl ⟨X, s, z, n, us, T, fz, by rw [c0r]; exact k1, k2, k3, k4, k5, k6, k6b, k7, fun i r j g v a1 a2 a3 => (k8 i r j g v a1 a2 a3).keep0 ((k7 r (List.mem_of_getElem? a1)).2 g (List.mem_of_getElem? a2)) (Keeps.refl _ _) (fun _ _ h => h)⟩
    · obtain ⟨i, rfl, h1⟩ := c0bI b B hB
      obtain ⟨cs, hcs⟩ := hM.domB i B h1
      rw [List.getElem?_map] at hcs
      obtain ⟨cs0, h2, _⟩ := Option.map_eq_some_iff.1 hcs
      exact ⟨_, bsO i cs0 h2⟩
    · obtain ⟨i, rfl, h1⟩ := c0rI k r hk
      obtain ⟨cs, hcs⟩ := hM.domR i r h1
      rw [List.getElem?_map] at hcs
      obtain ⟨cs0, h2, _⟩ := Option.map_eq_some_iff.1 hcs
      exact ⟨_, rsO i cs0 h2⟩
    · obtain ⟨i, rfl, e1⟩ := c0bI b B h1
      obtain ⟨i', rfl, e2⟩ := c0bI b' B h2
      rw [hM.bb i i' B e1 e2]
    · obtain ⟨i, rfl, e1⟩ := c0rI k _ h1
      obtain ⟨i', rfl, e2⟩ := c0rI k' _ h2
      rw [hM.rr i i' B s sz n s' sz' n' e1 e2]
    · obtain ⟨i, rfl, e1⟩ := c0bI b B h1
      obtain ⟨i', rfl, e2⟩ := c0rI k _ h2
      exact hM.br i i' B s sz n e1 e2
    · obtain ⟨i, rfl, e1⟩ := c0bI b B hB
      exact .inl (hb0 i B e1)
    · obtain ⟨i, rfl, e1⟩ := c0rI k _ hk
      exact .inl (hr0 i B s sz n e1)
    · obtain ⟨i, rfl, e1⟩ := c0bI b B hB
      show (args.map (ren (shift M) (shift M)) ++ List.replicate (fn.ntmps - args.length) G.junk).length + 8 ≤ M + i
      rw [hlen]; omega
  refine wp_mono (awp_hasD c _ _ h C0 F _ w hI) fun e a' w' ⟨C', st', h1, h2⟩ => ?_
  have fin : resP P st' fn.results.toList (fun g' => exitP fn.ntmps bs.length rs.length st' g' fun q' => q' = q) → a'.defers = [] ∧ ∃ v, (results fn a'.tmps).run P w' = .ok v w' ∧ ∃ v_1 C'_1 g_1 bs' rs', (Ending.returned v) = .returned v_1 ∧ (g_1 = q.1 ∧ bs' = q.2.1 ∧ rs' = q.2.2) ∧ Rep C'_1 w' g_1 v_1 ∧ Mem C'_1 w' bs' rs' ∧ Ends C t0 w C'_1 w' := fun hres => by
    obtain ⟨g0, v, k1, k2, k3⟩ := resP_sound hres h2
    unfold exitP at k1
    simp only [fI_eq] at k1
    rw [hMM] at k1
    generalize exitR M bs.length st' g0 (exitB M bs.length st' g0) = nr at k1
    generalize exitB M bs.length st' g0 = nb at k1
    cases hc : distinct ((List.range bs.length).map (M + ·) ++ nb) && distinct ((List.range rs.length).map (M + ·) ++ nr) && Nat.ble bs.length ((List.range bs.length).map (M + ·) ++ nb).length with
    | false => rw [hc] at k1; exact k1.elim
    | true =>
    rw [hc] at k1
    simp only [cond_true] at k1
    subst k1
    simp only [Bool.and_eq_true] at hc
    have nI := distinct_nodup hc.1.1
    have nJ := distinct_nodup hc.1.2
    have idA : ∀ i : Nat, i < bs.length → ((List.range bs.length).map (M + ·) ++ nb)[i]? = some (M + i) := fun i hi => by
      rw [List.getElem?_append_left (by simpa using hi), List.getElem?_map, List.getElem?_range hi]; rfl
    generalize (List.range bs.length).map (M + ·) ++ nb = ids at *
    generalize (List.range rs.length).map (M + ·) ++ nr = rids at *
    let Cq : Cx := { box := fun i => (ids[i]?).bind C'.box, row := fun i => (rids[i]?).bind C'.row, ex := C'.ex }
    have qb : ∀ (i b : Nat), ids[i]? = some b → Cq.box i = C'.box b := fun i b e => by show (ids[i]?).bind _ = _; rw [e]; rfl
    have qr : ∀ (i b : Nat), rids[i]? = some b → Cq.row i = C'.row b := fun i b e => by show (rids[i]?).bind _ = _; rw [e]; rfl
    have qbI : ∀ (i X : Nat), Cq.box i = some X → ∃ b, ids[i]? = some b ∧ C'.box b = some X := fun i X e => by
      have e' : (ids[i]?).bind C'.box = some X := e
      cases hx : ids[i]? with
      | none => rw [hx] at e'; cases e'
      | some b => rw [hx] at e'; exact ⟨b, rfl, e'⟩
    have qrI : ∀ (i : Nat) X, Cq.row i = some X → ∃ b, rids[i]? = some b ∧ C'.row b = some X := fun i X e => by
      have e' : (rids[i]?).bind C'.row = some X := e
      cases hx : rids[i]? with
      | none => rw [hx] at e'; cases e'
      | some b => rw [hx] at e'; exact ⟨b, rfl, e'⟩
    have lead2 : Leads C' Cq w' w' (pos ids) (pos rids) := ⟨fun b i X e hX => by rw [qb i b (pos_some e)]; exact hX, fun b i X e hX => by rw [qr i b (pos_some e)]; exact hX, Keeps.refl _ _, fun _ _ h => h⟩
    have getB : ∀ (b : Nat) cs, st'.boxes.getD b none = some cs → st'.boxes[b]? = some (some cs) := fun b cs e => by
      have := boxes_some (st := st') (b := b) (by rw [e]; rfl)
      rw [this]; rw [cellsB_eq, e]; rfl
    refine ⟨h2.nd, v, k2, v, Cq, _, _, _, rfl, ⟨rfl, rfl, rfl⟩, k3.ren lead2, ⟨fun i cs hx => ?_, fun i xs hx => ?_, fun i X hX => ?_, fun i X hX => ?_, fun i i' X e1 e2 => ?_, fun i i' X s z n s' z' n' e1 e2 => ?_, fun i j X s z n e1 e2 => ?_, h2.mem.lt⟩,
      ⟨fun i B hB => ?_, h2.fr, h2.ex0, h2.exn, fun i B hB => ?_, fun i B s z n hB => ?_⟩⟩
    · simp only [exitQ, List.getElem?_map, Option.map_eq_some_iff] at hx
      obtain ⟨b, hbi, cs0, e0, rfl⟩ := hx
      obtain ⟨X, us, T, k1, k2, k3, k4, k5, k6⟩ := h2.mem.box b cs0 (getB b cs0 e0)
      refine ⟨X, us, T, by rw [qb i b hbi]; exact k1, k2, k3, by simp [k4], k5, fun j g v hg hv => ?_⟩
      rw [List.getElem?_map] at hg
      obtain ⟨g0, hg0, rfl⟩ := Option.map_eq_some_iff.1 hg
      obtain ⟨q1, q2⟩ := k6 j g0 v hg0 hv
      exact ⟨cell_ren0 q1 _ _, q2.ren0 lead2 q1⟩
    · simp only [exitQ, List.getElem?_map, Option.map_eq_some_iff] at hx
      obtain ⟨b, hbi, e0⟩ := hx
      rcases h2.mem.row b xs (rowsOf e0) with k1 | ⟨X, s, z, n, us, T, fz, k1, k2, k3, k4, k5, k6, k6b, k7, k8⟩ | km
      rotate_left 2
      · exact .inr (.inr (km.move (fun q h => by rw [qr i b hbi]; exact h) (fun _ _ _ h => h) (fun _ _ _ => rfl) (fun g u hg hu => hu.keep0 hg (Keeps.refl _ _) (fun _ _ h => h))))
      · exact .inl ⟨by rw [qr i b hbi]; exact k1.1, k1.2⟩
      · exact .inr <| .inl ⟨X, s, z, n, us, T, fz, by rw [qr i b hbi]; exact k1, k2, k3, k4, k5, k6, k6b, k7, fun i r j g v a1 a2 a3 => (k8 i r j g v a1 a2 a3).keep0 ((k7 r (List.mem_of_getElem? a1)).2 g (List.mem_of_getElem? a2)) (Keeps.refl _ _) (fun _ _ h => h)⟩
    · obtain ⟨b, hbi, e1⟩ := qbI i X hX
      obtain ⟨cs, hcs⟩ := h2.mem.domB b X e1
      exact ⟨cs.map (ren0 (pos ids) (pos rids)), by simp only [exitQ, List.getElem?_map, hbi, Option.map_some, List.getD_eq_getElem?_getD, hcs, Option.getD_some]⟩
    · obtain ⟨b, hbi, e1⟩ := qrI i X hX
      obtain ⟨cs, hcs⟩ := h2.mem.domR b X e1
      exact ⟨cs, by simp only [exitQ, List.getElem?_map, hbi, Option.map_some, List.getD_eq_getElem?_getD, hcs, Option.getD_some]⟩
    · obtain ⟨b, hbi, d1⟩ := qbI i X e1
      obtain ⟨b', hbi', d2⟩ := qbI i' X e2
      have := h2.mem.bb b b' X d1 d2
      subst this
      exact (List.getElem?_inj (List.getElem?_eq_some_iff.1 hbi).1 nI).1 (hbi.trans hbi'.symm)
    · obtain ⟨b, hbi, d1⟩ := qrI i _ e1
      obtain ⟨b', hbi', d2⟩ := qrI i' _ e2
      have := h2.mem.rr b b' X s z n s' z' n' d1 d2
      subst this
      exact (List.getElem?_inj (List.getElem?_eq_some_iff.1 hbi).1 nJ).1 (hbi.trans hbi'.symm)
    · obtain ⟨b, hbi, d1⟩ := qbI i X e1
      obtain ⟨b', hbi', d2⟩ := qrI j _ e2
      exact h2.mem.br b b' X s z n d1 d2
    · obtain ⟨cs, hcs⟩ := hM.domB i B hB
      have hlt : i < bs.length := by have := (List.getElem?_eq_some_iff.1 hcs).1; simpa using this
      rw [qb i _ (idA i hlt)]
      exact (h2.fb (M + i) B (by show C0.box (M + i) = _; rw [c0b]; exact hB)).1
    · obtain ⟨b, hbi, d1⟩ := qbI i B hB
      exact h2.tb b B d1
    · obtain ⟨b, hbi, d1⟩ := qrI i _ hB
      exact h2.tr b B s z n d1
  cases e with
  | normal => exact fin h1
  | ret => exact fin h1
  | _ => exact h1.elim
end Go.Proofs.YtcihkmnolagdlaaDoor.Av
