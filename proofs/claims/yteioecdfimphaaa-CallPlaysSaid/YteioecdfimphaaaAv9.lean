/- Code's abstract condition by computation, and a function's contract out of it. No condition. -/
import Derived.Test.YteioecdfimphaaaAv14
namespace Go.Proofs.Yteioecdfimphaaa.Av
open Go Go.RowKit
set_option linter.unusedVariables false
set_option linter.unusedSimpArgs false

/-- What code asks of a state: computed, but for loops, of which it is asked as such. -/
def awp (P : Program) (c : Code) : St → (Exit → St → Prop) → Prop :=
  Code.rec (motive := fun _ => St → (Exit → St → Prop) → Prop)
    (fun st K => K .normal st)
    (fun _ ops draw st K => bif draw then bif P.follows .mixedOrders then dops P ops ops.toList st [] fun ts st' => chk ops ts = true ∧ K .normal st' else False else aops P ops ops.toList st (K .normal))
    (fun _ _ ihx ihy st K => ihx st fun e st' => match e with | .normal => ihy st' K | e => K e st')
    (fun c _ _ ihx ihy st K => match st.ev c with
      | .bool t => bif t then ihx st K else ihy st K
      | _ => False)
    (fun id _ ih st K => ih st fun e st' => match e with | .exit id' => bif Nat.beq id' id then K .normal st' else K (.exit id') st' | e => K e st')
    (fun c _ st K => Has P (.loop c) st K)
    (fun _ _ _ _ _ _ _ _ => False)
    (fun id st K => K (.exit id) st)
    (fun _ _ _ _ => False)
    (fun _ st K => K .normal st)
    (fun l st K => K (.goto l) st)
    (fun st K => K .ret st)
    (fun _ _ _ => False) c

theorem awp_hasD {P : Program} : ∀ (c : Code) (st : St) (K : Exit → St → Prop), awp P c st K → HasD P c st K
  | .skip, st, K, h => fun C F a w hi => wp_skip ⟨C, st, h, hi⟩
  | .label _, st, K, h => fun C F a w hi => wp_label ⟨C, st, h, hi⟩
  | .region _ ops false, st, K, h => HasD.region h
  | .region _ ops true, st, K, h => by
    change (bif P.follows .mixedOrders then dops P ops ops.toList st [] fun ts st' => chk ops ts = true ∧ K .normal st' else False) at h
    cases hm : P.follows .mixedOrders with
    | false => rw [hm] at h; exact h.elim
    | true =>
      rw [hm] at h
      exact (drawn_sound hm h).mono fun e st' ⟨h1, h2⟩ => by subst h1; exact h2
  | .seq x y, st, K, h => HasD.seq ((awp_hasD x st _ h).mono fun e st' he => by
      cases e with
      | normal => exact awp_hasD y st' K he
      | _ => exact he)
  | .cond c x y, st, K, h => by
    change (match st.ev c with | .bool t => bif t then awp P x st K else awp P y st K | _ => False) at h
    split at h
    · rename_i t ht
      refine HasD.cond ht (fun e => ?_) (fun e => ?_)
      · rw [e] at h; exact awp_hasD x st K h
      · rw [e] at h; exact awp_hasD y st K h
    · exact h.elim
  | .block id c, st, K, h => HasD.block ((awp_hasD c st _ h).mono fun e st' he => by
      cases e with
      | exit id' =>
        show if id' = id then _ else _
        cases hb : Nat.beq id' id with
        | true => rw [if_pos (Nat.eq_of_beq_eq_true hb)]; simpa [hb] using he
        | false => rw [if_neg (Nat.ne_of_beq_eq_false hb)]; simpa [hb] using he
      | _ => exact he)
  | .loop c, st, K, h => Has.out h
  | .exit id, st, K, h => fun C F a w hi => wp_exit ⟨C, st, h, hi⟩
  | .goto l, st, K, h => fun C F a w hi => wp_goto ⟨C, st, h, hi⟩
  | .ret, st, K, h => fun C F a w hi => wp_ret ⟨C, st, h, hi⟩
  | .rangeFunc .., st, K, h => False.elim h
  | .scope _, st, K, h => False.elim h
  | .refuse _, st, K, h => False.elim h

theorem awp_has {P : Program} {c : Code} {st : St} {K : Exit → St → Prop} (h : awp P c st K) : Has P c st K := ⟨awp_hasD c st K h⟩

theorem awp_go {P : Program} {c : Code} {st : St} {K : Exit → St → Prop} (h : st.force fun st => awp P c st K) : Has P c st K := awp_has (by rwa [St.force_eq] at h)
/-- A list of slots, by those that are looked at. -/
def mkS : Nat → Nat → List (Nat × G) → List G
  | 0, _, _ => []
  | n + 1, i, l => (match l.find? (fun p => Nat.beq p.1 i) with | some p => p.2 | none => .junk) :: mkS n (i + 1) l
def mkB : Nat → Nat → List (Nat × List G) → List (Option (List G))
  | 0, _, _ => []
  | n + 1, i, l => (match l.find? (fun p => Nat.beq p.1 i) with | some p => some p.2 | none => none) :: mkB n (i + 1) l
def mkR : Nat → Nat → List (Nat × List (List G)) → List (Option (List (List G)))
  | 0, _, _ => []
  | n + 1, i, l => (match l.find? (fun p => Nat.beq p.1 i) with | some p => some p.2 | none => none) :: mkR n (i + 1) l
def St.of (n : Nat) (s : List (Nat × G)) (b : List (Nat × List G)) (r : List (Nat × List (List G))) : St := ⟨mkS n 0 s, mkB n 0 b, mkR n 0 r⟩
/-- A loop, round by round. -/
def HasN (P : Program) (c : Code) (K : Exit → St → Prop) : Nat → St → Prop
  | 0, _ => False
  | n + 1, st => awp P c st fun e st' => match e with | .normal => HasN P c K n st' | e => K e st'
theorem Has.ofN {P : Program} {c : Code} {st : St} {K : Exit → St → Prop} (n : Nat) (h : HasN P c K n st) : Has P (.loop c) st K := by
  refine ⟨fun C F a w hi => ?_⟩
  have key : ∀ n st C a w, HasN P c K n st → Inv C F st a w → Code.rounds P c (fun e a' w' => ∃ C' st', K e st' ∧ Inv C' F st' a' w') n a w := by
    intro n
    induction n with
    | zero => intro st C a w h _; exact h.elim
    | succ n ih =>
      intro st C a w h hi
      rw [rounds_succ]
      refine wp_mono (awp_hasD c st _ h C F a w hi) fun e a' w' ⟨C', st', h1, h2⟩ => ?_
      cases e with
      | normal => exact ih st' C' a' w' h1 h2
      | _ => exact ⟨C', st', h1, h2⟩
  exact wp_loop_rounds n (key n st C a w h hi)

/-! The result. -/
def resOne (P : Program) (st : St) : ResultVar → (G → Prop) → Prop
  | .tmp t, k => fA (st.ev (.tmp t)) k
  | .cell a t, k => match st.ev (.tmp a) with
    | .ptr b off => loadP P t st (.ptr b off) fun g => fA g k
    | _ => False
def resList (P : Program) (st : St) : List ResultVar → (List G → Prop) → Prop
  | [], k => k []
  | r :: rs, k => resOne P st r fun g => resList P st rs fun gs => k (g :: gs)
def resP (P : Program) (st : St) (rs : List ResultVar) (k : G → Prop) : Prop :=
  match rs with
  | [r] => resOne P st r k
  | rs => resList P st rs fun gs => k (.tup gs)

def oneSem (tmps : Array Value) (r : ResultVar) : Sem Value :=
  match r with
  | .tmp t => pure (tmps.getD t undef)
  | .cell a t => do loadVar t (← asAddr (tmps.getD a undef))
theorem resOne_sound {P : Program} {st : St} {r : ResultVar} {k : G → Prop} (h : resOne P st r k) {C : Cx} {F : Fd} {a : Act} {w : World} (hi : Inv C F st a w) :
    ∃ g v, k g ∧ (oneSem a.tmps r).run P w = .ok v w ∧ Rep C w g v := by
  cases r with
  | tmp t => exact ⟨_, _, by simp only [resOne, fA_eq] at h; exact h, rfl, hi.ev (.tmp t)⟩
  | cell p t =>
    simp only [resOne] at h
    have hp := hi.ev (.tmp p)
    cases heq : st.ev (.tmp p) with
    | ptr b off =>
      rw [heq] at h hp
      obtain ⟨g, v, h1, h2, h3⟩ := loadP_sound h hi hp
      rw [fA_eq] at h1
      refine ⟨g, v, h1, ?_, h3⟩
      have e : a.eval (.tmp p) = a.tmps.getD p undef := rfl
      rw [e] at h2 hp
      unfold oneSem
      simp only
      generalize a.tmps.getD p undef = q at hp h2
      cases hp with
      | ptr _ _ B hb =>
        simp only [Instr.loadAt, Instr.sureAddr, Sem.run_bind, Sem.run_pure, Result.andThen_ok] at h2
        simp only [asAddr, Sem.run_bind, Sem.run_pure, Result.andThen_ok]
        exact h2
    | _ => rw [heq] at h; exact h.elim
theorem resList_sound {P : Program} {st : St} {C : Cx} {F : Fd} {a : Act} {w : World} (hi : Inv C F st a w) : ∀ (rs : List ResultVar) (k : List G → Prop), resList P st rs k →
    ∃ gs vs, k gs ∧ (rs.mapM (oneSem a.tmps)).run P w = .ok vs w ∧ vs.length = gs.length ∧ gs.length = rs.length ∧ ∀ (i : Nat) g v, gs[i]? = some g → vs[i]? = some v → Rep C w g v
  | [], k, h => ⟨[], [], h, rfl, rfl, rfl, fun i g v hg => by simp at hg⟩
  | r :: rs, k, h => by
    obtain ⟨g, v, h1, h2, h3⟩ := resOne_sound h hi
    obtain ⟨gs, vs, k1, k2, k3, k4, k5⟩ := resList_sound hi rs _ h1
    refine ⟨g :: gs, v :: vs, k1, ?_, by simp [k3], by simp [k4], fun i g' v' hg hv => ?_⟩
    · rw [List.mapM_cons, Sem.run_bind, h2, Result.andThen_ok, Sem.run_bind, k2]; rfl
    · cases i with
      | zero => simp at hg hv; subst hg; subst hv; exact h3
      | succ i => exact k5 i g' v' (by simpa using hg) (by simpa using hv)
theorem resP_sound {P : Program} {st : St} {fn : Func} {k : G → Prop} (h : resP P st fn.results.toList k) {C : Cx} {F : Fd} {a : Act} {w : World} (hi : Inv C F st a w) :
    ∃ g v, k g ∧ (results fn a.tmps).run P w = .ok v w ∧ Rep C w g v := by
  have e : results fn a.tmps = (do let vs ← fn.results.mapM (oneSem a.tmps); pure (if h : vs.size = 1 then vs[0] else .tuple vs) : Sem Value) := rfl
  rw [e, Array.mapM_eq_mapM_toList]
  simp only [Sem.run_bind, Sem.run_map]
  unfold resP at h
  split at h
  · rename_i r heq
    obtain ⟨g, v, h1, h2, h3⟩ := resOne_sound h hi
    refine ⟨g, v, h1, ?_, h3⟩
    rw [heq, List.mapM_cons, Sem.run_bind, h2]
    rfl
  · rename_i hne
    obtain ⟨gs, vs, h1, h2, h3, h4, h5⟩ := resList_sound hi _ _ h
    refine ⟨.tup gs, .tuple ⟨vs⟩, h1, ?_, .tup gs vs h3 h5⟩
    rw [h2]
    simp only [Result.andThen_ok, Sem.run_pure]
    congr 1
    have hs : ¬ (vs.toArray.size = 1) := by
      intro e1
      have e2 : fn.results.toList.length = 1 := by rw [← h4, ← h3]; simpa using e1
      match hq : fn.results.toList, e2 with
      | [r], _ => exact hne r hq
    rw [dif_neg hs]

/-! A result: own rows are told as values. -/
def dn1 (st : St) (g : G) (k : G → Prop) : Prop :=
  match g with
  | .own kk off len => match st.rows.getD kk none with
    | some xs => off + len ≤ xs.length ∧ k (.sl ((xs.drop off).take len))
    | none => False
  | .nils => k (.sl [])
  | g => k g
def dnL (st : St) : List G → (List G → Prop) → Prop
  | [], k => k []
  | g :: gs, k => dn1 st g fun g' => dnL st gs fun gs' => k (g' :: gs')
def dn2 (st : St) (g : G) (k : G → Prop) : Prop :=
  match g with
  | .agg gs => dnL st gs fun gs' => k (.agg gs')
  | g => dn1 st g k
def dnT (st : St) : List G → (List G → Prop) → Prop
  | [], k => k []
  | g :: gs, k => dn2 st g fun g' => dnT st gs fun gs' => k (g' :: gs')
def dn (st : St) (g : G) (k : G → Prop) : Prop :=
  match g with
  | .tup gs => dnT st gs fun gs' => k (.tup gs')
  | g => dn2 st g k

section
variable {C : Cx} {F : Fd} {st : St} {a : Act} {w : World}
def Cx.out (ex : Nat → Prop) : Cx := { box := fun _ => none, row := fun _ => none, ex := ex }
theorem dn1_sound (hi : Inv C F st a w) (ht : ∀ B, ¬ F.t0 B) (hx : ∀ B, F.ex0 B → B < F.w0.heap.size) {g : G} {k : G → Prop} (h : dn1 st g k) (hc : g.cell = true) {v : Value} (hr : Rep C w g v) : ∃ g', k g' ∧ (g'.closed0 = true → Rep (Cx.out F.ex0) w g' v) ∧ (g'.closed0 = false → g' = g) := by
  have std : ∀ g, k g → Rep C w g v → ∃ g', k g' ∧ (g'.closed0 = true → Rep (Cx.out F.ex0) w g' v) ∧ (g'.closed0 = false → g' = g) := fun g h hr =>
    ⟨g, h, fun h0 => hr.keep0 h0 (Keeps.refl _ _) (fun B _ hn hx => hn (hi.ex0 B hx)), fun _ => rfl⟩
  unfold dn1 at h
  split at h
  · rename_i kk off len
    split at h
    · rename_i xs hxs
      obtain ⟨hle, h⟩ := h
      refine ⟨_, h, fun _ => ?_, fun h0 => by simp [G.closed0] at h0⟩
      have hlen : ((xs.drop off).take len).length = len := by simp; omega
      cases hr with
      | ownnil _ hk => simp; exact .slnil _ _
      | own _ _ _ B s sz n A hk ho hA =>
        rcases hi.mem.row kk xs (rowsOf hxs) with k1 | ⟨B', s', z', n', vs, T, fz, k1, k2, k3, k4, k5, k6, k6b, k7, k8⟩
        · rw [hk] at k1; cases k1.1
        · rw [hk] at k1; cases k1
          have hB : F.w0.heap.size ≤ B := (hi.tr kk B s sz n hk).resolve_left (ht B)
          have hnx : ¬ (Cx.out F.ex0).ex B := fun h => by have := hx B h; omega
          have hget : ∀ (i : Nat) r, ((xs.drop off).take len)[i]? = some r → xs[off + i]? = some r := fun i r hir => by
            rw [List.getElem?_take] at hir
            split at hir
            · rwa [List.getElem?_drop] at hir
            · cases hir
          have hmem : ∀ r ∈ (xs.drop off).take len, r ∈ xs := fun r hr => List.mem_of_mem_drop (List.mem_of_mem_take hr)
          have main : ∀ (A' : Addr), A' = ⟨B, s + off * sz, none⟩ → Rep (Cx.out F.ex0) w (.sl ((xs.drop off).take len)) (.slice (some A') ((xs.drop off).take len).length (n - off)) := fun A' e => by
            subst e
            refine .sl _ ⟨B, s + off * sz, none⟩ (n - off) sz (fun i j => vs.getD (s + (off + i) * sz + j) undef) rfl (hi.mem.lt B k2) hnx (by rw [hlen]; omega) (fun r hr => (k7 r (hmem r hr)).1) (fun r hr => (k7 r (hmem r hr)).2) (fun i r j g h1 h2 => ?_) (fun i r j g h1 h2 => ?_)
            all_goals
              have hrow := hget i r h1
              have hj0 : j < sz := by rw [← (k7 r (List.mem_of_getElem? hrow)).1]; exact (List.getElem?_eq_some_iff.1 h2).1
              have hlt : off + i < xs.length := (List.getElem?_eq_some_iff.1 hrow).1
              have hj : s + (off + i) * sz + j < vs.length := by
                have := mul_lt (show off + i < n by omega) hj0; omega
              have hv : vs[s + (off + i) * sz + j]? = some (vs.getD (s + (off + i) * sz + j) undef) := by rw [List.getD_eq_getElem?_getD, List.getElem?_eq_getElem hj]; rfl
            · show w.cell? ⟨B, s + off * sz + i * sz + j, none⟩ = _
              rw [show s + off * sz + i * sz + j = s + (off + i) * sz + j from by rw [Nat.add_mul]; omega, cell_of_block k3]
              exact hv
            · exact (k8 (off + i) r j g _ hrow h2 hv).keep0 ((k7 r (List.mem_of_getElem? hrow)).2 g (List.mem_of_getElem? h2)) (Keeps.refl _ _) (fun B _ hn hx => hn (hi.ex0 B hx))
          by_cases hoff : off < n
          · have := main A (hA.1 hoff)
            rw [hlen] at this; exact this
          · obtain rfl : len = 0 := by omega
            have e : (xs.drop off).take 0 = [] := by simp
            rw [e]
            exact .sl [] A (n - off) sz (fun _ _ => undef) hA.2.2 (by rw [hA.2.1]; exact hi.mem.lt B k2) (by rw [hA.2.1]; exact hnx) (by simp) (fun r hr => by cases hr) (fun r hr => by cases hr) (fun i r j g hi => by cases hi) (fun i r j g hi => by cases hi)
    · exact h.elim
  · refine ⟨_, h, fun _ => ?_, fun h0 => by simp [G.closed0] at h0⟩
    cases hr; exact .slnil _ _
  · exact std _ h hr
theorem dnL_sound (hi : Inv C F st a w) (ht : ∀ B, ¬ F.t0 B) (hx : ∀ B, F.ex0 B → B < F.w0.heap.size) : ∀ (gs : List G) (k : List G → Prop) (vs : List Value), dnL st gs k → (∀ g ∈ gs, g.cell = true) → vs.length = gs.length → (∀ (i : Nat) g v, gs[i]? = some g → vs[i]? = some v → Rep C w g v) →
    ∃ gs', k gs' ∧ gs'.length = gs.length ∧ ∀ (i : Nat) g v, gs'[i]? = some g → vs[i]? = some v → g.closed0 = true → Rep (Cx.out F.ex0) w g v
  | [], k, vs, h, hc, hl, hr => ⟨[], h, rfl, fun i g v hg => by simp at hg⟩
  | g :: gs, k, [], h, hc, hl, hr => by simp at hl
  | g :: gs, k, v :: vs, h, hc, hl, hr => by
    obtain ⟨g', h1, h2, _⟩ := dn1_sound hi ht hx (g := g) h (hc g (by simp)) (hr 0 g v rfl rfl)
    obtain ⟨gs', k1, k2, k3⟩ := dnL_sound hi ht hx gs _ vs h1 (fun g hg => hc g (by simp [hg])) (by simpa using hl) (fun i g v hg hv => hr (i + 1) g v (by simpa using hg) (by simpa using hv))
    refine ⟨g' :: gs', k1, by simp [k2], fun i q u hg hv h0 => ?_⟩
    cases i with
    | zero => simp at hg hv; subst hg; subst hv; exact h2 h0
    | succ i => exact k3 i q u (by simpa using hg) (by simpa using hv) h0
theorem dn2_sound (hi : Inv C F st a w) (ht : ∀ B, ¬ F.t0 B) (hx : ∀ B, F.ex0 B → B < F.w0.heap.size) {g : G} {k : G → Prop} (h : dn2 st g k) {v : Value} (hr : Rep C w g v) : ∃ g', k g' ∧ (g'.closed = true → Rep (Cx.out F.ex0) w g' v) ∧ (∀ gs, g' = .tup gs → ∃ gs, g = .tup gs) := by
  cases g with
  | agg gs =>
    obtain ⟨vs, rfl, ⟨h1, h2, h3⟩, h4⟩ := hr.agg_inv
    obtain ⟨gs', k1, k2, k3⟩ := dnL_sound hi ht hx gs _ vs h h4 h1 h3
    refine ⟨_, k1, fun h0 => ?_, fun _ h => by cases h⟩
    simp only [G.closed, List.all_eq_true] at h0
    exact .agg gs' vs (by rw [h1, k2]) (fun g hg => closed0_cell (h0 g hg)) h2 (fun i g v hg hv => k3 i g v hg hv (h0 g (List.mem_of_getElem? hg)))
  | tup gs => exact ⟨_, h, (fun h0 => by simp [G.closed, G.closed0] at h0), fun _ _ => ⟨_, rfl⟩⟩
  | junk => exact ⟨_, h, (fun h0 => by simp [G.closed, G.closed0] at h0), fun _ h => by cases h⟩
  | fn f caps => exact ⟨_, h, fun h0 => hr.closed h0 (Keeps.refl _ _) (fun B _ hn hx => hn (hi.ex0 B hx)), fun _ h => by cases h⟩
  | _ =>
    simp only [dn2] at h
    obtain ⟨g', h1, h2, h3⟩ := dn1_sound (k := k) hi ht hx (hr := hr) (hc := rfl) (h := h)
    refine ⟨g', h1, fun h0 => ?_, fun gs e => by subst e; have := h3 rfl; cases this⟩
    by_cases hc : g'.closed0 = true
    · exact h2 hc
    · have := h3 (by simpa using hc)
      subst this
      simp_all [G.closed, G.closed0]
theorem dnT_sound (hi : Inv C F st a w) (ht : ∀ B, ¬ F.t0 B) (hx : ∀ B, F.ex0 B → B < F.w0.heap.size) : ∀ (gs : List G) (k : List G → Prop) (vs : List Value), dnT st gs k → vs.length = gs.length → (∀ (i : Nat) g v, gs[i]? = some g → vs[i]? = some v → Rep C w g v) →
    ∃ gs', k gs' ∧ gs'.length = gs.length ∧ ∀ (i : Nat) g v, gs'[i]? = some g → vs[i]? = some v → g.closed = true → Rep (Cx.out F.ex0) w g v
  | [], k, vs, h, hl, hr => ⟨[], h, rfl, fun i g v hg => by simp at hg⟩
  | g :: gs, k, [], h, hl, hr => by simp at hl
  | g :: gs, k, v :: vs, h, hl, hr => by
    obtain ⟨g', h1, h2, _⟩ := dn2_sound hi ht hx (g := g) h (hr 0 g v rfl rfl)
    obtain ⟨gs', k1, k2, k3⟩ := dnT_sound hi ht hx gs _ vs h1 (by simpa using hl) (fun i g v hg hv => hr (i + 1) g v (by simpa using hg) (by simpa using hv))
    refine ⟨g' :: gs', k1, by simp [k2], fun i q u hg hv h0 => ?_⟩
    cases i with
    | zero => simp at hg hv; subst hg; subst hv; exact h2 h0
    | succ i => exact k3 i q u (by simpa using hg) (by simpa using hv) h0
theorem dn_sound (hi : Inv C F st a w) (ht : ∀ B, ¬ F.t0 B) (hx : ∀ B, F.ex0 B → B < F.w0.heap.size) {g : G} {k : G → Prop} (h : dn st g k) {v : Value} (hr : Rep C w g v) : ∃ g', k g' ∧ (g'.closedR = true → Rep (Cx.out F.ex0) w g' v) := by
  have std : dn2 st g k → (∀ gs, g ≠ .tup gs) → ∃ g', k g' ∧ (g'.closedR = true → Rep (Cx.out F.ex0) w g' v) := fun h hne => by
    obtain ⟨g', h1, h2, h3⟩ := dn2_sound hi ht hx h hr
    refine ⟨g', h1, fun h0 => h2 ?_⟩
    cases g' <;> first | exact h0 | skip
    obtain ⟨gs, e⟩ := h3 _ rfl
    exact absurd e (hne gs)
  cases g with
  | tup gs =>
    cases hr with
    | tup _ vs hl hr =>
      obtain ⟨gs', k1, k2, k3⟩ := dnT_sound hi ht hx gs _ vs h hl hr
      refine ⟨_, k1, fun h0 => ?_⟩
      simp only [G.closedR, List.all_eq_true] at h0
      exact .tup gs' vs (by rw [hl, k2]) (fun i g v hg hv => k3 i g v hg hv (h0 g (List.mem_of_getElem? hg)))
  | _ => exact std h (fun gs => by simp)
end
/-- The state at a function's begin. -/
def St.enter (N : Nat) (args : List G) : St := ⟨args ++ List.replicate (N - args.length) .junk, List.replicate N none, List.replicate N none⟩

/-- A function's contract, out of its body. -/
theorem Fv.of_awp {P : Program} {f : FuncId} {fn : Func} {c : Code} {args : List G} {g : G} (hf : P.funcs[f]? = some fn) (hb : fn.body = some c) (hh : hasBody P f = true) (hg : g.closedR = true) (hn : args.length ≤ fn.ntmps)
    (h : awp P c (St.enter fn.ntmps args) fun e st => match e with | .normal => resP P st fn.results.toList fun g' => dn st g' fun g' => g' = g | .ret => resP P st fn.results.toList fun g' => dn st g' fun g' => g' = g | _ => False) : Fv P f args g := by
  refine ⟨hh, fun C w t0 vs hl hr hM ht hb0 hr0 => calls_of_wp hf hb ?_⟩
  let F : Fd := ⟨w, fun _ => False, C.ex⟩
  have hC : ∀ b, C.box b = none := fun b => by
    cases hx : C.box b with
    | none => rfl
    | some B => obtain ⟨cs, hcs⟩ := hM.domB b B hx; simp at hcs
  have hCr : ∀ b, C.row b = none := fun b => by
    cases hx : C.row b with
    | none => rfl
    | some B => obtain ⟨cs, hcs⟩ := hM.domR b B hx; simp at hcs
  have hsl : ∀ (i : Nat) g v, (args ++ List.replicate (fn.ntmps - args.length) G.junk)[i]? = some g → ((⟨vs⟩ : Array Value) ++ Array.replicate (fn.ntmps - (⟨vs⟩ : Array Value).size) undef)[i]? = some v → Rep C w g v := fun i g v hg hv => by
    by_cases hlt : i < args.length
    · rw [List.getElem?_append_left hlt] at hg
      rw [Array.getElem?_append_left (by simpa [hl] using hlt)] at hv
      exact hr i g v hg (by simpa using hv)
    · rw [List.getElem?_append_right (by omega)] at hg
      rw [List.getElem?_replicate] at hg
      split at hg
      · cases hg; exact .junk _
      · cases hg
  have hI : Inv C F (St.enter fn.ntmps args) { tmps := (⟨vs⟩ : Array Value) ++ Array.replicate (fn.ntmps - (⟨vs⟩ : Array Value).size) undef, defers := [] } w := by
    refine ⟨rfl, by simp [St.enter, hl], hsl, ⟨fun b cs hb => ?_, fun k xs hk => ?_, fun b B hB => (by rw [hC] at hB; cases hB), fun k r hr => (by rw [hCr] at hr; cases hr), hM.bb, hM.rr, hM.br, hM.lt⟩,
      ⟨rfl, rfl, rfl, Nat.le_refl _, fun _ _ _ => rfl⟩, fun _ h => h, fun _ h => .inl h, fun _ h => h.elim, fun b B hB => (by rw [hC] at hB; cases hB), fun k B s sz n hk => (by rw [hCr] at hk; cases hk)⟩
    · simp [St.enter, List.getElem?_replicate] at hb
    · simp [St.enter, List.getElem?_replicate] at hk
  refine wp_mono (awp_hasD c _ _ h C F _ w hI) fun e a' w' ⟨C', st', h1, h2⟩ => ?_
  have fin : resP P st' fn.results.toList (fun g' => dn st' g' fun g' => g' = g) → a'.defers = [] ∧ ∃ v, (results fn a'.tmps).run P w' = .ok v w' ∧ ∃ v_1 C'_1 g_1 bs' rs', (Ending.returned v) = .returned v_1 ∧ (g_1 = g ∧ bs' = [] ∧ rs' = []) ∧ Rep C'_1 w' g_1 v_1 ∧ Mem C'_1 w' bs' rs' ∧ Ends C t0 w C'_1 w' := fun hres => by
    obtain ⟨g0, v, k1, k2, k3⟩ := resP_sound hres h2
    obtain ⟨g', rfl, k4⟩ := dn_sound h2 (fun _ h => h) hM.lt k1 k3
    refine ⟨h2.nd, v, k2, v, Cx.out C.ex, g', [], [], rfl, ⟨rfl, rfl, rfl⟩, k4 hg, mem0 w' C.ex (fun B hB => Nat.lt_of_lt_of_le (hM.lt B hB) h2.fr.size), ?_⟩
    exact ⟨fun b B hB => (by rw [hC] at hB; cases hB), ⟨h2.fr.os, h2.fr.tape, h2.fr.output, h2.fr.size, fun B hB _ => h2.fr.block B hB (fun h => h)⟩, fun _ h => h, fun _ h => .inl h, fun _ _ h => (by cases h), fun _ _ _ _ _ h => (by cases h)⟩
  cases e with
  | normal => exact fin h1
  | ret => exact fin h1
  | _ => exact h1.elim
end Go.Proofs.Yteioecdfimphaaa.Av
