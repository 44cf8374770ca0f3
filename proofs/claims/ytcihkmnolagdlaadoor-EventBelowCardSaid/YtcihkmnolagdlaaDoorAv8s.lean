/- Own rows told as values: at a function's end, and to a callee that is lent them. No condition. -/
import Derived.Test.YtcihkmnolagdlaaDoorAv8r
namespace Go.Proofs.YtcihkmnolagdlaaDoor.Av
open Go Go.RowKit
set_option linter.unusedVariables false
set_option linter.unusedSimpArgs false

/-! A result: own rows are told as values. -/
def dn1 (st : St) (g : G) (k : G → Prop) : Prop :=
  match g with
  | .own kk off len => match st.rows.getD kk none with
    | some xs => off + len ≤ xs.length ∧ k (.sl ((xs.drop off).take len))
    | none => False
  | .nils => k (.sl [])
  | .emp => k (.sl [])
  | .ne => k (.sl [])
  | g => k g
def dnL (st : St) (gs : List G) : (List G → Prop) → Prop :=
  List.rec (motive := fun _ => (List G → Prop) → Prop) (fun k => k []) (fun g _ ih k => dn1 st g fun g' => ih fun gs' => k (g' :: gs')) gs
def dn2 (st : St) (g : G) (k : G → Prop) : Prop :=
  match g with
  | .agg gs => dnL st gs fun gs' => k (.agg gs')
  | g => dn1 st g k
def dnT (st : St) (gs : List G) : (List G → Prop) → Prop :=
  List.rec (motive := fun _ => (List G → Prop) → Prop) (fun k => k []) (fun g _ ih k => dn2 st g fun g' => ih fun gs' => k (g' :: gs')) gs
def dn (st : St) (g : G) (k : G → Prop) : Prop :=
  match g with
  | .tup gs => dnT st gs fun gs' => k (.tup gs')
  | g => dn2 st g k

section
variable {C : Cx} {F : Fd} {st : St} {a : Act} {w : World}
def Cx.out (ex : Nat → Prop) : Cx := { box := fun _ => none, row := fun _ => none, ex := ex }
theorem dn1_sound (hi : Inv C F st a w) {Co : Cx} (hx1 : ∀ B, B < w.heap.size → ¬ C.ex B → ¬ Co.ex B) (hx2 : ∀ k B s sz n, C.row k = some (some (B, s, sz, n)) → ¬ Co.ex B) {g : G} {k : G → Prop} (h : dn1 st g k) (hc : g.cell = true) {v : Value} (hr : Rep C w g v) : ∃ g', k g' ∧ (g'.closed0 = true → Rep Co w g' v) ∧ (g'.closed0 = false → g' = g) := by
  have std : ∀ g, k g → Rep C w g v → ∃ g', k g' ∧ (g'.closed0 = true → Rep Co w g' v) ∧ (g'.closed0 = false → g' = g) := fun g h hr =>
    ⟨g, h, fun h0 => hr.keep0 h0 (Keeps.refl _ _) hx1, fun _ => rfl⟩
  unfold dn1 at h
  split at h
  · rename_i kk off len
    split at h
    · rename_i xs hxs
      obtain ⟨hle, h⟩ := h
      refine ⟨_, h, fun _ => ?_, fun h0 => by simp [G.closed0] at h0⟩
      have hlen : ((xs.drop off).take len).length = len := by simp; omega
      cases hr with
      | ownnil _ _ hk => simp; exact .slnil _ _ (fun _ => rfl)
      | own _ _ _ B s sz n A hk ho hA hn0 =>
        rcases hi.mem.row2 (rowsOf hxs) (fun km => km.np hk hn0) with k1 | ⟨B', s', z', n', vs, T, fz, k1, k2, k3, k4, k5, k6, k6b, k7, k8⟩
        · rw [hk] at k1; cases k1.1
        · rw [hk] at k1; cases k1
          have hnx : ¬ Co.ex B := hx2 kk B s sz n hk
          have hget : ∀ (i : Nat) r, ((xs.drop off).take len)[i]? = some r → xs[off + i]? = some r := fun i r hir => by
            rw [List.getElem?_take] at hir
            split at hir
            · rwa [List.getElem?_drop] at hir
            · cases hir
          have hmem : ∀ r ∈ (xs.drop off).take len, r ∈ xs := fun r hr => List.mem_of_mem_drop (List.mem_of_mem_take hr)
          have main : ∀ (A' : Addr), A' = ⟨B, s + off * sz, none⟩ → Rep Co w (.sl ((xs.drop off).take len)) (.slice (some A') ((xs.drop off).take len).length (n - off)) := fun A' e => by
            subst e
            refine .sl _ ⟨B, s + off * sz, none⟩ (n - off) sz (fun i j => vs.getD (s + (off + i) * sz + j) undef) rfl (hi.mem.lt B k2) hnx (by rw [hlen]; omega) (fun r hr => (k7 r (hmem r hr)).1) (fun r hr => (k7 r (hmem r hr)).2) (fun i r j g h1 h2 => ?_) (fun i r j g h1 h2 => ?_)
            all_goals
              have hrow := hget i r h1
              have hj0 : j < sz := by rw [← (k7 r (List.mem_of_getElem? hrow)).1]; exact (List.getElem?_eq_some_iff.1 h2).1
              have hlt : off + i < xs.length := (List.getElem?_eq_some_iff.1 hrow).1
              have hj : s + (off + i) * sz + j < vs.length := by
                have := mul_lt (show off + i < n by omega) hj0; omega
              have hv : vs[s + (off + i) * sz + j]? = some (vs.getD (s + (off + i) * sz + j) undef) := by rw [List.getD_eq_getElem?_getD, List.getElem?_eq_getElem hj]; rfl
            · show w.cell? ⟨B, s + off * sz + i * sz + j, none⟩ = _
              rw [show s + off * sz + i * sz + j = s + (off + i) * sz + j from by rw [Nat.add_mul]; omega, cell_of_block k3]
              exact hv
            · exact (k8 (off + i) r j g _ hrow h2 hv).keep0 ((k7 r (List.mem_of_getElem? hrow)).2 g (List.mem_of_getElem? h2)) (Keeps.refl _ _) hx1
          by_cases hoff : off < n
          · have := main A (hA.1 hoff)
            rw [hlen] at this; exact this
          · obtain rfl : len = 0 := by omega
            have e : (xs.drop off).take 0 = [] := by simp
            rw [e]
            exact .sl [] A (n - off) sz (fun _ _ => undef) hA.2.2 (by rw [hA.2.1]; exact hi.mem.lt B k2) (by rw [hA.2.1]; exact hnx) (by simp) (fun r hr => by cases hr) (fun r hr => by cases hr) (fun i r j g hi => by cases hi) (fun i r j g hi => by cases hi)
    · exact h.elim
  · refine ⟨_, h, fun _ => ?_, fun h0 => by simp [G.closed0] at h0⟩
    cases hr; exact .slnil _ _ (fun _ => rfl)
  · refine ⟨_, h, fun _ => ?_, fun h0 => by simp [G.closed0] at h0⟩
    cases hr; exact .slnil _ _ (fun _ => rfl)
  · refine ⟨_, h, fun _ => ?_, fun h0 => by simp [G.closed0] at h0⟩
    cases hr; exact .slnil _ _ (fun e => by cases e)
  · exact std _ h hr
theorem dnL_sound (hi : Inv C F st a w) {Co : Cx} (hx1 : ∀ B, B < w.heap.size → ¬ C.ex B → ¬ Co.ex B) (hx2 : ∀ k B s sz n, C.row k = some (some (B, s, sz, n)) → ¬ Co.ex B) : ∀ (gs : List G) (k : List G → Prop) (vs : List Value), dnL st gs k → (∀ g ∈ gs, g.cell = true) → vs.length = gs.length → (∀ (i : Nat) g v, gs[i]? = some g → vs[i]? = some v → Rep C w g v) →
    ∃ gs', k gs' ∧ gs'.length = gs.length ∧ ∀ (i : Nat) g v, gs'[i]? = some g → vs[i]? = some v → g.closed0 = true → Rep Co w g v
  | [], k, vs, h, hc, hl, hr => ⟨[], h, rfl, fun i g v hg => by simp at hg⟩
  | g :: gs, k, [], h, hc, hl, hr => by simp at hl
  | g :: gs, k, v :: vs, h, hc, hl, hr => by
    have h : dn1 st g fun g' => dnL st gs fun gs' => k (g' :: gs') := h
    obtain ⟨g', h1, h2, _⟩ := dn1_sound hi hx1 hx2 (g := g) h (hc g (by simp)) (hr 0 g v rfl rfl)
    obtain ⟨gs', k1, k2, k3⟩ := dnL_sound hi hx1 hx2 gs _ vs h1 (fun g hg => hc g (by simp [hg])) (by simpa using hl) (fun i g v hg hv => hr (i + 1) g v (by simpa using hg) (by simpa using hv))
    refine ⟨g' :: gs', k1, by simp [k2], fun i q u hg hv h0 => ?_⟩
    cases i with
    | zero => simp at hg hv; subst hg; subst hv; exact h2 h0
    | succ i => exact k3 i q u (by simpa using hg) (by simpa using hv) h0
theorem dn2_sound (hi : Inv C F st a w) {Co : Cx} (hx1 : ∀ B, B < w.heap.size → ¬ C.ex B → ¬ Co.ex B) (hx2 : ∀ k B s sz n, C.row k = some (some (B, s, sz, n)) → ¬ Co.ex B) {g : G} {k : G → Prop} (h : dn2 st g k) {v : Value} (hr : Rep C w g v) : ∃ g', k g' ∧ (g'.closed = true → Rep Co w g' v) ∧ (∀ gs, g' = .tup gs → ∃ gs, g = .tup gs) := by
  cases g with
  | agg gs =>
    obtain ⟨vs, rfl, ⟨h1, h2, h3⟩, h4⟩ := hr.agg_inv
    obtain ⟨gs', k1, k2, k3⟩ := dnL_sound hi hx1 hx2 gs _ vs h h4 h1 h3
    refine ⟨_, k1, fun h0 => ?_, fun _ h => by cases h⟩
    simp only [G.closed, List.all_eq_true] at h0
    exact .agg gs' vs (by rw [h1, k2]) (fun g hg => closed0_cell (h0 g hg)) h2 (fun i g v hg hv => k3 i g v hg hv (h0 g (List.mem_of_getElem? hg)))
  | tup gs => exact ⟨_, h, (fun h0 => by simp [G.closed, G.closed0] at h0), fun _ _ => ⟨_, rfl⟩⟩
  | junk => exact ⟨_, h, (fun h0 => by simp [G.closed, G.closed0] at h0), fun _ h => by cases h⟩
  | und => exact ⟨_, h, (fun h0 => by simp [G.closed, G.closed0] at h0), fun _ h => by cases h⟩
  | fn f caps => exact ⟨_, h, fun h0 => hr.closed h0 (Keeps.refl _ _) hx1, fun _ h => by cases h⟩
  | elt row off => exact ⟨_, h, fun h0 => hr.closed h0 (Keeps.refl _ _) hx1, fun _ h => by cases h⟩
  | _ =>
    simp only [dn2] at h
    obtain ⟨g', h1, h2, h3⟩ := dn1_sound (k := k) hi hx1 hx2 (hr := hr) (hc := rfl) (h := h)
    refine ⟨g', h1, fun h0 => ?_, fun gs e => by subst e; have := h3 rfl; cases this⟩
    by_cases hc : g'.closed0 = true
    · exact h2 hc
    · have := h3 (by simpa using hc)
      subst this
      simp_all [G.closed, G.closed0]
theorem dnT_sound (hi : Inv C F st a w) {Co : Cx} (hx1 : ∀ B, B < w.heap.size → ¬ C.ex B → ¬ Co.ex B) (hx2 : ∀ k B s sz n, C.row k = some (some (B, s, sz, n)) → ¬ Co.ex B) : ∀ (gs : List G) (k : List G → Prop) (vs : List Value), dnT st gs k → vs.length = gs.length → (∀ (i : Nat) g v, gs[i]? = some g → vs[i]? = some v → Rep C w g v) →
    ∃ gs', k gs' ∧ gs'.length = gs.length ∧ ∀ (i : Nat) g v, gs'[i]? = some g → vs[i]? = some v → g.closed = true → Rep Co w g v
  | [], k, vs, h, hl, hr => ⟨[], h, rfl, fun i g v hg => by simp at hg⟩
  | g :: gs, k, [], h, hl, hr => by simp at hl
  | g :: gs, k, v :: vs, h, hl, hr => by
    have h : dn2 st g fun g' => dnT st gs fun gs' => k (g' :: gs') := h
    obtain ⟨g', h1, h2, _⟩ := dn2_sound hi hx1 hx2 (g := g) h (hr 0 g v rfl rfl)
    obtain ⟨gs', k1, k2, k3⟩ := dnT_sound hi hx1 hx2 gs _ vs h1 (by simpa using hl) (fun i g v hg hv => hr (i + 1) g v (by simpa using hg) (by simpa using hv))
    refine ⟨g' :: gs', k1, by simp [k2], fun i q u hg hv h0 => ?_⟩
    cases i with
    | zero => simp at hg hv; subst hg; subst hv; exact h2 h0
    | succ i => exact k3 i q u (by simpa using hg) (by simpa using hv) h0
theorem dn_sound (hi : Inv C F st a w) {Co : Cx} (hx1 : ∀ B, B < w.heap.size → ¬ C.ex B → ¬ Co.ex B) (hx2 : ∀ k B s sz n, C.row k = some (some (B, s, sz, n)) → ¬ Co.ex B) {g : G} {k : G → Prop} (h : dn st g k) {v : Value} (hr : Rep C w g v) : ∃ g', k g' ∧ (g'.closedR = true → Rep Co w g' v) := by
  have std : dn2 st g k → (∀ gs, g ≠ .tup gs) → ∃ g', k g' ∧ (g'.closedR = true → Rep Co w g' v) := fun h hne => by
    obtain ⟨g', h1, h2, h3⟩ := dn2_sound hi hx1 hx2 h hr
    refine ⟨g', h1, fun h0 => h2 ?_⟩
    cases g' <;> first | exact h0 | skip
    obtain ⟨gs, e⟩ := h3 _ rfl
    exact absurd e (hne gs)
  cases g with
  | tup gs =>
    cases hr with
    | tup _ vs hl hr =>
      obtain ⟨gs', k1, k2, k3⟩ := dnT_sound hi hx1 hx2 gs _ vs h hl hr
      refine ⟨_, k1, fun h0 => ?_⟩
      simp only [G.closedR, List.all_eq_true] at h0
      exact .tup gs' vs (by rw [hl, k2]) (fun i g v hg hv => k3 i g v hg hv (h0 g (List.mem_of_getElem? hg)))
  | _ => exact std h (fun gs => by simp)
end

section
variable {C : Cx} {F : Fd} {st : St} {a : Act} {w : World}
/-- The rows are nobody's: what a callee that is lent them sees. -/
def Cx.lent (C : Cx) : Cx := { box := fun _ => none, row := fun _ => none, ex := fun B => C.ex B ∧ ¬ ∃ k s sz n, C.row k = some (some (B, s, sz, n)) }
def lendP (P : Program) (f : FuncId) (gs : List G) (st : St) (k : G → St → Prop) : Prop :=
  dnT st gs fun gs' => fS gs' fun gs' => bif gs'.all G.closed then ∃ g, Fv P f gs' g ∧ bif g.flatR then k g st else False else False
theorem Rep.flat0 {C C' : Cx} {w w' : World} {g : G} {v : Value} (h : Rep C w g v) (hg : g.flat0 = true) : Rep C' w' g v := by
  cases h <;> first | (simp [G.flat0] at hg; done) | skip
  · exact .int ..
  · exact .bool ..
  · exact .str ..
  · exact .lit _ (by assumption)
theorem Rep.flatR {C C' : Cx} {w w' : World} {g : G} {v : Value} (h : Rep C w g v) (hg : g.flatR = true) : Rep C' w' g v := by
  have ag : ∀ gs v, Rep C w (.agg gs) v → gs.all G.flat0 = true → Rep C' w' (.agg gs) v := fun gs v h hg => by
    simp only [List.all_eq_true] at hg
    cases h with
    | agg _ vs hl hc hv h => exact .agg gs vs hl hc hv (fun i g v h1 h2 => (h i g v h1 h2).flat0 (hg g (List.mem_of_getElem? h1)))
  cases g with
  | agg gs => exact ag gs v h hg
  | tup gs =>
    simp only [G.flatR, List.all_eq_true] at hg
    cases h with
    | tup _ vs hl h =>
      refine .tup gs vs hl (fun i g v h1 h2 => ?_)
      have hr := h i g v h1 h2
      have hq := hg g (List.mem_of_getElem? h1)
      cases g with
      | agg hs => exact ag hs v hr hq
      | _ => exact hr.flat0 hq
  | _ => exact h.flat0 hg
theorem lend_sound {P : Program} {f : FuncId} {gs : List G} {k : G → St → Prop} (h : lendP P f gs st k) (hi : Inv C F st a w) {vs : List Value} (hl : vs.length = gs.length)
    (hr : ∀ (i : Nat) g v, gs[i]? = some g → vs[i]? = some v → Rep C w g v) : hasBody P f = true ∧ Calls P f ⟨vs⟩ w fun e w' => ∃ v, e = .returned v ∧ After F k a v w' := by
  unfold lendP at h
  obtain ⟨gs', h, h2, h3⟩ := dnT_sound (Co := C.lent) hi (fun B _ hn hx => hn hx.1) (fun k B s sz n hk hx => hx.2 ⟨k, s, sz, n, hk⟩) gs _ vs h hl hr
  rw [fS_eq] at h
  cases hc : gs'.all G.closed with
  | false => rw [hc] at h; exact h.elim
  | true =>
    rw [hc] at h
    obtain ⟨g, ⟨hb, hF⟩, h⟩ := h
    refine ⟨hb, ?_⟩
    cases hg : g.flatR with
    | false => rw [hg] at h; exact h.elim
    | true =>
      rw [hg] at h
      simp only [List.all_eq_true] at hc
      refine (hF C.lent w (fun _ => False) vs (by rw [hl, h2]) (fun i g v e1 e2 => h3 i g v e1 e2 (hc g (List.mem_of_getElem? e1))) (mem0 w _ (fun B hB => hi.mem.lt B hB.1)) (fun _ h => h.elim) (fun _ _ h => (by cases h)) (fun _ _ _ _ _ h => (by cases h)) (hi.fixed.sub (fun _ h => h.1))).mono fun e w' he => ?_
      obtain ⟨v, C', g', bs', rs', rfl, ⟨rfl, rfl, rfl⟩, hR, hM, hE⟩ := he
      refine ⟨v, rfl, C, g', st, h, ?_, hR.flatR hg⟩
      have hlt : ∀ B, C.ex B → w'.heap[B]? = w.heap[B]? := fun B hB => hE.fr.block B (hi.mem.lt B hB) (fun h => h)
      exact hi.step ⟨hE.fr.os.trans hi.fr.os, hE.fr.tape.trans hi.fr.tape, hE.fr.output.trans hi.fr.output, Nat.le_trans hi.fr.size hE.fr.size, fun B hB hn => (hE.fr.block B (by have := hi.fr.size; omega) (fun h => h)).trans (hi.fr.block B hB hn), hi.fr.ty2 hE.fr⟩
        ⟨hE.fr.size, fun B hB _ => hE.fr.block B hB (fun h => h), hE.fr.ty⟩ (fun b B hB => hlt B (hi.mem.ltB hB)) (fun k B s sz n hk => hlt B (hi.mem.ltR hk)) C.ex (fun _ h => h) (fun _ h => .inl h) (fun B hB => by have := hi.mem.lt B hB; have := hE.fr.size; omega)
end
end Go.Proofs.YtcihkmnolagdlaaDoor.Av
