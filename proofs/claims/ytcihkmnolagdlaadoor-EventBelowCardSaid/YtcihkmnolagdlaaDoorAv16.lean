/- Loops over a list, element by element. No condition. -/
import Derived.Test.YtcihkmnolagdlaaDoorAv9
namespace Go.Proofs.YtcihkmnolagdlaaDoor.Av
open Go Go.RowKit
set_option linter.unusedVariables false

/-- A loop with a number from 0 on up to n: sh tells the state at the head of a round, I what holds there. -/
theorem Has.each {β : Type} {P : Program} {c : Code} {st : St} {K : Exit → St → Prop} (L D : List Nat) (n : Nat) (I : Nat → β → Prop) (sh : β → Int → St)
    (h0 : ∃ b i, st.at L D = sh b i ∧ I 0 b ∧ i = 0)
    (hr : ∀ (k : Nat) b, k < n → I k b → Has P c (sh b k) fun e st' => match e with | .normal => ∃ b' i', st'.at L D = sh b' i' ∧ I (k + 1) b' ∧ i' = (k : Int) + 1 | e => K e st')
    (he : ∀ b, I n b → Has P c (sh b n) fun e st' => match e with | .normal => False | e => K e st') : Has P (.loop c) st K := by
  obtain ⟨b0, i0, h1, h2, rfl⟩ := h0
  refine Has.loopD L D (fun m st => ∃ k b, k ≤ n ∧ m = n - k ∧ I k b ∧ st = sh b (k : Nat)) n ⟨0, b0, by omega, by omega, h2, h1⟩ fun m st hJ => ?_
  obtain ⟨k, b, hk, rfl, hI, rfl⟩ := hJ
  by_cases hlt : k < n
  · refine ⟨fun C F a w hi => wp_mono ((hr k b hlt hI).out C F a w hi) fun e a' w' ⟨C', st', q1, q2⟩ => ⟨C', st', ?_, q2⟩⟩
    cases e with
    | normal =>
      obtain ⟨b', i', e1, e2, rfl⟩ := q1
      exact ⟨n - (k + 1), by omega, k + 1, b', by omega, rfl, e2, e1⟩
    | _ => exact q1
  · obtain rfl : k = n := by omega
    refine ⟨fun C F a w hi => wp_mono ((he b hI).out C F a w hi) fun e a' w' ⟨C', st', q1, q2⟩ => ⟨C', st', ?_, q2⟩⟩
    cases e with
    | normal => exact q1.elim
    | _ => exact q1
theorem row_at {α : Type} {l : List α} {R : α → List G} {k : Nat} (hk : k < l.length) : 0 ≤ (k : Int) ∧ (l.map R)[((k : Int)).toNat]? = some (R l[k]) :=
  ⟨Int.natCast_nonneg k, by simp [List.getElem?_eq_getElem hk]⟩
theorem lt_at {α : Type} {l : List α} {R : α → List G} {k : Nat} (hk : k < l.length) : decide ((k : Int) < ((l.map R).length : Int)) = true := by simp [hk]
theorem lt_end {α : Type} {l : List α} {R : α → List G} : decide ((l.length : Int) < ((l.map R).length : Int)) = false := by simp
theorem cond_1 {b : Bool} {A B : Prop} (h : b = true) (hA : A) : cond b A B := by rw [h]; exact hA
theorem cond_0 {b : Bool} {A B : Prop} (h : b = false) (hB : B) : cond b A B := by rw [h]; exact hB

/-- A nil list, and an empty one. -/
def nl0 : G → G
  | .emp => .sl []
  | .ne => .sl []
  | .nils => .sl []
  | g => g
def nl : G → G
  | .agg gs => .agg (gs.map nl0)
  | g => nl0 g
theorem Rep.nl0 {C : Cx} {w : World} {g : G} {v : Value} (h : Rep C w g v) : Rep C w (nl0 g) v := by
  cases g <;> try exact h
  · cases h; exact .slnil _ _ (fun _ => rfl)
  · cases h; exact .slnil _ _ (fun _ => rfl)
  · cases h; exact .slnil _ _ (fun e => by cases e)
theorem Rep.nl {C : Cx} {w : World} {g : G} {v : Value} (h : Rep C w g v) : Rep C w (nl g) v := by
  cases g with
  | agg gs =>
    cases h with
    | agg _ vs hl hc hv h =>
      refine .agg _ vs (by simpa using hl) (fun g hg => ?_) hv (fun i g v hg hv => ?_)
      · obtain ⟨x, hx, rfl⟩ := List.mem_map.1 hg
        have := hc x hx
        cases x <;> first | exact this | rfl
      · rw [List.getElem?_map] at hg
        obtain ⟨x, hx, rfl⟩ := Option.map_eq_some_iff.1 hg
        exact (h i x v hx hv).nl0
  | _ => exact h.nl0
theorem Fv.nl {P : Program} {f : FuncId} {args : List G} {g : G} (h : Fv P f (args.map nl) g) : Fv P f args g := by
  refine ⟨h.1, fun C w t0 vs hl hr hM h1 h2 h3 h4 => h.2 C w t0 vs (by simpa using hl) (fun i g v hg hv => ?_) hM h1 h2 h3 h4⟩
  rw [List.getElem?_map] at hg
  obtain ⟨x, hx, rfl⟩ := Option.map_eq_some_iff.1 hg
  exact (hr i x v hx hv).nl
/-- A state in which nil lists are told as empty ones. -/
def St.nl (st : St) : St := { st with slots := st.slots.map Av.nl, boxes := st.boxes.map fun o => o.map fun cs => cs.map nl0 }
theorem nl0_cell {g : G} (h : g.cell = true) : (nl0 g).cell = true := by cases g <;> first | exact h | rfl
theorem Inv.nl {C : Cx} {F : Fd} {st : St} {a : Act} {w : World} (h : Inv C F st a w) : Inv C F st.nl a w := by
  refine { h with fb := fun b B hb => ⟨(h.fb b B hb).1, by show (st.slots.map Av.nl).length + 8 ≤ b; rw [List.length_map]; exact (h.fb b B hb).2⟩, sz := by simp [St.nl, h.sz], slots := fun i g v hg hv => ?_, mem := { h.mem with box := fun b cs hb => ?_, domB := fun b B hB => ?_ } }
  · simp only [St.nl, List.getElem?_map] at hg
    obtain ⟨x, hx, rfl⟩ := Option.map_eq_some_iff.1 hg
    exact (h.slots i x v hx hv).nl
  · simp only [St.nl, List.getElem?_map] at hb
    obtain ⟨x, hx, e⟩ := Option.map_eq_some_iff.1 hb
    cases x with
    | none => cases e
    | some cs0 =>
      obtain rfl := Option.some.inj e
      obtain ⟨B, vs, T, h1, h2, h3, h4, h5, h6⟩ := h.mem.box b cs0 hx
      refine ⟨B, vs, T, h1, h2, h3, by simpa using h4, h5, fun i g v hg hv => ?_⟩
      rw [List.getElem?_map] at hg
      obtain ⟨y, hy, rfl⟩ := Option.map_eq_some_iff.1 hg
      exact ⟨nl0_cell (h6 i y v hy hv).1, (h6 i y v hy hv).2.nl0⟩
  · obtain ⟨cs, hcs⟩ := h.mem.domB b B hB
    exact ⟨cs.map nl0, by simp [St.nl, List.getElem?_map, hcs]⟩
theorem Has.nl {P : Program} {c : Code} {st : St} {K : Exit → St → Prop} (h : Has P c st.nl K) : Has P c st K := ⟨fun C F a w hi => h.out C F a w hi.nl⟩
/-- An empty slice is nil, or it is not. -/
theorem Rep.nilCases {C : Cx} {w : World} {v : Value} (h : Rep C w (.sl []) v) : Rep C w .nils v ∨ Rep C w .ne v := by
  cases h with
  | slnil A cap h =>
    cases A with
    | none => rw [h rfl]; exact .inl .nils
    | some a => exact .inr (.ne a cap)
  | sl _ a cap => exact .inr (.ne a cap)
theorem Fun.nilCases {P : Program} {f : FuncId} {args : List G} {bs : List (List G)} {rs : List (List (List G))} {R : G → List (Option (List G)) → List (Option (List (List G))) → Prop} (h1 : Fun P f (.nils :: args) bs rs R) (h2 : Fun P f (.ne :: args) bs rs R) : Fun P f (.sl [] :: args) bs rs R := by
  refine ⟨h1.1, fun C w t0 vs hl hr hM ht hb hr' hfx => ?_⟩
  match vs, hl with
  | v :: vs, hl =>
    have tl : ∀ g0, Rep C w g0 v → ∀ (i : Nat) g u, (g0 :: args)[i]? = some g → (v :: vs)[i]? = some u → Rep C w g u := fun g0 h0 i g u hg hu => by
      cases i with
      | zero => simp at hg hu; subst hg; subst hu; exact h0
      | succ i => exact hr (i + 1) g u (by simpa using hg) (by simpa using hu)
    rcases (hr 0 _ v rfl rfl).nilCases with h | h
    · exact h1.2 C w t0 _ hl (tl _ h) hM ht hb hr' hfx
    · exact h2.2 C w t0 _ hl (tl _ h) hM ht hb hr' hfx
theorem Fp.nilCases {P : Program} {f : FuncId} {args : List G} {bs : List (List G)} {rs : List (List (List G))} {q : G × List (Option (List G)) × List (Option (List (List G)))} (h1 : Fp P f (.nils :: args) bs rs q) (h2 : Fp P f (.ne :: args) bs rs q) : Fp P f (.sl [] :: args) bs rs q := Fun.nilCases h1 h2
/-- A result of no room, told as an own row of no elements. -/
theorem Fp.none0 {P : Program} {f : FuncId} {args : List G} {g0 : G} (h0 : ∀ C w v, Rep C w g0 v → ∃ A, v = .slice A 0 0) (h : Fp P f args [] [] (g0, [], [])) : Fp P f args [] [] (.own 0 0 0, [], [some []]) := by
  refine ⟨h.1, fun C w t0 vs hl hr hM ht hb hr' hfx => (h.2 C w t0 vs hl hr hM ht hb hr' hfx).mono fun e w' q => ?_⟩
  obtain ⟨v, C', g, bs', rs', h1, ⟨rfl, rfl, rfl⟩, h3, h4, h5⟩ := q
  obtain ⟨A, rfl⟩ := h0 _ _ _ h3
  have nb : ∀ b B, C'.box b = some B → False := fun b B hB => by obtain ⟨cs, hcs⟩ := h4.domB b B hB; simp at hcs
  have only : ∀ (k : Nat) x, (if k = 0 then some none else none : Option (Option (Nat × Nat × Nat × Nat))) = some (some x) → False := fun k x e => by split at e <;> cases e
  refine ⟨_, { C' with row := fun k => if k = 0 then some none else none }, _, _, _, h1, ⟨rfl, rfl, rfl⟩, .ownnil 0 A rfl, ⟨fun b cs hb => ?_, fun k xs hk => ?_, fun b B hB => (nb b B hB).elim, fun k r hk => ?_, fun b b' B hB => (nb b B hB).elim, fun k k' B s sz n s' sz' n' hk => (only _ _ hk).elim, fun b k B s sz n hB => (nb b B hB).elim, h4.lt⟩, ⟨h5.box, h5.fr, h5.ex, h5.exn, h5.tb, fun k B s sz n hk => (only _ _ hk).elim⟩⟩
  · simp at hb
  · cases k with
    | zero => simp at hk; subst hk; exact .inl ⟨rfl, rfl⟩
    | succ k => simp at hk
  · have hk' : (if k = 0 then some none else none : Option (Option (Nat × Nat × Nat × Nat))) = some r := hk
    split at hk'
    · subst k; exact ⟨[], rfl⟩
    · cases hk'
theorem nils_room {C : Cx} {w : World} {v : Value} (h : Rep C w .nils v) : ∃ A, v = .slice A 0 0 := by cases h; exact ⟨_, rfl⟩
theorem emp_room {C : Cx} {w : World} {v : Value} (h : Rep C w .emp v) : ∃ A, v = .slice A 0 0 := by cases h; exact ⟨_, rfl⟩
/-! A nil slice told as an own row of no elements: in a slot, or in a variable's cell. -/
theorem Inv.reslot {C : Cx} {F : Fd} {st : St} {a : Act} {w : World} (h : Inv C F st a w) (s : Nat) (g : G) (hr : ∀ v, a.tmps[s]? = some v → Rep C w g v) : Inv C F { st with slots := st.slots.set s g } a w := by
  refine { h with fb := fun b B hb => ⟨(h.fb b B hb).1, by simpa using (h.fb b B hb).2⟩, sz := by simp [h.sz], slots := fun i g' v hg hv => ?_ }
  simp only [List.getElem?_set] at hg
  split at hg
  · rename_i e
    subst e
    split at hg
    · cases hg; exact hr v hv
    · cases hg
  · exact h.slots i g' v hg hv
def St.own0 (st : St) (s k : Nat) : St := { (st.setRow k []) with slots := st.slots.set s (.own k 0 0) }
theorem Has.own0 {P : Program} {c : Code} {st : St} {K : Exit → St → Prop} (s k : Nat) (h1 : st.slots.getD s .junk = .nils) (h2 : st.rows[k]? = some none) (h : Has P c (st.own0 s k) K) : Has P c st K := by
  refine ⟨fun C F a w hi => ?_⟩
  have hn : C.row k = none := by
    cases hx : C.row k with
    | none => rfl
    | some r => obtain ⟨xs, hxs⟩ := hi.mem.domR k r hx; rw [h2] at hxs; cases hxs
  obtain ⟨C1, i1, e1, _⟩ := hi.addNil hn (List.getElem?_eq_some_iff.1 h2).1
  refine h.out C1 F a w (i1.reslot s _ (fun v hv => ?_))
  have hs : st.slots[s]? = some .nils := by
    rw [List.getD_eq_getElem?_getD] at h1
    cases hx : st.slots[s]? with
    | none => rw [hx] at h1; cases h1
    | some g => rw [hx] at h1; simp at h1; rw [h1]
  have hr := hi.slots s _ v hs hv
  cases hr
  exact .ownnil k none e1
def St.own0B (st : St) (b i k : Nat) : St := { (st.setRow k []) with boxes := st.boxes.modify b (Option.map fun cs => cs.set i (.own k 0 0)) }
theorem Inv.recell {C : Cx} {F : Fd} {st : St} {a : Act} {w : World} (h : Inv C F st a w) (b i : Nat) (g g' : G) (hc : g'.cell = true) (hg : ∀ cs, st.boxes[b]? = some (some cs) → cs[i]? = some g) (hr : ∀ v, Rep C w g v → Rep C w g' v) :
    Inv C F { st with boxes := st.boxes.modify b (Option.map fun cs => cs.set i g') } a w := by
  refine { h with mem := { h.mem with box := fun x cs hx => ?_, domB := fun x B hB => ?_ } }
  · rw [List.getElem?_modify] at hx
    obtain ⟨o, ho, e⟩ := Option.map_eq_some_iff.1 hx
    by_cases eb : b = x
    · subst eb
      simp only [if_true] at e
      obtain ⟨cs0, rfl, rfl⟩ := Option.map_eq_some_iff.1 e
      obtain ⟨B, vs, T, k1, k2, k3, k4, k5, k6⟩ := h.mem.box b cs0 ho
      refine ⟨B, vs, T, k1, k2, k3, by simp [k4], k5, fun j q v hq hv => ?_⟩
      simp only [List.getElem?_set] at hq
      split at hq
      · rename_i e; subst e
        split at hq
        · cases hq
          exact ⟨hc, hr v (k6 i g v (hg cs0 ho) hv).2⟩
        · cases hq
      · exact k6 j q v hq hv
    · simp only [eb, if_false] at e
      subst e
      exact h.mem.box x cs ho
  · obtain ⟨cs, hcs⟩ := h.mem.domB x B hB
    refine ⟨if b = x then cs.set i g' else cs, ?_⟩
    show (st.boxes.modify b _)[x]? = _
    rw [List.getElem?_modify, hcs]
    by_cases eb : b = x <;> simp [eb]
theorem Has.own0B {P : Program} {c : Code} {st : St} {K : Exit → St → Prop} (b i k : Nat) {cs : List G} (h0 : st.boxes[b]? = some (some cs)) (h1 : cs[i]? = some .nils) (h2 : st.rows[k]? = some none) (h : Has P c (st.own0B b i k) K) : Has P c st K := by
  refine ⟨fun C F a w hi => ?_⟩
  have hn : C.row k = none := by
    cases hx : C.row k with
    | none => rfl
    | some r => obtain ⟨xs, hxs⟩ := hi.mem.domR k r hx; rw [h2] at hxs; cases hxs
  obtain ⟨C1, i1, e1, _⟩ := hi.addNil hn (List.getElem?_eq_some_iff.1 h2).1
  refine h.out C1 F a w (i1.recell b i .nils _ rfl (fun cs' hcs' => ?_) (fun v hv => ?_))
  · have hcs'' : st.boxes[b]? = some (some cs') := hcs'
    rw [h0] at hcs''
    cases hcs''
    exact h1
  · cases hv
    exact .ownnil k none e1
theorem ok_map {α : Type} {n : Nat} {l : List α} {R : α → List G} (sz : Nat) (hn : n = sz) (h : ∀ x, (R x).length = sz) (h2 : ∀ x, (R x).all G.closed0 = true) : okRows n (l.map R) = true := by
  unfold okRows
  rw [List.all_eq_true]
  intro r hr
  obtain ⟨x, _, rfl⟩ := List.mem_map.1 hr
  rw [h x, hn, h2 x]; simp
/-- There is room for an append. -/
theorem fits {P : Program} {e : TypeId} {n : Nat} (b : Nat) (hb : P.bytesOf e = b) (h : (2 * n + 1024) * b ≤ 281474976710656) : fitsB P e n := by unfold fitsB; rw [hb]; exact h
/-- What an append onto an own row asks, where its elements are l's first k. -/
theorem app_at {α : Type} {P : Program} {e : TypeId} {l : List α} {R : α → List G} {k : Nat} {r : List G} (sz b : Nat) (hk : k ≤ l.length) (hc : P.cellsOf e = sz) (hb : P.bytesOf e = b) (hR : ∀ x, (R x).length = sz) (hf : (2 * (k + 1) + 1024) * b ≤ 281474976710656) :
    0 + k ≤ ((l.take k).map R).length ∧ (0 < k + [r].length ∨ (l.take k).map R = []) ∧ fitsB P e (k + [r].length) ∧ ∀ r ∈ (l.take k).map R, r.length = P.cellsOf e :=
  ⟨by simp; omega, .inl (by simp), fits b hb hf, fun r hr => by obtain ⟨x, _, rfl⟩ := List.mem_map.1 hr; rw [hc]; exact hR x⟩
theorem own_app {α : Type} {l : List α} {R : α → List G} {k : Nat} (hk : k < l.length) : (((l.take k).map R).drop 0).take k ++ [R l[k]] = (l.take (k + 1)).map R := by
  rw [List.drop_zero, List.take_of_length_le (by simp; omega), List.take_succ_eq_append_getElem hk, List.map_append]; rfl
theorem own_le {α : Type} {l : List α} {R : α → List G} : 0 + l.length ≤ ((l.take l.length).map R).length := by simp
theorem own_all {α : Type} {l : List α} {R : α → List G} : (((l.take l.length).map R).drop 0).take l.length = l.map R := by rw [List.take_length, List.drop_zero]; exact List.take_of_length_le (by simp)
/-- A number of 64 bits is one of those. -/
theorem wf_i64 {n : Int} (h : (Lit.int .i64 n).wf = true) : -9223372036854775808 ≤ n ∧ n ≤ 9223372036854775807 := by
  simp [Lit.wf, IntKind.min, IntKind.max, IntKind.signed, IntKind.bits] at h
  omega
end Go.Proofs.YtcihkmnolagdlaaDoor.Av
