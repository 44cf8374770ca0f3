/- Own variables and own rows: made, killed, stored to. No condition. -/
import Derived.Test.YtcihkmnolagdlaaDoorAv1
namespace Go.Proofs.YtcihkmnolagdlaaDoor.Av
open Go Go.RowKit
set_option linter.unusedVariables false
set_option linter.unusedSimpArgs false

def Cx.noB (C : Cx) (b : Nat) : Cx := { C with box := fun x => if x = b then none else C.box x }
def Cx.noR (C : Cx) (k : Nat) : Cx := { C with row := fun x => if x = k then none else C.row x }
def Cx.setB (C : Cx) (b B : Nat) : Cx := { C with box := fun x => if x = b then some B else C.box x, ex := fun x => C.ex x ∨ x = B }
def Cx.setR (C : Cx) (k : Nat) (r : Option (Nat × Nat × Nat × Nat)) : Cx := { C with row := fun x => if x = k then some r else C.row x, ex := fun x => C.ex x ∨ ∃ q, r = some q ∧ x = q.1 }

theorem closed0_kBc {g : G} (h : g.closed0 = true) (b : Nat) : kBc b g = g := by cases g <;> simp_all [G.closed0, kBc]
theorem closed0_kR0 {g : G} (h : g.closed0 = true) (b : Nat) : kR0 b g = g := by cases g <;> simp_all [G.closed0, kR0]
theorem cell_kBc {g : G} (h : g.cell = true) (b : Nat) : (kBc b g).cell = true := by
  cases g with
  | fn f caps => cases caps <;> rfl
  | ptr b' o => show G.cell (if _ then _ else _) = true; split <;> rfl
  | ptrt b' o n => show G.cell (if _ then _ else _) = true; split <;> rfl
  | _ => first | rfl | (simp [G.cell] at h; done)
theorem cell_kR0 {g : G} (h : g.cell = true) (b : Nat) : (kR0 b g).cell = true := by
  cases g with
  | fn f caps => cases caps <;> rfl
  | own => show G.cell (if _ then _ else _) = true; split <;> rfl
  | eltw => show G.cell (if _ then _ else _) = true; split <;> rfl
  | dat => show G.cell (if _ then _ else _) = true; split <;> rfl
  | ownt => show G.cell (if _ then _ else _) = true; split <;> rfl
  | datt => show G.cell (if _ then _ else _) = true; split <;> rfl
  | mp => show G.cell (if _ then _ else _) = true; split <;> rfl
  | _ => first | rfl | (simp [G.cell] at h; done)
theorem Rep.fn0 {C C' : Cx} {w : World} {f : FuncId} {v : Value} (h : Rep C w (.fn f []) v) : Rep C' w (.fn f []) v := by
  cases h with
  | fn _ _ vs hl h => exact .fn f [] vs hl (fun i g v hg => by simp at hg)

theorem Rep.kBc {C : Cx} {w : World} {g : G} {v : Value} (h : Rep C w g v) (hc : g.cell = true) (b : Nat) : Rep (C.noB b) w (kBc b g) v := by
  have h1 := h.oneCell hc
  by_cases h0 : g.closed0 = true
  · rw [closed0_kBc h0]; exact h.keep0 h0 (Keeps.refl _ _) (fun _ _ h => h)
  · cases h with
    | fn f caps vs hl hr =>
      cases caps with
      | nil => exact Rep.fn0 (C := C) (.fn f [] vs hl hr)
      | cons _ _ => exact .dead _ rfl
    | meth f gs vs hl hr => exact .dead _ rfl
    | nilt => exact .nilt
    | ptrt b' T n B vs fz hb ht hn =>
      by_cases e : b' = b
      · show Rep _ _ (if b' = b then _ else _) _; rw [if_pos e]; exact .dead _ rfl
      · show Rep _ _ (if b' = b then _ else _) _; rw [if_neg e]; exact .ptrt b' T n B vs fz (by show (if b' = b then _ else _) = _; rw [if_neg e]; exact hb) ht hn
    | ownt k len T B n vs fz hr ho ht => exact .ownt k len T B n vs fz hr ho ht
    | owntnil k T hr => exact .owntnil k T hr
    | datt k T B n vs fz hr ht => exact .datt k T B n vs fz hr ht
    | dattnil k T hr => exact .dattnil k T hr
    | own k off len B s sz n a hr ho ha hn => exact .own k off len B s sz n a hr ho ha hn
    | mp k kn fl B hr => exact .mp k kn fl B hr
    | ownnil k A hr => exact .ownnil k A hr
    | ptr b' off B hb =>
      by_cases e : b' = b
      · show Rep _ _ (if b' = b then _ else _) _; rw [if_pos e]; exact .dead _ rfl
      · show Rep _ _ (if b' = b then _ else _) _; rw [if_neg e]; exact .ptr b' off B (by show (if b' = b then _ else _) = _; rw [if_neg e]; exact hb)
    | elt row off B o f hlt hex hcl hcell h =>
      exact .elt row off B o f hlt hex hcl hcell (fun j g hg => (h j g hg).keep0 (hcl g (List.mem_of_getElem? hg)) (Keeps.refl _ _) (fun _ _ h => h))
    | eltw k i off B s sz n hr hn => exact .eltw k i off B s sz n hr hn
    | dat k B s sz n hn hr => exact .dat k B s sz n hn hr
    | datnil k p hr => exact .datnil k p hr
    | dead v h => exact .dead _ h
    | _ => simp_all [G.closed0, G.cell]
theorem Rep.kBa {C : Cx} {w : World} {g : G} {v : Value} (h : Rep C w g v) (b : Nat) : Rep (C.noB b) w (kBa b g) v := by
  by_cases hcc : g.cell = true
  · have e : Av.kBa b g = Av.kBc b g := by cases g <;> first | rfl | (simp [G.cell] at hcc; done)
    rw [e]; exact h.kBc hcc b
  · cases h with
    | agg gs vs hl hc hv h =>
      refine .agg _ vs (by simp [hl]) (fun g hg => ?_) hv (fun i g v hg hv' => ?_)
      · obtain ⟨x, hx, rfl⟩ := List.mem_map.1 hg; exact cell_kBc (hc x hx) b
      · rw [List.getElem?_map] at hg
        obtain ⟨x, hx, rfl⟩ := Option.map_eq_some_iff.1 hg
        exact (h i x v hx hv').kBc (hc x (List.mem_of_getElem? hx)) b
    | tup => exact .junk _
    | junk => exact .junk _
    | und => exact .und
    | _ => simp_all [G.cell]
theorem Rep.kB1 {C : Cx} {w : World} {g : G} {v : Value} (h : Rep C w g v) (b : Nat) : Rep (C.noB b) w (kB1 b g) v := by
  by_cases hf : ∃ f caps, g = .fn f caps
  · obtain ⟨f, caps, rfl⟩ := hf
    cases h with
    | fn _ _ vs hl h =>
      refine .fn f _ vs (by simp [hl]) (fun i g v hg hv => ?_)
      rw [List.getElem?_map] at hg
      obtain ⟨x, hx, rfl⟩ := Option.map_eq_some_iff.1 hg
      exact (h i x v hx hv).kBa b
  · have e : Av.kB1 b g = Av.kBa b g := by cases g <;> first | rfl | exact absurd ⟨_, _, rfl⟩ hf
    rw [e]; exact h.kBa b
theorem Rep.kR0 {C : Cx} {w : World} {g : G} {v : Value} (h : Rep C w g v) (hc : g.cell = true) (k : Nat) : Rep (C.noR k) w (kR0 k g) v := by
  have h1 := h.oneCell hc
  have hrow : ∀ k' r, k' ≠ k → C.row k' = some r → (C.noR k).row k' = some r := fun k' r e hr => by show (if k' = k then _ else _) = _; rw [if_neg e]; exact hr
  by_cases h0 : g.closed0 = true
  · rw [closed0_kR0 h0]; exact h.keep0 h0 (Keeps.refl _ _) (fun _ _ h => h)
  · cases h with
    | fn f caps vs hl hr =>
      cases caps with
      | nil => exact Rep.fn0 (C := C) (.fn f [] vs hl hr)
      | cons _ _ => exact .dead _ rfl
    | meth f gs vs hl hr => exact .dead _ rfl
    | nilt => exact .nilt
    | ptrt b' T n B vs fz hb ht hn => exact .ptrt b' T n B vs fz hb ht hn
    | ownt k' len T B n vs fz hr ho ht =>
      show Rep _ _ (if k' = k then _ else _) _
      by_cases e : k' = k
      · rw [if_pos e]; exact .dead _ rfl
      · rw [if_neg e]; exact .ownt k' len T B n vs fz (hrow _ _ e hr) ho ht
    | owntnil k' T hr =>
      show Rep _ _ (if k' = k then _ else _) _
      by_cases e : k' = k
      · rw [if_pos e]; exact .dead _ rfl
      · rw [if_neg e]; exact .owntnil k' T (hrow _ _ e hr)
    | datt k' T B n vs fz hr ht =>
      show Rep _ _ (if k' = k then _ else _) _
      by_cases e : k' = k
      · rw [if_pos e]; exact .dead _ rfl
      · rw [if_neg e]; exact .datt k' T B n vs fz (hrow _ _ e hr) ht
    | dattnil k' T hr =>
      show Rep _ _ (if k' = k then _ else _) _
      by_cases e : k' = k
      · rw [if_pos e]; exact .dead _ rfl
      · rw [if_neg e]; exact .dattnil k' T (hrow _ _ e hr)
    | own k' off len B s sz n a hr ho ha hn =>
      show Rep _ _ (if k' = k then _ else _) _
      by_cases e : k' = k
      · rw [if_pos e]; exact .dead _ rfl
      · rw [if_neg e]; exact .own k' off len B s sz n a (hrow _ _ e hr) ho ha hn
    | mp k' kn fl B hr =>
      show Rep _ _ (if k' = k then _ else _) _
      by_cases e : k' = k
      · rw [if_pos e]; exact .dead _ rfl
      · rw [if_neg e]; exact .mp k' kn fl B (hrow _ _ e hr)
    | ownnil k' A hr =>
      show Rep _ _ (if k' = k then _ else _) _
      by_cases e : k' = k
      · rw [if_pos e]; exact .dead _ rfl
      · rw [if_neg e]; exact .ownnil k' A (hrow _ _ e hr)
    | ptr b' off B hb => exact .ptr b' off B hb
    | elt row off B o f hlt hex hcl hcell h =>
      exact .elt row off B o f hlt hex hcl hcell (fun j g hg => (h j g hg).keep0 (hcl g (List.mem_of_getElem? hg)) (Keeps.refl _ _) (fun _ _ h => h))
    | eltw k' i off B s sz n hr hn0 =>
      show Rep _ _ (if k' = k then _ else _) _
      by_cases e : k' = k
      · rw [if_pos e]; exact .dead _ rfl
      · rw [if_neg e]; exact .eltw k' i off B s sz n (hrow _ _ e hr) hn0
    | dat k' B s sz n hn hr =>
      show Rep _ _ (if k' = k then _ else _) _
      by_cases e : k' = k
      · rw [if_pos e]; exact .dead _ rfl
      · rw [if_neg e]; exact .dat k' B s sz n hn (hrow _ _ e hr)
    | datnil k' p hr =>
      show Rep _ _ (if k' = k then _ else _) _
      by_cases e : k' = k
      · rw [if_pos e]; exact .dead _ rfl
      · rw [if_neg e]; exact .datnil k' p (hrow _ _ e hr)
    | dead v h => exact .dead _ h
    | _ => simp_all [G.closed0, G.cell]
theorem Rep.kRa {C : Cx} {w : World} {g : G} {v : Value} (h : Rep C w g v) (k : Nat) : Rep (C.noR k) w (kRa k g) v := by
  by_cases hcc : g.cell = true
  · have e : Av.kRa k g = Av.kR0 k g := by cases g <;> first | rfl | (simp [G.cell] at hcc; done)
    rw [e]; exact h.kR0 hcc k
  · cases h with
    | agg gs vs hl hc hv h =>
      refine .agg _ vs (by simp [hl]) (fun g hg => ?_) hv (fun i g v hg hv' => ?_)
      · obtain ⟨x, hx, rfl⟩ := List.mem_map.1 hg; exact cell_kR0 (hc x hx) k
      · rw [List.getElem?_map] at hg
        obtain ⟨x, hx, rfl⟩ := Option.map_eq_some_iff.1 hg
        exact (h i x v hx hv').kR0 (hc x (List.mem_of_getElem? hx)) k
    | tup => exact .junk _
    | junk => exact .junk _
    | und => exact .und
    | _ => simp_all [G.cell]
theorem Rep.kR1 {C : Cx} {w : World} {g : G} {v : Value} (h : Rep C w g v) (k : Nat) : Rep (C.noR k) w (kR1 k g) v := by
  by_cases hf : ∃ f caps, g = .fn f caps
  · obtain ⟨f, caps, rfl⟩ := hf
    cases h with
    | fn _ _ vs hl h =>
      refine .fn f _ vs (by simp [hl]) (fun i g v hg hv => ?_)
      rw [List.getElem?_map] at hg
      obtain ⟨x, hx, rfl⟩ := Option.map_eq_some_iff.1 hg
      exact (h i x v hx hv).kRa k
  · have e : Av.kR1 k g = Av.kRa k g := by cases g <;> first | rfl | exact absurd ⟨_, _, rfl⟩ hf
    rw [e]; exact h.kRa k

def St.len (st : St) : Nat := st.slots.length

theorem Mem.killB {C : Cx} {w : World} {bs : List (Option (List G))} {rs : List (Option (List (List G)))} (h : Mem C w bs rs) (b : Nat) :
    Mem (C.noB b) w ((bs.map fun o => o.map fun cs => cs.map (kBc b)).set b none) rs := by
  have hne : ∀ x B, (C.noB b).box x = some B → x ≠ b ∧ C.box x = some B := fun x B hx => by
    have hx' : (if x = b then none else C.box x) = some B := hx
    split at hx'
    · cases hx'
    · exact ⟨by assumption, hx'⟩
  refine ⟨fun x cs hx => ?_, fun k xs hk => ?_, fun x B hx => ?_, fun k r hr => h.domR k r hr, fun x x' B h1 h2 => h.bb x x' B (hne _ _ h1).2 (hne _ _ h2).2, fun k k' B s sz n s' sz' n' h1 h2 => h.rr k k' B s sz n s' sz' n' h1 h2,
    fun x k B s sz n h1 h2 => h.br x k B s sz n (hne _ _ h1).2 h2, h.lt⟩
  · have hxb : x ≠ b := fun e => by subst e; rw [List.getElem?_set] at hx; simp at hx
    rw [List.getElem?_set_ne (fun e => hxb e.symm), List.getElem?_map] at hx
    obtain ⟨o, ho, ho2⟩ := Option.map_eq_some_iff.1 hx
    obtain ⟨cs0, rfl, rfl⟩ := Option.map_eq_some_iff.1 ho2
    obtain ⟨B, vs, T, h1, h2, h3, h4, h5, h6⟩ := h.box x cs0 ho
    refine ⟨B, vs, T, by show (if x = b then none else C.box x) = _; rw [if_neg hxb]; exact h1, h2, h3, by simp [h4], h5, fun i g v hg hv => ?_⟩
    rw [List.getElem?_map] at hg
    obtain ⟨g0, hg0, rfl⟩ := Option.map_eq_some_iff.1 hg
    obtain ⟨hc, hr⟩ := h6 i g0 v hg0 hv
    exact ⟨cell_kBc hc b, hr.kBc hc b⟩
  · rcases h.row k xs hk with h1 | ⟨B, s, sz, n, vs, T, fz, h1, h2, h3, h4, h5, h6, h6b, h7, h8⟩ | km
    · exact .inl h1
    · exact .inr (.inl ⟨B, s, sz, n, vs, T, fz, h1, h2, h3, h4, h5, h6, h6b, h7, fun i r j g v hi hj hv => (h8 i r j g v hi hj hv).keep0 ((h7 r (List.mem_of_getElem? hi)).2 g (List.mem_of_getElem? hj)) (Keeps.refl _ _) (fun _ _ h => h)⟩)
    · exact .inr (.inr (km.move (fun q h => h) (fun _ _ _ h => h) (fun _ _ _ => rfl) (fun g u hg hu => hu.keep0 hg (Keeps.refl _ _) (fun _ _ h => h))))
  · obtain ⟨hxb, hB⟩ := hne x B hx
    obtain ⟨cs, hcs⟩ := h.domB x B hB
    exact ⟨cs.map (kBc b), by rw [List.getElem?_set_ne (fun e => hxb e.symm), List.getElem?_map, hcs]; rfl⟩

theorem Mem.killR {C : Cx} {w : World} {bs : List (Option (List G))} {rs : List (Option (List (List G)))} (h : Mem C w bs rs) (k : Nat) :
    Mem (C.noR k) w (bs.map fun o => o.map fun cs => cs.map (kR0 k)) (rs.set k none) := by
  have hne : ∀ x r, (C.noR k).row x = some r → x ≠ k ∧ C.row x = some r := fun x r hx => by
    have hx' : (if x = k then none else C.row x) = some r := hx
    split at hx'
    · cases hx'
    · exact ⟨by assumption, hx'⟩
  refine ⟨fun x cs hx => ?_, fun x xs hx => ?_, fun x B hx => ?_, fun x r hr => ?_, fun x x' B h1 h2 => h.bb x x' B h1 h2, fun k k' B s sz n s' sz' n' h1 h2 => h.rr k k' B s sz n s' sz' n' (hne _ _ h1).2 (hne _ _ h2).2,
    fun x k B s sz n h1 h2 => h.br x k B s sz n h1 (hne _ _ h2).2, h.lt⟩
  · rw [List.getElem?_map] at hx
    obtain ⟨o, ho, ho2⟩ := Option.map_eq_some_iff.1 hx
    obtain ⟨cs0, rfl, rfl⟩ := Option.map_eq_some_iff.1 ho2
    obtain ⟨B, vs, T, h1, h2, h3, h4, h5, h6⟩ := h.box x cs0 ho
    refine ⟨B, vs, T, h1, h2, h3, by simp [h4], h5, fun i g v hg hv => ?_⟩
    rw [List.getElem?_map] at hg
    obtain ⟨g0, hg0, rfl⟩ := Option.map_eq_some_iff.1 hg
    obtain ⟨hc, hr⟩ := h6 i g0 v hg0 hv
    exact ⟨cell_kR0 hc k, hr.kR0 hc k⟩
  · have hxb : x ≠ k := fun e => by subst e; rw [List.getElem?_set] at hx; simp at hx
    rw [List.getElem?_set_ne (fun e => hxb e.symm)] at hx
    have hrow : (C.noR k).row x = C.row x := by show (if x = k then none else C.row x) = _; rw [if_neg hxb]
    rcases h.row x xs hx with h1 | ⟨B, s, sz, n, vs, T, fz, h1, h2, h3, h4, h5, h6, h6b, h7, h8⟩ | km
    · exact .inl ⟨hrow.trans h1.1, h1.2⟩
    · exact .inr (.inl ⟨B, s, sz, n, vs, T, fz, hrow.trans h1, h2, h3, h4, h5, h6, h6b, h7, fun i r j g v hi hj hv => (h8 i r j g v hi hj hv).keep0 ((h7 r (List.mem_of_getElem? hi)).2 g (List.mem_of_getElem? hj)) (Keeps.refl _ _) (fun _ _ h => h)⟩)
    · exact .inr (.inr (km.move (fun q h => hrow.trans h) (fun _ _ _ h => h) (fun _ _ _ => rfl) (fun g u hg hu => hu.keep0 hg (Keeps.refl _ _) (fun _ _ h => h))))
  · obtain ⟨cs, hcs⟩ := h.domB x B hx
    exact ⟨cs.map (kR0 k), by rw [List.getElem?_map, hcs]; rfl⟩
  · obtain ⟨hxb, hB⟩ := hne x r hr
    obtain ⟨xs, hxs⟩ := h.domR x r hB
    exact ⟨xs, by rw [List.getElem?_set_ne (fun e => hxb e.symm)]; exact hxs⟩

theorem Inv.killB {C : Cx} {F : Fd} {st : St} {a : Act} {w : World} (h : Inv C F st a w) (b : Nat) (hlt : b < st.slots.length + 8) : Inv (C.noB b) F (st.killB b) a w := by
  refine ⟨h.nd, by simp [St.killB, h.sz], fun i g v hg hv => ?_, h.mem.killB b, h.fr, h.ex0, h.exn, h.t0, fun x B hx => ?_, h.tr, fun x B hx => ?_⟩
  · simp only [St.killB, List.getElem?_map] at hg
    obtain ⟨g0, hg0, rfl⟩ := Option.map_eq_some_iff.1 hg
    exact (h.slots i g0 v hg0 hv).kB1 b
  · have hx' : (if x = b then none else C.box x) = some B := hx
    split at hx'
    · cases hx'
    · exact h.tb x B hx'
  · obtain ⟨h1, h2⟩ := h.fb x B hx
    refine ⟨?_, by simpa [St.killB] using h2⟩
    show (if x = b then none else C.box x) = _
    rw [if_neg (by omega)]; exact h1
theorem Inv.killR {C : Cx} {F : Fd} {st : St} {a : Act} {w : World} (h : Inv C F st a w) (k : Nat) : Inv (C.noR k) F (st.killR k) a w := by
  refine ⟨h.nd, by simp [St.killR, h.sz], fun i g v hg hv => ?_, h.mem.killR k, h.fr, h.ex0, h.exn, h.t0, h.tb, fun x B s sz n hx => ?_, fun x B hx => ⟨(h.fb x B hx).1, by simpa [St.killR] using (h.fb x B hx).2⟩⟩
  · simp only [St.killR, List.getElem?_map] at hg
    obtain ⟨g0, hg0, rfl⟩ := Option.map_eq_some_iff.1 hg
    exact (h.slots i g0 v hg0 hv).kR1 k
  · have hx' : (if x = k then none else C.row x) = some (some (B, s, sz, n)) := hx
    split at hx'
    · cases hx'
    · exact h.tr x B s sz n hx'

/-! A new own variable. -/
def St.setBox (st : St) (b : Nat) (cs : List G) : St := { st with boxes := st.boxes.set b (some cs) }
def St.setRow (st : St) (k : Nat) (xs : List (List G)) : St := { st with rows := st.rows.set k (some xs) }
def St.newBox (st : St) (b : Nat) (cs : List G) : St :=
  match st.boxes.getD b none with
  | none => st.setBox b cs
  | some _ => (st.killB b).setBox b (cs.map (kBc b))

theorem ty_alloc (w : World) (o : Obj) (B : Nat) (vs : Array Value) (T : TypeId) (fz : Nat × Nat) (h : w.heap[B]? = some (.cells vs T fz)) : ∃ vs' fz', (w.alloc o).heap[B]? = some (.cells vs' T fz') ∧ vs'.size = vs.size :=
  ⟨vs, fz, by rw [Below.heap_alloc w o B (Array.getElem?_eq_some_iff.1 h).1]; exact h, rfl⟩
theorem keeps_alloc (ex : Nat → Prop) (w : World) (o : Obj) : Keeps ex w (w.alloc o) := ⟨by simp, fun B hB _ => Below.heap_alloc w o B hB, ty_alloc w o⟩
theorem Fr.alloc {t0 : Nat → Prop} {w0 w : World} (h : Fr t0 w0 w) (o : Obj) : Fr t0 w0 (w.alloc o) :=
  ⟨h.os, h.tape, h.output, by rw [World.size_alloc]; have := h.size; omega, fun B hB hn => by rw [Below.heap_alloc w o B (by have := h.size; omega)]; exact h.block B hB hn,
    fun B vs T fz hB => by obtain ⟨vs1, fz1, h1, e1⟩ := h.ty _ _ _ _ hB; obtain ⟨vs2, fz2, h2, e2⟩ := ty_alloc w o _ _ _ _ h1; exact ⟨vs2, fz2, h2, e2.trans e1⟩⟩

theorem Inv.addBox {C : Cx} {F : Fd} {st : St} {a : Act} {w : World} (h : Inv C F st a w) {b : Nat} (hb : C.box b = none) (hlt : b < st.boxes.length) {cs : List G} {vs : List Value} (T : TypeId)
    (hl : vs.length = cs.length) (h1 : ∀ v ∈ vs, v.oneCell' = true) (hr : ∀ (i : Nat) g v, cs[i]? = some g → vs[i]? = some v → g.cell = true ∧ Rep C w g v) :
    Inv (C.setB b w.heap.size) F (st.setBox b cs) a (w.alloc (.cells ⟨vs⟩ T)) ∧ (C.setB b w.heap.size).box b = some w.heap.size := by
  have hk := keeps_alloc C.ex w (.cells ⟨vs⟩ T)
  have hbox : ∀ x B, (C.setB b w.heap.size).box x = some B → (x = b ∧ B = w.heap.size) ∨ (x ≠ b ∧ C.box x = some B) := fun x B hx => by
    have hx' : (if x = b then some w.heap.size else C.box x) = some B := hx
    split at hx'
    · cases hx'; exact .inl ⟨by assumption, rfl⟩
    · exact .inr ⟨by assumption, hx'⟩
  have hx : ∀ B, B < w.heap.size → ¬ C.ex B → ¬ (C.setB b w.heap.size).ex B := fun B hB hn hx => by
    rcases hx with hx | hx
    · exact hn hx
    · omega
  have keep : ∀ g v, Rep C w g v → Rep (C.setB b w.heap.size) (w.alloc (.cells ⟨vs⟩ T)) g v := fun g v hg =>
    hg.keep hk hx (fun x B hxB => by
      show (if x = b then some w.heap.size else C.box x) = _
      rw [if_neg (fun e => by subst e; rw [hb] at hxB; cases hxB)]; exact hxB) (fun k r hr => hr)
  have hself : (C.setB b w.heap.size).box b = some w.heap.size := by show (if b = b then _ else _) = _; rw [if_pos rfl]
  have hltB : ∀ x B, C.box x = some B → B < w.heap.size := fun x B hxB => by
    obtain ⟨cs', hcs'⟩ := h.mem.domB x B hxB
    obtain ⟨B', _, _, h1, h2, _⟩ := h.mem.box x cs' hcs'
    rw [hxB] at h1; cases h1; exact h.mem.lt _ h2
  have hltR : ∀ k B s sz n, C.row k = some (some (B, s, sz, n)) → B < w.heap.size := fun k B s sz n hkB => by
    obtain ⟨xs, hxs⟩ := h.mem.domR k _ hkB
    rcases h.mem.row k xs hxs with h1 | ⟨B', _, _, _, _, _, _, h1, h2, _⟩ | ⟨B', _, _, _, _, h1, h2, _⟩
    · rw [hkB] at h1; cases h1.1
    · rw [hkB] at h1; cases h1; exact h.mem.lt _ h2
    · rw [hkB] at h1; cases h1; exact h.mem.lt _ h2
  refine ⟨⟨h.nd, h.sz, fun i g v hg hv => keep _ _ (h.slots i g v hg hv), ⟨fun x cs' hcs => ?_, fun k xs hkx => ?_, fun x B hxB => ?_, fun k r hkr => h.mem.domR k r hkr, fun x x' B h1 h2 => ?_, fun k k' B s sz n s' sz' n' h1 h2 => h.mem.rr k k' B s sz n s' sz' n' h1 h2, fun x k B s sz n h1 h2 => ?_, fun B hB => ?_⟩, h.fr.alloc _, fun B hB => .inl (h.ex0 B hB), fun B hB => ?_, h.t0, fun x B hxB => ?_, h.tr, fun x B hfx => ⟨?_, (h.fb x B hfx).2⟩⟩, hself⟩
  · by_cases e : x = b
    · subst e
      simp only [St.setBox, List.getElem?_set_self hlt, Option.some.injEq] at hcs
      subst hcs
      exact ⟨w.heap.size, vs, T, hself, .inr rfl, heap_alloc_new w _, hl, h1, fun i g v hg hv => ⟨(hr i g v hg hv).1, keep _ _ (hr i g v hg hv).2⟩⟩
    · simp only [St.setBox, List.getElem?_set_ne (fun e' => e e'.symm)] at hcs
      obtain ⟨B, us, T', k1, k2, k3, k4, k5, k6⟩ := h.mem.box x cs' hcs
      exact ⟨B, us, T', by show (if x = b then _ else _) = _; rw [if_neg e]; exact k1, .inl k2, by rw [Below.heap_alloc w _ B (h.mem.lt _ k2)]; exact k3, k4, k5, fun i g v hg hv => ⟨(k6 i g v hg hv).1, keep _ _ (k6 i g v hg hv).2⟩⟩
  · rcases h.mem.row k xs hkx with k1 | ⟨B, s, sz, n, us, T', fz, k1, k2, k3, k4, k5, k6, k6b, k7, k8⟩ | km
    · exact .inl k1
    · exact .inr (.inl ⟨B, s, sz, n, us, T', fz, k1, .inl k2, by rw [Below.heap_alloc w _ B (h.mem.lt _ k2)]; exact k3, k4, k5, k6, k6b, k7, fun i r j g v a1 a2 a3 => keep _ _ (k8 i r j g v a1 a2 a3)⟩)
    · exact .inr (.inr (km.move (fun q h => h) (fun _ _ _ h => .inl h) (fun B q hq => by rw [Below.heap_alloc w _ B (hltR _ _ _ _ _ hq)]) (fun g u hg hu => keep _ _ hu)))
  · rcases hbox x B hxB with ⟨rfl, rfl⟩ | ⟨e, hB⟩
    · exact ⟨cs, by simp [St.setBox, List.getElem?_set_self hlt]⟩
    · obtain ⟨cs', hcs'⟩ := h.mem.domB x B hB
      exact ⟨cs', by simp only [St.setBox, List.getElem?_set_ne (fun e' => e e'.symm)]; exact hcs'⟩
  · rcases hbox x B h1 with ⟨rfl, rfl⟩ | ⟨e, hB⟩ <;> rcases hbox x' _ h2 with ⟨rfl, e2⟩ | ⟨e', hB'⟩
    · rfl
    · exact absurd (hltB _ _ hB') (by omega)
    · exact absurd (hltB _ _ hB) (by omega)
    · exact h.mem.bb x x' B hB hB'
  · rcases hbox x B h1 with ⟨rfl, rfl⟩ | ⟨e, hB⟩
    · exact absurd (hltR _ _ _ _ _ h2) (by omega)
    · exact h.mem.br x k B s sz n hB h2
  · rw [World.size_alloc]
    rcases hB with hB | hB
    · have := h.mem.lt B hB; omega
    · omega
  · rcases hB with hB | hB
    · exact h.exn B hB
    · exact .inr (by have := h.fr.size; omega)
  · rcases hbox x B hxB with ⟨rfl, rfl⟩ | ⟨e, hB⟩
    · exact .inr h.fr.size
    · exact h.tb x B hB
  · show (if x = b then some w.heap.size else C.box x) = _
    rw [if_neg (fun e => by subst e; exact absurd (h.fb x B hfx).1 (by rw [hb]; simp))]; exact (h.fb x B hfx).1

theorem Inv.newBox {C : Cx} {F : Fd} {st : St} {a : Act} {w : World} (h : Inv C F st a w) (b : Nat) (hlt : b < st.boxes.length) (hls : b < st.slots.length + 8) {cs : List G} {vs : List Value} (T : TypeId)
    (hl : vs.length = cs.length) (h1 : ∀ v ∈ vs, v.oneCell' = true) (hr : ∀ (i : Nat) g v, cs[i]? = some g → vs[i]? = some v → g.cell = true ∧ Rep C w g v) :
    ∃ C', Inv C' F (st.newBox b cs) a (w.alloc (.cells ⟨vs⟩ T)) ∧ C'.box b = some w.heap.size := by
  unfold St.newBox
  cases hb : st.boxes.getD b none with
  | none =>
    have hn : C.box b = none := by
      cases hx : C.box b with
      | none => rfl
      | some B =>
        obtain ⟨cs', hcs'⟩ := h.mem.domB b B hx
        rw [List.getD_eq_getElem?_getD, hcs'] at hb; cases hb
    exact ⟨_, h.addBox hn hlt T hl h1 hr⟩
  | some _ =>
    have h' := h.killB b hls
    exact ⟨_, h'.addBox (by show (if b = b then none else _) = _; rw [if_pos rfl]) (by simpa [St.killB] using hlt) T (by simpa using hl) h1 (fun i g v hg hv => by
      rw [List.getElem?_map] at hg
      obtain ⟨g0, hg0, rfl⟩ := Option.map_eq_some_iff.1 hg
      obtain ⟨k1, k2⟩ := hr i g0 v hg0 hv
      exact ⟨cell_kBc k1 b, k2.kBc k1 b⟩)⟩
end Go.Proofs.YtcihkmnolagdlaaDoor.Av
