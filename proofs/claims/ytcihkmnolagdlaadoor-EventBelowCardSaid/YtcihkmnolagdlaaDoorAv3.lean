/- An abstract state over the worlds' steps: an allocation, a draw, a store into an own variable, an own row that is laid or written. No condition. -/
import Derived.Test.YtcihkmnolagdlaaDoorAv2
namespace Go.Proofs.YtcihkmnolagdlaaDoor.Av
open Go Go.RowKit
set_option linter.unusedVariables false
set_option linter.unusedSimpArgs false

theorem Mem.ltB {C : Cx} {w : World} {bs : List (Option (List G))} {rs : List (Option (List (List G)))} (h : Mem C w bs rs) {b B : Nat} (hb : C.box b = some B) : C.ex B := by
  obtain ⟨cs, hcs⟩ := h.domB b B hb
  obtain ⟨B', _, _, h1, h2, _⟩ := h.box b cs hcs
  rw [hb] at h1; cases h1; exact h2
theorem Mem.ltR {C : Cx} {w : World} {bs : List (Option (List G))} {rs : List (Option (List (List G)))} (h : Mem C w bs rs) {k B s sz n : Nat} (hk : C.row k = some (some (B, s, sz, n))) : C.ex B := by
  obtain ⟨xs, hxs⟩ := h.domR k _ hk
  rcases h.row k xs hxs with h1 | ⟨B', _, _, _, _, _, _, h1, h2, _⟩ | ⟨B', _, _, _, _, h1, h2, _⟩
  · rw [hk] at h1; cases h1.1
  · rw [hk] at h1; cases h1; exact h2
  · rw [hk] at h1; cases h1; exact h2

/-- The state stays, whatever block that it does not name has turned. -/
theorem Inv.step {C : Cx} {F : Fd} {st : St} {a : Act} {w w' : World} (h : Inv C F st a w) (hf : Fr F.t0 F.w0 w') (hk : Keeps C.ex w w')
    (hB : ∀ b B, C.box b = some B → w'.heap[B]? = w.heap[B]?) (hR : ∀ k B s sz n, C.row k = some (some (B, s, sz, n)) → w'.heap[B]? = w.heap[B]?)
    (ex' : Nat → Prop) (h1 : ∀ B, C.ex B → ex' B) (h2 : ∀ B, ex' B → C.ex B ∨ w.heap.size ≤ B) (h3 : ∀ B, ex' B → B < w'.heap.size) : Inv { C with ex := ex' } F st a w' := by
  have keep : ∀ g v, Rep C w g v → Rep { C with ex := ex' } w' g v := fun g v hg => hg.keep hk (fun B hB hn hx => by rcases h2 B hx with hx | hx; exact hn hx; omega) (fun _ _ h => h) (fun _ _ h => h)
  refine ⟨h.nd, h.sz, fun i g v hg hv => keep g v (h.slots i g v hg hv), ⟨fun b cs hb => ?_, fun k xs hx => ?_, h.mem.domB, h.mem.domR, h.mem.bb, h.mem.rr, h.mem.br, h3⟩, hf, fun B hB => h1 B (h.ex0 B hB), fun B hB => ?_, h.t0, h.tb, h.tr, h.fb⟩
  · obtain ⟨B, vs, T, k1, k2, k3, k4, k5, k6⟩ := h.mem.box b cs hb
    exact ⟨B, vs, T, k1, h1 _ k2, by rw [hB b B k1]; exact k3, k4, k5, fun i g v hg hv => ⟨(k6 i g v hg hv).1, keep _ _ (k6 i g v hg hv).2⟩⟩
  · rcases h.mem.row k xs hx with k1 | ⟨B, s, sz, n, vs, T, fz, k1, k2, k3, k4, k5, k6, k6b, k7, k8⟩ | km
    · exact .inl k1
    · exact .inr (.inl ⟨B, s, sz, n, vs, T, fz, k1, h1 _ k2, by rw [hR k B s sz n k1]; exact k3, k4, k5, k6, k6b, k7, fun i r j g v a1 a2 a3 => keep _ _ (k8 i r j g v a1 a2 a3)⟩)
    · exact .inr (.inr (km.move (fun q h => h) (fun _ _ _ h => h1 _ h) (fun B q hq => hR k B _ _ _ hq) (fun g u _ hu => keep _ _ hu)))
  · rcases h2 B hB with hB | hB
    · exact h.exn B hB
    · exact .inr (by have := h.fr.size; omega)

theorem Inv.lt_alloc {C : Cx} {F : Fd} {st : St} {a : Act} {w : World} (h : Inv C F st a w) (o : Obj) : Inv C F st a (w.alloc o) :=
  h.step (h.fr.alloc o) (keeps_alloc _ w o) (fun b B hb => Below.heap_alloc w o B (h.mem.lt _ (h.mem.ltB hb))) (fun k B s sz n hk => Below.heap_alloc w o B (h.mem.lt _ (h.mem.ltR hk)))
    C.ex (fun _ h => h) (fun _ h => .inl h) (fun B hB => by have := h.mem.lt B hB; simp; omega)
/-- A new block that is the call's own. -/
theorem Inv.own_alloc {C : Cx} {F : Fd} {st : St} {a : Act} {w : World} (h : Inv C F st a w) (o : Obj) : Inv { C with ex := fun B => C.ex B ∨ B = w.heap.size } F st a (w.alloc o) :=
  h.step (h.fr.alloc o) (keeps_alloc _ w o) (fun b B hb => Below.heap_alloc w o B (h.mem.lt _ (h.mem.ltB hb))) (fun k B s sz n hk => Below.heap_alloc w o B (h.mem.lt _ (h.mem.ltR hk)))
    _ (fun _ h => .inl h) (fun _ h => h.imp id (fun e => by omega)) (fun B hB => by rcases hB with hB | hB; have := h.mem.lt B hB; simp; omega; simp; omega)
theorem Inv.heap {C : Cx} {F : Fd} {st : St} {a : Act} {w w' : World} (h : Inv C F st a w) (h1 : w'.heap = w.heap) (h2 : w'.os = w.os) (h3 : w'.tape = w.tape) (h4 : w'.output = w.output) : Inv C F st a w' :=
  h.step ⟨h2.trans h.fr.os, h3.trans h.fr.tape, h4.trans h.fr.output, by rw [h1]; exact h.fr.size, fun B hB hn => by rw [h1]; exact h.fr.block B hB hn, fun B vs T fz hB => by rw [h1]; exact h.fr.ty _ _ _ _ hB⟩ ⟨by rw [h1]; exact Nat.le_refl _, fun B _ _ => by rw [h1], fun B vs T fz hB => ⟨vs, fz, by rw [h1]; exact hB, rfl⟩⟩
    (fun _ _ _ => by rw [h1]) (fun _ _ _ _ _ _ => by rw [h1]) C.ex (fun _ h => h) (fun _ h => .inl h) (fun B hB => by rw [h1]; exact h.mem.lt B hB)
theorem Inv.drew {C : Cx} {F : Fd} {st : St} {a : Act} {w : World} (h : Inv C F st a w) : Inv C F st a w.drew := h.heap rfl rfl rfl rfl
/-- An own block that no variable and no row names has turned. -/
theorem Inv.only {C : Cx} {F : Fd} {st : St} {a : Act} {w w' : World} {B : Nat} {vs : List Value} {T : TypeId} {fz : Nat × Nat} (h : Inv C F st a w) (ho : Only w w' B vs T fz) (he : C.ex B) (ht : F.t0 B ∨ F.w0.heap.size ≤ B)
    (hb : ∀ b, C.box b ≠ some B) (hr : ∀ k s sz n, C.row k ≠ some (some (B, s, sz, n))) : Inv C F st a w' :=
  h.step (ho.fr h.fr ht) (ho.keeps he) (fun b B' hB => ho.block B' (fun e => hb b (e ▸ hB))) (fun k B' s sz n hk => ho.block B' (fun e => hr k s sz n (e ▸ hk))) C.ex (fun _ h => h) (fun _ h => .inl h)
    (fun B' hB' => by rw [ho.size]; exact h.mem.lt B' hB')

/-- A store into an own variable. -/
theorem Inv.store {C : Cx} {F : Fd} {st : St} {a : Act} {w w' : World} {b B : Nat} {cs us : List G} {vs : List Value} {T : TypeId} {off : Nat} {ws : List Value} (h : Inv C F st a w) (hcs : st.boxes[b]? = some (some cs)) (hB : C.box b = some B)
    (hh : w.heap[B]? = some (.cells ⟨vs⟩ T (0, 0))) (ho : Only w w' B (blit vs off ws) T (0, 0)) (hl : ws.length = us.length) (hle : off + us.length ≤ cs.length) (h1 : ∀ v ∈ ws, v.oneCell' = true)
    (hr : ∀ (i : Nat) g v, us[i]? = some g → ws[i]? = some v → g.cell = true ∧ Rep C w g v) : Inv C F (st.setBox b (blit cs off us)) a w' := by
  have he : C.ex B := h.mem.ltB hB
  have hk := ho.keeps he
  have keep : ∀ g v, Rep C w g v → Rep C w' g v := fun g v hg => hg.keep hk (fun _ _ h => h) (fun _ _ h => h) (fun _ _ h => h)
  obtain ⟨B', vs', T', k1, _, k3, k4, k5, k6⟩ := h.mem.box b cs hcs
  rw [hB] at k1; cases k1
  rw [hh] at k3; cases k3
  have hbl : b < st.boxes.length := (List.getElem?_eq_some_iff.1 hcs).1
  refine ⟨h.nd, h.sz, fun i g v hg hv => keep g v (h.slots i g v hg hv), ⟨fun x cs' hx => ?_, fun k xs hx => ?_, fun x X hx => ?_, h.mem.domR, h.mem.bb, h.mem.rr, h.mem.br, fun X hX => by rw [ho.size]; exact h.mem.lt X hX⟩, ho.fr h.fr (h.tb b B hB), h.ex0, h.exn, h.t0, h.tb, h.tr, h.fb⟩
  · by_cases e : x = b
    · subst e
      simp only [St.setBox, List.getElem?_set_self hbl, Option.some.injEq] at hx
      subst hx
      refine ⟨B, _, T, hB, he, ho.here, by rw [blit_length, blit_length]; exact k4, fun v hv => ?_, fun i g v hg hv => ?_⟩
      · obtain ⟨i, hi⟩ := List.mem_iff_getElem?.1 hv
        rw [blit_get _ _ _ _ (by omega)] at hi
        split at hi
        · exact h1 v (List.mem_of_getElem? hi)
        · exact k5 v (List.mem_of_getElem? hi)
      · rw [blit_get _ _ _ _ (by omega)] at hg hv
        rw [hl] at hv
        split at hg
        · rename_i hc
          rw [if_pos hc] at hv
          exact ⟨(hr _ g v hg hv).1, keep _ _ (hr _ g v hg hv).2⟩
        · rename_i hc
          rw [if_neg hc] at hv
          exact ⟨(k6 i g v hg hv).1, keep _ _ (k6 i g v hg hv).2⟩
    · simp only [St.setBox, List.getElem?_set_ne (fun e' => e e'.symm)] at hx
      obtain ⟨X, vs', T', k1, k2, k3, k4, k5, k6⟩ := h.mem.box x cs' hx
      have hne : X ≠ B := fun e' => e (h.mem.bb x b X k1 (by rw [e']; exact hB))
      exact ⟨X, vs', T', k1, k2, by rw [ho.block X hne]; exact k3, k4, k5, fun i g v hg hv => ⟨(k6 i g v hg hv).1, keep _ _ (k6 i g v hg hv).2⟩⟩
  · rcases h.mem.row k xs hx with k1 | ⟨X, s, sz, n, vs', T', fz, k1, k2, k3, k4, k5, k6, k6b, k7, k8⟩ | km
    · exact .inl k1
    · have hne : X ≠ B := fun e' => h.mem.br b k B s sz n hB (by rw [← e']; exact k1)
      exact .inr (.inl ⟨X, s, sz, n, vs', T', fz, k1, k2, by rw [ho.block X hne]; exact k3, k4, k5, k6, k6b, k7, fun i r j g v a1 a2 a3 => keep _ _ (k8 i r j g v a1 a2 a3)⟩)
    · exact .inr (.inr (km.move (fun q h => h) (fun _ _ _ h => h) (fun X q hq => ho.block X (fun e' => h.mem.br b k B _ _ _ hB (by rw [← e']; exact hq))) (fun g u _ hu => keep _ _ hu)))
  · by_cases e : x = b
    · subst e; exact ⟨_, by simp only [St.setBox]; exact List.getElem?_set_self hbl⟩
    · obtain ⟨cs', hcs'⟩ := h.mem.domB x X hx
      exact ⟨cs', by simp only [St.setBox, List.getElem?_set_ne (fun e' => e e'.symm)]; exact hcs'⟩

/-- An own block that nothing names is laid as row k. -/
theorem Inv.addRow {C : Cx} {F : Fd} {st : St} {a : Act} {w : World} {k B s sz n : Nat} {vs : List Value} {T : TypeId} {fz : Nat × Nat} {xs : List (List G)} (h : Inv C F st a w) (hk : C.row k = none) (hlt : k < st.rows.length) (he : C.ex B)
    (ht : F.t0 B ∨ F.w0.heap.size ≤ B) (hb : ∀ b, C.box b ≠ some B) (hr : ∀ k s sz n, C.row k ≠ some (some (B, s, sz, n))) (hh : w.heap[B]? = some (.cells ⟨vs⟩ T fz)) (hn : s + n * sz ≤ vs.length) (hx : 0 < xs.length ∧ xs.length ≤ n)
    (hf : ∀ o, o < vs.length → ¬ (fz.1 ≤ o ∧ o < fz.2)) (h1 : ∀ v ∈ vs, v.oneCell' = true) (hc : ∀ r ∈ xs, r.length = sz ∧ ∀ g ∈ r, g.closed0 = true)
    (hR : ∀ (i : Nat) r (j : Nat) g v, xs[i]? = some r → r[j]? = some g → vs[s + i * sz + j]? = some v → Rep C w g v) :
    ∃ C', Inv C' F (st.setRow k xs) a w ∧ C'.row k = some (some (B, s, sz, n)) ∧ (∀ x, C'.ex x ↔ C.ex x) := by
  let C' : Cx := { C with row := fun x => if x = k then some (some (B, s, sz, n)) else C.row x }
  have hrow : ∀ x r, C'.row x = some r → (x = k ∧ r = some (B, s, sz, n)) ∨ (x ≠ k ∧ C.row x = some r) := fun x r hx => by
    have hx' : (if x = k then some (some (B, s, sz, n)) else C.row x) = some r := hx
    split at hx'
    · cases hx'; exact .inl ⟨by assumption, rfl⟩
    · exact .inr ⟨by assumption, hx'⟩
  have keep : ∀ g v, Rep C w g v → Rep C' w g v := fun g v hg => hg.keep (Keeps.refl _ _) (fun _ _ h => h) (fun _ _ h => h) (fun x r hx => by
    show (if x = k then _ else _) = _
    rw [if_neg (fun e => by subst e; rw [hk] at hx; cases hx)]; exact hx)
  have hself : C'.row k = some (some (B, s, sz, n)) := by show (if k = k then _ else _) = _; rw [if_pos rfl]
  refine ⟨C', ⟨h.nd, h.sz, fun i g v hg hv => keep g v (h.slots i g v hg hv), ⟨fun b cs hb' => ?_, fun x ys hx' => ?_, h.mem.domB, fun x r hx' => ?_, h.mem.bb, fun x x' X s1 z1 n1 s2 z2 n2 e1 e2 => ?_, fun b x X s1 z1 n1 e1 e2 => ?_, h.mem.lt⟩, h.fr, h.ex0, h.exn, h.t0, h.tb, fun x X s1 z1 n1 e1 => ?_, h.fb⟩, hself, fun _ => Iff.rfl⟩
  · obtain ⟨X, vs', T', k1, k2, k3, k4, k5, k6⟩ := h.mem.box b cs hb'
    exact ⟨X, vs', T', k1, k2, k3, k4, k5, fun i g v hg hv => ⟨(k6 i g v hg hv).1, keep _ _ (k6 i g v hg hv).2⟩⟩
  · by_cases e : x = k
    · subst e
      simp only [St.setRow, List.getElem?_set_self hlt, Option.some.injEq] at hx'
      subst hx'
      exact .inr (.inl ⟨B, s, sz, n, vs, T, fz, hself, he, hh, hn, hx, hf, h1, hc, fun i r j g v a1 a2 a3 => keep _ _ (hR i r j g v a1 a2 a3)⟩)
    · simp only [St.setRow, List.getElem?_set_ne (fun e' => e e'.symm)] at hx'
      have hrx : C'.row x = C.row x := by show (if x = k then _ else _) = _; rw [if_neg e]
      rcases h.mem.row x ys hx' with k1 | ⟨X, s', sz', n', vs', T', fz', k1, k2, k3, k4, k5, k6, k6b, k7, k8⟩ | km
      · exact .inl ⟨hrx.trans k1.1, k1.2⟩
      · exact .inr (.inl ⟨X, s', sz', n', vs', T', fz', hrx.trans k1, k2, k3, k4, k5, k6, k6b, k7, fun i r j g v a1 a2 a3 => keep _ _ (k8 i r j g v a1 a2 a3)⟩)
      · exact .inr (.inr (km.move (fun q h => hrx.trans h) (fun _ _ _ h => h) (fun _ _ _ => rfl) (fun g u _ hu => keep _ _ hu)))
  · rcases hrow x r hx' with ⟨rfl, rfl⟩ | ⟨e, h2⟩
    · exact ⟨xs, by simp only [St.setRow]; exact List.getElem?_set_self hlt⟩
    · obtain ⟨ys, hys⟩ := h.mem.domR x r h2
      exact ⟨ys, by simp only [St.setRow, List.getElem?_set_ne (fun e' => e e'.symm)]; exact hys⟩
  · rcases hrow x _ e1 with ⟨rfl, q⟩ | ⟨e, p1⟩ <;> rcases hrow x' _ e2 with ⟨rfl, q'⟩ | ⟨e', p2⟩
    · rfl
    · cases q; exact absurd p2 (hr _ _ _ _)
    · cases q'; exact absurd p1 (hr _ _ _ _)
    · exact h.mem.rr x x' X s1 z1 n1 s2 z2 n2 p1 p2
  · rcases hrow x _ e2 with ⟨rfl, q⟩ | ⟨e, p⟩
    · cases q; exact hb b e1
    · exact h.mem.br b x X s1 z1 n1 e1 p
  · rcases hrow x _ e1 with ⟨rfl, q⟩ | ⟨e, p⟩
    · cases q; exact ht
    · exact h.tr x X s1 z1 n1 p

/-- A row that is nil. -/
theorem Inv.addNil {C : Cx} {F : Fd} {st : St} {a : Act} {w : World} {k : Nat} (h : Inv C F st a w) (hk : C.row k = none) (hlt : k < st.rows.length) :
    ∃ C', Inv C' F (st.setRow k []) a w ∧ C'.row k = some none ∧ (∀ x, C'.ex x ↔ C.ex x) := by
  let C' : Cx := { C with row := fun x => if x = k then some none else C.row x }
  have hrow : ∀ x r, C'.row x = some r → (x = k ∧ r = none) ∨ (x ≠ k ∧ C.row x = some r) := fun x r hx => by
    have hx' : (if x = k then some none else C.row x) = some r := hx
    split at hx'
    · cases hx'; exact .inl ⟨by assumption, rfl⟩
    · exact .inr ⟨by assumption, hx'⟩
  have keep : ∀ g v, Rep C w g v → Rep C' w g v := fun g v hg => hg.keep (Keeps.refl _ _) (fun _ _ h => h) (fun _ _ h => h) (fun x r hx => by
    show (if x = k then _ else _) = _
    rw [if_neg (fun e => by subst e; rw [hk] at hx; cases hx)]; exact hx)
  have hself : C'.row k = some none := by show (if k = k then _ else _) = _; rw [if_pos rfl]
  refine ⟨C', ⟨h.nd, h.sz, fun i g v hg hv => keep g v (h.slots i g v hg hv), ⟨fun b cs hb' => ?_, fun x ys hx' => ?_, h.mem.domB, fun x r hx' => ?_, h.mem.bb, fun x x' X s1 z1 n1 s2 z2 n2 e1 e2 => ?_, fun b x X s1 z1 n1 e1 e2 => ?_, h.mem.lt⟩, h.fr, h.ex0, h.exn, h.t0, h.tb, fun x X s1 z1 n1 e1 => ?_, h.fb⟩, hself, fun _ => Iff.rfl⟩
  · obtain ⟨X, vs', T', k1, k2, k3, k4, k5, k6⟩ := h.mem.box b cs hb'
    exact ⟨X, vs', T', k1, k2, k3, k4, k5, fun i g v hg hv => ⟨(k6 i g v hg hv).1, keep _ _ (k6 i g v hg hv).2⟩⟩
  · by_cases e : x = k
    · subst e
      simp only [St.setRow, List.getElem?_set_self hlt, Option.some.injEq] at hx'
      subst hx'
      exact .inl ⟨hself, rfl⟩
    · simp only [St.setRow, List.getElem?_set_ne (fun e' => e e'.symm)] at hx'
      have hrx : C'.row x = C.row x := by show (if x = k then _ else _) = _; rw [if_neg e]
      rcases h.mem.row x ys hx' with k1 | ⟨X, s', sz', n', vs', T', fz', k1, k2, k3, k4, k5, k6, k6b, k7, k8⟩ | km
      · exact .inl ⟨hrx.trans k1.1, k1.2⟩
      · exact .inr (.inl ⟨X, s', sz', n', vs', T', fz', hrx.trans k1, k2, k3, k4, k5, k6, k6b, k7, fun i r j g v a1 a2 a3 => keep _ _ (k8 i r j g v a1 a2 a3)⟩)
      · exact .inr (.inr (km.move (fun q h => hrx.trans h) (fun _ _ _ h => h) (fun _ _ _ => rfl) (fun g u _ hu => keep _ _ hu)))
  · rcases hrow x r hx' with ⟨rfl, rfl⟩ | ⟨e, h2⟩
    · exact ⟨[], by simp only [St.setRow]; exact List.getElem?_set_self hlt⟩
    · obtain ⟨ys, hys⟩ := h.mem.domR x r h2
      exact ⟨ys, by simp only [St.setRow, List.getElem?_set_ne (fun e' => e e'.symm)]; exact hys⟩
  · rcases hrow x _ e1 with ⟨rfl, q⟩ | ⟨e, p1⟩
    · cases q
    · rcases hrow x' _ e2 with ⟨rfl, q'⟩ | ⟨e', p2⟩
      · cases q'
      · exact h.mem.rr x x' X s1 z1 n1 s2 z2 n2 p1 p2
  · rcases hrow x _ e2 with ⟨rfl, q⟩ | ⟨e, p⟩
    · cases q
    · exact h.mem.br b x X s1 z1 n1 e1 p
  · rcases hrow x _ e1 with ⟨rfl, q⟩ | ⟨e, p⟩
    · cases q
    · exact h.tr x X s1 z1 n1 p

/-- The free row number k: killed if it was there. -/
def St.freeRow (st : St) (k : Nat) : St :=
  match st.rows.getD k none with
  | none => st
  | some _ => st.killR k
theorem Inv.freeRow {C : Cx} {F : Fd} {st : St} {a : Act} {w : World} (h : Inv C F st a w) (k : Nat) : ∃ C', Inv C' F (st.freeRow k) a w ∧ C'.row k = none ∧ C'.box = C.box ∧ C'.ex = C.ex ∧ (∀ x r, C'.row x = some r → C.row x = some r ∧ x ≠ k) ∧
    (∀ x, x ≠ k → C'.row x = C.row x) := by
  unfold St.freeRow
  cases hb : st.rows.getD k none with
  | none =>
    have hn : C.row k = none := by
      cases hx : C.row k with
      | none => rfl
      | some r =>
        obtain ⟨xs, hxs⟩ := h.mem.domR k r hx
        rw [List.getD_eq_getElem?_getD, hxs] at hb; cases hb
    exact ⟨C, h, hn, rfl, rfl, fun x r hx => ⟨hx, fun e => by subst e; rw [hn] at hx; cases hx⟩, fun _ _ => rfl⟩
  | some _ =>
    refine ⟨_, h.killR k, by show (if k = k then none else _) = _; rw [if_pos rfl], rfl, rfl, fun x r hx => ?_, fun x hx => by show (if x = k then none else _) = _; rw [if_neg hx]⟩
    have hx' : (if x = k then none else C.row x) = some r := hx
    split at hx'
    · cases hx'
    · exact ⟨hx', by assumption⟩
theorem freeRow_len (st : St) (k : Nat) : (st.freeRow k).rows.length = st.rows.length := by
  unfold St.freeRow; split <;> simp [St.killR]
theorem freeRow_boxes (st : St) (k : Nat) : (st.freeRow k).boxes.length = st.boxes.length := by
  unfold St.freeRow; split <;> simp [St.killR]
end Go.Proofs.YtcihkmnolagdlaaDoor.Av
