/- A call that is handed places does what its rule says. No condition. -/
import Derived.Test.YtcihkmnolagdlaaDoorAv8p
namespace Go.Proofs.YtcihkmnolagdlaaDoor.Av
open Go Go.RowKit
set_option linter.unusedVariables false
set_option linter.unusedSimpArgs false

section
variable {P : Program} {C : Cx} {F : Fd} {st : St} {a : Act} {w : World}

theorem killRs : ∀ (R : List Nat) (st : St) (C : Cx), Inv C F st a w → ∃ C1, Inv C1 F (R.foldl (fun s k => s.killR k) st) a w ∧ C1.box = C.box ∧ C1.ex = C.ex ∧ (∀ k, k ∉ R → C1.row k = C.row k) ∧ (∀ k ∈ R, C1.row k = none) ∧
    (R.foldl (fun s k => s.killR k) st).boxes.length = st.boxes.length ∧ (R.foldl (fun s k => s.killR k) st).rows.length = st.rows.length ∧ (R.foldl (fun s k => s.killR k) st).slots.length = st.slots.length ∧
    (∀ b : Nat, st.boxes[b]? = some none → (R.foldl (fun s k => s.killR k) st).boxes[b]? = some none)
  | [], st, C, hi => ⟨C, hi, rfl, rfl, fun _ _ => rfl, fun _ h => by simp at h, rfl, rfl, rfl, fun _ h => h⟩
  | k :: R, st, C, hi => by
    obtain ⟨C1, h1, h2, h3, h4, h5, h6, h7, h8, h9⟩ := killRs R (st.killR k) (C.noR k) (hi.killR k)
    have hno : (C.noR k).row k = none := by show (if k = k then none else _) = _; rw [if_pos rfl]
    have hne : ∀ x, x ≠ k → (C.noR k).row x = C.row x := fun x hx => by show (if x = k then none else _) = _; rw [if_neg hx]
    refine ⟨C1, h1, h2, h3, fun x hx => ?_, fun x hx => ?_, ?_, ?_, ?_, fun b hb => ?_⟩
    · simp only [List.mem_cons, not_or] at hx
      rw [h4 x hx.2, hne x hx.1]
    · by_cases hm : x ∈ R
      · exact h5 x hm
      · rcases List.mem_cons.1 hx with e | e
        · subst e; rw [h4 x hm, hno]
        · exact absurd e hm
    · rw [List.foldl_cons, h6]; simp [St.killR]
    · rw [List.foldl_cons, h7]; simp [St.killR]
    · rw [List.foldl_cons, h8]; simp [St.killR]
    · rw [List.foldl_cons]; exact h9 b (by simp [St.killR, hb])

theorem boxes_some {b : Nat} (h : (st.boxes.getD b none).isSome = true) : st.boxes[b]? = some (some (cellsB st b)) := by
  rw [cellsB_eq]
  rw [List.getD_eq_getElem?_getD] at h ⊢
  cases hx : st.boxes[b]? with
  | none => rw [hx] at h; simp at h
  | some o => rw [hx] at h; cases o <;> simp_all
theorem rows_some {k : Nat} (h : (st.rows.getD k none).isSome = true) : st.rows[k]? = some (some ((st.rows.getD k none).getD [])) := by
  rw [List.getD_eq_getElem?_getD] at h ⊢
  cases hx : st.rows[k]? with
  | none => rw [hx] at h; simp at h
  | some o => rw [hx] at h; cases o <;> simp_all

theorem place_sound {d : Nat} {f : FuncId} {gs : List G} {k : G → St → Prop} (h : placeP P d f gs st k) (hi : Inv C F st a w) {vs : List Value} (hl : vs.length = gs.length)
    (hr : ∀ (i : Nat) g v, gs[i]? = some g → vs[i]? = some v → Rep C w g v) : hasBody P f = true ∧ Calls P f ⟨vs⟩ w fun e w' => ∃ v, e = .returned v ∧ After F k a v w' := by
  unfold placeP at h
  rw [fI_eq, fI_eq] at h
  generalize seenB st gs = B at h
  generalize seenR st gs B = R at h
  cases hc : B.all (fun b => (st.boxes.getD b none).isSome) && R.all (fun k => (st.rows.getD k none).isSome) && distinct B && distinct R with
  | false => rw [hc] at h; exact h.elim
  | true =>
  rw [hc] at h
  simp only [Bool.and_eq_true, List.all_eq_true] at hc
  obtain ⟨⟨⟨hB, hR⟩, dB⟩, dR⟩ := hc
  have nB := distinct_nodup dB
  have nR := distinct_nodup dR
  simp only [cond_true, fS_eq, fBs_eq, fRs_eq] at h
  obtain ⟨q, ⟨hb, hF⟩, h⟩ := h
  refine ⟨hb, ?_⟩
  let Cc : Cx := { box := fun i => (B[i]?).bind C.box, row := fun i => (R[i]?).bind C.row, ex := C.ex }
  let t0 : Nat → Prop := fun X => (∃ b ∈ B, C.box b = some X) ∨ ∃ k ∈ R, ∃ s sz n, C.row k = some (some (X, s, sz, n))
  have cbox : ∀ i b, B[i]? = some b → Cc.box i = C.box b := fun i b e => by show (B[i]?).bind _ = _; rw [e]; rfl
  have crow : ∀ i b, R[i]? = some b → Cc.row i = C.row b := fun i b e => by show (R[i]?).bind _ = _; rw [e]; rfl
  have cboxI : ∀ i X, Cc.box i = some X → ∃ b, B[i]? = some b ∧ C.box b = some X := fun i X e => by
    have e' : (B[i]?).bind C.box = some X := e
    cases hx : B[i]? with
    | none => rw [hx] at e'; cases e'
    | some b => rw [hx] at e'; exact ⟨b, rfl, e'⟩
  have crowI : ∀ i X, Cc.row i = some X → ∃ b, R[i]? = some b ∧ C.row b = some X := fun i X e => by
    have e' : (R[i]?).bind C.row = some X := e
    cases hx : R[i]? with
    | none => rw [hx] at e'; cases e'
    | some b => rw [hx] at e'; exact ⟨b, rfl, e'⟩
  have lead : Leads C Cc w w (pos B) (pos R) := ⟨fun b i X e hX => by rw [cbox i b (pos_some e)]; exact hX, fun b i X e hX => by rw [crow i b (pos_some e)]; exact hX, Keeps.refl _ _, fun _ _ h => h⟩
  have hmem : Mem Cc w ((B.map fun b => (cellsB st b).map (ren0 (pos B) (pos R))).map some) ((R.map fun k => (st.rows.getD k none).getD []).map some) := by
    refine ⟨fun i cs hx => ?_, fun i xs hx => ?_, fun i X hX => ?_, fun i X hX => ?_, fun i i' X h1 h2 => ?_, fun i i' X s z n s' z' n' h1 h2 => ?_, fun i j X s z n h1 h2 => ?_, hi.mem.lt⟩
    · simp only [List.getElem?_map, Option.map_eq_some_iff] at hx
      obtain ⟨_, ⟨b, hbi, rfl⟩, e⟩ := hx
      cases e
      obtain ⟨X, us, T, k1, k2, k3, k4, k5, k6⟩ := hi.mem.box b _ (boxes_some (hB b (List.mem_of_getElem? hbi)))
      refine ⟨X, us, T, by rw [cbox i b hbi]; exact k1, k2, k3, by simp [k4], k5, fun j g v hg hv => ?_⟩
      rw [List.getElem?_map] at hg
      obtain ⟨g0, hg0, rfl⟩ := Option.map_eq_some_iff.1 hg
      obtain ⟨q1, q2⟩ := k6 j g0 v hg0 hv
      exact ⟨cell_ren0 q1 _ _, q2.ren0 lead q1⟩
    · simp only [List.getElem?_map, Option.map_eq_some_iff] at hx
      obtain ⟨_, ⟨b, hbi, rfl⟩, e⟩ := hx
      cases e
      rcases hi.mem.row b _ (rows_some (hR b (List.mem_of_getElem? hbi))) with k1 | ⟨X, s, z, n, us, T, fz, k1, k2, k3, k4, k5, k6, k6b, k7, k8⟩ | km
      rotate_left 2
      · exact .inr (.inr (km.move (fun q h => by rw [crow i b hbi]; exact h) (fun _ _ _ h => h) (fun _ _ _ => rfl) (fun g u hg hu => hu.keep0 hg (Keeps.refl _ _) (fun _ _ h => h))))
      · exact .inl ⟨by rw [crow i b hbi]; exact k1.1, k1.2⟩
      · exact .inr <| .inl ⟨X, s, z, n, us, T, fz, by rw [crow i b hbi]; exact k1, k2, k3, k4, k5, k6, k6b, k7, fun i r j g v a1 a2 a3 => (k8 i r j g v a1 a2 a3).keep0 ((k7 r (List.mem_of_getElem? a1)).2 g (List.mem_of_getElem? a2)) (Keeps.refl _ _) (fun _ _ h => h)⟩
    · obtain ⟨b, hbi, _⟩ := cboxI i X hX
      exact ⟨_, by simp only [List.getElem?_map, hbi, Option.map_some]; rfl⟩
    · obtain ⟨b, hbi, _⟩ := crowI i X hX
      exact ⟨_, by simp only [List.getElem?_map, hbi, Option.map_some]; rfl⟩
    · obtain ⟨b, hbi, e1⟩ := cboxI i X h1
      obtain ⟨b', hbi', e2⟩ := cboxI i' X h2
      have := hi.mem.bb b b' X e1 e2
      subst this
      exact (List.getElem?_inj (List.getElem?_eq_some_iff.1 hbi).1 nB).1 (hbi.trans hbi'.symm)
    · obtain ⟨b, hbi, e1⟩ := crowI i _ h1
      obtain ⟨b', hbi', e2⟩ := crowI i' _ h2
      have := hi.mem.rr b b' X s z n s' z' n' e1 e2
      subst this
      exact (List.getElem?_inj (List.getElem?_eq_some_iff.1 hbi).1 nR).1 (hbi.trans hbi'.symm)
    · obtain ⟨b, hbi, e1⟩ := cboxI i X h1
      obtain ⟨b', hbi', e2⟩ := crowI j _ h2
      exact hi.mem.br b b' X s z n e1 e2
  have t0ex : ∀ X, t0 X → C.ex X := fun X hX => by
    rcases hX with ⟨b, _, e⟩ | ⟨k', _, s, z, n, e⟩
    · exact hi.mem.ltB e
    · exact hi.mem.ltR e
  have t0F : ∀ X, t0 X → F.t0 X ∨ F.w0.heap.size ≤ X := fun X hX => by
    rcases hX with ⟨b, _, e⟩ | ⟨k', _, s, z, n, e⟩
    · exact hi.tb b X e
    · exact hi.tr k' X s z n e
  refine (hF Cc w t0 vs (by simp [hl]) (fun i g v hg hv => ?_) hmem t0ex (fun i X hX => ?_) (fun i X s z n hX => ?_) hi.fixed).mono fun e w' he => ?_
  · rw [List.getElem?_map] at hg
    obtain ⟨g0, hg0, rfl⟩ := Option.map_eq_some_iff.1 hg
    exact (hr i g0 v hg0 hv).ren lead
  · obtain ⟨b, hbi, e1⟩ := cboxI i X hX
    exact .inl ⟨b, List.mem_of_getElem? hbi, e1⟩
  · obtain ⟨b, hbi, e1⟩ := crowI i _ hX
    exact .inr ⟨b, List.mem_of_getElem? hbi, s, z, n, e1⟩
  obtain ⟨v, C', g, bs', rs', rfl, ⟨rfl, rfl, rfl⟩, hRep, hM, hE⟩ := he
  refine ⟨v, rfl, ?_⟩
  unfold backP at h
  have hidB : (idsOf B d st.slots.length q.2.1.length).take B.length = B := by unfold idsOf; simp
  have hidR : (idsOf R d st.slots.length q.2.2.length).take R.length = R := by unfold idsOf; simp
  generalize idsOf B d st.slots.length q.2.1.length = ids at h hidB
  generalize idsOf R d st.slots.length q.2.2.length = rids at h hidR
  cases hc : backOk ids rids B R st q with
  | false => rw [hc] at h; exact h.elim
  | true =>
  rw [hc] at h
  simp only [cond_true, St.force_eq] at h
  unfold backOk at hc
  simp only [Bool.and_eq_true, List.all_eq_true] at hc
  obtain ⟨⟨⟨⟨⟨⟨⟨c1, c2⟩, c3⟩, c4⟩, c5⟩, c6⟩, c7⟩, c8⟩ := hc
  have nI := distinct_nodup c1
  have nJ := distinct_nodup c2
  have c5 := Nat.eq_of_beq_eq_true c5
  have c6 := Nat.eq_of_beq_eq_true c6
  have c3 : ∀ b ∈ ids, b < st.boxes.length := fun b hb => Nat.le_of_ble_eq_true (c3 b hb)
  have c4 : ∀ b ∈ rids, b < st.rows.length := fun b hb => Nat.le_of_ble_eq_true (c4 b hb)
  obtain ⟨C1, i1, i2, i3, i4, i5, i6, i7, i8, _⟩ := killRs (F := F) (a := a) (w := w) R st C hi
  -- which of the names are old ones
  have newB : ∀ (i b : Nat), ids[i]? = some b → (B[i]? = some b) ∨ C.box b = none := fun i b e => by
    by_cases hlt : i < B.length
    · left
      have := congrArg (fun l : List Nat => l[i]?) hidB
      simp only [List.getElem?_take, hlt, if_true] at this
      rw [← this]; exact e
    · right
      have hm : b ∈ ids.drop B.length := List.mem_iff_getElem?.2 ⟨i - B.length, by rw [List.getElem?_drop]; rw [show B.length + (i - B.length) = i from by omega]; exact e⟩
      have hn := c7 b hm
      cases hx : C.box b with
      | none => rfl
      | some X =>
        obtain ⟨cs, hcs⟩ := hi.mem.domB b X hx
        rw [List.getD_eq_getElem?_getD, hcs] at hn; simp at hn
  have newR : ∀ (i b : Nat), rids[i]? = some b → (R[i]? = some b) ∨ C.row b = none := fun i b e => by
    by_cases hlt : i < R.length
    · left
      have := congrArg (fun l : List Nat => l[i]?) hidR
      simp only [List.getElem?_take, hlt, if_true] at this
      rw [← this]; exact e
    · right
      have hm : b ∈ rids.drop R.length := List.mem_iff_getElem?.2 ⟨i - R.length, by rw [List.getElem?_drop]; rw [show R.length + (i - R.length) = i from by omega]; exact e⟩
      have hn := c8 b hm
      cases hx : C.row b with
      | none => rfl
      | some X =>
        obtain ⟨cs, hcs⟩ := hi.mem.domR b X hx
        rw [List.getD_eq_getElem?_getD, hcs] at hn; simp at hn
  have inB : ∀ (i b : Nat), B[i]? = some b → ids[i]? = some b := fun i b e => by
    have := congrArg (fun l : List Nat => l[i]?) hidB
    simp only [List.getElem?_take] at this
    rw [if_pos (List.getElem?_eq_some_iff.1 e).1] at this
    rw [this]; exact e
  have inR : ∀ (i b : Nat), R[i]? = some b → rids[i]? = some b := fun i b e => by
    have := congrArg (fun l : List Nat => l[i]?) hidR
    simp only [List.getElem?_take] at this
    rw [if_pos (List.getElem?_eq_some_iff.1 e).1] at this
    rw [this]; exact e
  let C2 : Cx := { box := fun b => match pos ids b with | some i => C'.box i | none => C1.box b, row := fun b => match pos rids b with | some i => C'.row i | none => C1.row b, ex := C'.ex }
  have b2 : ∀ (i b : Nat), ids[i]? = some b → C2.box b = C'.box i := fun i b e => by show (match pos ids b with | some i => _ | none => _) = _; rw [pos_at nI e]
  have r2 : ∀ (i b : Nat), rids[i]? = some b → C2.row b = C'.row i := fun i b e => by show (match pos rids b with | some i => _ | none => _) = _; rw [pos_at nJ e]
  have b3 : ∀ b, b ∉ ids → C2.box b = C.box b := fun b hb => by
    show (match pos ids b with | some i => _ | none => _) = _
    cases hp : pos ids b with
    | none => rw [← i2]
    | some i => exact absurd (List.mem_of_getElem? (pos_some hp)) hb
  have r3 : ∀ b, b ∉ rids → C2.row b = C1.row b := fun b hb => by
    show (match pos rids b with | some i => _ | none => _) = _
    cases hp : pos rids b with
    | none => rfl
    | some i => exact absurd (List.mem_of_getElem? (pos_some hp)) hb
  have rC : ∀ b, b ∉ rids → C1.row b = C.row b := fun b hb => i4 b (fun hR' => by
    obtain ⟨j, hj⟩ := List.mem_iff_getElem?.1 hR'
    exact hb (List.mem_of_getElem? (inR j b hj)))
  have bcase : ∀ b : Nat, (∃ i : Nat, ids[i]? = some b) ∨ b ∉ ids := fun b => by
    by_cases hm : b ∈ ids
    · exact .inl (List.mem_iff_getElem?.1 hm)
    · exact .inr hm
  have rcase : ∀ b : Nat, (∃ i : Nat, rids[i]? = some b) ∨ b ∉ rids := fun b => by
    by_cases hm : b ∈ rids
    · exact .inl (List.mem_iff_getElem?.1 hm)
    · exact .inr hm
  -- what the call left as it was
  have same : ∀ X, X < w.heap.size → ¬ t0 X → w'.heap[X]? = w.heap[X]? := hE.fr.block
  have keeps : Keeps C.ex w w' := ⟨hE.fr.size, fun X hX hn => same X hX (fun h => hn (t0ex X h)), hE.fr.ty⟩
  have exs : ∀ X, X < w.heap.size → ¬ C.ex X → ¬ C'.ex X := fun X hX hn hx => by
    rcases hE.exn X hx with h | h
    · exact hn h
    · omega
  have oldbox : ∀ b X, C.box b = some X → C2.box b = some X := fun b X hX => by
    rcases bcase b with ⟨i, e⟩ | e
    · rcases newB i b e with e' | e'
      · rw [b2 i b e]; exact hE.box i X (by rw [cbox i b e']; exact hX)
      · rw [e'] at hX; cases hX
    · rw [b3 b e]; exact hX
  have oldrow : ∀ b r, C1.row b = some r → C2.row b = some r := fun b r hr' => by
    rcases rcase b with ⟨i, e⟩ | e
    · rcases newR i b e with e' | e'
      · rw [i5 b (List.mem_of_getElem? e')] at hr'; cases hr'
      · by_cases hm : b ∈ R
        · rw [i5 b hm] at hr'; cases hr'
        · rw [i4 b hm, e'] at hr'; cases hr'
    · rw [r3 b e]; exact hr'
  have keep1 : ∀ g v, Rep C1 w g v → Rep C2 w' g v := fun g v hg => hg.keep (by rw [i3]; exact keeps) (fun X hX hn => by rw [i3] at hn; exact exs X hX hn) (fun b X hX => oldbox b X (by rw [← i2]; exact hX)) oldrow
  have lead2 : Leads C' C2 w' w' (fun i => ids[i]?) (fun i => rids[i]?) := ⟨fun i b X e hX => by rw [b2 i b e]; exact hX, fun i b X e hX => by rw [r2 i b e]; exact hX, Keeps.refl _ _, fun _ _ h => h⟩
  -- a name outside stands for a block that the call did not have
  have outB : ∀ b X, b ∉ ids → C.box b = some X → ¬ t0 X := fun b X hb hX ht => by
    rcases ht with ⟨b', hb', e⟩ | ⟨k', _, s, z, n, e⟩
    · have := hi.mem.bb b b' X hX e
      subst this
      obtain ⟨j, hj⟩ := List.mem_iff_getElem?.1 hb'
      exact hb (List.mem_of_getElem? (inB j b hj))
    · exact hi.mem.br b k' X s z n hX e
  have outR : ∀ b X s z n, b ∉ rids → C.row b = some (some (X, s, z, n)) → ¬ t0 X := fun b X s z n hb hX ht => by
    rcases ht with ⟨b', hb', e⟩ | ⟨k', hk', s', z', n', e⟩
    · exact hi.mem.br b' b X s z n e hX
    · have := hi.mem.rr b k' X s z n s' z' n' hX e
      subst this
      obtain ⟨j, hj⟩ := List.mem_iff_getElem?.1 hk'
      exact hb (List.mem_of_getElem? (inR j b hj))
  have domI : ∀ i X, C'.box i = some X → i < ids.length := fun i X e => by
    obtain ⟨cs, hcs⟩ := hM.domB i X e
    rw [c5]; exact (List.getElem?_eq_some_iff.1 hcs).1
  have domJ : ∀ i X, C'.row i = some X → i < rids.length := fun i X e => by
    obtain ⟨cs, hcs⟩ := hM.domR i X e
    rw [c6]; exact (List.getElem?_eq_some_iff.1 hcs).1
  refine ⟨C2, _, _, h, ⟨hi.nd, ?_, fun i g v hg hv => ?_, ⟨fun b cs hx => ?_, fun b xs hx => ?_, fun b X hX => ?_, fun b r hr' => ?_, fun b b' X e1 e2 => ?_, fun b b' X s z n s' z' n' e1 e2 => ?_, fun b j X s z n e1 e2 => ?_, hM.lt⟩, ?_, fun X hX => hE.ex X (hi.ex0 X hX), fun X hX => ?_, hi.t0, fun b X hX => ?_, fun b X s z n hX => ?_, fun b X hX => ?_⟩, hRep.ren lead2⟩
  · show a.tmps.size = (R.foldl (fun s k => s.killR k) st).slots.length
    rw [i8]; exact hi.sz
  · exact keep1 g v (i1.slots i g v hg hv)
  · -- a variable
    change (setMany (R.foldl (fun s k => s.killR k) st).boxes _)[b]? = _ at hx
    rcases bcase b with ⟨i, e⟩ | e
    · have hlt : i < q.2.1.length := by rw [← c5]; exact (List.getElem?_eq_some_iff.1 e).1
      rw [setMany_in ids _ _ i b _ nI e (by rw [List.getElem?_map, List.getElem?_eq_getElem hlt]; rfl) (by rw [i6]; exact c3 b (List.mem_of_getElem? e))] at hx
      obtain ⟨cs0, hcs0, e0⟩ := Option.map_eq_some_iff.1 (Option.some.inj hx)
      subst e0
      obtain ⟨X, us, T, k1, k2, k3, k4, k5, k6⟩ := hM.box i cs0 (by rw [List.getElem?_eq_getElem hlt, hcs0])
      refine ⟨X, us, T, by rw [b2 i b e]; exact k1, k2, k3, by simp [k4], k5, fun j g v hg hv => ?_⟩
      rw [List.getElem?_map] at hg
      obtain ⟨g0, hg0, rfl⟩ := Option.map_eq_some_iff.1 hg
      obtain ⟨q1, q2⟩ := k6 j g0 v hg0 hv
      exact ⟨cell_ren0 q1 _ _, q2.ren0 lead2 q1⟩
    · rw [setMany_out _ _ _ (fun p hp e' => e (by rw [← e']; exact (List.of_mem_zip (a := p.1) (b := p.2) hp).1))] at hx
      obtain ⟨X, us, T, k1, k2, k3, k4, k5, k6⟩ := i1.mem.box b cs hx
      rw [i2] at k1
      refine ⟨X, us, T, by rw [b3 b e]; exact k1, hE.ex X (by rw [i3] at k2; exact k2), by rw [same X (hi.mem.lt X (hi.mem.ltB k1)) (outB b X e k1)]; exact k3, k4, k5, fun j g v hg hv => ?_⟩
      obtain ⟨q1, q2⟩ := k6 j g v hg hv
      exact ⟨q1, keep1 g v q2⟩
  · -- a row
    change (setMany (R.foldl (fun s k => s.killR k) st).rows _)[b]? = _ at hx
    rcases rcase b with ⟨i, e⟩ | e
    · have hlt : i < q.2.2.length := by rw [← c6]; exact (List.getElem?_eq_some_iff.1 e).1
      rw [setMany_in rids _ _ i b _ nJ e (List.getElem?_eq_getElem hlt) (by rw [i7]; exact c4 b (List.mem_of_getElem? e))] at hx
      rcases hM.row i xs (by rw [List.getElem?_eq_getElem hlt]; exact hx) with k1 | ⟨X, s, z, n, us, T, fz, k1, k2, k3, k4, k5, k6, k6b, k7, k8⟩ | km
      rotate_left 2
      · exact .inr (.inr (km.move (fun q h => by rw [r2 i b e]; exact h) (fun _ _ _ h => h) (fun _ _ _ => rfl) (fun g u hg hu => hu.keep0 hg (Keeps.refl _ _) (fun _ _ h => h))))
      · exact .inl ⟨by rw [r2 i b e]; exact k1.1, k1.2⟩
      · exact .inr <| .inl ⟨X, s, z, n, us, T, fz, by rw [r2 i b e]; exact k1, k2, k3, k4, k5, k6, k6b, k7, fun i r j g v a1 a2 a3 => (k8 i r j g v a1 a2 a3).keep0 ((k7 r (List.mem_of_getElem? a1)).2 g (List.mem_of_getElem? a2)) (Keeps.refl _ _) (fun _ _ h => h)⟩
    · rw [setMany_out _ _ _ (fun p hp e' => e (by rw [← e']; exact (List.of_mem_zip (a := p.1) (b := p.2) hp).1))] at hx
      rcases i1.mem.row b xs hx with k1 | ⟨X, s, z, n, us, T, fz, k1, k2, k3, k4, k5, k6, k6b, k7, k8⟩ | km
      rotate_left 2
      · refine .inr (.inr (km.move (fun q h => by rw [r3 b e]; exact h) (fun X q _ h => hE.ex X (by rw [i3] at h; exact h)) (fun X q hq => ?_) (fun g u hg hu => keep1 g u hu)))
        have hq' : C.row b = some (some (X, q.1, q.2.1, q.2.2)) := by rw [← rC b e]; exact hq
        exact same X (hi.mem.lt X (hi.mem.ltR hq')) (outR b X _ _ _ e hq')
      · exact .inl ⟨by rw [r3 b e]; exact k1.1, k1.2⟩
      · have k1' : C.row b = some (some (X, s, z, n)) := by rw [← rC b e]; exact k1
        exact .inr <| .inl ⟨X, s, z, n, us, T, fz, by rw [r3 b e]; exact k1, hE.ex X (by rw [i3] at k2; exact k2), by rw [same X (hi.mem.lt X (hi.mem.ltR k1')) (outR b X s z n e k1')]; exact k3, k4, k5, k6, k6b, k7, fun i r j g v a1 a2 a3 =>
          keep1 g v (k8 i r j g v a1 a2 a3)⟩
  · rcases bcase b with ⟨i, e⟩ | e
    · rw [b2 i b e] at hX
      obtain ⟨cs, hcs⟩ := hM.domB i X hX
      refine ⟨cs.map (ren0 (fun i => ids[i]?) (fun i => rids[i]?)), ?_⟩
      show (setMany (R.foldl (fun s k => s.killR k) st).boxes _)[b]? = _
      exact setMany_in ids _ _ i b _ nI e (by rw [List.getElem?_map, hcs]; rfl) (by rw [i6]; exact c3 b (List.mem_of_getElem? e))
    · rw [b3 b e, ← i2] at hX
      obtain ⟨cs, hcs⟩ := i1.mem.domB b X hX
      refine ⟨cs, ?_⟩
      show (setMany (R.foldl (fun s k => s.killR k) st).boxes _)[b]? = _
      rw [setMany_out _ _ _ (fun p hp e' => e (by rw [← e']; exact (List.of_mem_zip (a := p.1) (b := p.2) hp).1))]; exact hcs
  · rcases rcase b with ⟨i, e⟩ | e
    · rw [r2 i b e] at hr'
      obtain ⟨cs, hcs⟩ := hM.domR i r hr'
      refine ⟨cs, ?_⟩
      show (setMany (R.foldl (fun s k => s.killR k) st).rows _)[b]? = _
      exact setMany_in rids _ _ i b _ nJ e hcs (by rw [i7]; exact c4 b (List.mem_of_getElem? e))
    · rw [r3 b e] at hr'
      obtain ⟨cs, hcs⟩ := i1.mem.domR b r hr'
      refine ⟨cs, ?_⟩
      show (setMany (R.foldl (fun s k => s.killR k) st).rows _)[b]? = _
      rw [setMany_out _ _ _ (fun p hp e' => e (by rw [← e']; exact (List.of_mem_zip (a := p.1) (b := p.2) hp).1))]; exact hcs
  · -- two variables in one block
    have cross : ∀ (i b b' : Nat), ids[i]? = some b → b' ∉ ids → C'.box i = some X → C.box b' = some X → False := fun i b b' e e' h1 h2 => by
      rcases hE.tb i X h1 with ht | ht
      · exact outB b' X e' h2 ht
      · have := hi.mem.lt X (hi.mem.ltB h2); omega
    rcases bcase b with ⟨i, e⟩ | e <;> rcases bcase b' with ⟨i', e'⟩ | e'
    · rw [b2 i b e] at e1; rw [b2 i' b' e'] at e2
      have := hM.bb i i' X e1 e2
      subst this
      rw [e] at e'; exact Option.some.inj e'
    · rw [b2 i b e] at e1; rw [b3 b' e'] at e2; exact (cross i b b' e e' e1 e2).elim
    · rw [b3 b e] at e1; rw [b2 i' b' e'] at e2; exact (cross i' b' b e' e e2 e1).elim
    · rw [b3 b e] at e1; rw [b3 b' e'] at e2; exact hi.mem.bb b b' X e1 e2
  · have cross : ∀ (i b b' s z n s' z' n' : Nat), rids[i]? = some b → b' ∉ rids → C'.row i = some (some (X, s, z, n)) → C.row b' = some (some (X, s', z', n')) → False := fun i b b' s z n s' z' n' e e' h1 h2 => by
      rcases hE.tr i X s z n h1 with ht | ht
      · exact outR b' X _ _ _ e' h2 ht
      · have := hi.mem.lt X (hi.mem.ltR h2); omega
    rcases rcase b with ⟨i, e⟩ | e <;> rcases rcase b' with ⟨i', e'⟩ | e'
    · rw [r2 i b e] at e1; rw [r2 i' b' e'] at e2
      have := hM.rr i i' X _ _ _ _ _ _ e1 e2
      subst this
      rw [e] at e'; exact Option.some.inj e'
    · rw [r2 i b e] at e1; rw [r3 b' e', rC b' e'] at e2; exact (cross i b b' _ _ _ _ _ _ e e' e1 e2).elim
    · rw [r3 b e, rC b e] at e1; rw [r2 i' b' e'] at e2; exact (cross i' b' b _ _ _ _ _ _ e' e e2 e1).elim
    · rw [r3 b e, rC b e] at e1; rw [r3 b' e', rC b' e'] at e2; exact hi.mem.rr b b' X _ _ _ _ _ _ e1 e2
  · rcases bcase b with ⟨i, e⟩ | e <;> rcases rcase j with ⟨i', e'⟩ | e'
    · rw [b2 i b e] at e1; rw [r2 i' j e'] at e2
      exact hM.br i i' X _ _ _ e1 e2
    · rw [b2 i b e] at e1; rw [r3 j e', rC j e'] at e2
      rcases hE.tb i X e1 with ht | ht
      · exact outR j X _ _ _ e' e2 ht
      · have := hi.mem.lt X (hi.mem.ltR e2); omega
    · rw [b3 b e] at e1; rw [r2 i' j e'] at e2
      rcases hE.tr i' X _ _ _ e2 with ht | ht
      · exact outB b X e e1 ht
      · have := hi.mem.lt X (hi.mem.ltB e1); omega
    · rw [b3 b e] at e1; rw [r3 j e', rC j e'] at e2; exact hi.mem.br b j X _ _ _ e1 e2
  · exact ⟨hE.fr.os.trans hi.fr.os, hE.fr.tape.trans hi.fr.tape, hE.fr.output.trans hi.fr.output, Nat.le_trans hi.fr.size hE.fr.size, fun X hX hn =>
      (same X (by have := hi.fr.size; omega) (fun ht => (t0F X ht).elim hn (fun h => by omega))).trans (hi.fr.block X hX hn), hi.fr.ty2 hE.fr⟩
  · rcases hE.exn X hX with h1 | h1
    · exact hi.exn X h1
    · exact .inr (by have := hi.fr.size; omega)
  · rcases bcase b with ⟨i, e⟩ | e
    · rw [b2 i b e] at hX
      rcases hE.tb i X hX with ht | ht
      · exact t0F X ht
      · exact .inr (by have := hi.fr.size; omega)
    · rw [b3 b e] at hX; exact hi.tb b X hX
  · rcases rcase b with ⟨i, e⟩ | e
    · rw [r2 i b e] at hX
      rcases hE.tr i X s z n hX with ht | ht
      · exact t0F X ht
      · exact .inr (by have := hi.fr.size; omega)
    · rw [r3 b e, rC b e] at hX; exact hi.tr b X s z n hX
  · obtain ⟨h1, h2⟩ := hi.fb b X hX
    refine ⟨oldbox b X h1, ?_⟩
    show (R.foldl (fun s k => s.killR k) st).slots.length + 8 ≤ b
    rw [i8]; exact h2
end
end Go.Proofs.YtcihkmnolagdlaaDoor.Av
