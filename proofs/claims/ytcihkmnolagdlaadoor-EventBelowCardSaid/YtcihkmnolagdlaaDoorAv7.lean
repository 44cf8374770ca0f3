/- The machine does what each operation's law says: all of them. No condition. -/
import Derived.Test.YtcihkmnolagdlaaDoorAv6
namespace Go.Proofs.YtcihkmnolagdlaaDoor.Av
open Go Go.RowKit
set_option linter.unusedVariables false
set_option linter.unusedSimpArgs false

theorem part_rep {P : Program} {C : Cx} {w : World} {gs : List G} {vs : List Value} {dd : TypeDesc} {t : TypeId} {o : Nat} (hr : RepL C w gs vs) (hc : ∀ g ∈ gs, g.cell = true) (hle : o + wide P dd t ≤ gs.length) :
    Rep C w (rdC P dd t o gs) (bif aggD dd then .agg ⟨(vs.drop o).take (P.cellsOf t)⟩ else vs.getD o undef) := by
  unfold rdC
  unfold wide at hle
  cases ha : aggD dd with
  | true =>
    obtain ⟨p1, p2, p3⟩ := hr.part o (P.cellsOf t)
    exact .agg _ _ p1 (fun g hg => hc g (List.mem_of_mem_drop (List.mem_of_mem_take hg))) p2 p3
  | false =>
    rw [ha] at hle
    simp only [cond_false] at hle ⊢
    have e1 : gs[o]? = some (gs.getD o .junk) := by rw [List.getD_eq_getElem?_getD, List.getElem?_eq_getElem (by omega)]; rfl
    have e2 : vs[o]? = some (vs.getD o undef) := by rw [List.getD_eq_getElem?_getD, List.getElem?_eq_getElem (by rw [hr.1]; omega)]; rfl
    exact hr.2.2 _ _ _ e1 e2
theorem vop_sound {P : Program} {o : Oper} {d : Nat} {st : St} {k : G → St → Prop} {C : Cx} {F : Fd} {a : Act} {w : World} (h : vop P d o.op st k) (hi : Inv C F st a w) : Goes P o a w (After F k a) := by
  obtain ⟨dst, op, ty, pos, aft, gd⟩ := o
  simp only at h
  cases op with
  | move x => exact ⟨_, w, .inl (by simp [execOp]), after_same hi h (hi.ev x)⟩
  | assign x => exact ⟨_, w, .inl (by simp [execOp]), after_same hi h (hi.ev x)⟩
  | pick c x y =>
    simp only [vop] at h
    have hc := hi.ev c
    cases hg : st.ev c with
    | bool t =>
      rw [hg] at h hc
      have e := hc.bool_inv
      cases t with
      | true => exact ⟨_, w, .inl (by simp [execOp, e, asBool]), after_same hi h (hi.ev x)⟩
      | false => exact ⟨_, w, .inl (by simp [execOp, e, asBool]), after_same hi h (hi.ev y)⟩
    | _ => rw [hg] at h; exact h.elim
  | alloc t =>
    simp only [vop] at h
    split at h
    · rename_i cs hz
      cases hlt : Nat.blt d st.boxes.length && Nat.blt d st.slots.length with
      | false => rw [hlt] at h; exact h.elim
      | true =>
        rw [hlt] at h
        simp only [Bool.and_eq_true] at hlt
        have hsl := Nat.le_of_ble_eq_true hlt.2
        obtain ⟨z, h1, h2, _, h3, h4⟩ := zeroCells_sound hz w
        obtain ⟨C', hI, hb⟩ := hi.newBox d (Nat.le_of_ble_eq_true hlt.1) (by omega) t h2 h3 (fun i g v hg hv => h4 C w i g v hg hv)
        refine ⟨.pointer (some ⟨w.heap.size, 0, none⟩), w.alloc (.cells z.cells t), .inl ?_, C', _, _, h, hI, .ptr d 0 _ hb⟩
        simp [execOp, Instr.alloc, h1, newVar, newRow]
    · exact h.elim
  | box t x =>
    simp only [vop] at h
    cases hlt : (Nat.blt d st.boxes.length && Nat.blt d st.slots.length) && okReg (st.ev x) with
    | false => rw [hlt] at h; exact h.elim
    | true =>
      rw [hlt] at h
      simp only [Bool.and_eq_true] at hlt
      obtain ⟨r1, r2, r3⟩ := (hi.ev x).cells (okReg_cases hlt.2)
      obtain ⟨C', hI, hb⟩ := hi.newBox d (Nat.le_of_ble_eq_true hlt.1.1) (by have := Nat.le_of_ble_eq_true hlt.1.2; omega) t r1 r2 r3
      refine ⟨.pointer (some ⟨w.heap.size, 0, none⟩), w.alloc (.cells (a.eval x).cells t), .inl ?_, C', _, _, h, hI, .ptr d 0 _ hb⟩
      simp [execOp, Instr.box, newVar, newRow]
  | load t x =>
    simp only [vop] at h
    obtain ⟨g, v, h1, h2, h3⟩ := loadP_sound h hi (hi.ev x)
    exact ⟨v, w, .inl (by simp [execOp, h2]), after_same hi h1 h3⟩
  | store t x y =>
    simp only [vop] at h
    obtain ⟨st', w', h1, h2, h3⟩ := storeP_sound h hi (hi.ev x) (hi.ev y)
    exact ⟨undef, w', .inr ⟨by simp [execOp, h2], rfl⟩, C, _, _, h1, h3, .junk _⟩
  | binOp b t x y yt =>
    simp only [vop] at h
    obtain ⟨g, z, h1, h2, h3⟩ := binP_sound h (hi.ev x) (hi.ev y) x y
    refine ⟨z, w, .inl ?_, after_same hi h1 h3⟩
    simp only [execOp]
    rw [Sem.run_bind, h2]; rfl
  | unOp u t x =>
    simp only [vop] at h
    unfold unP at h
    have hx := hi.ev x
    split at h
    · rename_i k' n heq
      rw [heq] at hx
      exact ⟨_, w, .inl (by simp [execOp, hx.int_inv, Op.unary, Op.intArith]), after_same hi h (.int ..)⟩
    · rename_i b heq
      rw [heq] at hx
      exact ⟨_, w, .inl (by simp [execOp, hx.bool_inv, Op.unary]), after_same hi h (.bool ..)⟩
    · exact h.elim
  | build t parts =>
    simp only [vop] at h
    split at h
    · rename_i fs cs hu hz
      cases hall : fs.toList.all (fun f => (P.info? f.type).isSome) with
      | false => rw [hall] at h; exact h.elim
      | true =>
      rw [hall] at h
      simp only [cond_true] at h
      split at h
      · rename_i gs hb
        obtain ⟨z, h1, h2, h2b, h3, h4⟩ := zeroCells_sound hz w
        let places : Array (Nat × Nat) := fs.map fun f => (f.offset, P.cellsOf f.type)
        obtain ⟨us, h5, h6, h7⟩ := fill_sound (fieldPl P fs) hi parts.toList cs gs z.cells.toList hb ⟨h2, h3, fun i g v hg hv => (h4 C w i g v hg hv).2⟩
          (fun g hg => by
            obtain ⟨j, hj⟩ := List.mem_iff_getElem?.1 hg
            have hlt : j < z.cells.toList.length := by rw [h2]; exact (List.getElem?_eq_some_iff.1 hj).1
            exact (h4 C w j g _ hj (List.getElem?_eq_getElem hlt)).1)
        have hpl : (fs.mapM (fun f => do pure (f.offset, ← sizeOf f.type) : Field → Sem (Nat × Nat))).run P w = .ok places w := by
          rw [Array.mapM_eq_mapM_toList]
          simp only [Sem.run_map, run_places fs.toList (fun f hf => List.all_eq_true.1 hall f hf), Result.andThen_ok]
          congr 1
          apply Array.toList_inj.1; simp [places]
        refine ⟨.agg ⟨us⟩, w, .inl ?_, after_same hi h (.agg _ us h6.1 h7 h6.2.1 h6.2.2)⟩
        simp only [execOp, Instr.build]
        have e1 : parts.map (fun (q : Nat × Operand) => (q.1, a.eval q.2)) = (parts.toList.map (fun (q : Nat × Operand) => (q.1, a.eval q.2))).toArray := by apply Array.toList_inj.1; simp
        simp only [Sem.run_bind, h1, Result.andThen_ok, run_underlying hu, hpl]
        rw [e1]
        have epl : (fun x => places[x]?) = fieldPl P fs := by
          funext x
          simp only [places, fieldPl, Array.getElem?_map]
          cases fs[x]? <;> rfl
        have h5' : Instr.fill (fun x => places[x]?) z.cells (parts.toList.map fun (q : Nat × Operand) => (q.1, a.eval q.2)).toArray.toList = some ⟨us⟩ := by rw [epl]; simpa using h5
        rw [h5']
        rfl
      · exact h.elim
    · rename_i n e cs hu hz
      cases hall : (P.info? e).isSome with
      | false => rw [hall] at h; exact h.elim
      | true =>
      rw [hall] at h
      simp only [cond_true] at h
      obtain ⟨ii, hii⟩ := Option.isSome_iff_exists.1 hall
      split at h
      · rename_i gs hb
        obtain ⟨z, h1, h2, h2b, h3, h4⟩ := zeroCells_sound hz w
        obtain ⟨us, h5, h6, h7⟩ := fill_sound (fun i => some (i * P.cellsOf e, P.cellsOf e)) hi parts.toList cs gs z.cells.toList hb ⟨h2, h3, fun i g v hg hv => (h4 C w i g v hg hv).2⟩
          (fun g hg => by
            obtain ⟨j, hj⟩ := List.mem_iff_getElem?.1 hg
            have hlt : j < z.cells.toList.length := by rw [h2]; exact (List.getElem?_eq_some_iff.1 hj).1
            exact (h4 C w j g _ hj (List.getElem?_eq_getElem hlt)).1)
        refine ⟨.agg ⟨us⟩, w, .inl ?_, after_same hi h (.agg _ us h6.1 h7 h6.2.1 h6.2.2)⟩
        simp only [execOp, Instr.build]
        have e1 : parts.map (fun (q : Nat × Operand) => (q.1, a.eval q.2)) = (parts.toList.map (fun (q : Nat × Operand) => (q.1, a.eval q.2))).toArray := by apply Array.toList_inj.1; simp
        simp only [Sem.run_bind, h1, Result.andThen_ok, run_underlying hu, Go.run_sizeOf w hii]
        rw [e1]
        have h5' : Instr.fill (fun i => some (i * P.cellsOf e, P.cellsOf e)) z.cells (parts.toList.map fun (q : Nat × Operand) => (q.1, a.eval q.2)).toArray.toList = some ⟨us⟩ := by simpa using h5
        rw [h5']
        rfl
      · exact h.elim
    · exact h.elim
  | buildSlice t len parts =>
    simp only [vop] at h
    split at h
    · rename_i e hu
      split at h
      · rename_i zc hz
        cases hq : (P.cellsOf e == 0) || !(Nat.ble (len * P.cellsOf e) 16777216) with
        | true => rw [hq] at h; exact h.elim
        | false =>
          rw [hq] at h
          simp only [Bool.or_eq_false_iff, beq_eq_false_iff_ne, Bool.not_eq_false'] at hq
          have hle := Nat.le_of_ble_eq_true hq.2
          have hn : 0 < P.cellsOf e := Nat.pos_of_ne_zero hq.1
          simp only [cond_false] at h
          split at h
          · rename_i gs hb
            cases hcl : gs.all G.closed0 with
            | false => rw [hcl] at h; exact h.elim
            | true =>
              rw [hcl] at h
              simp only [cond_true, fLL_eq] at h
              simp only [List.all_eq_true] at hcl
              obtain ⟨z, h1, h2, h2b, h3, h4⟩ := zeroCells_sound hz w
              obtain ⟨ii, hii⟩ : ∃ ii, P.info? e = some ii := by
                unfold Program.cellsOf at hn
                cases hi0 : P.info? e with
                | none => rw [hi0] at hn; simp at hn
                | some i => exact ⟨i, rfl⟩
              have hzs : z.cells.size = P.cellsOf e := by rw [← Array.length_toList, h2, h2b]
              let vs : List Value := (List.range (len * P.cellsOf e)).map fun i => z.cells[i % z.cells.size]!
              have hvs : ∀ (i : Nat) v, vs[i]? = some v → i < len * P.cellsOf e ∧ z.cells.toList[i % P.cellsOf e]? = some v := fun i v hv => by
                have hlt : i < len * P.cellsOf e := by have := (List.getElem?_eq_some_iff.1 hv).1; simpa [vs] using this
                refine ⟨hlt, ?_⟩
                simp [vs, List.getElem?_map, List.getElem?_range hlt] at hv
                have hm : i % z.cells.size < z.cells.size := Nat.mod_lt _ (by omega)
                rw [getElem!_pos z.cells _ hm] at hv
                rw [← hzs, ← hv]
                simp [Array.getElem_toList]
              have hrl : RepL C w (repCells len (P.cellsOf e) zc) vs := by
                refine ⟨by simp [vs, repCells], fun v hv => ?_, fun i g v hg hv => ?_⟩
                · obtain ⟨i, hi0⟩ := List.mem_iff_getElem?.1 hv
                  exact h3 v (List.mem_of_getElem? (hvs i v hi0).2)
                · obtain ⟨hlt, hzv⟩ := hvs i v hv
                  simp only [repCells, List.getElem?_map, List.getElem?_range hlt, Option.map_some, Option.some.injEq] at hg
                  have hm : i % P.cellsOf e < zc.length := by rw [h2b]; exact Nat.mod_lt _ hn
                  rw [List.getD_eq_getElem?_getD, List.getElem?_eq_getElem hm] at hg
                  exact (h4 C w (i % P.cellsOf e) g v (by rw [List.getElem?_eq_getElem hm, ← hg]; rfl) hzv).2
              have hrc : ∀ g ∈ repCells len (P.cellsOf e) zc, g.cell = true := fun g hg => by
                simp only [repCells, List.mem_map, List.mem_range] at hg
                obtain ⟨i, _, rfl⟩ := hg
                have hm : i % P.cellsOf e < zc.length := by rw [h2b]; exact Nat.mod_lt _ hn
                have hm2 : i % P.cellsOf e < z.cells.toList.length := by rw [h2]; exact hm
                rw [List.getD_eq_getElem?_getD, List.getElem?_eq_getElem hm]
                exact (h4 C w _ _ _ (List.getElem?_eq_getElem hm) (List.getElem?_eq_getElem hm2)).1
              obtain ⟨us, h5, h6, h7⟩ := fill_sound (fun i => some (i * P.cellsOf e, P.cellsOf e)) hi parts.toList _ gs vs hb hrl hrc
              have hgl : gs.length = len * P.cellsOf e := by
                have fl : ∀ (ps : List (Nat × Operand)) (cs gs : List G), buildCells (fun i => some (i * P.cellsOf e, P.cellsOf e)) st cs ps = some gs → gs.length = cs.length := by
                  intro ps
                  induction ps with
                  | nil => intro cs gs hg; rw [buildCells] at hg; cases hg; rfl
                  | cons p ps ih =>
                    intro cs gs hg
                    obtain ⟨i, x⟩ := p
                    rw [buildCells] at hg
                    split at hg
                    · cases hg
                    · split at hg
                      · rw [fL_eq] at hg; rw [ih _ _ hg, blit_length]
                      · cases hg
                rw [fl _ _ _ hb]; simp [repCells]
              have hul : us.length = len * P.cellsOf e := by rw [h6.1, hgl]
              have hnew : (w.alloc (.cells ⟨us⟩ e)).heap[w.heap.size]? = some (.cells ⟨us⟩ e (0, 0)) := heap_alloc_new w _
              have hrow : ∀ (i : Nat) r, (chunk len (P.cellsOf e) gs)[i]? = some r → i < len ∧ r = (gs.drop (i * P.cellsOf e)).take (P.cellsOf e) := fun i r hr => by
                have hlt : i < len := by have := (List.getElem?_eq_some_iff.1 hr).1; simpa [chunk] using this
                simp [chunk, List.getElem?_map, List.getElem?_range hlt] at hr
                exact ⟨hlt, hr.symm⟩
              have hrg : ∀ (i : Nat) r (j : Nat) g, (chunk len (P.cellsOf e) gs)[i]? = some r → r[j]? = some g → gs[i * P.cellsOf e + j]? = some g ∧ i * P.cellsOf e + j < us.length := fun i r j g hr hj => by
                obtain ⟨hlt, rfl⟩ := hrow i r hr
                rw [List.getElem?_take] at hj
                split at hj
                · rename_i hjn
                  rw [List.getElem?_drop] at hj
                  refine ⟨hj, ?_⟩
                  have : (i + 1) * P.cellsOf e ≤ len * P.cellsOf e := Nat.mul_le_mul_right _ hlt
                  rw [Nat.succ_mul] at this; omega
                · cases hj
              have hrepd : Rep C (w.alloc (.cells ⟨us⟩ e)) (.sl (chunk len (P.cellsOf e) gs)) (.slice (some ⟨w.heap.size, 0, none⟩) (chunk len (P.cellsOf e) gs).length len) := by
                refine .sl _ ⟨w.heap.size, 0, none⟩ len (P.cellsOf e) (fun i j => us.getD (i * P.cellsOf e + j) undef) rfl (by simp) (fun hx => by have := hi.mem.lt _ hx; simp at this) (by simp [chunk]) (fun r hr => ?_) (fun r hr g hg => ?_) (fun i r j g hr hj => ?_) (fun i r j g hr hj => ?_)
                · obtain ⟨i, hi0⟩ := List.mem_iff_getElem?.1 hr
                  obtain ⟨hlt, rfl⟩ := hrow i r hi0
                  have : (i + 1) * P.cellsOf e ≤ len * P.cellsOf e := Nat.mul_le_mul_right _ hlt
                  rw [Nat.succ_mul] at this
                  simp [hgl]; omega
                · obtain ⟨i, hi0⟩ := List.mem_iff_getElem?.1 hr
                  obtain ⟨j, hj0⟩ := List.mem_iff_getElem?.1 hg
                  exact hcl g (List.mem_of_getElem? (hrg i r j g hi0 hj0).1)
                · obtain ⟨_, hlt⟩ := hrg i r j g hr hj
                  rw [show (⟨(⟨w.heap.size, 0, none⟩ : Addr).block, (⟨w.heap.size, 0, none⟩ : Addr).off + i * P.cellsOf e + j, none⟩ : Addr) = ⟨w.heap.size, i * P.cellsOf e + j, none⟩ from by simp, cell_of_block hnew,
                    List.getD_eq_getElem?_getD, List.getElem?_eq_getElem hlt]; rfl
                · obtain ⟨hg, hlt⟩ := hrg i r j g hr hj
                  have hv : us[i * P.cellsOf e + j]? = some (us.getD (i * P.cellsOf e + j) undef) := by rw [List.getD_eq_getElem?_getD, List.getElem?_eq_getElem hlt]; rfl
                  exact (h6.2.2 _ g _ hg hv).keep0 (hcl g (List.mem_of_getElem? hg)) (keeps_alloc _ w _) (fun _ _ h => h)
              have hcl2 : (chunk len (P.cellsOf e) gs).length = len := by simp [chunk]
              rw [hcl2] at hrepd
              refine ⟨.slice (some ⟨w.heap.size, 0, none⟩) len len, w.alloc (.cells ⟨us⟩ e), .inl ?_, C, _, _, h, hi.lt_alloc _, hrepd⟩
              simp only [execOp, Instr.buildSlice]
              have e1 : parts.map (fun (q : Nat × Operand) => (q.1, a.eval q.2)) = (parts.toList.map (fun (q : Nat × Operand) => (q.1, a.eval q.2))).toArray := by apply Array.toList_inj.1; simp
              simp only [Sem.run_bind, run_underlying hu, Result.andThen_ok, Go.run_sizeOf w hii, Sem.run_ite]
              rw [if_neg (by omega), e1]
              have h5' : Instr.fill (fun i => some (i * P.cellsOf e, P.cellsOf e)) ⟨vs⟩ (parts.toList.map fun (q : Nat × Operand) => (q.1, a.eval q.2)) = some ⟨us⟩ := h5
              have hvsz : ((Array.range (len * P.cellsOf e)).map (fun i => z.cells[i % z.cells.size]!)) = ⟨vs⟩ := by
                apply Array.toList_inj.1; simp [vs]
              by_cases h0 : len * P.cellsOf e = 0
              · rw [if_pos h0]
                have e2 : (Array.range (len * P.cellsOf e)).map (fun x => (#[] : Array Value)[x % (#[] : Array Value).size]!) = ⟨vs⟩ := by
                  apply Array.toList_inj.1; simp [vs, h0]
                simp only [Sem.run_pure, Result.andThen_ok]
                rw [e2, h5']
                rfl
              · rw [if_neg h0]
                simp only [Sem.run_bind, h1, Result.andThen_ok, Sem.run_pure]
                rw [hvsz, h5']
                rfl
          · exact h.elim
      · exact h.elim
    · exact h.elim
  | fieldAddr s x f =>
    simp only [vop] at h
    split at h
    · rename_i fl hf
      cases hz : (P.cellsOf fl.type == 0) || (P.info? fl.type).isNone with
      | true => rw [hz] at h; exact h.elim
      | false =>
        rw [hz] at h
        simp only [Bool.or_eq_false_iff, beq_eq_false_iff_ne] at hz
        have hz2 : (P.info? fl.type).isSome = true := by
          have := hz.2
          cases hq : P.info? fl.type <;> simp_all
        have hx := hi.ev x
        simp only [cond_false] at h
        split at h
        · rename_i b off heq
          rw [heq] at hx
          generalize hv : a.eval x = v at hx
          cases hx with
          | ptr _ _ B hb => exact ⟨_, w, .inl (by simp only [execOp]; rw [Sem.run_bind, hv, run_fieldAt hf hz.1 hz2]; rfl), after_same hi h (.ptr _ _ B hb)⟩
        · rename_i b T n heq
          rw [heq] at hx
          generalize hv : a.eval x = v at hx
          cases hx with
          | ptrt _ _ _ B vs fz hb ht hn => exact ⟨_, w, .inl (by simp only [execOp]; rw [Sem.run_bind, hv, run_fieldAt hf hz.1 hz2]; rfl), after_same hi h (.ptr _ _ B hb)⟩
        · rename_i row off heq
          rw [heq] at hx
          generalize hv : a.eval x = v at hx
          cases hx with
          | elt _ _ B oo f' hlt hex hcl hcell hr =>
            refine ⟨_, w, .inl (by simp only [execOp]; rw [Sem.run_bind, hv, run_fieldAt hf hz.1 hz2]; rfl), after_same hi h ?_⟩
            rw [Nat.add_assoc]; exact .elt row _ B oo f' hlt hex hcl hcell hr
        · rename_i kk i off heq
          rw [heq] at hx
          generalize hv : a.eval x = v at hx
          cases hx with
          | eltw _ _ _ B s' sz n hk hn0 =>
            refine ⟨_, w, .inl (by simp only [execOp]; rw [Sem.run_bind, hv, run_fieldAt hf hz.1 hz2]; rfl), after_same hi h ?_⟩
            rw [Nat.add_assoc]; exact .eltw kk i _ B s' sz n hk hn0
        · exact h.elim
    · exact h.elim
  | field t x f =>
    simp only [vop] at h
    split at h
    · rename_i fl gs hf heq
      split at h
      · rename_i dd hd
        cases hle : Nat.ble (fl.offset + wide P dd fl.type) gs.length with
        | false => rw [hle] at h; exact h.elim
        | true =>
          rw [hle] at h
          have hx := hi.ev x
          rw [heq] at hx
          obtain ⟨vs, hv, hr, hc⟩ := hx.agg_inv
          obtain ⟨fs, hu, hf'⟩ := run_field hf
          have hle := Nat.le_of_ble_eq_true hle
          refine ⟨(bif aggD dd then .agg ⟨(vs.drop fl.offset).take (P.cellsOf fl.type)⟩ else vs.getD fl.offset undef), w, .inl ?_, after_same hi h ?_⟩
          · simp only [execOp, Instr.field]
            simp only [Sem.run_bind, run_underlying hu, Result.andThen_ok, hf', hv, asAgg, Sem.run_pure, run_part_of hd (show fl.offset + wide P dd fl.type ≤ vs.length by rw [hr.1]; exact hle)]
          · unfold rdC
            unfold wide at hle
            cases ha : aggD dd with
            | true =>
              obtain ⟨p1, p2, p3⟩ := hr.part fl.offset (P.cellsOf fl.type)
              exact .agg _ _ p1 (fun g hg => hc g (List.mem_of_mem_drop (List.mem_of_mem_take hg))) p2 p3
            | false =>
              rw [ha] at hle
              simp only [cond_false] at hle ⊢
              have e1 : gs[fl.offset]? = some (gs.getD fl.offset .junk) := by rw [List.getD_eq_getElem?_getD, List.getElem?_eq_getElem (by omega)]; rfl
              have e2 : vs[fl.offset]? = some (vs.getD fl.offset undef) := by rw [List.getD_eq_getElem?_getD, List.getElem?_eq_getElem (by rw [hr.1]; omega)]; rfl
              exact hr.2.2 _ _ _ e1 e2
      · exact h.elim
    · exact h.elim
  | indexAddr t x ix =>
    simp only [vop] at h
    have hx := hi.ev x
    have hn := hi.ev ix
    split at h
    · rename_i e xs kd n hu heq heq2
      rw [heq] at hx; rw [heq2] at hn
      obtain ⟨row, ⟨h0, hrow⟩, h⟩ := h
      cases hc : (row.length == P.cellsOf e) && (P.info? e).isSome with
      | false => rw [hc] at h; exact h.elim
      | true =>
        rw [hc] at h
        simp only [Bool.and_eq_true, beq_iff_eq] at hc
        obtain ⟨ii, hii⟩ := Option.isSome_iff_exists.1 hc.2
        generalize hv : a.eval x = v at hx
        cases hx with
        | slnil => simp at hrow
        | sl _ A cap sz f ha hlt hex hcap hsz hcl hcell hr =>
          have hlt' : n.toNat < xs.length := (List.getElem?_eq_some_iff.1 hrow).1
          have hsz' : sz = P.cellsOf e := by rw [← hsz row (List.mem_of_getElem? hrow)]; exact hc.1
          refine ⟨.pointer (some ⟨A.block, A.off + n.toNat * sz, none⟩), w, .inl ?_, after_same hi h (.elt row 0 A.block (A.off + n.toNat * sz) (f n.toNat) hlt hex (hcl row (List.mem_of_getElem? hrow)) (fun j g hg => ?_) (fun j g hg => hr n.toNat row j g hrow hg))⟩
          · simp only [execOp, Instr.indexAt]
            simp only [hv, hn.int_inv, asIntOf, Sem.run_bind, Sem.run_pure, Result.andThen_ok, run_underlying hu, pure_bind]
            rw [if_pos (show 0 ≤ n ∧ n < (xs.length : Int) from ⟨h0, by omega⟩)]
            simp only [Sem.run_bind, Go.run_sizeOf w hii, Result.andThen_ok, Sem.run_pure]
            obtain ⟨ab, ao, asp⟩ := A
            simp only at ha; subst ha
            rw [← hsz', addr_add]
          · exact hcell n.toNat row j g hrow hg
    · rename_i e kk off len kd n hu heq heq2
      rw [heq] at hx; rw [heq2] at hn
      split at h
      · rename_i xs hxs
        obtain ⟨row, ⟨h0, h1, hrow⟩, h⟩ := h
        cases hc : (row.length == P.cellsOf e) && (P.info? e).isSome with
        | false => rw [hc] at h; exact h.elim
        | true =>
          rw [hc] at h
          simp only [Bool.and_eq_true, beq_iff_eq] at hc
          obtain ⟨ii, hii⟩ := Option.isSome_iff_exists.1 hc.2
          generalize hv : a.eval x = v at hx
          cases hx with
          | ownnil _ _ hr => simp at h1; omega
          | own _ _ _ B s sz nn A hr ho ha hn0 =>
            rcases hi.mem.row kk xs (rowsOf hxs) with k1 | ⟨B', s', sz', n', vs, T, fz, k1, k2, k3, k4, k5, k6, k6b, k7, k8⟩ | km
            rotate_left 2
            · exact (km.np hr hn0).elim
            · rw [hr] at k1; cases k1.1
            · rw [hr] at k1; cases k1
              have hsz' : sz = P.cellsOf e := by rw [← (k7 row (List.mem_of_getElem? hrow)).1]; exact hc.1
              have hlt : off + n.toNat < xs.length := (List.getElem?_eq_some_iff.1 hrow).1
              obtain rfl := ha.1 (by omega)
              refine ⟨.pointer (some ⟨B, s + (off + n.toNat) * sz + 0, none⟩), w, .inl ?_, after_same hi h (.eltw kk _ 0 B s sz nn hr hn0)⟩
              simp only [execOp, Instr.indexAt]
              simp only [hv, hn.int_inv, asIntOf, Sem.run_bind, Sem.run_pure, Result.andThen_ok, run_underlying hu, pure_bind]
              rw [if_pos (show 0 ≤ n ∧ n < (len : Int) from ⟨h0, h1⟩)]
              simp only [Sem.run_bind, Go.run_sizeOf w hii, Result.andThen_ok, Sem.run_pure]
              rw [← hsz', addr_add]
              congr 5
              rw [Nat.add_mul]; omega
      · exact h.elim
    · rename_i len e b off kd n hu heq heq2
      rw [heq] at hx; rw [heq2] at hn
      obtain ⟨⟨h0, h1⟩, h⟩ := h
      cases hc : (P.info? e).isSome with
      | false => rw [hc] at h; exact h.elim
      | true =>
        rw [hc] at h
        obtain ⟨ii, hii⟩ := Option.isSome_iff_exists.1 hc
        generalize hv : a.eval x = v at hx
        cases hx with
        | ptr _ _ B hb =>
          refine ⟨.pointer (some ⟨B, off + n.toNat * P.cellsOf e, none⟩), w, .inl ?_, after_same hi h (.ptr _ _ B hb)⟩
          simp only [execOp, Instr.indexAt]
          simp only [hv, hn.int_inv, asIntOf, Instr.sureAddr, Sem.run_bind, Sem.run_pure, Result.andThen_ok, run_underlying hu, pure_bind]
          rw [if_pos (show 0 ≤ n ∧ n < (len : Int) from ⟨h0, h1⟩)]
          simp only [Sem.run_bind, Go.run_sizeOf w hii, Result.andThen_ok, Sem.run_pure]
          rw [addr_add]
    · exact h.elim
  | index t x ix =>
    simp only [vop] at h
    have hx := hi.ev x
    have hn := hi.ev ix
    split at h
    · rename_i s kd n hu heq heq2
      rw [heq] at hx; rw [heq2] at hn
      obtain ⟨⟨h0, h1⟩, h⟩ := h
      refine ⟨.int .u8 (byteAt s n.toNat), w, .inl ?_, after_same hi h (.int ..)⟩
      simp only [execOp, Instr.index]
      have hlt : n.toNat < s.size := by omega
      have e : s[n.toNat]? = some s[n.toNat] := getElem?_pos s n.toNat hlt
      simp only [hx.str_inv, hn.int_inv, asIntOf, Sem.run_bind, Sem.run_pure, Result.andThen_ok, run_underlying hu, pure_bind]
      rw [if_pos h0, e]
      simp only [Sem.run_pure, Result.andThen_ok]
      have : s[n.toNat] = s.data.toList.getD n.toNat 0 := by
        rw [List.getD_eq_getElem?_getD, List.getElem?_eq_getElem (by simpa using hlt)]; rfl
      rw [this]; rfl
    · rename_i len e gs kd n hu heq heq2
      rw [heq] at hx; rw [heq2] at hn
      split at h
      · rename_i dd hd
        cases hle : (gs.length == len * P.cellsOf e) && (wide P dd e == P.cellsOf e) with
        | false => rw [hle] at h; exact h.elim
        | true =>
          rw [hle] at h
          obtain ⟨⟨h0, h1⟩, h⟩ := h
          simp only [Bool.and_eq_true, beq_iff_eq] at hle
          obtain ⟨vs, hv, hr, hc⟩ := hx.agg_inv
          obtain ⟨ii, hii⟩ := info_of_underlying hd
          have hlt : n.toNat < len := by omega
          have hw : n.toNat * P.cellsOf e + wide P dd e ≤ gs.length := by
            rw [hle.1, hle.2]
            have : (n.toNat + 1) * P.cellsOf e ≤ len * P.cellsOf e := Nat.mul_le_mul_right _ hlt
            rw [Nat.succ_mul] at this; exact this
          refine ⟨(bif aggD dd then .agg ⟨(vs.drop (n.toNat * P.cellsOf e)).take (P.cellsOf e)⟩ else vs.getD (n.toNat * P.cellsOf e) undef), w, .inl ?_, after_same hi h ?_⟩
          · simp only [execOp, Instr.index]
            simp only [hv, hn.int_inv, asIntOf, Sem.run_bind, Sem.run_pure, Result.andThen_ok, run_underlying hu, pure_bind]
            rw [if_pos (show 0 ≤ n ∧ n < (len : Int) from ⟨h0, h1⟩)]
            simp only [Sem.run_bind, Go.run_sizeOf w hii, Result.andThen_ok]
            rw [run_part_of hd (by rw [hr.1]; exact hw)]
            rfl
          · exact part_rep hr hc hw
      · exact h.elim
    · exact h.elim
  | extract x i =>
    simp only [vop] at h
    have hx := hi.ev x
    split at h
    · rename_i gs heq
      rw [heq] at hx
      split at h
      · rename_i g hg
        generalize hv : a.eval x = v at hx
        cases hx with
        | tup _ vs hl hr =>
          have hlt : i < vs.length := by rw [hl]; exact (List.getElem?_eq_some_iff.1 hg).1
          have hvi : vs[i]? = some vs[i] := List.getElem?_eq_getElem hlt
          refine ⟨vs[i], w, .inl ?_, after_same hi h (hr i g _ hg hvi)⟩
          simp [execOp, Instr.extract, hv, hvi]
      · exact h.elim
    · exact h.elim
  | nilCheck x =>
    simp only [vop] at h
    have hx := hi.ev x
    split at h
    · rename_i heq; rw [heq] at hx
      generalize hv : a.eval x = v at hx
      cases hx with
      | ptr b off B hb => exact ⟨_, w, .inl (by simp [execOp, hv]), after_same hi h (.ptr _ _ B hb)⟩
    · rename_i heq; rw [heq] at hx
      generalize hv : a.eval x = v at hx
      cases hx with
      | elt row off B oo f hlt hex hcl hcell hr => exact ⟨_, w, .inl (by simp [execOp, hv]), after_same hi h (.elt _ _ B oo f hlt hex hcl hcell hr)⟩
    · rename_i heq; rw [heq] at hx
      generalize hv : a.eval x = v at hx
      cases hx with
      | eltw kk i off B s sz n hk hn0 => exact ⟨_, w, .inl (by simp [execOp, hv]), after_same hi h (.eltw _ _ _ B s sz n hk hn0)⟩
    · rename_i heq; rw [heq] at hx
      generalize hv : a.eval x = v at hx
      cases hx with
      | fn f caps vs hl hr => exact ⟨_, w, .inl (by simp [execOp, hv]), after_same hi h (.fn _ _ vs hl hr)⟩
    · rename_i heq; rw [heq] at hx
      generalize hv : a.eval x = v at hx
      cases hx with
      | ptrt _ _ _ B vs fz hb ht hn => exact ⟨_, w, .inl (by simp [execOp, hv]), after_same hi h (.ptrt _ _ _ B vs fz hb ht hn)⟩
    · exact h.elim
  | convert src dst' x =>
    simp only [vop] at h
    have hx := hi.ev x
    split at h
    · rename_i d1 kd kk n h1 h2 heq
      rw [heq] at hx
      refine ⟨.int kd (kd.wrap n), w, .inl ?_, after_same hi h (.int ..)⟩
      simp only [execOp]
      rw [Sem.run_bind]
      have : (convert src dst' (a.eval x)).run P w = .ok (.int kd (kd.wrap n)) w := by
        unfold convert
        simp only [Sem.run_bind, run_underlying h1, run_underlying h2, Result.andThen_ok, hx.int_inv, Conv.intToInt, Sem.run_pure]
      rw [this]; rfl
    · rename_i s h1 h2 heq
      rw [heq] at hx
      refine ⟨.string s, w, .inl ?_, after_same hi h (.str ..)⟩
      simp only [execOp]
      rw [Sem.run_bind]
      have : (convert src dst' (a.eval x)).run P w = .ok (.string s) w := by
        unfold convert
        simp only [Sem.run_bind, run_underlying h1, run_underlying h2, Result.andThen_ok, hx.str_inv, Sem.run_pure]
      rw [this]; rfl
    · exact h.elim
  | slice t x lo hi' mx =>
    cases mx with
    | some _ => simp [vop] at h
    | none =>
      simp only [vop] at h
      have hx := hi.ev x
      split at h
      · rename_i s hu heq
        rw [heq] at hx
        obtain ⟨hh, hz, h, e1⟩ := boundP_run h hi
        obtain ⟨l, lz, ⟨⟨b1, b2, b3⟩, h⟩, e2⟩ := boundP_run h hi
        refine ⟨.string (s.extract l hh), w, .inl ?_, after_same hi h (.str ..)⟩
        simp only [execOp, Instr.sliceAt, Instr.slice]
        simp only [Sem.run_bind, run_underlying hu, Result.andThen_ok, hx.str_inv, Option.map_none, Option.isSome_none, Bool.false_eq_true, if_false, pure_bind, Sem.run_pure]
        rw [run_bounds (P := P) (a := a) (cap := s.size) e1 e2 b1 b2 b3 (Nat.le_refl _)]
        simp only [Result.andThen_ok, Sem.run_pure]
      · rename_i e xs hu heq
        rw [heq] at hx
        cases hin : (P.info? e).isNone with
        | true => rw [hin] at h; exact h.elim
        | false =>
        rw [hin] at h
        simp only [cond_false] at h
        obtain ⟨ii, hii⟩ : ∃ ii, P.info? e = some ii := by cases hq : P.info? e <;> simp_all
        obtain ⟨hh, hz, h, e1⟩ := boundP_run h hi
        obtain ⟨l, lz, ⟨⟨b1, b2, b3, b4⟩, h⟩, e2⟩ := boundP_run h hi
        have hlh : l ≤ hh ∧ hh ≤ xs.length := by
          rcases e1 with ⟨_, q1, q2⟩ | ⟨_, _, _, _, q1⟩ <;> rcases e2 with ⟨_, q3, q4⟩ | ⟨_, _, _, _, q3⟩ <;> omega
        have hsh : ∃ A cap, a.eval x = .slice A xs.length cap ∧ xs.length ≤ cap := by
          generalize a.eval x = v at hx
          cases hx with
          | slnil _ _ _ => exact ⟨_, _, rfl, Nat.zero_le _⟩
          | sl _ A cap _ _ _ _ _ hcap => exact ⟨some A, cap, rfl, hcap⟩
        obtain ⟨A, cap, hv, hcap⟩ := hsh
        rw [hv] at hx
        refine ⟨_, w, .inl ?_, after_same hi h (slice_sl hx hlh.1 hlh.2 b4)⟩
        simp only [execOp, Instr.sliceAt, Instr.slice]
        simp only [Sem.run_bind, run_underlying hu, Result.andThen_ok, hv, Option.map_none, pure_bind, Sem.run_pure]
        rw [run_bounds (P := P) (a := a) (cap := cap) e1 e2 b1 b2 b3 hcap]
        simp only [Result.andThen_ok, Go.run_sizeOf w hii, Sem.run_pure, Sem.run_bind]
      · exact h.elim
  | makeFunc fn first caps =>
    cases fn with
    | func f =>
      simp only [vop] at h
      cases hc : first.isEmpty && caps.toList.all (fun x => okReg (st.ev x)) with
      | false =>
        rw [hc] at h
        cases hc2 : caps.isEmpty && first.toList.all (fun x => okReg (st.ev x)) with
        | false => rw [hc2] at h; exact h.elim
        | true =>
          rw [hc2] at h
          simp only [Bool.and_eq_true, List.all_eq_true, Array.isEmpty_iff] at hc2
          refine ⟨.func (.func f) ⟨first.toList.map a.eval⟩ #[], w, .inl ?_, after_same hi h (.meth f _ _ (by simp) (fun i g v hg hv => ?_))⟩
          · have e1 : first.map a.eval = ⟨first.toList.map a.eval⟩ := by apply Array.toList_inj.1; simp
            simp only [execOp, Instr.makeFunc, hc2.1, e1, Sem.run_bind, Sem.run_pure, Result.andThen_ok]
            simp
          · rw [List.getElem?_map] at hg hv
            obtain ⟨x, hx, rfl⟩ := Option.map_eq_some_iff.1 hg
            rw [hx] at hv
            obtain rfl := Option.some.inj hv
            exact hi.ev x
      | true =>
        rw [hc] at h
        simp only [Bool.and_eq_true, List.all_eq_true, Array.isEmpty_iff] at hc
        refine ⟨.func (.func f) #[] ⟨caps.toList.map a.eval⟩, w, .inl ?_, after_same hi h (.fn f _ _ (by simp) (fun i g v hg hv => ?_))⟩
        · have e1 : caps.map a.eval = ⟨caps.toList.map a.eval⟩ := by apply Array.toList_inj.1; simp
          simp only [execOp, Instr.makeFunc, hc.1, e1, Sem.run_bind, Sem.run_pure, Result.andThen_ok]
          simp
        · rw [List.getElem?_map] at hg hv
          obtain ⟨x, hx, rfl⟩ := Option.map_eq_some_iff.1 hg
          rw [hx] at hv
          obtain rfl := Option.some.inj hv
          exact hi.ev x
    | _ => simp [vop] at h
  | makeInterface t x =>
    simp only [vop] at h
    have hx := hi.ev x
    split at h
    · rename_i kd kk n hu heq
      rw [heq] at hx
      refine ⟨_, w, .inl ?_, after_same hi h (.lit _ rfl)⟩
      simp only [execOp, Instr.makeInterface, Sem.run_bind, run_underlying hu, Result.andThen_ok, Sem.run_pure, hx.int_inv]
    · rename_i s hu heq
      rw [heq] at hx
      refine ⟨_, w, .inl ?_, after_same hi h (.lit _ rfl)⟩
      simp only [execOp, Instr.makeInterface, Sem.run_bind, run_underlying hu, Result.andThen_ok, Sem.run_pure, hx.str_inv]
    · exact h.elim
  | call c =>
    obtain ⟨callee, args, argTypes⟩ := c
    cases callee with
    | builtin b =>
      simp only [vop] at h
      have hargs : ∀ (i : Nat) g v, (args.toList.map st.ev)[i]? = some g → (args.toList.map a.eval)[i]? = some v → Rep C w g v := fun i g v hg hv => by
        rw [List.getElem?_map] at hg hv
        obtain ⟨x, hx, rfl⟩ := Option.map_eq_some_iff.1 hg
        rw [hx] at hv
        obtain rfl := Option.some.inj hv
        exact hi.ev x
      have hargs2 : (args.map a.eval) = ⟨args.toList.map a.eval⟩ := by apply Array.toList_inj.1; simp
      have hlen : (args.toList.map a.eval).length = (args.toList.map st.ev).length := by simp
      split at h
      · rename_i x heq
        obtain ⟨X, hX, rfl⟩ : ∃ X, args.toList = [X] ∧ st.ev X = x := by
          match hq : args.toList, heq with
          | [X], heq => exact ⟨X, rfl, by simpa using heq⟩
        split at h
        · rename_i t ht
          split at h
          · rename_i dd hu
            split at h
            · rename_i n hn
              cases hs : isStrOrSl dd (st.ev X) with
            | false => rw [hs] at h; exact h.elim
            | true =>
              rw [hs] at h
              have hx := hi.ev X
              refine ⟨.int .i64 n, w, .inl ?_, after_same hi h (.int ..)⟩
              have e0 : (args.map a.eval)[0]? = some (a.eval X) := by rw [hargs2, hX]; rfl
              have e1 : argTypes[0]? = some t := ht
              simp only [execOp, resolve, Sem.run_bind, Sem.run_pure, Result.andThen_ok, invoke, builtin, Builtin.len_, e0, e1, run_underlying hu]
              generalize hg : st.ev X = g at *
              generalize a.eval X = v at *
              cases g <;> cases dd <;> first | (simp [isStrOrSl] at hs; done) | skip
              · rw [hx.str_inv]; simp [lenG] at hn; subst hn; rfl
              · obtain ⟨vs, rfl, _, _⟩ := hx.agg_inv
                simp [lenG] at hn; subst hn; rfl
              · cases hx <;> (simp [lenG] at hn; subst hn; rfl)
              · cases hx; simp [lenG] at hn; subst hn; rfl
              · cases hx; simp [lenG] at hn; subst hn; rfl
              · cases hx; simp [lenG] at hn; subst hn; rfl
              · cases hx <;> (simp [lenG] at hn; subst hn; rfl)
              · cases hx; simp [lenG] at hn; subst hn; rfl
              · cases hx <;> (simp [lenG] at hn; subst hn; rfl)
            · exact h.elim
          · exact h.elim
        · exact h.elim
      · rename_i x xs heq
        split at h
        · rename_i g hg
          match hq : args.toList.map a.eval with
          | [] => rw [hq, heq] at hlen; simp at hlen
          | v :: vs =>
            rw [hq, heq] at hargs hlen
            obtain ⟨z, h1, h2⟩ := foldG_sound (P := P) (fun x y g u v => min2_ok x y g u v) xs x g v vs hg (hargs 0 x v rfl rfl) (by simpa using hlen) (fun i g v hg hv => hargs (i + 1) g v (by simpa using hg) (by simpa using hv))
            refine ⟨z, w, .inl ?_, after_same hi h h2⟩
            simp only [execOp, resolve, Sem.run_bind, Sem.run_pure, Result.andThen_ok, invoke, builtin, Builtin.min_, hargs2, hq, h1]
        · exact h.elim
      · rename_i x xs heq
        split at h
        · rename_i g hg
          match hq : args.toList.map a.eval with
          | [] => rw [hq, heq] at hlen; simp at hlen
          | v :: vs =>
            rw [hq, heq] at hargs hlen
            obtain ⟨z, h1, h2⟩ := foldG_sound (P := P) (fun x y g u v => max2_ok x y g u v) xs x g v vs hg (hargs 0 x v rfl rfl) (by simpa using hlen) (fun i g v hg hv => hargs (i + 1) g v (by simpa using hg) (by simpa using hv))
            refine ⟨z, w, .inl ?_, after_same hi h h2⟩
            simp only [execOp, resolve, Sem.run_bind, Sem.run_pure, Result.andThen_ok, invoke, builtin, Builtin.max_, hargs2, hq, h1]
        · exact h.elim
      · exact h.elim
    | _ => simp [vop] at h
  | _ => simp [vop] at h
end Go.Proofs.YtcihkmnolagdlaaDoor.Av
