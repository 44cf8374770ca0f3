/- A region whose order is drawn comes to what its operations do one behind the other. No condition. -/
import Derived.Test.YteioecdfimphaaaAv12
namespace Go.Proofs.Yteioecdfimphaaa.Av
open Go Go.RowKit
set_option linter.unusedVariables false
set_option linter.unusedSimpArgs false

theorem look_ev {ops : Array Oper} {o : Oper} {st st' : St} (h : ∀ d ∈ o.looksAt ops, st'.slots.getD d .junk = st.slots.getD d .junk) : ∀ x ∈ o.op.operands.toList, st'.ev x = st.ev x := fun x hx => by
  cases x with
  | tmp t => exact h t (List.mem_append_left _ (List.mem_filterMap.2 ⟨.tmp t, hx, rfl⟩))
  | _ => rfl

theorem Inv.setBox_eq {st : St} {b : Nat} {cs us : List G} {off : Nat} (h : st.boxes.getD b none = some cs) : st.boxes.modify b (Option.map fun old => blit old off us) = st.boxes.set b (some (blit cs off us)) := by
  apply List.ext_getElem?
  intro i
  rw [List.getElem?_modify, List.getElem?_set]
  by_cases e : b = i
  · subst e
    rw [List.getD_eq_getElem?_getD] at h
    cases hx : st.boxes[b]? with
    | none => rw [hx] at h; cases h
    | some o =>
      rw [hx] at h
      simp only [Option.getD_some] at h
      subst h
      have : b < st.boxes.length := (List.getElem?_eq_some_iff.1 hx).1
      simp [this]
  · simp [e]

theorem newBox_none {st : St} {d : Nat} {cs : List G} (h : (st.boxes.getD d none).isNone = true) : st.newBox d cs = st.setBox d cs := by
  unfold St.newBox
  cases hx : st.boxes.getD d none with
  | none => rfl
  | some _ => rw [hx] at h; cases h

theorem dcop_sound {P : Program} {ops : Array Oper} {o : Oper} {st : St} {k : Tr → Prop} (h : dcop P (o.looksAt ops) o st k) :
    ∃ t, k t ∧ t.look = o.looksAt ops ∧ ∀ (st' : St), t.Same st' st → ∀ (C : Cx) (F : Fd) (a : Act) (w : World) (Q : Exit → Act → World → Prop) (K : Act → World → Prop), Inv C F st' a w → (∀ C' a' w', Inv C' F (t.app st') a' w' → K a' w') → o.wp P a w K Q := by
  have val : ∀ (g : G) (rb : Option (Nat × Nat × Nat)), (∀ st', (⟨o.dst, g, none, none, o.looksAt ops, rb⟩ : Tr).Same st' st → cop P 0 o st' fun g' s => g' = g ∧ s = st') →
      ∀ (st' : St), (⟨o.dst, g, none, none, o.looksAt ops, rb⟩ : Tr).Same st' st → ∀ (C : Cx) (F : Fd) (a : Act) (w : World) (Q : Exit → Act → World → Prop) (K : Act → World → Prop), Inv C F st' a w → (∀ C' a' w', Inv C' F ((⟨o.dst, g, none, none, o.looksAt ops, rb⟩ : Tr).app st') a' w' → K a' w') → o.wp P a w K Q := fun g rb hc st' hs C F a w Q K hi hk =>
    cop_sound (hc st' hs) hi fun v w' ⟨C', g', s, ⟨e1, e2⟩, h2, h3⟩ => by
      subst e1; subst e2
      have := h2.put o.dst h3
      refine hk C' _ _ ?_
      have e : (⟨o.dst, g', none, none, o.looksAt ops, rb⟩ : Tr).app s = s.put o.dst g' := by
        unfold Tr.app St.put; cases o.dst <;> rfl
      rw [e]; exact this
  unfold dcop at h
  split at h
  · -- load
    rename_i t x hop
    split at h
    · exact h.elim
    · rename_i d hu
      have copeq : ∀ st', cop P 0 o st' (fun g' s => g' = g' ∧ True) = cop P 0 o st' (fun g' s => g' = g' ∧ True) := fun _ => rfl
      split at h
      · rename_i b off hx
        unfold loadP at h
        rw [hu] at h
        simp only at h
        split at h
        · rename_i cs hcs
          cases hle : Nat.ble (off + wide P d t) cs.length with
          | false => rw [hle] at h; exact h.elim
          | true =>
            rw [hle] at h
            simp only [cond_true, fA_eq] at h
            refine ⟨_, h, rfl, val _ _ fun st' hs => ?_⟩
            have hx' : st'.ev x = .ptr b off := by rw [look_ev hs.look x (by rw [hop]; simp [Op.operands]), hx]
            have hr := hs.rb b off (wide P d t) rfl
            unfold rng at hr
            rw [hcs] at hr
            cases hb : st'.boxes.getD b none with
            | none => rw [hb] at hr; cases hr
            | some cs' =>
              rw [hb] at hr
              simp only [Option.map_some, Option.some.injEq, Prod.mk.injEq] at hr
              obtain ⟨r1, r2⟩ := hr
              have e1 : rdC P d t off cs' = rdC P d t off cs := by
                unfold rdC
                unfold wide at r1
                cases ha : aggD d with
                | true => rw [ha] at r1; simp only [cond_true] at r1 ⊢; rw [r1]
                | false =>
                  rw [ha] at r1; simp only [cond_false] at r1 ⊢
                  have := congrArg (fun l => l[0]?) r1
                  simp only [List.getElem?_take, List.getElem?_drop] at this
                  rw [List.getD_eq_getElem?_getD, List.getD_eq_getElem?_getD]
                  simpa using congrArg (fun o => o.getD G.junk) this
              unfold cop
              rw [hop]
              simp only [vop]
              rw [hx']
              unfold loadP
              rw [hu]
              simp only [hb]
              rw [r2, hle]
              first | exact ⟨e1, rfl⟩ | exact ⟨e1, trivial⟩
        · exact h.elim
      · rename_i row off hx
        unfold loadP at h
        rw [hu] at h
        simp only at h
        cases hle : Nat.ble (off + wide P d t) row.length with
        | false => rw [hle] at h; exact h.elim
        | true =>
          rw [hle] at h
          simp only [cond_true, fA_eq] at h
          refine ⟨_, h, rfl, val _ _ fun st' hs => ?_⟩
          have hx' : st'.ev x = .elt row off := by rw [look_ev hs.look x (by rw [hop]; simp [Op.operands]), hx]
          unfold cop
          rw [hop]
          simp only [vop]
          rw [hx']
          unfold loadP
          rw [hu]
          simp only
          rw [hle]
          first | exact ⟨rfl, rfl⟩ | exact ⟨trivial, trivial⟩ | exact ⟨rfl, trivial⟩ | trivial
      · exact h.elim
  · -- store
    rename_i t p x hop
    split at h
    · rename_i d b off hu hp
      split at h
      · rename_i cs hcs
        cases hc : okReg (st.ev x) && ((st.ev x).cells.length == P.cellsOf t) && Nat.ble (off + P.cellsOf t) cs.length with
        | false => rw [hc] at h; exact h.elim
        | true =>
          rw [hc] at h
          refine ⟨_, h, rfl, fun st' hs C F a w Q K hi hk => ?_⟩
          have hp' : st'.ev p = .ptr b off := by rw [look_ev hs.look p (by rw [hop]; simp [Op.operands]), hp]
          have hx' : st'.ev x = st.ev x := look_ev hs.look x (by rw [hop]; simp [Op.operands])
          have hw := hs.wr b off _ rfl
          rw [hcs] at hw
          cases hb : st'.boxes.getD b none with
          | none => rw [hb] at hw; cases hw
          | some cs' =>
            rw [hb] at hw
            simp only [Option.map_some, Option.some.injEq] at hw
            have hcop : cop P 0 o st' fun g' s => g' = .junk ∧ s = st'.setBox b (blit cs' off (st.ev x).cells) := by
              unfold cop
              rw [hop]
              simp only [vop]
              rw [hp', hx']
              unfold storeP
              rw [hu]
              simp only [hb]
              rw [hw, hc]
              first | exact ⟨rfl, rfl⟩ | exact ⟨trivial, trivial⟩ | exact ⟨rfl, trivial⟩ | trivial
            refine cop_sound hcop hi fun v w' ⟨C', g', s, ⟨e1, e2⟩, h2, h3⟩ => ?_
            subst e1; subst e2
            refine hk C' _ _ ?_
            have e : (⟨o.dst, .junk, some (b, off, (st.ev x).cells), none, o.looksAt ops, none⟩ : Tr).app st' = (st'.setBox b (blit cs' off (st.ev x).cells)).put o.dst .junk := by
              unfold Tr.app St.put St.setBox
              cases o.dst <;> simp only [Inv.setBox_eq hb]
            rw [e]
            exact h2.put o.dst h3
      · exact h.elim
    · exact h.elim
  · -- alloc
    rename_i t hop
    split at h
    · rename_i d cs hd hz
      cases hc : Nat.blt d st.boxes.length && (st.boxes.getD d none).isNone with
      | false => rw [hc] at h; exact h.elim
      | true =>
        rw [hc] at h
        refine ⟨_, h, rfl, fun st' hs C F a w Q K hi hk => ?_⟩
        simp only [Bool.and_eq_true] at hc
        have hn := hs.nb d cs rfl
        have hl := hs.lenB
        have hcop : cop P d o st' fun g' s => g' = .ptr d 0 ∧ s = st'.setBox d cs := by
          unfold cop
          rw [hop]
          simp only [vop, hz]
          rw [hl, hc.1, newBox_none (by rw [hn]; exact hc.2)]
          first | exact ⟨rfl, rfl⟩ | exact ⟨trivial, trivial⟩ | exact ⟨rfl, trivial⟩ | trivial
        refine cop_sound hcop hi fun v w' ⟨C', g', s, ⟨e1, e2⟩, h2, h3⟩ => ?_
        subst e1; subst e2
        rw [hd]
        exact hk C' _ _ (h2.put (some d) h3)
    · exact h.elim
  · -- box
    rename_i t x hop
    split at h
    · rename_i d hd
      cases hc : Nat.blt d st.boxes.length && (st.boxes.getD d none).isNone && okReg (st.ev x) with
      | false => rw [hc] at h; exact h.elim
      | true =>
        rw [hc] at h
        refine ⟨_, h, rfl, fun st' hs C F a w Q K hi hk => ?_⟩
        simp only [Bool.and_eq_true] at hc
        have hn := hs.nb d _ rfl
        have hl := hs.lenB
        have hx' : st'.ev x = st.ev x := look_ev hs.look x (by rw [hop]; simp [Op.operands])
        have hcop : cop P d o st' fun g' s => g' = .ptr d 0 ∧ s = st'.setBox d (st.ev x).cells := by
          unfold cop
          rw [hop]
          simp only [vop]
          rw [hl, hx', hc.1.1, hc.2, newBox_none (by rw [hn]; exact hc.1.2)]
          first | exact ⟨rfl, rfl⟩ | exact ⟨trivial, trivial⟩ | exact ⟨rfl, trivial⟩ | trivial
        refine cop_sound hcop hi fun v w' ⟨C', g', s, ⟨e1, e2⟩, h2, h3⟩ => ?_
        subst e1; subst e2
        rw [hd]
        exact hk C' _ _ (h2.put (some d) h3)
    · exact h.elim
  · -- a call
    rename_i f args ats hop
    split at h
    · rename_i n caps hf
      rw [fS_eq] at h
      cases hc : (args.toList.map st.ev ++ caps).all G.closed with
      | false => rw [hc] at h; exact h.elim
      | true =>
        rw [hc] at h
        obtain ⟨g, hF, h⟩ := h
        cases hg : g.closedR with
        | false => rw [hg] at h; exact h.elim
        | true =>
          rw [hg] at h
          simp only [cond_true, fA_eq] at h
          refine ⟨_, h, rfl, val _ _ fun st' hs => ?_⟩
          have hev := look_ev hs.look
          rw [hop] at hev
          have hf' : st'.ev f = .fn n caps := by rw [hev f (by simp [Op.operands, Call.operands]), hf]
          have ha : args.toList.map st'.ev = args.toList.map st.ev := List.map_congr_left fun x hx => hev x (by simp only [Op.operands, Call.operands, Array.toList_append]; exact List.mem_append_right _ hx)
          unfold cop
          rw [hop]
          simp only [hf']
          rw [fS_eq, ha, hc]
          refine ⟨g, hF, ?_⟩
          rw [hg]
          first | exact ⟨rfl, rfl⟩ | exact ⟨trivial, trivial⟩ | exact ⟨rfl, trivial⟩ | trivial
    · exact h.elim
  · -- what computes alone
    rename_i op hn1 hn2 hn3 hn4 hn5
    cases hp : pureOp o.op with
    | false => rw [hp] at h; exact h.elim
    | true =>
      rw [hp] at h
      simp only [cond_true, fA_eq] at h
      obtain ⟨g, h1, h2⟩ := vop_det hp h
      refine ⟨_, h1, rfl, val _ _ fun st' hs => ?_⟩
      have := h2 0 st' hs.rows (look_ev hs.look) (fun g' s => g' = g ∧ s = st') (by first | exact ⟨rfl, rfl⟩ | trivial)
      unfold cop
      split
      · rename_i hop; exact absurd hop (hn5 _ _ _)
      · rename_i hop; rw [hop] at hp; simp [pureOp] at hp
      · exact this
end Go.Proofs.Yteioecdfimphaaa.Av
