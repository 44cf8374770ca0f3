/- A region whose order is drawn comes to what its operations do one behind the other. No condition. -/
import Derived.Test.YtcihkmnolagdlaaDoorAv12
namespace Go.Proofs.YtcihkmnolagdlaaDoor.Av
open Go Go.RowKit
set_option linter.unusedVariables false
set_option linter.unusedSimpArgs false

theorem look_ev {ops : Array Oper} {o : Oper} {st st' : St} (h : ∀ d ∈ o.looksAt ops, st'.slots.getD d .junk = st.slots.getD d .junk) : ∀ x ∈ o.op.operands.toList, st'.ev x = st.ev x := fun x hx => by
  cases x with
  | tmp t => exact h t (List.mem_append_left _ (List.mem_filterMap.2 ⟨.tmp t, hx, rfl⟩))
  | _ => rfl

theorem Inv.setBox_eq {st : St} {b : Nat} {cs us : List G} {off : Nat} (h : st.boxes.getD b none = some cs) : st.boxes.modify b (Option.map fun old => blit old off us) = st.boxes.set b (some (blit cs off us)) := by
  apply List.ext_getElem?
  intro i
  rw [List.getElem?_modify, List.getElem?_set]
  by_cases e : b = i
  · subst e
    rw [List.getD_eq_getElem?_getD] at h
    cases hx : st.boxes[b]? with
    | none => rw [hx] at h; cases h
    | some o =>
      rw [hx] at h
      simp only [Option.getD_some] at h
      subst h
      have : b < st.boxes.length := (List.getElem?_eq_some_iff.1 hx).1
      simp [this]
  · simp [e]

theorem newBox_none {st : St} {d : Nat} {cs : List G} (h : (st.boxes.getD d none).isNone = true) : st.newBox d cs = st.setBox d cs := by
  unfold St.newBox
  cases hx : st.boxes.getD d none with
  | none => rfl
  | some _ => rw [hx] at h; cases h

/-- What an operation comes to is one value and one state. -/
theorem vop_pt {P : Program} {d : Nat} {op : Op} {st : St} {k : G → St → Prop} (h : vop P d op st k) : ∃ g s, k g s ∧ vop P d op st fun g' s' => g' = g ∧ s' = s := by
  cases hp : pureOp op with
  | true =>
    obtain ⟨g, h1, h2⟩ := vop_det hp h
    exact ⟨g, st, h1, h2 d st (fun _ => rfl) (fun _ _ => rfl) _ ⟨rfl, rfl⟩⟩
  | false =>
    cases op with
    | alloc t =>
      simp only [vop] at h ⊢
      split at h
      · rename_i cs hz
        cases hc : Nat.blt d st.boxes.length && Nat.blt d st.slots.length with
        | false => rw [hc] at h; exact h.elim
        | true => rw [hc] at h; exact ⟨_, _, h, by simp⟩
      · exact h.elim
    | box t x =>
      simp only [vop] at h ⊢
      cases hc : (Nat.blt d st.boxes.length && Nat.blt d st.slots.length) && okReg (st.ev x) with
      | false => rw [hc] at h; exact h.elim
      | true => rw [hc] at h; exact ⟨_, _, h, by simp⟩
    | load t x =>
      simp only [vop] at h ⊢
      unfold loadP at h ⊢
      split at h
      · exact h.elim
      · rename_i dd hu
        split at h
        · rename_i b off hx
          split at h
          · rename_i cs hcs
            cases hc : Nat.ble (off + wide P dd t) cs.length with
            | false => rw [hc] at h; exact h.elim
            | true => rw [hc] at h; exact ⟨_, _, h, by simp⟩
          · exact h.elim
        · rename_i row off hx
          cases hc : Nat.ble (off + wide P dd t) row.length with
          | false => rw [hc] at h; exact h.elim
          | true => rw [hc] at h; exact ⟨_, _, h, by simp⟩
        · rename_i kk i off hx
          split at h
          · rename_i xs hxs
            obtain ⟨row, h1, h⟩ := h
            cases hc : Nat.ble (off + wide P dd t) row.length with
            | false => rw [hc] at h; exact h.elim
            | true => rw [hc] at h; exact ⟨_, _, h, row, h1, by simp [hc]⟩
          · exact h.elim
        · exact h.elim
    | store t p x =>
      simp only [vop] at h ⊢
      unfold storeP at h ⊢
      split at h
      · exact h.elim
      · rename_i dd hu
        split at h
        · rename_i b off hx
          split at h
          · rename_i cs hcs
            cases hc : okReg (st.ev x) && ((st.ev x).cells.length == P.cellsOf t) && Nat.ble (off + P.cellsOf t) cs.length with
            | false => rw [hc] at h; exact h.elim
            | true => rw [hc] at h; exact ⟨_, _, h, by simp⟩
          · exact h.elim
        · exact h.elim
    | call c =>
      obtain ⟨callee, args, ats⟩ := c
      cases callee with
      | builtin b =>
        cases b <;> first | (simp [pureOp] at hp; done) | skip
        all_goals (simp [vop] at h; done)
      | _ => simp [vop] at h
    | slice t x lo hi mx => simp [pureOp] at hp
    | _ => first | (simp [pureOp] at hp; done) | (simp [vop] at h; done)
theorem xop_pt {P : Program} {d : Nat} {op : Op} {st : St} {k : G → St → Prop} (h : xop P d op st k) : ∃ g s, k g s ∧ xop P d op st fun g' s' => g' = g ∧ s' = s := by
  cases hp : pureOp op with
  | true =>
    obtain ⟨g, h1, h2⟩ := xop_det hp h
    exact ⟨g, st, h1, h2 d st (fun _ => rfl) (fun _ _ => rfl) _ ⟨rfl, rfl⟩⟩
  | false =>
    unfold xop at h ⊢
    split at h
    · rename_i t l c
      unfold makeP at h ⊢
      split at h
      · rename_i hz
        split at h
        · rename_i zc hzc
          generalize hb : (zc.all G.closed0 && Nat.blt 0 _ && Nat.blt d st.rows.length) = b at h ⊢
          cases b with
          | false => exact h.elim
          | true => exact ⟨_, _, h.2, h.1, rfl, rfl⟩
        · exact h.elim
      · exact h.elim
    · rename_i t p x
      split at h
      · rename_i kk i off hpx
        unfold storeW at h
        split at h
        · rename_i dd xs hu hxs
          obtain ⟨row, h1, h⟩ := h
          cases hc : okReg (st.ev x) && ((st.ev x).cells.length == P.cellsOf t) && (st.ev x).cells.all G.closed0 with
          | false => rw [hc] at h; exact h.elim
          | true =>
            rw [hc] at h
            exact ⟨_, _, h, by simp only [hpx]; unfold storeW; rw [hu, hxs]; exact ⟨row, h1, by rw [hc]; first | exact ⟨rfl, rfl⟩ | exact ⟨trivial, rfl⟩ | exact ⟨trivial, trivial⟩ | trivial⟩⟩
        · exact h.elim
      · rename_i hx
        obtain ⟨g, s, h1, h2⟩ := vop_pt h
        refine ⟨g, s, h1, ?_⟩
        first
        | exact h2
        | (split
           · rename_i e; exact absurd e (hx _ _ _)
           · exact h2)
    · simp [pureOp] at hp
    · simp [pureOp] at hp
    · simp [pureOp] at hp
    · simp [pureOp] at hp
    · simp [pureOp] at hp
    · simp [pureOp] at hp
    · obtain ⟨g, s, h1, h2⟩ := vop_pt h
      exact ⟨g, s, h1, h2⟩
theorem src_pt {st : St} {x : G} {k : List (List G) → Prop} (h : srcP st x k) : ∃ ys, k ys ∧ ∀ k2 : List (List G) → Prop, k2 ys → srcP st x k2 := by
  unfold srcP at h ⊢
  split at h
  · exact ⟨_, h, fun k2 hk => hk⟩
  · exact ⟨_, h, fun k2 hk => hk⟩
  · exact ⟨_, h, fun k2 hk => hk⟩
  · exact ⟨_, h, fun k2 hk => hk⟩
  · split at h
    · exact ⟨_, h.2, fun k2 hk => ⟨h.1, hk⟩⟩
    · exact h.elim
  · exact ⟨_, h, fun k2 hk => hk⟩
  · exact h.elim
theorem app_pt {P : Program} {d : Nat} {s x : G} {tS tX : TypeId} {st : St} {k : G → St → Prop} (h : appP P d s x tS tX st k) : ∃ g s', k g s' ∧ appP P d s x tS tX st fun g' s2 => g' = g ∧ s2 = s' := by
  unfold appP at h ⊢
  split at h
  · rename_i e dX hu hX
    cases hq : isInt dX || (P.bytesOf e == 0) || (zeroCells P e).isNone || (P.cellsOf e == 0) || !(Nat.blt d st.rows.length) with
    | true => rw [hq] at h; exact h.elim
    | false =>
      rw [hq] at h
      simp only [cond_false] at h ⊢
      obtain ⟨ys, h, q⟩ := src_pt h
      cases hok : okRows (P.cellsOf e) ys with
      | false => rw [hok] at h; exact h.elim
      | true =>
        rw [hok] at h
        simp only [cond_true] at h
        split at h
        · exact ⟨_, _, h.2, q _ (by rw [hok]; first | exact ⟨h.1, rfl, rfl⟩ | exact ⟨h.1, trivial, trivial⟩ | exact ⟨h.1, trivial⟩)⟩
        · exact ⟨_, _, h.2, q _ (by rw [hok]; first | exact ⟨h.1, rfl, rfl⟩ | exact ⟨h.1, trivial, trivial⟩ | exact ⟨h.1, trivial⟩)⟩
        · rename_i kk off len
          split at h
          · rename_i xs hxs
            exact ⟨_, _, h.2, q _ (by rw [hok]; simp only [cond_true, hxs]; first | exact ⟨h.1, rfl, rfl⟩ | exact ⟨h.1, trivial, trivial⟩ | exact ⟨h.1, trivial⟩)⟩
          · exact h.elim
        · cases hc : Nat.beq (P.cellsOf e) 1 with
          | false => rw [hc] at h; exact h.elim
          | true =>
            rw [hc] at h
            exact ⟨_, _, h.2, q _ (by rw [hok]; simp only [cond_true, hc]; first | exact ⟨h.1, rfl, rfl⟩ | exact ⟨h.1, trivial, trivial⟩ | exact ⟨h.1, trivial⟩)⟩
        · rename_i kk len T hdup
          cases hc : Nat.beq T e && Nat.beq (P.cellsOf e) 1 with
          | false => rw [hc] at h; exact h.elim
          | true =>
            rw [hc] at h
            simp only [cond_true] at h
            split at h
            · rename_i xs hxs
              exact ⟨_, _, h.2, q _ (by rw [hok]; simp only [cond_true, hc, hxs]; first | exact ⟨h.1, rfl, rfl⟩ | exact ⟨h.1, trivial, trivial⟩ | exact ⟨h.1, trivial⟩)⟩
            · exact h.elim
        · exact h.elim
  · exact h.elim
theorem dn1_pt {st : St} (g : G) (k : G → Prop) (h : dn1 st g k) : ∃ g', k g' ∧ ∀ st2 : St, st2.rows = st.rows → ∀ k2 : G → Prop, k2 g' → dn1 st2 g k2 := by
  cases g with
  | own kk off len =>
    simp only [dn1] at h
    split at h
    · rename_i xs hxs
      exact ⟨_, h.2, fun st2 e k2 hk => by simp only [dn1, e, hxs]; exact ⟨h.1, hk⟩⟩
    · exact h.elim
  | _ => exact ⟨_, h, fun st2 e k2 hk => hk⟩
theorem dnL_pt {st : St} : ∀ (gs : List G) (k : List G → Prop), dnL st gs k → ∃ gs', k gs' ∧ ∀ st2 : St, st2.rows = st.rows → ∀ k2 : List G → Prop, k2 gs' → dnL st2 gs k2 := by
  intro gs
  induction gs with
  | nil => intro k h; exact ⟨[], h, fun st2 e k2 hk => hk⟩
  | cons g gs ih =>
    intro k h
    have h : dn1 st g fun g' => dnL st gs fun gs' => k (g' :: gs') := h
    obtain ⟨g', h1, q1⟩ := dn1_pt g _ h
    obtain ⟨gs', h2, q2⟩ := ih _ h1
    exact ⟨_, h2, fun st2 e k2 hk => show dn1 st2 g fun g' => dnL st2 gs fun gs' => k2 (g' :: gs') from q1 st2 e (fun g' => dnL st2 gs fun gs' => k2 (g' :: gs')) (q2 st2 e (fun gs' => k2 (g' :: gs')) hk)⟩
theorem dn2_pt {st : St} (g : G) (k : G → Prop) (h : dn2 st g k) : ∃ g', k g' ∧ ∀ st2 : St, st2.rows = st.rows → ∀ k2 : G → Prop, k2 g' → dn2 st2 g k2 := by
  by_cases hg : ∃ gs, g = .agg gs
  · obtain ⟨gs, rfl⟩ := hg
    obtain ⟨gs', h1, q1⟩ := dnL_pt gs _ h
    exact ⟨_, h1, fun st2 e k2 hk => q1 st2 e _ hk⟩
  · have e : ∀ (s : St) (k : G → Prop), dn2 s g k = dn1 s g k := fun s k => by cases g <;> first | rfl | exact absurd ⟨_, rfl⟩ hg
    rw [e] at h
    obtain ⟨g', h1, q1⟩ := dn1_pt g k h
    exact ⟨g', h1, fun st2 e2 k2 hk => by rw [e]; exact q1 st2 e2 k2 hk⟩
theorem dnT_pt {st : St} : ∀ (gs : List G) (k : List G → Prop), dnT st gs k → ∃ gs', k gs' ∧ ∀ st2 : St, st2.rows = st.rows → ∀ k2 : List G → Prop, k2 gs' → dnT st2 gs k2 := by
  intro gs
  induction gs with
  | nil => intro k h; exact ⟨[], h, fun st2 e k2 hk => hk⟩
  | cons g gs ih =>
    intro k h
    have h : dn2 st g fun g' => dnT st gs fun gs' => k (g' :: gs') := h
    obtain ⟨g', h1, q1⟩ := dn2_pt g _ h
    obtain ⟨gs', h2, q2⟩ := ih _ h1
    exact ⟨_, h2, fun st2 e k2 hk => show dn2 st2 g fun g' => dnT st2 gs fun gs' => k2 (g' :: gs') from q1 st2 e (fun g' => dnT st2 gs fun gs' => k2 (g' :: gs')) (q2 st2 e (fun gs' => k2 (g' :: gs')) hk)⟩
theorem lend_pt {P : Program} {f : FuncId} {gs : List G} {st : St} {k : G → St → Prop} (h : lendP P f gs st k) : ∃ g, k g st ∧ ∀ (st2 : St), st2.rows = st.rows → ∀ k2 : G → St → Prop, k2 g st2 → lendP P f gs st2 k2 := by
  unfold lendP at h
  obtain ⟨gs', h, q⟩ := dnT_pt gs _ h
  rw [fS_eq] at h
  cases hq : gs'.all G.closed with
  | false => rw [hq] at h; exact h.elim
  | true =>
    rw [hq] at h
    obtain ⟨g, hF, h⟩ := h
    cases hg : g.flatR with
    | false => rw [hg] at h; exact h.elim
    | true =>
      rw [hg] at h
      refine ⟨g, h, fun st2 e k2 hk => q st2 e _ ?_⟩
      rw [fS_eq, hq]
      refine ⟨g, hF, ?_⟩
      rw [hg]
      exact hk
theorem place_pt {P : Program} {f : FuncId} {d : Nat} {gs : List G} {st : St} {k : G → St → Prop} (h : placeP P d f gs st k) : ∃ g s, k g s ∧ placeP P d f gs st fun g' s' => g' = g ∧ s' = s := by
  unfold placeP at h ⊢
  simp only [fI_eq] at h ⊢
  cases hq : (seenB st gs).all (fun b => (st.boxes.getD b none).isSome) && (seenR st gs (seenB st gs)).all (fun k => (st.rows.getD k none).isSome) && distinct (seenB st gs) && distinct (seenR st gs (seenB st gs)) with
  | false => rw [hq] at h; exact h.elim
  | true =>
    rw [hq] at h
    simp only [cond_true, fS_eq, fBs_eq, fRs_eq] at h ⊢
    obtain ⟨q, hF, h⟩ := h
    unfold backP at h
    cases hb : backOk (idsOf (seenB st gs) d st.slots.length q.2.1.length) (idsOf (seenR st gs (seenB st gs)) d st.slots.length q.2.2.length) (seenB st gs) (seenR st gs (seenB st gs)) st q with
    | false => rw [hb] at h; exact h.elim
    | true =>
      rw [hb] at h
      simp only [cond_true, St.force_eq] at h
      exact ⟨_, _, h, ⟨q, hF, by unfold backP; rw [hb]; simp only [cond_true, St.force_eq]; exact ⟨trivial, trivial⟩⟩⟩
theorem call_pt {P : Program} {f : FuncId} {d : Nat} {gs : List G} {st : St} {k : G → St → Prop} (h : callP P d f gs st k) : ∃ g s, k g s ∧ callP P d f gs st fun g' s' => g' = g ∧ s' = s := by
  unfold callP at h ⊢
  cases hc : gs.all G.closed with
  | true =>
    rw [hc] at h
    rcases h with ⟨g, hF, h⟩ | h
    · cases hg : g.closedR with
      | false => rw [hg] at h; exact h.elim
      | true => rw [hg] at h; exact ⟨g, st, h, .inl ⟨g, hF, by rw [hg]; exact ⟨rfl, rfl⟩⟩⟩
    · obtain ⟨g, s, h1, h2⟩ := place_pt h
      exact ⟨g, s, h1, .inr h2⟩
  | false =>
    rw [hc] at h
    simp only [cond_false] at h ⊢
    rcases h with h | h
    · obtain ⟨g, h1, q⟩ := lend_pt h
      exact ⟨g, st, h1, .inl (q st rfl _ ⟨rfl, rfl⟩)⟩
    · obtain ⟨g, s, h1, h2⟩ := place_pt h
      exact ⟨g, s, h1, .inr h2⟩
theorem convT_pt {P : Program} {src dst : TypeId} {b : Nat} {T : TypeId} {n : Nat} {k : G → Prop} (h : convT P src dst b T n k) : ∃ g, k g ∧ convT P src dst b T n fun g' => g' = g := by
  unfold convT at h ⊢
  split at h
  · cases hc : okSz P _ && Nat.blt 0 n with
    | false => rw [hc] at h; exact h.elim
    | true => rw [hc] at h; exact ⟨_, h, by simp only [cond_true]⟩
  · cases hc : (P.info? _).isSome with
    | false => rw [hc] at h; exact h.elim
    | true => rw [hc] at h; exact ⟨_, h.2, h.1, rfl⟩
  · exact h.elim
theorem uop_pt {P : Program} {d : Nat} {op : Op} {st : St} {k : G → St → Prop} (h : uop P d op st k) : ∃ g s, k g s ∧ uop P d op st fun g' s' => g' = g ∧ s' = s := by
  unfold uop at h ⊢
  split at h
  · unfold allocT at h ⊢
    split at h
    · rename_i cs hz
      split at h
      · rename_i cs' hty
        cases hc : Nat.blt d st.boxes.length && Nat.blt d st.slots.length with
        | false => rw [hc] at h; exact h.elim
        | true => rw [hc] at h; exact ⟨_, _, h, by simp only [cond_true]; exact ⟨trivial, trivial⟩⟩
      · exact xop_pt h
    · exact h.elim
  · split at h
    · obtain ⟨g, h1, h2⟩ := convT_pt h
      refine ⟨g, st, h1, ?_⟩
      unfold convT at h2 ⊢
      split at h2
      · rename_i hs hd
        cases hc : okSz P _ && Nat.blt 0 _ with
        | false => rw [hc] at h2; exact h2.elim
        | true => rw [hc] at h2; subst h2; simp only [cond_true]; exact ⟨trivial, trivial⟩
      · rename_i hs hd
        cases hc : (P.info? _).isSome with
        | false => rw [hc] at h2; exact h2.elim
        | true => rw [hc] at h2; obtain ⟨h3, h4⟩ := h2; subst h4; simp only [cond_true]; exact ⟨h3, trivial, trivial⟩
      · exact h2.elim
    · exact xop_pt h
  · unfold dataT at h ⊢
    split at h
    · exact ⟨_, _, h, rfl, rfl⟩
    · exact ⟨_, _, h, rfl, rfl⟩
    · exact h.elim
  · unfold strT at h ⊢
    split at h
    · exact ⟨_, _, h.2, h.1, rfl, rfl⟩
    · split at h
      · rename_i e xs hpt hxs
        cases hc : Nat.beq e _ && Nat.beq (P.cellsOf e) 1 with
        | false => rw [hc] at h; exact h.elim
        | true =>
          rw [hc] at h
          obtain ⟨bs, h1, h2⟩ := h
          exact ⟨_, _, h2, by simp only [cond_true]; first | exact ⟨bs, h1, rfl, rfl⟩ | exact ⟨bs, h1, rfl, trivial⟩ | exact ⟨bs, h1, trivial⟩⟩
      · exact h.elim
    · exact h.elim
  · unfold clearP at h ⊢
    split at h
    · split at h
      · split at h
        · cases hc : List.all _ G.closed0 && !(Nat.beq (P.cellsOf _) 0) with
          | false => rw [hc] at h; exact h.elim
          | true => rw [hc] at h; exact ⟨_, _, h.2, by simp only [cond_true]; exact ⟨h.1, trivial, trivial⟩⟩
        · exact h.elim
      · exact h.elim
    · exact h.elim
  · exact xop_pt h
theorem uop_of_xop {P : Program} {d : Nat} {op : Op} {st : St} {k : G → St → Prop} (hp : pureOp op = true) (h : xop P d op st k) : uop P d op st k := by
  unfold uop
  split
  · simp [pureOp] at hp
  · split
    · rename_i b T n hx
      simp only [xop, hx, isNum, cond_false] at h
      unfold bytesP at h
      split at h
      · split at h
        · exact h.elim
        · exact h.elim
      · exact h.elim
    · exact h
  · simp [pureOp] at hp
  · simp [pureOp] at hp
  · simp [pureOp] at hp
  · exact h
theorem bld_pt {P : Program} {d : Nat} {t : TypeId} {len : Nat} {parts : Array (Nat × Operand)} {st : St} {k : G → St → Prop} (h : bldP P d t len parts st k) : ∃ g s, k g s ∧ bldP P d t len parts st fun g' s' => g' = g ∧ s' = s := by
  unfold bldP at h ⊢
  split at h
  · rename_i e hu
    split at h
    · rename_i zc hz
      cases hc : (P.cellsOf e == 0) || !(Nat.ble (len * P.cellsOf e) 16777216) || !(Nat.blt 0 len && Nat.blt d st.rows.length) with
      | true => rw [hc] at h; exact h.elim
      | false =>
        rw [hc] at h
        simp only [cond_false] at h ⊢
        split at h
        · rename_i gs hg
          cases hcl : gs.all G.closed0 with
          | false => rw [hcl] at h; exact h.elim
          | true =>
            rw [hcl] at h
            simp only [cond_true, fLL_eq] at h
            exact ⟨_, _, h, by simp [hu, hz, hg, hc, hcl, fLL_eq]⟩
        · exact h.elim
    · exact h.elim
  · exact h.elim
theorem valP_pt {de : TypeDesc} {v : List G} {k : G → Prop} (h : valP de v k) : ∃ g, k g ∧ ∀ k2 : G → Prop, k2 g → valP de v k2 := by
  unfold valP at h
  cases hq : aggD de with
  | true => rw [hq] at h; simp only [cond_true, fL_eq] at h; exact ⟨_, h, fun k2 h => by unfold valP; rw [hq]; simp only [cond_true, fL_eq]; exact h⟩
  | false =>
    rw [hq] at h
    simp only [cond_false] at h
    split at h
    · exact ⟨_, h, fun k2 h => by unfold valP; rw [hq]; exact h⟩
    · exact h.elim
theorem look_pt {P : Program} {t : TypeId} {st : St} {m key : G} {ok : Bool} {k : G → Prop} (h : lookP P t st m key ok k) : ∃ g, k g ∧ lookP P t st m key ok fun g' => g' = g := by
  unfold lookP at h ⊢
  split at h
  · rename_i K E dk de kk kn fl hd
    split at h
    · rename_i xs zc hxs hzc
      simp only [hd, hxs, hzc]
      cases hq : keyFit P K dk kn key && Nat.beq fl (flOf dk de) && (zAgg P E == aggD de) with
      | false => rw [hq] at h; exact h.elim
      | true =>
        rw [hq] at h
        simp only [cond_true] at h ⊢
        obtain ⟨ho, f, hf, v, b, hl, h⟩ := h
        obtain ⟨g, h, h2⟩ := valP_pt h
        cases ok with
        | true => exact ⟨_, h, ho, f, hf, v, b, hl, h2 _ rfl⟩
        | false => exact ⟨_, h, ho, f, hf, v, b, hl, h2 _ rfl⟩
    · exact h.elim
  · exact h.elim
theorem upd_pt {P : Program} {t : TypeId} {st : St} {m key x : G} {k : St → Prop} (h : updP P t st m key x k) : ∃ s, k s ∧ updP P t st m key x fun s' => s' = s := by
  unfold updP at h ⊢
  split at h
  · rename_i K E dk de kk kn fl hd
    split at h
    · rename_i xs hxs
      simp only [hd, hxs]
      cases hq : keyFit P K dk kn key && Nat.beq fl (flOf dk de) && valFit P E de x with
      | false => rw [hq] at h; exact h.elim
      | true =>
        rw [hq] at h
        simp only [cond_true] at h ⊢
        obtain ⟨ho, f, hf, h⟩ := h
        exact ⟨_, h, ho, f, hf, rfl⟩
    · exact h.elim
  · exact h.elim
theorem del_pt {P : Program} {gs : List G} {ts : List TypeId} {st : St} {k : G → St → Prop} (h : delP P gs ts st k) : ∃ g s, k g s ∧ delP P gs ts st fun g' s' => g' = g ∧ s' = s := by
  unfold delP at h ⊢
  split at h
  · split at h
    · rename_i K E dk de kk kn fl hd
      split at h
      · rename_i xs hxs
        simp only [hd, hxs]
        cases hq : keyFit P K dk kn _ && Nat.beq fl (flOf dk de) with
        | false => rw [hq] at h; exact h.elim
        | true =>
          rw [hq] at h
          simp only [cond_true] at h ⊢
          obtain ⟨ho, f, hf, h⟩ := h
          exact ⟨_, _, h, ho, f, hf, rfl, rfl⟩
      · exact h.elim
    · exact h.elim
  · exact h.elim
theorem mop_pt {P : Program} {d : Nat} {op : Op} {st : St} {k : G → St → Prop} (h : mop P d op st k) : ∃ g s, k g s ∧ mop P d op st fun g' s' => g' = g ∧ s' = s := by
  unfold mop at h ⊢
  split at h
  · unfold makeMP at h ⊢
    split at h
    · rename_i hd
      simp only [hd]
      cases hc : Nat.blt d st.rows.length with
      | false => rw [hc] at h; exact h.elim
      | true => rw [hc] at h; exact ⟨_, _, h, rfl, rfl⟩
    · exact h.elim
  · obtain ⟨g, h1, h2⟩ := look_pt h
    refine ⟨g, st, h1, ?_⟩
    simpa only [and_true] using h2
  · obtain ⟨s, h1, h2⟩ := upd_pt h
    refine ⟨_, s, h1, ?_⟩
    simpa only [true_and] using h2
  · obtain ⟨s, h1, h2⟩ := upd_pt h
    refine ⟨_, s, h1, ?_⟩
    simpa only [true_and] using h2
  · exact del_pt h
  · exact uop_pt h
theorem mop_of_uop {P : Program} {d : Nat} {op : Op} {st : St} {k : G → St → Prop} (hp : pureOp op = true) (h : uop P d op st k) : mop P d op st k := by
  unfold mop
  split
  · simp [pureOp] at hp
  · simp [pureOp] at hp
  · simp [pureOp] at hp
  · simp [pureOp] at hp
  · simp [pureOp] at hp
  · exact h
theorem cop_pt {P : Program} {d : Nat} {o : Oper} {st : St} {k : G → St → Prop} (h : cop P d o st k) : ∃ g s, k g s ∧ cop P d o st fun g' s' => g' = g ∧ s' = s := by
  unfold cop at h ⊢
  split at h
  · split at h
    · cases hu : isUns P _ with
      | true =>
        rw [hu] at h
        simp only [cond_true] at h ⊢
        unfold escP at h ⊢
        split at h
        · exact ⟨_, _, h.2, h.1, rfl, rfl⟩
        · exact h.elim
      | false => rw [hu] at h; simp only [fS_eq, cond_false] at h ⊢; exact call_pt h
    · simp only [fS_eq] at h ⊢; exact call_pt h
    · exact h.elim
  · split at h
    · exact app_pt h
    · exact h.elim
  · cases hb : bldB o with
    | true => rw [hb] at h; simp only [cond_true] at h ⊢; exact bld_pt h
    | false => rw [hb] at h; simp only [cond_false] at h ⊢; exact uop_pt h
  · exact mop_pt h

theorem killRs_slots : ∀ (R : List Nat) (st : St), (R.foldl (fun s k => s.killR k) st).slots = killS R st.slots
  | [], st => rfl
  | k :: R, st => killRs_slots R (st.killR k)
theorem killRs_same : ∀ (R : List Nat) (st st2 : St), st2.boxes = st.boxes → st2.rows = st.rows → (R.foldl (fun s k => s.killR k) st2).boxes = (R.foldl (fun s k => s.killR k) st).boxes ∧ (R.foldl (fun s k => s.killR k) st2).rows = (R.foldl (fun s k => s.killR k) st).rows
  | [], st, st2, h1, h2 => ⟨h1, h2⟩
  | k :: R, st, st2, h1, h2 => killRs_same R (st.killR k) (st2.killR k) (by simp [St.killR, h1]) (by simp [St.killR, h2])
theorem place_mem {P : Program} {f : FuncId} {d : Nat} {gs : List G} {st : St} {k : G → St → Prop} (h : placeP P d f gs st k) :
    ∃ g bs rs, k g ⟨killS (seenR st gs (seenB st gs)) st.slots, bs, rs⟩ ∧ ∀ st2 : St, st2.boxes = st.boxes → st2.rows = st.rows → st2.slots.length = st.slots.length → placeP P d f gs st2 fun g' s => g' = g ∧ s = ⟨killS (seenR st gs (seenB st gs)) st2.slots, bs, rs⟩ := by
  have cells : ∀ st2 : St, st2.boxes = st.boxes → cellsB st2 = cellsB st := fun st2 e => by funext b; unfold cellsB; rw [e]
  have sB : ∀ st2 : St, st2.boxes = st.boxes → seenB st2 gs = seenB st gs := fun st2 e => by unfold seenB; rw [cells st2 e]
  have sR : ∀ st2 : St, st2.boxes = st.boxes → seenR st2 gs = seenR st gs := fun st2 e => by funext bs; unfold seenR; rw [cells st2 e]
  unfold placeP at h ⊢
  simp only [fI_eq] at h ⊢
  cases hq : (seenB st gs).all (fun b => (st.boxes.getD b none).isSome) && (seenR st gs (seenB st gs)).all (fun k => (st.rows.getD k none).isSome) && distinct (seenB st gs) && distinct (seenR st gs (seenB st gs)) with
  | false => rw [hq] at h; exact h.elim
  | true =>
    rw [hq] at h
    simp only [cond_true, fS_eq, fBs_eq, fRs_eq] at h
    obtain ⟨q, hF, h⟩ := h
    unfold backP at h
    cases hb : backOk (idsOf (seenB st gs) d st.slots.length q.2.1.length) (idsOf (seenR st gs (seenB st gs)) d st.slots.length q.2.2.length) (seenB st gs) (seenR st gs (seenB st gs)) st q with
    | false => rw [hb] at h; exact h.elim
    | true =>
      rw [hb] at h
      simp only [cond_true, St.force_eq] at h
      have hs : ∀ (ids rids : List Nat) (st2 : St), st2.boxes = st.boxes → st2.rows = st.rows → backSt ids rids (seenR st gs (seenB st gs)) st2 q = ⟨killS (seenR st gs (seenB st gs)) st2.slots, (backSt ids rids (seenR st gs (seenB st gs)) st q).boxes, (backSt ids rids (seenR st gs (seenB st gs)) st q).rows⟩ := fun ids rids st2 e1 e2 => by
        obtain ⟨e3, e4⟩ := killRs_same (seenR st gs (seenB st gs)) st st2 e1 e2
        unfold backSt
        simp only [killRs_slots, e3, e4]
      rw [hs _ _ st rfl rfl] at h
      refine ⟨_, _, _, h, fun st2 e1 e2 e3 => ?_⟩
      simp only [fS_eq, fBs_eq, fRs_eq, sB st2 e1, sR st2 e1, cells st2 e1, e1, e2]
      rw [hq]
      refine ⟨q, hF, ?_⟩
      unfold backP
      rw [e3]
      have hb2 : backOk (idsOf (seenB st gs) d st.slots.length q.2.1.length) (idsOf (seenR st gs (seenB st gs)) d st.slots.length q.2.2.length) (seenB st gs) (seenR st gs (seenB st gs)) st2 q = true := by rw [← hb]; unfold backOk; rw [e1, e2]
      rw [hb2]
      simp only [cond_true, St.force_eq]
      exact ⟨trivial, hs _ _ st2 e1 e2⟩
theorem addNew_pre : ∀ (bs l : List Nat), ∃ t, addNew l bs = l ++ t
  | [], l => ⟨[], by simp [addNew_nil]⟩
  | b :: bs, l => by
    rw [addNew_cons]
    cases l.any (Nat.beq b) with
    | true => exact addNew_pre bs l
    | false =>
      obtain ⟨t, h⟩ := addNew_pre bs (l ++ [b])
      exact ⟨b :: t, by simp only [cond_false]; rw [h]; simp⟩
theorem seenB_one {st st2 : St} {gs : List G} {b : Nat} (h : seenB st gs = [b]) (hc : cellsB st2 b = cellsB st b) : seenB st2 gs = [b] := by
  unfold seenB at h ⊢
  simp only [fI_eq] at h ⊢
  obtain ⟨t1, h1⟩ := addNew_pre ((addNew [] (gs.flatMap refB)).flatMap fun b => (cellsB st b).flatMap refB0) (addNew [] (gs.flatMap refB))
  obtain ⟨t2, h2⟩ := addNew_pre ((addNew (addNew [] (gs.flatMap refB)) ((addNew [] (gs.flatMap refB)).flatMap fun b => (cellsB st b).flatMap refB0)).flatMap fun b => (cellsB st b).flatMap refB0) (addNew (addNew [] (gs.flatMap refB)) ((addNew [] (gs.flatMap refB)).flatMap fun b => (cellsB st b).flatMap refB0))
  generalize addNew [] (gs.flatMap refB) = b0 at *
  cases b0 with
  | nil => simp [addNew_nil] at h
  | cons x xs =>
    have h3 := h2.symm.trans h
    rw [h1] at h3
    simp only [List.cons_append, List.cons.injEq, List.append_eq_nil_iff] at h3
    obtain ⟨rfl, ⟨⟨rfl, rfl⟩, rfl⟩⟩ := h3
    simp only [List.flatMap_cons, List.flatMap_nil, List.append_nil] at h1 ⊢
    rw [hc, h1]
    simp only [List.flatMap_cons, List.flatMap_nil, List.append_nil]
    rw [hc, h1]
theorem blit_all {α : Type} (xs us : List α) (h : us.length = xs.length) : blit xs 0 us = us := by
  apply List.ext_getElem?
  intro i
  rw [blit_get _ _ _ _ (by omega)]
  split
  · simp
  · rw [List.getElem?_eq_none (by omega), List.getElem?_eq_none (by omega)]
theorem place_one {P : Program} {f : FuncId} {d : Nat} {gs : List G} {st : St} {kt : Nat → List G → G → Prop} {km : G → St → Prop} (h : placeD P d f gs st kt km) :
    (∃ b cs g, kt b cs g ∧ ∀ st2 : St, rng st2 b 0 cs.length = rng st b 0 cs.length → placeP P d f gs st2 fun g' s => g' = g ∧ s = ⟨st2.slots, st2.boxes.modify b (Option.map fun old => blit old 0 cs), st2.rows⟩) ∨ placeP P d f gs st km := by
  unfold placeD at h
  unfold placeP
  simp only [fI_eq] at h ⊢
  cases hq : (seenB st gs).all (fun b => (st.boxes.getD b none).isSome) && (seenR st gs (seenB st gs)).all (fun k => (st.rows.getD k none).isSome) && distinct (seenB st gs) && distinct (seenR st gs (seenB st gs)) with
  | false => rw [hq] at h; exact h.elim
  | true =>
    rw [hq] at h
    simp only [cond_true, fS_eq, fBs_eq, fRs_eq] at h ⊢
    obtain ⟨q, hF, h⟩ := h
    have oth : backP d (seenB st gs) (seenR st gs (seenB st gs)) st q km → (∃ b cs g, kt b cs g ∧ ∀ st2 : St, rng st2 b 0 cs.length = rng st b 0 cs.length → bif (seenB st2 gs).all (fun b => (st2.boxes.getD b none).isSome) && (seenR st2 gs (seenB st2 gs)).all (fun k => (st2.rows.getD k none).isSome) && distinct (seenB st2 gs) && distinct (seenR st2 gs (seenB st2 gs)) then
        ∃ q, Fp P f (gs.map (ren (pos (seenB st2 gs)) (pos (seenR st2 gs (seenB st2 gs))))) ((seenB st2 gs).map fun b => (cellsB st2 b).map (ren0 (pos (seenB st2 gs)) (pos (seenR st2 gs (seenB st2 gs))))) ((seenR st2 gs (seenB st2 gs)).map fun k => (st2.rows.getD k none).getD []) q ∧ backP d (seenB st2 gs) (seenR st2 gs (seenB st2 gs)) st2 q fun g' s => g' = g ∧ s = ⟨st2.slots, st2.boxes.modify b (Option.map fun old => blit old 0 cs), st2.rows⟩
      else False) ∨ ∃ q, Fp P f (gs.map (ren (pos (seenB st gs)) (pos (seenR st gs (seenB st gs))))) ((seenB st gs).map fun b => (cellsB st b).map (ren0 (pos (seenB st gs)) (pos (seenR st gs (seenB st gs))))) ((seenR st gs (seenB st gs)).map fun k => (st.rows.getD k none).getD []) q ∧ backP d (seenB st gs) (seenR st gs (seenB st gs)) st q km := fun h => .inr ⟨q, hF, h⟩
    unfold oneD at h
    split at h
    · rename_i b cs eB eR e1 e2
      cases hl : Nat.beq cs.length (cellsB st b).length with
      | false => rw [hl] at h; exact oth h
      | true =>
        rw [hl] at h
        simp only [cond_true, fL_eq] at h
        have hl := Nat.eq_of_beq_eq_true hl
        refine .inl ⟨b, _, _, h, fun st2 hs => ?_⟩
        rw [eB] at hF hq
        rw [eB] at eR
        rw [eR] at hF hq
        simp only [List.all_cons, List.all_nil, Bool.and_true, Bool.and_eq_true] at hq
        obtain ⟨old, hold⟩ := Option.isSome_iff_exists.1 hq.1.1
        have hcel : cellsB st b = old := by rw [cellsB_eq, hold]; rfl
        have hlen : (cs.map (ren0 (fun i => [b][i]?) (fun i => ([] : List Nat)[i]?))).length = old.length := by rw [List.length_map, hl, hcel]
        unfold rng at hs
        rw [hold, hlen] at hs
        cases hb2 : st2.boxes.getD b none with
        | none => rw [hb2] at hs; simp at hs
        | some old2 =>
          rw [hb2] at hs
          simp only [Option.map_some, List.drop_zero, List.take_length, Option.some.injEq, Prod.mk.injEq] at hs
          have ho : old2 = old := by
            have := hs.1
            rw [← hs.2, List.take_length] at this
            exact this
          subst ho
          have hcel2 : cellsB st2 b = cellsB st b := by rw [cellsB_eq, cellsB_eq, hb2, hold]
          have sB := seenB_one eB hcel2
          have sR : seenR st2 gs [b] = [] := by
            have h0 := eR
            unfold seenR at h0 ⊢
            simp only [List.flatMap_cons, List.flatMap_nil, hcel2] at h0 ⊢
            exact h0
          rw [sB, sR]
          have hsz : b < st2.boxes.length := by
            have hb3 := hb2
            rw [List.getD_eq_getElem?_getD] at hb3
            by_cases hx : b < st2.boxes.length
            · exact hx
            · rw [List.getElem?_eq_none (by omega)] at hb3; simp at hb3
          simp only [List.all_cons, List.all_nil, hb2, Option.isSome_some, Bool.and_true, distinct, List.any_nil, Bool.not_false, cond_true]
          refine ⟨q, ?_, ?_⟩
          · simp only [List.map_cons, List.map_nil, hcel2] at hF ⊢
            exact hF
          · unfold backP
            have i1 : idsOf [b] d st2.slots.length q.2.1.length = [b] := by rw [e1]; rfl
            have i2 : idsOf [] d st2.slots.length q.2.2.length = [] := by rw [e2]; rfl
            rw [i1, i2]
            have hok : backOk [b] [] [b] [] st2 q = true := by
              unfold backOk
              rw [e1, e2]
              have : Nat.blt b st2.boxes.length = true := by rw [Nat.blt_eq]; exact hsz
              simp [distinct, this]
            rw [hok]
            simp only [cond_true, St.force_eq]
            refine ⟨trivial, ?_⟩
            unfold backSt
            simp only [List.foldl_nil, e1, e2, List.map_cons, List.map_nil, List.zip_cons_cons, List.zip_nil_right, setMany, Option.map_some]
            congr 1
            apply List.ext_getElem?
            intro i
            rw [List.getElem?_set, List.getElem?_modify]
            by_cases e : b = i
            · subst e
              have hget : st2.boxes[b]? = some (some old2) := by
                rw [List.getD_eq_getElem?_getD] at hb2
                cases hx : st2.boxes[b]? with
                | none => rw [hx] at hb2; simp at hb2
                | some o => rw [hx] at hb2; simp at hb2; rw [hb2]
              rw [if_pos rfl, if_pos hsz, hget]
              simp only [if_true, Option.map_some, Functor.map]
              rw [blit_all _ _ hlen]
            · rw [if_neg e]
              simp [e]
    · exact oth h
theorem src_mem {st : St} {x : G} {k : List (List G) → Prop} (h : srcP st x k) : ∃ ys, k ys ∧ ∀ st2 : St, st2.rows = st.rows → ∀ k2 : List (List G) → Prop, k2 ys → srcP st2 x k2 := by
  unfold srcP at h
  split at h
  · exact ⟨_, h, fun st2 _ k2 hk => hk⟩
  · exact ⟨_, h, fun st2 _ k2 hk => hk⟩
  · exact ⟨_, h, fun st2 _ k2 hk => hk⟩
  · exact ⟨_, h, fun st2 _ k2 hk => hk⟩
  · split at h
    · rename_i xs hxs; exact ⟨_, h.2, fun st2 e k2 hk => by simp only [srcP, e, hxs]; exact ⟨h.1, hk⟩⟩
    · exact h.elim
  · exact ⟨_, h, fun st2 _ k2 hk => hk⟩
  · exact h.elim
theorem freeRow_mem (st st2 : St) (d : Nat) (s : G) (hs : ∀ kk a b, s ≠ .own kk a b) (e1 : st2.boxes = st.boxes) (e2 : st2.rows = st.rows) (ys : List (List G)) :
    (st2.freeRow d).setRow d ys = ⟨killS (appKills d s st) st2.slots, ((st.freeRow d).setRow d ys).boxes, ((st.freeRow d).setRow d ys).rows⟩ := by
  unfold St.freeRow appKills
  rw [e2]
  cases s with
  | own kk a b => exact absurd rfl (hs kk a b)
  | _ => cases st.rows.getD d none <;> simp [St.setRow, St.killR, killS, e1, e2]
theorem app_mem {P : Program} {d : Nat} {s x : G} {tS tX : TypeId} {st : St} {k : G → St → Prop} (hty : typedG s = false) (h : appP P d s x tS tX st k) :
    ∃ g bs rs, k g ⟨killS (appKills d s st) st.slots, bs, rs⟩ ∧ ∀ st2 : St, st2.boxes = st.boxes → st2.rows = st.rows → st2.slots.length = st.slots.length → appP P d s x tS tX st2 fun g' s' => g' = g ∧ s' = ⟨killS (appKills d s st) st2.slots, bs, rs⟩ := by
  unfold appP at h ⊢
  split at h
  · rename_i e dX hu hX
    cases hq : isInt dX || (P.bytesOf e == 0) || (zeroCells P e).isNone || (P.cellsOf e == 0) || !(Nat.blt d st.rows.length) with
    | true => rw [hq] at h; exact h.elim
    | false =>
      rw [hq] at h
      simp only [cond_false] at h
      obtain ⟨ys, h, q⟩ := src_mem h
      cases hok : okRows (P.cellsOf e) ys with
      | false => rw [hok] at h; exact h.elim
      | true =>
        rw [hok] at h
        simp only [cond_true] at h
        cases s with
        | nils =>
          have e0 := freeRow_mem st st d .nils (fun _ _ _ e => by cases e) rfl rfl ys
          rw [e0] at h
          refine ⟨_, _, _, h.2, fun st2 e1 e2 e3 => ?_⟩
          rw [e2, hq]
          simp only [cond_false]
          refine q st2 e2 _ ?_
          rw [hok]
          exact ⟨h.1, rfl, freeRow_mem st st2 d .nils (fun _ _ _ e => by cases e) e1 e2 ys⟩
        | emp =>
          have e0 := freeRow_mem st st d .emp (fun _ _ _ e => by cases e) rfl rfl ys
          rw [e0] at h
          refine ⟨_, _, _, h.2, fun st2 e1 e2 e3 => ?_⟩
          rw [e2, hq]
          simp only [cond_false]
          refine q st2 e2 _ ?_
          rw [hok]
          exact ⟨h.1, rfl, freeRow_mem st st2 d .emp (fun _ _ _ e => by cases e) e1 e2 ys⟩
        | own kk off len =>
          simp only at h
          split at h
          · rename_i xs hxs
            refine ⟨_, _, _, h.2, fun st2 e1 e2 e3 => ?_⟩
            rw [e2, hq]
            simp only [cond_false]
            refine q st2 e2 _ ?_
            rw [hok]
            simp only [cond_true, e2, hxs]
            exact ⟨h.1, trivial, by simp [St.setRow, St.killR, killS, appKills, e1, e2]⟩
          · exact h.elim
        | nilt => cases hty
        | ownt => cases hty
        | _ => exact h.elim
  · exact h.elim

theorem dcop_sound {P : Program} {ops : Array Oper} {o : Oper} {st : St} {k : Tx → Prop} (h : dcop P (o.looksAt ops) o st k) :
    ∃ t, k t ∧ t.Vals st ∧ (∀ st', t.Same st' st → ∀ d ∈ o.looksAt ops, st'.slots.getD d .junk = st.slots.getD d .junk) ∧ ∀ (st' : St), t.Same st' st → ∀ (C : Cx) (F : Fd) (a : Act) (w : World) (Q : Exit → Act → World → Prop) (K : Act → World → Prop), Inv C F st' a w → (∀ C' a' w', Inv C' F (t.app st') a' w' → K a' w') → o.wp P a w K Q := by
  have val : ∀ (g : G) (rb : Option (Nat × Nat × Nat)) (rr : Bool), (∀ st', (⟨o.dst, g, none, none, o.looksAt ops, rb, rr⟩ : Tr).Same st' st → cop P 0 o st' fun g' s => g' = g ∧ s = st') →
      ∀ (st' : St), (Tx.tr ⟨o.dst, g, none, none, o.looksAt ops, rb, rr⟩ (st.vals (o.looksAt ops))).Same st' st → ∀ (C : Cx) (F : Fd) (a : Act) (w : World) (Q : Exit → Act → World → Prop) (K : Act → World → Prop), Inv C F st' a w → (∀ C' a' w', Inv C' F ((Tx.tr ⟨o.dst, g, none, none, o.looksAt ops, rb, rr⟩ (st.vals (o.looksAt ops))).app st') a' w' → K a' w') → o.wp P a w K Q := fun g rb rr hc st' hs C F a w Q K hi hk =>
    cop_sound (hc st' hs) hi fun v w' ⟨C', g', s, ⟨e1, e2⟩, h2, h3⟩ => by
      subst e1; subst e2
      have := h2.put o.dst h3
      refine hk C' _ _ ?_
      have e : (Tx.tr ⟨o.dst, g', none, none, o.looksAt ops, rb, rr⟩ (st.vals (o.looksAt ops))).app s = s.put o.dst g' := by
        unfold Tx.app Tr.app St.put; cases o.dst <;> rfl
      rw [e]; exact this
  have seen : ∀ tr : Tr, tr.look = o.looksAt ops → (Tx.tr tr (st.vals (o.looksAt ops))).Vals st := fun tr ht i d hd v hv => by
    rw [ht] at hd
    unfold St.vals at hv
    rw [List.getElem?_map, hd] at hv
    exact (Option.some.inj hv).symm
  have all : allP P o st k → ∃ t, k t ∧ t.Vals st ∧ (∀ st', t.Same st' st → ∀ d ∈ o.looksAt ops, st'.slots.getD d .junk = st.slots.getD d .junk) ∧ ∀ (st' : St), t.Same st' st → ∀ (C : Cx) (F : Fd) (a : Act) (w : World) (Q : Exit → Act → World → Prop) (K : Act → World → Prop), Inv C F st' a w → (∀ C' a' w', Inv C' F (t.app st') a' w' → K a' w') → o.wp P a w K Q := fun h => by
    unfold allP at h
    obtain ⟨g, s, h, hq⟩ := cop_pt h
    simp only [St.next_eq, St.force_eq] at h
    refine ⟨.all _, h, trivial, fun st' hs d hd => ?_, fun st' hs C F a w Q K hi hk => ?_⟩
    · have e : st' = st := hs
      rw [e]
    · have e : st' = st := hs
      subst e
      refine cop_sound hq hi fun v w' ⟨C', g', s', ⟨e1, e2⟩, h3, h4⟩ => ?_
      subst e1; subst e2
      exact hk C' _ _ (h3.put o.dst h4)
  unfold dcop at h
  split at h
  · -- load
    rename_i t x hop
    split at h
    · exact h.elim
    · rename_i d hu
      have copeq : ∀ st', cop P 0 o st' (fun g' s => g' = g' ∧ True) = cop P 0 o st' (fun g' s => g' = g' ∧ True) := fun _ => rfl
      split at h
      · rename_i b off hx
        unfold loadP at h
        rw [hu] at h
        simp only at h
        split at h
        · rename_i cs hcs
          cases hle : Nat.ble (off + wide P d t) cs.length with
          | false => rw [hle] at h; exact h.elim
          | true =>
            rw [hle] at h
            simp only [cond_true, fA_eq] at h
            refine ⟨_, h, seen _ rfl, fun st' hs => hs.look, val _ _ _ fun st' hs => ?_⟩
            have hx' : st'.ev x = .ptr b off := by rw [look_ev hs.look x (by rw [hop]; simp [Op.operands]), hx]
            have hr := hs.rb b off (wide P d t) rfl
            unfold rng at hr
            rw [hcs] at hr
            cases hb : st'.boxes.getD b none with
            | none => rw [hb] at hr; cases hr
            | some cs' =>
              rw [hb] at hr
              simp only [Option.map_some, Option.some.injEq, Prod.mk.injEq] at hr
              obtain ⟨r1, r2⟩ := hr
              have e1 : rdC P d t off cs' = rdC P d t off cs := by
                unfold rdC
                unfold wide at r1
                cases ha : aggD d with
                | true => rw [ha] at r1; simp only [cond_true] at r1 ⊢; rw [r1]
                | false =>
                  rw [ha] at r1; simp only [cond_false] at r1 ⊢
                  have := congrArg (fun l => l[0]?) r1
                  simp only [List.getElem?_take, List.getElem?_drop] at this
                  rw [List.getD_eq_getElem?_getD, List.getD_eq_getElem?_getD]
                  simpa using congrArg (fun o => o.getD G.junk) this
              unfold cop
              rw [hop]
              simp only [mop, uop, allocT, xop, vop]
              rw [hx']
              unfold loadP
              rw [hu]
              simp only [hb]
              rw [r2, hle]
              first | exact ⟨e1, rfl⟩ | exact ⟨e1, trivial⟩
        · exact h.elim
      · rename_i row off hx
        unfold loadP at h
        rw [hu] at h
        simp only at h
        cases hle : Nat.ble (off + wide P d t) row.length with
        | false => rw [hle] at h; exact h.elim
        | true =>
          rw [hle] at h
          simp only [cond_true, fA_eq] at h
          refine ⟨_, h, seen _ rfl, fun st' hs => hs.look, val _ _ _ fun st' hs => ?_⟩
          have hx' : st'.ev x = .elt row off := by rw [look_ev hs.look x (by rw [hop]; simp [Op.operands]), hx]
          unfold cop
          rw [hop]
          simp only [mop, uop, allocT, xop, vop]
          rw [hx']
          unfold loadP
          rw [hu]
          simp only
          rw [hle]
          first | exact ⟨rfl, rfl⟩ | exact ⟨trivial, trivial⟩ | exact ⟨rfl, trivial⟩ | trivial
      · rename_i kk i off hx
        unfold loadP at h
        rw [hu] at h
        simp only at h
        split at h
        · rename_i xs hxs
          obtain ⟨row, h1, h⟩ := h
          cases hle : Nat.ble (off + wide P d t) row.length with
          | false => rw [hle] at h; exact h.elim
          | true =>
            rw [hle] at h
            simp only [cond_true, fA_eq] at h
            refine ⟨_, h, seen _ rfl, fun st' hs => hs.look, val _ _ _ fun st' hs => ?_⟩
            have hx' : st'.ev x = .eltw kk i off := by rw [look_ev hs.look x (by rw [hop]; simp [Op.operands]), hx]
            unfold cop
            rw [hop]
            simp only [mop, uop, allocT, xop, vop]
            rw [hx']
            unfold loadP
            rw [hu]
            simp only [hs.rows rfl, hxs]
            refine ⟨row, h1, ?_⟩
            rw [hle]
            first | exact ⟨rfl, rfl⟩ | exact ⟨trivial, trivial⟩ | exact ⟨rfl, trivial⟩ | trivial
        · exact h.elim
      · exact h.elim
  · -- store
    rename_i t p x hop
    split at h
    · rename_i d b off hu hp
      split at h
      · rename_i cs hcs
        cases hc : okReg (st.ev x) && ((st.ev x).cells.length == P.cellsOf t) && Nat.ble (off + P.cellsOf t) cs.length with
        | false => rw [hc] at h; exact h.elim
        | true =>
          rw [hc] at h
          refine ⟨_, h, seen _ rfl, fun st' hs => hs.look, fun st' hs C F a w Q K hi hk => ?_⟩
          have hp' : st'.ev p = .ptr b off := by rw [look_ev hs.look p (by rw [hop]; simp [Op.operands]), hp]
          have hx' : st'.ev x = st.ev x := look_ev hs.look x (by rw [hop]; simp [Op.operands])
          have hw := hs.wr b off _ rfl
          rw [hcs] at hw
          cases hb : st'.boxes.getD b none with
          | none => rw [hb] at hw; cases hw
          | some cs' =>
            rw [hb] at hw
            simp only [Option.map_some, Option.some.injEq] at hw
            have hcop : cop P 0 o st' fun g' s => g' = .junk ∧ s = st'.setBox b (blit cs' off (st.ev x).cells) := by
              unfold cop
              rw [hop]
              simp only [mop, uop, allocT, xop, vop]
              rw [hp', hx']
              unfold storeP
              rw [hu]
              simp only [hb]
              rw [hw, hc]
              first | exact ⟨rfl, rfl⟩ | exact ⟨trivial, trivial⟩ | exact ⟨rfl, trivial⟩ | trivial
            refine cop_sound hcop hi fun v w' ⟨C', g', s, ⟨e1, e2⟩, h2, h3⟩ => ?_
            subst e1; subst e2
            refine hk C' _ _ ?_
            have e : (Tx.tr ⟨o.dst, .junk, some (b, off, (st.ev x).cells), none, o.looksAt ops, none, false⟩ (st.vals (o.looksAt ops))).app st' = (st'.setBox b (blit cs' off (st.ev x).cells)).put o.dst .junk := by
              unfold Tx.app Tr.app St.put St.setBox
              cases o.dst <;> simp only [Inv.setBox_eq hb]
            rw [e]
            exact h2.put o.dst h3
      · exact h.elim
    · exact all h
  · -- alloc
    rename_i t hop
    split at h
    · rename_i d cs hd hz
      cases hc : (Nat.blt d st.boxes.length && Nat.blt d st.slots.length) && (st.boxes.getD d none).isNone && (typedZ cs).isNone with
      | false => rw [hc] at h; exact h.elim
      | true =>
        rw [hc] at h
        refine ⟨_, h, seen _ rfl, fun st' hs => hs.look, fun st' hs C F a w Q K hi hk => ?_⟩
        simp only [Bool.and_eq_true] at hc
        have hn := hs.nb d cs rfl
        have hl := hs.lenB rfl
        have hl2 := hs.lenS
        have hcop : cop P d o st' fun g' s => g' = .ptr d 0 ∧ s = st'.setBox d cs := by
          unfold cop
          rw [hop]
          have htz : typedZ cs = none := by simpa using hc.2
          simp only [mop, uop, allocT, hz, htz, xop, vop]
          rw [hl, hl2, hc.1.1.1, hc.1.1.2, newBox_none (by rw [hn]; exact hc.1.2)]
          first | exact ⟨rfl, rfl⟩ | exact ⟨trivial, trivial⟩ | exact ⟨rfl, trivial⟩ | trivial
        refine cop_sound hcop hi fun v w' ⟨C', g', s, ⟨e1, e2⟩, h2, h3⟩ => ?_
        subst e1; subst e2
        rw [hd]
        exact hk C' _ _ (h2.put (some d) h3)
    · exact h.elim
  · -- box
    rename_i t x hop
    split at h
    · rename_i d hd
      cases hc : (Nat.blt d st.boxes.length && Nat.blt d st.slots.length) && (st.boxes.getD d none).isNone && okReg (st.ev x) with
      | false => rw [hc] at h; exact h.elim
      | true =>
        rw [hc] at h
        refine ⟨_, h, seen _ rfl, fun st' hs => hs.look, fun st' hs C F a w Q K hi hk => ?_⟩
        simp only [Bool.and_eq_true] at hc
        have hn := hs.nb d _ rfl
        have hl := hs.lenB rfl
        have hl2 := hs.lenS
        have hx' : st'.ev x = st.ev x := look_ev hs.look x (by rw [hop]; simp [Op.operands])
        have hcop : cop P d o st' fun g' s => g' = .ptr d 0 ∧ s = st'.setBox d (st.ev x).cells := by
          unfold cop
          rw [hop]
          simp only [mop, uop, allocT, xop, vop]
          rw [hl, hl2, hx', hc.1.1.1, hc.1.1.2, hc.2, newBox_none (by rw [hn]; exact hc.1.2)]
          first | exact ⟨rfl, rfl⟩ | exact ⟨trivial, trivial⟩ | exact ⟨rfl, trivial⟩ | trivial
        refine cop_sound hcop hi fun v w' ⟨C', g', s, ⟨e1, e2⟩, h2, h3⟩ => ?_
        subst e1; subst e2
        rw [hd]
        exact hk C' _ _ (h2.put (some d) h3)
    · exact h.elim
  · -- a call
    rename_i f args ats hop
    split at h
    · rename_i n caps hf
      cases hu : isUns P ats.toList with
      | true => rw [hu] at h; exact all h
      | false =>
      rw [hu] at h
      simp only [cond_false] at h
      rw [fS_eq] at h
      have look : ∀ st' : St, (∀ d ∈ o.looksAt ops, st'.slots.getD d .junk = st.slots.getD d .junk) → st'.ev f = .fn n caps ∧ args.toList.map st'.ev = args.toList.map st.ev := fun st' hl => by
        have hev := look_ev hl
        rw [hop] at hev
        exact ⟨by rw [hev f (by simp [Op.operands, Call.operands]), hf], List.map_congr_left fun x hx => hev x (by simp only [Op.operands, Call.operands, Array.toList_append]; exact List.mem_append_right _ hx)⟩
      have one_case : ∀ (b : Nat) (cs : List G) (g : G), (∀ st2 : St, rng st2 b 0 cs.length = rng st b 0 cs.length → placeP P (o.dst.getD 0) n (args.toList.map st.ev ++ caps) st2 fun g' s => g' = g ∧ s = ⟨st2.slots, st2.boxes.modify b (Option.map fun old => blit old 0 cs), st2.rows⟩) →
          ∀ (st' : St), (⟨o.dst, g, some (b, 0, cs), none, o.looksAt ops, some (b, 0, cs.length), false⟩ : Tr).Same st' st → ∀ (C : Cx) (F : Fd) (a : Act) (w : World) (Q : Exit → Act → World → Prop) (K : Act → World → Prop), Inv C F st' a w →
            (∀ C' a' w', Inv C' F ((⟨o.dst, g, some (b, 0, cs), none, o.looksAt ops, some (b, 0, cs.length), false⟩ : Tr).app st') a' w' → K a' w') → o.wp P a w K Q := fun b cs g h2 st' hs C F a w Q K hi hk => by
        obtain ⟨hf', ha⟩ := look st' hs.look
        have hcop : cop P (o.dst.getD 0) o st' fun g' s => g' = g ∧ s = ⟨st'.slots, st'.boxes.modify b (Option.map fun old => blit old 0 cs), st'.rows⟩ := by
          unfold cop
          rw [hop]
          simp only [hf', hu, cond_false]
          rw [fS_eq, ha]
          unfold callP
          have hp := h2 st' (hs.rb b 0 cs.length rfl)
          cases (args.toList.map st.ev ++ caps).all G.closed
          · exact .inr hp
          · exact .inr hp
        refine cop_sound hcop hi fun v w' ⟨C', g', s, ⟨e1, e2⟩, h3, h4⟩ => ?_
        subst e1; subst e2
        refine hk C' _ _ ?_
        have e : (⟨o.dst, g', some (b, 0, cs), none, o.looksAt ops, some (b, 0, cs.length), false⟩ : Tr).app st' = (⟨st'.slots, st'.boxes.modify b (Option.map fun old => blit old 0 cs), st'.rows⟩ : St).put o.dst g' := by
          unfold Tr.app St.put; cases o.dst <;> rfl
        rw [e]
        exact h3.put o.dst h4
      cases hc : (args.toList.map st.ev ++ caps).all G.closed with
      | false =>
        rw [hc] at h
        simp only [cond_false] at h
        rcases h with h | h
        · obtain ⟨g, h1, q⟩ := lend_pt h
          rw [fA_eq] at h1
          refine ⟨_, h1, seen _ rfl, fun st' hs => hs.look, val _ _ _ fun st' hs => ?_⟩
          obtain ⟨hf', ha⟩ := look st' hs.look
          unfold cop
          rw [hop]
          simp only [hf', hu, cond_false]
          rw [fS_eq, ha]
          unfold callP
          rw [hc]
          exact .inl (q st' (hs.rows rfl) _ ⟨rfl, rfl⟩)
        · rcases place_one h with ⟨b, cs, g, h1, h2⟩ | h
          · rw [fA_eq, fN_eq] at h1
            exact ⟨_, h1, seen _ rfl, fun st' hs => hs.look, one_case b cs g h2⟩
          obtain ⟨g, bs, rs, h1, h2⟩ := place_mem h
          rw [fA_eq] at h1
          refine ⟨_, h1, trivial, fun st' hs => hs.1, fun st' hs C F a w Q K hi hk => ?_⟩
          obtain ⟨s1, s2, s3, s4⟩ := hs
          obtain ⟨hf', ha⟩ := look st' s1
          have hcop : cop P (o.dst.getD 0) o st' fun g' s => g' = g ∧ s = ⟨killS (seenR st (args.toList.map st.ev ++ caps) (seenB st (args.toList.map st.ev ++ caps))) st'.slots, bs, rs⟩ := by
            unfold cop
            rw [hop]
            simp only [hf', hu, cond_false]
            rw [fS_eq, ha]
            unfold callP
            rw [hc]
            exact .inr (h2 st' s2 s3 s4)
          refine cop_sound hcop hi fun v w' ⟨C', g', s, ⟨e1, e2⟩, h3, h4⟩ => ?_
          subst e1; subst e2
          refine hk C' _ _ ?_
          have e : (Tx.mem o.dst g' (o.looksAt ops) (seenR st (args.toList.map st.ev ++ caps) (seenB st (args.toList.map st.ev ++ caps))) bs rs).app st' = (⟨killS (seenR st (args.toList.map st.ev ++ caps) (seenB st (args.toList.map st.ev ++ caps))) st'.slots, bs, rs⟩ : St).put o.dst g' := by
            unfold Tx.app St.put; cases o.dst <;> rfl
          rw [e]
          exact h3.put o.dst h4
      | true =>
        rw [hc] at h
        simp only [cond_true] at h
        rcases h with ⟨g, hF, h⟩ | h
        · cases hg : g.closedR with
          | false => rw [hg] at h; exact h.elim
          | true =>
            rw [hg] at h
            simp only [cond_true, fA_eq] at h
            refine ⟨_, h, seen _ rfl, fun st' hs => hs.look, val _ _ _ fun st' hs => ?_⟩
            obtain ⟨hf', ha⟩ := look st' hs.look
            unfold cop
            rw [hop]
            simp only [hf', hu, cond_false]
            rw [fS_eq, ha]
            unfold callP
            rw [hc]
            refine .inl ⟨g, hF, ?_⟩
            rw [hg]
            first | exact ⟨rfl, rfl⟩ | exact ⟨trivial, trivial⟩ | exact ⟨rfl, trivial⟩ | trivial
        · rcases place_one h with ⟨b, cs, g, h1, h2⟩ | h
          · rw [fA_eq, fN_eq] at h1
            exact ⟨_, h1, seen _ rfl, fun st' hs => hs.look, one_case b cs g h2⟩
          obtain ⟨g, bs, rs, h1, h2⟩ := place_mem h
          rw [fA_eq] at h1
          refine ⟨_, h1, trivial, fun st' hs => hs.1, fun st' hs C F a w Q K hi hk => ?_⟩
          obtain ⟨s1, s2, s3, s4⟩ := hs
          obtain ⟨hf', ha⟩ := look st' s1
          have hcop : cop P (o.dst.getD 0) o st' fun g' s => g' = g ∧ s = ⟨killS (seenR st (args.toList.map st.ev ++ caps) (seenB st (args.toList.map st.ev ++ caps))) st'.slots, bs, rs⟩ := by
            unfold cop
            rw [hop]
            simp only [hf', hu, cond_false]
            rw [fS_eq, ha]
            unfold callP
            rw [hc]
            exact .inr (h2 st' s2 s3 s4)
          refine cop_sound hcop hi fun v w' ⟨C', g', s, ⟨e1, e2⟩, h3, h4⟩ => ?_
          subst e1; subst e2
          refine hk C' _ _ ?_
          have e : (Tx.mem o.dst g' (o.looksAt ops) (seenR st (args.toList.map st.ev ++ caps) (seenB st (args.toList.map st.ev ++ caps))) bs rs).app st' = (⟨killS (seenR st (args.toList.map st.ev ++ caps) (seenB st (args.toList.map st.ev ++ caps))) st'.slots, bs, rs⟩ : St).put o.dst g' := by
            unfold Tx.app St.put; cases o.dst <;> rfl
          rw [e]
          exact h3.put o.dst h4
    · exact h.elim
  · -- an append
    rename_i args ats hop
    split at h
    · rename_i s x tS tX heq ht0 ht1
      cases hty : typedG s with
      | true => rw [hty] at h; exact h.elim
      | false =>
      rw [hty] at h
      simp only [cond_false] at h
      obtain ⟨g, bs, rs, h1, h2⟩ := app_mem hty h
      rw [fA_eq, St.force_eq] at h1
      refine ⟨_, h1, trivial, fun st' hs => hs.1, fun st' hs C F a w Q K hi hk => ?_⟩
      obtain ⟨s1, s2, s3, s4⟩ := hs
      have hev := look_ev s1
      rw [hop] at hev
      have ha : args.toList.map st'.ev = args.toList.map st.ev := List.map_congr_left fun x hx => hev x (by simp only [Op.operands, Call.operands, Array.toList_append]; exact List.mem_append_right _ hx)
      have hcop : cop P (o.dst.getD 0) o st' fun g' s' => g' = g ∧ s' = ⟨killS (appKills (o.dst.getD 0) s st) st'.slots, bs, rs⟩ := by
        unfold cop
        rw [hop]
        simp only [ha, heq, ht0, ht1]
        exact h2 st' s2 s3 s4
      refine cop_sound hcop hi fun v w' ⟨C', g', s', ⟨e1, e2⟩, h3, h4⟩ => ?_
      subst e1; subst e2
      refine hk C' _ _ ?_
      have e : (Tx.mem o.dst g' (o.looksAt ops) (appKills (o.dst.getD 0) s st) bs rs).app st' = (⟨killS (appKills (o.dst.getD 0) s st) st'.slots, bs, rs⟩ : St).put o.dst g' := by
        unfold Tx.app St.put; cases o.dst <;> rfl
      rw [e]
      exact h3.put o.dst h4
    · exact h.elim
  · -- a row's data
    rename_i args ats hop
    have key : ∃ g, k (.tr ⟨o.dst, g, none, none, o.looksAt ops, none, false⟩ (st.vals (o.looksAt ops))) ∧ dataT (args.toList.map st.ev) fun g' => g' = g := by
      unfold dataT at h ⊢
      split at h
      · rw [fA_eq] at h; exact ⟨_, h, rfl⟩
      · rw [fA_eq] at h; exact ⟨_, h, rfl⟩
      · exact h.elim
    obtain ⟨g, h1, h2⟩ := key
    refine ⟨_, h1, seen _ rfl, fun st' hs => hs.look, val _ _ _ fun st' hs => ?_⟩
    have hev := look_ev hs.look
    rw [hop] at hev
    have ha : args.toList.map st'.ev = args.toList.map st.ev := List.map_congr_left fun x hx => hev x (by simp only [Op.operands, Call.operands, Array.toList_append]; exact List.mem_append_right _ hx)
    unfold cop
    rw [hop]
    simp only [mop, uop, ha]
    unfold dataT at h2 ⊢
    split at h2
    · first | exact ⟨h2, rfl⟩ | exact ⟨h2, trivial⟩
    · first | exact ⟨h2, rfl⟩ | exact ⟨h2, trivial⟩
    · exact h2.elim
  · -- what computes alone, and all else
    rename_i op hn1 hn2 hn3 hn4 hn5 hn6 hn7
    cases hpb : pureOp o.op && !(bldB o) with
    | false => rw [hpb] at h; exact all h
    | true =>
      rw [hpb] at h
      simp only [Bool.and_eq_true, Bool.not_eq_true'] at hpb
      obtain ⟨hp, hbb⟩ := hpb
      simp only [cond_true, fA_eq] at h
      obtain ⟨g, h1, h2⟩ := xop_det hp h
      refine ⟨_, h1, seen _ rfl, fun st' hs => hs.look, val _ _ _ fun st' hs => ?_⟩
      have := h2 0 st' hs.rows (look_ev hs.look) (fun g' s => g' = g ∧ s = st') (by first | exact ⟨rfl, rfl⟩ | trivial)
      unfold cop
      split
      · rename_i hop; exact absurd hop (hn5 _ _ _)
      · rename_i hop; rw [hop] at hp; simp [pureOp] at hp
      · rename_i hop
        rw [hbb]
        rw [hop] at hp this
        exact uop_of_xop hp this
      · exact mop_of_uop hp (uop_of_xop hp this)
end Go.Proofs.YtcihkmnolagdlaaDoor.Av
