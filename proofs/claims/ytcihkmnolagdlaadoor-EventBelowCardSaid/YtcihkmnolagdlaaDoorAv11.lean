/- Operations that compute alone answer alike where their operands read alike. No condition. -/
import Derived.Test.YtcihkmnolagdlaaDoorAv10
namespace Go.Proofs.YtcihkmnolagdlaaDoor.Av
open Go Go.RowKit
set_option linter.unusedVariables false
set_option linter.unusedSimpArgs false

def pureOp : Op → Bool
  | .move _ | .assign _ | .pick .. | .binOp .. | .unOp .. | .build .. | .fieldAddr .. | .field .. | .indexAddr .. | .index .. | .extract .. | .nilCheck _ | .convert .. | .slice .. | .makeInterface .. => true
  | .makeFunc .. => true
  | .buildSlice .. => true
  | .call { callee := .builtin .len, .. } | .call { callee := .builtin .min, .. } | .call { callee := .builtin .max, .. } => true
  | _ => false
def Det (X : (G → Prop) → Prop) : Prop := ∀ K, X K → ∃ g, K g ∧ ∀ K', K' g → X K'
theorem arithP_det (op : BinOp) (k : IntKind) (m n : Int) : Det (arithP op k m n) := fun K h => by
  cases op <;> simp only [arithP] at h ⊢ <;> first
    | exact ⟨_, h, fun K' h' => h'⟩
    | exact h.elim
    | (cases hb : (n == 0) with
       | true => rw [hb] at h; exact h.elim
       | false => rw [hb] at h; exact ⟨_, h, fun K' h' => h'⟩)
theorem strP_det (op : BinOp) (x y : ByteArray) : Det (strP op x y) := fun K h => by
  cases op <;> simp only [strP] at h ⊢ <;> first
    | exact ⟨_, h.2, fun K' h' => ⟨h.1, h'⟩⟩
    | exact ⟨_, h, fun K' h' => h'⟩
    | exact h.elim
theorem binP_det (P : Program) (op : BinOp) (t : TypeId) (x y : G) : Det (binP P op t x y) := fun K h => by
  unfold binP at h
  split at h
  · split at h
    · rename_i k m k' n opx
      cases hb : decide (n < 0) with
      | true => rw [hb] at h; exact h.elim
      | false => rw [hb] at h; exact ⟨_, h, fun K' h' => by simp only [binP]; rw [hb]; exact h'⟩
    · rename_i k m k' n opx
      cases hb : decide (n < 0) with
      | true => rw [hb] at h; exact h.elim
      | false => rw [hb] at h; exact ⟨_, h, fun K' h' => by simp only [binP]; rw [hb]; exact h'⟩
    · split at h
      · rename_i k m k' n h1 h2 e
        obtain ⟨g, h3, h4⟩ := arithP_det _ _ _ _ K h
        refine ⟨g, h3, fun K' h' => ?_⟩
        unfold binP
        cases op <;> first | exact absurd rfl h1 | exact absurd rfl h2 | (simp only [e, if_true]; rw [← e]; exact h4 K' h')
      · exact h.elim
  · obtain ⟨g, h3, h4⟩ := strP_det _ _ _ K h
    exact ⟨g, h3, fun K' h' => h4 K' h'⟩
  · split at h
    · rename_i e; exact ⟨_, h, fun K' h' => by simp only [binP, e]; exact h'⟩
    · rename_i e; exact ⟨_, h, fun K' h' => by simp only [binP, e]; exact h'⟩
    · exact h.elim
  · obtain ⟨c1, h⟩ := h
    split at h
    · exact h.elim
    · rename_i c2
      split at h
      · rename_i e; exact ⟨_, h, fun K' h' => by simp only [binP]; refine ⟨c1, ?_⟩; rw [if_neg c2]; simp only [e]; exact h'⟩
      · rename_i e; exact ⟨_, h, fun K' h' => by simp only [binP]; refine ⟨c1, ?_⟩; rw [if_neg c2]; simp only [e]; exact h'⟩
      · exact h.elim
  · exact h.elim
theorem unP_det (op : UnOp) (x : G) : Det (unP op x) := fun K h => by
  unfold unP at h
  split at h
  · exact ⟨_, h, fun K' h' => h'⟩
  · exact ⟨_, h, fun K' h' => h'⟩
  · exact h.elim
theorem boundP_det (x : Option G) (d : Nat) (K : Nat → Int → Prop) (h : boundP x d K) : ∃ n z, K n z ∧ ∀ K' : Nat → Int → Prop, K' n z → boundP x d K' := by
  unfold boundP at h
  split at h
  · exact ⟨_, _, h, fun K' h' => h'⟩
  · exact ⟨_, _, h, fun K' h' => h'⟩
  · exact h.elim

theorem buildCells_congr {pl : Nat → Option (Nat × Nat)} {st st' : St} : ∀ (parts : List (Nat × Operand)) (cs : List G), (∀ p ∈ parts, st'.ev p.2 = st.ev p.2) → buildCells pl st' cs parts = buildCells pl st cs parts
  | [], cs, h => rfl
  | (i, x) :: parts, cs, h => by
    unfold buildCells
    have hx := h (i, x) (by simp)
    simp only at hx
    rw [hx]
    cases pl i with
    | none => rfl
    | some q =>
      obtain ⟨o, n⟩ := q
      simp only
      split
      · rw [fL_eq, fL_eq]; exact buildCells_congr parts _ (fun p hp => h p (by simp [hp]))
      · rfl

/-- Operations that look at own rows. -/
def isOwn : G → Bool
  | .own .. => true
  | _ => false
def ownOp (st : St) : Op → Bool
  | .indexAddr _ x _ => isOwn (st.ev x)
  | .slice _ x .. => isOwn (st.ev x)
  | .convert _ _ x => isOwn (st.ev x)
  | _ => false
theorem vop_det {P : Program} {d : Nat} {op : Op} {st : St} {k : G → St → Prop} (hp : pureOp op = true) (h : vop P d op st k) :
    ∃ g, k g st ∧ ∀ (d' : Nat) (st' : St), (ownOp st op = true → st'.rows = st.rows) → (∀ x ∈ op.operands.toList, st'.ev x = st.ev x) → ∀ (k' : G → St → Prop), k' g st' → vop P d' op st' k' := by
  cases op with
  | move x => exact ⟨_, h, fun d' st' hr he k' h' => by simp only [vop]; rw [he x (by simp [Op.operands])]; exact h'⟩
  | assign x => exact ⟨_, h, fun d' st' hr he k' h' => by simp only [vop]; rw [he x (by simp [Op.operands])]; exact h'⟩
  | pick c x y =>
    simp only [vop] at h
    cases hc : st.ev c with
    | bool t =>
      rw [hc] at h
      cases t with
      | true => exact ⟨_, h, fun d' st' hr he k' h' => by simp only [vop]; rw [he c (by simp [Op.operands]), hc, he x (by simp [Op.operands])]; exact h'⟩
      | false => exact ⟨_, h, fun d' st' hr he k' h' => by simp only [vop]; rw [he c (by simp [Op.operands]), hc, he y (by simp [Op.operands])]; exact h'⟩
    | _ => rw [hc] at h; exact h.elim
  | binOp b t x y yt =>
    simp only [vop] at h
    obtain ⟨g, h1, h2⟩ := binP_det P b t _ _ _ h
    exact ⟨g, h1, fun d' st' hr he k' h' => by simp only [vop]; rw [he x (by simp [Op.operands]), he y (by simp [Op.operands])]; exact h2 _ h'⟩
  | unOp u t x =>
    simp only [vop] at h
    obtain ⟨g, h1, h2⟩ := unP_det u _ _ h
    exact ⟨g, h1, fun d' st' hr he k' h' => by simp only [vop]; rw [he x (by simp [Op.operands])]; exact h2 _ h'⟩
  | build t parts =>
    simp only [vop] at h
    split at h
    · rename_i fs cs e1 e2
      cases hb : fs.toList.all (fun f => (P.info? f.type).isSome) with
      | false => rw [hb] at h; exact h.elim
      | true =>
        rw [hb] at h
        simp only [cond_true] at h
        split at h
        · rename_i gs e3
          refine ⟨_, h, fun d' st' hr he k' h' => ?_⟩
          simp only [vop, e1, e2, hb, cond_true]
          rw [buildCells_congr (st := st) parts.toList cs (fun p hp => he p.2 (by simp only [Op.operands]; simp; exact ⟨p.1, by simpa using hp⟩)), e3]
          exact h'
        · exact h.elim
    · rename_i n e cs e1 e2
      cases hb : (P.info? e).isSome with
      | false => rw [hb] at h; exact h.elim
      | true =>
        rw [hb] at h
        simp only [cond_true] at h
        split at h
        · rename_i gs e3
          refine ⟨_, h, fun d' st' hr he k' h' => ?_⟩
          simp only [vop, e1, e2, hb, cond_true]
          rw [buildCells_congr (st := st) parts.toList cs (fun p hp => he p.2 (by simp only [Op.operands]; simp; exact ⟨p.1, by simpa using hp⟩)), e3]
          exact h'
        · exact h.elim
    · exact h.elim
  | buildSlice t len parts =>
    simp only [vop] at h
    split at h
    · rename_i e e1
      split at h
      · rename_i zc e2
        cases hb : (P.cellsOf e == 0) || !(Nat.ble (len * P.cellsOf e) 16777216) with
        | true => rw [hb] at h; exact h.elim
        | false =>
          rw [hb] at h
          simp only [cond_false] at h
          split at h
          · rename_i gs e3
            cases hc : gs.all G.closed0 with
            | false => rw [hc] at h; exact h.elim
            | true =>
              rw [hc] at h
              simp only [cond_true, fLL_eq] at h
              refine ⟨_, h, fun d' st' hr he k' h' => ?_⟩
              simp only [vop, e1, e2, hb, cond_false]
              rw [buildCells_congr (st := st) parts.toList _ (fun p hp => he p.2 (by simp only [Op.operands]; simp; exact ⟨p.1, by simpa using hp⟩)), e3]
              simp only [hc, cond_true, fLL_eq]
              exact h'
          · exact h.elim
      · exact h.elim
    · exact h.elim
  | fieldAddr s x f =>
    simp only [vop] at h
    split at h
    · rename_i fl e1
      cases hb : (P.cellsOf fl.type == 0) || (P.info? fl.type).isNone with
      | true => rw [hb] at h; exact h.elim
      | false =>
        rw [hb] at h
        simp only [cond_false] at h
        split at h
        all_goals first
          | exact h.elim
          | (rename_i e2
             exact ⟨_, h, fun d' st' hr he k' h' => by simp only [vop, e1, hb, cond_false]; rw [he x (by simp [Op.operands]), e2]; exact h'⟩)
    · exact h.elim
  | field t x f =>
    simp only [vop] at h
    split at h
    · rename_i fl gs e1 e2
      split at h
      · rename_i dd e3
        cases hb : Nat.ble (fl.offset + wide P dd fl.type) gs.length with
        | false => rw [hb] at h; exact h.elim
        | true =>
          rw [hb] at h
          exact ⟨_, h, fun d' st' hr he k' h' => by simp only [vop, e1]; rw [he x (by simp [Op.operands]), e2]; simp only [e3, hb]; exact h'⟩
      · exact h.elim
    · exact h.elim
  | indexAddr t x i =>
    simp only [vop] at h
    split at h
    · rename_i e xs kd n e1 e2 e3
      obtain ⟨row, h1, h⟩ := h
      cases hb : (row.length == P.cellsOf e) && (P.info? e).isSome with
      | false => rw [hb] at h; exact h.elim
      | true =>
        rw [hb] at h
        exact ⟨_, h, fun d' st' hr he k' h' => by simp only [vop, e1]; rw [he x (by simp [Op.operands]), he i (by simp [Op.operands]), e2, e3]; exact ⟨row, h1, by rw [hb]; exact h'⟩⟩
    · rename_i e kk off len kd n e1 e2 e3
      split at h
      · rename_i xs e4
        obtain ⟨row, h1, h⟩ := h
        cases hb : (row.length == P.cellsOf e) && (P.info? e).isSome with
        | false => rw [hb] at h; exact h.elim
        | true =>
          rw [hb] at h
          exact ⟨_, h, fun d' st' hr he k' h' => by simp only [vop, e1]; rw [he x (by simp [Op.operands]), he i (by simp [Op.operands]), e2, e3]; simp only [hr (by show isOwn (st.ev x) = true; rw [e2]; rfl), e4]; exact ⟨row, h1, by rw [hb]; exact h'⟩⟩
      · exact h.elim
    · rename_i len e b off kd n e1 e2 e3
      obtain ⟨h1, h⟩ := h
      cases hb : (P.info? e).isSome with
      | false => rw [hb] at h; exact h.elim
      | true =>
        rw [hb] at h
        exact ⟨_, h, fun d' st' hr he k' h' => by simp only [vop, e1]; rw [he x (by simp [Op.operands]), he i (by simp [Op.operands]), e2, e3]; exact ⟨h1, by rw [hb]; exact h'⟩⟩
    · exact h.elim
  | index t x i =>
    simp only [vop] at h
    split at h
    · rename_i s kd n e1 e2 e3
      exact ⟨_, h.2, fun d' st' hr he k' h' => by simp only [vop, e1]; rw [he x (by simp [Op.operands]), he i (by simp [Op.operands]), e2, e3]; exact ⟨h.1, h'⟩⟩
    · rename_i len e gs kd n e1 e2 e3
      split at h
      · rename_i dd e4
        cases hb : (gs.length == len * P.cellsOf e) && (wide P dd e == P.cellsOf e) with
        | false => rw [hb] at h; exact h.elim
        | true =>
          rw [hb] at h
          exact ⟨_, h.2, fun d' st' hr he k' h' => by simp only [vop, e1]; rw [he x (by simp [Op.operands]), he i (by simp [Op.operands]), e2, e3]; simp only [e4, hb]; exact ⟨h.1, h'⟩⟩
      · exact h.elim
    · exact h.elim
  | extract x i =>
    simp only [vop] at h
    split at h
    · rename_i gs e1
      split at h
      · rename_i g e2
        exact ⟨_, h, fun d' st' hr he k' h' => by simp only [vop]; rw [he x (by simp [Op.operands]), e1]; simp only [e2]; exact h'⟩
      · exact h.elim
    · exact h.elim
  | nilCheck x =>
    simp only [vop] at h
    split at h
    all_goals first
      | exact h.elim
      | (rename_i e1
         exact ⟨_, h, fun d' st' hr he k' h' => by simp only [vop]; rw [he x (by simp [Op.operands]), e1]; exact h'⟩)
  | convert s t x =>
    simp only [vop] at h
    split at h
    · rename_i e1 e2 e3
      exact ⟨_, h, fun d' st' hr he k' h' => by simp only [vop, e1, e2]; rw [he x (by simp [Op.operands]), e3]; exact h'⟩
    · rename_i e1 e2 e3
      exact ⟨_, h, fun d' st' hr he k' h' => by simp only [vop, e1, e2]; rw [he x (by simp [Op.operands]), e3]; exact h'⟩
    · exact h.elim
  | slice t x lo hi mx =>
    cases mx with
    | some _ => simp [vop] at h
    | none =>
      have mapeq : ∀ (st' : St) (o : Option Operand), (∀ y, o = some y → st'.ev y = st.ev y) → o.map st'.ev = o.map st.ev := fun st' o ho => by
        cases o with
        | none => rfl
        | some y => simp [ho y rfl]
      simp only [vop] at h
      split at h
      · rename_i s e1 e2
        obtain ⟨hh, hz, h, d1⟩ := boundP_det _ _ _ h
        obtain ⟨l, lz, h, d2⟩ := boundP_det _ _ _ h
        refine ⟨_, h.2, fun d' st' hr he k' h' => ?_⟩
        simp only [vop, e1]
        rw [he x (by simp [Op.operands]), e2, mapeq st' hi (fun y hy => he y (by subst hy; simp [Op.operands])), mapeq st' lo (fun y hy => he y (by subst hy; simp [Op.operands]))]
        exact d1 _ (d2 _ ⟨h.1, h'⟩)
      · rename_i e xs e1 e2
        cases hb : (P.info? e).isNone with
        | true => rw [hb] at h; exact h.elim
        | false =>
          rw [hb] at h
          simp only [cond_false] at h
          obtain ⟨hh, hz, h, d1⟩ := boundP_det _ _ _ h
          obtain ⟨l, lz, h, d2⟩ := boundP_det _ _ _ h
          refine ⟨_, h.2, fun d' st' hr he k' h' => ?_⟩
          simp only [vop, e1]
          rw [he x (by simp [Op.operands]), e2, mapeq st' hi (fun y hy => he y (by subst hy; simp [Op.operands])), mapeq st' lo (fun y hy => he y (by subst hy; simp [Op.operands]))]
          simp only [hb, cond_false]
          exact d1 _ (d2 _ ⟨h.1, h'⟩)
      · exact h.elim
  | makeFunc fn first caps =>
    cases fn with
    | func f =>
      simp only [vop] at h
      have e1 : ∀ st' : St, (∀ x ∈ (Op.makeFunc (.func f) first caps).operands.toList, st'.ev x = st.ev x) → caps.toList.map st'.ev = caps.toList.map st.ev := fun st' he => List.map_congr_left fun x hx => he x (by simp only [Op.operands, Array.toList_append]; exact List.mem_append_right _ hx)
      have f1 : ∀ st' : St, (∀ x ∈ (Op.makeFunc (.func f) first caps).operands.toList, st'.ev x = st.ev x) → first.toList.map st'.ev = first.toList.map st.ev := fun st' he => List.map_congr_left fun x hx => he x (by simp only [Op.operands, Array.toList_append]; exact List.mem_append_left _ hx)
      have e2 : ∀ st' : St, (∀ x ∈ (Op.makeFunc (.func f) first caps).operands.toList, st'.ev x = st.ev x) → caps.toList.all (fun x => okReg (st'.ev x)) = caps.toList.all (fun x => okReg (st.ev x)) := fun st' he => by
        have := congrArg (fun l => l.all okReg) (e1 st' he)
        simpa [List.all_map, Function.comp_def] using this
      have f2 : ∀ st' : St, (∀ x ∈ (Op.makeFunc (.func f) first caps).operands.toList, st'.ev x = st.ev x) → first.toList.all (fun x => okReg (st'.ev x)) = first.toList.all (fun x => okReg (st.ev x)) := fun st' he => by
        have := congrArg (fun l => l.all okReg) (f1 st' he)
        simpa [List.all_map, Function.comp_def] using this
      cases hb : first.isEmpty && caps.toList.all (fun x => okReg (st.ev x)) with
      | false =>
        rw [hb] at h
        simp only [cond_false] at h
        cases hb2 : caps.isEmpty && first.toList.all (fun x => okReg (st.ev x)) with
        | false => rw [hb2] at h; exact False.elim h
        | true =>
          rw [hb2] at h
          refine ⟨_, h, fun d' st' hr he k' h' => ?_⟩
          simp only [vop]
          rw [e2 st' he, hb, f2 st' he, hb2, f1 st' he]
          exact h'
      | true =>
        rw [hb] at h
        refine ⟨_, h, fun d' st' hr he k' h' => ?_⟩
        simp only [vop]
        rw [e2 st' he, hb, e1 st' he]
        exact h'
    | _ => simp [vop] at h
  | makeInterface t x =>
    simp only [vop] at h
    split at h
    · rename_i e1 e2
      exact ⟨_, h, fun d' st' hr he k' h' => by simp only [vop, e1]; rw [he x (by simp [Op.operands]), e2]; exact h'⟩
    · rename_i e1 e2
      exact ⟨_, h, fun d' st' hr he k' h' => by simp only [vop, e1]; rw [he x (by simp [Op.operands]), e2]; exact h'⟩
    · exact h.elim
  | call c =>
    obtain ⟨callee, args, ats⟩ := c
    cases callee with
    | builtin b =>
      have e0 : ∀ st' : St, (∀ x ∈ (Op.call ⟨.builtin b, args, ats⟩).operands.toList, st'.ev x = st.ev x) → args.toList.map st'.ev = args.toList.map st.ev := fun st' he =>
        List.map_congr_left fun x hx => he x (by simp only [Op.operands, Call.operands, Array.toList_append]; exact List.mem_append_right _ hx)
      simp only [vop] at h
      split at h
      · rename_i x e1
        split at h
        · rename_i t e2
          split at h
          · rename_i dd e3
            split at h
            · rename_i n e4
              cases hb : isStrOrSl dd x with
              | false => rw [hb] at h; exact h.elim
              | true =>
                rw [hb] at h
                exact ⟨_, h, fun d' st' hr he k' h' => by simp only [vop]; rw [e0 st' he, e1]; simp only [e2, e3, e4, hb]; exact h'⟩
            · exact h.elim
          · exact h.elim
        · exact h.elim
      · rename_i x xs e1
        split at h
        · rename_i g e2
          exact ⟨_, h, fun d' st' hr he k' h' => by simp only [vop]; rw [e0 st' he, e1]; simp only [e2]; exact h'⟩
        · exact h.elim
      · rename_i x xs e1
        split at h
        · rename_i g e2
          exact ⟨_, h, fun d' st' hr he k' h' => by simp only [vop]; rw [e0 st' he, e1]; simp only [e2]; exact h'⟩
        · exact h.elim
      · exact h.elim
    | _ => simp [vop] at h
  | _ => simp [pureOp] at hp
theorem boundP_map {st st' : St} {o : Option Operand} (h : ∀ y, o = some y → st'.ev y = st.ev y) : o.map st'.ev = o.map st.ev := by
  cases o with
  | none => rfl
  | some y => simp [h y rfl]
theorem xop_det {P : Program} {d : Nat} {op : Op} {st : St} {k : G → St → Prop} (hp : pureOp op = true) (h : xop P d op st k) :
    ∃ g, k g st ∧ ∀ (d' : Nat) (st' : St), (ownOp st op = true → st'.rows = st.rows) → (∀ x ∈ op.operands.toList, st'.ev x = st.ev x) → ∀ (k' : G → St → Prop), k' g st' → xop P d' op st' k' := by
  unfold xop at h
  split at h
  · simp [pureOp] at hp
  · simp [pureOp] at hp
  · rename_i t x lo hi
    split at h
    · rename_i kk off len hx
      unfold sliceO at h
      split at h
      · rename_i e xs hu hxs
        cases hin : (P.info? e).isNone with
        | true => rw [hin] at h; exact h.elim
        | false =>
          rw [hin] at h
          simp only [cond_false] at h
          obtain ⟨hh, hz, h, d1⟩ := boundP_det _ _ _ h
          obtain ⟨l, lz, h, d2⟩ := boundP_det _ _ _ h
          refine ⟨_, h.2, fun d' st' hr he k' h' => ?_⟩
          unfold xop
          simp only [he x (by simp [Op.operands]), hx]
          unfold sliceO
          rw [hu, hr (by show isOwn (st.ev x) = true; rw [hx]; rfl), hxs]
          simp only [hin, cond_false]
          rw [boundP_map (o := hi) (fun y hy => he y (by subst hy; simp [Op.operands])), boundP_map (o := lo) (fun y hy => he y (by subst hy; simp [Op.operands]))]
          exact d1 _ (d2 _ ⟨h.1, h'⟩)
      · exact h.elim
    · rename_i hx
      obtain ⟨g, h1, h2⟩ := vop_det rfl h
      refine ⟨g, h1, fun d' st' hr he k' h' => ?_⟩
      unfold xop
      simp only [he x (by simp [Op.operands])]
      first
      | exact h2 d' st' hr he k' h'
      | (split
         · rename_i kk off len e; exact absurd e (hx kk off len)
         · exact h2 d' st' hr he k' h')
  · rename_i t x hh m
    unfold cutP at h
    split at h
    · rename_i e k1 hn k2 mn g hu e1 e2 hg
      cases hi : (P.info? e).isSome with
      | false => rw [hi] at h; exact h.elim
      | true =>
        rw [hi] at h
        refine ⟨_, h.2, fun d' st' hr he k' h' => ?_⟩
        unfold xop cutP
        simp only [he x (by simp [Op.operands]), he hh (by simp [Op.operands]), he m (by simp [Op.operands]), hu, e1, e2, hg, hi]
        exact ⟨h.1, h'⟩
    · exact h.elim
  · rename_i t
    unfold noneP at h
    split at h
    · rename_i e hu
      cases hi : (P.info? e).isSome with
      | false => rw [hi] at h; exact h.elim
      | true =>
        rw [hi] at h
        refine ⟨_, h, fun d' st' hr he k' h' => ?_⟩
        unfold xop noneP
        simp only [hu, hi]
        exact h'
    · exact h.elim
  · rename_i src dst x
    cases hn : isNum (st.ev x) with
    | true =>
      rw [hn] at h
      simp only [cond_true] at h
      obtain ⟨g, h1, h2⟩ := vop_det rfl h
      refine ⟨g, h1, fun d' st' hr he k' h' => ?_⟩
      unfold xop
      simp only [he x (by simp [Op.operands]), hn, cond_true]
      exact h2 d' st' hr he k' h'
    | false =>
      rw [hn] at h
      simp only [cond_false] at h
      unfold bytesP at h
      split at h
      · rename_i e hu hd
        split at h
        · rename_i he0
          have key : ∃ ys, (∃ bs : List UInt8, ys = bs.map (fun b => [G.int .u8 b.toNat]) ∧ k (.str ⟨bs.toArray⟩) st) ∧ ∀ (st' : St), (isOwn (st.ev x) = true → st'.rows = st.rows) → ∀ k2 : List (List G) → Prop, k2 ys → srcP st' (st.ev x) k2 := by
            unfold srcP at h
            split at h
            · rename_i e1; exact ⟨_, h, fun st' _ k2 hk => by rw [e1]; exact hk⟩
            · rename_i e1; exact ⟨_, h, fun st' _ k2 hk => by rw [e1]; exact hk⟩
            · rename_i e1; exact ⟨_, h, fun st' _ k2 hk => by rw [e1]; exact hk⟩
            · rename_i e1; exact ⟨_, h, fun st' _ k2 hk => by rw [e1]; exact hk⟩
            · rename_i e1
              split at h
              · rename_i e2; exact ⟨_, h.2, fun st' hr k2 hk => by rw [e1]; simp only [srcP, hr (by rw [e1]; rfl), e2]; exact ⟨h.1, hk⟩⟩
              · exact h.elim
            · rename_i e1; exact ⟨_, h, fun st' _ k2 hk => by rw [e1]; exact hk⟩
            · exact h.elim
          obtain ⟨ys, ⟨bs, hbs, h⟩, hq⟩ := key
          refine ⟨_, h, fun d' st' hr he k' h' => ?_⟩
          unfold xop
          simp only [he x (by simp [Op.operands]), hn, cond_false]
          unfold bytesP
          simp only [hu, hd, he0]
          exact hq st' hr _ ⟨bs, hbs, h'⟩
        · exact h.elim
      · exact h.elim
  · rename_i t x y yt
    split at h
    · rename_i b hb
      exact ⟨_, h, fun d' st' hr he k' h' => by unfold xop; simp only [he x (by simp [Op.operands]), he y (by simp [Op.operands]), hb]; exact h'⟩
    · rename_i hb
      obtain ⟨g, h1, h2⟩ := vop_det rfl h
      exact ⟨g, h1, fun d' st' hr he k' h' => by unfold xop; simp only [he x (by simp [Op.operands]), he y (by simp [Op.operands]), hb]; exact h2 d' st' hr he k' h'⟩
  · rename_i t x y yt
    split at h
    · rename_i b hb
      exact ⟨_, h, fun d' st' hr he k' h' => by unfold xop; simp only [he x (by simp [Op.operands]), he y (by simp [Op.operands]), hb]; exact h'⟩
    · rename_i hb
      obtain ⟨g, h1, h2⟩ := vop_det rfl h
      exact ⟨g, h1, fun d' st' hr he k' h' => by unfold xop; simp only [he x (by simp [Op.operands]), he y (by simp [Op.operands]), hb]; exact h2 d' st' hr he k' h'⟩
  · rename_i n1 n2 n3 n4 n5 n6 n7 n8
    obtain ⟨g, h1, h2⟩ := vop_det hp h
    refine ⟨g, h1, fun d' st' hr he k' h' => ?_⟩
    unfold xop
    split
    · exact absurd rfl (n1 _ _ _)
    · exact absurd rfl (n2 _ _ _)
    · exact absurd rfl (n3 _ _ _ _)
    · exact absurd rfl (n4 _ _ _ _)
    · exact absurd rfl (n5 _)
    · exact absurd rfl (n6 _ _ _)
    · exact absurd rfl (n7 _ _ _ _)
    · exact absurd rfl (n8 _ _ _ _)
    · exact h2 d' st' hr he k' h'
end Go.Proofs.YtcihkmnolagdlaaDoor.Av
