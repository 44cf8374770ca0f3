/- A region whose order is drawn: what its operations do one behind the other, and a look that those that no edge binds meet nowhere. No condition. -/
import Derived.Test.YteioecdfimphaaaAv11
namespace Go.Proofs.Yteioecdfimphaaa.Av
open Go Go.RowKit
set_option linter.unusedVariables false
set_option linter.unusedSimpArgs false

def foldI (T : Nat → Tr) (l : List Nat) (st : St) : St := l.foldl (fun s i => (T i).app s) st
theorem foldI_cons (T : Nat → Tr) (j : Nat) (l : List Nat) (st : St) : foldI T (j :: l) st = foldI T l ((T j).app st) := rfl
theorem foldI_append (T : Nat → Tr) (l m : List Nat) (st : St) : foldI T (l ++ m) st = foldI T m (foldI T l st) := by simp [foldI]
theorem foldI_same (T : Nat → Tr) (t : Tr) : ∀ (l : List Nat) (s s' : St), t.Same s s' → t.Same (foldI T l s) (foldI T (l.filter fun j => !t.away (T j)) s')
  | [], s, s', h => h
  | j :: l, s, s', h => by
    rw [foldI_cons]
    cases hj : t.away (T j) with
    | true =>
      rw [List.filter_cons_of_neg (by simp [hj])]
      exact foldI_same T t l _ _ ((Tr.away_same hj s (fun _ _ _ => trivial)).trans h)
    | false =>
      rw [List.filter_cons_of_pos (by simp [hj]), foldI_cons]
      exact foldI_same T t l _ _ (h.app (T j))

/-- i is bound ahead of j. -/
inductive Anc (ops : Array Oper) : Nat → Nat → Prop
  | edge {i j : Nat} {o : Oper} {e : Edge} (hj : ops[j]? = some o) (he : e ∈ o.after) (hb : Region.binds .any e = true) (hi : e.on = i) : Anc ops i j
  | step {i m j : Nat} {o : Oper} {e : Edge} (hj : ops[j]? = some o) (he : e ∈ o.after) (hb : Region.binds .any e = true) (hm : e.on = m) (h : Anc ops i m) : Anc ops i j

def Down (ops : Array Oper) (listed : Array Bool) : Prop := ∀ (j : Nat) o, ops[j]? = some o → listed.getD j false = true → ∀ e ∈ o.after, Region.binds .any e = true → listed.getD e.on false = true
theorem Anc.down {ops : Array Oper} {listed : Array Bool} (hd : Down ops listed) {i j : Nat} (h : Anc ops i j) (hj : listed.getD j false = true) : listed.getD i false = true := by
  induction h with
  | edge h1 h2 h3 h4 => subst h4; exact hd _ _ h1 hj _ h2 h3
  | step h1 h2 h3 h4 _ ih => subst h4; exact ih (hd _ _ h1 hj _ h2 h3)
theorem Anc.ready {ops : Array Oper} {listed : Array Bool} (hd : Down ops listed) {i j : Nat} (h : Anc ops i j) (hj : j ∈ Region.ready .any ops listed) : listed.getD i false = true := by
  obtain ⟨_, o, ho, hr⟩ := mem_ready.1 hj
  cases h with
  | edge h1 h2 h3 h4 => rw [ho] at h1; cases h1; subst h4; exact hr _ h2 h3
  | step h1 h2 h3 h4 h5 => rw [ho] at h1; cases h1; subst h4; exact h5.down hd (hr _ h2 h3)

theorem filter_eq {n : Nat} {p q : Nat → Bool} (h : ∀ j, j < n → p j = q j) : (List.range n).filter p = (List.range n).filter q := List.filter_congr fun j hj => h j (by simpa using hj)
theorem filter_lt {i n : Nat} (h : i ≤ n) (p : Nat → Bool) : (List.range n).filter (fun j => decide (j < i) && p j) = (List.range i).filter p := by
  induction n with
  | zero =>
    obtain rfl : i = 0 := by omega
    rfl
  | succ n ih =>
    rw [List.range_succ, List.filter_append]
    by_cases e : i = n + 1
    · subst e
      rw [List.range_succ, List.filter_append]
      rw [filter_eq (q := p) (fun j hj => by simp; omega)]
      congr 1
      simp only [List.filter_cons, List.filter_nil]
      have : decide (n < n + 1) = true := by simp
      rw [this]; simp
    · rw [ih (by omega)]
      have : decide (n < i) = false := by simp; omega
      simp [this]
theorem fold_put {T : Nat → Tr} {S S' : Nat → Bool} {i : Nat} {st : St} (h0 : S i = false) (h1 : S' i = true) (h2 : ∀ j, j ≠ i → S' j = S j) (h3 : ∀ j, i < j → S j = true → (T j).apart (T i) = true) :
    ∀ n, i < n → foldI T ((List.range n).filter S') st = (T i).app (foldI T ((List.range n).filter S) st) := by
  intro n
  induction n with
  | zero => intro h; omega
  | succ n ih =>
    intro h
    rw [List.range_succ, List.filter_append, List.filter_append, foldI_append, foldI_append]
    by_cases e : i = n
    · subst e
      rw [filter_eq (q := S) (fun j hj => h2 j (by omega))]
      simp only [List.filter_cons, h0, h1, List.filter_nil, if_true, Bool.false_eq_true, if_false]
      rfl
    · rw [ih (by omega)]
      have e2 : S' n = S n := h2 n (fun e' => e e'.symm)
      cases hs : S n with
      | true =>
        simp only [List.filter_cons, e2, hs, if_true, List.filter_nil, foldI_cons]
        exact Tr.apart_comm (h3 n (by omega) hs) _
      | false =>
        simp only [List.filter_cons, e2, hs, List.filter_nil, Bool.false_eq_true, if_false]
        rfl

/-- What operation i does, in each state that looks like st to it. -/
def Does (P : Program) (ops : Array Oper) (i : Nat) (t : Tr) (st : St) : Prop :=
  ∀ (st' : St), t.Same st' st → ∀ (C : Cx) (F : Fd) (a : Act) (w : World) (Q : Exit → Act → World → Prop) (K : Act → World → Prop), Inv C F st' a w → (∀ C' a' w', Inv C' F (t.app st') a' w' → K a' w') → wpOp P ops Q i K a w

def cnt (l : Nat → Bool) : Nat → Nat
  | 0 => 0
  | n + 1 => cnt l n + if l n then 0 else 1
theorem cnt_set {l l' : Nat → Bool} {i : Nat} (h0 : l i = false) (h1 : l' i = true) (h2 : ∀ j, j ≠ i → l' j = l j) : ∀ n, (i < n → cnt l' n + 1 = cnt l n) ∧ (n ≤ i → cnt l' n = cnt l n)
  | 0 => ⟨fun h => by omega, fun _ => rfl⟩
  | n + 1 => by
    obtain ⟨k1, k2⟩ := cnt_set h0 h1 h2 n
    constructor
    · intro h
      simp only [cnt]
      by_cases e : i = n
      · subst e; rw [h0, h1, k2 (by omega)]; simp
      · rw [h2 n (fun e' => e e'.symm)]; have := k1 (by omega); omega
    · intro h
      simp only [cnt]
      rw [h2 n (by omega), k2 (by omega)]
theorem cnt_zero {l : Nat → Bool} : ∀ n, cnt l n = 0 → ∀ j, j < n → l j = true
  | 0, _, j, hj => by omega
  | n + 1, h, j, hj => by
    simp only [cnt] at h
    by_cases e : j = n
    · subst e
      cases hl : l j with
      | true => rfl
      | false => rw [hl] at h; simp at h
    · exact cnt_zero n (by omega) j (by omega)
theorem cnt_le (l : Nat → Bool) : ∀ n, cnt l n ≤ n
  | 0 => Nat.le_refl _
  | n + 1 => by simp only [cnt]; have := cnt_le l n; split <;> omega

theorem any_sound {P : Program} {ops : Array Oper} {T : Nat → Tr} {st : St} {F : Fd} {Q : Exit → Act → World → Prop} (hd : ∀ i, i < ops.size → Does P ops i (T i) (foldI T (List.range i) st))
    (ha : ∀ i j, i < j → j < ops.size → ¬ Anc ops i j → (T i).apart (T j) = true) (hb : ∀ (j : Nat) o, ops[j]? = some o → ∀ e ∈ o.after, Region.binds .any e = true → e.on < j)
    (hQ : ∀ C a w, Inv C F (foldI T (List.range ops.size) st) a w → Q .normal a w) :
    ∀ (fuel : Nat) (listed : Array Bool) (C : Cx) (a : Act) (w : World), listed.size = ops.size → Down ops listed → cnt (fun j => listed.getD j false) ops.size ≤ fuel → Inv C F (foldI T ((List.range ops.size).filter fun j => listed.getD j false) st) a w → wpAny P .any ops Q fuel listed a w := by
  -- when nothing is ready, all is done
  have done : ∀ (listed : Array Bool) (C : Cx) (a : Act) (w : World), listed.size = ops.size → Region.ready .any ops listed = [] → Inv C F (foldI T ((List.range ops.size).filter fun j => listed.getD j false) st) a w → Q .normal a w := fun listed C a w hs hr hi => by
    have all : ∀ j, j < ops.size → listed.getD j false = true := fun j => by
      induction j using Nat.strongRecOn with
      | _ j ih =>
        intro hj
        by_cases hl : listed.getD j false = true
        · exact hl
        · exfalso
          have : j ∈ Region.ready .any ops listed := mem_ready.2 ⟨by
            have hsz : j < listed.size := by omega
            simp only [Array.getD_eq_getD_getElem?, Array.getElem?_eq_getElem hsz, Option.getD_some] at hl ⊢
            simpa using hl, ops[j], Array.getElem?_eq_getElem hj, fun e he hb' => ih e.on (hb j _ (Array.getElem?_eq_getElem hj) e he hb') (by have := hb j _ (Array.getElem?_eq_getElem hj) e he hb'; omega)⟩
          rw [hr] at this; cases this
    rw [filter_eq (q := fun _ => true) (fun j hj => all j hj)] at hi
    rw [List.filter_eq_self.2 (fun _ _ => rfl)] at hi
    exact hQ C a w hi
  have step : ∀ (fuel : Nat), (∀ (listed : Array Bool) (C : Cx) (a : Act) (w : World), listed.size = ops.size → Down ops listed → cnt (fun j => listed.getD j false) ops.size ≤ fuel → Inv C F (foldI T ((List.range ops.size).filter fun j => listed.getD j false) st) a w → wpAny P .any ops Q fuel listed a w) →
      ∀ (listed : Array Bool) (C : Cx) (a : Act) (w : World), listed.size = ops.size → Down ops listed → cnt (fun j => listed.getD j false) ops.size ≤ fuel + 1 → Inv C F (foldI T ((List.range ops.size).filter fun j => listed.getD j false) st) a w →
        ∀ i ∈ Region.ready .any ops listed, wpOp P ops Q i (wpAny P .any ops Q fuel (listed.setIfInBounds i true)) a w := fun fuel ih listed C a w hs hdn hc hi i hir => by
    obtain ⟨hl, o, ho, hpre⟩ := mem_ready.1 hir
    have hin : i < ops.size := (Array.getElem?_eq_some_iff.1 ho).1
    have hlt : i < listed.size := by omega
    have hSi : listed.getD i false = false := by
      simp only [Array.getD_eq_getD_getElem?, Array.getElem?_eq_getElem hlt, Option.getD_some] at hl ⊢
      exact hl
    have hS1 : (listed.setIfInBounds i true).getD i false = true := by simp [hlt]
    have hS2 : ∀ j, j ≠ i → (listed.setIfInBounds i true).getD j false = listed.getD j false := fun j hj => getD_set_ne false (fun e => hj e.symm)
    have hap : ∀ j, i < j → listed.getD j false = true → (T j).apart (T i) = true := fun j hij hj => by
      have hjn : j < ops.size := by
        by_cases hq : j < ops.size
        · exact hq
        · simp [Array.getElem?_eq_none (show listed.size ≤ j by omega)] at hj
      have := ha i j hij hjn (fun hA => by have := hA.down hdn hj; rw [hSi] at this; cases this)
      simp only [Tr.apart, Bool.and_eq_true] at this ⊢
      exact ⟨this.2, this.1⟩
    refine hd i hin _ ?_ C F a w Q _ hi fun C' a' w' hi' => ih _ C' a' w' (by simp [hs]) ?_ ?_ ?_
    · have h1 := foldI_same T (T i) ((List.range ops.size).filter fun j => listed.getD j false) st st (Tr.Same.refl _ _)
      have h2 := foldI_same T (T i) (List.range i) st st (Tr.Same.refl _ _)
      have e : ((List.range ops.size).filter fun j => listed.getD j false).filter (fun j => !(T i).away (T j)) = (List.range i).filter (fun j => !(T i).away (T j)) := by
        rw [List.filter_filter, ← filter_lt (Nat.le_of_lt hin)]
        refine filter_eq fun j hj => ?_
        cases haw : (T i).away (T j) with
        | true => simp
        | false =>
          simp only [Bool.not_false, Bool.true_and, Bool.and_true]
          rcases Nat.lt_trichotomy j i with h | h | h
          · have hA : Anc ops j i := Classical.byContradiction fun hn => by
              have := ha j i h hin hn
              simp only [Tr.apart, Bool.and_eq_true] at this
              rw [haw] at this; cases this.2
            rw [hA.ready hdn hir]; simp [h]
          · subst h; rw [hSi]; simp
          · have : listed.getD j false = false := by
              cases hq : listed.getD j false with
              | false => rfl
              | true =>
                have := hap j h hq
                simp only [Tr.apart, Bool.and_eq_true] at this
                rw [haw] at this; cases this.2
            rw [this]; simp; omega
      rw [e] at h1
      exact h1.trans h2.symm
    · intro j oj hoj hlj e he hbe
      by_cases ej : j = i
      · subst ej
        rw [ho] at hoj; cases hoj
        exact getD_set_true (hpre e he hbe)
      · rw [hS2 j ej] at hlj
        exact getD_set_true (hdn j oj hoj hlj e he hbe)
    · have := (cnt_set (l := fun j => listed.getD j false) (l' := fun j => (listed.setIfInBounds i true).getD j false) hSi hS1 hS2 ops.size).1 hin
      omega
    · rw [fold_put (S := fun j => listed.getD j false) hSi hS1 hS2 hap ops.size hin]
      exact hi'
  intro fuel
  induction fuel with
  | zero =>
    intro listed C a w hs hdn hc hi
    have hr : Region.ready .any ops listed = [] := by
      cases hq : Region.ready .any ops listed with
      | nil => rfl
      | cons i rs =>
        have hm : i ∈ Region.ready .any ops listed := by rw [hq]; simp
        obtain ⟨hl, o, ho, _⟩ := mem_ready.1 hm
        have hin : i < ops.size := (Array.getElem?_eq_some_iff.1 ho).1
        have h1 := cnt_zero (l := fun j => listed.getD j false) ops.size (Nat.le_zero.1 hc) i hin
        have hlt : i < listed.size := by omega
        simp only [Array.getD_eq_getD_getElem?, Array.getElem?_eq_getElem hlt, Option.getD_some] at hl h1
        rw [hl] at h1; cases h1
    exact ⟨hr, done listed C a w hs hr hi⟩
  | succ fuel ih =>
    intro listed C a w hs hdn hc hi
    exact ⟨fun hr => done listed C a w hs hr hi, step fuel ih listed C a w hs hdn hc hi⟩

/-! What the operations of a drawn region do, one behind the other. -/
def ofOpt (t : Option (Nat × Nat × Nat)) : Bool := t.isSome
def dcop (P : Program) (L : List Nat) (o : Oper) (st : St) (k : Tr → Prop) : Prop :=
  match o.op with
  | .load t x => match P.underlying t with
    | none => False
    | some d => match st.ev x with
      | .ptr b off => loadP P t st (.ptr b off) fun g => fA g fun g => k ⟨o.dst, g, none, none, L, some (b, off, wide P d t)⟩
      | .elt row off => loadP P t st (.elt row off) fun g => fA g fun g => k ⟨o.dst, g, none, none, L, none⟩
      | _ => False
  | .store t p x => match P.underlying t, st.ev p with
    | some _, .ptr b off => match st.boxes.getD b none with
      | some cs => bif okReg (st.ev x) && ((st.ev x).cells.length == P.cellsOf t) && Nat.ble (off + P.cellsOf t) cs.length then k ⟨o.dst, .junk, some (b, off, (st.ev x).cells), none, L, none⟩ else False
      | none => False
    | _, _ => False
  | .alloc t => match o.dst, zeroCells P t with
    | some d, some cs => bif Nat.blt d st.boxes.length && (st.boxes.getD d none).isNone then k ⟨some d, .ptr d 0, none, some (d, cs), L, none⟩ else False
    | _, _ => False
  | .box _ x => match o.dst with
    | some d => bif Nat.blt d st.boxes.length && (st.boxes.getD d none).isNone && okReg (st.ev x) then k ⟨some d, .ptr d 0, none, some (d, (st.ev x).cells), L, none⟩ else False
    | none => False
  | .call { callee := .value f, args, .. } => match st.ev f with
    | .fn f caps => fS (args.toList.map st.ev ++ caps) fun gs => bif gs.all G.closed then ∃ g, Fv P f gs g ∧ bif g.closedR then fA g fun g => k ⟨o.dst, g, none, none, L, none⟩ else False else False
    | _ => False
  | op => bif pureOp op then vop P 0 op st fun g _ => fA g fun g => k ⟨o.dst, g, none, none, L, none⟩ else False
end Go.Proofs.Yteioecdfimphaaa.Av
