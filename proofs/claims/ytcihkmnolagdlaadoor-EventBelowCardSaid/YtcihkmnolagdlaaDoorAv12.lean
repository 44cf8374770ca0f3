/- A region whose order is drawn: what its operations do one behind the other, and a look that those that no edge binds meet nowhere. No condition. -/
import Derived.Test.YtcihkmnolagdlaaDoorAv11
namespace Go.Proofs.YtcihkmnolagdlaaDoor.Av
open Go Go.RowKit
set_option linter.unusedVariables false
set_option linter.unusedSimpArgs false

def foldI (T : Nat → Tx) (l : List Nat) (st : St) : St := l.foldl (fun s i => (T i).app s) st
theorem foldI_cons (T : Nat → Tx) (j : Nat) (l : List Nat) (st : St) : foldI T (j :: l) st = foldI T l ((T j).app st) := rfl
theorem foldI_append (T : Nat → Tx) (l m : List Nat) (st : St) : foldI T (l ++ m) st = foldI T m (foldI T l st) := by simp [foldI]
theorem foldI_away {T : Nat → Tx} {t : Tx} {s0 : St} (hv : t.Vals s0) : ∀ (l : List Nat), (∀ j ∈ l, t.away (T j) = true) → ∀ (s : St), t.Same (foldI T l s) s0 ↔ t.Same s s0
  | [], _, s => Iff.rfl
  | j :: l, h, s => by
    rw [foldI_cons, foldI_away hv l (fun j hj => h j (by simp [hj]))]
    exact Tx.away_iff hv (h j (by simp)) s

/-- i is bound ahead of j. -/
inductive Anc (ops : Array Oper) : Nat → Nat → Prop
  | edge {i j : Nat} {o : Oper} {e : Edge} (hj : ops[j]? = some o) (he : e ∈ o.after) (hb : Region.binds .any e = true) (hi : e.on = i) : Anc ops i j
  | step {i m j : Nat} {o : Oper} {e : Edge} (hj : ops[j]? = some o) (he : e ∈ o.after) (hb : Region.binds .any e = true) (hm : e.on = m) (h : Anc ops i m) : Anc ops i j

def Down (ops : Array Oper) (listed : Array Bool) : Prop := ∀ (j : Nat) o, ops[j]? = some o → listed.getD j false = true → ∀ e ∈ o.after, Region.binds .any e = true → listed.getD e.on false = true
theorem Anc.down {ops : Array Oper} {listed : Array Bool} (hd : Down ops listed) {i j : Nat} (h : Anc ops i j) (hj : listed.getD j false = true) : listed.getD i false = true := by
  induction h with
  | edge h1 h2 h3 h4 => subst h4; exact hd _ _ h1 hj _ h2 h3
  | step h1 h2 h3 h4 _ ih => subst h4; exact ih (hd _ _ h1 hj _ h2 h3)
theorem Anc.ready {ops : Array Oper} {listed : Array Bool} (hd : Down ops listed) {i j : Nat} (h : Anc ops i j) (hj : j ∈ Region.ready .any ops listed) : listed.getD i false = true := by
  obtain ⟨_, o, ho, hr⟩ := mem_ready.1 hj
  cases h with
  | edge h1 h2 h3 h4 => rw [ho] at h1; cases h1; subst h4; exact hr _ h2 h3
  | step h1 h2 h3 h4 h5 => rw [ho] at h1; cases h1; subst h4; exact h5.down hd (hr _ h2 h3)

theorem filter_eq {n : Nat} {p q : Nat → Bool} (h : ∀ j, j < n → p j = q j) : (List.range n).filter p = (List.range n).filter q := List.filter_congr fun j hj => h j (by simpa using hj)
theorem filter_lt {i n : Nat} (h : i ≤ n) (p : Nat → Bool) : (List.range n).filter (fun j => decide (j < i) && p j) = (List.range i).filter p := by
  induction n with
  | zero =>
    obtain rfl : i = 0 := by omega
    rfl
  | succ n ih =>
    rw [List.range_succ, List.filter_append]
    by_cases e : i = n + 1
    · subst e
      rw [List.range_succ, List.filter_append]
      rw [filter_eq (q := p) (fun j hj => by simp; omega)]
      congr 1
      simp only [List.filter_cons, List.filter_nil]
      have : decide (n < n + 1) = true := by simp
      rw [this]; simp
    · rw [ih (by omega)]
      have : decide (n < i) = false := by simp; omega
      simp [this]
theorem fold_put {T : Nat → Tx} {S S' : Nat → Bool} {i : Nat} {st : St} (h0 : S i = false) (h1 : S' i = true) (h2 : ∀ j, j ≠ i → S' j = S j) (h3 : ∀ j, i < j → S j = true → (T j).apart (T i) = true) :
    ∀ n, i < n → foldI T ((List.range n).filter S') st = (T i).app (foldI T ((List.range n).filter S) st) := by
  intro n
  induction n with
  | zero => intro h; omega
  | succ n ih =>
    intro h
    rw [List.range_succ, List.filter_append, List.filter_append, foldI_append, foldI_append]
    by_cases e : i = n
    · subst e
      rw [filter_eq (q := S) (fun j hj => h2 j (by omega))]
      simp only [List.filter_cons, h0, h1, List.filter_nil, if_true, Bool.false_eq_true, if_false]
      rfl
    · rw [ih (by omega)]
      have e2 : S' n = S n := h2 n (fun e' => e e'.symm)
      cases hs : S n with
      | true =>
        simp only [List.filter_cons, e2, hs, if_true, List.filter_nil, foldI_cons]
        exact Tx.apart_comm (h3 n (by omega) hs) _
      | false =>
        simp only [List.filter_cons, e2, hs, List.filter_nil, Bool.false_eq_true, if_false]
        rfl

/-- What operation i does, in each state that looks like st to it. -/
def Does (P : Program) (ops : Array Oper) (i : Nat) (t : Tx) (st : St) : Prop :=
  t.Vals st ∧ ∀ (st' : St), t.Same st' st → ∀ (C : Cx) (F : Fd) (a : Act) (w : World) (Q : Exit → Act → World → Prop) (K : Act → World → Prop), Inv C F st' a w → (∀ C' a' w', Inv C' F (t.app st') a' w' → K a' w') → wpOp P ops Q i K a w

def cnt (l : Nat → Bool) : Nat → Nat
  | 0 => 0
  | n + 1 => cnt l n + if l n then 0 else 1
theorem cnt_set {l l' : Nat → Bool} {i : Nat} (h0 : l i = false) (h1 : l' i = true) (h2 : ∀ j, j ≠ i → l' j = l j) : ∀ n, (i < n → cnt l' n + 1 = cnt l n) ∧ (n ≤ i → cnt l' n = cnt l n)
  | 0 => ⟨fun h => by omega, fun _ => rfl⟩
  | n + 1 => by
    obtain ⟨k1, k2⟩ := cnt_set h0 h1 h2 n
    constructor
    · intro h
      simp only [cnt]
      by_cases e : i = n
      · subst e; rw [h0, h1, k2 (by omega)]; simp
      · rw [h2 n (fun e' => e e'.symm)]; have := k1 (by omega); omega
    · intro h
      simp only [cnt]
      rw [h2 n (by omega), k2 (by omega)]
theorem cnt_zero {l : Nat → Bool} : ∀ n, cnt l n = 0 → ∀ j, j < n → l j = true
  | 0, _, j, hj => by omega
  | n + 1, h, j, hj => by
    simp only [cnt] at h
    by_cases e : j = n
    · subst e
      cases hl : l j with
      | true => rfl
      | false => rw [hl] at h; simp at h
    · exact cnt_zero n (by omega) j (by omega)
theorem cnt_le (l : Nat → Bool) : ∀ n, cnt l n ≤ n
  | 0 => Nat.le_refl _
  | n + 1 => by simp only [cnt]; have := cnt_le l n; split <;> omega

theorem any_sound {P : Program} {ops : Array Oper} {T : Nat → Tx} {st : St} {F : Fd} {Q : Exit → Act → World → Prop} (hd : ∀ i, i < ops.size → Does P ops i (T i) (foldI T (List.range i) st))
    (ha : ∀ i j, i < j → j < ops.size → ¬ Anc ops i j → (T i).apart (T j) = true) (hb : ∀ (j : Nat) o, ops[j]? = some o → ∀ e ∈ o.after, Region.binds .any e = true → e.on < j)
    (hQ : ∀ C a w, Inv C F (foldI T (List.range ops.size) st) a w → Q .normal a w) :
    ∀ (fuel : Nat) (listed : Array Bool) (C : Cx) (a : Act) (w : World), listed.size = ops.size → Down ops listed → cnt (fun j => listed.getD j false) ops.size ≤ fuel → Inv C F (foldI T ((List.range ops.size).filter fun j => listed.getD j false) st) a w → wpAny P .any ops Q fuel listed a w := by
  -- when nothing is ready, all is done
  have done : ∀ (listed : Array Bool) (C : Cx) (a : Act) (w : World), listed.size = ops.size → Region.ready .any ops listed = [] → Inv C F (foldI T ((List.range ops.size).filter fun j => listed.getD j false) st) a w → Q .normal a w := fun listed C a w hs hr hi => by
    have all : ∀ j, j < ops.size → listed.getD j false = true := fun j => by
      induction j using Nat.strongRecOn with
      | _ j ih =>
        intro hj
        by_cases hl : listed.getD j false = true
        · exact hl
        · exfalso
          have : j ∈ Region.ready .any ops listed := mem_ready.2 ⟨by
            have hsz : j < listed.size := by omega
            simp only [Array.getD_eq_getD_getElem?, Array.getElem?_eq_getElem hsz, Option.getD_some] at hl ⊢
            simpa using hl, ops[j], Array.getElem?_eq_getElem hj, fun e he hb' => ih e.on (hb j _ (Array.getElem?_eq_getElem hj) e he hb') (by have := hb j _ (Array.getElem?_eq_getElem hj) e he hb'; omega)⟩
          rw [hr] at this; cases this
    rw [filter_eq (q := fun _ => true) (fun j hj => all j hj)] at hi
    rw [List.filter_eq_self.2 (fun _ _ => rfl)] at hi
    exact hQ C a w hi
  have step : ∀ (fuel : Nat), (∀ (listed : Array Bool) (C : Cx) (a : Act) (w : World), listed.size = ops.size → Down ops listed → cnt (fun j => listed.getD j false) ops.size ≤ fuel → Inv C F (foldI T ((List.range ops.size).filter fun j => listed.getD j false) st) a w → wpAny P .any ops Q fuel listed a w) →
      ∀ (listed : Array Bool) (C : Cx) (a : Act) (w : World), listed.size = ops.size → Down ops listed → cnt (fun j => listed.getD j false) ops.size ≤ fuel + 1 → Inv C F (foldI T ((List.range ops.size).filter fun j => listed.getD j false) st) a w →
        ∀ i ∈ Region.ready .any ops listed, wpOp P ops Q i (wpAny P .any ops Q fuel (listed.setIfInBounds i true)) a w := fun fuel ih listed C a w hs hdn hc hi i hir => by
    obtain ⟨hl, o, ho, hpre⟩ := mem_ready.1 hir
    have hin : i < ops.size := (Array.getElem?_eq_some_iff.1 ho).1
    have hlt : i < listed.size := by omega
    have hSi : listed.getD i false = false := by
      simp only [Array.getD_eq_getD_getElem?, Array.getElem?_eq_getElem hlt, Option.getD_some] at hl ⊢
      exact hl
    have hS1 : (listed.setIfInBounds i true).getD i false = true := by simp [hlt]
    have hS2 : ∀ j, j ≠ i → (listed.setIfInBounds i true).getD j false = listed.getD j false := fun j hj => getD_set_ne false (fun e => hj e.symm)
    have hap : ∀ j, i < j → listed.getD j false = true → (T j).apart (T i) = true := fun j hij hj => by
      have hjn : j < ops.size := by
        by_cases hq : j < ops.size
        · exact hq
        · simp [Array.getElem?_eq_none (show listed.size ≤ j by omega)] at hj
      have := ha i j hij hjn (fun hA => by have := hA.down hdn hj; rw [hSi] at this; cases this)
      simp only [Tx.apart, Bool.and_eq_true] at this ⊢
      exact ⟨this.2, this.1⟩
    refine (hd i hin).2 _ ?_ C F a w Q _ hi fun C' a' w' hi' => ih _ C' a' w' (by simp [hs]) ?_ ?_ ?_
    · have hv := (hd i hin).1
      -- those that are done, and no ancestors: all away
      have unb : ∀ j, j < ops.size → j ≠ i → (listed.getD j false = true ∧ i < j ∨ listed.getD j false = false ∧ j < i) → (T i).away (T j) = true := fun j hj hne h => by
        rcases h with ⟨h1, h2⟩ | ⟨h1, h2⟩
        · have := hap j h2 h1
          simp only [Tx.apart, Bool.and_eq_true] at this
          exact this.2
        · have := ha j i h2 hin (fun hA => by have := hA.ready hdn hir; rw [h1] at this; cases this)
          simp only [Tx.apart, Bool.and_eq_true] at this
          exact this.2
      have split : (List.range ops.size).filter (fun j => listed.getD j false) = (List.range i).filter (fun j => listed.getD j false) ++ ((List.range ops.size).drop i).filter (fun j => listed.getD j false) := by
        have e0 : List.range ops.size = List.range i ++ (List.range ops.size).drop i := by
          have h0 := List.take_append_drop i (List.range ops.size)
          rw [List.take_range, Nat.min_eq_left (Nat.le_of_lt hin)] at h0
          exact h0.symm
        rw [← List.filter_append, ← e0]
      rw [split, foldI_append, foldI_away hv _ (fun j hj => by
        obtain ⟨h1, h2⟩ := List.mem_filter.1 hj
        obtain ⟨q, hq⟩ := List.mem_iff_getElem?.1 h1
        rw [List.getElem?_drop] at hq
        have hlt : i + q < ops.size := by have := (List.getElem?_eq_some_iff.1 hq).1; simpa using this
        rw [List.getElem?_range hlt] at hq
        cases hq
        have hne : i + q ≠ i := fun e => by rw [e, hSi] at h2; cases h2
        exact unb _ hlt hne (.inl ⟨h2, by omega⟩))]
      -- those not done ahead of i are taken out, the last one first
      have out : ∀ m, m ≤ i → ∀ k, k + m = i → (T i).Same (foldI T ((List.range i).filter fun j => listed.getD j false || decide (j < m)) st) (foldI T (List.range i) st) := fun m hm k => by
        induction k generalizing m with
        | zero =>
          intro e
          obtain rfl : m = i := by omega
          rw [filter_eq (q := fun _ => true) (fun j hj => by simp [hj]), List.filter_eq_self.2 (fun _ _ => rfl)]
          exact Tx.Same.refl _ _
        | succ k ih =>
          intro e
          have h1 := ih (m + 1) (by omega) (by omega)
          cases hl : listed.getD m false with
          | true =>
            rw [filter_eq (q := fun j => listed.getD j false || decide (j < m + 1)) (fun j hj => by
              by_cases e1 : j = m
              · subst e1; simp [hl]
              · have : decide (j < m) = decide (j < m + 1) := by simp; omega
                rw [this])]
            exact h1
          | false =>
            have hp := fold_put (T := T) (S := fun j => listed.getD j false || decide (j < m)) (S' := fun j => listed.getD j false || decide (j < m + 1)) (i := m) (st := st) (by simp [hl]) (by simp) (fun j hj => by
              have : decide (j < m + 1) = decide (j < m) := by simp; omega
              simp only [this]) (fun j hj hS => by
              simp only [Bool.or_eq_true, decide_eq_true_eq] at hS
              have hlj : listed.getD j false = true := hS.resolve_right (by omega)
              have hjn : j < ops.size := by
                by_cases hq : j < ops.size
                · exact hq
                · simp [Array.getElem?_eq_none (show listed.size ≤ j by omega)] at hlj
              have := ha m j hj hjn (fun hA => by have := hA.down hdn hlj; rw [hl] at this; cases this)
              simp only [Tx.apart, Bool.and_eq_true] at this ⊢
              exact ⟨this.2, this.1⟩) i (by omega)
            rw [hp] at h1
            exact (Tx.away_iff hv (unb m (by omega) (by omega) (.inr ⟨hl, by omega⟩)) _).1 h1
      have h0 := out 0 (Nat.zero_le _) i (by omega)
      rw [filter_eq (q := fun j => listed.getD j false) (fun j hj => by simp)] at h0
      exact h0
    · intro j oj hoj hlj e he hbe
      by_cases ej : j = i
      · subst ej
        rw [ho] at hoj; cases hoj
        exact getD_set_true (hpre e he hbe)
      · rw [hS2 j ej] at hlj
        exact getD_set_true (hdn j oj hoj hlj e he hbe)
    · have := (cnt_set (l := fun j => listed.getD j false) (l' := fun j => (listed.setIfInBounds i true).getD j false) hSi hS1 hS2 ops.size).1 hin
      omega
    · rw [fold_put (S := fun j => listed.getD j false) hSi hS1 hS2 hap ops.size hin]
      exact hi'
  intro fuel
  induction fuel with
  | zero =>
    intro listed C a w hs hdn hc hi
    have hr : Region.ready .any ops listed = [] := by
      cases hq : Region.ready .any ops listed with
      | nil => rfl
      | cons i rs =>
        have hm : i ∈ Region.ready .any ops listed := by rw [hq]; simp
        obtain ⟨hl, o, ho, _⟩ := mem_ready.1 hm
        have hin : i < ops.size := (Array.getElem?_eq_some_iff.1 ho).1
        have h1 := cnt_zero (l := fun j => listed.getD j false) ops.size (Nat.le_zero.1 hc) i hin
        have hlt : i < listed.size := by omega
        simp only [Array.getD_eq_getD_getElem?, Array.getElem?_eq_getElem hlt, Option.getD_some] at hl h1
        rw [hl] at h1; cases h1
    exact ⟨hr, done listed C a w hs hr hi⟩
  | succ fuel ih =>
    intro listed C a w hs hdn hc hi
    exact ⟨fun hr => done listed C a w hs hr hi, step fuel ih listed C a w hs hdn hc hi⟩

/-! What the operations of a drawn region do, one behind the other. -/
def allP (P : Program) (o : Oper) (st : St) (k : Tx → Prop) : Prop :=
  cop P (o.dst.getD 0) o st fun g st' => st'.next (stills o.op) o.dst g fun st' => st'.force fun st' => k (.all st')
/-- The rows that an append gives up. -/
def appKills (d : Nat) (s : G) (st : St) : List Nat :=
  match s with
  | .own kk _ _ => [kk]
  | _ => match st.rows.getD d none with
    | none => []
    | some _ => [d]
def St.vals (st : St) (L : List Nat) : List G := L.map fun d => st.slots.getD d .junk
/-- A call by place in a drawn region: one that is handed just one variable, and brings nothing new, turns that one alone. -/
def oneD (d : Nat) (B R : List Nat) (st : St) (q : G × List (Option (List G)) × List (Option (List (List G)))) (kt : Nat → List G → G → Prop) (km : G → St → Prop) : Prop :=
  match B, R, q.2.1, q.2.2 with
  | [b], [], [some cs], [] => bif Nat.beq cs.length (cellsB st b).length then fL (cs.map (ren0 (fun i => [b][i]?) (fun i => ([] : List Nat)[i]?))) fun cs' => kt b cs' (ren (fun i => [b][i]?) (fun i => ([] : List Nat)[i]?) q.1)
      else backP d B R st q km
  | _, _, _, _ => backP d B R st q km
def placeD (P : Program) (d : Nat) (f : FuncId) (gs : List G) (st : St) (kt : Nat → List G → G → Prop) (km : G → St → Prop) : Prop :=
  fI (seenB st gs) fun B => fI (seenR st gs B) fun R =>
  bif B.all (fun b => (st.boxes.getD b none).isSome) && R.all (fun k => (st.rows.getD k none).isSome) && distinct B && distinct R then
    fS (gs.map (ren (pos B) (pos R))) fun args => fBs (B.map fun b => (cellsB st b).map (ren0 (pos B) (pos R))) fun bs => fRs (R.map fun k => (st.rows.getD k none).getD []) fun rs =>
      ∃ q, Fp P f args bs rs q ∧ oneD d B R st q kt km
  else False
def typedG : G → Bool
  | .nilt | .ownt .. => true
  | _ => false
def dcop (P : Program) (L : List Nat) (o : Oper) (st : St) (k : Tx → Prop) : Prop :=
  match o.op with
  | .load t x => match P.underlying t with
    | none => False
    | some d => match st.ev x with
      | .ptr b off => loadP P t st (.ptr b off) fun g => fA g fun g => k (.tr ⟨o.dst, g, none, none, L, some (b, off, wide P d t), false⟩ (st.vals L))
      | .elt row off => loadP P t st (.elt row off) fun g => fA g fun g => k (.tr ⟨o.dst, g, none, none, L, none, false⟩ (st.vals L))
      | .eltw kk i off => loadP P t st (.eltw kk i off) fun g => fA g fun g => k (.tr ⟨o.dst, g, none, none, L, none, true⟩ (st.vals L))
      | _ => False
  | .store t p x => match P.underlying t, st.ev p with
    | some _, .ptr b off => match st.boxes.getD b none with
      | some cs => bif okReg (st.ev x) && ((st.ev x).cells.length == P.cellsOf t) && Nat.ble (off + P.cellsOf t) cs.length then k (.tr ⟨o.dst, .junk, some (b, off, (st.ev x).cells), none, L, none, false⟩ (st.vals L)) else False
      | none => False
    | _, _ => allP P o st k
  | .alloc t => match o.dst, zeroCells P t with
    | some d, some cs => bif (Nat.blt d st.boxes.length && Nat.blt d st.slots.length) && (st.boxes.getD d none).isNone && (typedZ cs).isNone then k (.tr ⟨some d, .ptr d 0, none, some (d, cs), L, none, false⟩ (st.vals L)) else False
    | _, _ => False
  | .box _ x => match o.dst with
    | some d => bif (Nat.blt d st.boxes.length && Nat.blt d st.slots.length) && (st.boxes.getD d none).isNone && okReg (st.ev x) then k (.tr ⟨some d, .ptr d 0, none, some (d, (st.ev x).cells), L, none, false⟩ (st.vals L)) else False
    | none => False
  | .call { callee := .value f, args, argTypes } => match st.ev f with
    | .fn f caps => bif isUns P argTypes.toList then allP P o st k else fS (args.toList.map st.ev ++ caps) fun gs => bif gs.all G.closed then (∃ g, Fv P f gs g ∧ bif g.closedR then fA g fun g => k (.tr ⟨o.dst, g, none, none, L, none, false⟩ (st.vals L)) else False) ∨ (placeD P (o.dst.getD 0) f gs st (fun b cs g => fA g fun g => fN cs.length fun n => k (.tr ⟨o.dst, g, some (b, 0, cs), none, L, some (b, 0, n), false⟩ (st.vals L))) fun g st' => fA g fun g => k (.mem o.dst g L (seenR st gs (seenB st gs)) st'.boxes st'.rows))
        else (lendP P f gs st fun g _ => fA g fun g => k (.tr ⟨o.dst, g, none, none, L, none, true⟩ (st.vals L))) ∨ (placeD P (o.dst.getD 0) f gs st (fun b cs g => fA g fun g => fN cs.length fun n => k (.tr ⟨o.dst, g, some (b, 0, cs), none, L, some (b, 0, n), false⟩ (st.vals L))) fun g st' => fA g fun g => k (.mem o.dst g L (seenR st gs (seenB st gs)) st'.boxes st'.rows))
    | _ => False
  | .call { callee := .builtin .append, args, argTypes } => match args.toList.map st.ev, argTypes[0]?, argTypes[1]? with
    | [s, x], some tS, some tX => bif typedG s then False else appP P (o.dst.getD 0) s x tS tX st fun g st' => fA g fun g => st'.force fun st' => k (.mem o.dst g L (appKills (o.dst.getD 0) s st) st'.boxes st'.rows)
    | _, _, _ => False
  | .call { callee := .builtin .unsafeSliceData, args, .. } => dataT (args.toList.map st.ev) fun g => fA g fun g => k (.tr ⟨o.dst, g, none, none, L, none, false⟩ (st.vals L))
  | op => bif pureOp op && !(bldB o) then xop P 0 op st fun g _ => fA g fun g => k (.tr ⟨o.dst, g, none, none, L, none, ownOp st op⟩ (st.vals L)) else allP P o st k
end Go.Proofs.YtcihkmnolagdlaaDoor.Av
