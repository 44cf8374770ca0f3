/- One text out of several: Av12, Av13, Av14, Av9, Sp1, Sp7, Sp9, Sp30, Sp31, Sp32, Av16, Av18. No condition but theirs. -/
import Derived.Lib.Bytealg
import Derived.Lib.IndexMore
import Derived.Lib.Strings
import Derived.Test.YtijohhdgecadnaaDoorZHeaderFormats3
namespace Go.Proofs.YtijohhdgecadnaaDoor.Av
open Go Go.RowKit
set_option linter.unusedVariables false
set_option linter.unusedSimpArgs false

def foldI (T : Nat → Tx) (l : List Nat) (st : St) : St := l.foldl (fun s i => (T i).app s) st
theorem foldI_cons (T : Nat → Tx) (j : Nat) (l : List Nat) (st : St) : foldI T (j :: l) st = foldI T l ((T j).app st) := rfl
theorem foldI_append (T : Nat → Tx) (l m : List Nat) (st : St) : foldI T (l ++ m) st = foldI T m (foldI T l st) := by simp [foldI]
theorem foldI_away {T : Nat → Tx} {t : Tx} {s0 : St} (hv : t.Vals s0) : ∀ (l : List Nat), (∀ j ∈ l, t.away (T j) = true) → ∀ (s : St), t.Same (foldI T l s) s0 ↔ t.Same s s0
  | [], _, s => Iff.rfl
  | j :: l, h, s => by
    rw [foldI_cons, foldI_away hv l (fun j hj => h j (by simp [hj]))]
    exact Tx.away_iff hv (h j (by simp)) s

/-- i is bound ahead of j. -/
inductive Anc (ops : Array Oper) : Nat → Nat → Prop
  | edge {i j : Nat} {o : Oper} {e : Edge} (hj : ops[j]? = some o) (he : e ∈ o.after) (hb : Region.binds .any e = true) (hi : e.on = i) : Anc ops i j
  | step {i m j : Nat} {o : Oper} {e : Edge} (hj : ops[j]? = some o) (he : e ∈ o.after) (hb : Region.binds .any e = true) (hm : e.on = m) (h : Anc ops i m) : Anc ops i j

def Down (ops : Array Oper) (listed : Array Bool) : Prop := ∀ (j : Nat) o, ops[j]? = some o → listed.getD j false = true → ∀ e ∈ o.after, Region.binds .any e = true → listed.getD e.on false = true
theorem Anc.down {ops : Array Oper} {listed : Array Bool} (hd : Down ops listed) {i j : Nat} (h : Anc ops i j) (hj : listed.getD j false = true) : listed.getD i false = true := by
  induction h with
  | edge h1 h2 h3 h4 => subst h4; exact hd _ _ h1 hj _ h2 h3
  | step h1 h2 h3 h4 _ ih => subst h4; exact ih (hd _ _ h1 hj _ h2 h3)
theorem Anc.ready {ops : Array Oper} {listed : Array Bool} (hd : Down ops listed) {i j : Nat} (h : Anc ops i j) (hj : j ∈ Region.ready .any ops listed) : listed.getD i false = true := by
  obtain ⟨_, o, ho, hr⟩ := mem_ready.1 hj
  cases h with
  | edge h1 h2 h3 h4 => rw [ho] at h1; cases h1; subst h4; exact hr _ h2 h3
  | step h1 h2 h3 h4 h5 => rw [ho] at h1; cases h1; subst h4; exact h5.down hd (hr _ h2 h3)

theorem filter_eq {n : Nat} {p q : Nat → Bool} (h : ∀ j, j < n → p j = q j) : (List.range n).filter p = (List.range n).filter q := List.filter_congr fun j hj => h j (by simpa using hj)
theorem filter_lt {i n : Nat} (h : i ≤ n) (p : Nat → Bool) : (List.range n).filter (fun j => decide (j < i) && p j) = (List.range i).filter p := by
  induction n with
  | zero =>
    obtain rfl : i = 0 := by omega
    rfl
  | succ n ih =>
    rw [List.range_succ, List.filter_append]
    by_cases e : i = n + 1
    · subst e
      rw [List.range_succ, List.filter_append]
      rw [filter_eq (q := p) (fun j hj => by simp; omega)]
      congr 1
      simp only [List.filter_cons, List.filter_nil]
      have : decide (n < n + 1) = true := by simp
      rw [this]; simp
    · rw [ih (by omega)]
      have : decide (n < i) = false := by simp; omega
      simp [this]
theorem fold_put {T : Nat → Tx} {S S' : Nat → Bool} {i : Nat} {st : St} (h0 : S i = false) (h1 : S' i = true) (h2 : ∀ j, j ≠ i → S' j = S j) (h3 : ∀ j, i < j → S j = true → (T j).apart (T i) = true) :
    ∀ n, i < n → foldI T ((List.range n).filter S') st = (T i).app (foldI T ((List.range n).filter S) st) := by
  intro n
  induction n with
  | zero => intro h; omega
  | succ n ih =>
    intro h
    rw [List.range_succ, List.filter_append, List.filter_append, foldI_append, foldI_append]
    by_cases e : i = n
    · subst e
      rw [filter_eq (q := S) (fun j hj => h2 j (by omega))]
      simp only [List.filter_cons, h0, h1, List.filter_nil, if_true, Bool.false_eq_true, if_false]
      rfl
    · rw [ih (by omega)]
      have e2 : S' n = S n := h2 n (fun e' => e e'.symm)
      cases hs : S n with
      | true =>
        simp only [List.filter_cons, e2, hs, if_true, List.filter_nil, foldI_cons]
        exact Tx.apart_comm (h3 n (by omega) hs) _
      | false =>
        simp only [List.filter_cons, e2, hs, List.filter_nil, Bool.false_eq_true, if_false]
        rfl

/-- What operation i does, in each state that looks like st to it. -/
def Does (P : Program) (ops : Array Oper) (i : Nat) (t : Tx) (st : St) : Prop :=
  t.Vals st ∧ ∀ (st' : St), t.Same st' st → ∀ (C : Cx) (F : Fd) (a : Act) (w : World) (Q : Exit → Act → World → Prop) (K : Act → World → Prop), Inv C F st' a w → (∀ C' a' w', Inv C' F (t.app st') a' w' → K a' w') → wpOp P ops Q i K a w

def cnt (l : Nat → Bool) : Nat → Nat
  | 0 => 0
  | n + 1 => cnt l n + if l n then 0 else 1
theorem cnt_set {l l' : Nat → Bool} {i : Nat} (h0 : l i = false) (h1 : l' i = true) (h2 : ∀ j, j ≠ i → l' j = l j) : ∀ n, (i < n → cnt l' n + 1 = cnt l n) ∧ (n ≤ i → cnt l' n = cnt l n)
  | 0 => ⟨fun h => by omega, fun _ => rfl⟩
  | n + 1 => by
    obtain ⟨k1, k2⟩ := cnt_set h0 h1 h2 n
    constructor
    · intro h
      simp only [cnt]
      by_cases e : i = n
      · subst e; rw [h0, h1, k2 (by omega)]; simp
      · rw [h2 n (fun e' => e e'.symm)]; have := k1 (by omega); omega
    · intro h
      simp only [cnt]
      rw [h2 n (by omega), k2 (by omega)]
theorem cnt_zero {l : Nat → Bool} : ∀ n, cnt l n = 0 → ∀ j, j < n → l j = true
  | 0, _, j, hj => by omega
  | n + 1, h, j, hj => by
    simp only [cnt] at h
    by_cases e : j = n
    · subst e
      cases hl : l j with
      | true => rfl
      | false => rw [hl] at h; simp at h
    · exact cnt_zero n (by omega) j (by omega)
theorem cnt_le (l : Nat → Bool) : ∀ n, cnt l n ≤ n
  | 0 => Nat.le_refl _
  | n + 1 => by simp only [cnt]; have := cnt_le l n; split <;> omega

/-- .. in each such state of which X holds. -/
def DoesX (X : St → Prop) (P : Program) (ops : Array Oper) (i : Nat) (t : Tx) (st : St) : Prop :=
  t.Vals st ∧ ∀ (st' : St), X st' → t.Same st' st → ∀ (C : Cx) (F : Fd) (a : Act) (w : World) (Q : Exit → Act → World → Prop) (K : Act → World → Prop), Inv C F st' a w → (∀ C' a' w', Inv C' F (t.app st') a' w' → K a' w') → wpOp P ops Q i K a w
theorem any_sound (l0 : Option Nat) {P : Program} {ops : Array Oper} {T : Nat → Tx} {st : St} {F : Fd} {Q : Exit → Act → World → Prop} {X : St → Prop} (hX : ∀ l, X (foldI T l st)) (hd : ∀ i, i < ops.size → DoesX X P ops i (T i) (foldI T (List.range i) st))
    (ha : ∀ i j, i < j → j < ops.size → ¬ Anc ops i j → (T i).apart (T j) = true) (hb : ∀ (j : Nat) o, ops[j]? = some o → ∀ e ∈ o.after, Region.binds .any e = true → e.on < j)
    (hQ : ∀ C a w, Inv C F (foldI T (List.range ops.size) st) a w → Q .normal a w) :
    ∀ (fuel : Nat) (listed : Array Bool) (C : Cx) (a : Act) (w : World), listed.size = ops.size → Down ops listed → cnt (fun j => listed.getD j false) ops.size ≤ fuel → Inv C F (foldI T ((List.range ops.size).filter fun j => listed.getD j false) st) a w → wpAnyIn (wideR l0) 0 P .any ops Q fuel listed a w := by
  -- when nothing is ready, all is done
  have done : ∀ (listed : Array Bool) (C : Cx) (a : Act) (w : World), listed.size = ops.size → Region.ready .any ops listed = [] → Inv C F (foldI T ((List.range ops.size).filter fun j => listed.getD j false) st) a w → Q .normal a w := fun listed C a w hs hr hi => by
    have all : ∀ j, j < ops.size → listed.getD j false = true := fun j => by
      induction j using Nat.strongRecOn with
      | _ j ih =>
        intro hj
        by_cases hl : listed.getD j false = true
        · exact hl
        · exfalso
          have : j ∈ Region.ready .any ops listed := mem_ready.2 ⟨by
            have hsz : j < listed.size := by omega
            simp only [Array.getD_eq_getD_getElem?, Array.getElem?_eq_getElem hsz, Option.getD_some] at hl ⊢
            simpa using hl, ops[j], Array.getElem?_eq_getElem hj, fun e he hb' => ih e.on (hb j _ (Array.getElem?_eq_getElem hj) e he hb') (by have := hb j _ (Array.getElem?_eq_getElem hj) e he hb'; omega)⟩
          rw [hr] at this; cases this
    rw [filter_eq (q := fun _ => true) (fun j hj => all j hj)] at hi
    rw [List.filter_eq_self.2 (fun _ _ => rfl)] at hi
    exact hQ C a w hi
  have step : ∀ (fuel : Nat), (∀ (listed : Array Bool) (C : Cx) (a : Act) (w : World), listed.size = ops.size → Down ops listed → cnt (fun j => listed.getD j false) ops.size ≤ fuel → Inv C F (foldI T ((List.range ops.size).filter fun j => listed.getD j false) st) a w → wpAnyIn (wideR l0) 0 P .any ops Q fuel listed a w) →
      ∀ (listed : Array Bool) (C : Cx) (a : Act) (w : World), listed.size = ops.size → Down ops listed → cnt (fun j => listed.getD j false) ops.size ≤ fuel + 1 → Inv C F (foldI T ((List.range ops.size).filter fun j => listed.getD j false) st) a w →
        ∀ i ∈ Region.ready .any ops listed, wpOpIn (wideR l0) 0 P ops Q i (wpAnyIn (wideR l0) 0 P .any ops Q fuel (listed.setIfInBounds i true)) a w := fun fuel ih listed C a w hs hdn hc hi i hir => by
    obtain ⟨hl, o, ho, hpre⟩ := mem_ready.1 hir
    have hin : i < ops.size := (Array.getElem?_eq_some_iff.1 ho).1
    have hlt : i < listed.size := by omega
    have hSi : listed.getD i false = false := by
      simp only [Array.getD_eq_getD_getElem?, Array.getElem?_eq_getElem hlt, Option.getD_some] at hl ⊢
      exact hl
    have hS1 : (listed.setIfInBounds i true).getD i false = true := by simp [hlt]
    have hS2 : ∀ j, j ≠ i → (listed.setIfInBounds i true).getD j false = listed.getD j false := fun j hj => getD_set_ne false (fun e => hj e.symm)
    have hap : ∀ j, i < j → listed.getD j false = true → (T j).apart (T i) = true := fun j hij hj => by
      have hjn : j < ops.size := by
        by_cases hq : j < ops.size
        · exact hq
        · simp [Array.getElem?_eq_none (show listed.size ≤ j by omega)] at hj
      have := ha i j hij hjn (fun hA => by have := hA.down hdn hj; rw [hSi] at this; cases this)
      simp only [Tx.apart, Bool.and_eq_true] at this ⊢
      exact ⟨this.2, this.1⟩
    refine wpOp_in (ds := F.dfs) hi.nd ((hd i hin).2 _ (hX _) ?_ C F a w (fun _ _ _ => False) _ hi fun C' a' w' hi' => ⟨hi'.nd, ih _ C' a' w' (by simp [hs]) ?_ ?_ ?_⟩) l0
    · have hv := (hd i hin).1
      -- those that are done, and no ancestors: all away
      have unb : ∀ j, j < ops.size → j ≠ i → (listed.getD j false = true ∧ i < j ∨ listed.getD j false = false ∧ j < i) → (T i).away (T j) = true := fun j hj hne h => by
        rcases h with ⟨h1, h2⟩ | ⟨h1, h2⟩
        · have := hap j h2 h1
          simp only [Tx.apart, Bool.and_eq_true] at this
          exact this.2
        · have := ha j i h2 hin (fun hA => by have := hA.ready hdn hir; rw [h1] at this; cases this)
          simp only [Tx.apart, Bool.and_eq_true] at this
          exact this.2
      have split : (List.range ops.size).filter (fun j => listed.getD j false) = (List.range i).filter (fun j => listed.getD j false) ++ ((List.range ops.size).drop i).filter (fun j => listed.getD j false) := by
        have e0 : List.range ops.size = List.range i ++ (List.range ops.size).drop i := by
          have h0 := List.take_append_drop i (List.range ops.size)
          rw [List.take_range, Nat.min_eq_left (Nat.le_of_lt hin)] at h0
          exact h0.symm
        rw [← List.filter_append, ← e0]
      rw [split, foldI_append, foldI_away hv _ (fun j hj => by
        obtain ⟨h1, h2⟩ := List.mem_filter.1 hj
        obtain ⟨q, hq⟩ := List.mem_iff_getElem?.1 h1
        rw [List.getElem?_drop] at hq
        have hlt : i + q < ops.size := by have := (List.getElem?_eq_some_iff.1 hq).1; simpa using this
        rw [List.getElem?_range hlt] at hq
        cases hq
        have hne : i + q ≠ i := fun e => by rw [e, hSi] at h2; cases h2
        exact unb _ hlt hne (.inl ⟨h2, by omega⟩))]
      -- those not done ahead of i are taken out, the last one first
      have out : ∀ m, m ≤ i → ∀ k, k + m = i → (T i).Same (foldI T ((List.range i).filter fun j => listed.getD j false || decide (j < m)) st) (foldI T (List.range i) st) := fun m hm k => by
        induction k generalizing m with
        | zero =>
          intro e
          obtain rfl : m = i := by omega
          rw [filter_eq (q := fun _ => true) (fun j hj => by simp [hj]), List.filter_eq_self.2 (fun _ _ => rfl)]
          exact Tx.Same.refl _ _
        | succ k ih =>
          intro e
          have h1 := ih (m + 1) (by omega) (by omega)
          cases hl : listed.getD m false with
          | true =>
            rw [filter_eq (q := fun j => listed.getD j false || decide (j < m + 1)) (fun j hj => by
              by_cases e1 : j = m
              · subst e1; simp [hl]
              · have : decide (j < m) = decide (j < m + 1) := by simp; omega
                rw [this])]
            exact h1
          | false =>
            have hp := fold_put (T := T) (S := fun j => listed.getD j false || decide (j < m)) (S' := fun j => listed.getD j false || decide (j < m + 1)) (i := m) (st := st) (by simp [hl]) (by simp) (fun j hj => by
              have : decide (j < m + 1) = decide (j < m) := by simp; omega
              simp only [this]) (fun j hj hS => by
              simp only [Bool.or_eq_true, decide_eq_true_eq] at hS
              have hlj : listed.getD j false = true := hS.resolve_right (by omega)
              have hjn : j < ops.size := by
                by_cases hq : j < ops.size
                · exact hq
                · simp [Array.getElem?_eq_none (show listed.size ≤ j by omega)] at hlj
              have := ha m j hj hjn (fun hA => by have := hA.down hdn hlj; rw [hl] at this; cases this)
              simp only [Tx.apart, Bool.and_eq_true] at this ⊢
              exact ⟨this.2, this.1⟩) i (by omega)
            rw [hp] at h1
            exact (Tx.away_iff hv (unb m (by omega) (by omega) (.inr ⟨hl, by omega⟩)) _).1 h1
      have h0 := out 0 (Nat.zero_le _) i (by omega)
      rw [filter_eq (q := fun j => listed.getD j false) (fun j hj => by simp)] at h0
      exact h0
    · intro j oj hoj hlj e he hbe
      by_cases ej : j = i
      · subst ej
        rw [ho] at hoj; cases hoj
        exact getD_set_true (hpre e he hbe)
      · rw [hS2 j ej] at hlj
        exact getD_set_true (hdn j oj hoj hlj e he hbe)
    · have := (cnt_set (l := fun j => listed.getD j false) (l' := fun j => (listed.setIfInBounds i true).getD j false) hSi hS1 hS2 ops.size).1 hin
      omega
    · rw [fold_put (S := fun j => listed.getD j false) hSi hS1 hS2 hap ops.size hin]
      exact hi'
  intro fuel
  induction fuel with
  | zero =>
    intro listed C a w hs hdn hc hi
    have hr : Region.ready .any ops listed = [] := by
      cases hq : Region.ready .any ops listed with
      | nil => rfl
      | cons i rs =>
        have hm : i ∈ Region.ready .any ops listed := by rw [hq]; simp
        obtain ⟨hl, o, ho, _⟩ := mem_ready.1 hm
        have hin : i < ops.size := (Array.getElem?_eq_some_iff.1 ho).1
        have h1 := cnt_zero (l := fun j => listed.getD j false) ops.size (Nat.le_zero.1 hc) i hin
        have hlt : i < listed.size := by omega
        simp only [Array.getD_eq_getD_getElem?, Array.getElem?_eq_getElem hlt, Option.getD_some] at hl h1
        rw [hl] at h1; cases h1
    exact ⟨hr, done listed C a w hs hr hi⟩
  | succ fuel ih =>
    intro listed C a w hs hdn hc hi
    exact ⟨fun hr => done listed C a w hs hr hi, step fuel ih listed C a w hs hdn hc hi⟩

/-! What the operations of a drawn region do, one behind the other. -/
def allP (P : Program) (o : Oper) (st : St) (k : Tx → Prop) : Prop :=
  cop P (o.dst.getD 0) o st fun g st' => st'.next (stills o.op) o.dst g fun st' => st'.force fun st' => k (.all st')
/-- The rows that an append gives up. -/
def appKills (d : Nat) (s : G) (st : St) : List Nat :=
  match s with
  | .own kk _ _ => [kk]
  | _ => match st.rows.getD d none with
    | none => []
    | some _ => [d]
def St.vals (st : St) (L : List Nat) : List G := L.map fun d => st.slots.getD d .junk
/-- A call by place in a drawn region: one that is handed just one variable, and brings nothing new, turns that one alone. -/
def oneD (d : Nat) (B R : List Nat) (st : St) (q : G × List (Option (List G)) × List (Option (List (List G)))) (kt : Nat → List G → G → Prop) (km : G → St → Prop) : Prop :=
  match B, R, q.2.1, q.2.2 with
  | [b], [], [some cs], [] => bif Nat.beq cs.length (cellsB st b).length then fL (cs.map (ren0 (fun i => [b][i]?) (fun i => ([] : List Nat)[i]?))) fun cs' => kt b cs' (ren (fun i => [b][i]?) (fun i => ([] : List Nat)[i]?) q.1)
      else backP d B R st q km
  | _, _, _, _ => backP d B R st q km
def placeD (P : Program) (d : Nat) (f : FuncId) (gs : List G) (st : St) (kt : Nat → List G → G → Prop) (km : G → St → Prop) : Prop :=
  fI (seenB st gs) fun B => fI (seenR st gs B) fun R =>
  bif B.all (fun b => (st.boxes.getD b none).isSome) && R.all (fun k => (st.rows.getD k none).isSome) && distinct B && distinct R then
    fS (gs.map (ren (pos B) (pos R))) fun args => fBs (B.map fun b => (cellsB st b).map (ren0 (pos B) (pos R))) fun bs => fRs (R.map fun k => (st.rows.getD k none).getD []) fun rs =>
      ∃ q, Fp P f args bs rs q ∧ oneD d B R st q kt km
  else False
def typedG : G → Bool
  | .nilt | .ownt .. => true
  | _ => false
def dcop (P : Program) (L : List Nat) (o : Oper) (st : St) (k : Tx → Prop) : Prop :=
  match o.op with
  | .load t x => match P.underlying t with
    | none => False
    | some d => match st.ev x with
      | .ptr b off => loadP P t st (.ptr b off) fun g => fA g fun g => k (.tr ⟨o.dst, g, none, none, L, some (b, off, wide P d t), false⟩ (st.vals L))
      | .elt row off => loadP P t st (.elt row off) fun g => fA g fun g => k (.tr ⟨o.dst, g, none, none, L, none, false⟩ (st.vals L))
      | .eltw kk i off => loadP P t st (.eltw kk i off) fun g => fA g fun g => k (.tr ⟨o.dst, g, none, none, L, none, true⟩ (st.vals L))
      | _ => False
  | .store t p x => match P.underlying t, st.ev p with
    | some _, .ptr b off => match st.boxes.getD b none with
      | some cs => bif okReg (st.ev x) && ((st.ev x).cells.length == P.cellsOf t) && Nat.ble (off + P.cellsOf t) cs.length then k (.tr ⟨o.dst, .junk, some (b, off, (st.ev x).cells), none, L, none, false⟩ (st.vals L)) else False
      | none => False
    | _, _ => allP P o st k
  | .alloc t => match o.dst, zeroCells P t with
    | some d, some cs => bif (Nat.blt d st.boxes.length && Nat.blt d st.slots.length) && (st.boxes.getD d none).isNone && (typedZ cs).isNone then k (.tr ⟨some d, .ptr d 0, none, some (d, cs), L, none, false⟩ (st.vals L)) else False
    | _, _ => False
  | .box _ x => bif givB o then False else match o.dst with
    | some d => bif (Nat.blt d st.boxes.length && Nat.blt d st.slots.length) && (st.boxes.getD d none).isNone && okReg (st.ev x) then k (.tr ⟨some d, .ptr d 0, none, some (d, (st.ev x).cells), L, none, false⟩ (st.vals L)) else False
    | none => False
  | .call { callee := .value f, args, argTypes } => match st.ev f with
    | .fn f caps => bif isUns P argTypes.toList || ovlK.any (Nat.beq f) then allP P o st k else fS (args.toList.map st.ev ++ caps) fun gs => bif gs.all G.closed then (∃ g, Fv P f gs g ∧ bif g.closedR then fA g fun g => k (.tr ⟨o.dst, g, none, none, L, none, false⟩ (st.vals L)) else False) ∨ (placeD P (o.dst.getD 0) f gs st (fun b cs g => fA g fun g => fN cs.length fun n => k (.tr ⟨o.dst, g, some (b, 0, cs), none, L, some (b, 0, n), false⟩ (st.vals L))) fun g st' => fA g fun g => k (.mem o.dst g L (seenR st gs (seenB st gs)) st'.boxes st'.rows))
        else (lendP P f gs st fun g _ => fA g fun g => k (.tr ⟨o.dst, g, none, none, L, none, true⟩ (st.vals L))) ∨ (placeD P (o.dst.getD 0) f gs st (fun b cs g => fA g fun g => fN cs.length fun n => k (.tr ⟨o.dst, g, some (b, 0, cs), none, L, some (b, 0, n), false⟩ (st.vals L))) fun g st' => fA g fun g => k (.mem o.dst g L (seenR st gs (seenB st gs)) st'.boxes st'.rows))
    | _ => False
  | .call { callee := .builtin .append, args, argTypes } => match args.toList.map st.ev, argTypes[0]?, argTypes[1]? with
    | [s, x], some tS, some tX => bif typedG s then False else bif isF s || isIntT P tX then allP P o st k else appP P (o.dst.getD 0) s x tS tX st fun g st' => fA g fun g => st'.force fun st' => k (.mem o.dst g L (appKills (o.dst.getD 0) s st) st'.boxes st'.rows)
    | _, _, _ => False
  | .call { callee := .builtin .unsafeSliceData, args, .. } => dataT (args.toList.map st.ev) fun g => fA g fun g => k (.tr ⟨o.dst, g, none, none, L, none, false⟩ (st.vals L))
  | .lookup t x key ok => lookP P t st (st.ev x) (st.ev key) ok fun g => fA g fun g => k (.tr ⟨o.dst, g, none, none, L, none, true⟩ (st.vals L))
  | op => bif pureOp op && !(bldB o) then xop P 0 op st fun g _ => fA g fun g => k (.tr ⟨o.dst, g, none, none, L, none, ownOp st op⟩ (st.vals L)) else allP P o st k
end Go.Proofs.YtijohhdgecadnaaDoor.Av
namespace Go.Proofs.YtijohhdgecadnaaDoor.Av
open Go Go.RowKit
set_option linter.unusedVariables false
set_option linter.unusedSimpArgs false

theorem look_ev {ops : Array Oper} {o : Oper} {st st' : St} (h : ∀ d ∈ o.looksAt ops, st'.slots.getD d .junk = st.slots.getD d .junk) : ∀ x ∈ o.op.operands.toList, st'.ev x = st.ev x := fun x hx => by
  cases x with
  | tmp t => exact h t (List.mem_append_left _ (List.mem_filterMap.2 ⟨.tmp t, hx, rfl⟩))
  | _ => rfl

theorem Inv.setBox_eq {st : St} {b : Nat} {cs us : List G} {off : Nat} (h : st.boxes.getD b none = some cs) : st.boxes.modify b (Option.map fun old => blit old off us) = st.boxes.set b (some (blit cs off us)) := by
  apply List.ext_getElem?
  intro i
  rw [List.getElem?_modify, List.getElem?_set]
  by_cases e : b = i
  · subst e
    rw [List.getD_eq_getElem?_getD] at h
    cases hx : st.boxes[b]? with
    | none => rw [hx] at h; cases h
    | some o =>
      rw [hx] at h
      simp only [Option.getD_some] at h
      subst h
      have : b < st.boxes.length := (List.getElem?_eq_some_iff.1 hx).1
      simp [this]
  · simp [e]

theorem newBox_none {st : St} {d : Nat} {cs : List G} (h : (st.boxes.getD d none).isNone = true) : st.newBox d cs = st.setBox d cs := by
  unfold St.newBox
  cases hx : st.boxes.getD d none with
  | none => rfl
  | some _ => rw [hx] at h; cases h

/-- What an operation comes to is one value and one state. -/
theorem vop_pt {P : Program} {d : Nat} {op : Op} {st : St} {k : G → St → Prop} (h : vop P d op st k) : ∃ g s, k g s ∧ vop P d op st fun g' s' => g' = g ∧ s' = s := by
  cases hp : pureOp op with
  | true =>
    obtain ⟨g, h1, h2⟩ := vop_det hp h
    exact ⟨g, st, h1, h2 d st (fun _ => rfl) (fun _ _ => rfl) _ ⟨rfl, rfl⟩⟩
  | false =>
    cases op with
    | alloc t =>
      simp only [vop] at h ⊢
      split at h
      · rename_i cs hz
        cases hc : Nat.blt d st.boxes.length && Nat.blt d st.slots.length with
        | false => rw [hc] at h; exact h.elim
        | true => rw [hc] at h; exact ⟨_, _, h, by simp⟩
      · exact h.elim
    | box t x =>
      simp only [vop] at h ⊢
      cases hc : (Nat.blt d st.boxes.length && Nat.blt d st.slots.length) && okReg (st.ev x) with
      | false => rw [hc] at h; exact h.elim
      | true => rw [hc] at h; exact ⟨_, _, h, by simp⟩
    | load t x =>
      simp only [vop] at h ⊢
      unfold loadP at h ⊢
      split at h
      · exact h.elim
      · rename_i dd hu
        split at h
        · rename_i b off hx
          split at h
          · rename_i cs hcs
            cases hc : Nat.ble (off + wide P dd t) cs.length with
            | false => rw [hc] at h; exact h.elim
            | true => rw [hc] at h; exact ⟨_, _, h, by simp⟩
          · exact h.elim
        · rename_i row off hx
          cases hc : Nat.ble (off + wide P dd t) row.length with
          | false => rw [hc] at h; exact h.elim
          | true => rw [hc] at h; exact ⟨_, _, h, by simp⟩
        · rename_i kk i off hx
          split at h
          · rename_i xs hxs
            obtain ⟨row, h1, h⟩ := h
            cases hc : Nat.ble (off + wide P dd t) row.length with
            | false => rw [hc] at h; exact h.elim
            | true => rw [hc] at h; exact ⟨_, _, h, row, h1, by simp [hc]⟩
          · exact h.elim
        · exact h.elim
    | store t p x =>
      simp only [vop] at h ⊢
      unfold storeP at h ⊢
      split at h
      · exact h.elim
      · rename_i dd hu
        split at h
        · rename_i b off hx
          split at h
          · rename_i cs hcs
            cases hc : okReg (st.ev x) && ((st.ev x).cells.length == P.cellsOf t) && Nat.ble (off + P.cellsOf t) cs.length with
            | false => rw [hc] at h; exact h.elim
            | true => rw [hc] at h; exact ⟨_, _, h, by simp⟩
          · exact h.elim
        · exact h.elim
    | call c =>
      obtain ⟨callee, args, ats⟩ := c
      cases callee with
      | builtin b =>
        cases b <;> first | (simp [pureOp] at hp; done) | skip
        all_goals (simp [vop] at h; done)
      | _ => simp [vop] at h
    | slice t x lo hi mx => simp [pureOp] at hp
    | _ => first | (simp [pureOp] at hp; done) | (simp [vop] at h; done)
theorem xop_pt {P : Program} {d : Nat} {op : Op} {st : St} {k : G → St → Prop} (h : xop P d op st k) : ∃ g s, k g s ∧ xop P d op st fun g' s' => g' = g ∧ s' = s := by
  cases hp : pureOp op with
  | true =>
    obtain ⟨g, h1, h2⟩ := xop_det hp h
    exact ⟨g, st, h1, h2 d st (fun _ => rfl) (fun _ _ => rfl) _ ⟨rfl, rfl⟩⟩
  | false =>
    unfold xop at h ⊢
    split at h
    · rename_i t l c
      unfold makeP at h ⊢
      split at h
      · rename_i hz
        split at h
        · rename_i zc hzc
          generalize hb : (zc.all G.closed0 && Nat.blt 0 _ && Nat.blt d st.rows.length) = b at h ⊢
          cases b with
          | false => exact h.elim
          | true => exact ⟨_, _, h.2, h.1, rfl, rfl⟩
        · exact h.elim
      · exact h.elim
    · rename_i t p x
      split at h
      · rename_i kk i off hpx
        unfold storeW at h
        split at h
        · rename_i dd xs hu hxs
          obtain ⟨row, h1, h⟩ := h
          cases hc : okReg (st.ev x) && ((st.ev x).cells.length == P.cellsOf t) && (st.ev x).cells.all G.closed0 with
          | false => rw [hc] at h; exact h.elim
          | true =>
            rw [hc] at h
            exact ⟨_, _, h, by simp only [hpx]; unfold storeW; rw [hu, hxs]; exact ⟨row, h1, by rw [hc]; first | exact ⟨rfl, rfl⟩ | exact ⟨trivial, rfl⟩ | exact ⟨trivial, trivial⟩ | trivial⟩⟩
        · exact h.elim
      · rename_i hx
        obtain ⟨g, s, h1, h2⟩ := vop_pt h
        refine ⟨g, s, h1, ?_⟩
        first
        | exact h2
        | (split
           · rename_i e; exact absurd e (hx _ _ _)
           · exact h2)
    · simp [pureOp] at hp
    · simp [pureOp] at hp
    · simp [pureOp] at hp
    · simp [pureOp] at hp
    · simp [pureOp] at hp
    · simp [pureOp] at hp
    · simp [pureOp] at hp
    · obtain ⟨g, s, h1, h2⟩ := vop_pt h
      exact ⟨g, s, h1, h2⟩
theorem src_pt {st : St} {x : G} {k : List (List G) → Prop} (h : srcP st x k) : ∃ ys, k ys ∧ ∀ k2 : List (List G) → Prop, k2 ys → srcP st x k2 := by
  unfold srcP at h ⊢
  split at h
  · exact ⟨_, h, fun k2 hk => hk⟩
  · exact ⟨_, h, fun k2 hk => hk⟩
  · exact ⟨_, h, fun k2 hk => hk⟩
  · exact ⟨_, h, fun k2 hk => hk⟩
  · split at h
    · exact ⟨_, h.2, fun k2 hk => ⟨h.1, hk⟩⟩
    · exact h.elim
  · split at h
    · exact ⟨_, h.2, fun k2 hk => ⟨h.1, hk⟩⟩
    · exact h.elim
  · exact ⟨_, h, fun k2 hk => hk⟩
  · exact h.elim
theorem app_pt {P : Program} {d : Nat} {s x : G} {tS tX : TypeId} {st : St} {k : G → St → Prop} (h : appP P d s x tS tX st k) : ∃ g s', k g s' ∧ appP P d s x tS tX st fun g' s2 => g' = g ∧ s2 = s' := by
  unfold appP at h ⊢
  split at h
  · rename_i e dX hu hX
    cases hq : isInt dX || (P.bytesOf e == 0) || (zeroCells P e).isNone || (P.cellsOf e == 0) || !(Nat.blt d st.rows.length) with
    | true => rw [hq] at h; exact h.elim
    | false =>
      rw [hq] at h
      simp only [cond_false] at h ⊢
      obtain ⟨ys, h, q⟩ := src_pt h
      cases hok : okRows (P.cellsOf e) ys with
      | false => rw [hok] at h; exact h.elim
      | true =>
        rw [hok] at h
        simp only [cond_true] at h
        split at h
        · exact ⟨_, _, h.2, q _ (by rw [hok]; first | exact ⟨h.1, rfl, rfl⟩ | exact ⟨h.1, trivial, trivial⟩ | exact ⟨h.1, trivial⟩)⟩
        · exact ⟨_, _, h.2, q _ (by rw [hok]; first | exact ⟨h.1, rfl, rfl⟩ | exact ⟨h.1, trivial, trivial⟩ | exact ⟨h.1, trivial⟩)⟩
        · rename_i kk off len
          split at h
          · rename_i xs hxs
            exact ⟨_, _, h.2, q _ (by rw [hok]; simp only [cond_true, hxs]; first | exact ⟨h.1, rfl, rfl⟩ | exact ⟨h.1, trivial, trivial⟩ | exact ⟨h.1, trivial⟩)⟩
          · exact h.elim
        · split at h
          · rename_i xs hxs
            exact ⟨_, _, h.2, q _ (by rw [hok]; simp only [cond_true, hxs]; first | exact ⟨h.1, rfl, rfl⟩ | exact ⟨h.1, trivial, trivial⟩ | exact ⟨h.1, trivial⟩)⟩
          · exact h.elim
        · cases hc : Nat.beq (P.cellsOf e) 1 with
          | false => rw [hc] at h; exact h.elim
          | true =>
            rw [hc] at h
            exact ⟨_, _, h.2, q _ (by rw [hok]; simp only [cond_true, hc]; first | exact ⟨h.1, rfl, rfl⟩ | exact ⟨h.1, trivial, trivial⟩ | exact ⟨h.1, trivial⟩)⟩
        · rename_i kk len T hdup
          cases hc : Nat.beq T e && Nat.beq (P.cellsOf e) 1 with
          | false => rw [hc] at h; exact h.elim
          | true =>
            rw [hc] at h
            simp only [cond_true] at h
            split at h
            · rename_i xs hxs
              exact ⟨_, _, h.2, q _ (by rw [hok]; simp only [cond_true, hc, hxs]; first | exact ⟨h.1, rfl, rfl⟩ | exact ⟨h.1, trivial, trivial⟩ | exact ⟨h.1, trivial⟩)⟩
            · exact h.elim
        · exact h.elim
  · exact h.elim
theorem dn1_pt {st : St} (g : G) (k : G → Prop) (h : dn1 st g k) : ∃ g', k g' ∧ ∀ st2 : St, st2.rows = st.rows → ∀ k2 : G → Prop, k2 g' → dn1 st2 g k2 := by
  cases g with
  | own kk off len =>
    simp only [dn1] at h
    split at h
    · rename_i xs hxs
      exact ⟨_, h.2, fun st2 e k2 hk => by simp only [dn1, e, hxs]; exact ⟨h.1, hk⟩⟩
    · exact h.elim
  | _ => exact ⟨_, h, fun st2 e k2 hk => hk⟩
theorem dnL_pt {st : St} : ∀ (gs : List G) (k : List G → Prop), dnL st gs k → ∃ gs', k gs' ∧ ∀ st2 : St, st2.rows = st.rows → ∀ k2 : List G → Prop, k2 gs' → dnL st2 gs k2 := by
  intro gs
  induction gs with
  | nil => intro k h; exact ⟨[], h, fun st2 e k2 hk => hk⟩
  | cons g gs ih =>
    intro k h
    have h : dn1 st g fun g' => dnL st gs fun gs' => k (g' :: gs') := h
    obtain ⟨g', h1, q1⟩ := dn1_pt g _ h
    obtain ⟨gs', h2, q2⟩ := ih _ h1
    exact ⟨_, h2, fun st2 e k2 hk => show dn1 st2 g fun g' => dnL st2 gs fun gs' => k2 (g' :: gs') from q1 st2 e (fun g' => dnL st2 gs fun gs' => k2 (g' :: gs')) (q2 st2 e (fun gs' => k2 (g' :: gs')) hk)⟩
theorem dn2_pt {st : St} (g : G) (k : G → Prop) (h : dn2 st g k) : ∃ g', k g' ∧ ∀ st2 : St, st2.rows = st.rows → ∀ k2 : G → Prop, k2 g' → dn2 st2 g k2 := by
  by_cases hg : ∃ gs, g = .agg gs
  · obtain ⟨gs, rfl⟩ := hg
    obtain ⟨gs', h1, q1⟩ := dnL_pt gs _ h
    exact ⟨_, h1, fun st2 e k2 hk => q1 st2 e _ hk⟩
  · have e : ∀ (s : St) (k : G → Prop), dn2 s g k = dn1 s g k := fun s k => by cases g <;> first | rfl | exact absurd ⟨_, rfl⟩ hg
    rw [e] at h
    obtain ⟨g', h1, q1⟩ := dn1_pt g k h
    exact ⟨g', h1, fun st2 e2 k2 hk => by rw [e]; exact q1 st2 e2 k2 hk⟩
theorem dnT_pt {st : St} : ∀ (gs : List G) (k : List G → Prop), dnT st gs k → ∃ gs', k gs' ∧ ∀ st2 : St, st2.rows = st.rows → ∀ k2 : List G → Prop, k2 gs' → dnT st2 gs k2 := by
  intro gs
  induction gs with
  | nil => intro k h; exact ⟨[], h, fun st2 e k2 hk => hk⟩
  | cons g gs ih =>
    intro k h
    have h : dn2 st g fun g' => dnT st gs fun gs' => k (g' :: gs') := h
    obtain ⟨g', h1, q1⟩ := dn2_pt g _ h
    obtain ⟨gs', h2, q2⟩ := ih _ h1
    exact ⟨_, h2, fun st2 e k2 hk => show dn2 st2 g fun g' => dnT st2 gs fun gs' => k2 (g' :: gs') from q1 st2 e (fun g' => dnT st2 gs fun gs' => k2 (g' :: gs')) (q2 st2 e (fun gs' => k2 (g' :: gs')) hk)⟩
theorem lend_pt {P : Program} {f : FuncId} {gs : List G} {st : St} {k : G → St → Prop} (h : lendP P f gs st k) : ∃ g, k g st ∧ ∀ (st2 : St), st2.rows = st.rows → ∀ k2 : G → St → Prop, k2 g st2 → lendP P f gs st2 k2 := by
  unfold lendP at h
  obtain ⟨gs', h, q⟩ := dnT_pt gs _ h
  rw [fS_eq] at h
  cases hq : gs'.all G.closed with
  | false => rw [hq] at h; exact h.elim
  | true =>
    rw [hq] at h
    obtain ⟨g, hF, h⟩ := h
    cases hg : g.flatR with
    | false => rw [hg] at h; exact h.elim
    | true =>
      rw [hg] at h
      refine ⟨g, h, fun st2 e k2 hk => q st2 e _ ?_⟩
      rw [fS_eq, hq]
      refine ⟨g, hF, ?_⟩
      rw [hg]
      exact hk
theorem place_pt {P : Program} {f : FuncId} {d : Nat} {gs : List G} {st : St} {k : G → St → Prop} (h : placeP P d f gs st k) : ∃ g s, k g s ∧ placeP P d f gs st fun g' s' => g' = g ∧ s' = s := by
  unfold placeP at h ⊢
  simp only [fI_eq] at h ⊢
  cases hq : (seenB st gs).all (fun b => (st.boxes.getD b none).isSome) && (seenR st gs (seenB st gs)).all (fun k => (st.rows.getD k none).isSome) && distinct (seenB st gs) && distinct (seenR st gs (seenB st gs)) with
  | false => rw [hq] at h; exact h.elim
  | true =>
    rw [hq] at h
    simp only [cond_true, fS_eq, fBs_eq, fRs_eq] at h ⊢
    obtain ⟨q, hF, h⟩ := h
    unfold backP at h
    cases hb : backOk (idsOf (seenB st gs) d st.slots.length q.2.1.length) (idsOf (seenR st gs (seenB st gs)) d st.slots.length q.2.2.length) (seenB st gs) (seenR st gs (seenB st gs)) st q with
    | false => rw [hb] at h; exact h.elim
    | true =>
      rw [hb] at h
      simp only [cond_true, St.force_eq] at h
      exact ⟨_, _, h, ⟨q, hF, by unfold backP; rw [hb]; simp only [cond_true, St.force_eq]; exact ⟨trivial, trivial⟩⟩⟩
theorem call_pt {P : Program} {f : FuncId} {d : Nat} {gs : List G} {st : St} {k : G → St → Prop} (h : callP P d f gs st k) : ∃ g s, k g s ∧ callP P d f gs st fun g' s' => g' = g ∧ s' = s := by
  unfold callP at h ⊢
  cases hc : gs.all G.closed with
  | true =>
    rw [hc] at h
    rcases h with ⟨g, hF, h⟩ | h
    · cases hg : g.closedR with
      | false => rw [hg] at h; exact h.elim
      | true => rw [hg] at h; exact ⟨g, st, h, .inl ⟨g, hF, by rw [hg]; exact ⟨rfl, rfl⟩⟩⟩
    · obtain ⟨g, s, h1, h2⟩ := place_pt h
      exact ⟨g, s, h1, .inr h2⟩
  | false =>
    rw [hc] at h
    simp only [cond_false] at h ⊢
    rcases h with h | h
    · obtain ⟨g, h1, q⟩ := lend_pt h
      exact ⟨g, st, h1, .inl (q st rfl _ ⟨rfl, rfl⟩)⟩
    · obtain ⟨g, s, h1, h2⟩ := place_pt h
      exact ⟨g, s, h1, .inr h2⟩
theorem convT_pt {P : Program} {src dst : TypeId} {b : Nat} {T : TypeId} {n : Nat} {k : G → Prop} (h : convT P src dst b T n k) : ∃ g, k g ∧ convT P src dst b T n fun g' => g' = g := by
  unfold convT at h ⊢
  split at h
  · cases hc : okSz P _ && Nat.blt 0 n with
    | false => rw [hc] at h; exact h.elim
    | true => rw [hc] at h; exact ⟨_, h, by simp only [cond_true]⟩
  · cases hc : (P.info? _).isSome with
    | false => rw [hc] at h; exact h.elim
    | true => rw [hc] at h; exact ⟨_, h.2, h.1, rfl⟩
  · exact h.elim
theorem uop_pt {P : Program} {d : Nat} {op : Op} {st : St} {k : G → St → Prop} (h : uop P d op st k) : ∃ g s, k g s ∧ uop P d op st fun g' s' => g' = g ∧ s' = s := by
  unfold uop at h ⊢
  split at h
  · unfold allocT at h ⊢
    split at h
    · rename_i cs hz
      split at h
      · rename_i cs' hty
        cases hc : Nat.blt d st.boxes.length && Nat.blt d st.slots.length with
        | false => rw [hc] at h; exact h.elim
        | true => rw [hc] at h; exact ⟨_, _, h, by simp only [cond_true]; exact ⟨trivial, trivial⟩⟩
      · exact xop_pt h
    · exact h.elim
  · split at h
    · obtain ⟨g, h1, h2⟩ := convT_pt h
      refine ⟨g, st, h1, ?_⟩
      unfold convT at h2 ⊢
      split at h2
      · rename_i hs hd
        cases hc : okSz P _ && Nat.blt 0 _ with
        | false => rw [hc] at h2; exact h2.elim
        | true => rw [hc] at h2; subst h2; simp only [cond_true]; exact ⟨trivial, trivial⟩
      · rename_i hs hd
        cases hc : (P.info? _).isSome with
        | false => rw [hc] at h2; exact h2.elim
        | true => rw [hc] at h2; obtain ⟨h3, h4⟩ := h2; subst h4; simp only [cond_true]; exact ⟨h3, trivial, trivial⟩
      · exact h2.elim
    · split at h
      · unfold toRowP at h ⊢
        split at h
        · split at h
          · cases hc : Nat.blt d st.rows.length && ovlK.isEmpty with
            | false => rw [hc] at h; exact h.elim
            | true =>
              rw [hc] at h
              simp only [cond_true] at h ⊢
              rcases h with ⟨h0, h⟩ | ⟨h0, h⟩
              · exact ⟨_, _, h, .inl ⟨h0, rfl, rfl⟩⟩
              · exact ⟨_, _, h, .inr ⟨h0, rfl, rfl⟩⟩
          · exact h.elim
        · exact h.elim
      · exact xop_pt h
    · exact xop_pt h
  · unfold dataT at h ⊢
    split at h
    · exact ⟨_, _, h, rfl, rfl⟩
    · exact ⟨_, _, h, rfl, rfl⟩
    · exact h.elim
  · unfold strT at h ⊢
    split at h
    · exact ⟨_, _, h.2, h.1, rfl, rfl⟩
    · split at h
      · rename_i e xs hpt hxs
        cases hc : Nat.beq e _ && Nat.beq (P.cellsOf e) 1 with
        | false => rw [hc] at h; exact h.elim
        | true =>
          rw [hc] at h
          obtain ⟨bs, h1, h2⟩ := h
          exact ⟨_, _, h2, by simp only [cond_true]; first | exact ⟨bs, h1, rfl, rfl⟩ | exact ⟨bs, h1, rfl, trivial⟩ | exact ⟨bs, h1, trivial⟩⟩
      · exact h.elim
    · exact h.elim
  · unfold clearP at h ⊢
    split at h
    · split at h
      · split at h
        · cases hc : List.all _ G.closed0 && !(Nat.beq (P.cellsOf _) 0) with
          | false => rw [hc] at h; exact h.elim
          | true => rw [hc] at h; exact ⟨_, _, h.2, by simp only [cond_true]; exact ⟨h.1, trivial, trivial⟩⟩
        · exact h.elim
      · exact h.elim
    · exact h.elim
  · exact xop_pt h
theorem uop_of_xop {P : Program} {d : Nat} {op : Op} {st : St} {k : G → St → Prop} (hp : pureOp op = true) (h : xop P d op st k) : uop P d op st k := by
  unfold uop
  split
  · simp [pureOp] at hp
  · split
    · rename_i b T n hx
      simp only [xop, hx, isNum, cond_false] at h
      unfold bytesP at h
      split at h
      · split at h
        · exact h.elim
        · exact h.elim
      · exact h.elim
    · rename_i s hx
      split
      · rename_i e he
        simp only [xop, hx, isNum, cond_true, vop, he] at h
        exfalso
        split at h <;> simp_all
      · exact h
    · exact h
  · simp [pureOp] at hp
  · simp [pureOp] at hp
  · simp [pureOp] at hp
  · exact h
theorem bld_pt {P : Program} {d : Nat} {t : TypeId} {len : Nat} {parts : Array (Nat × Operand)} {st : St} {k : G → St → Prop} (h : bldP P d t len parts st k) : ∃ g s, k g s ∧ bldP P d t len parts st fun g' s' => g' = g ∧ s' = s := by
  unfold bldP at h ⊢
  split at h
  · rename_i e hu
    split at h
    · rename_i zc hz
      cases hc : (P.cellsOf e == 0) || !(Nat.ble (len * P.cellsOf e) 16777216) || !(Nat.blt 0 len && Nat.blt d st.rows.length) with
      | true => rw [hc] at h; exact h.elim
      | false =>
        rw [hc] at h
        simp only [cond_false] at h ⊢
        split at h
        · rename_i gs hg
          cases hcl : gs.all G.closed0 with
          | false => rw [hcl] at h; exact h.elim
          | true =>
            rw [hcl] at h
            simp only [cond_true, fLL_eq] at h
            exact ⟨_, _, h, by simp [hu, hz, hg, hc, hcl, fLL_eq]⟩
        · exact h.elim
    · exact h.elim
  · exact h.elim
theorem valP_pt {de : TypeDesc} {v : List G} {k : G → Prop} (h : valP de v k) : ∃ g, k g ∧ ∀ k2 : G → Prop, k2 g → valP de v k2 := by
  unfold valP at h
  cases hq : aggD de with
  | true => rw [hq] at h; simp only [cond_true, fL_eq] at h; exact ⟨_, h, fun k2 h => by unfold valP; rw [hq]; simp only [cond_true, fL_eq]; exact h⟩
  | false =>
    rw [hq] at h
    simp only [cond_false] at h
    split at h
    · exact ⟨_, h, fun k2 h => by unfold valP; rw [hq]; exact h⟩
    · exact h.elim
theorem look_pt {P : Program} {t : TypeId} {st : St} {m key : G} {ok : Bool} {k : G → Prop} (h : lookP P t st m key ok k) : ∃ g, k g ∧ lookP P t st m key ok fun g' => g' = g := by
  unfold lookP at h ⊢
  split at h
  · rename_i K E dk de kk kn fl hd
    split at h
    · rename_i xs zc hxs hzc
      simp only [hd, hxs, hzc]
      cases hq : keyFit P K dk kn key && Nat.beq fl (flOf dk de) && (zAgg P E == aggD de) with
      | false => rw [hq] at h; exact h.elim
      | true =>
        rw [hq] at h
        simp only [cond_true] at h ⊢
        obtain ⟨ho, f, hf, v, b, hl, h⟩ := h
        obtain ⟨g, h, h2⟩ := valP_pt h
        cases ok with
        | true => exact ⟨_, h, ho, f, hf, v, b, hl, h2 _ rfl⟩
        | false => exact ⟨_, h, ho, f, hf, v, b, hl, h2 _ rfl⟩
    · exact h.elim
  · exact h.elim
theorem look_pt2 {P : Program} {t : TypeId} {st : St} {m key : G} {ok : Bool} {k : G → Prop} (h : lookP P t st m key ok k) : ∃ g, k g ∧ ∀ (st2 : St), st2.rows = st.rows → ∀ k2 : G → Prop, k2 g → lookP P t st2 m key ok k2 := by
  unfold lookP at h
  split at h
  · rename_i K E dk de kk kn fl hd
    split at h
    · rename_i xs zc hxs hzc
      cases hq : keyFit P K dk kn key && Nat.beq fl (flOf dk de) && (zAgg P E == aggD de) with
      | false => rw [hq] at h; exact h.elim
      | true =>
        rw [hq] at h
        simp only [cond_true] at h
        obtain ⟨ho, f, hf, v, b, hl, h⟩ := h
        obtain ⟨g, h, h2⟩ := valP_pt h
        cases ok with
        | true => exact ⟨_, h, fun st2 e k2 hk => by unfold lookP; rw [e]; simp only [hd, hxs, hzc, hq, cond_true]; exact ⟨ho, f, hf, v, b, hl, h2 _ hk⟩⟩
        | false => exact ⟨_, h, fun st2 e k2 hk => by unfold lookP; rw [e]; simp only [hd, hxs, hzc, hq, cond_true]; exact ⟨ho, f, hf, v, b, hl, h2 _ hk⟩⟩
    · exact h.elim
  · exact h.elim
theorem upd_pt {P : Program} {t : TypeId} {st : St} {m key x : G} {k : St → Prop} (h : updP P t st m key x k) : ∃ s, k s ∧ updP P t st m key x fun s' => s' = s := by
  unfold updP at h ⊢
  split at h
  · rename_i K E dk de kk kn fl hd
    split at h
    · rename_i xs hxs
      simp only [hd, hxs]
      cases hq : keyFit P K dk kn key && Nat.beq fl (flOf dk de) && valFit P E de x with
      | false => rw [hq] at h; exact h.elim
      | true =>
        rw [hq] at h
        simp only [cond_true] at h ⊢
        obtain ⟨ho, f, hf, h⟩ := h
        exact ⟨_, h, ho, f, hf, rfl⟩
    · exact h.elim
  · exact h.elim
theorem del_pt {P : Program} {gs : List G} {ts : List TypeId} {st : St} {k : G → St → Prop} (h : delP P gs ts st k) : ∃ g s, k g s ∧ delP P gs ts st fun g' s' => g' = g ∧ s' = s := by
  unfold delP at h ⊢
  split at h
  · split at h
    · rename_i K E dk de kk kn fl hd
      split at h
      · rename_i xs hxs
        simp only [hd, hxs]
        cases hq : keyFit P K dk kn _ && Nat.beq fl (flOf dk de) with
        | false => rw [hq] at h; exact h.elim
        | true =>
          rw [hq] at h
          simp only [cond_true] at h ⊢
          obtain ⟨ho, f, hf, h⟩ := h
          exact ⟨_, _, h, ho, f, hf, rfl, rfl⟩
      · exact h.elim
    · exact h.elim
  · exact h.elim
theorem mop_pt {P : Program} {d : Nat} {op : Op} {st : St} {k : G → St → Prop} (h : mop P d op st k) : ∃ g s, k g s ∧ mop P d op st fun g' s' => g' = g ∧ s' = s := by
  unfold mop at h ⊢
  split at h
  · unfold makeMP at h ⊢
    split at h
    · rename_i hd
      simp only [hd]
      cases hc : Nat.blt d st.rows.length with
      | false => rw [hc] at h; exact h.elim
      | true => rw [hc] at h; exact ⟨_, _, h, rfl, rfl⟩
    · exact h.elim
  · obtain ⟨g, h1, h2⟩ := look_pt h
    refine ⟨g, st, h1, ?_⟩
    simpa only [and_true] using h2
  · obtain ⟨s, h1, h2⟩ := upd_pt h
    refine ⟨_, s, h1, ?_⟩
    simpa only [true_and] using h2
  · obtain ⟨s, h1, h2⟩ := upd_pt h
    refine ⟨_, s, h1, ?_⟩
    simpa only [true_and] using h2
  · exact del_pt h
  · exact uop_pt h
theorem mop_of_uop {P : Program} {d : Nat} {op : Op} {st : St} {k : G → St → Prop} (hp : pureOp op = true) (h : uop P d op st k) : mop P d op st k := by
  unfold mop
  split
  · simp [pureOp] at hp
  · simp [pureOp] at hp
  · simp [pureOp] at hp
  · simp [pureOp] at hp
  · simp [pureOp] at hp
  · exact h
theorem fop_of_mop {P : Program} {d : Nat} {op : Op} {st : St} {k : G → St → Prop} (hp : pureOp op = true) (h : mop P d op st k) : fop P d op st k := by
  unfold fop
  split
  · simp [pureOp] at hp
  · simp [pureOp] at hp
  · exact h
theorem copySrc_pt {st : St} {x : G} {len : Nat} {k : List (List G) → Prop} (h : copySrc st x len k) : ∃ ys, k ys ∧ ∀ k2 : List (List G) → Prop, k2 ys → copySrc st x len k2 := by
  unfold copySrc at h ⊢
  split at h
  · split at h
    · exact ⟨_, h.2, fun k2 hk => ⟨h.1, hk⟩⟩
    · exact h.elim
  · exact ⟨_, h.2, fun k2 hk => ⟨h.1, hk⟩⟩
  · exact h.elim
theorem fop_pt {P : Program} {d : Nat} {op : Op} {st : St} {k : G → St → Prop} (h : fop P d op st k) : ∃ g s, k g s ∧ fop P d op st fun g' s' => g' = g ∧ s' = s := by
  unfold fop at h ⊢
  split at h
  · unfold capP at h ⊢
    split at h
    · split at h
      · rename_i hu; exact ⟨_, _, h, by simp only [hu]; first | exact ⟨rfl, rfl⟩ | exact ⟨trivial, trivial⟩ | trivial⟩
      · exact h.elim
    · exact h.elim
  · unfold copyP at h ⊢
    split at h
    · split at h
      · rename_i e kk off len hu hd
        split at h
        · rename_i xs hxs
          cases hc : Nat.beq (P.cellsOf e) 0 with
          | true => rw [hc] at h; exact h.elim
          | false =>
            rw [hc] at h
            simp only [cond_false] at h
            obtain ⟨ys, h, q⟩ := copySrc_pt h
            exact ⟨_, _, h.2, by simp only [hu, hd, hxs, hc, cond_false]; exact q _ ⟨h.1, rfl, rfl⟩⟩
        · exact h.elim
      · exact h.elim
    · exact h.elim
  · exact mop_pt h
theorem cop_pt {P : Program} {d : Nat} {o : Oper} {st : St} {k : G → St → Prop} (h : cop P d o st k) : ∃ g s, k g s ∧ cop P d o st fun g' s' => g' = g ∧ s' = s := by
  unfold cop at h ⊢
  split at h
  · split at h
    · cases hu : isUns P _ with
      | true =>
        rw [hu] at h
        simp only [cond_true] at h ⊢
        unfold escP at h ⊢
        split at h
        · exact ⟨_, _, h.2, h.1, rfl, rfl⟩
        · exact h.elim
      | false =>
        rw [hu] at h
        cases hov : ovlK.any (Nat.beq _) with
        | true =>
          rw [hov] at h
          simp only [cond_true, cond_false] at h ⊢
          unfold ovlP at h ⊢
          split at h
          · split at h
            · rename_i hxs hys
              exact ⟨_, _, h.2, by simp only [hxs, hys]; first | exact ⟨h.1, rfl, rfl⟩ | exact ⟨h.1, trivial, trivial⟩ | exact ⟨h.1, trivial⟩⟩
            · exact h.elim
          · split at h
            · rename_i hxs
              exact ⟨_, _, h.2, by simp only [hxs]; first | exact ⟨h.1, rfl, rfl⟩ | exact ⟨h.1, trivial, trivial⟩ | exact ⟨h.1, trivial⟩⟩
            · exact h.elim
          · exact h.elim
        | false => rw [hov] at h; simp only [fS_eq, cond_false] at h ⊢; exact call_pt h
    · simp only [fS_eq] at h ⊢; exact call_pt h
    · exact h.elim
  · split at h
    · rename_i s x tS tX heq ht0 ht1
      cases hI : isIntT P tX with
      | true =>
        rw [hI] at h
        simp only [cond_true] at h ⊢
        unfold appM at h ⊢
        split at h
        · split at h
          · rename_i xs zc hxs hzc
            cases hq : zc.all G.closed0 && !(Nat.beq (P.bytesOf _) 0) && !(Nat.beq (P.cellsOf _) 0) && Nat.blt d st.rows.length && (st.rows.getD d none).isNone with
            | false => rw [hq] at h; exact h.elim
            | true => rw [hq] at h; exact ⟨_, _, h.2, by simp only [hxs, hzc, hq, cond_true]; first | exact ⟨h.1, rfl, rfl⟩ | exact ⟨h.1, trivial, trivial⟩ | exact ⟨h.1, trivial⟩⟩
          · exact h.elim
        · exact h.elim
      | false => rw [hI] at h; simp only [cond_false] at h ⊢; exact app_pt h
    · exact h.elim
  · cases hb : bldB o with
    | true => rw [hb] at h; simp only [cond_true] at h ⊢; exact bld_pt h
    | false => rw [hb] at h; simp only [cond_false] at h ⊢; exact uop_pt h
  · cases hb : givB o with
    | true =>
      rw [hb] at h
      simp only [cond_true] at h ⊢
      unfold givP at h ⊢
      cases hq : okReg (st.ev _) && (st.ev _).cells.all G.closed0 with
      | false => rw [hq] at h; exact h.elim
      | true => rw [hq] at h; exact ⟨_, _, h, by simp only [cond_true]; first | exact ⟨rfl, rfl⟩ | trivial⟩
    | false => rw [hb] at h; simp only [cond_false] at h ⊢; exact fop_pt h
  · exact fop_pt h

theorem killRs_slots : ∀ (R : List Nat) (st : St), (R.foldl (fun s k => s.killR k) st).slots = killS R st.slots
  | [], st => rfl
  | k :: R, st => killRs_slots R (st.killR k)
theorem killRs_same : ∀ (R : List Nat) (st st2 : St), st2.boxes = st.boxes → st2.rows = st.rows → (R.foldl (fun s k => s.killR k) st2).boxes = (R.foldl (fun s k => s.killR k) st).boxes ∧ (R.foldl (fun s k => s.killR k) st2).rows = (R.foldl (fun s k => s.killR k) st).rows
  | [], st, st2, h1, h2 => ⟨h1, h2⟩
  | k :: R, st, st2, h1, h2 => killRs_same R (st.killR k) (st2.killR k) (by simp [St.killR, h1]) (by simp [St.killR, h2])
theorem place_mem {P : Program} {f : FuncId} {d : Nat} {gs : List G} {st : St} {k : G → St → Prop} (h : placeP P d f gs st k) :
    ∃ g bs rs, k g ⟨killS (seenR st gs (seenB st gs)) st.slots, bs, rs⟩ ∧ ∀ st2 : St, st2.boxes = st.boxes → st2.rows = st.rows → st2.slots.length = st.slots.length → placeP P d f gs st2 fun g' s => g' = g ∧ s = ⟨killS (seenR st gs (seenB st gs)) st2.slots, bs, rs⟩ := by
  have cells : ∀ st2 : St, st2.boxes = st.boxes → cellsB st2 = cellsB st := fun st2 e => by funext b; unfold cellsB; rw [e]
  have sB : ∀ st2 : St, st2.boxes = st.boxes → seenB st2 gs = seenB st gs := fun st2 e => by unfold seenB; rw [cells st2 e]
  have sR : ∀ st2 : St, st2.boxes = st.boxes → seenR st2 gs = seenR st gs := fun st2 e => by funext bs; unfold seenR; rw [cells st2 e]
  unfold placeP at h ⊢
  simp only [fI_eq] at h ⊢
  cases hq : (seenB st gs).all (fun b => (st.boxes.getD b none).isSome) && (seenR st gs (seenB st gs)).all (fun k => (st.rows.getD k none).isSome) && distinct (seenB st gs) && distinct (seenR st gs (seenB st gs)) with
  | false => rw [hq] at h; exact h.elim
  | true =>
    rw [hq] at h
    simp only [cond_true, fS_eq, fBs_eq, fRs_eq] at h
    obtain ⟨q, hF, h⟩ := h
    unfold backP at h
    cases hb : backOk (idsOf (seenB st gs) d st.slots.length q.2.1.length) (idsOf (seenR st gs (seenB st gs)) d st.slots.length q.2.2.length) (seenB st gs) (seenR st gs (seenB st gs)) st q with
    | false => rw [hb] at h; exact h.elim
    | true =>
      rw [hb] at h
      simp only [cond_true, St.force_eq] at h
      have hs : ∀ (ids rids : List Nat) (st2 : St), st2.boxes = st.boxes → st2.rows = st.rows → backSt ids rids (seenR st gs (seenB st gs)) st2 q = ⟨killS (seenR st gs (seenB st gs)) st2.slots, (backSt ids rids (seenR st gs (seenB st gs)) st q).boxes, (backSt ids rids (seenR st gs (seenB st gs)) st q).rows⟩ := fun ids rids st2 e1 e2 => by
        obtain ⟨e3, e4⟩ := killRs_same (seenR st gs (seenB st gs)) st st2 e1 e2
        unfold backSt
        simp only [killRs_slots, e3, e4]
      rw [hs _ _ st rfl rfl] at h
      refine ⟨_, _, _, h, fun st2 e1 e2 e3 => ?_⟩
      simp only [fS_eq, fBs_eq, fRs_eq, sB st2 e1, sR st2 e1, cells st2 e1, e1, e2]
      rw [hq]
      refine ⟨q, hF, ?_⟩
      unfold backP
      rw [e3]
      have hb2 : backOk (idsOf (seenB st gs) d st.slots.length q.2.1.length) (idsOf (seenR st gs (seenB st gs)) d st.slots.length q.2.2.length) (seenB st gs) (seenR st gs (seenB st gs)) st2 q = true := by rw [← hb]; unfold backOk; rw [e1, e2]
      rw [hb2]
      simp only [cond_true, St.force_eq]
      exact ⟨trivial, hs _ _ st2 e1 e2⟩
theorem addNew_pre : ∀ (bs l : List Nat), ∃ t, addNew l bs = l ++ t
  | [], l => ⟨[], by simp [addNew_nil]⟩
  | b :: bs, l => by
    rw [addNew_cons]
    cases l.any (Nat.beq b) with
    | true => exact addNew_pre bs l
    | false =>
      obtain ⟨t, h⟩ := addNew_pre bs (l ++ [b])
      exact ⟨b :: t, by simp only [cond_false]; rw [h]; simp⟩
theorem seenB_one {st st2 : St} {gs : List G} {b : Nat} (h : seenB st gs = [b]) (hc : cellsB st2 b = cellsB st b) : seenB st2 gs = [b] := by
  unfold seenB at h ⊢
  simp only [fI_eq] at h ⊢
  obtain ⟨t1, h1⟩ := addNew_pre ((addNew [] (gs.flatMap refB)).flatMap fun b => (cellsB st b).flatMap refB0) (addNew [] (gs.flatMap refB))
  obtain ⟨t2, h2⟩ := addNew_pre ((addNew (addNew [] (gs.flatMap refB)) ((addNew [] (gs.flatMap refB)).flatMap fun b => (cellsB st b).flatMap refB0)).flatMap fun b => (cellsB st b).flatMap refB0) (addNew (addNew [] (gs.flatMap refB)) ((addNew [] (gs.flatMap refB)).flatMap fun b => (cellsB st b).flatMap refB0))
  generalize addNew [] (gs.flatMap refB) = b0 at *
  cases b0 with
  | nil => simp [addNew_nil] at h
  | cons x xs =>
    have h3 := h2.symm.trans h
    rw [h1] at h3
    simp only [List.cons_append, List.cons.injEq, List.append_eq_nil_iff] at h3
    obtain ⟨rfl, ⟨⟨rfl, rfl⟩, rfl⟩⟩ := h3
    simp only [List.flatMap_cons, List.flatMap_nil, List.append_nil] at h1 ⊢
    rw [hc, h1]
    simp only [List.flatMap_cons, List.flatMap_nil, List.append_nil]
    rw [hc, h1]
theorem blit_all {α : Type} (xs us : List α) (h : us.length = xs.length) : blit xs 0 us = us := by
  apply List.ext_getElem?
  intro i
  rw [blit_get _ _ _ _ (by omega)]
  split
  · simp
  · rw [List.getElem?_eq_none (by omega), List.getElem?_eq_none (by omega)]
theorem place_one {P : Program} {f : FuncId} {d : Nat} {gs : List G} {st : St} {kt : Nat → List G → G → Prop} {km : G → St → Prop} (h : placeD P d f gs st kt km) :
    (∃ b cs g, kt b cs g ∧ ∀ st2 : St, rng st2 b 0 cs.length = rng st b 0 cs.length → placeP P d f gs st2 fun g' s => g' = g ∧ s = ⟨st2.slots, st2.boxes.modify b (Option.map fun old => blit old 0 cs), st2.rows⟩) ∨ placeP P d f gs st km := by
  unfold placeD at h
  unfold placeP
  simp only [fI_eq] at h ⊢
  cases hq : (seenB st gs).all (fun b => (st.boxes.getD b none).isSome) && (seenR st gs (seenB st gs)).all (fun k => (st.rows.getD k none).isSome) && distinct (seenB st gs) && distinct (seenR st gs (seenB st gs)) with
  | false => rw [hq] at h; exact h.elim
  | true =>
    rw [hq] at h
    simp only [cond_true, fS_eq, fBs_eq, fRs_eq] at h ⊢
    obtain ⟨q, hF, h⟩ := h
    have oth : backP d (seenB st gs) (seenR st gs (seenB st gs)) st q km → (∃ b cs g, kt b cs g ∧ ∀ st2 : St, rng st2 b 0 cs.length = rng st b 0 cs.length → bif (seenB st2 gs).all (fun b => (st2.boxes.getD b none).isSome) && (seenR st2 gs (seenB st2 gs)).all (fun k => (st2.rows.getD k none).isSome) && distinct (seenB st2 gs) && distinct (seenR st2 gs (seenB st2 gs)) then
        ∃ q, Fp P f (gs.map (ren (pos (seenB st2 gs)) (pos (seenR st2 gs (seenB st2 gs))))) ((seenB st2 gs).map fun b => (cellsB st2 b).map (ren0 (pos (seenB st2 gs)) (pos (seenR st2 gs (seenB st2 gs))))) ((seenR st2 gs (seenB st2 gs)).map fun k => (st2.rows.getD k none).getD []) q ∧ backP d (seenB st2 gs) (seenR st2 gs (seenB st2 gs)) st2 q fun g' s => g' = g ∧ s = ⟨st2.slots, st2.boxes.modify b (Option.map fun old => blit old 0 cs), st2.rows⟩
      else False) ∨ ∃ q, Fp P f (gs.map (ren (pos (seenB st gs)) (pos (seenR st gs (seenB st gs))))) ((seenB st gs).map fun b => (cellsB st b).map (ren0 (pos (seenB st gs)) (pos (seenR st gs (seenB st gs))))) ((seenR st gs (seenB st gs)).map fun k => (st.rows.getD k none).getD []) q ∧ backP d (seenB st gs) (seenR st gs (seenB st gs)) st q km := fun h => .inr ⟨q, hF, h⟩
    unfold oneD at h
    split at h
    · rename_i b cs eB eR e1 e2
      cases hl : Nat.beq cs.length (cellsB st b).length with
      | false => rw [hl] at h; exact oth h
      | true =>
        rw [hl] at h
        simp only [cond_true, fL_eq] at h
        have hl := Nat.eq_of_beq_eq_true hl
        refine .inl ⟨b, _, _, h, fun st2 hs => ?_⟩
        rw [eB] at hF hq
        rw [eB] at eR
        rw [eR] at hF hq
        simp only [List.all_cons, List.all_nil, Bool.and_true, Bool.and_eq_true] at hq
        obtain ⟨old, hold⟩ := Option.isSome_iff_exists.1 hq.1.1
        have hcel : cellsB st b = old := by rw [cellsB_eq, hold]; rfl
        have hlen : (cs.map (ren0 (fun i => [b][i]?) (fun i => ([] : List Nat)[i]?))).length = old.length := by rw [List.length_map, hl, hcel]
        unfold rng at hs
        rw [hold, hlen] at hs
        cases hb2 : st2.boxes.getD b none with
        | none => rw [hb2] at hs; simp at hs
        | some old2 =>
          rw [hb2] at hs
          simp only [Option.map_some, List.drop_zero, List.take_length, Option.some.injEq, Prod.mk.injEq] at hs
          have ho : old2 = old := by
            have := hs.1
            rw [← hs.2, List.take_length] at this
            exact this
          subst ho
          have hcel2 : cellsB st2 b = cellsB st b := by rw [cellsB_eq, cellsB_eq, hb2, hold]
          have sB := seenB_one eB hcel2
          have sR : seenR st2 gs [b] = [] := by
            have h0 := eR
            unfold seenR at h0 ⊢
            simp only [List.flatMap_cons, List.flatMap_nil, hcel2] at h0 ⊢
            exact h0
          rw [sB, sR]
          have hsz : b < st2.boxes.length := by
            have hb3 := hb2
            rw [List.getD_eq_getElem?_getD] at hb3
            by_cases hx : b < st2.boxes.length
            · exact hx
            · rw [List.getElem?_eq_none (by omega)] at hb3; simp at hb3
          simp only [List.all_cons, List.all_nil, hb2, Option.isSome_some, Bool.and_true, distinct, List.any_nil, Bool.not_false, cond_true]
          refine ⟨q, ?_, ?_⟩
          · simp only [List.map_cons, List.map_nil, hcel2] at hF ⊢
            exact hF
          · unfold backP
            have i1 : idsOf [b] d st2.slots.length q.2.1.length = [b] := by rw [e1]; rfl
            have i2 : idsOf [] d st2.slots.length q.2.2.length = [] := by rw [e2]; rfl
            rw [i1, i2]
            have hok : backOk [b] [] [b] [] st2 q = true := by
              unfold backOk
              rw [e1, e2]
              have : Nat.blt b st2.boxes.length = true := by rw [Nat.blt_eq]; exact hsz
              simp [distinct, this]
            rw [hok]
            simp only [cond_true, St.force_eq]
            refine ⟨trivial, ?_⟩
            unfold backSt
            simp only [List.foldl_nil, e1, e2, List.map_cons, List.map_nil, List.zip_cons_cons, List.zip_nil_right, setMany, Option.map_some]
            congr 1
            apply List.ext_getElem?
            intro i
            rw [List.getElem?_set, List.getElem?_modify]
            by_cases e : b = i
            · subst e
              have hget : st2.boxes[b]? = some (some old2) := by
                rw [List.getD_eq_getElem?_getD] at hb2
                cases hx : st2.boxes[b]? with
                | none => rw [hx] at hb2; simp at hb2
                | some o => rw [hx] at hb2; simp at hb2; rw [hb2]
              rw [if_pos rfl, if_pos hsz, hget]
              simp only [if_true, Option.map_some, Functor.map]
              rw [blit_all _ _ hlen]
            · rw [if_neg e]
              simp [e]
    · exact oth h
theorem src_mem {st : St} {x : G} {k : List (List G) → Prop} (h : srcP st x k) : ∃ ys, k ys ∧ ∀ st2 : St, st2.rows = st.rows → ∀ k2 : List (List G) → Prop, k2 ys → srcP st2 x k2 := by
  unfold srcP at h
  split at h
  · exact ⟨_, h, fun st2 _ k2 hk => hk⟩
  · exact ⟨_, h, fun st2 _ k2 hk => hk⟩
  · exact ⟨_, h, fun st2 _ k2 hk => hk⟩
  · exact ⟨_, h, fun st2 _ k2 hk => hk⟩
  · split at h
    · rename_i xs hxs; exact ⟨_, h.2, fun st2 e k2 hk => by simp only [srcP, e, hxs]; exact ⟨h.1, hk⟩⟩
    · exact h.elim
  · split at h
    · rename_i xs hxs; exact ⟨_, h.2, fun st2 e k2 hk => by simp only [srcP, e, hxs]; exact ⟨h.1, hk⟩⟩
    · exact h.elim
  · exact ⟨_, h, fun st2 _ k2 hk => hk⟩
  · exact h.elim
theorem freeRow_mem (st st2 : St) (d : Nat) (s : G) (hs : ∀ kk a b, s ≠ .own kk a b) (e1 : st2.boxes = st.boxes) (e2 : st2.rows = st.rows) (ys : List (List G)) :
    (st2.freeRow d).setRow d ys = ⟨killS (appKills d s st) st2.slots, ((st.freeRow d).setRow d ys).boxes, ((st.freeRow d).setRow d ys).rows⟩ := by
  unfold St.freeRow appKills
  rw [e2]
  cases s with
  | own kk a b => exact absurd rfl (hs kk a b)
  | _ => cases st.rows.getD d none <;> simp [St.setRow, St.killR, killS, e1, e2]
theorem app_mem {P : Program} {d : Nat} {s x : G} {tS tX : TypeId} {st : St} {k : G → St → Prop} (hty : typedG s = false) (hf : isF s = false) (h : appP P d s x tS tX st k) :
    ∃ g bs rs, k g ⟨killS (appKills d s st) st.slots, bs, rs⟩ ∧ ∀ st2 : St, st2.boxes = st.boxes → st2.rows = st.rows → st2.slots.length = st.slots.length → appP P d s x tS tX st2 fun g' s' => g' = g ∧ s' = ⟨killS (appKills d s st) st2.slots, bs, rs⟩ := by
  unfold appP at h ⊢
  split at h
  · rename_i e dX hu hX
    cases hq : isInt dX || (P.bytesOf e == 0) || (zeroCells P e).isNone || (P.cellsOf e == 0) || !(Nat.blt d st.rows.length) with
    | true => rw [hq] at h; exact h.elim
    | false =>
      rw [hq] at h
      simp only [cond_false] at h
      obtain ⟨ys, h, q⟩ := src_mem h
      cases hok : okRows (P.cellsOf e) ys with
      | false => rw [hok] at h; exact h.elim
      | true =>
        rw [hok] at h
        simp only [cond_true] at h
        cases s with
        | nils =>
          have e0 := freeRow_mem st st d .nils (fun _ _ _ e => by cases e) rfl rfl ys
          rw [e0] at h
          refine ⟨_, _, _, h.2, fun st2 e1 e2 e3 => ?_⟩
          rw [e2, hq]
          simp only [cond_false]
          refine q st2 e2 _ ?_
          rw [hok]
          exact ⟨h.1, rfl, freeRow_mem st st2 d .nils (fun _ _ _ e => by cases e) e1 e2 ys⟩
        | emp =>
          have e0 := freeRow_mem st st d .emp (fun _ _ _ e => by cases e) rfl rfl ys
          rw [e0] at h
          refine ⟨_, _, _, h.2, fun st2 e1 e2 e3 => ?_⟩
          rw [e2, hq]
          simp only [cond_false]
          refine q st2 e2 _ ?_
          rw [hok]
          exact ⟨h.1, rfl, freeRow_mem st st2 d .emp (fun _ _ _ e => by cases e) e1 e2 ys⟩
        | own kk off len =>
          simp only at h
          split at h
          · rename_i xs hxs
            refine ⟨_, _, _, h.2, fun st2 e1 e2 e3 => ?_⟩
            rw [e2, hq]
            simp only [cond_false]
            refine q st2 e2 _ ?_
            rw [hok]
            simp only [cond_true, e2, hxs]
            exact ⟨h.1, trivial, by simp [St.setRow, St.killR, killS, appKills, e1, e2]⟩
          · exact h.elim
        | nilt => cases hty
        | ownt => cases hty
        | ownf => cases hf
        | _ => exact h.elim
  · exact h.elim

theorem dcop_sound {P : Program} {ops : Array Oper} {o : Oper} {st : St} {k : Tx → Prop} (h : dcop P (o.looksAt ops) o st k) :
    ∃ t, k t ∧ t.Vals st ∧ (∀ st', t.Same st' st → ∀ d ∈ o.looksAt ops, st'.slots.getD d .junk = st.slots.getD d .junk) ∧ ∀ (st' : St), t.Same st' st → ∀ (C : Cx) (F : Fd) (a : Act) (w : World) (Q : Exit → Act → World → Prop) (K : Act → World → Prop), Inv C F st' a w → (∀ C' a' w', Inv C' F (t.app st') a' w' → K a' w') → o.wp P a w K Q := by
  have val : ∀ (g : G) (rb : Option (Nat × Nat × Nat)) (rr : Bool), (∀ st', (⟨o.dst, g, none, none, o.looksAt ops, rb, rr⟩ : Tr).Same st' st → cop P 0 o st' fun g' s => g' = g ∧ s = st') →
      ∀ (st' : St), (Tx.tr ⟨o.dst, g, none, none, o.looksAt ops, rb, rr⟩ (st.vals (o.looksAt ops))).Same st' st → ∀ (C : Cx) (F : Fd) (a : Act) (w : World) (Q : Exit → Act → World → Prop) (K : Act → World → Prop), Inv C F st' a w → (∀ C' a' w', Inv C' F ((Tx.tr ⟨o.dst, g, none, none, o.looksAt ops, rb, rr⟩ (st.vals (o.looksAt ops))).app st') a' w' → K a' w') → o.wp P a w K Q := fun g rb rr hc st' hs C F a w Q K hi hk =>
    cop_sound (hc st' hs) hi fun v w' ⟨C', g', s, ⟨e1, e2⟩, h2, h3⟩ => by
      subst e1; subst e2
      have := h2.put o.dst h3
      refine hk C' _ _ ?_
      have e : (Tx.tr ⟨o.dst, g', none, none, o.looksAt ops, rb, rr⟩ (st.vals (o.looksAt ops))).app s = s.put o.dst g' := by
        unfold Tx.app Tr.app St.put; cases o.dst <;> rfl
      rw [e]; exact this
  have seen : ∀ tr : Tr, tr.look = o.looksAt ops → (Tx.tr tr (st.vals (o.looksAt ops))).Vals st := fun tr ht i d hd v hv => by
    rw [ht] at hd
    unfold St.vals at hv
    rw [List.getElem?_map, hd] at hv
    exact (Option.some.inj hv).symm
  have all : allP P o st k → ∃ t, k t ∧ t.Vals st ∧ (∀ st', t.Same st' st → ∀ d ∈ o.looksAt ops, st'.slots.getD d .junk = st.slots.getD d .junk) ∧ ∀ (st' : St), t.Same st' st → ∀ (C : Cx) (F : Fd) (a : Act) (w : World) (Q : Exit → Act → World → Prop) (K : Act → World → Prop), Inv C F st' a w → (∀ C' a' w', Inv C' F (t.app st') a' w' → K a' w') → o.wp P a w K Q := fun h => by
    unfold allP at h
    obtain ⟨g, s, h, hq⟩ := cop_pt h
    simp only [St.next_eq, St.force_eq] at h
    refine ⟨.all _, h, trivial, fun st' hs d hd => ?_, fun st' hs C F a w Q K hi hk => ?_⟩
    · have e : st' = st := hs
      rw [e]
    · have e : st' = st := hs
      subst e
      refine cop_sound hq hi fun v w' ⟨C', g', s', ⟨e1, e2⟩, h3, h4⟩ => ?_
      subst e1; subst e2
      exact hk C' _ _ (h3.put o.dst h4)
  unfold dcop at h
  split at h
  · -- load
    rename_i t x hop
    split at h
    · exact h.elim
    · rename_i d hu
      have copeq : ∀ st', cop P 0 o st' (fun g' s => g' = g' ∧ True) = cop P 0 o st' (fun g' s => g' = g' ∧ True) := fun _ => rfl
      split at h
      · rename_i b off hx
        unfold loadP at h
        rw [hu] at h
        simp only at h
        split at h
        · rename_i cs hcs
          cases hle : Nat.ble (off + wide P d t) cs.length with
          | false => rw [hle] at h; exact h.elim
          | true =>
            rw [hle] at h
            simp only [cond_true, fA_eq] at h
            refine ⟨_, h, seen _ rfl, fun st' hs => hs.look, val _ _ _ fun st' hs => ?_⟩
            have hx' : st'.ev x = .ptr b off := by rw [look_ev hs.look x (by rw [hop]; simp [Op.operands]), hx]
            have hr := hs.rb b off (wide P d t) rfl
            unfold rng at hr
            rw [hcs] at hr
            cases hb : st'.boxes.getD b none with
            | none => rw [hb] at hr; cases hr
            | some cs' =>
              rw [hb] at hr
              simp only [Option.map_some, Option.some.injEq, Prod.mk.injEq] at hr
              obtain ⟨r1, r2⟩ := hr
              have e1 : rdC P d t off cs' = rdC P d t off cs := by
                unfold rdC
                unfold wide at r1
                cases ha : aggD d with
                | true => rw [ha] at r1; simp only [cond_true] at r1 ⊢; rw [r1]
                | false =>
                  rw [ha] at r1; simp only [cond_false] at r1 ⊢
                  have := congrArg (fun l => l[0]?) r1
                  simp only [List.getElem?_take, List.getElem?_drop] at this
                  rw [List.getD_eq_getElem?_getD, List.getD_eq_getElem?_getD]
                  simpa using congrArg (fun o => o.getD G.junk) this
              unfold cop
              rw [hop]
              simp only [fop, mop, uop, allocT, xop, vop]
              rw [hx']
              unfold loadP
              rw [hu]
              simp only [hb]
              rw [r2, hle]
              first | exact ⟨e1, rfl⟩ | exact ⟨e1, trivial⟩
        · exact h.elim
      · rename_i row off hx
        unfold loadP at h
        rw [hu] at h
        simp only at h
        cases hle : Nat.ble (off + wide P d t) row.length with
        | false => rw [hle] at h; exact h.elim
        | true =>
          rw [hle] at h
          simp only [cond_true, fA_eq] at h
          refine ⟨_, h, seen _ rfl, fun st' hs => hs.look, val _ _ _ fun st' hs => ?_⟩
          have hx' : st'.ev x = .elt row off := by rw [look_ev hs.look x (by rw [hop]; simp [Op.operands]), hx]
          unfold cop
          rw [hop]
          simp only [fop, mop, uop, allocT, xop, vop]
          rw [hx']
          unfold loadP
          rw [hu]
          simp only
          rw [hle]
          first | exact ⟨rfl, rfl⟩ | exact ⟨trivial, trivial⟩ | exact ⟨rfl, trivial⟩ | trivial
      · rename_i kk i off hx
        unfold loadP at h
        rw [hu] at h
        simp only at h
        split at h
        · rename_i xs hxs
          obtain ⟨row, h1, h⟩ := h
          cases hle : Nat.ble (off + wide P d t) row.length with
          | false => rw [hle] at h; exact h.elim
          | true =>
            rw [hle] at h
            simp only [cond_true, fA_eq] at h
            refine ⟨_, h, seen _ rfl, fun st' hs => hs.look, val _ _ _ fun st' hs => ?_⟩
            have hx' : st'.ev x = .eltw kk i off := by rw [look_ev hs.look x (by rw [hop]; simp [Op.operands]), hx]
            unfold cop
            rw [hop]
            simp only [fop, mop, uop, allocT, xop, vop]
            rw [hx']
            unfold loadP
            rw [hu]
            simp only [hs.rows rfl, hxs]
            refine ⟨row, h1, ?_⟩
            rw [hle]
            first | exact ⟨rfl, rfl⟩ | exact ⟨trivial, trivial⟩ | exact ⟨rfl, trivial⟩ | trivial
        · exact h.elim
      · exact h.elim
  · -- store
    rename_i t p x hop
    split at h
    · rename_i d b off hu hp
      split at h
      · rename_i cs hcs
        cases hc : okReg (st.ev x) && ((st.ev x).cells.length == P.cellsOf t) && Nat.ble (off + P.cellsOf t) cs.length with
        | false => rw [hc] at h; exact h.elim
        | true =>
          rw [hc] at h
          refine ⟨_, h, seen _ rfl, fun st' hs => hs.look, fun st' hs C F a w Q K hi hk => ?_⟩
          have hp' : st'.ev p = .ptr b off := by rw [look_ev hs.look p (by rw [hop]; simp [Op.operands]), hp]
          have hx' : st'.ev x = st.ev x := look_ev hs.look x (by rw [hop]; simp [Op.operands])
          have hw := hs.wr b off _ rfl
          rw [hcs] at hw
          cases hb : st'.boxes.getD b none with
          | none => rw [hb] at hw; cases hw
          | some cs' =>
            rw [hb] at hw
            simp only [Option.map_some, Option.some.injEq] at hw
            have hcop : cop P 0 o st' fun g' s => g' = .junk ∧ s = st'.setBox b (blit cs' off (st.ev x).cells) := by
              unfold cop
              rw [hop]
              simp only [fop, mop, uop, allocT, xop, vop]
              rw [hp', hx']
              unfold storeP
              rw [hu]
              simp only [hb]
              rw [hw, hc]
              first | exact ⟨rfl, rfl⟩ | exact ⟨trivial, trivial⟩ | exact ⟨rfl, trivial⟩ | trivial
            refine cop_sound hcop hi fun v w' ⟨C', g', s, ⟨e1, e2⟩, h2, h3⟩ => ?_
            subst e1; subst e2
            refine hk C' _ _ ?_
            have e : (Tx.tr ⟨o.dst, .junk, some (b, off, (st.ev x).cells), none, o.looksAt ops, none, false⟩ (st.vals (o.looksAt ops))).app st' = (st'.setBox b (blit cs' off (st.ev x).cells)).put o.dst .junk := by
              unfold Tx.app Tr.app St.put St.setBox
              cases o.dst <;> simp only [Inv.setBox_eq hb]
            rw [e]
            exact h2.put o.dst h3
      · exact h.elim
    · exact all h
  · -- alloc
    rename_i t hop
    split at h
    · rename_i d cs hd hz
      cases hc : (Nat.blt d st.boxes.length && Nat.blt d st.slots.length) && (st.boxes.getD d none).isNone && (typedZ cs).isNone with
      | false => rw [hc] at h; exact h.elim
      | true =>
        rw [hc] at h
        refine ⟨_, h, seen _ rfl, fun st' hs => hs.look, fun st' hs C F a w Q K hi hk => ?_⟩
        simp only [Bool.and_eq_true] at hc
        have hn := hs.nb d cs rfl
        have hl := hs.lenB rfl
        have hl2 := hs.lenS
        have hcop : cop P d o st' fun g' s => g' = .ptr d 0 ∧ s = st'.setBox d cs := by
          unfold cop
          rw [hop]
          have htz : typedZ cs = none := by simpa using hc.2
          simp only [fop, mop, uop, allocT, hz, htz, xop, vop]
          rw [hl, hl2, hc.1.1.1, hc.1.1.2, newBox_none (by rw [hn]; exact hc.1.2)]
          first | exact ⟨rfl, rfl⟩ | exact ⟨trivial, trivial⟩ | exact ⟨rfl, trivial⟩ | trivial
        refine cop_sound hcop hi fun v w' ⟨C', g', s, ⟨e1, e2⟩, h2, h3⟩ => ?_
        subst e1; subst e2
        rw [hd]
        exact hk C' _ _ (h2.put (some d) h3)
    · exact h.elim
  · -- box
    rename_i t x hop
    have hgv : givB o = false := by
      cases hq : givB o with
      | false => rfl
      | true => rw [hq] at h; exact h.elim
    rw [hgv] at h
    simp only [cond_false] at h
    split at h
    · rename_i d hd
      cases hc : (Nat.blt d st.boxes.length && Nat.blt d st.slots.length) && (st.boxes.getD d none).isNone && okReg (st.ev x) with
      | false => rw [hc] at h; exact h.elim
      | true =>
        rw [hc] at h
        refine ⟨_, h, seen _ rfl, fun st' hs => hs.look, fun st' hs C F a w Q K hi hk => ?_⟩
        simp only [Bool.and_eq_true] at hc
        have hn := hs.nb d _ rfl
        have hl := hs.lenB rfl
        have hl2 := hs.lenS
        have hx' : st'.ev x = st.ev x := look_ev hs.look x (by rw [hop]; simp [Op.operands])
        have hcop : cop P d o st' fun g' s => g' = .ptr d 0 ∧ s = st'.setBox d (st.ev x).cells := by
          unfold cop
          rw [hop]
          simp only [hgv, cond_false, fop, mop, uop, allocT, xop, vop]
          rw [hl, hl2, hx', hc.1.1.1, hc.1.1.2, hc.2, newBox_none (by rw [hn]; exact hc.1.2)]
          first | exact ⟨rfl, rfl⟩ | exact ⟨trivial, trivial⟩ | exact ⟨rfl, trivial⟩ | trivial
        refine cop_sound hcop hi fun v w' ⟨C', g', s, ⟨e1, e2⟩, h2, h3⟩ => ?_
        subst e1; subst e2
        rw [hd]
        exact hk C' _ _ (h2.put (some d) h3)
    · exact h.elim
  · -- a call
    rename_i f args ats hop
    split at h
    · rename_i n caps hf
      cases huo : isUns P ats.toList || ovlK.any (Nat.beq n) with
      | true => rw [huo] at h; exact all h
      | false =>
      rw [huo] at h
      simp only [cond_false] at h
      obtain ⟨hu, hov⟩ : isUns P ats.toList = false ∧ ovlK.any (Nat.beq n) = false := by simpa only [Bool.or_eq_false_iff] using huo
      rw [fS_eq] at h
      have look : ∀ st' : St, (∀ d ∈ o.looksAt ops, st'.slots.getD d .junk = st.slots.getD d .junk) → st'.ev f = .fn n caps ∧ args.toList.map st'.ev = args.toList.map st.ev := fun st' hl => by
        have hev := look_ev hl
        rw [hop] at hev
        exact ⟨by rw [hev f (by simp [Op.operands, Call.operands]), hf], List.map_congr_left fun x hx => hev x (by simp only [Op.operands, Call.operands, Array.toList_append]; exact List.mem_append_right _ hx)⟩
      have one_case : ∀ (b : Nat) (cs : List G) (g : G), (∀ st2 : St, rng st2 b 0 cs.length = rng st b 0 cs.length → placeP P (o.dst.getD 0) n (args.toList.map st.ev ++ caps) st2 fun g' s => g' = g ∧ s = ⟨st2.slots, st2.boxes.modify b (Option.map fun old => blit old 0 cs), st2.rows⟩) →
          ∀ (st' : St), (⟨o.dst, g, some (b, 0, cs), none, o.looksAt ops, some (b, 0, cs.length), false⟩ : Tr).Same st' st → ∀ (C : Cx) (F : Fd) (a : Act) (w : World) (Q : Exit → Act → World → Prop) (K : Act → World → Prop), Inv C F st' a w →
            (∀ C' a' w', Inv C' F ((⟨o.dst, g, some (b, 0, cs), none, o.looksAt ops, some (b, 0, cs.length), false⟩ : Tr).app st') a' w' → K a' w') → o.wp P a w K Q := fun b cs g h2 st' hs C F a w Q K hi hk => by
        obtain ⟨hf', ha⟩ := look st' hs.look
        have hcop : cop P (o.dst.getD 0) o st' fun g' s => g' = g ∧ s = ⟨st'.slots, st'.boxes.modify b (Option.map fun old => blit old 0 cs), st'.rows⟩ := by
          unfold cop
          rw [hop]
          simp only [hf', hu, hov, cond_false]
          rw [fS_eq, ha]
          unfold callP
          have hp := h2 st' (hs.rb b 0 cs.length rfl)
          cases (args.toList.map st.ev ++ caps).all G.closed
          · exact .inr hp
          · exact .inr hp
        refine cop_sound hcop hi fun v w' ⟨C', g', s, ⟨e1, e2⟩, h3, h4⟩ => ?_
        subst e1; subst e2
        refine hk C' _ _ ?_
        have e : (⟨o.dst, g', some (b, 0, cs), none, o.looksAt ops, some (b, 0, cs.length), false⟩ : Tr).app st' = (⟨st'.slots, st'.boxes.modify b (Option.map fun old => blit old 0 cs), st'.rows⟩ : St).put o.dst g' := by
          unfold Tr.app St.put; cases o.dst <;> rfl
        rw [e]
        exact h3.put o.dst h4
      cases hc : (args.toList.map st.ev ++ caps).all G.closed with
      | false =>
        rw [hc] at h
        simp only [cond_false] at h
        rcases h with h | h
        · obtain ⟨g, h1, q⟩ := lend_pt h
          rw [fA_eq] at h1
          refine ⟨_, h1, seen _ rfl, fun st' hs => hs.look, val _ _ _ fun st' hs => ?_⟩
          obtain ⟨hf', ha⟩ := look st' hs.look
          unfold cop
          rw [hop]
          simp only [hf', hu, hov, cond_false]
          rw [fS_eq, ha]
          unfold callP
          rw [hc]
          exact .inl (q st' (hs.rows rfl) _ ⟨rfl, rfl⟩)
        · rcases place_one h with ⟨b, cs, g, h1, h2⟩ | h
          · rw [fA_eq, fN_eq] at h1
            exact ⟨_, h1, seen _ rfl, fun st' hs => hs.look, one_case b cs g h2⟩
          obtain ⟨g, bs, rs, h1, h2⟩ := place_mem h
          rw [fA_eq] at h1
          refine ⟨_, h1, trivial, fun st' hs => hs.1, fun st' hs C F a w Q K hi hk => ?_⟩
          obtain ⟨s1, s2, s3, s4⟩ := hs
          obtain ⟨hf', ha⟩ := look st' s1
          have hcop : cop P (o.dst.getD 0) o st' fun g' s => g' = g ∧ s = ⟨killS (seenR st (args.toList.map st.ev ++ caps) (seenB st (args.toList.map st.ev ++ caps))) st'.slots, bs, rs⟩ := by
            unfold cop
            rw [hop]
            simp only [hf', hu, hov, cond_false]
            rw [fS_eq, ha]
            unfold callP
            rw [hc]
            exact .inr (h2 st' s2 s3 s4)
          refine cop_sound hcop hi fun v w' ⟨C', g', s, ⟨e1, e2⟩, h3, h4⟩ => ?_
          subst e1; subst e2
          refine hk C' _ _ ?_
          have e : (Tx.mem o.dst g' (o.looksAt ops) (seenR st (args.toList.map st.ev ++ caps) (seenB st (args.toList.map st.ev ++ caps))) bs rs).app st' = (⟨killS (seenR st (args.toList.map st.ev ++ caps) (seenB st (args.toList.map st.ev ++ caps))) st'.slots, bs, rs⟩ : St).put o.dst g' := by
            unfold Tx.app St.put; cases o.dst <;> rfl
          rw [e]
          exact h3.put o.dst h4
      | true =>
        rw [hc] at h
        simp only [cond_true] at h
        rcases h with ⟨g, hF, h⟩ | h
        · cases hg : g.closedR with
          | false => rw [hg] at h; exact h.elim
          | true =>
            rw [hg] at h
            simp only [cond_true, fA_eq] at h
            refine ⟨_, h, seen _ rfl, fun st' hs => hs.look, val _ _ _ fun st' hs => ?_⟩
            obtain ⟨hf', ha⟩ := look st' hs.look
            unfold cop
            rw [hop]
            simp only [hf', hu, hov, cond_false]
            rw [fS_eq, ha]
            unfold callP
            rw [hc]
            refine .inl ⟨g, hF, ?_⟩
            rw [hg]
            first | exact ⟨rfl, rfl⟩ | exact ⟨trivial, trivial⟩ | exact ⟨rfl, trivial⟩ | trivial
        · rcases place_one h with ⟨b, cs, g, h1, h2⟩ | h
          · rw [fA_eq, fN_eq] at h1
            exact ⟨_, h1, seen _ rfl, fun st' hs => hs.look, one_case b cs g h2⟩
          obtain ⟨g, bs, rs, h1, h2⟩ := place_mem h
          rw [fA_eq] at h1
          refine ⟨_, h1, trivial, fun st' hs => hs.1, fun st' hs C F a w Q K hi hk => ?_⟩
          obtain ⟨s1, s2, s3, s4⟩ := hs
          obtain ⟨hf', ha⟩ := look st' s1
          have hcop : cop P (o.dst.getD 0) o st' fun g' s => g' = g ∧ s = ⟨killS (seenR st (args.toList.map st.ev ++ caps) (seenB st (args.toList.map st.ev ++ caps))) st'.slots, bs, rs⟩ := by
            unfold cop
            rw [hop]
            simp only [hf', hu, hov, cond_false]
            rw [fS_eq, ha]
            unfold callP
            rw [hc]
            exact .inr (h2 st' s2 s3 s4)
          refine cop_sound hcop hi fun v w' ⟨C', g', s, ⟨e1, e2⟩, h3, h4⟩ => ?_
          subst e1; subst e2
          refine hk C' _ _ ?_
          have e : (Tx.mem o.dst g' (o.looksAt ops) (seenR st (args.toList.map st.ev ++ caps) (seenB st (args.toList.map st.ev ++ caps))) bs rs).app st' = (⟨killS (seenR st (args.toList.map st.ev ++ caps) (seenB st (args.toList.map st.ev ++ caps))) st'.slots, bs, rs⟩ : St).put o.dst g' := by
            unfold Tx.app St.put; cases o.dst <;> rfl
          rw [e]
          exact h3.put o.dst h4
    · exact h.elim
  · -- an append
    rename_i args ats hop
    split at h
    · rename_i s x tS tX heq ht0 ht1
      cases hty : typedG s with
      | true => rw [hty] at h; exact h.elim
      | false =>
      rw [hty] at h
      simp only [cond_false] at h
      cases hfi : isF s || isIntT P tX with
      | true => rw [hfi] at h; exact all h
      | false =>
      rw [hfi] at h
      simp only [cond_false] at h
      simp only [Bool.or_eq_false_iff] at hfi
      obtain ⟨g, bs, rs, h1, h2⟩ := app_mem hty hfi.1 h
      rw [fA_eq, St.force_eq] at h1
      refine ⟨_, h1, trivial, fun st' hs => hs.1, fun st' hs C F a w Q K hi hk => ?_⟩
      obtain ⟨s1, s2, s3, s4⟩ := hs
      have hev := look_ev s1
      rw [hop] at hev
      have ha : args.toList.map st'.ev = args.toList.map st.ev := List.map_congr_left fun x hx => hev x (by simp only [Op.operands, Call.operands, Array.toList_append]; exact List.mem_append_right _ hx)
      have hcop : cop P (o.dst.getD 0) o st' fun g' s' => g' = g ∧ s' = ⟨killS (appKills (o.dst.getD 0) s st) st'.slots, bs, rs⟩ := by
        unfold cop
        rw [hop]
        simp only [ha, heq, ht0, ht1, hfi.2, cond_false]
        exact h2 st' s2 s3 s4
      refine cop_sound hcop hi fun v w' ⟨C', g', s', ⟨e1, e2⟩, h3, h4⟩ => ?_
      subst e1; subst e2
      refine hk C' _ _ ?_
      have e : (Tx.mem o.dst g' (o.looksAt ops) (appKills (o.dst.getD 0) s st) bs rs).app st' = (⟨killS (appKills (o.dst.getD 0) s st) st'.slots, bs, rs⟩ : St).put o.dst g' := by
        unfold Tx.app St.put; cases o.dst <;> rfl
      rw [e]
      exact h3.put o.dst h4
    · exact h.elim
  · -- a row's data
    rename_i args ats hop
    have key : ∃ g, k (.tr ⟨o.dst, g, none, none, o.looksAt ops, none, false⟩ (st.vals (o.looksAt ops))) ∧ dataT (args.toList.map st.ev) fun g' => g' = g := by
      unfold dataT at h ⊢
      split at h
      · rw [fA_eq] at h; exact ⟨_, h, rfl⟩
      · rw [fA_eq] at h; exact ⟨_, h, rfl⟩
      · exact h.elim
    obtain ⟨g, h1, h2⟩ := key
    refine ⟨_, h1, seen _ rfl, fun st' hs => hs.look, val _ _ _ fun st' hs => ?_⟩
    have hev := look_ev hs.look
    rw [hop] at hev
    have ha : args.toList.map st'.ev = args.toList.map st.ev := List.map_congr_left fun x hx => hev x (by simp only [Op.operands, Call.operands, Array.toList_append]; exact List.mem_append_right _ hx)
    unfold cop
    rw [hop]
    simp only [fop, mop, uop, ha]
    unfold dataT at h2 ⊢
    split at h2
    · first | exact ⟨h2, rfl⟩ | exact ⟨h2, trivial⟩
    · first | exact ⟨h2, rfl⟩ | exact ⟨h2, trivial⟩
    · exact h2.elim
  · -- a map's entry
    rename_i t x key ok hop
    obtain ⟨g, h1, h2⟩ := look_pt2 h
    rw [fA_eq] at h1
    refine ⟨_, h1, seen _ rfl, fun st' hs => hs.look, val _ _ _ fun st' hs => ?_⟩
    have hev := look_ev hs.look
    rw [hop] at hev
    have e1 := hev x (by simp [Op.operands])
    have e2 := hev key (by simp [Op.operands])
    unfold cop
    rw [hop]
    simp only [fop, mop, e1, e2]
    exact h2 st' (hs.rows rfl) _ (by first | exact ⟨rfl, rfl⟩ | trivial)
  · -- what computes alone, and all else
    rename_i op hn1 hn2 hn3 hn4 hn5 hn6 hn7 hn8
    cases hpb : pureOp o.op && !(bldB o) with
    | false => rw [hpb] at h; exact all h
    | true =>
      rw [hpb] at h
      simp only [Bool.and_eq_true, Bool.not_eq_true'] at hpb
      obtain ⟨hp, hbb⟩ := hpb
      simp only [cond_true, fA_eq] at h
      obtain ⟨g, h1, h2⟩ := xop_det hp h
      refine ⟨_, h1, seen _ rfl, fun st' hs => hs.look, val _ _ _ fun st' hs => ?_⟩
      have := h2 0 st' hs.rows (look_ev hs.look) (fun g' s => g' = g ∧ s = st') (by first | exact ⟨rfl, rfl⟩ | trivial)
      unfold cop
      split
      · rename_i hop; exact absurd hop (hn5 _ _ _)
      · rename_i hop; rw [hop] at hp; simp [pureOp] at hp
      · rename_i hop
        rw [hbb]
        rw [hop] at hp this
        exact uop_of_xop hp this
      · rename_i hop; exact absurd hop (hn4 _ _)
      · exact fop_of_mop hp (mop_of_uop hp (uop_of_xop hp this))
end Go.Proofs.YtijohhdgecadnaaDoor.Av
namespace Go.Proofs.YtijohhdgecadnaaDoor.Av
open Go Go.RowKit
set_option linter.unusedVariables false
set_option linter.unusedSimpArgs false

/-! Which operations are bound ahead of which: a number a row, its bits. -/
def befStep (es : List Edge) (acc : List Nat) : Nat → Nat :=
  fun s => es.foldl (fun s e => if Region.binds .any e then s ||| 2 ^ e.on ||| acc.getD e.on 0 else s) s
def forceN (n : Nat) (k : Nat → List Nat) : List Nat :=
  match n with
  | 0 => k 0
  | m + 1 => k (m + 1)
def bef : List Oper → List Nat → List Nat
  | [], acc => acc
  | o :: rest, acc => forceN (befStep o.after.toList acc 0) fun n => bef rest (acc ++ [n])
theorem forceN_eq (n : Nat) (k : Nat → List Nat) : forceN n k = k n := by cases n <;> rfl

theorem bef_anc {ops : Array Oper} : ∀ (rest : List Oper) (acc : List Nat), ops.toList.drop acc.length = rest → (∀ j i, (acc.getD j 0).testBit i = true → Anc ops i j) → ∀ j i, ((bef rest acc).getD j 0).testBit i = true → Anc ops i j
  | [], acc, _, h => h
  | o :: rest, acc, hd, h => by
    unfold bef
    rw [forceN_eq]
    have ho : ops[acc.length]? = some o := by
      have := congrArg (fun l => l[0]?) hd
      simp only [List.getElem?_drop, List.getElem?_cons_zero, Nat.add_zero] at this
      simpa using this
    refine bef_anc rest _ ?_ ?_
    · have := congrArg (List.drop 1) hd
      simpa [List.drop_drop] using this
    · intro j i hj
      by_cases hlt : j < acc.length
      · rw [List.getD_eq_getElem?_getD, List.getElem?_append_left hlt, ← List.getD_eq_getElem?_getD] at hj
        exact h j i hj
      · by_cases he : j = acc.length
        · subst he
          rw [List.getD_eq_getElem?_getD, List.getElem?_append_right (Nat.le_refl _)] at hj
          simp only [Nat.sub_self, List.getElem?_cons_zero, Option.getD_some] at hj
          have key : ∀ (es : List Edge) (s : Nat), (∀ e ∈ es, e ∈ o.after) → (∀ i, s.testBit i = true → Anc ops i acc.length) → ∀ i, (befStep es acc s).testBit i = true → Anc ops i acc.length := by
            intro es
            induction es with
            | nil => intro s _ hs i hi; exact hs i hi
            | cons e es ih =>
              intro s hm hs i hi
              unfold befStep at hi ih
              rw [List.foldl_cons] at hi
              refine ih _ (fun x hx => hm x (by simp [hx])) (fun q hq => ?_) i hi
              split at hq
              · rename_i hb
                rw [Nat.testBit_or, Nat.testBit_or, Bool.or_eq_true, Bool.or_eq_true] at hq
                rcases hq with (hq | hq) | hq
                · exact hs q hq
                · have : e.on = q := by
                    rw [Nat.testBit_two_pow] at hq; simpa using hq
                  exact .edge ho (hm e (by simp)) hb this
                · exact .step ho (hm e (by simp)) hb rfl (h _ q hq)
              · exact hs q hq
          exact key _ 0 (fun e he => by simpa using he) (fun i hi => by simp at hi) i hj
        · rw [List.getD_eq_getElem?_getD, List.getElem?_eq_none (by simp; omega)] at hj
          simp at hj

def chkRow (b : Nat) : Nat → List Tx → Tx → Bool
  | _, [], _ => true
  | i, t :: ts, u => (b.testBit i || t.apart u) && chkRow b (i + 1) ts u
def chkAll (bs : List Nat) (ts : List Tx) : Nat → List Tx → Bool
  | _, [] => true
  | j, u :: us => chkRow (bs.getD j 0) 0 (ts.take j) u && chkAll bs ts (j + 1) us
def edgesOk : Nat → List Oper → Bool
  | _, [] => true
  | j, o :: os => o.after.toList.all (fun e => !Region.binds .any e || Nat.blt e.on j) && edgesOk (j + 1) os
def chk (ops : Array Oper) (ts : List Tx) : Bool := edgesOk 0 ops.toList && chkAll (bef ops.toList []) ts 0 ts

theorem chkRow_ok {b : Nat} {u : Tx} : ∀ (ts : List Tx) (i : Nat), chkRow b i ts u = true → ∀ q t, ts[q]? = some t → b.testBit (i + q) = true ∨ t.apart u = true
  | [], i, _, q, t, ht => by simp at ht
  | x :: ts, i, h, q, t, ht => by
    simp only [chkRow, Bool.and_eq_true, Bool.or_eq_true] at h
    cases q with
    | zero => simp at ht; subst ht; exact h.1
    | succ q =>
      have := chkRow_ok ts (i + 1) h.2 q t (by simpa using ht)
      rwa [show i + 1 + q = i + (q + 1) from by omega] at this
theorem chkAll_ok {bs : List Nat} {ts : List Tx} : ∀ (us : List Tx) (j : Nat), chkAll bs ts j us = true → ∀ q u, us[q]? = some u → ∀ i t, i < j + q → ts[i]? = some t → (bs.getD (j + q) 0).testBit i = true ∨ t.apart u = true
  | [], j, _, q, u, hu => by simp at hu
  | x :: us, j, h, q, u, hu => by
    intro i t hi ht
    simp only [chkAll, Bool.and_eq_true] at h
    cases q with
    | zero =>
      simp at hu; subst hu
      have := chkRow_ok _ 0 h.1 i t (by rw [List.getElem?_take, if_pos (by omega)]; exact ht)
      simpa using this
    | succ q =>
      have := chkAll_ok us (j + 1) h.2 q u (by simpa using hu) i t (by omega) ht
      rwa [show j + 1 + q = j + (q + 1) from by omega] at this
theorem edgesOk_ok : ∀ (os : List Oper) (j : Nat), edgesOk j os = true → ∀ q o, os[q]? = some o → ∀ e ∈ o.after, Region.binds .any e = true → e.on < j + q
  | [], j, _, q, o, ho => by simp at ho
  | x :: os, j, h, q, o, ho => by
    intro e he hb
    simp only [edgesOk, Bool.and_eq_true, List.all_eq_true, Bool.or_eq_true, Bool.not_eq_true'] at h
    cases q with
    | zero =>
      simp at ho; subst ho
      rcases h.1 e (by simpa using he) with h1 | h1
      · rw [hb] at h1; cases h1
      · exact Nat.le_of_ble_eq_true h1
    | succ q =>
      have := edgesOk_ok os (j + 1) h.2 q o (by simpa using ho) e he hb
      omega

noncomputable def looks (ops : Array Oper) (o : Oper) : List Tmp :=
  (o.op.operands.toList.filterMap fun | .tmp t => some t | _ => none) ++ (match o.guard with | some (g, _) => (dstAt ops.toList g).toList | none => [])
theorem looks_eq (ops : Array Oper) (o : Oper) : looks ops o = o.looksAt ops := by
  unfold looks Oper.looksAt
  cases o.guard with
  | none => rfl
  | some g =>
    obtain ⟨g, w⟩ := g
    simp only [dstAt_eq]
    rfl

def Tr.appK (t : Tr) (st : St) (k : St → Prop) : Prop :=
  match st with
  | ⟨sl, bx, rw'⟩ =>
  (match t.nb with
   | some (b, cs) => fB (bx.set b (some cs))
   | none => match t.wr with
     | some (b, off, cs) => fB (bx.modify b (Option.map fun old => blit old off cs))
     | none => fun k => k bx) fun bs =>
  match t.dst with
  | some d => setK sl d t.g fun s => k ⟨s, bs, rw'⟩
  | none => k ⟨sl, bs, rw'⟩
theorem Tr.appK_eq (t : Tr) (st : St) (k : St → Prop) : t.appK st k = k (t.app st) := by
  unfold Tr.appK Tr.app
  cases t.nb with
  | some p => obtain ⟨b, cs⟩ := p; simp only [fB_eq]; cases t.dst <;> simp only [setK_eq]
  | none =>
    cases t.wr with
    | some p => obtain ⟨b, o, cs⟩ := p; simp only [fB_eq]; cases t.dst <;> simp only [setK_eq]
    | none => cases t.dst <;> simp only [setK_eq]
def Tx.appK (x : Tx) (st : St) (k : St → Prop) : Prop :=
  match x with
  | .tr t _ => t.appK st k
  | .mem d g _ ks bs rs => match st with
    | ⟨sl, _, _⟩ => (bif ks.isEmpty then (fun k => k sl) else fS (killS ks sl)) fun sl => match d with
      | some d => setK sl d g fun s => k ⟨s, bs, rs⟩
      | none => k ⟨sl, bs, rs⟩
  | .all st' => k st'
theorem Tx.appK_eq (x : Tx) (st : St) (k : St → Prop) : x.appK st k = k (x.app st) := by
  cases x with
  | tr t vs => exact Tr.appK_eq t st k
  | mem d g L ks bs rs =>
    unfold Tx.appK Tx.app
    cases ks with
    | nil => cases d <;> simp only [List.isEmpty_nil, cond_true, setK_eq, killS, List.foldl_nil]
    | cons k0 ks => cases d <;> simp only [List.isEmpty_cons, cond_false, fS_eq, setK_eq]
  | all st' => rfl
def dopsF (P : Program) (ops : Array Oper) (o : Oper) (ih : St → List Tx → (List Tx → St → Prop) → Prop) (st : St) (acc : List Tx) (K : List Tx → St → Prop) : Prop :=
    match o.guard with
    | none => dcop P (looks ops o) o st fun t => t.appK st fun st' => ih st' (t :: acc) K
    | some (j, want) => match dstAt ops.toList j with
      | none => False
      | some s => match st.slots.getD s .junk with
        | .bool b => bif b then (bif want then st.next true (some s) (.bool true) fun st => dcop P (looks ops o) o st fun t => t.appK st fun st' => ih st' (t :: acc) K
              else st.next true (some s) (.bool true) fun st => (Tx.tr ⟨o.dst, .und, none, none, looks ops o, none, false⟩ (st.vals (looks ops o))).appK st fun st' => ih st' (.tr ⟨o.dst, .und, none, none, looks ops o, none, false⟩ (st.vals (looks ops o)) :: acc) K)
            else (bif want then st.next true (some s) (.bool false) fun st => (Tx.tr ⟨o.dst, .und, none, none, looks ops o, none, false⟩ (st.vals (looks ops o))).appK st fun st' => ih st' (.tr ⟨o.dst, .und, none, none, looks ops o, none, false⟩ (st.vals (looks ops o)) :: acc) K
              else st.next true (some s) (.bool false) fun st => dcop P (looks ops o) o st fun t => t.appK st fun st' => ih st' (t :: acc) K)
        | .und => (Tx.tr ⟨o.dst, .und, none, none, looks ops o, none, false⟩ (st.vals (looks ops o))).appK st fun st' => ih st' (.tr ⟨o.dst, .und, none, none, looks ops o, none, false⟩ (st.vals (looks ops o)) :: acc) K
        | _ => False
def dops (P : Program) (ops : Array Oper) (l : List Oper) : St → List Tx → (List Tx → St → Prop) → Prop :=
  List.rec (motive := fun _ => St → List Tx → (List Tx → St → Prop) → Prop) (fun st acc K => st.force fun st => K acc.reverse st) (fun o _ ih => dopsF P ops o ih) l

theorem put_same {st : St} {t : Nat} {b : Bool} (hs : st.slots.getD t .junk = .bool b) : st.put (some t) (.bool b) = st := by
  rw [List.getD_eq_getElem?_getD] at hs
  unfold St.put
  have : st.slots.set t (.bool b) = st.slots := by
    apply List.ext_getElem?
    intro i
    by_cases e : t = i
    · subst e
      cases hx : st.slots[t]? with
      | none => rw [List.getElem?_eq_none (by simp; exact List.getElem?_eq_none_iff.1 hx)]
      | some g => rw [hx] at hs; simp at hs; subst hs; rw [List.getElem?_set_self (List.getElem?_eq_some_iff.1 hx).1]
    · rw [List.getElem?_set_ne e]
  simp only [this]

/-- One behind the other: what each does, in the state at its turn. -/
theorem dops_does {P : Program} {ops : Array Oper} {K : List Tx → St → Prop} : ∀ (rest : List Oper) (st : St) (acc : List Tx), ops.toList.drop acc.length = rest → dops P ops rest st acc K →
    ∃ ts, K (acc.reverse ++ ts) (ts.foldl (fun s t => t.app s) st) ∧ ts.length = rest.length ∧ ∀ (q : Nat) t, ts[q]? = some t → Does P ops (acc.length + q) t ((ts.take q).foldl (fun s t => t.app s) st)
  | [], st, acc, hd, h => ⟨[], by change St.force st (fun st => K acc.reverse st) at h; rw [St.force_eq] at h; simpa using h, rfl, fun q t ht => by simp at ht⟩
  | o :: rest, st, acc, hd, h => by
    have ho : ops[acc.length]? = some o := by
      have := congrArg (fun l => l[0]?) hd
      simp only [List.getElem?_drop, List.getElem?_cons_zero, Nat.add_zero] at this
      simpa using this
    have hd' : ∀ t : Tx, ops.toList.drop (t :: acc).length = rest := fun t => by
      have := congrArg (List.drop 1) hd
      simpa [List.drop_drop] using this
    have go : ∀ t : Tx, Does P ops acc.length t st → dops P ops rest (t.app st) (t :: acc) K → ∃ ts, K (acc.reverse ++ ts) (ts.foldl (fun s t => t.app s) st) ∧ ts.length = (o :: rest).length ∧ ∀ (q : Nat) t, ts[q]? = some t → Does P ops (acc.length + q) t ((ts.take q).foldl (fun s t => t.app s) st) := fun t hD h => by
      obtain ⟨ts, h1, h2, h3⟩ := dops_does rest (t.app st) (t :: acc) (hd' t) h
      refine ⟨t :: ts, by simpa using h1, by simp [h2], fun q u hu => ?_⟩
      cases q with
      | zero => simp at hu; subst hu; simpa using hD
      | succ q =>
        have := h3 q u (by simpa using hu)
        rw [show (t :: acc).length + q = acc.length + (q + 1) from by simp; omega] at this
        simpa using this
    have doit : ∀ (t : Tx), t.Vals st → (∀ (st' : St), t.Same st' st → ∀ (C : Cx) (F : Fd) (a : Act) (w : World) (Q : Exit → Act → World → Prop) (K : Act → World → Prop), Inv C F st' a w → (∀ C' a' w', Inv C' F (t.app st') a' w' → K a' w') → o.wp P a w K Q) →
        (∀ (st' : St), t.Same st' st → ∀ (C : Cx) (F : Fd) (a : Act) (w : World), Inv C F st' a w → Region.wanted o (yielded ops a.tmps) = true) → Does P ops acc.length t st := fun t hv ht hw => ⟨hv, fun st' hs C F a w Q K hi hk => by
      unfold wpOp
      simp only [ho]
      rw [if_pos (hw st' hs C F a w hi)]
      exact .inl (ht st' hs C F a w Q K hi hk)⟩
    have skip : (∀ (st' : St), (Tx.tr ⟨o.dst, .und, none, none, o.looksAt ops, none, false⟩ (st.vals (o.looksAt ops))).Same st' st → ∀ (C : Cx) (F : Fd) (a : Act) (w : World), Inv C F st' a w → Region.wanted o (yielded ops a.tmps) = false) → Does P ops acc.length (.tr ⟨o.dst, .und, none, none, o.looksAt ops, none, false⟩ (st.vals (o.looksAt ops))) st := fun hw => ⟨fun i d hd v hv => by
      unfold St.vals at hv
      have hd' : (o.looksAt ops)[i]? = some d := hd
      rw [List.getElem?_map, hd'] at hv
      exact (Option.some.inj hv).symm, fun st' hs C F a w Q K hi hk => by
      unfold wpOp
      simp only [ho]
      rw [if_neg (by rw [hw st' hs C F a w hi]; simp)]
      have e : (Tx.tr ⟨o.dst, .und, none, none, o.looksAt ops, none, false⟩ (st.vals (o.looksAt ops))).app st' = st'.put o.dst .und := by unfold Tx.app Tr.app St.put; cases o.dst <;> rfl
      refine hk C _ _ ?_
      rw [e]
      exact hi.put o.dst .und⟩
    change dopsF P ops o (dops P ops rest) st acc K at h
    unfold dopsF at h
    simp only [looks_eq, St.next_eq, Tx.appK_eq] at h
    split at h
    · rename_i hg
      obtain ⟨t, h1, hv, _, h2⟩ := dcop_sound h
      exact go t (doit t hv h2 (fun _ _ _ _ _ _ _ => by simp [Region.wanted, hg])) h1
    · rename_i j want hg
      split at h
      · exact h.elim
      · rename_i s hsd
        rw [dstAt_eq] at hsd
        split at h
        · rename_i b hb
          have hls : s ∈ o.looksAt ops := List.mem_append_right _ (by rw [hg]; simp [hsd])
          have yld : ∀ (t : Tx), (∀ st', t.Same st' st → ∀ d ∈ o.looksAt ops, st'.slots.getD d .junk = st.slots.getD d .junk) → ∀ (st' : St), t.Same st' st → ∀ (C : Cx) (F : Fd) (a : Act) (w : World), Inv C F st' a w → Region.wanted o (yielded ops a.tmps) = (b == want) := fun t hl st' hs C F a w hi => by
            have hb' : st'.slots.getD s .junk = .bool b := by rw [hl st' hs s hls, hb]
            have hy : yielded ops a.tmps j = some b := by
              unfold yielded
              rw [hsd]; simp only [Option.bind_some, (hi.slot hb').2]
            simp only [Region.wanted, hg, hy]
            cases b <;> cases want <;> rfl
          cases b <;> cases want <;> simp only [cond_true, cond_false] at h <;> rw [put_same hb] at h
          · obtain ⟨t, h1, hv, h3, h2⟩ := dcop_sound h
            exact go t (doit t hv h2 (fun st' hs C F a w hi => by rw [yld t h3 st' hs C F a w hi]; rfl)) h1
          · exact go _ (skip (fun st' hs C F a w hi => by rw [yld (.tr ⟨o.dst, .und, none, none, o.looksAt ops, none, false⟩ (st.vals (o.looksAt ops))) (fun st' hs => Tr.Same.look hs) st' hs C F a w hi]; rfl)) h
          · exact go _ (skip (fun st' hs C F a w hi => by rw [yld (.tr ⟨o.dst, .und, none, none, o.looksAt ops, none, false⟩ (st.vals (o.looksAt ops))) (fun st' hs => Tr.Same.look hs) st' hs C F a w hi]; rfl)) h
          · obtain ⟨t, h1, hv, h3, h2⟩ := dcop_sound h
            exact go t (doit t hv h2 (fun st' hs C F a w hi => by rw [yld t h3 st' hs C F a w hi]; rfl)) h1
        · rename_i hb
          have hls : s ∈ o.looksAt ops := List.mem_append_right _ (by rw [hg]; simp [hsd])
          refine go _ (skip (fun st' hs C F a w hi => ?_)) h
          have hb' : st'.slots.getD s .junk = .und := by rw [Tr.Same.look hs s hls, hb]
          have hy : yielded ops a.tmps j = none := by
            unfold yielded
            rw [hsd]; simp only [Option.bind_some, hi.undAt hb']; rfl
          simp only [Region.wanted, hg, hy]
          cases want <;> rfl
        · exact h.elim

theorem repl (n j : Nat) : (Array.replicate n false).getD j false = false := by
  rw [Array.getD_eq_getD_getElem?, Array.getElem?_replicate]; split <;> rfl
/-! Boxes that nothing in the region turns: who looks at them alone may be told anywhere. -/
def inL (Q : List Nat) (b : Nat) : Bool := Q.any (Nat.beq b)
def quietT (Q : List Nat) : Tx → Tx
  | .tr t vs => .tr (match t.rb with | some (b, o, n) => bif inL Q b then { t with rb := none } else t | none => t) vs
  | t => t
def stayT (Q : List Nat) : Tx → Bool
  | .tr t _ => (match t.wr with | some (b, _) => !(inL Q b) | none => true) && (match t.nb with | some (b, _) => !(inL Q b) | none => true)
  | .mem .. => true
  | .all _ => false
def readsT : Tx → List Nat
  | .tr t _ => match t.rb with | some (b, _) => [b] | none => []
  | _ => []
def wroteT : Tx → List Nat
  | .tr t _ => (match t.wr with | some (b, _) => [b] | none => []) ++ (match t.nb with | some (b, _) => [b] | none => [])
  | _ => []
def candQ (ts : List Tx) : List Nat := (ts.flatMap readsT).filter fun b => !(inL (ts.flatMap wroteT) b)
noncomputable def getL (b : Nat) : List (Option (List G)) → Option (List G) :=
  Nat.rec (motive := fun _ => List (Option (List G)) → Option (List G)) (fun l => List.rec (motive := fun _ => Option (List G)) none (fun x _ _ => x) l) (fun _ ih l => List.rec (motive := fun _ => Option (List G)) none (fun _ t _ => ih t) l) b
theorem getL_eq : ∀ (b : Nat) (l : List (Option (List G))), getL b l = l.getD b none
  | 0, [] => rfl
  | 0, x :: l => rfl
  | b + 1, [] => rfl
  | b + 1, x :: l => by show getL b l = _; rw [getL_eq b l]; rfl
noncomputable def lookL (bs : List (Option (List G))) (Q : List Nat) : List (Option (List G)) := List.rec (motive := fun _ => List (Option (List G))) [] (fun b _ ih => getL b bs :: ih) Q
theorem lookL_eq (bs : List (Option (List G))) : ∀ Q, lookL bs Q = Q.map fun b => bs.getD b none
  | [] => rfl
  | b :: Q => by show getL b bs :: lookL bs Q = _; rw [getL_eq, lookL_eq bs Q]; rfl
noncomputable def memsB (Q : List Nat) : List Tx → List (List (Option (List G)))
  | [] => []
  | .mem _ _ _ _ bs _ :: ts => lookL bs Q :: memsB Q ts
  | .tr .. :: ts => memsB Q ts
  | .all _ :: ts => memsB Q ts
def lensB (n : Nat) : List Tx → Bool
  | [] => true
  | .mem _ _ _ _ bs _ :: ts => Nat.beq bs.length n && lensB n ts
  | .tr .. :: ts => lensB n ts
  | .all _ :: ts => lensB n ts
theorem lensB_mem {n : Nat} : ∀ {ts : List Tx}, lensB n ts = true → ∀ d g L ks bs rs, Tx.mem d g L ks bs rs ∈ ts → bs.length = n
  | [], h, _, _, _, _, _, _, hm => by simp at hm
  | .mem d' g' L' ks' bs' rs' :: ts, h, d, g, L, ks, bs, rs, hm => by
    simp only [lensB, Bool.and_eq_true] at h
    rcases List.mem_cons.1 hm with hm | hm
    · cases hm; exact Nat.eq_of_beq_eq_true h.1
    · exact lensB_mem h.2 _ _ _ _ _ _ hm
  | .tr .. :: ts, h, d, g, L, ks, bs, rs, hm => by
    rcases List.mem_cons.1 hm with hm | hm
    · cases hm
    · exact lensB_mem (ts := ts) h _ _ _ _ _ _ hm
  | .all _ :: ts, h, d, g, L, ks, bs, rs, hm => by
    rcases List.mem_cons.1 hm with hm | hm
    · cases hm
    · exact lensB_mem (ts := ts) h _ _ _ _ _ _ hm
def memsN : List Tx → Nat
  | [] => 0
  | .mem .. :: ts => memsN ts + 1
  | .tr .. :: ts => memsN ts
  | .all _ :: ts => memsN ts
def keepE (ts : List Tx) (st : St) : Prop := memsB (candQ ts) ts = List.replicate (memsN ts) ((candQ ts).map fun b => st.boxes.getD b none)
def chkQ (ops : Array Oper) (ts : List Tx) (st : St) : Bool := (ts.all (stayT (candQ ts)) && lensB st.boxes.length ts) && chk ops (ts.map (quietT (candQ ts)))
def Quiet (Q : List Nat) (st s : St) : Prop := s.boxes.length = st.boxes.length ∧ ∀ b, inL Q b = true → s.boxes.getD b none = st.boxes.getD b none
theorem quiet_app (Q : List Nat) (t : Tx) (s : St) : (quietT Q t).app s = t.app s := by
  cases t with
  | tr t vs =>
    obtain ⟨d, g, wr, nb, lk, rb, rr⟩ := t
    cases rb with
    | none => rfl
    | some p =>
      obtain ⟨b, o, n⟩ := p
      show (Tx.tr (bif inL Q b then _ else _) vs).app s = _
      cases inL Q b <;> rfl
  | _ => rfl
theorem memsB_mem {Q : List Nat} : ∀ {ts : List Tx} {n : Nat} {x : List (Option (List G))}, memsB Q ts = List.replicate n x → ∀ d g L ks bs rs, Tx.mem d g L ks bs rs ∈ ts → (Q.map fun b => bs.getD b none) = x
  | [], n, x, h, _, _, _, _, _, _, hm => by simp at hm
  | .mem d' g' L' ks' bs' rs' :: ts, n, x, h, d, g, L, ks, bs, rs, hm => by
    cases n with
    | zero => simp [memsB] at h
    | succ n =>
      rw [List.replicate_succ] at h
      obtain ⟨h1, h2⟩ := List.cons.inj (show lookL bs' Q :: memsB Q ts = x :: List.replicate n x from h)
      rcases List.mem_cons.1 hm with hm | hm
      · cases hm; rw [← lookL_eq]; exact h1
      · exact memsB_mem h2 _ _ _ _ _ _ hm
  | .tr .. :: ts, n, x, h, d, g, L, ks, bs, rs, hm => by
    rcases List.mem_cons.1 hm with hm | hm
    · cases hm
    · exact memsB_mem (ts := ts) h _ _ _ _ _ _ hm
  | .all _ :: ts, n, x, h, d, g, L, ks, bs, rs, hm => by
    rcases List.mem_cons.1 hm with hm | hm
    · cases hm
    · exact memsB_mem (ts := ts) h _ _ _ _ _ _ hm
theorem inL_mem {Q : List Nat} {b : Nat} (h : inL Q b = true) : b ∈ Q := by
  obtain ⟨x, hx, e⟩ := List.any_eq_true.1 h
  rw [Nat.eq_of_beq_eq_true e]; exact hx
theorem Quiet.app {Q : List Nat} {ts : List Tx} {st : St} (hk : memsB Q ts = List.replicate (memsN ts) (Q.map fun b => st.boxes.getD b none)) (hl : lensB st.boxes.length ts = true) (hs : ts.all (stayT Q) = true) {t : Tx} (ht : t ∈ ts) {s : St} (h : Quiet Q st s) : Quiet Q st (t.app s) := by
  have hst := List.all_eq_true.1 hs t ht
  cases t with
  | tr t vs =>
    simp only [stayT, Bool.and_eq_true] at hst
    obtain ⟨h1, h2⟩ := hst
    have key : (Tr.app t s).boxes.length = s.boxes.length ∧ ∀ b, inL Q b = true → (Tr.app t s).boxes.getD b none = s.boxes.getD b none := by
      unfold Tr.app
      cases hn : t.nb with
      | some p =>
        obtain ⟨b', cs⟩ := p
        rw [hn] at h2
        simp only [Bool.not_eq_true'] at h2
        refine ⟨by simp, fun b hb => ?_⟩
        simp only [List.getD_eq_getElem?_getD]
        rw [List.getElem?_set_ne (fun e => by rw [e, hb] at h2; cases h2)]
      | none =>
        cases hw : t.wr with
        | none => exact ⟨rfl, fun _ _ => rfl⟩
        | some p =>
          obtain ⟨b', o, cs⟩ := p
          rw [hw] at h1
          simp only [Bool.not_eq_true'] at h1
          refine ⟨by simp, fun b hb => ?_⟩
          simp only [List.getD_eq_getElem?_getD]
          have hne : ¬ b' = b := fun e => by rw [e, hb] at h1; cases h1
          rw [List.getElem?_modify]
          simp only [hne, if_false]
          cases s.boxes[b]? <;> rfl
    exact ⟨key.1.trans h.1, fun b hb => (key.2 b hb).trans (h.2 b hb)⟩
  | mem d g L ks bs rs =>
    have e2 := memsB_mem hk d g L ks bs rs ht
    exact ⟨lensB_mem hl d g L ks bs rs ht, fun b hb => List.map_inj_left.1 e2 b (inL_mem hb)⟩
  | all st' => cases hst
theorem quiet_same {Q : List Nat} {t : Tx} {st s s' : St} (hq : Quiet Q st s) (hq' : Quiet Q st s') (h : (quietT Q t).Same s s') : t.Same s s' := by
  cases t with
  | tr t vs =>
    obtain ⟨d, g, wr, nb, lk, rb, rr⟩ := t
    cases rb with
    | none => exact h
    | some p =>
      obtain ⟨b, o, n⟩ := p
      change (Tx.tr (bif inL Q b then (⟨d, g, wr, nb, lk, none, rr⟩ : Tr) else ⟨d, g, wr, nb, lk, some (b, o, n), rr⟩) vs).Same s s' at h
      cases hb : inL Q b with
      | false => rw [hb] at h; exact h
      | true =>
        rw [hb] at h
        have h' : (⟨d, g, wr, nb, lk, none, rr⟩ : Tr).Same s s' := h
        refine ⟨h'.rows, h'.look, fun b' o' n' e => ?_, h'.wr, h'.nb, h'.lenS, fun _ => hq.1.trans hq'.1.symm⟩
        cases e
        unfold rng
        rw [hq.2 b hb, hq'.2 b hb]
  | _ => exact h
theorem drawn_core {P : Program} {id : Nat} {ops : Array Oper} {st : St} {K : St → Prop} {X : St → Prop} (hm : P.follows .mixedOrders = true) (ts : List Tx) (hc : chk ops ts = true) (h1 : K (ts.foldl (fun s t => t.app s) st)) (hn : ts.length = ops.size)
    (h3 : ∀ (q : Nat) t, ts[q]? = some t → DoesX X P ops q t ((ts.take q).foldl (fun s t => t.app s) st)) (hX0 : X st) (hX : ∀ t ∈ ts, ∀ s, X s → X (t.app s)) :
    HasD P (.region id ops true) st fun e st' => e = .normal ∧ K st' := by
  simp only [chk, Bool.and_eq_true] at hc
  let T : Nat → Tx := fun i => ts.getD i (.tr ⟨none, .junk, none, none, [], none, false⟩ [])
  have hT : ∀ i, i < ops.size → ts[i]? = some (T i) := fun i hi => by
    show _ = some (ts.getD i _)
    rw [List.getD_eq_getElem?_getD, List.getElem?_eq_getElem (by omega)]; rfl
  have hfold : ∀ n, n ≤ ops.size → foldI T (List.range n) st = (ts.take n).foldl (fun s t => t.app s) st := fun n => by
    induction n with
    | zero => intro _; rfl
    | succ n ih =>
      intro hle
      have e : ts.take (n + 1) = ts.take n ++ [T n] := by
        rw [List.take_add_one, hT n (by omega)]; rfl
      rw [List.range_succ, foldI_append, ih (by omega), e, List.foldl_append]
      rfl
  have hXT : ∀ i s, X s → X ((T i).app s) := fun i s hs => by
    cases hi : ts[i]? with
    | some t =>
      have e : T i = t := by show ts.getD i _ = t; rw [List.getD_eq_getElem?_getD, hi]; rfl
      rw [e]; exact hX t (List.mem_of_getElem? hi) s hs
    | none =>
      have e : T i = .tr ⟨none, .junk, none, none, [], none, false⟩ [] := by show ts.getD i _ = _; rw [List.getD_eq_getElem?_getD, hi]; rfl
      rw [e]; exact hs
  have hXf : ∀ l s, X s → X (foldI T l s) := fun l => by
    induction l with
    | nil => intro s hs; exact hs
    | cons i l ih => intro s hs; rw [foldI_cons]; exact ih _ (hXT i s hs)
  intro C F a w hi
  intro l0
  refine wpIn_region_any hm ?_
  refine any_sound l0 (T := T) (st := st) (F := F) (X := X) (fun l => hXf l st hX0) (fun i hi => ?_) (fun i j hij hj hA => ?_) (fun j o ho e he hb => ?_) (fun C a w hi => ⟨C, _, ⟨rfl, h1⟩, ?_⟩) ops.size _ C a _ (by simp) (fun j o _ hl => ?_) (cnt_le _ _) ?_
  · rw [hfold i (by omega)]
    exact h3 i _ (hT i hi)
  · have hbef := bef_anc (ops := ops) ops.toList [] rfl (fun j i hj => by simp at hj)
    rcases chkAll_ok ts 0 hc.2 j (T j) (hT j hj) i (T i) (by omega) (hT i (by omega)) with h | h
    · exact absurd (hbef j i (by simpa using h)) hA
    · exact h
  · have := edgesOk_ok ops.toList 0 hc.1 j o (by simpa using ho) e he hb
    omega
  · rw [repl] at hl; cases hl
  · have e : (List.range ops.size).filter (fun j => (Array.replicate ops.size false).getD j false) = [] := by
      apply List.filter_eq_nil_iff.2
      intro j hj
      rw [repl]; simp
    rw [e]
    exact hi.drew
  · have e := hfold ops.size (Nat.le_refl _)
    rw [List.take_of_length_le (by omega)] at e
    rw [← e]; exact hi
theorem drawn_sound {P : Program} {id : Nat} {ops : Array Oper} {st : St} {K : St → Prop} (hm : P.follows .mixedOrders = true) (h : dops P ops ops.toList st [] fun ts st' => (chk ops ts = true ∨ (keepE ts st ∧ chkQ ops ts st = true)) ∧ K st') :
    HasD P (.region id ops true) st fun e st' => e = .normal ∧ K st' := by
  obtain ⟨ts, h1, h2, h3⟩ := dops_does ops.toList st [] rfl h
  simp only [List.reverse_nil, List.nil_append, List.length_nil, Nat.zero_add] at h1 h3
  obtain ⟨h0, h1⟩ := h1
  have hn : ts.length = ops.size := by simpa using h2
  rcases h0 with hc | ⟨hk, hc⟩
  · exact drawn_core (X := fun _ => True) hm ts hc h1 hn (fun q t ht => ⟨(h3 q t ht).1, fun st' _ => (h3 q t ht).2 st'⟩) trivial (fun _ _ _ _ => trivial)
  · unfold chkQ at hc
    unfold keepE at hk
    generalize candQ ts = Q at *
    rw [Bool.and_eq_true, Bool.and_eq_true] at hc
    obtain ⟨⟨hst, hll⟩, hc⟩ := hc
    have hfold : ∀ (l : List Tx) (s : St), (l.map (quietT Q)).foldl (fun s t => t.app s) s = l.foldl (fun s t => t.app s) s := fun l => by
      induction l with
      | nil => intro s; rfl
      | cons t l ih => intro s; rw [List.map_cons, List.foldl_cons, List.foldl_cons, quiet_app, ih]
    have hqf : ∀ (l : List Tx), (∀ t ∈ l, t ∈ ts) → ∀ s, Quiet Q st s → Quiet Q st (l.foldl (fun s t => t.app s) s) := fun l => by
      induction l with
      | nil => intro _ s hs; exact hs
      | cons t l ih => intro hl s hs; rw [List.foldl_cons]; exact ih (fun u hu => hl u (by simp [hu])) _ (hs.app hk hll hst (hl t (by simp)))
    have hq0 : Quiet Q st st := ⟨rfl, fun _ _ => rfl⟩
    refine drawn_core (X := Quiet Q st) hm (ts.map (quietT Q)) hc (by rw [hfold]; exact h1) (by simpa using hn) (fun q t' ht' => ?_) hq0 (fun t' ht' s hs => ?_)
    · rw [List.getElem?_map] at ht'
      obtain ⟨t, ht, rfl⟩ := Option.map_eq_some_iff.1 ht'
      rw [← List.map_take, hfold]
      obtain ⟨hv, hd⟩ := h3 q t ht
      have hqi := hqf (ts.take q) (fun t ht => List.mem_of_mem_take ht) st hq0
      refine ⟨?_, fun st' hX hs C F a w Q' K' hi hk' => hd st' (quiet_same hX hqi hs) C F a w Q' K' hi fun C' a' w' hi' => hk' C' a' w' (by rw [quiet_app]; exact hi')⟩
      cases t with
      | tr t vs =>
        obtain ⟨d, g, wr, nb, lk, rb, rr⟩ := t
        cases rb with
        | none => exact hv
        | some p =>
          obtain ⟨b, o, n⟩ := p
          show (Tx.tr (bif inL Q b then _ else _) vs).Vals _
          cases inL Q b <;> exact hv
      | _ => trivial
    · obtain ⟨t, ht, rfl⟩ := List.mem_map.1 ht'
      rw [quiet_app]
      exact hs.app hk hll hst ht
end Go.Proofs.YtijohhdgecadnaaDoor.Av
namespace Go.Proofs.YtijohhdgecadnaaDoor.Av
open Go Go.RowKit
set_option linter.unusedVariables false
set_option linter.unusedSimpArgs false

/-- What code asks of a state: computed, but for loops, of which it is asked as such. -/
def awp (P : Program) (c : Code) : St → (Exit → St → Prop) → Prop :=
  Code.rec (motive := fun _ => St → (Exit → St → Prop) → Prop)
    (fun st K => K .normal st)
    (fun _ ops draw st K => bif draw then bif P.follows .mixedOrders then dops P ops ops.toList st [] fun ts st' => (chk ops ts = true ∨ (keepE ts st ∧ chkQ ops ts st = true)) ∧ K .normal st' else False else aops P ops ops.toList st (K .normal))
    (fun _ _ ihx ihy st K => ihx st fun e st' => match e with | .normal => ihy st' K | e => K e st')
    (fun c _ _ ihx ihy st K => match st.ev c with
      | .bool t => bif t then ihx st K else ihy st K
      | _ => False)
    (fun id _ ih st K => ih st fun e st' => match e with | .exit id' => bif Nat.beq id' id then K .normal st' else K (.exit id') st' | e => K e st')
    (fun c _ st K => Has P (.loop c) st K)
    (fun _ _ _ _ _ _ _ _ => False)
    (fun id st K => K (.exit id) st)
    (fun _ _ _ _ => False)
    (fun _ st K => K .normal st)
    (fun l st K => K (.goto l) st)
    (fun st K => K .ret st)
    (fun _ _ _ => False) c

theorem awp_hasD {P : Program} : ∀ (c : Code) (st : St) (K : Exit → St → Prop), awp P c st K → HasD P c st K
  | .skip, st, K, h => fun C F a w hi => wpB_skip ⟨C, st, h, hi⟩
  | .label _, st, K, h => fun C F a w hi => wpB_label ⟨C, st, h, hi⟩
  | .region _ ops false, st, K, h => HasD.region h
  | .region _ ops true, st, K, h => by
    change (bif P.follows .mixedOrders then dops P ops ops.toList st [] fun ts st' => (chk ops ts = true ∨ (keepE ts st ∧ chkQ ops ts st = true)) ∧ K .normal st' else False) at h
    cases hm : P.follows .mixedOrders with
    | false => rw [hm] at h; exact h.elim
    | true =>
      rw [hm] at h
      exact (drawn_sound hm h).mono fun e st' ⟨h1, h2⟩ => by subst h1; exact h2
  | .seq x y, st, K, h => HasD.seq ((awp_hasD x st _ h).mono fun e st' he => by
      cases e with
      | normal => exact awp_hasD y st' K he
      | _ => exact he)
  | .cond c x y, st, K, h => by
    change (match st.ev c with | .bool t => bif t then awp P x st K else awp P y st K | _ => False) at h
    split at h
    · rename_i t ht
      refine HasD.cond ht (fun e => ?_) (fun e => ?_)
      · rw [e] at h; exact awp_hasD x st K h
      · rw [e] at h; exact awp_hasD y st K h
    · exact h.elim
  | .block id c, st, K, h => HasD.block ((awp_hasD c st _ h).mono fun e st' he => by
      cases e with
      | exit id' =>
        show if id' = id then _ else _
        cases hb : Nat.beq id' id with
        | true => rw [if_pos (Nat.eq_of_beq_eq_true hb)]; simpa [hb] using he
        | false => rw [if_neg (Nat.ne_of_beq_eq_false hb)]; simpa [hb] using he
      | _ => exact he)
  | .loop c, st, K, h => Has.out h
  | .exit id, st, K, h => fun C F a w hi => wpB_exit ⟨C, st, h, hi⟩
  | .goto l, st, K, h => fun C F a w hi => wpB_goto ⟨C, st, h, hi⟩
  | .ret, st, K, h => fun C F a w hi => wpB_ret ⟨C, st, h, hi⟩
  | .rangeFunc .., st, K, h => False.elim h
  | .scope _, st, K, h => False.elim h
  | .refuse _, st, K, h => False.elim h

theorem awp_has {P : Program} {c : Code} {st : St} {K : Exit → St → Prop} (h : awp P c st K) : Has P c st K := ⟨awp_hasD c st K h⟩

theorem awp_go {P : Program} {c : Code} {st : St} {K : Exit → St → Prop} (h : st.force fun st => awp P c st K) : Has P c st K := awp_has (by rwa [St.force_eq] at h)
/-- A list of slots, by those that are looked at. -/
def mkS : Nat → Nat → List (Nat × G) → List G
  | 0, _, _ => []
  | n + 1, i, l => (match l.find? (fun p => Nat.beq p.1 i) with | some p => p.2 | none => .junk) :: mkS n (i + 1) l
def mkB : Nat → Nat → List (Nat × List G) → List (Option (List G))
  | 0, _, _ => []
  | n + 1, i, l => (match l.find? (fun p => Nat.beq p.1 i) with | some p => some p.2 | none => none) :: mkB n (i + 1) l
def mkR : Nat → Nat → List (Nat × List (List G)) → List (Option (List (List G)))
  | 0, _, _ => []
  | n + 1, i, l => (match l.find? (fun p => Nat.beq p.1 i) with | some p => some p.2 | none => none) :: mkR n (i + 1) l
def St.of (n : Nat) (s : List (Nat × G)) (b : List (Nat × List G)) (r : List (Nat × List (List G))) : St := ⟨mkS n 0 s, mkB (n + 8) 0 b, mkR (n + 8) 0 r⟩
/-- .. in a call that was handed m variables and q rows. -/
def St.ofP (n m q : Nat) (s : List (Nat × G)) (b : List (Nat × List G)) (r : List (Nat × List (List G))) : St := ⟨mkS n 0 s, mkB (n + 8 + m) 0 b, mkR (n + 8 + q) 0 r⟩
/-- A loop, round by round. -/
def HasN (P : Program) (c : Code) (K : Exit → St → Prop) : Nat → St → Prop
  | 0, _ => False
  | n + 1, st => awp P c st fun e st' => match e with | .normal => HasN P c K n st' | e => K e st'
theorem Has.ofN {P : Program} {c : Code} {st : St} {K : Exit → St → Prop} (n : Nat) (h : HasN P c K n st) : Has P (.loop c) st K := by
  refine ⟨fun C F a w hi => ?_⟩
  have key : ∀ n st C a w, HasN P c K n st → Inv C F st a w → roundsB P c (fun e a' w' => ∃ C' st', K e st' ∧ Inv C' F st' a' w') n a w := by
    intro n
    induction n with
    | zero => intro st C a w h _; exact h.elim
    | succ n ih =>
      intro st C a w h hi
      rw [roundsB_succ]
      refine wpB_mono (awp_hasD c st _ h C F a w hi) fun e a' w' ⟨C', st', h1, h2⟩ => ?_
      cases e with
      | normal => exact ih st' C' a' w' h1 h2
      | _ => exact ⟨C', st', h1, h2⟩
  exact wpB_loop_rounds n (key n st C a w h hi)

/-! The result. -/
def resOne (P : Program) (st : St) : ResultVar → (G → Prop) → Prop
  | .tmp t, k => fA (st.ev (.tmp t)) k
  | .cell a t, k => match st.ev (.tmp a) with
    | .ptr b off => loadP P t st (.ptr b off) fun g => fA g k
    | _ => False
def resList (P : Program) (st : St) : List ResultVar → (List G → Prop) → Prop
  | [], k => k []
  | r :: rs, k => resOne P st r fun g => resList P st rs fun gs => k (g :: gs)
def resP (P : Program) (st : St) (rs : List ResultVar) (k : G → Prop) : Prop :=
  match rs with
  | [r] => resOne P st r k
  | rs => resList P st rs fun gs => k (.tup gs)

def oneSem (tmps : Array Value) (r : ResultVar) : Sem Value :=
  match r with
  | .tmp t => pure (tmps.getD t undef)
  | .cell a t => do loadVar t (← asAddr (tmps.getD a undef))
theorem resOne_sound {P : Program} {st : St} {r : ResultVar} {k : G → Prop} (h : resOne P st r k) {C : Cx} {F : Fd} {a : Act} {w : World} (hi : Inv C F st a w) :
    ∃ g v, k g ∧ (oneSem a.tmps r).run P w = .ok v w ∧ Rep C w g v := by
  cases r with
  | tmp t => exact ⟨_, _, by simp only [resOne, fA_eq] at h; exact h, rfl, hi.ev (.tmp t)⟩
  | cell p t =>
    simp only [resOne] at h
    have hp := hi.ev (.tmp p)
    cases heq : st.ev (.tmp p) with
    | ptr b off =>
      rw [heq] at h hp
      obtain ⟨g, v, h1, h2, h3⟩ := loadP_sound h hi hp
      rw [fA_eq] at h1
      refine ⟨g, v, h1, ?_, h3⟩
      have e : a.eval (.tmp p) = a.tmps.getD p undef := rfl
      rw [e] at h2 hp
      unfold oneSem
      simp only
      generalize a.tmps.getD p undef = q at hp h2
      cases hp with
      | ptr _ _ B hb =>
        simp only [Instr.loadAt, Instr.sureAddr, Sem.run_bind, Sem.run_pure, Result.andThen_ok] at h2
        simp only [asAddr, Sem.run_bind, Sem.run_pure, Result.andThen_ok]
        exact h2
    | _ => rw [heq] at h; exact h.elim
theorem resList_sound {P : Program} {st : St} {C : Cx} {F : Fd} {a : Act} {w : World} (hi : Inv C F st a w) : ∀ (rs : List ResultVar) (k : List G → Prop), resList P st rs k →
    ∃ gs vs, k gs ∧ (rs.mapM (oneSem a.tmps)).run P w = .ok vs w ∧ vs.length = gs.length ∧ gs.length = rs.length ∧ ∀ (i : Nat) g v, gs[i]? = some g → vs[i]? = some v → Rep C w g v
  | [], k, h => ⟨[], [], h, rfl, rfl, rfl, fun i g v hg => by simp at hg⟩
  | r :: rs, k, h => by
    obtain ⟨g, v, h1, h2, h3⟩ := resOne_sound h hi
    obtain ⟨gs, vs, k1, k2, k3, k4, k5⟩ := resList_sound hi rs _ h1
    refine ⟨g :: gs, v :: vs, k1, ?_, by simp [k3], by simp [k4], fun i g' v' hg hv => ?_⟩
    · rw [List.mapM_cons, Sem.run_bind, h2, Result.andThen_ok, Sem.run_bind, k2]; rfl
    · cases i with
      | zero => simp at hg hv; subst hg; subst hv; exact h3
      | succ i => exact k5 i g' v' (by simpa using hg) (by simpa using hv)
theorem resP_sound {P : Program} {st : St} {fn : Func} {k : G → Prop} (h : resP P st fn.results.toList k) {C : Cx} {F : Fd} {a : Act} {w : World} (hi : Inv C F st a w) :
    ∃ g v, k g ∧ (results fn a.tmps).run P w = .ok v w ∧ Rep C w g v := by
  have e : results fn a.tmps = (do let vs ← fn.results.mapM (oneSem a.tmps); pure (if h : vs.size = 1 then vs[0] else .tuple vs) : Sem Value) := rfl
  rw [e, Array.mapM_eq_mapM_toList]
  simp only [Sem.run_bind, Sem.run_map]
  unfold resP at h
  split at h
  · rename_i r heq
    obtain ⟨g, v, h1, h2, h3⟩ := resOne_sound h hi
    refine ⟨g, v, h1, ?_, h3⟩
    rw [heq, List.mapM_cons, Sem.run_bind, h2]
    rfl
  · rename_i hne
    obtain ⟨gs, vs, h1, h2, h3, h4, h5⟩ := resList_sound hi _ _ h
    refine ⟨.tup gs, .tuple ⟨vs⟩, h1, ?_, .tup gs vs h3 h5⟩
    rw [h2]
    simp only [Result.andThen_ok, Sem.run_pure]
    congr 1
    have hs : ¬ (vs.toArray.size = 1) := by
      intro e1
      have e2 : fn.results.toList.length = 1 := by rw [← h4, ← h3]; simpa using e1
      match hq : fn.results.toList, e2 with
      | [r], _ => exact hne r hq
    rw [dif_neg hs]

/-- The state at a function's begin. -/
def St.enter (N : Nat) (args : List G) : St := ⟨args ++ List.replicate (N - args.length) .junk, List.replicate (N + 8) none, List.replicate (N + 8) none⟩

/-- A function's contract, out of its body. -/
theorem Fv.of_awp {P : Program} {f : FuncId} {fn : Func} {c : Code} {args : List G} {g : G} (hf : P.funcs[f]? = some fn) (hb : fn.body = some c) (hh : hasBody P f = true) (hg : g.closedR = true) (hn : args.length ≤ fn.ntmps)
    (h : awp P c (St.enter fn.ntmps args) fun e st => match e with | .normal => resP P st fn.results.toList fun g' => dn st g' fun g' => g' = g | .ret => resP P st fn.results.toList fun g' => dn st g' fun g' => g' = g | _ => False) : Fv P f args g := by
  refine ⟨hh, fun C w t0 vs hl hr hM ht hb0 hr0 hfx => calls_of_wp hf hb (wpB.wp ?_)⟩
  let F : Fd := ⟨w, fun _ => False, C.ex, fun _ => none, hfx, []⟩
  have hC : ∀ b, C.box b = none := fun b => by
    cases hx : C.box b with
    | none => rfl
    | some B => obtain ⟨cs, hcs⟩ := hM.domB b B hx; simp at hcs
  have hCr : ∀ b, C.row b = none := fun b => by
    cases hx : C.row b with
    | none => rfl
    | some B => obtain ⟨cs, hcs⟩ := hM.domR b B hx; simp at hcs
  have hsl : ∀ (i : Nat) g v, (args ++ List.replicate (fn.ntmps - args.length) G.junk)[i]? = some g → ((⟨vs⟩ : Array Value) ++ Array.replicate (fn.ntmps - (⟨vs⟩ : Array Value).size) undef)[i]? = some v → Rep C w g v := fun i g v hg hv => by
    by_cases hlt : i < args.length
    · rw [List.getElem?_append_left hlt] at hg
      rw [Array.getElem?_append_left (by simpa [hl] using hlt)] at hv
      exact hr i g v hg (by simpa using hv)
    · rw [List.getElem?_append_right (by omega)] at hg
      rw [List.getElem?_replicate] at hg
      split at hg
      · cases hg; exact .junk _
      · cases hg
  have hI : Inv C F (St.enter fn.ntmps args) { tmps := (⟨vs⟩ : Array Value) ++ Array.replicate (fn.ntmps - (⟨vs⟩ : Array Value).size) undef, defers := [] } w := by
    refine ⟨rfl, by simp [St.enter, hl], hsl, ⟨fun b cs hb => ?_, fun k xs hk => ?_, fun b B hB => (by rw [hC] at hB; cases hB), fun k r hr => (by rw [hCr] at hr; cases hr), hM.bb, hM.rr, hM.br, hM.lt⟩,
      ⟨rfl, rfl, rfl, Nat.le_refl _, fun _ _ _ => rfl, fun _ vs _ fz h => ⟨vs, fz, h, rfl⟩⟩, fun _ h => h, fun _ h => .inl h, fun _ h => h.elim, fun b B hB => (by rw [hC] at hB; cases hB), fun k B s sz n hk => (by rw [hCr] at hk; cases hk), fun b B hb => (by cases hb)⟩
    · simp [St.enter, List.getElem?_replicate] at hb
    · simp [St.enter, List.getElem?_replicate] at hk
  refine wpB_mono (awp_hasD c _ _ h C F _ w hI) fun e a' w' ⟨C', st', h1, h2⟩ => ?_
  have fin : resP P st' fn.results.toList (fun g' => dn st' g' fun g' => g' = g) → a'.defers = [] ∧ ∃ v, (results fn a'.tmps).run P w' = .ok v w' ∧ ∃ v_1 C'_1 g_1 bs' rs', (Ending.returned v) = .returned v_1 ∧ (g_1 = g ∧ bs' = [] ∧ rs' = []) ∧ Rep C'_1 w' g_1 v_1 ∧ Mem C'_1 w' bs' rs' ∧ Ends C t0 w C'_1 w' := fun hres => by
    obtain ⟨g0, v, k1, k2, k3⟩ := resP_sound hres h2
    obtain ⟨g', rfl, k4⟩ := dn_sound (Co := Cx.out C.ex) h2 (fun B _ hn hx => hn (h2.ex0 B hx)) (fun k B s sz n hk hx => by
      have h3 := (h2.tr k B s sz n hk).resolve_left (fun h => h)
      have h4 := hM.lt B hx
      exact absurd h3 (by show ¬ w.heap.size ≤ B; omega)) k1 k3
    refine ⟨h2.nd, v, k2, v, Cx.out C.ex, g', [], [], rfl, ⟨rfl, rfl, rfl⟩, k4 hg, mem0 w' C.ex (fun B hB => Nat.lt_of_lt_of_le (hM.lt B hB) h2.fr.size), ?_⟩
    exact ⟨fun b B hB => (by rw [hC] at hB; cases hB), ⟨h2.fr.os, h2.fr.tape, h2.fr.output, h2.fr.size, fun B hB _ => h2.fr.block B hB (fun h => h), h2.fr.ty⟩, fun _ h => h, fun _ h => .inl h, fun _ _ h => (by cases h), fun _ _ _ _ _ h => (by cases h)⟩
  cases e with
  | normal => exact fin h1
  | ret => exact fin h1
  | _ => exact h1.elim

/-! A contract by places. -/
def shift (M : Nat) : Nat → Option Nat := fun i => some (M + i)
def St.enterP (N : Nat) (args : List G) (bs : List (List G)) (rs : List (List (List G))) : St :=
  ⟨args.map (ren (shift (N + 8)) (shift (N + 8))) ++ List.replicate (N - args.length) .junk,
    List.replicate (N + 8) none ++ bs.map (fun cs => some (cs.map (ren0 (shift (N + 8)) (shift (N + 8))))), List.replicate (N + 8) none ++ rs.map some⟩
def below (M : Nat) (l : List Nat) : List Nat := l.filter fun b => Nat.blt b M
noncomputable def exitB (M m : Nat) (st : St) (g : G) : List Nat :=
  fI (addNew [] (below M (refB g ++ ((List.range m).map (M + ·)).flatMap fun b => (cellsB st b).flatMap refB0))) fun s0 => addNew s0 (below M (s0.flatMap fun b => (cellsB st b).flatMap refB0))
noncomputable def exitR (M m : Nat) (st : St) (g : G) (nb : List Nat) : List Nat :=
  addNew [] (below M (refR g ++ ((List.range m).map (M + ·) ++ nb).flatMap fun b => (cellsB st b).flatMap refR0))
def exitQ (ids rids : List Nat) (st : St) (g : G) : G × List (Option (List G)) × List (Option (List (List G))) :=
  (ren (pos ids) (pos rids) g, ids.map fun b => (st.boxes.getD b none).map fun cs => cs.map (ren0 (pos ids) (pos rids)), rids.map fun r => st.rows.getD r none)
def exitP (N m mr : Nat) (st : St) (g : G) (k : G × List (Option (List G)) × List (Option (List (List G))) → Prop) : Prop :=
  fI (exitB (N + 8) m st g) fun nb => fI (exitR (N + 8) m st g nb) fun nr =>
    fI ((List.range m).map (N + 8 + ·) ++ nb) fun ids => fI ((List.range mr).map (N + 8 + ·) ++ nr) fun rids =>
    bif distinct ids && distinct rids && Nat.ble m ids.length then k (exitQ ids rids st g) else False

theorem Fp.of_awp {P : Program} {f : FuncId} {fn : Func} {c : Code} {args : List G} {bs : List (List G)} {rs : List (List (List G))} {q : G × List (Option (List G)) × List (Option (List (List G)))} (hf : P.funcs[f]? = some fn) (hb : fn.body = some c) (hh : hasBody P f = true)
    (hn : args.length ≤ fn.ntmps)
    (h : awp P c (St.enterP fn.ntmps args bs rs) fun e st => match e with | .normal => resP P st fn.results.toList fun g' => exitP fn.ntmps bs.length rs.length st g' fun q' => q' = q | .ret => resP P st fn.results.toList fun g' => exitP fn.ntmps bs.length rs.length st g' fun q' => q' = q | _ => False) : Fp P f args bs rs q := by
  refine ⟨hh, fun C w t0 vs hl hr hM ht hb0 hr0 hfx => calls_of_wp hf hb (wpB.wp ?_)⟩
  generalize hMM : fn.ntmps + 8 = M
  let C0 : Cx := { box := fun x => if M ≤ x then C.box (x - M) else none, row := fun x => if M ≤ x then C.row (x - M) else none, ex := C.ex }
  have c0b : ∀ i : Nat, C0.box (M + i) = C.box i := fun i => by show (if M ≤ M + i then _ else _) = _; rw [if_pos (by omega), show M + i - M = i from by omega]
  have c0r : ∀ i : Nat, C0.row (M + i) = C.row i := fun i => by show (if M ≤ M + i then _ else _) = _; rw [if_pos (by omega), show M + i - M = i from by omega]
  have c0bI : ∀ (x X : Nat), C0.box x = some X → ∃ i, x = M + i ∧ C.box i = some X := fun x X e => by
    have e' : (if M ≤ x then C.box (x - M) else none) = some X := e
    split at e'
    · exact ⟨x - M, by omega, e'⟩
    · cases e'
  have c0rI : ∀ (x : Nat) X, C0.row x = some X → ∃ i, x = M + i ∧ C.row i = some X := fun x X e => by
    have e' : (if M ≤ x then C.row (x - M) else none) = some X := e
    split at e'
    · exact ⟨x - M, by omega, e'⟩
    · cases e'
  let F : Fd := ⟨w, t0, C.ex, C0.box, hfx, []⟩
  have lead : Leads C C0 w w (shift M) (shift M) := ⟨fun b i B e hB => by cases e; rw [c0b]; exact hB, fun k i r e hk => by cases e; rw [c0r]; exact hk, Keeps.refl _ _, fun _ _ h => h⟩
  have hsl : ∀ (i : Nat) g v, (args.map (ren (shift M) (shift M)) ++ List.replicate (fn.ntmps - args.length) G.junk)[i]? = some g → ((⟨vs⟩ : Array Value) ++ Array.replicate (fn.ntmps - (⟨vs⟩ : Array Value).size) undef)[i]? = some v → Rep C0 w g v := fun i g v hg hv => by
    by_cases hlt : i < args.length
    · rw [List.getElem?_append_left (by simpa using hlt), List.getElem?_map] at hg
      rw [Array.getElem?_append_left (by simpa [hl] using hlt)] at hv
      obtain ⟨g0, hg0, rfl⟩ := Option.map_eq_some_iff.1 hg
      exact (hr i g0 v hg0 (by simpa using hv)).ren lead
    · rw [List.getElem?_append_right (by simp; omega)] at hg
      rw [List.getElem?_replicate] at hg
      split at hg
      · cases hg; exact .junk _
      · cases hg
  have hlen : (args.map (ren (shift M) (shift M)) ++ List.replicate (fn.ntmps - args.length) G.junk).length = fn.ntmps := by simp; omega
  have bsI : ∀ (x : Nat) o, (List.replicate M (none : Option (List G)) ++ bs.map (fun cs => some (cs.map (ren0 (shift M) (shift M)))))[x]? = some (some o) → ∃ i cs, x = M + i ∧ bs[i]? = some cs ∧ o = cs.map (ren0 (shift M) (shift M)) := fun x o hx => by
    by_cases hlt : x < M
    · rw [List.getElem?_append_left (by simpa using hlt), List.getElem?_replicate] at hx
      split at hx <;> cases hx
    · rw [List.getElem?_append_right (by simp; omega), List.getElem?_map] at hx
      obtain ⟨cs, h1, h2⟩ := Option.map_eq_some_iff.1 hx
      simp only [List.length_replicate] at h1
      exact ⟨x - M, cs, by omega, h1, (Option.some.inj h2).symm⟩
  have rsI : ∀ (x : Nat) o, (List.replicate M (none : Option (List (List G))) ++ rs.map some)[x]? = some (some o) → ∃ i, x = M + i ∧ rs[i]? = some o := fun x o hx => by
    by_cases hlt : x < M
    · rw [List.getElem?_append_left (by simpa using hlt), List.getElem?_replicate] at hx
      split at hx <;> cases hx
    · rw [List.getElem?_append_right (by simp; omega), List.getElem?_map] at hx
      obtain ⟨cs, h1, h2⟩ := Option.map_eq_some_iff.1 hx
      simp only [List.length_replicate] at h1
      exact ⟨x - M, by omega, by rw [h1]; exact h2⟩
  have bsO : ∀ (i : Nat) cs, bs[i]? = some cs → (List.replicate M (none : Option (List G)) ++ bs.map (fun cs => some (cs.map (ren0 (shift M) (shift M)))))[M + i]? = some (some (cs.map (ren0 (shift M) (shift M)))) := fun i cs e => by
    rw [List.getElem?_append_right (by simp), List.getElem?_map]
    simp only [List.length_replicate, show M + i - M = i from by omega, e]; rfl
  have rsO : ∀ (i : Nat) cs, rs[i]? = some cs → (List.replicate M (none : Option (List (List G))) ++ rs.map some)[M + i]? = some (some cs) := fun i cs e => by
    rw [List.getElem?_append_right (by simp), List.getElem?_map]
    simp only [List.length_replicate, show M + i - M = i from by omega, e]; rfl
  have hI : Inv C0 F (St.enterP fn.ntmps args bs rs) { tmps := (⟨vs⟩ : Array Value) ++ Array.replicate (fn.ntmps - (⟨vs⟩ : Array Value).size) undef, defers := [] } w := by
    unfold St.enterP
    rw [hMM]
    refine ⟨rfl, by rw [hlen]; simp [hl]; omega, hsl, ⟨fun b cs hx => ?_, fun k xs hx => ?_, fun b B hB => ?_, fun k r hk => ?_, fun b b' B h1 h2 => ?_, fun k k' B s sz n s' sz' n' h1 h2 => ?_, fun b k B s sz n h1 h2 => ?_, hM.lt⟩,
      ⟨rfl, rfl, rfl, Nat.le_refl _, fun _ _ _ => rfl, fun _ vs _ fz h => ⟨vs, fz, h, rfl⟩⟩, fun _ h => h, fun _ h => .inl h, ht, fun b B hB => ?_, fun k B s sz n hk => ?_, fun b B hB => ⟨hB, ?_⟩⟩
    · obtain ⟨i, cs0, rfl, h1, rfl⟩ := bsI b cs hx
      obtain ⟨B, us, T, k1, k2, k3, k4, k5, k6⟩ := hM.box i cs0 (by rw [List.getElem?_map, h1]; rfl)
      refine ⟨B, us, T, by rw [c0b]; exact k1, k2, k3, by simp [k4], k5, fun j g v hg hv => ?_⟩
      rw [List.getElem?_map] at hg
      obtain ⟨g0, hg0, rfl⟩ := Option.map_eq_some_iff.1 hg
      obtain ⟨q1, q2⟩ := k6 j g0 v hg0 hv
      exact ⟨cell_ren0 q1 _ _, q2.ren0 lead q1⟩
    · obtain ⟨i, rfl, h1⟩ := rsI k xs hx
      rcases hM.row i xs (by rw [List.getElem?_map, h1]; rfl) with k1 | ⟨X, s, z, n, us, T, fz, k1, k2, k3, k4, k5, k6, k6b, k7, k8⟩ | km
      rotate_left 2
      · exact .inr (.inr (km.move (fun q h => by rw [c0r]; exact h) (fun _ _ _ h => h) (fun _ _ _ => rfl) (fun g u hg hu => hu.keep0 hg (Keeps.refl _ _) (fun _ _ h => h))))
      · exact .inl ⟨by rw [c0r]; exact k1.1, k1.2⟩
      · exact .inr <| .inl ⟨X, s, z, n, us, T, fz, by rw [c0r]; exact k1, k2, k3, k4, k5, k6, k6b, k7, fun i r j g v a1 a2 a3 => (k8 i r j g v a1 a2 a3).keep0 ((k7 r (List.mem_of_getElem? a1)).2 g (List.mem_of_getElem? a2)) (Keeps.refl _ _) (fun _ _ h => h)⟩
    · obtain ⟨i, rfl, h1⟩ := c0bI b B hB
      obtain ⟨cs, hcs⟩ := hM.domB i B h1
      rw [List.getElem?_map] at hcs
      obtain ⟨cs0, h2, _⟩ := Option.map_eq_some_iff.1 hcs
      exact ⟨_, bsO i cs0 h2⟩
    · obtain ⟨i, rfl, h1⟩ := c0rI k r hk
      obtain ⟨cs, hcs⟩ := hM.domR i r h1
      rw [List.getElem?_map] at hcs
      obtain ⟨cs0, h2, _⟩ := Option.map_eq_some_iff.1 hcs
      exact ⟨_, rsO i cs0 h2⟩
    · obtain ⟨i, rfl, e1⟩ := c0bI b B h1
      obtain ⟨i', rfl, e2⟩ := c0bI b' B h2
      rw [hM.bb i i' B e1 e2]
    · obtain ⟨i, rfl, e1⟩ := c0rI k _ h1
      obtain ⟨i', rfl, e2⟩ := c0rI k' _ h2
      rw [hM.rr i i' B s sz n s' sz' n' e1 e2]
    · obtain ⟨i, rfl, e1⟩ := c0bI b B h1
      obtain ⟨i', rfl, e2⟩ := c0rI k _ h2
      exact hM.br i i' B s sz n e1 e2
    · obtain ⟨i, rfl, e1⟩ := c0bI b B hB
      exact .inl (hb0 i B e1)
    · obtain ⟨i, rfl, e1⟩ := c0rI k _ hk
      exact .inl (hr0 i B s sz n e1)
    · obtain ⟨i, rfl, e1⟩ := c0bI b B hB
      show (args.map (ren (shift M) (shift M)) ++ List.replicate (fn.ntmps - args.length) G.junk).length + 8 ≤ M + i
      rw [hlen]; omega
  refine wpB_mono (awp_hasD c _ _ h C0 F _ w hI) fun e a' w' ⟨C', st', h1, h2⟩ => ?_
  have fin : resP P st' fn.results.toList (fun g' => exitP fn.ntmps bs.length rs.length st' g' fun q' => q' = q) → a'.defers = [] ∧ ∃ v, (results fn a'.tmps).run P w' = .ok v w' ∧ ∃ v_1 C'_1 g_1 bs' rs', (Ending.returned v) = .returned v_1 ∧ (g_1 = q.1 ∧ bs' = q.2.1 ∧ rs' = q.2.2) ∧ Rep C'_1 w' g_1 v_1 ∧ Mem C'_1 w' bs' rs' ∧ Ends C t0 w C'_1 w' := fun hres => by
    obtain ⟨g0, v, k1, k2, k3⟩ := resP_sound hres h2
    unfold exitP at k1
    simp only [fI_eq] at k1
    rw [hMM] at k1
    generalize exitR M bs.length st' g0 (exitB M bs.length st' g0) = nr at k1
    generalize exitB M bs.length st' g0 = nb at k1
    cases hc : distinct ((List.range bs.length).map (M + ·) ++ nb) && distinct ((List.range rs.length).map (M + ·) ++ nr) && Nat.ble bs.length ((List.range bs.length).map (M + ·) ++ nb).length with
    | false => rw [hc] at k1; exact k1.elim
    | true =>
    rw [hc] at k1
    simp only [cond_true] at k1
    subst k1
    simp only [Bool.and_eq_true] at hc
    have nI := distinct_nodup hc.1.1
    have nJ := distinct_nodup hc.1.2
    have idA : ∀ i : Nat, i < bs.length → ((List.range bs.length).map (M + ·) ++ nb)[i]? = some (M + i) := fun i hi => by
      rw [List.getElem?_append_left (by simpa using hi), List.getElem?_map, List.getElem?_range hi]; rfl
    generalize (List.range bs.length).map (M + ·) ++ nb = ids at *
    generalize (List.range rs.length).map (M + ·) ++ nr = rids at *
    let Cq : Cx := { box := fun i => (ids[i]?).bind C'.box, row := fun i => (rids[i]?).bind C'.row, ex := C'.ex }
    have qb : ∀ (i b : Nat), ids[i]? = some b → Cq.box i = C'.box b := fun i b e => by show (ids[i]?).bind _ = _; rw [e]; rfl
    have qr : ∀ (i b : Nat), rids[i]? = some b → Cq.row i = C'.row b := fun i b e => by show (rids[i]?).bind _ = _; rw [e]; rfl
    have qbI : ∀ (i X : Nat), Cq.box i = some X → ∃ b, ids[i]? = some b ∧ C'.box b = some X := fun i X e => by
      have e' : (ids[i]?).bind C'.box = some X := e
      cases hx : ids[i]? with
      | none => rw [hx] at e'; cases e'
      | some b => rw [hx] at e'; exact ⟨b, rfl, e'⟩
    have qrI : ∀ (i : Nat) X, Cq.row i = some X → ∃ b, rids[i]? = some b ∧ C'.row b = some X := fun i X e => by
      have e' : (rids[i]?).bind C'.row = some X := e
      cases hx : rids[i]? with
      | none => rw [hx] at e'; cases e'
      | some b => rw [hx] at e'; exact ⟨b, rfl, e'⟩
    have lead2 : Leads C' Cq w' w' (pos ids) (pos rids) := ⟨fun b i X e hX => by rw [qb i b (pos_some e)]; exact hX, fun b i X e hX => by rw [qr i b (pos_some e)]; exact hX, Keeps.refl _ _, fun _ _ h => h⟩
    have getB : ∀ (b : Nat) cs, st'.boxes.getD b none = some cs → st'.boxes[b]? = some (some cs) := fun b cs e => by
      have := boxes_some (st := st') (b := b) (by rw [e]; rfl)
      rw [this]; rw [cellsB_eq, e]; rfl
    refine ⟨h2.nd, v, k2, v, Cq, _, _, _, rfl, ⟨rfl, rfl, rfl⟩, k3.ren lead2, ⟨fun i cs hx => ?_, fun i xs hx => ?_, fun i X hX => ?_, fun i X hX => ?_, fun i i' X e1 e2 => ?_, fun i i' X s z n s' z' n' e1 e2 => ?_, fun i j X s z n e1 e2 => ?_, h2.mem.lt⟩,
      ⟨fun i B hB => ?_, h2.fr, h2.ex0, h2.exn, fun i B hB => ?_, fun i B s z n hB => ?_⟩⟩
    · simp only [exitQ, List.getElem?_map, Option.map_eq_some_iff] at hx
      obtain ⟨b, hbi, cs0, e0, rfl⟩ := hx
      obtain ⟨X, us, T, k1, k2, k3, k4, k5, k6⟩ := h2.mem.box b cs0 (getB b cs0 e0)
      refine ⟨X, us, T, by rw [qb i b hbi]; exact k1, k2, k3, by simp [k4], k5, fun j g v hg hv => ?_⟩
      rw [List.getElem?_map] at hg
      obtain ⟨g0, hg0, rfl⟩ := Option.map_eq_some_iff.1 hg
      obtain ⟨q1, q2⟩ := k6 j g0 v hg0 hv
      exact ⟨cell_ren0 q1 _ _, q2.ren0 lead2 q1⟩
    · simp only [exitQ, List.getElem?_map, Option.map_eq_some_iff] at hx
      obtain ⟨b, hbi, e0⟩ := hx
      rcases h2.mem.row b xs (rowsOf e0) with k1 | ⟨X, s, z, n, us, T, fz, k1, k2, k3, k4, k5, k6, k6b, k7, k8⟩ | km
      rotate_left 2
      · exact .inr (.inr (km.move (fun q h => by rw [qr i b hbi]; exact h) (fun _ _ _ h => h) (fun _ _ _ => rfl) (fun g u hg hu => hu.keep0 hg (Keeps.refl _ _) (fun _ _ h => h))))
      · exact .inl ⟨by rw [qr i b hbi]; exact k1.1, k1.2⟩
      · exact .inr <| .inl ⟨X, s, z, n, us, T, fz, by rw [qr i b hbi]; exact k1, k2, k3, k4, k5, k6, k6b, k7, fun i r j g v a1 a2 a3 => (k8 i r j g v a1 a2 a3).keep0 ((k7 r (List.mem_of_getElem? a1)).2 g (List.mem_of_getElem? a2)) (Keeps.refl _ _) (fun _ _ h => h)⟩
    · obtain ⟨b, hbi, e1⟩ := qbI i X hX
      obtain ⟨cs, hcs⟩ := h2.mem.domB b X e1
      exact ⟨cs.map (ren0 (pos ids) (pos rids)), by simp only [exitQ, List.getElem?_map, hbi, Option.map_some, List.getD_eq_getElem?_getD, hcs, Option.getD_some]⟩
    · obtain ⟨b, hbi, e1⟩ := qrI i X hX
      obtain ⟨cs, hcs⟩ := h2.mem.domR b X e1
      exact ⟨cs, by simp only [exitQ, List.getElem?_map, hbi, Option.map_some, List.getD_eq_getElem?_getD, hcs, Option.getD_some]⟩
    · obtain ⟨b, hbi, d1⟩ := qbI i X e1
      obtain ⟨b', hbi', d2⟩ := qbI i' X e2
      have := h2.mem.bb b b' X d1 d2
      subst this
      exact (List.getElem?_inj (List.getElem?_eq_some_iff.1 hbi).1 nI).1 (hbi.trans hbi'.symm)
    · obtain ⟨b, hbi, d1⟩ := qrI i _ e1
      obtain ⟨b', hbi', d2⟩ := qrI i' _ e2
      have := h2.mem.rr b b' X s z n s' z' n' d1 d2
      subst this
      exact (List.getElem?_inj (List.getElem?_eq_some_iff.1 hbi).1 nJ).1 (hbi.trans hbi'.symm)
    · obtain ⟨b, hbi, d1⟩ := qbI i X e1
      obtain ⟨b', hbi', d2⟩ := qrI j _ e2
      exact h2.mem.br b b' X s z n d1 d2
    · obtain ⟨cs, hcs⟩ := hM.domB i B hB
      have hlt : i < bs.length := by have := (List.getElem?_eq_some_iff.1 hcs).1; simpa using this
      rw [qb i _ (idA i hlt)]
      exact (h2.fb (M + i) B (by show C0.box (M + i) = _; rw [c0b]; exact hB)).1
    · obtain ⟨b, hbi, d1⟩ := qbI i B hB
      exact h2.tb b B d1
    · obtain ⟨b, hbi, d1⟩ := qrI i _ hB
      exact h2.tr b B s z n d1
  cases e with
  | normal => exact fin h1
  | ret => exact fin h1
  | _ => exact h1.elim
end Go.Proofs.YtijohhdgecadnaaDoor.Av
namespace Go.Proofs.YtijohhdgecadnaaDoor.Sp
open Go
set_option linter.unusedVariables false

def clamp (n : Int) : Int := if n < 0 then 0 else if n > 1125899906842624 then 1125899906842624 else n
theorem clamp_bd (n : Int) : 0 ≤ clamp n ∧ clamp n ≤ 1125899906842624 := by unfold clamp; split <;> (try split) <;> omega
def add (a b : Int) : Int := clamp (clamp a + clamp b)
def sub (a b : Int) : Int := if clamp a < clamp b then 0 else clamp a - clamp b
def grain (g : Int) : Int := if clamp g = 0 then 1 else clamp g
theorem grain_bd (g : Int) : 1 ≤ grain g ∧ grain g ≤ 1125899906842624 := by unfold grain; have := clamp_bd g; split <;> omega
def up (t g : Int) : Int := clamp ((clamp t + grain g - 1) / grain g * grain g)
def past (now t g : Int) : Bool := decide (up t g ≤ clamp now)
def leaseEnds (a b : Int) : Int := if clamp a < clamp b then clamp a else clamp b
def leaseOver (now d u : Int) : Int := if clamp d ≤ clamp now then 4 else if clamp u ≤ clamp now then 1 else 0
def right (c : Int) : Bool := decide (0 ≤ c) && decide (c ≤ 16)
def clean (c : Int) : Int := if 0 ≤ c ∧ c ≤ 16 then c else 2
theorem clean_bd (c : Int) : 0 ≤ clean c ∧ clean c ≤ 16 := by unfold clean; split <;> omega
def rank (c : Int) : Int := if clean c = 0 then 0 else if clean c = 14 then 1 else if clean c = 8 then 2 else if clean c = 4 then 100 else if clean c = 1 then 101 else 10 + clean c
def join (a b : Int) : Int := if rank b > rank a then clean b else clean a

theorem clean_clean (c : Int) : clean (clean c) = clean c := by have := clean_bd c; generalize clean c = x at *; unfold clean; (repeat' split) <;> omega
theorem rank_clean (c : Int) : rank (clean c) = rank c := by unfold rank; rw [clean_clean]
def places : List Int := [0, 14, 8, 2, 3, 5, 6, 7, 9, 10, 11, 12, 13, 15, 16, 4, 1]
def place (c : Int) : Int := (places.idxOf (clean c) : Nat)
theorem place_lt (a b : Int) : place a < place b ↔ rank a < rank b := by
  have key : ∀ x : Fin 17, ∀ y : Fin 17, (((places.idxOf (x.val : Int) : Nat) : Int) < ((places.idxOf (y.val : Int) : Nat) : Int)) ↔ rank (x.val : Int) < rank (y.val : Int) := by decide +kernel
  have ha := clean_bd a
  have hb := clean_bd b
  have := key ⟨(clean a).toNat, by omega⟩ ⟨(clean b).toNat, by omega⟩
  simp only [Int.toNat_of_nonneg ha.1, Int.toNat_of_nonneg hb.1, rank_clean] at this
  exact this
def names : List ByteArray := [⟨#[79, 75]⟩, ⟨#[67, 65, 78, 67, 69, 76, 76, 69, 68]⟩, ⟨#[85, 78, 75, 78, 79, 87, 78]⟩, ⟨#[73, 78, 86, 65, 76, 73, 68, 95, 65, 82, 71, 85, 77, 69, 78, 84]⟩, ⟨#[68, 69, 65, 68, 76, 73, 78, 69, 95, 69, 88, 67, 69, 69, 68, 69, 68]⟩, ⟨#[78, 79, 84, 95, 70, 79, 85, 78, 68]⟩, ⟨#[65, 76, 82, 69, 65, 68, 89, 95, 69, 88, 73, 83, 84, 83]⟩, ⟨#[80, 69, 82, 77, 73, 83, 83, 73, 79, 78, 95, 68, 69, 78, 73, 69, 68]⟩, ⟨#[82, 69, 83, 79, 85, 82, 67, 69, 95, 69, 88, 72, 65, 85, 83, 84, 69, 68]⟩, ⟨#[70, 65, 73, 76, 69, 68, 95, 80, 82, 69, 67, 79, 78, 68, 73, 84, 73, 79, 78]⟩, ⟨#[65, 66, 79, 82, 84, 69, 68]⟩, ⟨#[79, 85, 84, 95, 79, 70, 95, 82, 65, 78, 71, 69]⟩, ⟨#[85, 78, 73, 77, 80, 76, 69, 77, 69, 78, 84, 69, 68]⟩, ⟨#[73, 78, 84, 69, 82, 78, 65, 76]⟩, ⟨#[85, 78, 65, 86, 65, 73, 76, 65, 66, 76, 69]⟩, ⟨#[68, 65, 84, 65, 95, 76, 79, 83, 83]⟩, ⟨#[85, 78, 65, 85, 84, 72, 69, 78, 84, 73, 67, 65, 84, 69, 68]⟩]
theorem up_exact {t g : Int} (hg : 1 ≤ g) (h : t % g = 0) : (t + g - 1) / g * g = t := by
  have e := Int.mul_ediv_add_emod t g
  have e2 : t + g - 1 = (g - 1) + g * (t / g) := by omega
  rw [e2, Int.add_mul_ediv_left _ _ (by omega), Int.ediv_eq_zero_of_lt (by omega) (by omega), Int.zero_add, Int.mul_comm]; omega
theorem up_more {t g : Int} (hg : 1 ≤ g) (h : t % g ≠ 0) : (t + g - 1) / g * g = t - t % g + g := by
  have e := Int.mul_ediv_add_emod t g
  have h1 := Int.emod_nonneg t (show g ≠ 0 by omega)
  have h2 := Int.emod_lt_of_pos t (show 0 < g by omega)
  have e1 : g * (t / g + 1) = g * (t / g) + g := by rw [Int.mul_add, Int.mul_one]
  have e2 : t + g - 1 = (t % g - 1) + g * (t / g + 1) := by omega
  rw [e2, Int.add_mul_ediv_left _ _ (by omega), Int.ediv_eq_zero_of_lt (by omega) (by omega), Int.zero_add, Int.mul_comm]; omega
theorem clamp_id {n : Int} (h : 0 ≤ n ∧ n ≤ 1125899906842624) : clamp n = n := by unfold clamp; (repeat' split) <;> omega
theorem wrap_i64 {n : Int} (h : -9223372036854775808 ≤ n ∧ n ≤ 9223372036854775807) : IntKind.i64.wrap n = n := by
  unfold IntKind.wrap IntKind.bits IntKind.signed
  simp only [Bool.true_and]
  split
  · rename_i h2; simp at h2; omega
  · rename_i h2; simp at h2; omega
end Go.Proofs.YtijohhdgecadnaaDoor.Sp
namespace Go.Proofs.YtijohhdgecadnaaDoor.Sp
open Go Go.Proofs.YtijohhdgecadnaaDoor.Av
set_option linter.unusedVariables false

structure Rd where
  S : ByteArray
  at' : Nat
  bad : Int
def Rd.p (r : Rd) : ByteArray := r.S.extract r.at' r.S.size
def Rd.gp (r : Rd) : List G := [.str r.p, .int .i64 r.bad]
def Rd.gr (r : Rd) : List G := [.str r.S, .int .i64 r.at', .int .i64 r.bad]
def Rd.ok (r : Rd) : Prop := r.at' ≤ r.S.size
def num1 (s : ByteArray) (p : Nat) (n : Int) (i : Nat) : Int := n * 256 + byteAt s (p + i)
def numOf (s : ByteArray) (p w : Nat) : Int := (List.range w).foldl (num1 s p) 0
def rFail (r : Rd) (e : Int) : Rd := { r with bad := if r.bad = 0 then e else r.bad }
def rLeft (r : Rd) : Int := if r.bad = 0 then (r.S.size : Int) - r.at' else 0
def rEnd (r : Rd) : Rd := { r with bad := if rLeft r > 0 then 5 else r.bad }
def rNum (r : Rd) (w : Int) : Rd × Int :=
  if w < 1 ∨ 7 < w then (rFail r 2, 0)
  else if r.bad ≠ 0 then (r, 0)
  else if w > (r.S.size : Int) - r.at' then ({ r with bad := 3 }, 0)
  else ({ r with at' := r.at' + w.toNat }, numOf r.S r.at' w.toNat)
def rTake (r : Rd) (n : Int) : Rd × ByteArray :=
  if r.bad ≠ 0 then (r, ⟨#[]⟩)
  else if n > (r.S.size : Int) - r.at' then ({ r with bad := 3 }, ⟨#[]⟩)
  else ({ r with at' := r.at' + n.toNat }, r.S.extract r.at' (r.at' + n.toNat))
def rText (r : Rd) : Rd × ByteArray := rTake (rNum r 1).1 (rNum r 1).2
def rFlag (r : Rd) : Rd × Bool := ({ (rNum r 1).1 with bad := if (rNum r 1).1.bad = 0 ∧ (rNum r 1).2 > 1 then 5 else (rNum r 1).1.bad }, (rNum r 1).2 == 1)
theorem Rd.p_size (r : Rd) (h : r.ok) : (r.p.size : Int) = (r.S.size : Int) - r.at' := by
  unfold Rd.p; rw [ByteArray.size_extract]; have : r.at' ≤ r.S.size := h; omega
theorem rNum_ok (r : Rd) (w : Int) (h : r.ok) : (rNum r w).1.ok := by
  have h : r.at' ≤ r.S.size := h
  unfold rNum
  (repeat' split) <;> first | exact h | (show r.at' + w.toNat ≤ r.S.size; omega)
theorem rTake_ok (r : Rd) (w : Int) (h : r.ok) : (rTake r w).1.ok := by
  have h : r.at' ≤ r.S.size := h
  unfold rTake
  (repeat' split) <;> first | exact h | (show r.at' + w.toNat ≤ r.S.size; omega)
theorem byteAt_bd (s : ByteArray) (i : Nat) : 0 ≤ byteAt s i ∧ byteAt s i < 256 := by
  unfold byteAt
  have := (s.data.toList.getD i 0).toNat_lt
  omega
theorem numOf_bd (s : ByteArray) (p w : Nat) : 0 ≤ numOf s p w ∧ numOf s p w < 256 ^ w := by
  unfold numOf
  induction w with
  | zero => simp
  | succ w ih =>
    rw [List.range_succ, List.foldl_append]
    simp only [List.foldl_cons, List.foldl_nil]
    unfold num1 at *
    have := byteAt_bd s (p + w)
    rw [Int.pow_succ]
    omega
theorem numOf_succ (s : ByteArray) (p w : Nat) : numOf s p (w + 1) = numOf s p w * 256 + byteAt s (p + w) := by
  unfold numOf; rw [List.range_succ, List.foldl_append]; rfl
theorem byteAt_cut (s : ByteArray) (a n i : Nat) (h : i < n) (hn : a + n ≤ s.size) : byteAt (s.extract a (a + n)) i = byteAt s (a + i) := by
  unfold byteAt
  congr 2
  rw [List.getD_eq_getElem?_getD, List.getD_eq_getElem?_getD]
  congr 1
  have e : (s.extract a (a + n)).data.toList = (s.data.toList.drop a).take n := by
    rw [ByteArray.data_extract, Array.toList_extract]
    simp
  rw [e, List.getElem?_take_of_lt h, List.getElem?_drop]
theorem numOf_cut (s : ByteArray) (a n : Nat) (hn : a + n ≤ s.size) : ∀ w, w ≤ n → numOf (s.extract a (a + n)) 0 w = numOf s a w
  | 0, _ => rfl
  | w + 1, h => by rw [numOf_succ, numOf_succ, numOf_cut s a n hn w (by omega), Nat.zero_add, byteAt_cut s a n w (by omega) hn]
theorem p_take (r : Rd) (n : Nat) (h : r.at' + n ≤ r.S.size) : r.p.extract 0 n = r.S.extract r.at' (r.at' + n) := by
  unfold Rd.p; rw [ByteArray.extract_extract]; congr 1; omega
theorem p_drop (r : Rd) (n : Nat) (h : r.at' + n ≤ r.S.size) : r.p.extract n r.p.size = r.S.extract (r.at' + n) r.S.size := by
  have e : r.p.size = r.S.size - r.at' := by unfold Rd.p; rw [ByteArray.size_extract]; omega
  rw [e]
  unfold Rd.p; rw [ByteArray.extract_extract]; congr 1; omega
theorem shl_or (n b : Int) (h : 0 ≤ n ∧ n < 281474976710656) (hb : 0 ≤ b ∧ b < 256) : ((BitVec.ofInt 64 (n * 256) ||| BitVec.ofInt 64 b).toNat : Int) = n * 256 + b := by
  obtain ⟨m, rfl⟩ := Int.eq_ofNat_of_zero_le h.1
  obtain ⟨c, rfl⟩ := Int.eq_ofNat_of_zero_le hb.1
  have e1 : BitVec.ofInt 64 ((m : Int) * 256) = BitVec.ofNat 64 (m <<< 8) := by
    rw [Nat.shiftLeft_eq]; simp [← BitVec.ofInt_natCast]
  have e2 : BitVec.ofInt 64 (c : Int) = BitVec.ofNat 64 c := by simp
  rw [e1, e2, BitVec.toNat_or, BitVec.toNat_ofNat, BitVec.toNat_ofNat, Nat.mod_eq_of_lt (by rw [Nat.shiftLeft_eq]; omega), Nat.mod_eq_of_lt (by omega), ← Nat.shiftLeft_add_eq_or_of_lt (by omega), Nat.shiftLeft_eq]
  omega
end Go.Proofs.YtijohhdgecadnaaDoor.Sp
namespace Go.Proofs.YtijohhdgecadnaaDoor.Sp
open Go Go.Proofs.YtijohhdgecadnaaDoor.Av
set_option linter.unusedVariables false

def dgs (n : Nat) (k : Nat) : List UInt8 := (List.range k).reverse.map fun i => UInt8.ofNat (n / 256 ^ i)
theorem dgs_succ (n k : Nat) : dgs n (k + 1) = UInt8.ofNat (n / 256 ^ k) :: dgs n k := by
  unfold dgs; rw [List.range_succ, List.reverse_append]; rfl
theorem dgs_len (n k : Nat) : (dgs n k).length = k := by simp [dgs]
def okN (n w : Int) : Bool := decide (1 ≤ w ∧ w ≤ 7 ∧ 0 ≤ n ∧ n < 256 ^ w.toNat)
def strL (l : List UInt8) : ByteArray := ⟨l.toArray⟩
def numB (n w : Int) : ByteArray := if okN n w then strL (dgs n.toNat w.toNat) else strL []
def byteG (b : UInt8) : List G := [.int .u8 b.toNat]
theorem strL_list (l : List UInt8) : (strL l).data.toList = l := rfl
theorem ext_list {a b : ByteArray} (h : a.data.toList = b.data.toList) : a = b := by
  cases a; cases b; simp only [ByteArray.mk.injEq]; exact Array.toList_inj.1 h
theorem app_list (a b : ByteArray) : (a ++ b).data.toList = a.data.toList ++ b.data.toList := by
  rw [ByteArray.data_append, Array.toList_append]
theorem size_list (a : ByteArray) : a.data.toList.length = a.size := by rw [Array.length_toList]; rfl
theorem ext_take (a : ByteArray) (i j : Nat) : (a.extract i j).data.toList = (a.data.toList.take j).drop i := by
  rw [ByteArray.data_extract, Array.toList_extract, List.extract_eq_take_drop, List.drop_take]
theorem strL_app (a b : List UInt8) : strL a ++ strL b = strL (a ++ b) := ext_list (by rw [app_list]; rfl)
theorem strL_size (a : List UInt8) : (strL a).size = a.length := by rw [← size_list]; rfl
theorem strL_eq (a : ByteArray) : strL a.data.toList = a := ext_list rfl
theorem byteAt_strL (l : List UInt8) (i : Nat) : byteAt (strL l) i = ((l.getD i 0).toNat : Int) := rfl
theorem u8_mod (n : Nat) : ((UInt8.ofNat n).toNat : Int) = (n : Int) % 256 := by rw [UInt8.toNat_ofNat']; omega
theorem pow_cast (w : Nat) : ((256 ^ w : Nat) : Int) = 256 ^ w := by
  induction w with
  | zero => rfl
  | succ w ih => rw [Nat.pow_succ, Int.pow_succ, ← ih]; omega
theorem numB_yes {n w : Nat} (h1 : 1 ≤ w) (h2 : w ≤ 7) (h3 : n < 256 ^ w) : numB n w = strL (dgs n w) := by
  unfold numB okN
  rw [if_pos]
  · simp
  · have : (n : Int) < 256 ^ w := by rw [← pow_cast]; omega
    simp only [Int.toNat_natCast, decide_eq_true_eq]
    exact ⟨by omega, by omega, by omega, this⟩
theorem numB_no {n w : Int} (h : ¬ (1 ≤ w ∧ w ≤ 7 ∧ 0 ≤ n ∧ n < 256 ^ w.toNat)) : numB n w = strL [] := by
  unfold numB okN; rw [decide_eq_false h]; rfl
theorem wrap_u8 (n : Nat) : IntKind.u8.wrap (n : Int) = ((UInt8.ofNat n).toNat : Int) := by
  rw [u8_mod]; rfl
/-- What so many bytes come to is the number. -/
theorem numOf_cons (b : UInt8) (l : List UInt8) (p w : Nat) : numOf (strL (b :: l)) (p + 1) w = numOf (strL l) p w := by
  unfold numOf
  congr 1
  funext n i
  unfold num1
  rw [byteAt_strL, byteAt_strL, show p + 1 + i = (p + i) + 1 from by omega]
  rfl
theorem fold_shift (s : ByteArray) (p : Nat) : ∀ (w : Nat) (a : Int), (List.range w).foldl (num1 s p) a = a * 256 ^ w + (List.range w).foldl (num1 s p) 0
  | 0, a => by simp
  | w + 1, a => by
    rw [List.range_succ, List.foldl_append, List.foldl_append, fold_shift s p w a]
    simp only [List.foldl_cons, List.foldl_nil]
    unfold num1
    rw [Int.pow_succ, Int.add_mul, Int.mul_assoc]
    omega
theorem numOf_head (s : ByteArray) (p w : Nat) : numOf s p (w + 1) = byteAt s p * 256 ^ w + numOf s (p + 1) w := by
  have e : ∀ a, (List.range (w + 1)).foldl (num1 s p) a = (List.range w).foldl (num1 s (p + 1)) (num1 s p a 0) := fun a => by
    rw [List.range_succ_eq_map, List.foldl_cons, List.foldl_map]
    congr 1
    funext n i
    unfold num1
    rw [show p + (i + 1) = p + 1 + i from by omega]
  unfold numOf
  rw [e, fold_shift]
  have : num1 s p 0 0 = byteAt s p := by unfold num1; simp
  rw [this]
theorem numOf_dgs (n : Nat) (t : List UInt8) : ∀ (w : Nat), numOf (strL (dgs n w ++ t)) 0 w = ((n % 256 ^ w : Nat) : Int)
  | 0 => by rw [Nat.pow_zero, Nat.mod_one]; rfl
  | w + 1 => by
    rw [numOf_head, dgs_succ, List.cons_append, numOf_cons, numOf_dgs n t w]
    have hb : byteAt (strL (UInt8.ofNat (n / 256 ^ w) :: (dgs n w ++ t))) 0 = ((n / 256 ^ w : Nat) : Int) % 256 := u8_mod _
    rw [hb]
    have : n % 256 ^ (w + 1) = (n / 256 ^ w % 256) * 256 ^ w + n % 256 ^ w := by
      rw [Nat.pow_succ, Nat.mod_mul]; rw [Nat.mul_comm (256 ^ w)]; omega
    rw [this, Int.natCast_add, Int.natCast_mul, pow_cast]
    rfl
/-- A number of so many bytes. -/
theorem dgs_numOf (s : ByteArray) (p : Nat) : ∀ (w : Nat), p + w ≤ s.size → dgs (numOf s p w).toNat w = (s.data.toList.drop p).take w := by
  have key : ∀ (l : List UInt8) (w : Nat), w ≤ l.length → dgs (numOf (strL l) 0 w).toNat w = l.take w := by
    intro l
    induction l with
    | nil => intro w h; have : w = 0 := by simpa using h
             subst this; rfl
    | cons b l ih =>
      intro w h
      cases w with
      | zero => rfl
      | succ w =>
        simp only [List.length_cons] at h
        have hb := numOf_bd (strL l) 0 w
        have hb0 : byteAt (strL (b :: l)) 0 = (b.toNat : Int) := rfl
        rw [numOf_head, numOf_cons, dgs_succ, List.take_succ_cons, hb0]
        obtain ⟨m, hm⟩ := Int.eq_ofNat_of_zero_le hb.1
        have hlt : m < 256 ^ w := by have := hb.2; rw [hm, ← pow_cast] at this; omega
        rw [← ih w (by omega), hm]
        have e : ((b.toNat : Int) * 256 ^ w + (m : Int)).toNat = b.toNat * 256 ^ w + m := by
          have : ((b.toNat : Int) * 256 ^ w + (m : Int)) = ((b.toNat * 256 ^ w + m : Nat) : Int) := by rw [Int.natCast_add, Int.natCast_mul, pow_cast]
          rw [this]; rfl
        rw [e, Int.toNat_natCast]
        have hp : 0 < 256 ^ w := Nat.pow_pos (by omega)
        congr 1
        · rw [Nat.add_comm, Nat.add_mul_div_right _ _ hp, Nat.div_eq_of_lt hlt, Nat.zero_add]
          simp
        · unfold dgs
          apply List.map_congr_left
          intro i hi
          have hi : i < w := by simpa using hi
          have : (b.toNat * 256 ^ w + m) / 256 ^ i = b.toNat * 256 ^ (w - i) + m / 256 ^ i := by
            have hpi : 0 < 256 ^ i := Nat.pow_pos (by omega)
            have e2 : 256 ^ w = 256 ^ (w - i) * 256 ^ i := by rw [← Nat.pow_add]; congr 1; omega
            rw [e2, ← Nat.mul_assoc, Nat.add_comm, Nat.add_mul_div_right _ _ hpi, Nat.add_comm]
          rw [this]
          apply UInt8.toNat_inj.1
          rw [UInt8.toNat_ofNat', UInt8.toNat_ofNat']
          have e3 : 256 ^ (w - i) = 256 ^ (w - i - 1) * 256 := by rw [← Nat.pow_succ]; congr 1; omega
          rw [e3, ← Nat.mul_assoc, Nat.add_comm, Nat.add_mul_mod_self_right]
  intro w h
  have e : numOf s p w = numOf (strL (s.data.toList.drop p)) 0 w := by
    unfold numOf
    congr 1
    funext n i
    unfold num1 byteAt
    congr 2
    show _ = ((s.data.toList.drop p).getD (0 + i) 0).toNat
    rw [List.getD_eq_getElem?_getD, List.getD_eq_getElem?_getD, List.getElem?_drop, Nat.zero_add]
  rw [e]
  exact key _ w (by rw [List.length_drop, size_list]; omega)
end Go.Proofs.YtijohhdgecadnaaDoor.Sp
namespace Go.Proofs.YtijohhdgecadnaaDoor.Sp
open Go
set_option linter.unusedVariables false

/-- Lines, each with its end. -/
def linesL : List UInt8 → List (List UInt8)
  | [] => []
  | c :: l => if c = 10 then [10] :: linesL l else match linesL l with
    | [] => [[c]]
    | x :: xs => (c :: x) :: xs
theorem index_neg {l : List UInt8} {c : UInt8} (h : ¬ 0 ≤ Lib.indexByte l c) : Lib.indexByte l c = -1 := by have := Lib.indexByte_ge l c; omega
theorem index_cons (b : UInt8) (l : List UInt8) (c : UInt8) : Lib.indexByte (b :: l) c = if b = c then 0 else if Lib.indexByte l c = -1 then -1 else Lib.indexByte l c + 1 := by
  rw [Lib.indexByte]
  by_cases h : b = c
  · simp [h]
  · by_cases h2 : Lib.indexByte l c = -1 <;> simp [h, h2]
theorem lines_miss : ∀ l : List UInt8, ¬ 0 ≤ Lib.indexByte l 10 → l ≠ [] → linesL l = [l]
  | [], _, h => absurd rfl h
  | c :: l, h, _ => by
    rw [index_cons] at h
    by_cases hc : c = 10
    · rw [if_pos hc] at h; omega
    · rw [if_neg hc] at h
      have h2 : Lib.indexByte l 10 = -1 := by
        by_cases hq : Lib.indexByte l 10 = -1
        · exact hq
        · rw [if_neg hq] at h; have := Lib.indexByte_ge l 10; omega
      rw [linesL, if_neg hc]
      cases l with
      | nil => rfl
      | cons d l => rw [lines_miss (d :: l) (by omega) (by simp)]
theorem lines_hit : ∀ (l : List UInt8) (i : Nat), Lib.indexByte l 10 = (i : Int) → linesL l = l.take (i + 1) :: linesL (l.drop (i + 1)) ∧ i < l.length ∧ l.take (i + 1) = l.take i ++ [10] ∧ (∀ b ∈ l.take i, b ≠ 10)
  | [], i, h => by simp [Lib.indexByte] at h
  | c :: l, i, h => by
    rw [index_cons] at h
    by_cases hc : c = 10
    · rw [if_pos hc] at h
      obtain rfl : i = 0 := by omega
      subst hc
      exact ⟨by rw [linesL, if_pos rfl]; rfl, by simp, rfl, by simp⟩
    · rw [if_neg hc] at h
      have h2 : ¬ Lib.indexByte l 10 = -1 := fun e => by rw [if_pos e] at h; omega
      rw [if_neg h2] at h
      obtain ⟨j, rfl⟩ : ∃ j, i = j + 1 := ⟨i - 1, by have := Lib.indexByte_ge l 10; omega⟩
      obtain ⟨e1, e2, e3, e4⟩ := lines_hit l j (by omega)
      refine ⟨?_, by simp; omega, by simp only [List.take_succ_cons, e3, List.cons_append], fun b hb => ?_⟩
      · rw [linesL, if_neg hc, e1]; rfl
      · simp only [List.take_succ_cons, List.mem_cons] at hb
        rcases hb with rfl | hb
        · exact hc
        · exact e4 b hb
def linesB (s : ByteArray) : List ByteArray := (linesL s.data.toList).map strL
theorem linesB_nil {s : ByteArray} (h : s.size = 0) : linesB s = [] := by
  have : s.data.toList = [] := List.length_eq_zero_iff.1 (by rw [size_list]; exact h)
  unfold linesB; rw [this]; rfl
theorem linesB_miss {s : ByteArray} (h : ¬ 0 ≤ Lib.indexByte s.data.toList 10) (h0 : s.size ≠ 0) : linesB s = s :: linesB ⟨#[]⟩ := by
  unfold linesB
  rw [lines_miss _ h (fun e => h0 (by rw [← size_list, e]; rfl))]
  simp [strL_eq, linesL]
theorem linesB_hit {s : ByteArray} {i : Nat} (h : Lib.indexByte s.data.toList 10 = (i : Int)) : linesB s = s.extract 0 (i + 1) :: linesB (s.extract (i + 1) s.size) ∧ i < s.size := by
  obtain ⟨h1, h2, _⟩ := lines_hit _ i h
  rw [size_list] at h2
  refine ⟨?_, h2⟩
  unfold linesB
  rw [h1, List.map_cons]
  congr 1
  · exact ext_list (by rw [ext_take]; rfl)
  · rw [ext_take, ← size_list, List.take_length]
end Go.Proofs.YtijohhdgecadnaaDoor.Sp
namespace Go.Proofs.YtijohhdgecadnaaDoor.Sp
open Go
set_option linter.unusedVariables false

def hexd (n : Nat) : UInt8 := if n < 10 then UInt8.ofNat (48 + n) else UInt8.ofNat (55 + n)
def okc (c : UInt8) : Bool := decide (32 ≤ c.toNat ∧ c.toNat ≤ 126 ∧ c.toNat ≠ 37)
def quo1 (c : UInt8) : List UInt8 := bif okc c then [c] else [37, hexd (c.toNat / 16), hexd (c.toNat % 16)]
def quoteL (l : List UInt8) : List UInt8 := l.flatMap quo1
def nibN (c : Nat) : Nat := if 48 ≤ c ∧ c ≤ 57 then c - 48 else if 65 ≤ c ∧ c ≤ 70 then c - 55 else if 97 ≤ c ∧ c ≤ 102 then c - 87 else 16
theorem nibN_le (c : Nat) : nibN c ≤ 16 := by unfold nibN; (repeat' split) <;> omega
/-- Does a quoted byte stand here? -/
def isQ (l : List UInt8) : Bool := decide (l.getD 0 0 = 37 ∧ 2 < l.length ∧ nibN (l.getD 1 0).toNat < 16 ∧ nibN (l.getD 2 0).toNat < 16)
def qByte (l : List UInt8) : UInt8 := UInt8.ofNat (16 * nibN (l.getD 1 0).toNat + nibN (l.getD 2 0).toNat)
def unqN : Nat → List UInt8 → List UInt8
  | 0, _ => []
  | n + 1, l => match l with
    | [] => []
    | c :: r => if isQ (c :: r) then qByte (c :: r) :: unqN n ((c :: r).drop 3) else c :: unqN n r
def unqL (l : List UInt8) : List UInt8 := unqN l.length l
theorem unqN_more : ∀ (n m : Nat) (l : List UInt8), l.length ≤ n → l.length ≤ m → unqN n l = unqN m l
  | 0, m, l, h, _ => by
    have : l = [] := List.length_eq_zero_iff.1 (by omega)
    subst this; cases m <;> rfl
  | n + 1, 0, l, _, h => by
    have : l = [] := List.length_eq_zero_iff.1 (by omega)
    subst this; rfl
  | n + 1, m + 1, [], _, _ => rfl
  | n + 1, m + 1, c :: r, h1, h2 => by
    simp only [List.length_cons] at h1 h2
    simp only [unqN]
    rw [unqN_more n m r (by omega) (by omega), unqN_more n m ((c :: r).drop 3) (by simp; omega) (by simp; omega)]
theorem unqL_nil : unqL [] = [] := rfl
theorem unqL_q {l : List UInt8} (h : isQ l = true) : unqL l = qByte l :: unqL (l.drop 3) := by
  unfold unqL
  cases l with
  | nil => simp [isQ] at h
  | cons c r =>
    simp only [List.length_cons, unqN, h, if_true]
    congr 1
    exact unqN_more _ _ _ (by simp) (Nat.le_refl _)
theorem unqL_c {c : UInt8} {r : List UInt8} (h : isQ (c :: r) = false) : unqL (c :: r) = c :: unqL r := by
  unfold unqL
  simp only [List.length_cons, unqN, h, Bool.false_eq_true, if_false]
theorem unqL_len : ∀ (n : Nat) (l : List UInt8), (unqN n l).length ≤ l.length
  | 0, l => by simp [unqN]
  | n + 1, [] => by simp [unqN]
  | n + 1, c :: r => by
    simp only [unqN]
    split
    · have := unqL_len n ((c :: r).drop 3)
      simp only [List.length_cons, List.length_drop] at this ⊢; omega
    · have := unqL_len n r
      simp only [List.length_cons]; omega
theorem hexd_facts : ∀ n : Fin 16, nibN (hexd n.val).toNat = n.val ∧ 32 ≤ (hexd n.val).toNat ∧ (hexd n.val).toNat ≤ 126 := by decide +kernel
theorem quo1_len (c : UInt8) : 1 ≤ (quo1 c).length ∧ (quo1 c).length ≤ 3 := by unfold quo1; cases okc c <;> simp
theorem quoteL_len (l : List UInt8) : l.length ≤ (quoteL l).length ∧ (quoteL l).length ≤ 3 * l.length := by
  induction l with
  | nil => simp [quoteL]
  | cons c l ih =>
    have h := quo1_len c
    have e : quoteL (c :: l) = quo1 c ++ quoteL l := by simp [quoteL]
    rw [e, List.length_append, List.length_cons]; omega
theorem quo1_range (c : UInt8) : ∀ b ∈ quo1 c, 32 ≤ b.toNat ∧ b.toNat ≤ 126 := by
  intro b hb
  unfold quo1 at hb
  cases h : okc c with
  | true =>
    rw [h] at hb
    simp only [cond_true, List.mem_singleton] at hb
    subst hb
    unfold okc at h
    have := of_decide_eq_true h
    exact ⟨this.1, this.2.1⟩
  | false =>
    rw [h] at hb
    have h1 := hexd_facts ⟨c.toNat / 16, by have := c.toNat_lt; omega⟩
    have h2 := hexd_facts ⟨c.toNat % 16, by omega⟩
    simp only [cond_false, List.mem_cons, List.not_mem_nil, or_false] at hb
    rcases hb with rfl | rfl | rfl
    · decide
    · exact h1.2
    · exact h2.2
theorem quoteL_range (l : List UInt8) : ∀ b ∈ quoteL l, 32 ≤ b.toNat ∧ b.toNat ≤ 126 := fun b hb => by
  obtain ⟨c, _, h⟩ := List.mem_flatMap.1 hb
  exact quo1_range c b h
theorem unq_quo1 (c : UInt8) (t : List UInt8) : unqL (quo1 c ++ t) = c :: unqL t := by
  unfold quo1
  cases h : okc c with
  | true =>
    simp only [cond_true, List.singleton_append]
    refine unqL_c ?_
    unfold isQ
    refine decide_eq_false fun hq => ?_
    have h37 : c = 37 := by simpa using hq.1
    subst h37
    have := of_decide_eq_true h
    exact this.2.2 rfl
  | false =>
    have h1 := hexd_facts ⟨c.toNat / 16, by have := c.toNat_lt; omega⟩
    have h2 := hexd_facts ⟨c.toNat % 16, by omega⟩
    simp only [cond_false, List.cons_append, List.nil_append]
    have hq : isQ (37 :: hexd (c.toNat / 16) :: hexd (c.toNat % 16) :: t) = true := by
      unfold isQ
      refine decide_eq_true ⟨rfl, by simp, ?_, ?_⟩
      · simp only [List.getD_cons_succ, List.getD_cons_zero]; rw [h1.1]; have := c.toNat_lt; simp only; omega
      · simp only [List.getD_cons_succ, List.getD_cons_zero]; rw [h2.1]; simp only; omega
    rw [unqL_q hq]
    congr 1
    unfold qByte
    simp only [List.getD_cons_succ, List.getD_cons_zero]
    rw [h1.1, h2.1]
    simp only
    rw [show 16 * (c.toNat / 16) + c.toNat % 16 = c.toNat from by omega]
    simp
theorem unq_quote (l : List UInt8) : unqL (quoteL l) = l := by
  induction l with
  | nil => rfl
  | cons c l ih =>
    have e : quoteL (c :: l) = quo1 c ++ quoteL l := by simp [quoteL]
    rw [e, unq_quo1, ih]
end Go.Proofs.YtijohhdgecadnaaDoor.Sp
namespace Go.Proofs.YtijohhdgecadnaaDoor.Sp
open Go
set_option linter.unusedVariables false

def lowB (c : UInt8) : UInt8 := if 65 ≤ c.toNat ∧ c.toNat ≤ 90 then c + 32 else c
def lowL (l : List UInt8) : List UInt8 := l.map lowB
def wStatus : List UInt8 := [115, 116, 97, 116, 117, 115]
def wMessage : List UInt8 := [109, 101, 115, 115, 97, 103, 101]
def wPushback : List UInt8 := [112, 117, 115, 104, 98, 97, 99, 107]
def kindN (l : List UInt8) : Nat := if lowL l = wStatus then 0 else if lowL l = wMessage then 1 else if lowL l = wPushback then 2 else 3
def isDig (c : UInt8) : Bool := decide (48 ≤ c.toNat ∧ c.toNat ≤ 57)
def decL (l : List UInt8) : Nat := l.foldl (fun n c => 10 * n + (c.toNat - 48)) 0
def numI (l : List UInt8) (most : Nat) : Int := if l = [] ∨ most < l.length ∨ l.all isDig = false then -1 else (decL l : Nat)
def codeI (l : List UInt8) : Int := if 0 ≤ numI l 2 ∧ numI l 2 ≤ 16 ∧ ¬ (1 < l.length ∧ l.getD 0 0 = 48) then numI l 2 else 2
theorem lowB_eq (c : UInt8) : ((lowB c).toNat : Int) = if 65 ≤ c.toNat ∧ c.toNat ≤ 90 then (c.toNat : Int) + 32 else c.toNat := by
  unfold lowB
  split
  · rw [UInt8.toNat_add, show (32 : UInt8).toNat = 32 from rfl]; omega
  · rfl
theorem decL_snoc (l : List UInt8) (c : UInt8) : decL (l ++ [c]) = 10 * decL l + (c.toNat - 48) := by unfold decL; rw [List.foldl_append]; rfl
theorem decL_lt (l : List UInt8) (h : l.all isDig = true) : decL l < 10 ^ l.length := by
  have key : ∀ (l r : List UInt8), l.reverse = r → l.all isDig = true → decL l < 10 ^ l.length := by
    intro l r
    induction r generalizing l with
    | nil => intro e _; rw [List.reverse_eq_nil_iff] at e; subst e; decide
    | cons c r ih =>
      intro e h
      have e2 : l = r.reverse ++ [c] := by have := congrArg List.reverse e; simpa using this
      subst e2
      rw [List.all_append, Bool.and_eq_true] at h
      have h1 := ih r.reverse (by simp) h.1
      have h2 := of_decide_eq_true (show decide (48 ≤ c.toNat ∧ c.toNat ≤ 57) = true from by have := h.2; simpa [isDig] using this)
      rw [decL_snoc, List.length_append, List.length_singleton, Nat.pow_succ]
      omega
  exact key l _ rfl h

end Go.Proofs.YtijohhdgecadnaaDoor.Sp
namespace Go.Proofs.YtijohhdgecadnaaDoor.Av
open Go Go.RowKit
set_option linter.unusedVariables false

/-- A loop with a number from 0 on up to n: sh tells the state at the head of a round, I what holds there. -/
theorem Has.each {β : Type} {P : Program} {c : Code} {st : St} {K : Exit → St → Prop} (L D : List Nat) (n : Nat) (I : Nat → β → Prop) (sh : β → Int → St)
    (h0 : ∃ b i, st.at L D = sh b i ∧ I 0 b ∧ i = 0)
    (hr : ∀ (k : Nat) b, k < n → I k b → Has P c (sh b k) fun e st' => match e with | .normal => ∃ b' i', st'.at L D = sh b' i' ∧ I (k + 1) b' ∧ i' = (k : Int) + 1 | e => K e st')
    (he : ∀ b, I n b → Has P c (sh b n) fun e st' => match e with | .normal => False | e => K e st') : Has P (.loop c) st K := by
  obtain ⟨b0, i0, h1, h2, rfl⟩ := h0
  refine Has.loopD L D (fun m st => ∃ k b, k ≤ n ∧ m = n - k ∧ I k b ∧ st = sh b (k : Nat)) n ⟨0, b0, by omega, by omega, h2, h1⟩ fun m st hJ => ?_
  obtain ⟨k, b, hk, rfl, hI, rfl⟩ := hJ
  by_cases hlt : k < n
  · refine ⟨fun C F a w hi => wpB_mono ((hr k b hlt hI).out C F a w hi) fun e a' w' ⟨C', st', q1, q2⟩ => ⟨C', st', ?_, q2⟩⟩
    cases e with
    | normal =>
      obtain ⟨b', i', e1, e2, rfl⟩ := q1
      exact ⟨n - (k + 1), by omega, k + 1, b', by omega, rfl, e2, e1⟩
    | _ => exact q1
  · obtain rfl : k = n := by omega
    refine ⟨fun C F a w hi => wpB_mono ((he b hI).out C F a w hi) fun e a' w' ⟨C', st', q1, q2⟩ => ⟨C', st', ?_, q2⟩⟩
    cases e with
    | normal => exact q1.elim
    | _ => exact q1
theorem row_at {α : Type} {l : List α} {R : α → List G} {k : Nat} (hk : k < l.length) : 0 ≤ (k : Int) ∧ (l.map R)[((k : Int)).toNat]? = some (R l[k]) :=
  ⟨Int.natCast_nonneg k, by simp [List.getElem?_eq_getElem hk]⟩
theorem lt_at {α : Type} {l : List α} {R : α → List G} {k : Nat} (hk : k < l.length) : decide ((k : Int) < ((l.map R).length : Int)) = true := by simp [hk]
theorem lt_end {α : Type} {l : List α} {R : α → List G} : decide ((l.length : Int) < ((l.map R).length : Int)) = false := by simp
theorem cond_1 {b : Bool} {A B : Prop} (h : b = true) (hA : A) : cond b A B := by rw [h]; exact hA
theorem cond_0 {b : Bool} {A B : Prop} (h : b = false) (hB : B) : cond b A B := by rw [h]; exact hB

/-- A nil list, and an empty one. -/
def nl0 : G → G
  | .emp => .sl []
  | .ne => .sl []
  | .nils => .sl []
  | g => g
def nl : G → G
  | .agg gs => .agg (gs.map nl0)
  | g => nl0 g
theorem Rep.nl0 {C : Cx} {w : World} {g : G} {v : Value} (h : Rep C w g v) : Rep C w (nl0 g) v := by
  cases g <;> try exact h
  · cases h; exact .slnil _ _ (fun _ => rfl)
  · cases h; exact .slnil _ _ (fun _ => rfl)
  · cases h; exact .slnil _ _ (fun e => by cases e)
theorem Rep.nl {C : Cx} {w : World} {g : G} {v : Value} (h : Rep C w g v) : Rep C w (nl g) v := by
  cases g with
  | agg gs =>
    cases h with
    | agg _ vs hl hc hv h =>
      refine .agg _ vs (by simpa using hl) (fun g hg => ?_) hv (fun i g v hg hv => ?_)
      · obtain ⟨x, hx, rfl⟩ := List.mem_map.1 hg
        have := hc x hx
        cases x <;> first | exact this | rfl
      · rw [List.getElem?_map] at hg
        obtain ⟨x, hx, rfl⟩ := Option.map_eq_some_iff.1 hg
        exact (h i x v hx hv).nl0
  | _ => exact h.nl0
theorem Fv.nl {P : Program} {f : FuncId} {args : List G} {g : G} (h : Fv P f (args.map nl) g) : Fv P f args g := by
  refine ⟨h.1, fun C w t0 vs hl hr hM h1 h2 h3 h4 => h.2 C w t0 vs (by simpa using hl) (fun i g v hg hv => ?_) hM h1 h2 h3 h4⟩
  rw [List.getElem?_map] at hg
  obtain ⟨x, hx, rfl⟩ := Option.map_eq_some_iff.1 hg
  exact (hr i x v hx hv).nl
/-- A state in which nil lists are told as empty ones. -/
def St.nl (st : St) : St := { st with slots := st.slots.map Av.nl, boxes := st.boxes.map fun o => o.map fun cs => cs.map nl0 }
theorem nl0_cell {g : G} (h : g.cell = true) : (nl0 g).cell = true := by cases g <;> first | exact h | rfl
theorem Inv.nl {C : Cx} {F : Fd} {st : St} {a : Act} {w : World} (h : Inv C F st a w) : Inv C F st.nl a w := by
  refine { h with fb := fun b B hb => ⟨(h.fb b B hb).1, by show (st.slots.map Av.nl).length + 8 ≤ b; rw [List.length_map]; exact (h.fb b B hb).2⟩, sz := by simp [St.nl, h.sz], slots := fun i g v hg hv => ?_, mem := { h.mem with box := fun b cs hb => ?_, domB := fun b B hB => ?_ } }
  · simp only [St.nl, List.getElem?_map] at hg
    obtain ⟨x, hx, rfl⟩ := Option.map_eq_some_iff.1 hg
    exact (h.slots i x v hx hv).nl
  · simp only [St.nl, List.getElem?_map] at hb
    obtain ⟨x, hx, e⟩ := Option.map_eq_some_iff.1 hb
    cases x with
    | none => cases e
    | some cs0 =>
      obtain rfl := Option.some.inj e
      obtain ⟨B, vs, T, h1, h2, h3, h4, h5, h6⟩ := h.mem.box b cs0 hx
      refine ⟨B, vs, T, h1, h2, h3, by simpa using h4, h5, fun i g v hg hv => ?_⟩
      rw [List.getElem?_map] at hg
      obtain ⟨y, hy, rfl⟩ := Option.map_eq_some_iff.1 hg
      exact ⟨nl0_cell (h6 i y v hy hv).1, (h6 i y v hy hv).2.nl0⟩
  · obtain ⟨cs, hcs⟩ := h.mem.domB b B hB
    exact ⟨cs.map nl0, by simp [St.nl, List.getElem?_map, hcs]⟩
theorem Has.nl {P : Program} {c : Code} {st : St} {K : Exit → St → Prop} (h : Has P c st.nl K) : Has P c st K := ⟨fun C F a w hi => h.out C F a w hi.nl⟩
/-- An empty slice is nil, or it is not. -/
theorem Rep.nilCases {C : Cx} {w : World} {v : Value} (h : Rep C w (.sl []) v) : Rep C w .nils v ∨ Rep C w .ne v := by
  cases h with
  | slnil A cap h =>
    cases A with
    | none => rw [h rfl]; exact .inl .nils
    | some a => exact .inr (.ne a cap)
  | sl _ a cap => exact .inr (.ne a cap)
theorem Fun.nilCases {P : Program} {f : FuncId} {args : List G} {bs : List (List G)} {rs : List (List (List G))} {R : G → List (Option (List G)) → List (Option (List (List G))) → Prop} (h1 : Fun P f (.nils :: args) bs rs R) (h2 : Fun P f (.ne :: args) bs rs R) : Fun P f (.sl [] :: args) bs rs R := by
  refine ⟨h1.1, fun C w t0 vs hl hr hM ht hb hr' hfx => ?_⟩
  match vs, hl with
  | v :: vs, hl =>
    have tl : ∀ g0, Rep C w g0 v → ∀ (i : Nat) g u, (g0 :: args)[i]? = some g → (v :: vs)[i]? = some u → Rep C w g u := fun g0 h0 i g u hg hu => by
      cases i with
      | zero => simp at hg hu; subst hg; subst hu; exact h0
      | succ i => exact hr (i + 1) g u (by simpa using hg) (by simpa using hu)
    rcases (hr 0 _ v rfl rfl).nilCases with h | h
    · exact h1.2 C w t0 _ hl (tl _ h) hM ht hb hr' hfx
    · exact h2.2 C w t0 _ hl (tl _ h) hM ht hb hr' hfx
theorem Fp.nilCases {P : Program} {f : FuncId} {args : List G} {bs : List (List G)} {rs : List (List (List G))} {q : G × List (Option (List G)) × List (Option (List (List G)))} (h1 : Fp P f (.nils :: args) bs rs q) (h2 : Fp P f (.ne :: args) bs rs q) : Fp P f (.sl [] :: args) bs rs q := Fun.nilCases h1 h2
/-- A result of no room, told as an own row of no elements. -/
theorem Fp.none0 {P : Program} {f : FuncId} {args : List G} {g0 : G} (h0 : ∀ C w v, Rep C w g0 v → ∃ A, v = .slice A 0 0) (h : Fp P f args [] [] (g0, [], [])) : Fp P f args [] [] (.own 0 0 0, [], [some []]) := by
  refine ⟨h.1, fun C w t0 vs hl hr hM ht hb hr' hfx => (h.2 C w t0 vs hl hr hM ht hb hr' hfx).mono fun e w' q => ?_⟩
  obtain ⟨v, C', g, bs', rs', h1, ⟨rfl, rfl, rfl⟩, h3, h4, h5⟩ := q
  obtain ⟨A, rfl⟩ := h0 _ _ _ h3
  have nb : ∀ b B, C'.box b = some B → False := fun b B hB => by obtain ⟨cs, hcs⟩ := h4.domB b B hB; simp at hcs
  have only : ∀ (k : Nat) x, (if k = 0 then some none else none : Option (Option (Nat × Nat × Nat × Nat))) = some (some x) → False := fun k x e => by split at e <;> cases e
  refine ⟨_, { C' with row := fun k => if k = 0 then some none else none }, _, _, _, h1, ⟨rfl, rfl, rfl⟩, .ownnil 0 A rfl, ⟨fun b cs hb => ?_, fun k xs hk => ?_, fun b B hB => (nb b B hB).elim, fun k r hk => ?_, fun b b' B hB => (nb b B hB).elim, fun k k' B s sz n s' sz' n' hk => (only _ _ hk).elim, fun b k B s sz n hB => (nb b B hB).elim, h4.lt⟩, ⟨h5.box, h5.fr, h5.ex, h5.exn, h5.tb, fun k B s sz n hk => (only _ _ hk).elim⟩⟩
  · simp at hb
  · cases k with
    | zero => simp at hk; subst hk; exact .inl ⟨rfl, rfl⟩
    | succ k => simp at hk
  · have hk' : (if k = 0 then some none else none : Option (Option (Nat × Nat × Nat × Nat))) = some r := hk
    split at hk'
    · subst k; exact ⟨[], rfl⟩
    · cases hk'
theorem nils_room {C : Cx} {w : World} {v : Value} (h : Rep C w .nils v) : ∃ A, v = .slice A 0 0 := by cases h; exact ⟨_, rfl⟩
theorem emp_room {C : Cx} {w : World} {v : Value} (h : Rep C w .emp v) : ∃ A, v = .slice A 0 0 := by cases h; exact ⟨_, rfl⟩
/-! A nil slice told as an own row of no elements: in a slot, or in a variable's cell. -/
theorem Inv.reslot {C : Cx} {F : Fd} {st : St} {a : Act} {w : World} (h : Inv C F st a w) (s : Nat) (g : G) (hr : ∀ v, a.tmps[s]? = some v → Rep C w g v) : Inv C F { st with slots := st.slots.set s g } a w := by
  refine { h with fb := fun b B hb => ⟨(h.fb b B hb).1, by simpa using (h.fb b B hb).2⟩, sz := by simp [h.sz], slots := fun i g' v hg hv => ?_ }
  simp only [List.getElem?_set] at hg
  split at hg
  · rename_i e
    subst e
    split at hg
    · cases hg; exact hr v hv
    · cases hg
  · exact h.slots i g' v hg hv
def St.own0 (st : St) (s k : Nat) : St := { (st.setRow k []) with slots := st.slots.set s (.own k 0 0) }
theorem Has.own0 {P : Program} {c : Code} {st : St} {K : Exit → St → Prop} (s k : Nat) (h1 : st.slots.getD s .junk = .nils) (h2 : st.rows[k]? = some none) (h : Has P c (st.own0 s k) K) : Has P c st K := by
  refine ⟨fun C F a w hi => ?_⟩
  have hn : C.row k = none := by
    cases hx : C.row k with
    | none => rfl
    | some r => obtain ⟨xs, hxs⟩ := hi.mem.domR k r hx; rw [h2] at hxs; cases hxs
  obtain ⟨C1, i1, e1, _⟩ := hi.addNil hn (List.getElem?_eq_some_iff.1 h2).1
  refine h.out C1 F a w (i1.reslot s _ (fun v hv => ?_))
  have hs : st.slots[s]? = some .nils := by
    rw [List.getD_eq_getElem?_getD] at h1
    cases hx : st.slots[s]? with
    | none => rw [hx] at h1; cases h1
    | some g => rw [hx] at h1; simp at h1; rw [h1]
  have hr := hi.slots s _ v hs hv
  cases hr
  exact .ownnil k none e1
def St.own0B (st : St) (b i k : Nat) : St := { (st.setRow k []) with boxes := st.boxes.modify b (Option.map fun cs => cs.set i (.own k 0 0)) }
theorem Inv.recell {C : Cx} {F : Fd} {st : St} {a : Act} {w : World} (h : Inv C F st a w) (b i : Nat) (g g' : G) (hc : g'.cell = true) (hg : ∀ cs, st.boxes[b]? = some (some cs) → cs[i]? = some g) (hr : ∀ v, Rep C w g v → Rep C w g' v) :
    Inv C F { st with boxes := st.boxes.modify b (Option.map fun cs => cs.set i g') } a w := by
  refine { h with mem := { h.mem with box := fun x cs hx => ?_, domB := fun x B hB => ?_ } }
  · rw [List.getElem?_modify] at hx
    obtain ⟨o, ho, e⟩ := Option.map_eq_some_iff.1 hx
    by_cases eb : b = x
    · subst eb
      simp only [if_true] at e
      obtain ⟨cs0, rfl, rfl⟩ := Option.map_eq_some_iff.1 e
      obtain ⟨B, vs, T, k1, k2, k3, k4, k5, k6⟩ := h.mem.box b cs0 ho
      refine ⟨B, vs, T, k1, k2, k3, by simp [k4], k5, fun j q v hq hv => ?_⟩
      simp only [List.getElem?_set] at hq
      split at hq
      · rename_i e; subst e
        split at hq
        · cases hq
          exact ⟨hc, hr v (k6 i g v (hg cs0 ho) hv).2⟩
        · cases hq
      · exact k6 j q v hq hv
    · simp only [eb, if_false] at e
      subst e
      exact h.mem.box x cs ho
  · obtain ⟨cs, hcs⟩ := h.mem.domB x B hB
    refine ⟨if b = x then cs.set i g' else cs, ?_⟩
    show (st.boxes.modify b _)[x]? = _
    rw [List.getElem?_modify, hcs]
    by_cases eb : b = x <;> simp [eb]
theorem Has.own0B {P : Program} {c : Code} {st : St} {K : Exit → St → Prop} (b i k : Nat) {cs : List G} (h0 : st.boxes[b]? = some (some cs)) (h1 : cs[i]? = some .nils) (h2 : st.rows[k]? = some none) (h : Has P c (st.own0B b i k) K) : Has P c st K := by
  refine ⟨fun C F a w hi => ?_⟩
  have hn : C.row k = none := by
    cases hx : C.row k with
    | none => rfl
    | some r => obtain ⟨xs, hxs⟩ := hi.mem.domR k r hx; rw [h2] at hxs; cases hxs
  obtain ⟨C1, i1, e1, _⟩ := hi.addNil hn (List.getElem?_eq_some_iff.1 h2).1
  refine h.out C1 F a w (i1.recell b i .nils _ rfl (fun cs' hcs' => ?_) (fun v hv => ?_))
  · have hcs'' : st.boxes[b]? = some (some cs') := hcs'
    rw [h0] at hcs''
    cases hcs''
    exact h1
  · cases hv
    exact .ownnil k none e1
theorem ok_map {α : Type} {n : Nat} {l : List α} {R : α → List G} (sz : Nat) (hn : n = sz) (h : ∀ x, (R x).length = sz) (h2 : ∀ x, (R x).all G.closed0 = true) : okRows n (l.map R) = true := by
  unfold okRows
  rw [List.all_eq_true]
  intro r hr
  obtain ⟨x, _, rfl⟩ := List.mem_map.1 hr
  rw [h x, hn, h2 x]; simp
/-- There is room for an append. -/
theorem fits {P : Program} {e : TypeId} {n : Nat} (b : Nat) (hb : P.bytesOf e = b) (h : (2 * n + 1024) * b ≤ 281474976710656) : fitsB P e n := by
  unfold fitsB; rw [hb]
  have h1 : (5 * n + 4096) * b ≤ 4 * (2 * n + 1024) * b := Nat.mul_le_mul_right _ (by omega)
  rw [Nat.mul_assoc] at h1
  omega
/-- .. sharper. -/
theorem fits5 {P : Program} {e : TypeId} {n : Nat} (b : Nat) (hb : P.bytesOf e = b) (h : (5 * n + 4096) * b ≤ 1125899906842624) : fitsB P e n := by unfold fitsB; rw [hb]; exact h
/-- What an append onto an own row asks, where its elements are l's first k. -/
theorem app_at {α : Type} {P : Program} {e : TypeId} {l : List α} {R : α → List G} {k : Nat} {r : List G} (sz b : Nat) (hk : k ≤ l.length) (hc : P.cellsOf e = sz) (hb : P.bytesOf e = b) (hR : ∀ x, (R x).length = sz) (hf : (2 * (k + 1) + 1024) * b ≤ 281474976710656) :
    0 + k ≤ ((l.take k).map R).length ∧ (0 < k + [r].length ∨ (l.take k).map R = []) ∧ fitsB P e (k + [r].length) ∧ ∀ r ∈ (l.take k).map R, r.length = P.cellsOf e :=
  ⟨by simp; omega, .inl (by simp), fits b hb hf, fun r hr => by obtain ⟨x, _, rfl⟩ := List.mem_map.1 hr; rw [hc]; exact hR x⟩
theorem own_app {α : Type} {l : List α} {R : α → List G} {k : Nat} (hk : k < l.length) : (((l.take k).map R).drop 0).take k ++ [R l[k]] = (l.take (k + 1)).map R := by
  rw [List.drop_zero, List.take_of_length_le (by simp; omega), List.take_succ_eq_append_getElem hk, List.map_append]; rfl
theorem own_le {α : Type} {l : List α} {R : α → List G} : 0 + l.length ≤ ((l.take l.length).map R).length := by simp
theorem own_all {α : Type} {l : List α} {R : α → List G} : (((l.take l.length).map R).drop 0).take l.length = l.map R := by rw [List.take_length, List.drop_zero]; exact List.take_of_length_le (by simp)
/-- A number of 64 bits is one of those. -/
theorem wf_i64 {n : Int} (h : (Lit.int .i64 n).wf = true) : -9223372036854775808 ≤ n ∧ n ≤ 9223372036854775807 := by
  simp [Lit.wf, IntKind.min, IntKind.max, IntKind.signed, IntKind.bits] at h
  omega
end Go.Proofs.YtijohhdgecadnaaDoor.Av
namespace Go.Proofs.YtijohhdgecadnaaDoor.Av
open Go Go.RowKit
set_option linter.unusedVariables false
set_option linter.unusedSimpArgs false

theorem flat0_closed0 {g : G} (h : g.flat0 = true) : g.closed0 = true := by cases g <;> simp_all [G.flat0, G.closed0]
theorem Fp.lendBox {P : Program} {f h : FuncId} {k0 o0 n0 k1 o1 n1 : Nat} {cells : List G} {rs : List (List (List G))} {rs' : List (Option (List (List G)))}
    (hc : ∀ x ∈ cells, x.flat0 = true) (hr : ∀ xs ∈ rs, ∀ r ∈ xs, ∀ x ∈ r, x.flat0 = true) (hr' : ∀ xs, some xs ∈ rs' → ∀ r ∈ xs, ∀ x ∈ r, x.flat0 = true)
    (H : Fp P f [.own k0 o0 n0, .fn h [.elt cells 0]] [] rs (.own k1 o1 n1, [], rs')) : Fp P f [.own k0 o0 n0, .fn h [.ptr 0 0]] [cells] rs (.own k1 o1 n1, [some cells], rs') := by
  refine ⟨H.1, fun C w t0 vs hl hrep hM ht hb hrow hfx => ?_⟩
  obtain ⟨B, us, T, b1, b2, b3, b4, b5, b6⟩ := hM.box 0 cells rfl
  match vs, hl with
  | [v0, v1], _ =>
  have r0 := hrep 0 _ v0 rfl rfl
  have r1 := hrep 1 _ v1 rfl rfl
  let C0 : Cx := { box := fun _ => none, row := C.row, ex := fun X => C.ex X ∧ X ≠ B }
  have hBlt : B < w.heap.size := hM.lt B b2
  have nrow : ∀ k X s sz n, C.row k = some (some (X, s, sz, n)) → X ≠ B := fun k X s sz n hk e => hM.br 0 k B s sz n b1 (e ▸ hk)
  have q0 : Rep C0 w (.own k0 o0 n0) v0 := by
    cases r0 with
    | own _ _ _ B' s sz n A h1 h2 h3 hn0 => exact .own _ _ _ B' s sz n A h1 h2 h3 hn0
    | ownnil _ A h1 => exact .ownnil _ A h1
  have q1 : Rep C0 w (.fn h [.elt cells 0]) v1 := by
    cases r1 with
    | fn _ _ us' hl' hh =>
      match us', hl' with
      | [u], _ =>
        have hu := hh 0 _ u rfl rfl
        cases hu with
        | ptr _ _ B' hb' =>
          rw [b1] at hb'; cases hb'
          refine .fn h [.elt cells 0] [_] rfl (fun i g v h1 h2 => ?_)
          cases i with
          | succ i => simp at h1
          | zero =>
            simp at h1 h2
            subst h1; subst h2
            refine .elt cells 0 B 0 (fun j => us.getD j undef) hBlt (fun hx => hx.2 rfl) (fun x hx => flat0_closed0 (hc x hx)) (fun j g hj => ?_) (fun j g hj => ?_)
            · have hjl : j < us.length := by rw [b4]; exact (List.getElem?_eq_some_iff.1 hj).1
              rw [cell_of_block b3, List.getD_eq_getElem?_getD]
              simp [List.getElem?_eq_getElem hjl]
            · have hjl : j < us.length := by rw [b4]; exact (List.getElem?_eq_some_iff.1 hj).1
              have := (b6 j g us[j] hj (List.getElem?_eq_getElem hjl)).2
              rw [List.getD_eq_getElem?_getD, List.getElem?_eq_getElem hjl]
              exact this.flat0 (hc g (List.mem_of_getElem? hj))
  have hM0 : Mem C0 w ([].map some) (rs.map some) := by
    refine ⟨fun b cs hb => by simp at hb, fun k xs hk => ?_, fun b X hX => (by cases hX), hM.domR, fun b b' X hX => (by cases hX), hM.rr, fun b k X s sz n hX => (by cases hX), fun X hX => hM.lt X hX.1⟩
    rcases hM.row k xs hk with m1 | ⟨X, s, sz, n, ws, T', fz, m1, m2, m3, m4, m5, m6, m7, m8, m9⟩ | km
    rotate_left 2
    · exact .inr (.inr (km.move (fun q h => h) (fun X q hq h => ⟨h, nrow k X _ _ _ hq⟩) (fun _ _ _ => rfl) (fun g u hg hu => hu.keep0 hg (Keeps.refl _ _) (fun X _ hn h => hn h.1))))
    · exact .inl m1
    · refine .inr <| .inl ⟨X, s, sz, n, ws, T', fz, m1, ⟨m2, nrow k X s sz n m1⟩, m3, m4, m5, m6, m7, m8, fun i r j g v a1 a2 a3 => (m9 i r j g v a1 a2 a3).flat0 ?_⟩
      have hx : xs ∈ rs := by
        have := List.mem_of_getElem? hk
        rw [List.mem_map] at this
        obtain ⟨y, hy, e⟩ := this
        cases e; exact hy
      exact hr xs hx r (List.mem_of_getElem? a1) g (List.mem_of_getElem? a2)
  refine (H.2 C0 w (fun X => t0 X ∧ X ≠ B) [v0, v1] rfl (fun i g v hg hv => ?_) hM0 (fun X hX => ⟨ht X hX.1, hX.2⟩) (fun b X hX => (by cases hX)) (fun k X s sz n hk => ⟨hrow k X s sz n hk, nrow k X s sz n hk⟩) (hfx.sub fun X hX => hX.1)).mono fun e w' q => ?_
  · match i, hg, hv with
    | 0, hg, hv => cases hg; cases hv; exact q0
    | 1, hg, hv => cases hg; cases hv; exact q1
  obtain ⟨v, C', g, bs', rs2, h1, ⟨rfl, rfl, rfl⟩, h3, h4, h5⟩ := q
  have hB' : w'.heap[B]? = some (.cells ⟨us⟩ T (0, 0)) := by rw [h5.fr.block B hBlt (fun h => h.2 rfl)]; exact b3
  have nrow' : ∀ k X s sz n, C'.row k = some (some (X, s, sz, n)) → X ≠ B := fun k X s sz n hk e => by
    rcases h5.tr k X s sz n hk with h | h
    · exact h.2 e
    · omega
  let C2 : Cx := { box := C.box, row := C'.row, ex := fun X => C'.ex X ∨ X = B }
  refine ⟨v, C2, _, _, _, h1, ⟨rfl, rfl, rfl⟩, ?_, ⟨fun b cs hb' => ?_, fun k xs hk => ?_, fun b X hX => ?_, h4.domR, hM.bb, h4.rr, fun b k X s sz n hX hk => ?_, fun X hX => ?_⟩, ⟨fun b X hX => hX, ⟨h5.fr.os, h5.fr.tape, h5.fr.output, h5.fr.size, fun X hX hn => h5.fr.block X hX (fun h => hn h.1), h5.fr.ty⟩, fun X hX => ?_, fun X hX => ?_, fun b X hX => .inl (hb b X hX), fun k X s sz n hk => ?_⟩⟩
  · cases h3 with
    | own _ _ _ B' s sz n A g1 g2 g3 hn0 => exact .own _ _ _ B' s sz n A g1 g2 g3 hn0
    | ownnil _ A g1 => exact .ownnil _ A g1
  · cases b with
    | succ b => simp at hb'
    | zero =>
      simp at hb'; subst hb'
      exact ⟨B, us, T, b1, .inr rfl, hB', b4, b5, fun i g v hg hv => ⟨(b6 i g v hg hv).1, (b6 i g v hg hv).2.flat0 (hc g (List.mem_of_getElem? hg))⟩⟩
  · rcases h4.row k xs hk with m1 | ⟨X, s, sz, n, ws, T', fz, m1, m2, m3, m4, m5, m6, m7, m8, m9⟩ | km
    rotate_left 2
    · exact .inr (.inr (km.moveM (fun q h => h) (fun X q _ h => .inl h) (fun _ _ _ => rfl) (fun r hr0 g hg u _ hu => hu.flat0 (hr' xs (List.mem_of_getElem? hk) r hr0 g hg))))
    · exact .inl m1
    · exact .inr <| .inl ⟨X, s, sz, n, ws, T', fz, m1, .inl m2, m3, m4, m5, m6, m7, m8, fun i r j g v a1 a2 a3 => (m9 i r j g v a1 a2 a3).flat0 (hr' xs (List.mem_of_getElem? hk) r (List.mem_of_getElem? a1) g (List.mem_of_getElem? a2))⟩
  · obtain ⟨cs, hcs⟩ := hM.domB b X hX
    cases b with
    | succ b => simp at hcs
    | zero => exact ⟨cells, rfl⟩
  · have e : X = B := by
      obtain ⟨cs, hcs⟩ := hM.domB b X hX
      cases b with
      | succ b => simp at hcs
      | zero => rw [b1] at hX; cases hX; rfl
    exact nrow' k X s sz n hk e
  · rcases hX with hX | rfl
    · exact h4.lt X hX
    · exact Nat.lt_of_lt_of_le hBlt h5.fr.size
  · by_cases e : X = B
    · exact .inr e
    · exact .inl (h5.ex X ⟨hX, e⟩)
  · rcases hX with hX | rfl
    · rcases h5.exn X hX with h | h
      · exact .inl h.1
      · exact .inr h
    · exact .inl b2
  · rcases h5.tr k X s sz n hk with h | h
    · exact .inl h.1
    · exact .inr h
end Go.Proofs.YtijohhdgecadnaaDoor.Av
