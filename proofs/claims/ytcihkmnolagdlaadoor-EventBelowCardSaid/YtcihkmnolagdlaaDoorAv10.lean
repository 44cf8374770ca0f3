/- Operations in whatever order their edges allow: where those that no edge binds meet nowhere, all orders come to the same. No condition. -/
import Derived.Test.YtcihkmnolagdlaaDoorAv8q
namespace Go.Proofs.YtcihkmnolagdlaaDoor.Av
open Go Go.RowKit
set_option linter.unusedVariables false
set_option linter.unusedSimpArgs false

/-- What an operation does, and where it looks. -/
structure Tr where
  dst : Option Nat
  g : G
  wr : Option (Nat × Nat × List G)
  nb : Option (Nat × List G)
  look : List Nat
  rb : Option (Nat × Nat × Nat)
  rr : Bool

def Tr.app (t : Tr) (st : St) : St :=
  { slots := match t.dst with | some d => st.slots.set d t.g | none => st.slots
    boxes := match t.nb with
      | some (b, cs) => st.boxes.set b (some cs)
      | none => match t.wr with
        | some (b, off, cs) => st.boxes.modify b (Option.map fun old => blit old off cs)
        | none => st.boxes
    rows := st.rows }

def disj (o n o' n' : Nat) : Bool := Nat.ble (o + n) o' || Nat.ble (o' + n') o
/-- What u writes, t neither looks at nor writes. -/
def Tr.away (t u : Tr) : Bool :=
  (match u.dst with
   | some d => !t.look.contains d && t.dst != some d
   | none => true) &&
  (match u.nb with
   | some (b, _) => (match t.rb with | some (b', _, _) => b' != b | none => true) && (match t.wr with | some (b', _, _) => b' != b | none => true) && (match t.nb with | some (b', _) => b' != b | none => true)
   | none => match u.wr with
     | some (b, o, cs) => (match t.rb with | some (b', o', n') => b' != b || disj o cs.length o' n' | none => true) && (match t.wr with | some (b', o', cs') => b' != b || disj o cs.length o' cs'.length | none => true) &&
         (match t.nb with | some (b', _) => b' != b | none => true)
     | none => true)
def Tr.apart (t u : Tr) : Bool := t.away u && u.away t

/-- The cells that t reads, the variable that it writes to. -/
def rng (st : St) (b o n : Nat) : Option (List G × Nat) := (st.boxes.getD b none).map fun cs => ((cs.drop o).take n, cs.length)
structure Tr.Same (t : Tr) (s s' : St) : Prop where
  rows : t.rr = true → s.rows = s'.rows
  look : ∀ d ∈ t.look, s.slots.getD d .junk = s'.slots.getD d .junk
  rb : ∀ b o n, t.rb = some (b, o, n) → rng s b o n = rng s' b o n
  wr : ∀ b o cs, t.wr = some (b, o, cs) → (s.boxes.getD b none).map List.length = (s'.boxes.getD b none).map List.length
  nb : ∀ b cs, t.nb = some (b, cs) → (s.boxes.getD b none).isNone = (s'.boxes.getD b none).isNone
  lenS : s.slots.length = s'.slots.length
  lenB : (t.wr.isSome || t.nb.isSome || t.rb.isSome) = true → s.boxes.length = s'.boxes.length

theorem Tr.Same.refl (t : Tr) (s : St) : t.Same s s := ⟨fun _ => rfl, fun _ _ => rfl, fun _ _ _ _ => rfl, fun _ _ _ _ => rfl, fun _ _ _ => rfl, rfl, fun _ => rfl⟩
theorem Tr.Same.trans {t : Tr} {a b c : St} (h : t.Same a b) (k : t.Same b c) : t.Same a c :=
  ⟨fun e => (h.rows e).trans (k.rows e), fun d hd => (h.look d hd).trans (k.look d hd), fun b o n e => (h.rb b o n e).trans (k.rb b o n e), fun b o cs e => (h.wr b o cs e).trans (k.wr b o cs e), fun b cs e => (h.nb b cs e).trans (k.nb b cs e), h.lenS.trans k.lenS, fun e => (h.lenB e).trans (k.lenB e)⟩
theorem Tr.Same.symm {t : Tr} {a b : St} (h : t.Same a b) : t.Same b a :=
  ⟨fun e => (h.rows e).symm, fun d hd => (h.look d hd).symm, fun b o n e => (h.rb b o n e).symm, fun b o cs e => (h.wr b o cs e).symm, fun b cs e => (h.nb b cs e).symm, h.lenS.symm, fun e => (h.lenB e).symm⟩

theorem getD_set {α : Type} (xs : List α) (i j : Nat) (x d : α) : (xs.set i x).getD j d = if i = j ∧ i < xs.length then x else xs.getD j d := by
  rw [List.getD_eq_getElem?_getD, List.getD_eq_getElem?_getD, List.getElem?_set]
  by_cases h : i = j
  · subst h
    by_cases h2 : i < xs.length
    · simp [h2]
    · simp [h2]
  · simp [h]
theorem getD_modify {α : Type} (xs : List (Option α)) (i j : Nat) (f : Option α → Option α) (hf : f none = none) : (xs.modify i f).getD j none = if i = j then f (xs.getD j none) else xs.getD j none := by
  rw [List.getD_eq_getElem?_getD, List.getD_eq_getElem?_getD, List.getElem?_modify]
  by_cases h : i = j
  · subst h
    simp only [if_true]
    cases hx : xs[i]? <;> simp [hf]
  · simp only [h, if_false]
    cases xs[j]? <;> simp

theorem app_boxD (u : Tr) (st : St) (b : Nat) : ((u.app st).boxes.getD b none) = (match u.nb with
    | some (b', cs) => if b' = b ∧ b' < st.boxes.length then some cs else st.boxes.getD b none
    | none => match u.wr with
      | some (b', off, cs) => if b' = b then (st.boxes.getD b none).map (fun old => blit old off cs) else st.boxes.getD b none
      | none => st.boxes.getD b none) := by
  unfold Tr.app
  cases u.nb with
  | some p => obtain ⟨b', cs⟩ := p; exact getD_set _ _ _ _ _
  | none =>
    cases u.wr with
    | some p => obtain ⟨b', off, cs⟩ := p; exact getD_modify _ _ _ _ rfl
    | none => rfl
theorem app_slotD (u : Tr) (st : St) (d : Nat) : (u.app st).slots.getD d .junk = (match u.dst with | some e => if e = d ∧ e < st.slots.length then u.g else st.slots.getD d .junk | none => st.slots.getD d .junk) := by
  unfold Tr.app
  cases u.dst with
  | some e => exact getD_set _ _ _ _ _
  | none => rfl
theorem app_lenS (u : Tr) (st : St) : (u.app st).slots.length = st.slots.length := by unfold Tr.app; cases u.dst <;> simp
theorem app_lenB (u : Tr) (st : St) : (u.app st).boxes.length = st.boxes.length := by
  unfold Tr.app
  cases u.nb with
  | some p => obtain ⟨b', cs⟩ := p; simp
  | none => cases u.wr with
    | some p => obtain ⟨b', off, cs⟩ := p; simp
    | none => rfl

theorem blit_part {α : Type} (us xs : List α) (p o n : Nat) (h : disj p us.length o n = true) : ((blit xs p us).drop o).take n = (xs.drop o).take n := by
  induction us generalizing xs p with
  | nil => rw [blit_nil]
  | cons u us ih =>
    rw [blit_cons]
    simp only [disj, Bool.or_eq_true, List.length_cons] at h
    have key : ((xs.set p u).drop o).take n = (xs.drop o).take n := by
      apply List.ext_getElem?
      intro i
      rw [List.getElem?_take, List.getElem?_take]
      split
      · rw [List.getElem?_drop, List.getElem?_drop, List.getElem?_set_ne]
        rcases h with h | h <;> have h := Nat.le_of_ble_eq_true h <;> omega
      · rfl
    rw [ih, key]
    simp only [disj, Bool.or_eq_true]
    rcases h with h | h
    · have h := Nat.le_of_ble_eq_true h
      exact .inl (Nat.ble_eq_true_of_le (by omega))
    · have h := Nat.le_of_ble_eq_true h
      exact .inr (Nat.ble_eq_true_of_le (by omega))
theorem blit_like {α : Type} (us xs ys : List α) (p o n : Nat) (h : (xs.drop o).take n = (ys.drop o).take n) (hl : xs.length = ys.length) : ((blit xs p us).drop o).take n = ((blit ys p us).drop o).take n := by
  induction us generalizing xs ys p with
  | nil => rw [blit_nil, blit_nil]; exact h
  | cons u us ih =>
    rw [blit_cons, blit_cons]
    refine ih _ _ _ ?_ (by simp [hl])
    apply List.ext_getElem?
    intro i
    have hi := congrArg (fun l => l[i]?) h
    simp only [List.getElem?_take, List.getElem?_drop] at hi ⊢
    split
    · rename_i hlt
      rw [if_pos hlt, if_pos hlt] at hi
      rw [List.getElem?_set, List.getElem?_set, hl, hi]
    · rfl
/-- What u did, it does in like states alike. -/
theorem Tr.Same.app {t : Tr} {s s' : St} (h : t.Same s s') (u : Tr) : t.Same (u.app s) (u.app s') := by
  have bx : ∀ b, (match u.nb with | some (b', cs) => (b' = b) | none => match u.wr with | some (b', off, cs) => b' = b | none => False) ∨ ((u.app s).boxes.getD b none = s.boxes.getD b none ∧ (u.app s').boxes.getD b none = s'.boxes.getD b none) := fun b => by
    rw [app_boxD, app_boxD]
    cases hn : u.nb with
    | some p =>
      obtain ⟨b', cs⟩ := p
      by_cases e : b' = b
      · exact .inl e
      · exact .inr (by simp [e])
    | none =>
      cases hw : u.wr with
      | some p =>
        obtain ⟨b', off, cs⟩ := p
        by_cases e : b' = b
        · exact .inl e
        · exact .inr (by simp [e])
      | none => exact .inr ⟨rfl, rfl⟩
  refine ⟨h.rows, fun d hd => ?_, fun b o n e => ?_, fun b o cs e => ?_, fun b cs e => ?_, by rw [app_lenS, app_lenS, h.lenS], fun e => by rw [app_lenB, app_lenB, h.lenB e]⟩
  · rw [app_slotD, app_slotD]
    cases u.dst with
    | some e => simp only [h.lenS, h.look d hd]
    | none => exact h.look d hd
  · have hb := h.rb b o n e
    unfold rng at hb ⊢
    rw [app_boxD, app_boxD]
    cases hn : u.nb with
    | some p =>
      obtain ⟨b', cs⟩ := p
      simp only [h.lenB (by simp [e])]
      split
      · rfl
      · exact hb
    | none =>
      cases hw : u.wr with
      | some p =>
        obtain ⟨b', off, cs⟩ := p
        simp only
        split
        · cases h1 : s.boxes.getD b none <;> cases h2 : s'.boxes.getD b none <;> rw [h1, h2] at hb <;> simp at hb
          rename_i x y
          simp only [Option.map_some]
          obtain ⟨hb1, hb2⟩ := hb
          rw [blit_length, blit_length, hb2, blit_like cs x y off o n hb1 hb2]
        · exact hb
      | none => exact hb
  · have hb := h.wr b o cs e
    rw [app_boxD, app_boxD]
    cases hn : u.nb with
    | some p =>
      obtain ⟨b', cs⟩ := p
      simp only [h.lenB (by simp [e])]
      split
      · rfl
      · exact hb
    | none =>
      cases hw : u.wr with
      | some p =>
        obtain ⟨b', off, cs⟩ := p
        simp only
        split
        · cases h1 : s.boxes.getD b none <;> cases h2 : s'.boxes.getD b none <;> rw [h1, h2] at hb <;> simp at hb
          simp [blit_length, hb]
        · exact hb
      | none => exact hb
  · have hb := h.nb b cs e
    rw [app_boxD, app_boxD]
    cases hn : u.nb with
    | some p =>
      obtain ⟨b', cs⟩ := p
      simp only [h.lenB (by simp [e])]
      split
      · rfl
      · exact hb
    | none =>
      cases hw : u.wr with
      | some p =>
        obtain ⟨b', off, cs⟩ := p
        simp only
        split
        · cases h1 : s.boxes.getD b none <;> cases h2 : s'.boxes.getD b none <;> rw [h1, h2] at hb <;> simp_all
        · exact hb
      | none => exact hb

theorem Tr.away_same {t u : Tr} (h : t.away u = true) (s : St) (hnb : ∀ b cs, u.nb = some (b, cs) → True) : t.Same (u.app s) s := by
  simp only [Tr.away, Bool.and_eq_true] at h
  obtain ⟨h1, h2⟩ := h
  refine ⟨fun _ => rfl, fun d hd => ?_, fun b o n e => ?_, fun b o cs e => ?_, fun b cs e => ?_, app_lenS u s, fun _ => app_lenB u s⟩
  · rw [app_slotD]
    cases hu : u.dst with
    | none => rfl
    | some x =>
      rw [hu] at h1
      simp only [Bool.and_eq_true, Bool.not_eq_true', bne_iff_ne] at h1
      have : x ≠ d := fun e => by
        subst e
        have := h1.1
        rw [List.contains_eq_mem] at this
        simp at this
        exact this hd
      simp [this]
  · unfold rng
    rw [app_boxD]
    cases hn : u.nb with
    | some p =>
      obtain ⟨b', cs⟩ := p
      rw [hn, e] at h2
      simp only [Bool.and_eq_true, bne_iff_ne] at h2
      have : b' ≠ b := fun e => h2.1.1 e.symm
      simp [this]
    | none =>
      cases hw : u.wr with
      | some p =>
        obtain ⟨b', off, cs⟩ := p
        rw [hn, hw, e] at h2
        simp only [Bool.and_eq_true, Bool.or_eq_true, bne_iff_ne] at h2
        simp only
        split
        · rename_i eb
          subst eb
          cases s.boxes.getD b' none with
          | none => rfl
          | some old =>
            simp only [Option.map_some]
            rw [blit_length, blit_part cs old off o n (h2.1.1.resolve_left (fun h => h rfl))]
        · rfl
      | none => rfl
  · rw [app_boxD]
    cases hn : u.nb with
    | some p =>
      obtain ⟨b', cs'⟩ := p
      rw [hn, e] at h2
      simp only [Bool.and_eq_true, bne_iff_ne] at h2
      have : b' ≠ b := fun e => h2.1.2 e.symm
      simp [this]
    | none =>
      cases hw : u.wr with
      | some p =>
        obtain ⟨b', off, cs'⟩ := p
        simp only
        split
        · cases s.boxes.getD b none <;> simp [blit_length]
        · rfl
      | none => rfl
  · rw [app_boxD]
    cases hn : u.nb with
    | some p =>
      obtain ⟨b', cs'⟩ := p
      rw [hn, e] at h2
      simp only [Bool.and_eq_true, bne_iff_ne] at h2
      have : b' ≠ b := fun e => h2.2 e.symm
      simp [this]
    | none =>
      cases hw : u.wr with
      | some p =>
        obtain ⟨b', off, cs'⟩ := p
        simp only
        split
        · cases s.boxes.getD b none <;> simp
        · rfl
      | none => rfl

theorem blit_set {α : Type} (us xs : List α) (p i : Nat) (x : α) (h : i < p ∨ p + us.length ≤ i) : blit (xs.set i x) p us = (blit xs p us).set i x := by
  induction us generalizing xs p with
  | nil => rw [blit_nil, blit_nil]
  | cons u us ih =>
    simp only [List.length_cons] at h
    rw [blit_cons, blit_cons]
    rw [List.set_comm _ _ (show i ≠ p by omega), ih _ _ (by omega)]
theorem blit_comm {α : Type} (us vs xs : List α) (p q : Nat) (h : disj p us.length q vs.length = true) : blit (blit xs p us) q vs = blit (blit xs q vs) p us := by
  induction us generalizing xs p with
  | nil => rw [blit_nil, blit_nil]
  | cons u us ih =>
    simp only [disj, Bool.or_eq_true, List.length_cons] at h
    have h' : (p + us.length + 1 ≤ q) ∨ (q + vs.length ≤ p) := by
      rcases h with h | h <;> have h := Nat.le_of_ble_eq_true h <;> omega
    rw [blit_cons, blit_cons]
    rw [ih (xs.set p u) (p + 1) (by
      simp only [disj, Bool.or_eq_true]
      rcases h' with h' | h'
      · exact .inl (Nat.ble_eq_true_of_le (by omega))
      · exact .inr (Nat.ble_eq_true_of_le (by omega))), blit_set vs xs q p u (by omega)]
/-- What meet nowhere may change places. -/
theorem Tr.apart_comm {t u : Tr} (h : t.apart u = true) (s : St) : t.app (u.app s) = u.app (t.app s) := by
  simp only [Tr.apart, Tr.away, Bool.and_eq_true] at h
  obtain ⟨⟨h1, h2⟩, ⟨h3, h4⟩⟩ := h
  have es : (t.app (u.app s)).slots = (u.app (t.app s)).slots := by
    unfold Tr.app
    cases ht : t.dst with
    | none => cases u.dst <;> rfl
    | some a =>
      cases hu : u.dst with
      | none => rfl
      | some b =>
        rw [hu, ht] at h1
        simp only [Bool.and_eq_true, bne_iff_ne] at h1
        exact List.set_comm _ _ (fun e => h1.2 (by rw [e]))
  have eb : (t.app (u.app s)).boxes = (u.app (t.app s)).boxes := by
    have modset : ∀ (xs : List (Option (List G))) (b b' off : Nat) (cs us : List G), b' ≠ b → (xs.set b (some cs)).modify b' (Option.map fun old => blit old off us) = (xs.modify b' (Option.map fun old => blit old off us)).set b (some cs) := fun xs b b' off cs us hne => by
      apply List.ext_getElem?
      intro i
      simp only [List.getElem?_modify, List.getElem?_set, List.length_modify]
      by_cases e1 : b' = i <;> by_cases e2 : b = i
      · omega
      · simp [e1, e2]
      · simp [e1, e2]
      · simp [e1, e2]
    unfold Tr.app
    cases htn : t.nb with
    | some p =>
      obtain ⟨b, cs⟩ := p
      cases hun : u.nb with
      | some q =>
        obtain ⟨b', cs'⟩ := q
        rw [hun, htn] at h2
        simp only [Bool.and_eq_true, bne_iff_ne] at h2
        exact List.set_comm _ _ (fun e => h2.2 e.symm)
      | none =>
        cases huw : u.wr with
        | none => rfl
        | some q =>
          obtain ⟨b', off, cs'⟩ := q
          rw [hun, huw, htn] at h2
          simp only [Bool.and_eq_true, bne_iff_ne] at h2
          exact (modset s.boxes b b' off cs cs' (fun e => h2.2 e.symm)).symm
    | none =>
      cases htw : t.wr with
      | none => cases hun : u.nb with
        | some q => rfl
        | none => cases u.wr <;> rfl
      | some p =>
        obtain ⟨b, off, cs⟩ := p
        cases hun : u.nb with
        | some q =>
          obtain ⟨b', cs'⟩ := q
          rw [hun, htw, htn] at h2
          simp only [Bool.and_eq_true, bne_iff_ne] at h2
          exact modset s.boxes b' b off cs' cs h2.1.2
        | none =>
          cases huw : u.wr with
          | none => rfl
          | some q =>
            obtain ⟨b', off', cs'⟩ := q
            rw [hun, huw, htn, htw] at h2
            simp only [Bool.and_eq_true, Bool.or_eq_true, bne_iff_ne] at h2
            apply List.ext_getElem?
            intro i
            simp only [List.getElem?_modify]
            by_cases e1 : b = i <;> by_cases e2 : b' = i
            · subst e1; subst e2
              simp only [if_true]
              cases s.boxes[b']? with
              | none => rfl
              | some o =>
                cases o with
                | none => rfl
                | some old =>
                  simp only [Option.map_some, Functor.map]
                  rw [blit_comm cs cs' old off off']
                  have hd := h2.1.2.resolve_left (fun h => h rfl)
                  simp only [disj, Bool.or_eq_true] at hd ⊢
                  exact hd.symm
            · simp [e1, e2]
            · simp [e1, e2]
            · simp [e1, e2]
  have er : (t.app (u.app s)).rows = (u.app (t.app s)).rows := rfl
  cases h5 : t.app (u.app s)
  cases h6 : u.app (t.app s)
  rw [h5, h6] at es eb er
  simp only at es eb er
  subst es; subst eb; subst er; rfl

/-! Values that giving up row k leaves as they are. -/
def immune0 (k : Nat) : G → Bool
  | .int .. | .bool _ | .str _ | .lit _ | .sl _ | .nils | .emp | .ne | .ptr .. | .elt .. => true
  | .own k' _ _ | .eltw k' _ _ | .dat k' | .ownt k' _ _ | .datt k' _ | .mp k' _ _ => !Nat.beq k' k
  | .nilt | .ptrt .. => true
  | .fn _ [] => true
  | _ => false
def immuneA (k : Nat) : G → Bool
  | .agg gs => gs.all (immune0 k)
  | g => immune0 k g
def immune1 (k : Nat) : G → Bool
  | .fn _ caps => caps.all (immuneA k)
  | g => immuneA k g
theorem immune0_iff {k : Nat} {x v : G} (h : immune0 k v = true) : kR0 k x = v ↔ x = v := by
  have dead : ∀ {c : Prop} [Decidable c] {y : G}, (if c then G.dead else y) = v → y = v := fun e => by
    split at e
    · subst e; simp [immune0] at h
    · exact e
  constructor
  · intro e
    cases x with
    | own a b c => exact dead e
    | eltw a b c => exact dead e
    | dat a => exact dead e
    | ownt a b c => exact dead e
    | mp a b c => exact dead e
    | datt a b => exact dead e
    | fn f caps => cases caps with
      | nil => exact e
      | cons _ _ => have e' : G.dead = v := e; subst e'; simp [immune0] at h
    | meth f gs => have e' : G.dead = v := e; subst e'; simp [immune0] at h
    | _ => exact e
  · intro e
    subst e
    cases x with
    | own a b c => simp only [immune0, Bool.not_eq_true'] at h; show (if _ then _ else _) = _; rw [if_neg (Nat.ne_of_beq_eq_false h)]
    | eltw a b c => simp only [immune0, Bool.not_eq_true'] at h; show (if _ then _ else _) = _; rw [if_neg (Nat.ne_of_beq_eq_false h)]
    | dat a => simp only [immune0, Bool.not_eq_true'] at h; show (if _ then _ else _) = _; rw [if_neg (Nat.ne_of_beq_eq_false h)]
    | ownt a b c => simp only [immune0, Bool.not_eq_true'] at h; show (if _ then _ else _) = _; rw [if_neg (Nat.ne_of_beq_eq_false h)]
    | mp a b c => simp only [immune0, Bool.not_eq_true'] at h; show (if _ then _ else _) = _; rw [if_neg (Nat.ne_of_beq_eq_false h)]
    | datt a b => simp only [immune0, Bool.not_eq_true'] at h; show (if _ then _ else _) = _; rw [if_neg (Nat.ne_of_beq_eq_false h)]
    | fn f caps => cases caps <;> first | rfl | (simp [immune0] at h; done)
    | _ => first | rfl | (simp [immune0] at h; done)
theorem map_iff {f : G → G} : ∀ {xs vs : List G}, (∀ v ∈ vs, ∀ x, f x = v ↔ x = v) → (xs.map f = vs ↔ xs = vs)
  | [], vs, h => by simp
  | x :: xs, [], h => by simp
  | x :: xs, v :: vs, h => by
    rw [List.map_cons, List.cons.injEq, List.cons.injEq, h v (by simp) x, map_iff (fun v hv => h v (by simp [hv]))]
theorem immuneA_iff {k : Nat} {x v : G} (h : immuneA k v = true) : kRa k x = v ↔ x = v := by
  cases v with
  | agg gs =>
    simp only [immuneA, List.all_eq_true] at h
    cases x with
    | agg xs =>
      show G.agg (xs.map (kR0 k)) = _ ↔ _
      rw [G.agg.injEq, G.agg.injEq]
      exact map_iff (fun v hv x => immune0_iff (h v hv))
    | tup xs => exact ⟨fun e => (by have e' : G.junk = .agg gs := e; cases e'), fun e => (by cases e)⟩
    | own a b c => exact ⟨fun e => (by have e' : (if a = k then G.dead else .own a b c) = .agg gs := e; split at e' <;> cases e'), fun e => (by cases e)⟩
    | eltw a b c => exact ⟨fun e => (by have e' : (if a = k then G.dead else .eltw a b c) = .agg gs := e; split at e' <;> cases e'), fun e => (by cases e)⟩
    | dat a => exact ⟨fun e => (by have e' : (if a = k then G.dead else .dat a) = .agg gs := e; split at e' <;> cases e'), fun e => (by cases e)⟩
    | ownt a b c => exact ⟨fun e => (by have e' : (if a = k then G.dead else .ownt a b c) = .agg gs := e; split at e' <;> cases e'), fun e => (by cases e)⟩
    | mp a b c => exact ⟨fun e => (by have e' : (if a = k then G.dead else .mp a b c) = .agg gs := e; split at e' <;> cases e'), fun e => (by cases e)⟩
    | datt a b => exact ⟨fun e => (by have e' : (if a = k then G.dead else .datt a b) = .agg gs := e; split at e' <;> cases e'), fun e => (by cases e)⟩
    | fn f caps => cases caps <;> exact ⟨fun e => (by cases e), fun e => (by cases e)⟩
    | _ => exact ⟨fun e => (by cases e), fun e => (by cases e)⟩
  | _ =>
    have h0 := h
    simp only [immuneA] at h0
    by_cases hx : ∃ xs, x = .agg xs
    · obtain ⟨xs, rfl⟩ := hx
      exact ⟨fun e => (by cases e), fun e => (by cases e)⟩
    · by_cases ht : ∃ xs, x = .tup xs
      · obtain ⟨xs, rfl⟩ := ht
        refine ⟨fun e => ?_, fun e => ?_⟩
        · have e' : G.junk = _ := e
          rw [← e'] at h0; simp [immune0] at h0
        · rw [← e] at h0; simp [immune0] at h0
      · have e : kRa k x = kR0 k x := by cases x <;> first | rfl | exact absurd ⟨_, rfl⟩ hx | exact absurd ⟨_, rfl⟩ ht
        rw [e]; exact immune0_iff h0
theorem immune1_iff {k : Nat} {x v : G} (h : immune1 k v = true) : kR1 k x = v ↔ x = v := by
  cases v with
  | fn f caps =>
    simp only [immune1, List.all_eq_true] at h
    cases x with
    | fn f' xs =>
      show G.fn f' (xs.map (kRa k)) = _ ↔ _
      rw [G.fn.injEq, G.fn.injEq]
      exact and_congr Iff.rfl (map_iff (fun v hv x => immuneA_iff (h v hv)))
    | own a b c => exact ⟨fun e => (by have e' : (if a = k then G.dead else .own a b c) = .fn f caps := e; split at e' <;> cases e'), fun e => (by cases e)⟩
    | eltw a b c => exact ⟨fun e => (by have e' : (if a = k then G.dead else .eltw a b c) = .fn f caps := e; split at e' <;> cases e'), fun e => (by cases e)⟩
    | dat a => exact ⟨fun e => (by have e' : (if a = k then G.dead else .dat a) = .fn f caps := e; split at e' <;> cases e'), fun e => (by cases e)⟩
    | ownt a b c => exact ⟨fun e => (by have e' : (if a = k then G.dead else .ownt a b c) = .fn f caps := e; split at e' <;> cases e'), fun e => (by cases e)⟩
    | mp a b c => exact ⟨fun e => (by have e' : (if a = k then G.dead else .mp a b c) = .fn f caps := e; split at e' <;> cases e'), fun e => (by cases e)⟩
    | datt a b => exact ⟨fun e => (by have e' : (if a = k then G.dead else .datt a b) = .fn f caps := e; split at e' <;> cases e'), fun e => (by cases e)⟩
    | _ => exact ⟨fun e => (by cases e), fun e => (by cases e)⟩
  | _ =>
    have h0 := h
    simp only [immune1] at h0
    by_cases hx : ∃ g xs, x = .fn g xs
    · obtain ⟨g, xs, rfl⟩ := hx
      exact ⟨fun e => (by cases e), fun e => (by cases e)⟩
    · have e : kR1 k x = kRa k x := by cases x <;> first | rfl | exact absurd ⟨_, _, rfl⟩ hx
      rw [e]; exact immuneA_iff h0
def killS (ks : List Nat) (slots : List G) : List G := ks.foldl (fun s k => s.map (kR1 k)) slots
theorem killS_len : ∀ (ks : List Nat) (s : List G), (killS ks s).length = s.length
  | [], s => rfl
  | k :: ks, s => by show (killS ks (s.map (kR1 k))).length = _; rw [killS_len ks]; simp
theorem killS_at : ∀ (ks : List Nat) (s : List G) (d : Nat) (v : G), (∀ k ∈ ks, immune1 k v = true) → v ≠ .junk → ((killS ks s).getD d .junk = v ↔ s.getD d .junk = v)
  | [], s, d, v, _, _ => Iff.rfl
  | k :: ks, s, d, v, h, hv => by
    show (killS ks (s.map (kR1 k))).getD d .junk = v ↔ _
    rw [killS_at ks _ d v (fun k' hk => h k' (by simp [hk])) hv]
    rw [List.getD_eq_getElem?_getD, List.getD_eq_getElem?_getD, List.getElem?_map]
    cases s[d]? with
    | none => simp
    | some x => simpa using immune1_iff (h k (by simp))
theorem killS_set : ∀ (ks : List Nat) (s : List G) (d : Nat) (v : G), (∀ k ∈ ks, immune1 k v = true) → killS ks (s.set d v) = (killS ks s).set d v
  | [], s, d, v, _ => rfl
  | k :: ks, s, d, v, h => by
    show killS ks ((s.set d v).map (kR1 k)) = (killS ks (s.map (kR1 k))).set d v
    rw [List.map_set, (immune1_iff (h k (by simp))).2 rfl, killS_set ks _ d v (fun k' hk => h k' (by simp [hk]))]
theorem immune_junk {k : Nat} : immune1 k .junk = false := rfl

/-- What an operation of a drawn region does: as above, with what it saw; or it makes the variables and rows anew, and gives rows up; or it makes the whole state, and stands between all others. -/
inductive Tx where
  | tr (t : Tr) (vals : List G)
  | mem (dst : Option Nat) (g : G) (look : List Nat) (kills : List Nat) (bs : List (Option (List G))) (rs : List (Option (List (List G))))
  | all (st : St)
def Tr.slotOnly (t : Tr) : Bool := t.wr.isNone && t.nb.isNone && t.rb.isNone && !t.rr
def Tx.app : Tx → St → St
  | .tr t _, st => t.app st
  | .mem d g _ ks bs rs, st => { slots := match d with | some d => (killS ks st.slots).set d g | none => killS ks st.slots, boxes := bs, rows := rs }
  | .all st', _ => st'
def Tx.away : Tx → Tx → Bool
  | .tr t _, .tr u _ => t.away u
  | .tr t vs, .mem d _ _ ks _ _ => t.slotOnly && (match d with | some d => !t.look.contains d && t.dst != some d | none => true) && (ks.isEmpty || (Nat.beq vs.length t.look.length && vs.all (fun v => ks.all fun k => immune1 k v) && ks.all fun k => immune1 k t.g))
  | .mem d _ L _ _ _, .tr u _ => u.wr.isNone && u.nb.isNone && (match u.dst with | some e => !L.contains e && d != some e | none => true)
  | _, _ => false
def Tx.apart (t u : Tx) : Bool := t.away u && u.away t
def Tx.Same : Tx → St → St → Prop
  | .tr t _, s, s' => t.Same s s'
  | .mem _ _ L _ _ _, s, s' => (∀ d ∈ L, s.slots.getD d .junk = s'.slots.getD d .junk) ∧ s.boxes = s'.boxes ∧ s.rows = s'.rows ∧ s.slots.length = s'.slots.length
  | .all _, s, s' => s = s'
/-- What it saw, it saw in s. -/
def Tx.Vals : Tx → St → Prop
  | .tr t vs, s => ∀ (i d : Nat), t.look[i]? = some d → ∀ v, vs[i]? = some v → v = s.slots.getD d .junk
  | _, _ => True
theorem Tx.Same.refl : ∀ (t : Tx) (s : St), t.Same s s
  | .tr t _, s => Tr.Same.refl t s
  | .mem .., s => ⟨fun _ _ => rfl, rfl, rfl, rfl⟩
  | .all _, s => rfl
theorem setD_out {d : Option Nat} {g : G} {xs : List G} {j : Nat} (h : d ≠ some j) : (match d with | some d => xs.set d g | none => xs).getD j .junk = xs.getD j .junk := by
  cases d with
  | none => rfl
  | some d =>
    simp only
    rw [getD_set, if_neg (fun e => h (by rw [e.1]))]
theorem setD_len (d : Option Nat) (g : G) (xs : List G) : (match d with | some d => xs.set d g | none => xs).length = xs.length := by cases d <;> simp
theorem mem_len (d : Option Nat) (g : G) (L ks : List Nat) (bs : List (Option (List G))) (rs : List (Option (List (List G)))) (s : St) : ((Tx.mem d g L ks bs rs).app s).slots.length = s.slots.length := by
  cases d with
  | none => exact killS_len ks s.slots
  | some d => show ((killS ks s.slots).set d g).length = _; rw [List.length_set, killS_len]
/-- What another one does, that is away, takes no view away and brings none. -/
theorem Tx.away_iff : ∀ {t u : Tx} {s0 : St}, t.Vals s0 → t.away u = true → ∀ (s : St), t.Same (u.app s) s0 ↔ t.Same s s0
  | .tr t vs, .tr u _, s0, _, h, s => by
    have hs := Tr.away_same h s (fun _ _ _ => trivial)
    exact ⟨fun k => hs.symm.trans k, fun k => hs.trans k⟩
  | .tr t vs, .mem d g L ks bs rs, s0, hv, h, s => by
    simp only [Tx.away, Tr.slotOnly, Bool.and_eq_true, Bool.or_eq_true, Bool.not_eq_true', Option.isNone_iff_eq_none, List.all_eq_true] at h
    obtain ⟨⟨⟨⟨⟨h1, h2⟩, h3⟩, h4⟩, h5⟩, h6⟩ := h
    have out : ∀ x ∈ t.look, d ≠ some x := fun x hx e => by
      subst e
      simp only [Bool.and_eq_true, Bool.not_eq_true'] at h5
      have := h5.1
      rw [List.contains_eq_mem] at this
      simp at this
      exact this hx
    have look : ∀ x ∈ t.look, ((Tx.mem d g L ks bs rs).app s).slots.getD x .junk = s0.slots.getD x .junk ↔ s.slots.getD x .junk = s0.slots.getD x .junk := fun x hx => by
      have e1 : ((Tx.mem d g L ks bs rs).app s).slots.getD x .junk = (killS ks s.slots).getD x .junk := setD_out (out x hx)
      rw [e1]
      rcases h6 with h6 | ⟨⟨h6, h7⟩, _⟩
      · have : ks = [] := by simpa using h6
        subst this; exact Iff.rfl
      · have h6 := Nat.eq_of_beq_eq_true h6
        obtain ⟨i, hi⟩ := List.mem_iff_getElem?.1 hx
        have hlt : i < vs.length := by rw [h6]; exact (List.getElem?_eq_some_iff.1 hi).1
        have e2 := hv i x hi _ (List.getElem?_eq_getElem hlt)
        have him := h7 _ (List.getElem_mem hlt)
        rw [e2] at him
        cases ks with
        | nil => exact Iff.rfl
        | cons k0 ks0 =>
          refine killS_at _ s.slots x _ him (fun e => ?_)
          have := him k0 (by simp)
          rw [e, immune_junk] at this; cases this
    have lenE : ((Tx.mem d g L ks bs rs).app s).slots.length = s.slots.length := mem_len d g L ks bs rs s
    constructor
    · intro k
      have k' : t.Same ((Tx.mem d g L ks bs rs).app s) s0 := k
      exact ⟨fun e => (by rw [h4] at e; cases e), fun x hx => (look x hx).1 (k'.look x hx), fun b o n e => (by rw [h3] at e; cases e), fun b o cs e => (by rw [h1] at e; cases e), fun b cs e => (by rw [h2] at e; cases e), by rw [← lenE]; exact k'.lenS, fun e => (by rw [h1, h2, h3] at e; cases e)⟩
    · intro k
      have k' : t.Same s s0 := k
      exact ⟨fun e => (by rw [h4] at e; cases e), fun x hx => (look x hx).2 (k'.look x hx), fun b o n e => (by rw [h3] at e; cases e), fun b o cs e => (by rw [h1] at e; cases e), fun b cs e => (by rw [h2] at e; cases e), by rw [lenE]; exact k'.lenS, fun e => (by rw [h1, h2, h3] at e; cases e)⟩
  | .mem d g L ks bs rs, .tr u _, s0, _, h, s => by
    simp only [Tx.away, Bool.and_eq_true, Option.isNone_iff_eq_none] at h
    obtain ⟨⟨h1, h2⟩, h3⟩ := h
    have look : ∀ x ∈ L, (u.app s).slots.getD x .junk = s.slots.getD x .junk := fun x hx => by
      refine setD_out (fun e => ?_)
      rw [e] at h3
      simp only [Bool.and_eq_true, Bool.not_eq_true'] at h3
      have := h3.1
      rw [List.contains_eq_mem] at this
      simp at this
      exact this hx
    have hb : (u.app s).boxes = s.boxes := by unfold Tr.app; rw [h1, h2]
    constructor
    · intro ⟨k1, k2, k3, k4⟩
      exact ⟨fun x hx => (look x hx).symm.trans (k1 x hx), hb.symm.trans k2, k3, (app_lenS u s).symm.trans k4⟩
    · intro ⟨k1, k2, k3, k4⟩
      exact ⟨fun x hx => (look x hx).trans (k1 x hx), hb.trans k2, k3, (app_lenS u s).trans k4⟩
  | .tr _ _, .all _, _, _, h, _ => by simp [Tx.away] at h
  | .mem .., .mem .., _, _, h, _ => by simp [Tx.away] at h
  | .mem .., .all _, _, _, h, _ => by simp [Tx.away] at h
  | .all _, _, _, _, h, _ => by simp [Tx.away] at h
theorem tm_comm {t : Tr} {vs : List G} {d : Option Nat} {g : G} {L ks : List Nat} {bs : List (Option (List G))} {rs : List (Option (List (List G)))} (h1 : Tx.away (.tr t vs) (.mem d g L ks bs rs) = true) (s : St) :
    (Tx.tr t vs).app ((Tx.mem d g L ks bs rs).app s) = (Tx.mem d g L ks bs rs).app ((Tx.tr t vs).app s) := by
  simp only [Tx.away, Tr.slotOnly, Bool.and_eq_true, Bool.or_eq_true, Bool.not_eq_true', Option.isNone_iff_eq_none, List.all_eq_true] at h1
  obtain ⟨⟨⟨⟨⟨h1, h2⟩, h3⟩, h4⟩, h5⟩, h6⟩ := h1
  have him : ∀ k ∈ ks, immune1 k t.g = true := by
    rcases h6 with h6 | ⟨_, h6⟩
    · have : ks = [] := by simpa using h6
      subst this; exact fun k hk => by simp at hk
    · exact h6
  show Tr.app t _ = _
  unfold Tr.app Tx.app
  rw [h1, h2]
  simp only
  congr 1
  unfold Tr.app
  cases ht : t.dst with
  | none => rfl
  | some e =>
    cases d with
    | none =>
      simp only
      exact (killS_set ks s.slots e t.g him).symm
    | some d =>
      simp only [Bool.and_eq_true, bne_iff_ne] at h5
      simp only
      rw [killS_set ks s.slots e t.g him]
      exact List.set_comm _ _ (fun x => h5.2 (by rw [ht, x]))
theorem Tx.apart_comm : ∀ {t u : Tx}, t.apart u = true → ∀ (s : St), t.app (u.app s) = u.app (t.app s)
  | .tr t _, .tr u _, h, s => Tr.apart_comm h s
  | .tr t _, .mem d g L ks bs rs, h, s => by
    simp only [Tx.apart, Bool.and_eq_true] at h
    exact tm_comm h.1 s
  | .mem d g L ks bs rs, .tr u _, h, s => by
    simp only [Tx.apart, Bool.and_eq_true] at h
    exact (tm_comm h.2 s).symm
  | .tr _ _, .all _, h, _ => by simp [Tx.apart, Tx.away] at h
  | .mem .., .mem .., h, _ => by simp [Tx.apart, Tx.away] at h
  | .mem .., .all _, h, _ => by simp [Tx.apart, Tx.away] at h
  | .all _, _, h, _ => by simp [Tx.apart, Tx.away] at h
end Go.Proofs.YtcihkmnolagdlaaDoor.Av
