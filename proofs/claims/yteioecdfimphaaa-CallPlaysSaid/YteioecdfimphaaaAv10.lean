/- Operations in whatever order their edges allow: where those that no edge binds meet nowhere, all orders come to the same. No condition. -/
import Derived.Test.YteioecdfimphaaaAv8
namespace Go.Proofs.Yteioecdfimphaaa.Av
open Go Go.RowKit
set_option linter.unusedVariables false
set_option linter.unusedSimpArgs false

/-- What an operation does, and where it looks. -/
structure Tr where
  dst : Option Nat
  g : G
  wr : Option (Nat × Nat × List G)
  nb : Option (Nat × List G)
  look : List Nat
  rb : Option (Nat × Nat × Nat)

def Tr.app (t : Tr) (st : St) : St :=
  { slots := match t.dst with | some d => st.slots.set d t.g | none => st.slots
    boxes := match t.nb with
      | some (b, cs) => st.boxes.set b (some cs)
      | none => match t.wr with
        | some (b, off, cs) => st.boxes.modify b (Option.map fun old => blit old off cs)
        | none => st.boxes
    rows := st.rows }

def disj (o n o' n' : Nat) : Bool := Nat.ble (o + n) o' || Nat.ble (o' + n') o
/-- What u writes, t neither looks at nor writes. -/
def Tr.away (t u : Tr) : Bool :=
  (match u.dst with
   | some d => !t.look.contains d && t.dst != some d
   | none => true) &&
  (match u.nb with
   | some (b, _) => (match t.rb with | some (b', _, _) => b' != b | none => true) && (match t.wr with | some (b', _, _) => b' != b | none => true) && (match t.nb with | some (b', _) => b' != b | none => true)
   | none => match u.wr with
     | some (b, o, cs) => (match t.rb with | some (b', o', n') => b' != b || disj o cs.length o' n' | none => true) && (match t.wr with | some (b', o', cs') => b' != b || disj o cs.length o' cs'.length | none => true) &&
         (match t.nb with | some (b', _) => b' != b | none => true)
     | none => true)
def Tr.apart (t u : Tr) : Bool := t.away u && u.away t

/-- The cells that t reads, the variable that it writes to. -/
def rng (st : St) (b o n : Nat) : Option (List G × Nat) := (st.boxes.getD b none).map fun cs => ((cs.drop o).take n, cs.length)
structure Tr.Same (t : Tr) (s s' : St) : Prop where
  rows : s.rows = s'.rows
  look : ∀ d ∈ t.look, s.slots.getD d .junk = s'.slots.getD d .junk
  rb : ∀ b o n, t.rb = some (b, o, n) → rng s b o n = rng s' b o n
  wr : ∀ b o cs, t.wr = some (b, o, cs) → (s.boxes.getD b none).map List.length = (s'.boxes.getD b none).map List.length
  nb : ∀ b cs, t.nb = some (b, cs) → (s.boxes.getD b none).isNone = (s'.boxes.getD b none).isNone
  lenS : s.slots.length = s'.slots.length
  lenB : s.boxes.length = s'.boxes.length

theorem Tr.Same.refl (t : Tr) (s : St) : t.Same s s := ⟨rfl, fun _ _ => rfl, fun _ _ _ _ => rfl, fun _ _ _ _ => rfl, fun _ _ _ => rfl, rfl, rfl⟩
theorem Tr.Same.trans {t : Tr} {a b c : St} (h : t.Same a b) (k : t.Same b c) : t.Same a c :=
  ⟨h.rows.trans k.rows, fun d hd => (h.look d hd).trans (k.look d hd), fun b o n e => (h.rb b o n e).trans (k.rb b o n e), fun b o cs e => (h.wr b o cs e).trans (k.wr b o cs e), fun b cs e => (h.nb b cs e).trans (k.nb b cs e), h.lenS.trans k.lenS, h.lenB.trans k.lenB⟩
theorem Tr.Same.symm {t : Tr} {a b : St} (h : t.Same a b) : t.Same b a :=
  ⟨h.rows.symm, fun d hd => (h.look d hd).symm, fun b o n e => (h.rb b o n e).symm, fun b o cs e => (h.wr b o cs e).symm, fun b cs e => (h.nb b cs e).symm, h.lenS.symm, h.lenB.symm⟩

theorem getD_set {α : Type} (xs : List α) (i j : Nat) (x d : α) : (xs.set i x).getD j d = if i = j ∧ i < xs.length then x else xs.getD j d := by
  rw [List.getD_eq_getElem?_getD, List.getD_eq_getElem?_getD, List.getElem?_set]
  by_cases h : i = j
  · subst h
    by_cases h2 : i < xs.length
    · simp [h2]
    · simp [h2]
  · simp [h]
theorem getD_modify {α : Type} (xs : List (Option α)) (i j : Nat) (f : Option α → Option α) (hf : f none = none) : (xs.modify i f).getD j none = if i = j then f (xs.getD j none) else xs.getD j none := by
  rw [List.getD_eq_getElem?_getD, List.getD_eq_getElem?_getD, List.getElem?_modify]
  by_cases h : i = j
  · subst h
    simp only [if_true]
    cases hx : xs[i]? <;> simp [hf]
  · simp only [h, if_false]
    cases xs[j]? <;> simp

theorem app_boxD (u : Tr) (st : St) (b : Nat) : ((u.app st).boxes.getD b none) = (match u.nb with
    | some (b', cs) => if b' = b ∧ b' < st.boxes.length then some cs else st.boxes.getD b none
    | none => match u.wr with
      | some (b', off, cs) => if b' = b then (st.boxes.getD b none).map (fun old => blit old off cs) else st.boxes.getD b none
      | none => st.boxes.getD b none) := by
  unfold Tr.app
  cases u.nb with
  | some p => obtain ⟨b', cs⟩ := p; exact getD_set _ _ _ _ _
  | none =>
    cases u.wr with
    | some p => obtain ⟨b', off, cs⟩ := p; exact getD_modify _ _ _ _ rfl
    | none => rfl
theorem app_slotD (u : Tr) (st : St) (d : Nat) : (u.app st).slots.getD d .junk = (match u.dst with | some e => if e = d ∧ e < st.slots.length then u.g else st.slots.getD d .junk | none => st.slots.getD d .junk) := by
  unfold Tr.app
  cases u.dst with
  | some e => exact getD_set _ _ _ _ _
  | none => rfl
theorem app_lenS (u : Tr) (st : St) : (u.app st).slots.length = st.slots.length := by unfold Tr.app; cases u.dst <;> simp
theorem app_lenB (u : Tr) (st : St) : (u.app st).boxes.length = st.boxes.length := by
  unfold Tr.app
  cases u.nb with
  | some p => obtain ⟨b', cs⟩ := p; simp
  | none => cases u.wr with
    | some p => obtain ⟨b', off, cs⟩ := p; simp
    | none => rfl

theorem blit_part {α : Type} (us xs : List α) (p o n : Nat) (h : disj p us.length o n = true) : ((blit xs p us).drop o).take n = (xs.drop o).take n := by
  induction us generalizing xs p with
  | nil => rw [blit_nil]
  | cons u us ih =>
    rw [blit_cons]
    simp only [disj, Bool.or_eq_true, List.length_cons] at h
    have key : ((xs.set p u).drop o).take n = (xs.drop o).take n := by
      apply List.ext_getElem?
      intro i
      rw [List.getElem?_take, List.getElem?_take]
      split
      · rw [List.getElem?_drop, List.getElem?_drop, List.getElem?_set_ne]
        rcases h with h | h <;> have h := Nat.le_of_ble_eq_true h <;> omega
      · rfl
    rw [ih, key]
    simp only [disj, Bool.or_eq_true]
    rcases h with h | h
    · have h := Nat.le_of_ble_eq_true h
      exact .inl (Nat.ble_eq_true_of_le (by omega))
    · have h := Nat.le_of_ble_eq_true h
      exact .inr (Nat.ble_eq_true_of_le (by omega))
theorem blit_like {α : Type} (us xs ys : List α) (p o n : Nat) (h : (xs.drop o).take n = (ys.drop o).take n) (hl : xs.length = ys.length) : ((blit xs p us).drop o).take n = ((blit ys p us).drop o).take n := by
  induction us generalizing xs ys p with
  | nil => rw [blit_nil, blit_nil]; exact h
  | cons u us ih =>
    rw [blit_cons, blit_cons]
    refine ih _ _ _ ?_ (by simp [hl])
    apply List.ext_getElem?
    intro i
    have hi := congrArg (fun l => l[i]?) h
    simp only [List.getElem?_take, List.getElem?_drop] at hi ⊢
    split
    · rename_i hlt
      rw [if_pos hlt, if_pos hlt] at hi
      rw [List.getElem?_set, List.getElem?_set, hl, hi]
    · rfl
/-- What u did, it does in like states alike. -/
theorem Tr.Same.app {t : Tr} {s s' : St} (h : t.Same s s') (u : Tr) : t.Same (u.app s) (u.app s') := by
  have bx : ∀ b, (match u.nb with | some (b', cs) => (b' = b) | none => match u.wr with | some (b', off, cs) => b' = b | none => False) ∨ ((u.app s).boxes.getD b none = s.boxes.getD b none ∧ (u.app s').boxes.getD b none = s'.boxes.getD b none) := fun b => by
    rw [app_boxD, app_boxD]
    cases hn : u.nb with
    | some p =>
      obtain ⟨b', cs⟩ := p
      by_cases e : b' = b
      · exact .inl e
      · exact .inr (by simp [e])
    | none =>
      cases hw : u.wr with
      | some p =>
        obtain ⟨b', off, cs⟩ := p
        by_cases e : b' = b
        · exact .inl e
        · exact .inr (by simp [e])
      | none => exact .inr ⟨rfl, rfl⟩
  refine ⟨h.rows, fun d hd => ?_, fun b o n e => ?_, fun b o cs e => ?_, fun b cs e => ?_, by rw [app_lenS, app_lenS, h.lenS], by rw [app_lenB, app_lenB, h.lenB]⟩
  · rw [app_slotD, app_slotD]
    cases u.dst with
    | some e => simp only [h.lenS, h.look d hd]
    | none => exact h.look d hd
  · have hb := h.rb b o n e
    unfold rng at hb ⊢
    rw [app_boxD, app_boxD]
    cases hn : u.nb with
    | some p =>
      obtain ⟨b', cs⟩ := p
      simp only [h.lenB]
      split
      · rfl
      · exact hb
    | none =>
      cases hw : u.wr with
      | some p =>
        obtain ⟨b', off, cs⟩ := p
        simp only
        split
        · cases h1 : s.boxes.getD b none <;> cases h2 : s'.boxes.getD b none <;> rw [h1, h2] at hb <;> simp at hb
          rename_i x y
          simp only [Option.map_some]
          obtain ⟨hb1, hb2⟩ := hb
          rw [blit_length, blit_length, hb2, blit_like cs x y off o n hb1 hb2]
        · exact hb
      | none => exact hb
  · have hb := h.wr b o cs e
    rw [app_boxD, app_boxD]
    cases hn : u.nb with
    | some p =>
      obtain ⟨b', cs⟩ := p
      simp only [h.lenB]
      split
      · rfl
      · exact hb
    | none =>
      cases hw : u.wr with
      | some p =>
        obtain ⟨b', off, cs⟩ := p
        simp only
        split
        · cases h1 : s.boxes.getD b none <;> cases h2 : s'.boxes.getD b none <;> rw [h1, h2] at hb <;> simp at hb
          simp [blit_length, hb]
        · exact hb
      | none => exact hb
  · have hb := h.nb b cs e
    rw [app_boxD, app_boxD]
    cases hn : u.nb with
    | some p =>
      obtain ⟨b', cs⟩ := p
      simp only [h.lenB]
      split
      · rfl
      · exact hb
    | none =>
      cases hw : u.wr with
      | some p =>
        obtain ⟨b', off, cs⟩ := p
        simp only
        split
        · cases h1 : s.boxes.getD b none <;> cases h2 : s'.boxes.getD b none <;> rw [h1, h2] at hb <;> simp_all
        · exact hb
      | none => exact hb

theorem Tr.away_same {t u : Tr} (h : t.away u = true) (s : St) (hnb : ∀ b cs, u.nb = some (b, cs) → True) : t.Same (u.app s) s := by
  simp only [Tr.away, Bool.and_eq_true] at h
  obtain ⟨h1, h2⟩ := h
  refine ⟨rfl, fun d hd => ?_, fun b o n e => ?_, fun b o cs e => ?_, fun b cs e => ?_, app_lenS u s, app_lenB u s⟩
  · rw [app_slotD]
    cases hu : u.dst with
    | none => rfl
    | some x =>
      rw [hu] at h1
      simp only [Bool.and_eq_true, Bool.not_eq_true', bne_iff_ne] at h1
      have : x ≠ d := fun e => by
        subst e
        have := h1.1
        rw [List.contains_eq_mem] at this
        simp at this
        exact this hd
      simp [this]
  · unfold rng
    rw [app_boxD]
    cases hn : u.nb with
    | some p =>
      obtain ⟨b', cs⟩ := p
      rw [hn, e] at h2
      simp only [Bool.and_eq_true, bne_iff_ne] at h2
      have : b' ≠ b := fun e => h2.1.1 e.symm
      simp [this]
    | none =>
      cases hw : u.wr with
      | some p =>
        obtain ⟨b', off, cs⟩ := p
        rw [hn, hw, e] at h2
        simp only [Bool.and_eq_true, Bool.or_eq_true, bne_iff_ne] at h2
        simp only
        split
        · rename_i eb
          subst eb
          cases s.boxes.getD b' none with
          | none => rfl
          | some old =>
            simp only [Option.map_some]
            rw [blit_length, blit_part cs old off o n (h2.1.1.resolve_left (fun h => h rfl))]
        · rfl
      | none => rfl
  · rw [app_boxD]
    cases hn : u.nb with
    | some p =>
      obtain ⟨b', cs'⟩ := p
      rw [hn, e] at h2
      simp only [Bool.and_eq_true, bne_iff_ne] at h2
      have : b' ≠ b := fun e => h2.1.2 e.symm
      simp [this]
    | none =>
      cases hw : u.wr with
      | some p =>
        obtain ⟨b', off, cs'⟩ := p
        simp only
        split
        · cases s.boxes.getD b none <;> simp [blit_length]
        · rfl
      | none => rfl
  · rw [app_boxD]
    cases hn : u.nb with
    | some p =>
      obtain ⟨b', cs'⟩ := p
      rw [hn, e] at h2
      simp only [Bool.and_eq_true, bne_iff_ne] at h2
      have : b' ≠ b := fun e => h2.2 e.symm
      simp [this]
    | none =>
      cases hw : u.wr with
      | some p =>
        obtain ⟨b', off, cs'⟩ := p
        simp only
        split
        · cases s.boxes.getD b none <;> simp
        · rfl
      | none => rfl

theorem blit_set {α : Type} (us xs : List α) (p i : Nat) (x : α) (h : i < p ∨ p + us.length ≤ i) : blit (xs.set i x) p us = (blit xs p us).set i x := by
  induction us generalizing xs p with
  | nil => rw [blit_nil, blit_nil]
  | cons u us ih =>
    simp only [List.length_cons] at h
    rw [blit_cons, blit_cons]
    rw [List.set_comm _ _ (show i ≠ p by omega), ih _ _ (by omega)]
theorem blit_comm {α : Type} (us vs xs : List α) (p q : Nat) (h : disj p us.length q vs.length = true) : blit (blit xs p us) q vs = blit (blit xs q vs) p us := by
  induction us generalizing xs p with
  | nil => rw [blit_nil, blit_nil]
  | cons u us ih =>
    simp only [disj, Bool.or_eq_true, List.length_cons] at h
    have h' : (p + us.length + 1 ≤ q) ∨ (q + vs.length ≤ p) := by
      rcases h with h | h <;> have h := Nat.le_of_ble_eq_true h <;> omega
    rw [blit_cons, blit_cons]
    rw [ih (xs.set p u) (p + 1) (by
      simp only [disj, Bool.or_eq_true]
      rcases h' with h' | h'
      · exact .inl (Nat.ble_eq_true_of_le (by omega))
      · exact .inr (Nat.ble_eq_true_of_le (by omega))), blit_set vs xs q p u (by omega)]
/-- What meet nowhere may change places. -/
theorem Tr.apart_comm {t u : Tr} (h : t.apart u = true) (s : St) : t.app (u.app s) = u.app (t.app s) := by
  simp only [Tr.apart, Tr.away, Bool.and_eq_true] at h
  obtain ⟨⟨h1, h2⟩, ⟨h3, h4⟩⟩ := h
  have es : (t.app (u.app s)).slots = (u.app (t.app s)).slots := by
    unfold Tr.app
    cases ht : t.dst with
    | none => cases u.dst <;> rfl
    | some a =>
      cases hu : u.dst with
      | none => rfl
      | some b =>
        rw [hu, ht] at h1
        simp only [Bool.and_eq_true, bne_iff_ne] at h1
        exact List.set_comm _ _ (fun e => h1.2 (by rw [e]))
  have eb : (t.app (u.app s)).boxes = (u.app (t.app s)).boxes := by
    have modset : ∀ (xs : List (Option (List G))) (b b' off : Nat) (cs us : List G), b' ≠ b → (xs.set b (some cs)).modify b' (Option.map fun old => blit old off us) = (xs.modify b' (Option.map fun old => blit old off us)).set b (some cs) := fun xs b b' off cs us hne => by
      apply List.ext_getElem?
      intro i
      simp only [List.getElem?_modify, List.getElem?_set, List.length_modify]
      by_cases e1 : b' = i <;> by_cases e2 : b = i
      · omega
      · simp [e1, e2]
      · simp [e1, e2]
      · simp [e1, e2]
    unfold Tr.app
    cases htn : t.nb with
    | some p =>
      obtain ⟨b, cs⟩ := p
      cases hun : u.nb with
      | some q =>
        obtain ⟨b', cs'⟩ := q
        rw [hun, htn] at h2
        simp only [Bool.and_eq_true, bne_iff_ne] at h2
        exact List.set_comm _ _ (fun e => h2.2 e.symm)
      | none =>
        cases huw : u.wr with
        | none => rfl
        | some q =>
          obtain ⟨b', off, cs'⟩ := q
          rw [hun, huw, htn] at h2
          simp only [Bool.and_eq_true, bne_iff_ne] at h2
          exact (modset s.boxes b b' off cs cs' (fun e => h2.2 e.symm)).symm
    | none =>
      cases htw : t.wr with
      | none => cases hun : u.nb with
        | some q => rfl
        | none => cases u.wr <;> rfl
      | some p =>
        obtain ⟨b, off, cs⟩ := p
        cases hun : u.nb with
        | some q =>
          obtain ⟨b', cs'⟩ := q
          rw [hun, htw, htn] at h2
          simp only [Bool.and_eq_true, bne_iff_ne] at h2
          exact modset s.boxes b' b off cs' cs h2.1.2
        | none =>
          cases huw : u.wr with
          | none => rfl
          | some q =>
            obtain ⟨b', off', cs'⟩ := q
            rw [hun, huw, htn, htw] at h2
            simp only [Bool.and_eq_true, Bool.or_eq_true, bne_iff_ne] at h2
            apply List.ext_getElem?
            intro i
            simp only [List.getElem?_modify]
            by_cases e1 : b = i <;> by_cases e2 : b' = i
            · subst e1; subst e2
              simp only [if_true]
              cases s.boxes[b']? with
              | none => rfl
              | some o =>
                cases o with
                | none => rfl
                | some old =>
                  simp only [Option.map_some, Functor.map]
                  rw [blit_comm cs cs' old off off']
                  have hd := h2.1.2.resolve_left (fun h => h rfl)
                  simp only [disj, Bool.or_eq_true] at hd ⊢
                  exact hd.symm
            · simp [e1, e2]
            · simp [e1, e2]
            · simp [e1, e2]
  have er : (t.app (u.app s)).rows = (u.app (t.app s)).rows := rfl
  cases h5 : t.app (u.app s)
  cases h6 : u.app (t.app s)
  rw [h5, h6] at es eb er
  simp only at es eb er
  subst es; subst eb; subst er; rfl
end Go.Proofs.Yteioecdfimphaaa.Av
