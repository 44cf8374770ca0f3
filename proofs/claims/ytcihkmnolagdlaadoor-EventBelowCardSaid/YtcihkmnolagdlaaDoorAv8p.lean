/- Calls that are handed own variables and own rows: by place, or lent. No condition. -/
import Derived.Test.YtcihkmnolagdlaaDoorAv8
namespace Go.Proofs.YtcihkmnolagdlaaDoor.Av
open Go Go.RowKit
set_option linter.unusedVariables false
set_option linter.unusedSimpArgs false

universe v
/-! Which own things a value names; other names for them. -/
def refB0 : G → List Nat
  | .ptr b _ => [b]
  | .ptrt b _ _ => [b]
  | _ => []
def refB1 : G → List Nat
  | .agg gs => gs.flatMap refB0
  | g => refB0 g
def refB : G → List Nat
  | .fn _ caps => caps.flatMap refB1
  | .tup gs => gs.flatMap refB1
  | g => refB1 g
def refR0 : G → List Nat
  | .own k _ _ => [k]
  | .eltw k _ _ => [k]
  | .dat k => [k]
  | .ownt k _ _ => [k]
  | .datt k _ => [k]
  | .mp k _ _ => [k]
  | _ => []
def refR1 : G → List Nat
  | .agg gs => gs.flatMap refR0
  | g => refR0 g
def refR : G → List Nat
  | .fn _ caps => caps.flatMap refR1
  | .tup gs => gs.flatMap refR1
  | g => refR1 g
def ren0 (f r : Nat → Option Nat) : G → G
  | .ptr b o => match f b with | some i => .ptr i o | none => .dead
  | .own k o l => match r k with | some i => .own i o l | none => .dead
  | .eltw k i o => match r k with | some j => .eltw j i o | none => .dead
  | .dat k => match r k with | some j => .dat j | none => .dead
  | .ptrt b T n => match f b with | some i => .ptrt i T n | none => .dead
  | .ownt k l T => match r k with | some i => .ownt i l T | none => .dead
  | .datt k T => match r k with | some j => .datt j T | none => .dead
  | .mp k n q => match r k with | some j => .mp j n q | none => .dead
  | .fn g [] => .fn g []
  | .fn .. => .dead
  | .meth .. => .dead
  | g => g
def ren1 (f r : Nat → Option Nat) : G → G
  | .agg gs => .agg (gs.map (ren0 f r))
  | .tup _ => .junk
  | g => ren0 f r g
def ren (f r : Nat → Option Nat) : G → G
  | .fn g caps => .fn g (caps.map (ren1 f r))
  | .tup gs => .tup (gs.map (ren1 f r))
  | g => ren1 f r g

/-- The names f and r lead from C to C'. -/
structure Leads (C C' : Cx) (w w' : World) (f r : Nat → Option Nat) : Prop where
  box : ∀ b i B, f b = some i → C.box b = some B → C'.box i = some B
  row : ∀ k i q, r k = some i → C.row k = some q → C'.row i = some q
  keeps : Keeps C.ex w w'
  ex : ∀ B, B < w.heap.size → ¬ C.ex B → ¬ C'.ex B

theorem closed0_ren0 {g : G} (h : g.closed0 = true) (f r : Nat → Option Nat) : ren0 f r g = g := by cases g <;> simp_all [G.closed0, ren0]
theorem cell_ren0 {g : G} (h : g.cell = true) (f r : Nat → Option Nat) : (ren0 f r g).cell = true := by
  cases g with
  | fn _ caps => cases caps <;> rfl
  | ptr b o => show G.cell (match f b with | some i => _ | none => _) = true; split <;> rfl
  | own k o l => show G.cell (match r k with | some i => _ | none => _) = true; split <;> rfl
  | eltw k i o => show G.cell (match r k with | some i => _ | none => _) = true; split <;> rfl
  | dat k => show G.cell (match r k with | some i => _ | none => _) = true; split <;> rfl
  | ptrt b T n => show G.cell (match f b with | some i => _ | none => _) = true; split <;> rfl
  | ownt k l T => show G.cell (match r k with | some i => _ | none => _) = true; split <;> rfl
  | datt k T => show G.cell (match r k with | some i => _ | none => _) = true; split <;> rfl
  | mp k n q => show G.cell (match r k with | some i => _ | none => _) = true; split <;> rfl
  | _ => first | rfl | (simp [G.cell] at h; done)
theorem Rep.ren0 {C C' : Cx} {w w' : World} {f r : Nat → Option Nat} (hl : Leads C C' w w' f r) {g : G} {v : Value} (h : Rep C w g v) (hc : g.cell = true) : Rep C' w' (ren0 f r g) v := by
  have h1 := h.oneCell hc
  by_cases h0 : g.closed0 = true
  · rw [closed0_ren0 h0]; exact h.keep0 h0 hl.keeps hl.ex
  · cases h with
    | fn g caps vs hlen hr =>
      cases caps with
      | nil => exact .fn g [] vs hlen (fun i g v hg => by simp at hg)
      | cons _ _ => exact .dead _ rfl
    | meth f gs vs hl hr => exact .dead _ rfl
    | nilt => exact .nilt
    | ptrt b T n B vs fz hb ht hn =>
      show Rep _ _ (match f b with | some i => _ | none => _) _
      split
      · rename_i i e
        obtain ⟨vs', fz', h', hs⟩ := hl.keeps.ty _ _ _ _ ht
        exact .ptrt i T n B vs' fz' (hl.box _ _ _ e hb) h' (hs.trans hn)
      · exact .dead _ rfl
    | ownt k len T B n vs fz hr ho ht =>
      show Rep _ _ (match r k with | some i => _ | none => _) _
      split
      · rename_i i e
        obtain ⟨vs', fz', h', hs⟩ := hl.keeps.ty _ _ _ _ ht
        exact .ownt i len T B n vs' fz' (hl.row _ _ _ e hr) ho h'
      · exact .dead _ rfl
    | owntnil k T hr =>
      show Rep _ _ (match r k with | some i => _ | none => _) _
      split
      · rename_i i e; exact .owntnil i T (hl.row _ _ _ e hr)
      · exact .dead _ rfl
    | datt k T B n vs fz hr ht =>
      show Rep _ _ (match r k with | some i => _ | none => _) _
      split
      · rename_i i e
        obtain ⟨vs', fz', h', hs⟩ := hl.keeps.ty _ _ _ _ ht
        exact .datt i T B n vs' fz' (hl.row _ _ _ e hr) h'
      · exact .dead _ rfl
    | dattnil k T hr =>
      show Rep _ _ (match r k with | some i => _ | none => _) _
      split
      · rename_i i e; exact .dattnil i T (hl.row _ _ _ e hr)
      · exact .dead _ rfl
    | mp k kn fl B hr =>
      show Rep _ _ (match r k with | some i => _ | none => _) _
      split
      · rename_i i e; exact .mp i kn fl B (hl.row _ _ _ e hr)
      · exact .dead _ rfl
    | own k off len B s sz n a hr ho ha hn0 =>
      show Rep _ _ (match r k with | some i => _ | none => _) _
      split
      · rename_i i e; exact .own i off len B s sz n a (hl.row _ _ _ e hr) ho ha hn0
      · exact .dead _ rfl
    | ownnil k A hr =>
      show Rep _ _ (match r k with | some i => _ | none => _) _
      split
      · rename_i i e; exact .ownnil i A (hl.row _ _ _ e hr)
      · exact .dead _ rfl
    | ptr b off B hb =>
      show Rep _ _ (match f b with | some i => _ | none => _) _
      split
      · rename_i i e; exact .ptr i off B (hl.box _ _ _ e hb)
      · exact .dead _ rfl
    | elt row off B o q hlt hex hcl hcell h =>
      exact .elt row off B o q (Nat.lt_of_lt_of_le hlt hl.keeps.size) (hl.ex _ hlt hex) hcl (fun j g hg => by rw [hl.keeps.cell (a := ⟨B, o + j, none⟩) hlt hex]; exact hcell j g hg) (fun j g hg => (h j g hg).keep0 (hcl g (List.mem_of_getElem? hg)) hl.keeps hl.ex)
    | eltw k i off B s sz n hr hn0 =>
      show Rep _ _ (match r k with | some i => _ | none => _) _
      split
      · rename_i i e; exact .eltw i _ off B s sz n (hl.row _ _ _ e hr) hn0
      · exact .dead _ rfl
    | dat k B s sz n hn hr =>
      show Rep _ _ (match r k with | some i => _ | none => _) _
      split
      · rename_i i e; exact .dat i B s sz n hn (hl.row _ _ _ e hr)
      · exact .dead _ rfl
    | datnil k p hr =>
      show Rep _ _ (match r k with | some i => _ | none => _) _
      split
      · rename_i i e; exact .datnil i p (hl.row _ _ _ e hr)
      · exact .dead _ rfl
    | dead v h => exact .dead _ h
    | _ => simp_all [G.closed0, G.cell]
theorem Rep.ren1 {C C' : Cx} {w w' : World} {f r : Nat → Option Nat} (hl : Leads C C' w w' f r) {g : G} {v : Value} (h : Rep C w g v) : Rep C' w' (ren1 f r g) v := by
  by_cases hcc : g.cell = true
  · have e : Av.ren1 f r g = Av.ren0 f r g := by cases g <;> first | rfl | (simp [G.cell] at hcc; done)
    rw [e]; exact h.ren0 hl hcc
  · cases h with
    | agg gs vs hlen hc hv h =>
      refine .agg _ vs (by simp [hlen]) (fun g hg => ?_) hv (fun i g v hg hv' => ?_)
      · obtain ⟨x, hx, rfl⟩ := List.mem_map.1 hg; exact cell_ren0 (hc x hx) f r
      · rw [List.getElem?_map] at hg
        obtain ⟨x, hx, rfl⟩ := Option.map_eq_some_iff.1 hg
        exact (h i x v hx hv').ren0 hl (hc x (List.mem_of_getElem? hx))
    | tup => exact .junk _
    | junk => exact .junk _
    | und => exact .und
    | _ => simp_all [G.cell]
theorem Rep.ren {C C' : Cx} {w w' : World} {f r : Nat → Option Nat} (hl : Leads C C' w w' f r) {g : G} {v : Value} (h : Rep C w g v) : Rep C' w' (ren f r g) v := by
  by_cases hf : ∃ f caps, g = .fn f caps
  · obtain ⟨q, caps, rfl⟩ := hf
    cases h with
    | fn _ _ vs hlen h =>
      refine .fn q _ vs (by simp [hlen]) (fun i g v hg hv => ?_)
      rw [List.getElem?_map] at hg
      obtain ⟨x, hx, rfl⟩ := Option.map_eq_some_iff.1 hg
      exact (h i x v hx hv).ren1 hl
  · by_cases ht : ∃ gs, g = .tup gs
    · obtain ⟨gs, rfl⟩ := ht
      cases h with
      | tup _ vs hlen h =>
        refine .tup _ vs (by simp [hlen]) (fun i g v hg hv => ?_)
        rw [List.getElem?_map] at hg
        obtain ⟨x, hx, rfl⟩ := Option.map_eq_some_iff.1 hg
        exact (h i x v hx hv).ren1 hl
    · have e : Av.ren f r g = Av.ren1 f r g := by cases g <;> first | rfl | exact absurd ⟨_, _, rfl⟩ hf | exact absurd ⟨_, rfl⟩ ht
      rw [e]; exact h.ren1 hl

/-! Lists of names. -/
def pos (l : List Nat) (b : Nat) : Option Nat := go l 0
where
  go : List Nat → Nat → Option Nat
  | [], _ => none
  | x :: xs, i => bif Nat.beq x b then some i else go xs (i + 1)
theorem pos_go {b : Nat} : ∀ (l : List Nat) (i j : Nat), pos.go b l i = some j → ∃ n, j = i + n ∧ l[n]? = some b
  | [], i, j, h => by simp [pos.go] at h
  | x :: xs, i, j, h => by
    unfold pos.go at h
    cases hb : Nat.beq x b with
    | true => rw [hb] at h; simp at h; subst h; exact ⟨0, rfl, by simp [Nat.eq_of_beq_eq_true hb]⟩
    | false =>
      rw [hb] at h
      obtain ⟨n, rfl, hn⟩ := pos_go xs (i + 1) j h
      exact ⟨n + 1, by omega, by simpa using hn⟩
theorem pos_some {l : List Nat} {b j : Nat} (h : pos l b = some j) : l[j]? = some b := by
  obtain ⟨n, rfl, hn⟩ := pos_go l 0 j h
  simpa using hn
theorem pos_go_none {b : Nat} : ∀ (l : List Nat) (i : Nat), pos.go b l i = none → b ∉ l
  | [], i, h => by simp
  | x :: xs, i, h => by
    unfold pos.go at h
    cases hb : Nat.beq x b with
    | true => rw [hb] at h; simp at h
    | false =>
      rw [hb] at h
      have := pos_go_none xs (i + 1) h
      have := Nat.ne_of_beq_eq_false hb
      simp; exact ⟨fun e => this e.symm, by assumption⟩
theorem pos_none {l : List Nat} {b : Nat} (h : pos l b = none) : b ∉ l := pos_go_none l 0 h
theorem pos_at {l : List Nat} (hn : l.Nodup) {b j : Nat} (h : l[j]? = some b) : pos l b = some j := by
  cases hp : pos l b with
  | none => exact absurd (List.mem_of_getElem? h) (pos_none hp)
  | some i =>
    have hi := pos_some hp
    have h1 := (List.getElem?_eq_some_iff.1 hi)
    have h2 := (List.getElem?_eq_some_iff.1 h)
    rw [(List.getElem?_inj h1.1 hn).1 (hi.trans h.symm)]
def distinct : List Nat → Bool
  | [] => true
  | x :: xs => !(xs.any (Nat.beq x)) && distinct xs
theorem distinct_nodup : ∀ {l : List Nat}, distinct l = true → l.Nodup
  | [], _ => List.nodup_nil
  | x :: xs, h => by
    simp only [distinct, Bool.and_eq_true, Bool.not_eq_true', List.any_eq_false] at h
    refine List.nodup_cons.2 ⟨fun hm => ?_, distinct_nodup h.2⟩
    have := h.1 x hm
    simp at this
/-- (Lists worked out ahead.) -/
noncomputable def fI {β : Sort v} (l : List Nat) : (List Nat → β) → β := List.rec (motive := fun _ => (List Nat → β) → β) (fun k => k []) (fun n _ ih k => fN n fun n => ih fun ns => k (n :: ns)) l
theorem fI_eq {β : Sort v} : ∀ (l : List Nat) (k : List Nat → β), fI l k = k l
  | [], k => rfl
  | n :: ns, k => by show fN n (fun n => fI ns fun ns => k (n :: ns)) = _; rw [fN_eq, fI_eq ns]
noncomputable def addNew (l : List Nat) (bs : List Nat) : List Nat := List.rec (motive := fun _ => List Nat → List Nat) (fun l => l) (fun b _ ih l => fI (bif l.any (Nat.beq b) then l else l ++ [b]) fun l' => ih l') bs l
theorem addNew_nil (l : List Nat) : addNew l [] = l := rfl
theorem addNew_cons (l : List Nat) (b : Nat) (bs : List Nat) : addNew l (b :: bs) = addNew (bif l.any (Nat.beq b) then l else l ++ [b]) bs := by
  show fI _ (fun l' => addNew l' bs) = _
  rw [fI_eq]
/-- A list's element, by recursors. -/
noncomputable def gD {α : Type} (d : α) (l : List α) : Nat → α := List.rec (motive := fun _ => Nat → α) (fun _ => d) (fun x _ ih n => Nat.rec (motive := fun _ => α) x (fun m _ => ih m) n) l
theorem gD_eq {α : Type} (d : α) : ∀ (l : List α) (n : Nat), gD d l n = l.getD n d
  | [], n => by show d = _; simp
  | x :: xs, 0 => by show x = _; simp
  | x :: xs, n + 1 => by show gD d xs n = _; rw [gD_eq d xs n]; simp
def setMany {α : Type} : List α → List (Nat × α) → List α
  | l, [] => l
  | l, (i, x) :: r => setMany (l.set i x) r
theorem setMany_length {α : Type} : ∀ (ps : List (Nat × α)) (l : List α), (setMany l ps).length = l.length
  | [], l => rfl
  | (i, x) :: r, l => by rw [setMany, setMany_length r]; simp
theorem setMany_out {α : Type} : ∀ (ps : List (Nat × α)) (l : List α) (j : Nat), (∀ p ∈ ps, p.1 ≠ j) → (setMany l ps)[j]? = l[j]?
  | [], l, j, h => rfl
  | (i, x) :: r, l, j, h => by
    rw [setMany, setMany_out r _ j (fun p hp => h p (by simp [hp])), List.getElem?_set_ne (h (i, x) (by simp))]
theorem setMany_in {α : Type} : ∀ (ids : List Nat) (xs : List α) (l : List α) (n j : Nat) (x : α), ids.Nodup → ids[n]? = some j → xs[n]? = some x → j < l.length → (setMany l (ids.zip xs))[j]? = some x
  | [], xs, l, n, j, x, hn, h1, h2, hl => by simp at h1
  | i :: ids, [], l, n, j, x, hn, h1, h2, hl => by simp at h2
  | i :: ids, y :: xs, l, n, j, x, hn, h1, h2, hl => by
    rw [List.zip_cons_cons, setMany]
    cases n with
    | zero =>
      simp at h1 h2; subst h1; subst h2
      rw [setMany_out _ _ _ (fun p hp e => (List.nodup_cons.1 hn).1 (by
        have := (List.of_mem_zip (a := p.1) (b := p.2) hp).1; rw [← e]; exact this)), List.getElem?_set_self hl]
    | succ n => exact setMany_in ids xs _ n j x (List.nodup_cons.1 hn).2 (by simpa using h1) (by simpa using h2) (by simpa using hl)

/-! The rule of a call that is handed places. -/
noncomputable def cellsB (st : St) (b : Nat) : List G := Option.rec (motive := fun _ => List G) [] (fun cs => cs) (gD none st.boxes b)
theorem cellsB_eq (st : St) (b : Nat) : cellsB st b = (st.boxes.getD b none).getD [] := by unfold cellsB; rw [gD_eq]; cases st.boxes.getD b none <;> rfl
noncomputable def seenB (st : St) (gs : List G) : List Nat :=
  fI (addNew [] (gs.flatMap refB)) fun b0 => fI (addNew b0 (b0.flatMap fun b => (cellsB st b).flatMap refB0)) fun b1 => addNew b1 (b1.flatMap fun b => (cellsB st b).flatMap refB0)
noncomputable def seenR (st : St) (gs : List G) (bs : List Nat) : List Nat := addNew [] (gs.flatMap refR ++ bs.flatMap fun b => (cellsB st b).flatMap refR0)
/-- The names that a call's new things get: the first that of the operation, the others spare ones. -/
def newIds (d N : Nat) : Nat → List Nat
  | 0 => []
  | n + 1 => d :: (List.range n).map (N + ·)
/-- A call's contract by places: what it answers, and what the variables and rows hold behind it. -/
def Fp (P : Program) (f : FuncId) (args : List G) (bs : List (List G)) (rs : List (List (List G))) (q : G × List (Option (List G)) × List (Option (List (List G)))) : Prop :=
  Fun P f args bs rs fun g bs' rs' => g = q.1 ∧ bs' = q.2.1 ∧ rs' = q.2.2
def idsOf (B : List Nat) (d N n : Nat) : List Nat := B ++ newIds d N (n - B.length)
def backOk (ids rids B R : List Nat) (st : St) (q : G × List (Option (List G)) × List (Option (List (List G)))) : Bool :=
  distinct ids && distinct rids && ids.all (fun b => Nat.blt b st.boxes.length) && rids.all (fun b => Nat.blt b st.rows.length) && Nat.beq ids.length q.2.1.length && Nat.beq rids.length q.2.2.length &&
      (ids.drop B.length).all (fun b => (st.boxes.getD b none).isNone) && (rids.drop R.length).all (fun b => (st.rows.getD b none).isNone)
def backSt (ids rids R : List Nat) (st : St) (q : G × List (Option (List G)) × List (Option (List (List G)))) : St :=
  let st1 := R.foldl (fun s k => s.killR k) st
  ⟨st1.slots, setMany st1.boxes (ids.zip (q.2.1.map fun o => o.map fun cs => cs.map (ren0 (fun i => ids[i]?) (fun i => rids[i]?)))), setMany st1.rows (rids.zip q.2.2)⟩
def backP (d : Nat) (B R : List Nat) (st : St) (q : G × List (Option (List G)) × List (Option (List (List G)))) (k : G → St → Prop) : Prop :=
  bif backOk (idsOf B d st.slots.length q.2.1.length) (idsOf R d st.slots.length q.2.2.length) B R st q then
    (backSt (idsOf B d st.slots.length q.2.1.length) (idsOf R d st.slots.length q.2.2.length) R st q).force fun st' => k (ren (fun i => (idsOf B d st.slots.length q.2.1.length)[i]?) (fun i => (idsOf R d st.slots.length q.2.2.length)[i]?) q.1) st'
  else False
noncomputable def fBs {β : Sort v} (l : List (List G)) : (List (List G) → β) → β := List.rec (motive := fun _ => (List (List G) → β) → β) (fun k => k []) (fun o _ ih k => fL o fun o' => ih fun os' => k (o' :: os')) l
theorem fBs_eq {β : Sort v} : ∀ (os : List (List G)) (k : List (List G) → β), fBs os k = k os
  | [], k => rfl
  | o :: os, k => by show fL o (fun o' => fBs os fun os' => k (o' :: os')) = _; rw [fL_eq, fBs_eq os]
def fRs {β : Sort v} : List (List (List G)) → (List (List (List G)) → β) → β
  | [], k => k []
  | o :: os, k => fRs os fun os' => k (o :: os')
theorem fRs_eq {β : Sort v} : ∀ (os : List (List (List G))) (k : List (List (List G)) → β), fRs os k = k os
  | [], k => rfl
  | o :: os, k => by rw [fRs, fRs_eq os]
def placeP (P : Program) (d : Nat) (f : FuncId) (gs : List G) (st : St) (k : G → St → Prop) : Prop :=
  fI (seenB st gs) fun B => fI (seenR st gs B) fun R =>
  bif B.all (fun b => (st.boxes.getD b none).isSome) && R.all (fun k => (st.rows.getD k none).isSome) && distinct B && distinct R then
    fS (gs.map (ren (pos B) (pos R))) fun args => fBs (B.map fun b => (cellsB st b).map (ren0 (pos B) (pos R))) fun bs => fRs (R.map fun k => (st.rows.getD k none).getD []) fun rs =>
      ∃ q, Fp P f args bs rs q ∧ backP d B R st q k
  else False
end Go.Proofs.YtcihkmnolagdlaaDoor.Av
